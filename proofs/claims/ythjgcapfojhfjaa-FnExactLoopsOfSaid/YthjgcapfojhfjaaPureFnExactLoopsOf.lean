import Derived.Test.YthjgcapfojhfjaaS9
import Derived.Test.YthjgcapfojhfjaaQLoopsOf
/- The law FnExactLoopsOf: its one path, and that it is the one. -/
namespace Go.Proofs.Ythjgcapfojhfjaa.Pure
open Go.RowKit Go.Proofs.Ythjgcapfojhfjaa.P Go.Proofs.YthjgcapfojhfjaaW.PrintWords
theorem FnExactLoopsOf (a0 : Int) (l1 : List (List Int)) (_w0 : (Lit.int .i64 a0).wf = true) (hg : l1.length ≤ maxLen ∧ ∀ l ∈ l1, l.length ≤ maxLen ∧ ∀ n ∈ l, (Lit.int .i64 n).wf = true) : ∃ k, laws_FnExactLoopsOf.ans k a0 l1 ∧ true = true := by
  obtain ⟨t, ht, hp⟩ := szIntSS_ev l1 hg.1 (fun c hc => (hg.2 c hc).1)
  rcases hp with hp | ⟨hp, hs⟩
  · obtain ⟨k, hk⟩ := ht.rounds
    exact ⟨k, .inl ⟨t, hk, hp⟩, rfl⟩
  · have hl : l1.length ≤ 1048576 := by omega
    have hx : ∀ c ∈ l1, c.length ≤ 1048576 := fun c hc => by have := sumLen_le l1 c hc; omega
    obtain ⟨r, ok, h1, h2, h3, hsr⟩ := LoopsOf_ev a0 l1 hl hx
    obtain ⟨m, r2, h4, h5, hm⟩ := heldSS_ev r (by omega) (by omega)
    obtain ⟨k1, l2, h6, h7⟩ := markSS_ev l1 (by omega)
    obtain ⟨K1, e1⟩ := evAnd ht (toIntSS_ev l1 hl hx)
    obtain ⟨K2, e2⟩ := evAnd h1 h2
    obtain ⟨K3, e3⟩ := evAnd (eqIntSS_refl r (by omega) (fun c hc => by have := sumLen_le r c hc; omega)) (eqIntSS_refl l1 hl hx)
    obtain ⟨K4, e4⟩ := evAnd h4 h5
    obtain ⟨K5, e5⟩ := h6
    have b1 := e1 (K1 + K2 + K3 + K4 + K5) (by omega)
    have b2 := e2 (K1 + K2 + K3 + K4 + K5) (by omega)
    have b3 := e3 (K1 + K2 + K3 + K4 + K5) (by omega)
    have b4 := e4 (K1 + K2 + K3 + K4 + K5) (by omega)
    have b5 := e5 (K1 + K2 + K3 + K4 + K5) (by omega)
    exact ⟨K1 + K2 + K3 + K4 + K5, .inr ⟨t, r, ok, k1, l2, _, r2, b1.1, hp, b1.2, b2.2, b2.1, b3.1, b3.2, b5, h7, b4.1, b4.2, hm⟩, rfl⟩
end Go.Proofs.Ythjgcapfojhfjaa.Pure
