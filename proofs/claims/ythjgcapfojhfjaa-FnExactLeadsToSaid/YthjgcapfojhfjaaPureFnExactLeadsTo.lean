import Derived.Test.YthjgcapfojhfjaaS6
import Derived.Test.YthjgcapfojhfjaaQLeadsTo
/- The law FnExactLeadsTo: its one path, and that it is the one. -/
namespace Go.Proofs.Ythjgcapfojhfjaa.P
open Go.RowKit Go.Proofs.YthjgcapfojhfjaaW.PrintWords
/-- what every call of the law answers -/
def laws_FnExactLeadsTo.ans (k : Nat) (a0 : Int) (l1 : List (List Int)) (a2 : Int) : Prop :=
  (∃ t, laws_szIntSS.f k l1 1048576 = some t ∧ t < 0) ∨
  ∃ t r ok k1 l2 m r2, laws_szIntSS.f k l1 1048576 = some t ∧ 0 ≤ t ∧ laws_toIntSS.f k l1 = some l1 ∧ spec_LeadsTo.f k a0 l1 a2 = some (r, ok) ∧ impl_LeadsTo.f k a0 l1 a2 = some (r, ok) ∧ laws_eqIntS.f k r r = some true ∧ laws_eqIntSS.f k l1 l1 = some true ∧ laws_markIntSS.f k l1 1 = some (k1, l2) ∧ 0 ≤ k1 ∧ laws_markIntS.f k r 1 = some (m, r2) ∧ laws_heldIntS.f k r2 1 = some m ∧ 0 ≤ m
theorem laws_FnExactLeadsTo.calls (k : Nat) (a0 : Int) (A1 : Option Addr) (c1 : Nat) (l1 : List (List Int)) (a2 : Int) (r : Bool) (w : World) (hr1 : Kd.C (Kd.slice 3 (Kd.int .i64)) w A1 l1.length l1) (hc1 : l1.length ≤ c1) (h : laws_FnExactLeadsTo.ans k a0 l1 a2 ∧ r = true) :
    Calls Try.prog 4 #[.int .i64 a0, .slice A1 l1.length c1, .int .i64 a2] w fun e w' => e = .returned (.bool r) ∧ Below w.heap.size w w' := by
  obtain ⟨h, rfl⟩ := h
  rcases h with ⟨t, h1, h2⟩ | ⟨t, r, ok, k1, l2, m, r2, h1, h2, h3, h4, h5, h6, h7, h8, h9, h10, h11, h12⟩
  · exact laws_FnExactLeadsTo.early k a0 A1 c1 l1 a2 t w hr1 hc1 h1 (decide_eq_true h2)
  · exact laws_FnExactLeadsTo.path k a0 A1 c1 l1 a2 t r ok k1 l2 m r2 w hr1 hc1 h1 (decide_eq_false (by omega)) h3 h4 h5 h6 h7 h8 (decide_eq_false (by omega)) h10 h11 (decide_eq_false (by omega))
end Go.Proofs.Ythjgcapfojhfjaa.P
namespace Go.Proofs.Ythjgcapfojhfjaa.Pure
open Go.RowKit Go.Proofs.Ythjgcapfojhfjaa.P Go.Proofs.YthjgcapfojhfjaaW.PrintWords
theorem FnExactLeadsTo (a0 : Int) (l1 : List (List Int)) (a2 : Int) (_w0 : (Lit.int .i64 a0).wf = true) (hg : l1.length ≤ maxLen ∧ ∀ l ∈ l1, l.length ≤ maxLen ∧ ∀ n ∈ l, (Lit.int .i64 n).wf = true) (_w2 : (Lit.int .i64 a2).wf = true) : ∃ k, laws_FnExactLeadsTo.ans k a0 l1 a2 ∧ true = true := by
  obtain ⟨t, ht, hp⟩ := szIntSS_ev l1 hg.1 (fun c hc => (hg.2 c hc).1)
  rcases hp with hp | ⟨hp, hs⟩
  · obtain ⟨k, hk⟩ := ht.rounds
    exact ⟨k, .inl ⟨t, hk, hp⟩, rfl⟩
  · have hl : l1.length ≤ 1048576 := by omega
    have hx : ∀ c ∈ l1, c.length ≤ 1048576 := fun c hc => by have := sumLen_le l1 c hc; omega
    obtain ⟨r, ok, h1, h2, h3⟩ := LeadsTo_ev a0 l1 a2 hl hx
    obtain ⟨r2, h4, h5, _⟩ := mark_ev r 1 (by omega) (by omega)
    obtain ⟨k1, l2, h6, h7⟩ := markSS_ev l1 (by omega)
    obtain ⟨K1, e1⟩ := evAnd ht (toIntSS_ev l1 hl hx)
    obtain ⟨K2, e2⟩ := evAnd h1 h2
    obtain ⟨K3, e3⟩ := evAnd (eqIntS_ev r r (by omega)) (eqIntSS_refl l1 hl hx)
    obtain ⟨K4, e4⟩ := evAnd h4 h5
    obtain ⟨K5, e5⟩ := h6
    have b1 := e1 (K1 + K2 + K3 + K4 + K5) (by omega)
    have b2 := e2 (K1 + K2 + K3 + K4 + K5) (by omega)
    have b3 := e3 (K1 + K2 + K3 + K4 + K5) (by omega)
    have b4 := e4 (K1 + K2 + K3 + K4 + K5) (by omega)
    have b5 := e5 (K1 + K2 + K3 + K4 + K5) (by omega)
    rw [decide_eq_true rfl] at b3
    exact ⟨K1 + K2 + K3 + K4 + K5, .inr ⟨t, r, ok, k1, l2, _, r2, b1.1, hp, b1.2, b2.2, b2.1, b3.1, b3.2, b5, h7, b4.1, b4.2, by omega⟩, rfl⟩
end Go.Proofs.Ythjgcapfojhfjaa.Pure
