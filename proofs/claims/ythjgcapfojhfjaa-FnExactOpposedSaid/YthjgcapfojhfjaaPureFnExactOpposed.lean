import Derived.Test.YthjgcapfojhfjaaS5
import Derived.Test.YthjgcapfojhfjaaP5
/- The pure statement of FnExactOpposed: with rounds enough the printed law answers true. -/
namespace Go.Proofs.Ythjgcapfojhfjaa.Pure
open Go.RowKit Go.Proofs.Ythjgcapfojhfjaa.P Go.Proofs.YthjgcapfojhfjaaW.PrintWords
theorem FnExactOpposed (a0 : Int) (l1 : List (List Int)) (_w0 : (Lit.int .i64 a0).wf = true) (hg : l1.length ≤ maxLen ∧ ∀ l ∈ l1, l.length ≤ maxLen ∧ ∀ n ∈ l, (Lit.int .i64 n).wf = true) : ∃ k, laws_FnExactOpposed.f k a0 l1 = some true := by
  obtain ⟨t, ht, hp⟩ := szIntSS_ev l1 hg.1 (fun c hc => (hg.2 c hc).1)
  refine Ev.rounds (g := fun k => laws_FnExactOpposed.f k a0 l1) ?_
  refine Ev.bind (f := fun k t251 => if t251 < 0 then some true else (laws_toIntSS.f k l1).bind fun t252 => (spec_Opposed.f k a0 t252).bind fun bt255 => (laws_toIntSS.f k l1).bind fun t257 => (impl_Opposed.f k a0 t257).bind fun bt260 => if bt260.1 = bt255.1 then laws_FnExactOpposed.j0 k l1 t257 (bt260.2 != bt255.2) else laws_FnExactOpposed.j0 k l1 t257 true) ht ?_
  rcases hp with hp | ⟨hp, hs⟩
  · exact Ev.all (fun k => if_pos hp)
  · have hl : l1.length ≤ 1048576 := by omega
    have hx : ∀ c ∈ l1, c.length ≤ 1048576 := fun c hc => by have := sumLen_le l1 c hc; omega
    obtain ⟨o, b, h1, h2⟩ := Opposed_ev a0 l1 hl hx
    have hto := toIntSS_ev l1 hl hx
    refine Ev.congr (fun k => if_neg (by omega)) ?_
    refine Ev.bind (f := fun k t252 => (spec_Opposed.f k a0 t252).bind fun bt255 => (laws_toIntSS.f k l1).bind fun t257 => (impl_Opposed.f k a0 t257).bind fun bt260 => if bt260.1 = bt255.1 then laws_FnExactOpposed.j0 k l1 t257 (bt260.2 != bt255.2) else laws_FnExactOpposed.j0 k l1 t257 true) hto ?_
    refine Ev.bind (f := fun k bt255 => (laws_toIntSS.f k l1).bind fun t257 => (impl_Opposed.f k a0 t257).bind fun bt260 => if bt260.1 = bt255.1 then laws_FnExactOpposed.j0 k l1 t257 (bt260.2 != bt255.2) else laws_FnExactOpposed.j0 k l1 t257 true) h2 ?_
    refine Ev.bind (f := fun k t257 => (impl_Opposed.f k a0 t257).bind fun bt260 => if bt260.1 = o then laws_FnExactOpposed.j0 k l1 t257 (bt260.2 != b) else laws_FnExactOpposed.j0 k l1 t257 true) hto ?_
    refine Ev.bind (f := fun k bt260 => if bt260.1 = o then laws_FnExactOpposed.j0 k l1 l1 (bt260.2 != b) else laws_FnExactOpposed.j0 k l1 l1 true) h1 ?_
    refine Ev.congr (f := fun k => laws_FnExactOpposed.j0 k l1 l1 false) (fun k => by rw [if_pos rfl, bne_self_eq_false]) ?_
    refine Ev.step (f := fun k => (laws_toIntSS.f k l1).bind fun t262 => (laws_eqIntSS.f k l1 t262).bind fun t265 => if t265 = true then some true else some false) (fun k => ?_) ?_
    · simp only [laws_FnExactOpposed.j0]; rw [if_neg (by simp)]
    · refine Ev.bind (f := fun k t262 => (laws_eqIntSS.f k l1 t262).bind fun t265 => if t265 = true then some true else some false) hto ?_
      exact Ev.bind (f := fun _ t265 => if t265 = true then some true else some false) (eqIntSS_refl l1 hl hx) (Ev.all (fun k => if_pos rfl))
end Go.Proofs.Ythjgcapfojhfjaa.Pure
