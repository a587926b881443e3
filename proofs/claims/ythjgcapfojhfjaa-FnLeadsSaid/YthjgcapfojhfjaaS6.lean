import Derived.Test.YthjgcapfojhfjaaS5
import Derived.Test.YthjgcapfojhfjaaP6
import Derived.Test.YthjgcapfojhfjaaP6
import Derived.Test.YthjgcapfojhfjaaP6
import Derived.Test.YthjgcapfojhfjaaP5
import Derived.Test.YthjgcapfojhfjaaP6
import Derived.Test.YthjgcapfojhfjaaP6
namespace Go.Proofs.Ythjgcapfojhfjaa.P
open Go.RowKit Go.Proofs.YthjgcapfojhfjaaW.PrintWords
theorem LeadsTo_ev (vars : Int) (l : List (List Int)) (x : Int) (hl : l.length ≤ 1048576) (hx : ∀ c ∈ l, c.length ≤ 1048576) : ∃ r ok, Ev (fun k => impl_LeadsTo.f k vars l x) (r, ok) ∧ Ev (fun k => spec_LeadsTo.f k vars l x) (r, ok) ∧ r.length ≤ 25 := by
  have hI := isTwo_f vars l
  have hS := specIsTwo_ev vars l hl hx
  cases ht : twoB vars l with
  | false =>
    rw [ht] at hI hS
    refine ⟨[], false, Ev.all (fun k => ?_), Ev.bind (f := fun k t => if t = true then if x = 0 then some (([] : List Int), false) else (spec_l1In.f x (wrap64 (-vars)) vars).bind fun t2 => if t2 = true then (spec_l15Leads.f k l x).bind fun t3 => some (t3, true) else some (([] : List Int), false) else some (([] : List Int), false)) hS (Ev.all (fun k => if_neg (by simp))), by simp⟩
    unfold impl_LeadsTo.f; rw [hI, Option.bind_some, if_neg (by simp)]
  | true =>
    rw [ht] at hI hS
    have h2 := two_of vars l ht
    have hL := litB_f x vars h2.1 h2.2.1
    have hv : wrap64 (-vars) = -vars := by have := h2.1; have := h2.2.1; unfold wrap64; omega
    have enterI : ∀ k, impl_LeadsTo.f k vars l x = if litB x vars = true then (impl_leadsTo.f k l x).bind fun t => some (t, true) else some (([] : List Int), false) := fun k => by
      unfold impl_LeadsTo.f; rw [hI, Option.bind_some, if_pos rfl, hL, Option.bind_some]
    have hSx : ∀ k, (if x = 0 then some (([] : List Int), false) else (spec_l1In.f x (wrap64 (-vars)) vars).bind fun t2 => if t2 = true then (spec_l15Leads.f k l x).bind fun t3 => some (t3, true) else some (([] : List Int), false)) = if litB x vars = true then (spec_l15Leads.f k l x).bind fun t => some (t, true) else some (([] : List Int), false) := fun k => by
      unfold litB
      by_cases h0 : x = 0
      · rw [if_pos h0, if_pos h0, if_neg (by simp)]
      · rw [if_neg h0, if_neg h0, hv, l1In_f, Option.bind_some]
        by_cases h1 : -vars ≤ x
        · rw [decide_eq_true h1, if_pos h1, Bool.true_and]
        · rw [decide_eq_false h1, if_neg h1, Bool.false_and]
    have specE : ∀ q, Ev (fun k => if litB x vars = true then (spec_l15Leads.f k l x).bind fun t => some (t, true) else some (([] : List Int), false)) q → Ev (fun k => spec_LeadsTo.f k vars l x) q := fun q h =>
      Ev.bind (f := fun k t => if t = true then if x = 0 then some (([] : List Int), false) else (spec_l1In.f x (wrap64 (-vars)) vars).bind fun t2 => if t2 = true then (spec_l15Leads.f k l x).bind fun t3 => some (t3, true) else some (([] : List Int), false) else some (([] : List Int), false)) hS (Ev.congr (fun k => (if_pos rfl).trans (hSx k)) h)
    cases hlit : litB x vars with
    | false =>
      refine ⟨[], false, Ev.all (fun k => by rw [enterI, hlit, if_neg (by simp)]), specE _ (Ev.all (fun k => by rw [hlit, if_neg (by simp)])), by simp⟩
    | true =>
      obtain ⟨r, h3, h4, _, h5⟩ := ld_ev h2 ((litB_iff x vars).1 hlit)
      refine ⟨r, true, Ev.congr (fun k => by rw [enterI, hlit, if_pos rfl]) (Ev.bind (f := fun _ t => some (t, true)) h3 (Ev.now _)), specE _ (Ev.congr (fun k => by rw [hlit, if_pos rfl]) (Ev.bind (f := fun _ t => some (t, true)) h4 (Ev.now _))), h5⟩
end Go.Proofs.Ythjgcapfojhfjaa.P
