import Derived.Test.YthjgcapfojhfjaaS4
namespace Go.Proofs.Ythjgcapfojhfjaa.P
open Go.RowKit Go.Proofs.YthjgcapfojhfjaaW.PrintWords
/-- both leadsTo, and what they come to -/
theorem ld_ev {vars : Int} {l : List (List Int)} (ht : Two vars l) {x : Int} (hx : Lt vars x) : ∃ r, Ev (fun k => impl_leadsTo.f k l x) r ∧ Ev (fun k => spec_l15Leads.f k l x) r ∧ Is l x r ∧ r.length ≤ 25 := by
  obtain ⟨r, hr, hi⟩ := leads_ev ht hx
  obtain ⟨r', hr', hi'⟩ := specLeads_ev ht hx
  have e := hi.unique hi'
  subst e
  exact ⟨r, hr, hr', hi, nodup_len r (sorted_nodup r hi.1) (fun z hz => by have := reach_lt ht hx ((hi.2 z).1 hz); have := ht.2.1; unfold Lt at *; omega)⟩
/-- does x reach y -/
noncomputable def rch (l : List (List Int)) (x y : Int) : Bool := (Classical.propDecidable (Reach l x y)).decide
theorem rch_contains {l : List (List Int)} {x : Int} {r : List Int} (h : Is l x r) (y : Int) : r.contains y = rch l x y := by
  unfold rch
  rw [Bool.eq_iff_iff, List.contains_iff_mem, h.2 y]
  exact (@decide_eq_true_iff _ (Classical.propDecidable (Reach l x y))).symm
theorem implLeads_ev {vars : Int} {l : List (List Int)} (ht : Two vars l) {x : Int} (hx : Lt vars x) (y : Int) : Ev (fun k => impl_leads.f k l x y) (rch l x y) := by
  obtain ⟨r, h1, _, h3, h4⟩ := ld_ev ht hx
  have hc := contains_ev r y (by omega)
  rw [rch_contains h3] at hc
  exact Ev.bind (f := fun k t => (slices_Contains_int_int.f k t y).bind fun t' => some t') h1 (Ev.bind (f := fun _ t' => some t') hc (Ev.now _))
end Go.Proofs.Ythjgcapfojhfjaa.P
