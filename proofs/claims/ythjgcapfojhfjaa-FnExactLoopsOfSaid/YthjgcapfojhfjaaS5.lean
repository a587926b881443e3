import Derived.Test.YthjgcapfojhfjaaS4
/-
  Opposed: the first variable that is in one component with its negation.
-/
namespace Go.Proofs.Ythjgcapfojhfjaa.P
open Go.RowKit Go.Proofs.YthjgcapfojhfjaaW.PrintWords

/-- both leadsTo, and what they come to -/
theorem ld_ev {vars : Int} {l : List (List Int)} (ht : Two vars l) {x : Int} (hx : Lt vars x) : ∃ r, Ev (fun k => impl_leadsTo.f k l x) r ∧ Ev (fun k => spec_l15Leads.f k l x) r ∧ Is l x r ∧ r.length ≤ 25 := by
  obtain ⟨r, hr, hi⟩ := leads_ev ht hx
  obtain ⟨r', hr', hi'⟩ := specLeads_ev ht hx
  have e := hi.unique hi'
  subst e
  exact ⟨r, hr, hr', hi, nodup_len r (sorted_nodup r hi.1) (fun z hz => by have := reach_lt ht hx ((hi.2 z).1 hz); have := ht.2.1; unfold Lt at *; omega)⟩
/-- does x reach y -/
noncomputable def rch (l : List (List Int)) (x y : Int) : Bool := (Classical.propDecidable (Reach l x y)).decide
theorem rch_contains {l : List (List Int)} {x : Int} {r : List Int} (h : Is l x r) (y : Int) : r.contains y = rch l x y := by
  unfold rch
  rw [Bool.eq_iff_iff, List.contains_iff_mem, h.2 y]
  exact (@decide_eq_true_iff _ (Classical.propDecidable (Reach l x y))).symm
theorem implLeads_ev {vars : Int} {l : List (List Int)} (ht : Two vars l) {x : Int} (hx : Lt vars x) (y : Int) : Ev (fun k => impl_leads.f k l x y) (rch l x y) := by
  obtain ⟨r, h1, _, h3, h4⟩ := ld_ev ht hx
  have hc := contains_ev r y (by omega)
  rw [rch_contains h3] at hc
  exact Ev.bind (f := fun k t => (slices_Contains_int_int.f k t y).bind fun t' => some t') h1 (Ev.bind (f := fun _ t' => some t') hc (Ev.now _))
theorem specHas_ev {vars : Int} {l : List (List Int)} (ht : Two vars l) {x : Int} (hx : Lt vars x) (y : Int) : Ev (fun k => (spec_l15Leads.f k l x).bind fun t => spec_l1Has.f k t y) (rch l x y) := by
  obtain ⟨r, _, h2, h3, h4⟩ := ld_ev ht hx
  have hc := has_ev r y (by omega)
  rw [rch_contains h3] at hc
  exact Ev.bind (f := fun k t => spec_l1Has.f k t y) h2 hc
/-- the first opposed variable, or 0 -/
def Opp (vars : Int) (l : List (List Int)) (o : Int) : Prop :=
  (o = 0 ∧ ∀ v, 1 ≤ v → v ≤ vars → (rch l v (-v) && rch l (-v) v) = false) ∨ (1 ≤ o ∧ o ≤ vars ∧ (rch l o (-o) && rch l (-o) o) = true ∧ ∀ v, 1 ≤ v → v < o → (rch l v (-v) && rch l (-v) v) = false)
theorem opposed_ev {vars : Int} {l : List (List Int)} (ht : Two vars l) : ∃ o, Ev (fun k => impl_opposed.f k vars l) (o, decide (o ≠ 0)) ∧ Ev (fun k => spec_l15Opposed.f k vars l) o ∧ Opp vars l o := by
  have h12 := ht.2.1
  have h0 := ht.1
  have key : ∀ d (v : Int), 1 ≤ v → v ≤ vars + 1 → (vars + 1 - v).toNat = d → (∀ u, 1 ≤ u → u < v → (rch l u (-u) && rch l (-u) u) = false) → ∃ o, Ev (fun k => impl_opposed.l0 k vars l v) (o, decide (o ≠ 0)) ∧ Ev (fun k => spec_l15Opposed.l0 k vars l v) o ∧ Opp vars l o := by
    intro d
    induction d with
    | zero =>
      intro v h1 h2 hd hu
      refine ⟨0, Ev.one (fun k => ?_), Ev.one (fun k => ?_), .inl ⟨rfl, fun u hu1 hu2 => hu u hu1 (by omega)⟩⟩
      · simp only [impl_opposed.l0]; rw [if_neg (by omega)]; rfl
      · simp only [spec_l15Opposed.l0]; rw [if_neg (by omega)]
    | succ d ih =>
      intro v h1 h2 hd hu
      have hv : v ≤ vars := by omega
      have hlv : Lt vars v := ⟨by omega, by omega, hv⟩
      have hln : Lt vars (-v) := ⟨by omega, by omega, by omega⟩
      have hw : wrap64 (-v) = -v := by unfold wrap64; omega
      have hi1 := implLeads_ev ht hlv (-v)
      have hi2 := implLeads_ev ht hln v
      obtain ⟨r1, _, s1, e1, n1⟩ := ld_ev ht hlv
      obtain ⟨r2, _, s2, e2, n2⟩ := ld_ev ht hln
      have c1 := has_ev r1 (-v) (by omega)
      have c2 := has_ev r2 v (by omega)
      rw [rch_contains e1] at c1
      rw [rch_contains e2] at c2
      have hstepI : ∀ k, impl_opposed.l0 (k + 1) vars l v = (impl_leads.f k l v (-v)).bind fun t => if t = true then (impl_leads.f k l (-v) v).bind fun t' => if t' = true then some (v, true) else impl_opposed.l0 k vars l (v + 1) else impl_opposed.l0 k vars l (v + 1) := fun k => by
        simp only [impl_opposed.l0]; rw [if_pos hv, hw, wr_succ (by omega) (by omega)]
      have hstepS : ∀ k, spec_l15Opposed.l0 (k + 1) vars l v = (spec_l15Leads.f k l v).bind fun t => (spec_l1Has.f k t (-v)).bind fun t' => if t' = true then (spec_l15Leads.f k l (-v)).bind fun t2 => (spec_l1Has.f k t2 v).bind fun t3 => if t3 = true then some v else spec_l15Opposed.l0 k vars l (v + 1) else spec_l15Opposed.l0 k vars l (v + 1) := fun k => by
        simp only [spec_l15Opposed.l0]; rw [if_pos hv, hw, wr_succ (by omega) (by omega)]
      cases q1 : rch l v (-v) with
      | false =>
        rw [q1] at hi1 c1
        obtain ⟨o, ho1, ho2, ho3⟩ := ih (v + 1) (by omega) (by omega) (by omega) (fun u hu1 hu2 => by
          by_cases e : u = v
          · subst e; rw [q1]; rfl
          · exact hu u hu1 (by omega))
        refine ⟨o, Ev.step hstepI (Ev.bind (f := fun k t => if t = true then (impl_leads.f k l (-v) v).bind fun t' => if t' = true then some (v, true) else impl_opposed.l0 k vars l (v + 1) else impl_opposed.l0 k vars l (v + 1)) hi1 (Ev.congr (fun k => if_neg (by simp)) ho1)), Ev.step hstepS ?_, ho3⟩
        exact Ev.bind (f := fun k t => (spec_l1Has.f k t (-v)).bind fun t' => if t' = true then (spec_l15Leads.f k l (-v)).bind fun t2 => (spec_l1Has.f k t2 v).bind fun t3 => if t3 = true then some v else spec_l15Opposed.l0 k vars l (v + 1) else spec_l15Opposed.l0 k vars l (v + 1)) s1
          (Ev.bind (f := fun k t' => if t' = true then (spec_l15Leads.f k l (-v)).bind fun t2 => (spec_l1Has.f k t2 v).bind fun t3 => if t3 = true then some v else spec_l15Opposed.l0 k vars l (v + 1) else spec_l15Opposed.l0 k vars l (v + 1)) c1 (Ev.congr (fun k => if_neg (by simp)) ho2))
      | true =>
        rw [q1] at hi1 c1
        cases q2 : rch l (-v) v with
        | false =>
          rw [q2] at hi2 c2
          obtain ⟨o, ho1, ho2, ho3⟩ := ih (v + 1) (by omega) (by omega) (by omega) (fun u hu1 hu2 => by
            by_cases e : u = v
            · subst e; rw [q1, q2]; rfl
            · exact hu u hu1 (by omega))
          refine ⟨o, Ev.step hstepI (Ev.bind (f := fun k t => if t = true then (impl_leads.f k l (-v) v).bind fun t' => if t' = true then some (v, true) else impl_opposed.l0 k vars l (v + 1) else impl_opposed.l0 k vars l (v + 1)) hi1 (Ev.congr (fun k => if_pos rfl) (Ev.bind (f := fun k t' => if t' = true then some (v, true) else impl_opposed.l0 k vars l (v + 1)) hi2 (Ev.congr (fun k => if_neg (by simp)) ho1)))), Ev.step hstepS ?_, ho3⟩
          exact Ev.bind (f := fun k t => (spec_l1Has.f k t (-v)).bind fun t' => if t' = true then (spec_l15Leads.f k l (-v)).bind fun t2 => (spec_l1Has.f k t2 v).bind fun t3 => if t3 = true then some v else spec_l15Opposed.l0 k vars l (v + 1) else spec_l15Opposed.l0 k vars l (v + 1)) s1
            (Ev.bind (f := fun k t' => if t' = true then (spec_l15Leads.f k l (-v)).bind fun t2 => (spec_l1Has.f k t2 v).bind fun t3 => if t3 = true then some v else spec_l15Opposed.l0 k vars l (v + 1) else spec_l15Opposed.l0 k vars l (v + 1)) c1 (Ev.congr (fun k => if_pos rfl)
              (Ev.bind (f := fun k t2 => (spec_l1Has.f k t2 v).bind fun t3 => if t3 = true then some v else spec_l15Opposed.l0 k vars l (v + 1)) s2 (Ev.bind (f := fun k t3 => if t3 = true then some v else spec_l15Opposed.l0 k vars l (v + 1)) c2 (Ev.congr (fun k => if_neg (by simp)) ho2)))))
        | true =>
          rw [q2] at hi2 c2
          refine ⟨v, evEq (Ev.step hstepI (Ev.bind (f := fun k t => if t = true then (impl_leads.f k l (-v) v).bind fun t' => if t' = true then some (v, true) else impl_opposed.l0 k vars l (v + 1) else impl_opposed.l0 k vars l (v + 1)) hi1 (Ev.congr (fun k => if_pos rfl) (Ev.bind (f := fun k t' => if t' = true then some (v, true) else impl_opposed.l0 k vars l (v + 1)) hi2 (Ev.all (fun k => if_pos rfl)))))) (by rw [decide_eq_true (by omega)]), Ev.step hstepS ?_, .inr ⟨h1, hv, by rw [q1, q2]; rfl, hu⟩⟩
          exact Ev.bind (f := fun k t => (spec_l1Has.f k t (-v)).bind fun t' => if t' = true then (spec_l15Leads.f k l (-v)).bind fun t2 => (spec_l1Has.f k t2 v).bind fun t3 => if t3 = true then some v else spec_l15Opposed.l0 k vars l (v + 1) else spec_l15Opposed.l0 k vars l (v + 1)) s1
            (Ev.bind (f := fun k t' => if t' = true then (spec_l15Leads.f k l (-v)).bind fun t2 => (spec_l1Has.f k t2 v).bind fun t3 => if t3 = true then some v else spec_l15Opposed.l0 k vars l (v + 1) else spec_l15Opposed.l0 k vars l (v + 1)) c1 (Ev.congr (fun k => if_pos rfl)
              (Ev.bind (f := fun k t2 => (spec_l1Has.f k t2 v).bind fun t3 => if t3 = true then some v else spec_l15Opposed.l0 k vars l (v + 1)) s2 (Ev.bind (f := fun k t3 => if t3 = true then some v else spec_l15Opposed.l0 k vars l (v + 1)) c2 (Ev.all (fun k => if_pos rfl))))))
  exact key _ 1 (by omega) (by omega) rfl (fun u h1 h2 => by omega)
/-- Opposed, both -/
theorem Opposed_ev (vars : Int) (l : List (List Int)) (hl : l.length ≤ 1048576) (hx : ∀ c ∈ l, c.length ≤ 1048576) : ∃ o b, Ev (fun k => impl_Opposed.f k vars l) (o, b) ∧ Ev (fun k => spec_Opposed.f k vars l) (o, b) := by
  have hI := isTwo_f vars l
  have hS := specIsTwo_ev vars l hl hx
  cases ht : twoB vars l with
  | false =>
    rw [ht] at hI hS
    refine ⟨0, false, Ev.all (fun k => ?_), Ev.bind (f := fun k t => if t = true then (spec_l15Opposed.f k vars l).bind fun t2 => if t2 = 0 then some (0, false) else (spec_l15Opposed.f k vars l).bind fun t3 => some (t3, true) else some (0, false)) hS (Ev.all (fun k => if_neg (by simp)))⟩
    unfold impl_Opposed.f; rw [hI, Option.bind_some, if_neg (by simp)]
  | true =>
    rw [ht] at hI hS
    obtain ⟨o, h1, h2, h3⟩ := opposed_ev (two_of vars l ht)
    refine ⟨o, decide (o ≠ 0), Ev.congr (g := fun k => impl_Opposed.f k vars l) (f := fun k => (impl_opposed.f k vars l).bind fun b => some (b.1, b.2)) (fun k => ?_) (Ev.bind (f := fun _ b => some (b.1, b.2)) h1 (Ev.now _)), Ev.bind (f := fun k t => if t = true then (spec_l15Opposed.f k vars l).bind fun t2 => if t2 = 0 then some (0, false) else (spec_l15Opposed.f k vars l).bind fun t3 => some (t3, true) else some (0, false)) hS (Ev.congr (fun k => if_pos rfl) (Ev.bind (f := fun k t2 => if t2 = 0 then some (0, false) else (spec_l15Opposed.f k vars l).bind fun t3 => some (t3, true)) h2 ?_))⟩
    · unfold impl_Opposed.f; rw [hI, Option.bind_some, if_pos rfl]
    · by_cases e : o = 0
      · refine Ev.all (fun k => ?_)
        rw [if_pos e, e]; rfl
      · refine Ev.congr (fun k => if_neg e) (evEq (Ev.bind (f := fun _ t3 => some (t3, true)) h2 (Ev.now _)) ?_)
        rw [decide_eq_true e]
end Go.Proofs.Ythjgcapfojhfjaa.P
