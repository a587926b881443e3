import Derived.Test.YthjgcapfojhfjaaS6
/-
  Fixed: the literals that their negation reaches.
-/
namespace Go.Proofs.Ythjgcapfojhfjaa.P
open Go.RowKit Go.Proofs.YthjgcapfojhfjaaW.PrintWords

theorem fixedL_ev {vars : Int} {l : List (List Int)} (ht : Two vars l) : ∀ d (x : Int) (out : List Int), -vars ≤ x → x ≤ vars + 1 → (vars + 1 - x).toNat = d → out.length + d ≤ 1000 → ∃ r, Ev (fun k => impl_Fixed.l0 k vars l out x) (r, true) ∧ Ev (fun k => spec_Fixed.l0 k vars l out x) (r, true) ∧ r.length ≤ out.length + d := by
  have h12 := ht.2.1
  have h0 := ht.1
  intro d
  induction d with
  | zero =>
    intro x out h1 h2 hd hl
    refine ⟨out, Ev.one (fun k => ?_), Ev.one (fun k => ?_), by omega⟩
    · simp only [impl_Fixed.l0]; rw [if_neg (by omega)]
    · simp only [spec_Fixed.l0]; rw [if_neg (by omega)]
  | succ d ih =>
    intro x out h1 h2 hd hl
    have hv : x ≤ vars := by omega
    have hw : wrap64 (-x) = -x := by unfold wrap64; omega
    have hw1 : wrap64 (x + 1) = x + 1 := by unfold wrap64; omega
    by_cases hz : x = 0
    · obtain ⟨r, e1, e2, e3⟩ := ih (x + 1) out (by omega) (by omega) (by omega) (by omega)
      refine ⟨r, Ev.step (fun k => ?_) e1, Ev.step (fun k => ?_) e2, by omega⟩
      · simp only [impl_Fixed.l0]; rw [if_pos hv, if_pos hz, hw1]
      · simp only [spec_Fixed.l0]; rw [if_pos hv, if_pos hz, hw1]
    · have hln : Lt vars (-x) := ⟨by omega, by omega, by omega⟩
      have hi := implLeads_ev ht hln x
      obtain ⟨q, _, s1, e1, n1⟩ := ld_ev ht hln
      have c1 := has_ev q x (by omega)
      rw [rch_contains e1] at c1
      have hstepI : ∀ k, impl_Fixed.l0 (k + 1) vars l out x = (impl_leads.f k l (-x) x).bind fun t => if t = true then (if out.length < 17592186044416 then impl_Fixed.l0 k vars l (out ++ [x]) (x + 1) else none) else impl_Fixed.l0 k vars l out (x + 1) := fun k => by
        simp only [impl_Fixed.l0]; rw [if_pos hv, if_neg hz, hw, hw1]
      have hstepS : ∀ k, spec_Fixed.l0 (k + 1) vars l out x = (spec_l15Leads.f k l (-x)).bind fun t => (spec_l1Has.f k t x).bind fun t' => if t' = true then (if out.length < 17592186044416 then spec_Fixed.l0 k vars l (out ++ [x]) (x + 1) else none) else spec_Fixed.l0 k vars l out (x + 1) := fun k => by
        simp only [spec_Fixed.l0]; rw [if_pos hv, if_neg hz, hw, hw1]
      cases hq : rch l (-x) x with
      | false =>
        rw [hq] at hi c1
        obtain ⟨r, f1, f2, f3⟩ := ih (x + 1) out (by omega) (by omega) (by omega) (by omega)
        refine ⟨r, Ev.step hstepI (Ev.bind (f := fun k t => if t = true then (if out.length < 17592186044416 then impl_Fixed.l0 k vars l (out ++ [x]) (x + 1) else none) else impl_Fixed.l0 k vars l out (x + 1)) hi (Ev.congr (fun k => if_neg (by simp)) f1)), Ev.step hstepS ?_, by omega⟩
        exact Ev.bind (f := fun k t => (spec_l1Has.f k t x).bind fun t' => if t' = true then (if out.length < 17592186044416 then spec_Fixed.l0 k vars l (out ++ [x]) (x + 1) else none) else spec_Fixed.l0 k vars l out (x + 1)) s1
          (Ev.bind (f := fun k t' => if t' = true then (if out.length < 17592186044416 then spec_Fixed.l0 k vars l (out ++ [x]) (x + 1) else none) else spec_Fixed.l0 k vars l out (x + 1)) c1 (Ev.congr (fun k => if_neg (by simp)) f2))
      | true =>
        rw [hq] at hi c1
        have hlen : (out ++ [x]).length = out.length + 1 := by simp
        obtain ⟨r, f1, f2, f3⟩ := ih (x + 1) (out ++ [x]) (by omega) (by omega) (by omega) (by omega)
        refine ⟨r, Ev.step hstepI (Ev.bind (f := fun k t => if t = true then (if out.length < 17592186044416 then impl_Fixed.l0 k vars l (out ++ [x]) (x + 1) else none) else impl_Fixed.l0 k vars l out (x + 1)) hi (Ev.congr (fun k => by rw [if_pos rfl, if_pos (by omega)]) f1)), Ev.step hstepS ?_, by omega⟩
        exact Ev.bind (f := fun k t => (spec_l1Has.f k t x).bind fun t' => if t' = true then (if out.length < 17592186044416 then spec_Fixed.l0 k vars l (out ++ [x]) (x + 1) else none) else spec_Fixed.l0 k vars l out (x + 1)) s1
          (Ev.bind (f := fun k t' => if t' = true then (if out.length < 17592186044416 then spec_Fixed.l0 k vars l (out ++ [x]) (x + 1) else none) else spec_Fixed.l0 k vars l out (x + 1)) c1 (Ev.congr (fun k => by rw [if_pos rfl, if_pos (by omega)]) f2))
/-- Fixed, both -/
theorem Fixed_ev (vars : Int) (l : List (List Int)) (hl : l.length ≤ 1048576) (hx : ∀ c ∈ l, c.length ≤ 1048576) : ∃ r ok, Ev (fun k => impl_Fixed.f k vars l) (r, ok) ∧ Ev (fun k => spec_Fixed.f k vars l) (r, ok) ∧ r.length ≤ 25 := by
  have hI := isTwo_f vars l
  have hS := specIsTwo_ev vars l hl hx
  cases ht : twoB vars l with
  | false =>
    rw [ht] at hI hS
    refine ⟨[], false, Ev.all (fun k => ?_), Ev.bind (f := fun k t => if t = true then (spec_l15Opposed.f k vars l).bind fun t2 => spec_Fixed.j0 k vars l (decide (t2 > 0)) else spec_Fixed.j0 k vars l true) hS (Ev.one (fun k => ?_)), by simp⟩
    · unfold impl_Fixed.f; rw [hI, Option.bind_some, if_neg (by simp)]
    · show (if false = true then _ else _) = _
      rw [if_neg (by simp)]; simp only [spec_Fixed.j0]; rw [if_pos trivial]
  | true =>
    rw [ht] at hI hS
    have h2 := two_of vars l ht
    obtain ⟨o, h1, h3, h4⟩ := opposed_ev h2
    have h0 := h2.1
    have h12 := h2.2.1
    have hw : wrap64 (-vars) = -vars := by unfold wrap64; omega
    have enterI : ∀ k, impl_Fixed.f k vars l = (impl_opposed.f k vars l).bind fun b => if b.2 = true then some (([] : List Int), false) else impl_Fixed.l0 k vars l [] (-vars) := fun k => by
      unfold impl_Fixed.f; rw [hI, Option.bind_some, if_pos rfl, hw]
    have specE : ∀ q, Ev (fun k => spec_Fixed.j0 k vars l (decide (o > 0))) q → Ev (fun k => spec_Fixed.f k vars l) q := fun q h =>
      Ev.bind (f := fun k t => if t = true then (spec_l15Opposed.f k vars l).bind fun t2 => spec_Fixed.j0 k vars l (decide (t2 > 0)) else spec_Fixed.j0 k vars l true) hS (Ev.congr (fun k => if_pos rfl) (Ev.bind (f := fun k t2 => spec_Fixed.j0 k vars l (decide (t2 > 0))) h3 h))
    by_cases ho : o = 0
    · obtain ⟨r, f1, f2, f3⟩ := fixedL_ev h2 _ (-vars) [] (by omega) (by omega) rfl (by simp only [List.length_nil]; omega)
      refine ⟨r, true, Ev.congr enterI (Ev.bind (f := fun k b => if b.2 = true then some (([] : List Int), false) else impl_Fixed.l0 k vars l [] (-vars)) h1 (Ev.congr (fun k => if_neg (by simp [ho])) f1)), specE _ (Ev.step (fun k => ?_) f2), by simp only [List.length_nil] at f3; omega⟩
      simp only [spec_Fixed.j0]; rw [if_neg (by simp [ho]), hw]
    · have ho1 : o > 0 := by rcases h4 with h | h <;> omega
      refine ⟨[], false, Ev.congr enterI (Ev.bind (f := fun k b => if b.2 = true then some (([] : List Int), false) else impl_Fixed.l0 k vars l [] (-vars)) h1 (Ev.all (fun k => if_pos (by simp [ho])))), specE _ (Ev.one (fun k => ?_)), by simp⟩
      simp only [spec_Fixed.j0]; rw [if_pos (by simp [ho1])]
end Go.Proofs.Ythjgcapfojhfjaa.P
