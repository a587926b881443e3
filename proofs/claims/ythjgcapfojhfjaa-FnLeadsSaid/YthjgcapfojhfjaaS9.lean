import Derived.Test.YthjgcapfojhfjaaS8
import Derived.Test.YthjgcapfojhfjaaP7
import Derived.Test.YthjgcapfojhfjaaP7
import Derived.Test.YthjgcapfojhfjaaP7
namespace Go.Proofs.Ythjgcapfojhfjaa.P
open Go.RowKit Go.Proofs.YthjgcapfojhfjaaW.PrintWords
theorem lfilt_ev {vars : Int} {l : List (List Int)} (ht : Two vars l) (x : Int) : ∀ r : List Int, (∀ n ∈ r, Lt vars n) → Ev (fun k => lfilt k l x r) (r.filter fun n => rch l n x)
  | [], _ => Ev.all (fun k => by rw [lfilt]; rfl)
  | n :: t, h => by
    have h1 := implLeads_ev ht (h n List.mem_cons_self) x
    have h2 := lfilt_ev ht x t (fun m hm => h m (List.mem_cons_of_mem _ hm))
    refine evEq (Ev.congr (fun k => by rw [lfilt]) (Ev.bind (f := fun k b => (lfilt k l x t).bind fun q => some (if b = true then n :: q else q)) h1 (Ev.bind (f := fun _ q => some (if rch l n x = true then n :: q else q)) h2 (Ev.now _)))) ?_
    rw [List.filter_cons]
theorem rch_iff (l : List (List Int)) (x y : Int) : rch l x y = true ↔ Reach l x y := by
  unfold rch; exact @decide_eq_true_iff _ (Classical.propDecidable (Reach l x y))
theorem drop_rd' (xs : List Int) (n : Nat) (h : n < xs.length) : xs.drop n = rd xs (n : Int) :: xs.drop (n + 1) := drop_rd xs n h
theorem specLoop_ev {vars : Int} {l : List (List Int)} (ht : Two vars l) (x : Int) (hx0 : -vars ≤ x) (hx1 : x ≤ vars) (r : List Int) (hr : ∀ n ∈ r, Lt vars n) (hrl : r.length ≤ 25) (out : List (List Int)) (ho : out.length ≤ 1000) : ∀ d n (done loop : List Int), n ≤ r.length → r.length - n = d → done.length + d ≤ 10000 → loop.length + d ≤ 10000 → ∀ q, Ev (fun k => spec_LoopsOf.l0 k vars l (done ++ (r.drop n).filter fun y => rch l y x) (out ++ [loop ++ (r.drop n).filter fun y => rch l y x]) (x + 1)) q → Ev (fun k => spec_LoopsOf.l1 k vars l done out x loop r (r.length : Int) (n : Int)) q := by
  have h12 := ht.2.1
  intro d
  induction d with
  | zero =>
    intro n done loop hn hd hdl hll q hq
    rw [List.drop_of_length_le (by omega)] at hq
    simp only [List.filter_nil, List.append_nil] at hq
    refine Ev.step (fun k => ?_) hq
    simp only [spec_LoopsOf.l1]; rw [if_neg (by omega), if_pos (by omega), show wrap64 (x + 1) = x + 1 from by unfold wrap64; omega]
  | succ d ih =>
    intro n done loop hn hd hdl hll q hq
    have hlt : n < r.length := by omega
    have hdr := drop_rd' r n hlt
    have hmem : rd r (n : Int) ∈ r := rd_mem r n hlt
    have hly := hr _ hmem
    obtain ⟨t, _, s1, e1, n1⟩ := ld_ev ht hly
    have c1 := has_ev t x (by omega)
    rw [rch_contains e1] at c1
    rw [hdr, List.filter_cons] at hq
    have go : ∀ k, spec_LoopsOf.l1 (k + 1) vars l done out x loop r (r.length : Int) (n : Int) = (spec_l15Leads.f k l (rd r (n : Int))).bind fun t => (spec_l1Has.f k t x).bind fun t' => if t' = true then spec_LoopsOf.l1 k vars l (done ++ [rd r (n : Int)]) out x (loop ++ [rd r (n : Int)]) r (r.length : Int) ((n + 1 : Nat) : Int) else spec_LoopsOf.l1 k vars l done out x loop r (r.length : Int) ((n + 1 : Nat) : Int) := fun k => by
      simp only [spec_LoopsOf.l1]
      rw [if_pos (by omega), if_pos (by omega), if_pos (by omega), wr_succ (by omega) (by omega), if_pos (show loop.length < 17592186044416 by omega), if_pos (show done.length < 17592186044416 by omega)]; rfl
    refine Ev.step go (Ev.bind (f := fun k t => (spec_l1Has.f k t x).bind fun t' => if t' = true then spec_LoopsOf.l1 k vars l (done ++ [rd r (n : Int)]) out x (loop ++ [rd r (n : Int)]) r (r.length : Int) ((n + 1 : Nat) : Int) else spec_LoopsOf.l1 k vars l done out x loop r (r.length : Int) ((n + 1 : Nat) : Int)) s1 (Ev.bind (f := fun k t' => if t' = true then spec_LoopsOf.l1 k vars l (done ++ [rd r (n : Int)]) out x (loop ++ [rd r (n : Int)]) r (r.length : Int) ((n + 1 : Nat) : Int) else spec_LoopsOf.l1 k vars l done out x loop r (r.length : Int) ((n + 1 : Nat) : Int)) c1 ?_))
    cases hb : rch l (rd r (n : Int)) x with
    | true =>
      rw [hb] at hq
      refine Ev.congr (fun k => if_pos rfl) (ih (n + 1) _ _ (by omega) (by omega) (by simp; omega) (by simp; omega) q ?_)
      rw [List.append_assoc, List.append_assoc]; exact hq
    | false =>
      rw [hb] at hq
      exact Ev.congr (fun k => if_neg (by simp)) (ih (n + 1) _ _ (by omega) (by omega) (by omega) (by omega) q hq)
theorem sumLen_snoc (l : List (List Int)) (c : List Int) : sumLen (l ++ [c]) = sumLen l + c.length := by simp [sumLen]
theorem loopsL_ev {vars : Int} {l : List (List Int)} (ht : Two vars l) : ∀ d (x : Int) (done : List Int) (out : List (List Int)), -vars ≤ x → x ≤ vars + 1 → (vars + 1 - x).toNat = d → out.length + d ≤ 1000 → done.length + 25 * d ≤ 5000 → sumLen out + 25 * d ≤ 5000 → (∀ z, z ∈ done ↔ ∃ y, Lt vars y ∧ y < x ∧ Reach l y z ∧ Reach l z y) → ∃ r, Ev (fun k => impl_LoopsOf.l0 k vars l out x) (r, true) ∧ Ev (fun k => spec_LoopsOf.l0 k vars l done out x) (r, true) ∧ r.length ≤ 1000 ∧ sumLen r ≤ 5000 := by
  have h12 := ht.2.1
  have h0 := ht.1
  intro d
  induction d with
  | zero =>
    intro x done out h1 h2 hd hl hdl hsl hI
    refine ⟨out, Ev.one (fun k => ?_), Ev.one (fun k => ?_), by omega, by omega⟩
    · rw [impl_LoopsOf.l0, if_neg (by omega)]
    · simp only [spec_LoopsOf.l0]; rw [if_neg (by omega)]
  | succ d ih =>
    intro x done out h1 h2 hd hl hdl hsl hI
    have hv : x ≤ vars := by omega
    have hw1 : wrap64 (x + 1) = x + 1 := by unfold wrap64; omega
    by_cases hz : x = 0
    · obtain ⟨r, f1, f2, f3⟩ := ih (x + 1) done out (by omega) (by omega) (by omega) (by omega) (by omega) (by omega) (fun z => by
        rw [hI z]
        constructor
        · rintro ⟨y, a, b, c⟩; exact ⟨y, a, by omega, c⟩
        · rintro ⟨y, a, b, c⟩; exact ⟨y, a, by have := a.1; omega, c⟩)
      refine ⟨r, Ev.step (fun k => ?_) f1, ?_, f3⟩
      · rw [impl_LoopsOf.l0, if_pos hv, if_pos hz, hw1]
      · refine Ev.step (g := fun k => spec_LoopsOf.l0 k vars l done out x) (f := fun k => spec_LoopsOf.j1 k vars l done out x true) (fun k => ?_) (Ev.step (fun k => ?_) f2)
        · show spec_LoopsOf.l0 (k + 1) vars l done out x = _
          simp only [spec_LoopsOf.l0]; rw [if_pos hv, if_pos hz]
        · simp only [spec_LoopsOf.j1]; rw [if_pos trivial, hw1]
    · have hlx : Lt vars x := ⟨hz, h1, hv⟩
      obtain ⟨t, p1, s1, e1, n1⟩ := ld_ev ht hlx
      have hlt : ∀ n ∈ t, Lt vars n := fun n hn => reach_lt ht hlx ((e1.2 n).1 hn)
      have hf := lfilt_ev ht x t hlt
      have hq : ∀ z, z ∈ (t.filter fun n => rch l n x) ↔ Reach l x z ∧ Reach l z x := fun z => by
        rw [List.mem_filter, e1.2 z, rch_iff]
      have hsort : (t.filter fun n => rch l n x).Pairwise (· < ·) := e1.1.filter _
      have hql : (t.filter fun n => rch l n x).length ≤ 25 := by have := List.length_filter_le (fun n => rch l n x) t; omega
      generalize hQ : (t.filter fun n => rch l n x) = q at hf hq hsort hql
      have hxq : x ∈ q := (hq x).2 ⟨Reach.refl l x, Reach.refl l x⟩
      have hq0 : 0 < q.length := List.length_pos_of_mem hxq
      have hdone := has_ev done x (by omega)
      -- the first of the component
      have hfirst : rd q 0 = x ↔ x ∉ done := by
        cases q with
        | nil => simp at hq0
        | cons a q' =>
          have ha : rd (a :: q') 0 = a := rfl
          rw [ha, hI x]
          rw [List.pairwise_cons] at hsort
          constructor
          · rintro rfl ⟨y, b1, b2, b3, b4⟩
            have : y ∈ a :: q' := (hq y).2 ⟨b4, b3⟩
            rcases List.mem_cons.1 this with e | hy
            · omega
            · have := hsort.1 y hy; omega
          · intro hn
            rcases List.mem_cons.1 hxq with e | hx
            · exact e.symm
            · exact absurd ⟨a, reach_lt ht hlx ((hq a).1 List.mem_cons_self).1, hsort.1 x hx, ((hq a).1 List.mem_cons_self).2, ((hq a).1 List.mem_cons_self).1⟩ hn
      have goI : ∀ o p, (if rd q 0 = x then out ++ [q] else out) = o → Ev (fun k => impl_LoopsOf.l0 k vars l o (x + 1)) p → Ev (fun k => impl_LoopsOf.l0 k vars l out x) p := fun o p ho hp => by
        refine Ev.step (g := fun k => impl_LoopsOf.l0 k vars l out x) (f := fun k => (impl_leadsTo.f k l x).bind fun t => (lfilt k l x t).bind fun q => if 0 < q.length then (if rd q 0 = x then (if out.length < 5864062014805 then impl_LoopsOf.l0 k vars l (out ++ [q]) (x + 1) else none) else impl_LoopsOf.l0 k vars l out (x + 1)) else none) (fun k => ?_) (Ev.bind (f := fun k t => (lfilt k l x t).bind fun q => if 0 < q.length then (if rd q 0 = x then (if out.length < 5864062014805 then impl_LoopsOf.l0 k vars l (out ++ [q]) (x + 1) else none) else impl_LoopsOf.l0 k vars l out (x + 1)) else none) p1 (Ev.bind (f := fun k q => if 0 < q.length then (if rd q 0 = x then (if out.length < 5864062014805 then impl_LoopsOf.l0 k vars l (out ++ [q]) (x + 1) else none) else impl_LoopsOf.l0 k vars l out (x + 1)) else none) hf (Ev.congr (fun k => ?_) hp)))
        · show impl_LoopsOf.l0 (k + 1) vars l out x = _
          rw [impl_LoopsOf.l0, if_pos hv, if_neg hz, hw1]
        · show (if 0 < q.length then _ else _) = _
          rw [if_pos hq0, ← ho]
          by_cases e : rd q 0 = x
          · rw [if_pos e, if_pos e, if_pos (by omega)]
          · rw [if_neg e, if_neg e]
      have goS : ∀ p, Ev (fun k => spec_LoopsOf.j1 k vars l done out x (done.contains x)) p → Ev (fun k => spec_LoopsOf.l0 k vars l done out x) p := fun p hp => by
        refine Ev.step (g := fun k => spec_LoopsOf.l0 k vars l done out x) (f := fun k => (spec_l1Has.f k done x).bind fun t => spec_LoopsOf.j1 k vars l done out x t) (fun k => ?_) (Ev.bind (f := fun k t => spec_LoopsOf.j1 k vars l done out x t) hdone hp)
        show spec_LoopsOf.l0 (k + 1) vars l done out x = _
        simp only [spec_LoopsOf.l0]; rw [if_pos hv, if_neg hz]
      by_cases hin : x ∈ done
      · -- its component was met
        obtain ⟨r, f1, f2, f3⟩ := ih (x + 1) done out (by omega) (by omega) (by omega) (by omega) (by omega) (by omega) (fun z => by
          rw [hI z]
          constructor
          · rintro ⟨y, a, b, c⟩; exact ⟨y, a, by omega, c⟩
          · rintro ⟨y, a, b, c1, c2⟩
            by_cases e : y = x
            · obtain ⟨u, g1, g2, g3, g4⟩ := (hI x).1 hin
              subst e
              exact ⟨u, g1, g2, g3.trans c1, c2.trans g4⟩
            · exact ⟨y, a, by omega, c1, c2⟩)
        refine ⟨r, goI out _ (if_neg (fun e => (hfirst.1 e) hin)) f1, goS _ ?_, f3⟩
        rw [show done.contains x = true from List.contains_iff_mem.2 hin]
        refine Ev.step (fun k => ?_) f2
        simp only [spec_LoopsOf.j1]; rw [if_pos trivial, hw1]
      · obtain ⟨r, f1, f2, f3⟩ := ih (x + 1) (done ++ q) (out ++ [q]) (by omega) (by omega) (by omega) (by simp; omega) (by simp; omega) (by rw [sumLen_snoc]; omega) (fun z => by
          rw [List.mem_append, hI z, hq z]
          constructor
          · rintro (⟨y, a, b, c⟩ | ⟨c1, c2⟩)
            · exact ⟨y, a, by omega, c⟩
            · exact ⟨x, hlx, by omega, c1, c2⟩
          · rintro ⟨y, a, b, c1, c2⟩
            by_cases e : y = x
            · subst e; exact .inr ⟨c1, c2⟩
            · exact .inl ⟨y, a, by omega, c1, c2⟩)
        refine ⟨r, goI (out ++ [q]) _ (if_pos (hfirst.2 hin)) f1, goS _ ?_, f3⟩
        have hc : done.contains x = false := by
          cases h : done.contains x with
          | false => rfl
          | true => exact absurd (List.contains_iff_mem.1 h) hin
        rw [hc]
        have hsp := specLoop_ev ht x h1 hv t hlt n1 out (by omega) _ 0 done [] (by omega) rfl (by omega) (by simp; omega) (r, true) (by
          rw [List.drop_zero, hQ, List.nil_append]; exact f2)
        refine Ev.step (g := fun k => spec_LoopsOf.j1 k vars l done out x false) (f := fun k => (spec_l15Leads.f k l x).bind fun t => spec_LoopsOf.l1 k vars l done out x [] t (t.length : Int) 0) (fun k => ?_) (Ev.bind (f := fun k t => spec_LoopsOf.l1 k vars l done out x [] t (t.length : Int) 0) s1 hsp)
        show spec_LoopsOf.j1 (k + 1) vars l done out x false = _
        simp only [spec_LoopsOf.j1]; rw [if_neg (by simp)]
/-- LoopsOf, both -/
theorem LoopsOf_ev (vars : Int) (l : List (List Int)) (hl : l.length ≤ 1048576) (hx : ∀ c ∈ l, c.length ≤ 1048576) : ∃ r ok, Ev (fun k => impl_LoopsOf.f k vars l) (r, ok) ∧ Ev (fun k => spec_LoopsOf.f k vars l) (r, ok) ∧ r.length ≤ 1000 ∧ sumLen r ≤ 5000 := by
  have hI := isTwo_f vars l
  have hS := specIsTwo_ev vars l hl hx
  cases ht : twoB vars l with
  | false =>
    rw [ht] at hI hS
    refine ⟨[], false, Ev.all (fun k => ?_), Ev.bind (f := fun k t => if t = true then spec_LoopsOf.l0 k vars l [] [] (wrap64 (-vars)) else some (([] : List (List Int)), false)) hS (Ev.all (fun k => if_neg (by simp))), by simp, by simp [sumLen]⟩
    unfold impl_LoopsOf.f; rw [hI, Option.bind_some, if_neg (by simp)]
  | true =>
    rw [ht] at hI hS
    have h2 := two_of vars l ht
    have h0 := h2.1
    have h12 := h2.2.1
    have hw : wrap64 (-vars) = -vars := by unfold wrap64; omega
    obtain ⟨r, f1, f2, f3⟩ := loopsL_ev h2 _ (-vars) [] [] (by omega) (by omega) rfl (by simp only [List.length_nil]; omega) (by simp only [List.length_nil]; omega) (by simp [sumLen]; omega) (fun z => by
      constructor
      · intro h; cases h
      · rintro ⟨y, a, b, _⟩; have := a.2.1; omega)
    refine ⟨r, true, Ev.congr (fun k => ?_) f1, Ev.bind (f := fun k t => if t = true then spec_LoopsOf.l0 k vars l [] [] (wrap64 (-vars)) else some (([] : List (List Int)), false)) hS (Ev.congr (fun k => by rw [if_pos rfl, hw]) f2), f3⟩
    unfold impl_LoopsOf.f; rw [hI, Option.bind_some, if_pos rfl, hw]
end Go.Proofs.Ythjgcapfojhfjaa.P
