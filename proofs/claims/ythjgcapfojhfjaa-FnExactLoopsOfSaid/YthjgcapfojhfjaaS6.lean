import Derived.Test.YthjgcapfojhfjaaS5
import Derived.Test.YthjgcapfojhfjaaP6
import Derived.Test.YthjgcapfojhfjaaP6
import Derived.Test.YthjgcapfojhfjaaP6
import Derived.Test.YthjgcapfojhfjaaP5
import Derived.Test.YthjgcapfojhfjaaP6
import Derived.Test.YthjgcapfojhfjaaP6
/-
  What the marks of the laws compute; LeadsTo, Fixed.
-/
namespace Go.Proofs.Ythjgcapfojhfjaa.P
open Go.RowKit Go.Proofs.YthjgcapfojhfjaaW.PrintWords

theorem rd_set_self (y : List Int) (n : Nat) (v : Int) (h : n < y.length) : rd (y.set n v) (n : Int) = v := by
  rw [rd_nat, List.getD_eq_getElem?_getD, List.getElem?_set_self h]; rfl
theorem rd_set_ne (y : List Int) (n i : Nat) (v : Int) (h : n ≠ i) : rd (y.set n v) (i : Int) = rd y (i : Int) := by
  rw [rd_nat, rd_nat, List.getD_eq_getElem?_getD, List.getD_eq_getElem?_getD, List.getElem?_set_ne h]
theorem mark_ev (l : List Int) (a : Int) (h0 : 0 ≤ a) (h1 : a + l.length ≤ 1000000000000) : ∃ r, Ev (fun k => laws_markIntS.f k l a) (a + l.length, r) ∧ Ev (fun k => laws_heldIntS.f k r a) (a + l.length) ∧ r.length = l.length := by
  have key : ∀ d n (y : List Int), n ≤ l.length → l.length - n = d → y.length = l.length → (∀ i : Nat, i < n → rd y (i : Int) = a + i) → ∃ r, Ev (fun k => laws_markIntS.l0 k y (a + n) (n : Int)) (a + l.length, r) ∧ r.length = l.length ∧ ∀ i : Nat, i < l.length → rd r (i : Int) = a + i := by
    intro d
    induction d with
    | zero =>
      intro n y hn hd hy hr
      have e : n = l.length := by omega
      subst e
      refine ⟨y, Ev.one (fun k => ?_), hy, hr⟩
      simp only [laws_markIntS.l0]; rw [if_neg (by omega)]
    | succ d ih =>
      intro n y hn hd hy hr
      obtain ⟨r, h2, h3, h4⟩ := ih (n + 1) (y.set n (a + n)) (by omega) (by omega) (by simp [hy]) (fun i hi => by
        by_cases e : i = n
        · subst e; exact rd_set_self y i _ (by omega)
        · rw [rd_set_ne y n i _ (fun h => e h.symm)]; exact hr i (by omega))
      refine ⟨r, Ev.step (fun k => ?_) h2, h3, h4⟩
      simp only [laws_markIntS.l0]
      rw [if_pos (by omega), if_pos (by omega), wr_succ (by omega) (by omega), wr_succ (by omega) (by omega), Int.toNat_natCast, show a + (n : Int) + 1 = a + ((n + 1 : Nat) : Int) from by omega]; rfl
  obtain ⟨r, h2, h3, h4⟩ := key _ 0 l (by omega) rfl rfl (fun i hi => by omega)
  have ha0 : a + ((0 : Nat) : Int) = a := by omega
  rw [ha0] at h2
  refine ⟨r, Ev.congr (fun k => by unfold laws_markIntS.f; rfl) h2, ?_, h3⟩
  have held : ∀ d n, n ≤ r.length → r.length - n = d → Ev (fun k => laws_heldIntS.l0 k r (a + n) (n : Int)) (a + l.length) := by
    intro d
    induction d with
    | zero =>
      intro n hn hd
      refine Ev.one (fun k => ?_)
      simp only [laws_heldIntS.l0]; rw [if_neg (by omega), show n = l.length from by omega]
    | succ d ih =>
      intro n hn hd
      refine Ev.step (fun k => ?_) (ih (n + 1) (by omega) (by omega))
      simp only [laws_heldIntS.l0]
      rw [if_pos (by omega), if_pos (by omega), if_pos (h4 n (by omega)), wr_succ (by omega) (by omega), wr_succ (by omega) (by omega), show a + (n : Int) + 1 = a + ((n + 1 : Nat) : Int) from by omega]; rfl
  have hh := held _ 0 (by omega) rfl
  rw [ha0] at hh
  exact Ev.congr (fun k => by unfold laws_heldIntS.f; rfl) hh
theorem markRows_ev : ∀ (l : List (List Int)) (a : Int), 0 ≤ a → a + sumLen l ≤ 1000000000000 → ∃ r, Ev (fun k => markRows k l a) (a + sumLen l, r)
  | [], a, h0, h1 => ⟨[], Ev.all (fun k => by simp [markRows, sumLen])⟩
  | c :: l, a, h0, h1 => by
    have hs : sumLen (c :: l) = c.length + sumLen l := by simp [sumLen]
    rw [hs] at h1 ⊢
    obtain ⟨r, h2, _, _⟩ := mark_ev c a h0 (by omega)
    obtain ⟨q, h3⟩ := markRows_ev l (a + c.length) (by omega) (by omega)
    have hb := Ev.bind (f := fun k t => (markRows k l t.1).bind fun q => some (q.1, t.2 :: q.2)) h2 (Ev.bind (f := fun _ q => some (q.1, r :: q.2)) h3 (Ev.now _))
    refine ⟨r :: q, evEq (Ev.congr (fun k => by rw [markRows]) hb) ?_⟩
    simp only [Prod.mk.injEq]; exact ⟨by omega, trivial⟩
theorem markSS_ev (l : List (List Int)) (h : sumLen l ≤ 1048576) : ∃ k1 r, Ev (fun k => laws_markIntSS.f k l 1) (k1, r) ∧ 0 ≤ k1 := by
  obtain ⟨r, hr⟩ := markRows_ev l 1 (by omega) (by omega)
  exact ⟨_, r, hr, by omega⟩

theorem LeadsTo_ev (vars : Int) (l : List (List Int)) (x : Int) (hl : l.length ≤ 1048576) (hx : ∀ c ∈ l, c.length ≤ 1048576) : ∃ r ok, Ev (fun k => impl_LeadsTo.f k vars l x) (r, ok) ∧ Ev (fun k => spec_LeadsTo.f k vars l x) (r, ok) ∧ r.length ≤ 25 := by
  have hI := isTwo_f vars l
  have hS := specIsTwo_ev vars l hl hx
  cases ht : twoB vars l with
  | false =>
    rw [ht] at hI hS
    refine ⟨[], false, Ev.all (fun k => ?_), Ev.bind (f := fun k t => if t = true then if x = 0 then some (([] : List Int), false) else (spec_l1In.f x (wrap64 (-vars)) vars).bind fun t2 => if t2 = true then (spec_l15Leads.f k l x).bind fun t3 => some (t3, true) else some (([] : List Int), false) else some (([] : List Int), false)) hS (Ev.all (fun k => if_neg (by simp))), by simp⟩
    unfold impl_LeadsTo.f; rw [hI, Option.bind_some, if_neg (by simp)]
  | true =>
    rw [ht] at hI hS
    have h2 := two_of vars l ht
    have hL := litB_f x vars h2.1 h2.2.1
    have hv : wrap64 (-vars) = -vars := by have := h2.1; have := h2.2.1; unfold wrap64; omega
    have enterI : ∀ k, impl_LeadsTo.f k vars l x = if litB x vars = true then (impl_leadsTo.f k l x).bind fun t => some (t, true) else some (([] : List Int), false) := fun k => by
      unfold impl_LeadsTo.f; rw [hI, Option.bind_some, if_pos rfl, hL, Option.bind_some]
    have hSx : ∀ k, (if x = 0 then some (([] : List Int), false) else (spec_l1In.f x (wrap64 (-vars)) vars).bind fun t2 => if t2 = true then (spec_l15Leads.f k l x).bind fun t3 => some (t3, true) else some (([] : List Int), false)) = if litB x vars = true then (spec_l15Leads.f k l x).bind fun t => some (t, true) else some (([] : List Int), false) := fun k => by
      unfold litB
      by_cases h0 : x = 0
      · rw [if_pos h0, if_pos h0, if_neg (by simp)]
      · rw [if_neg h0, if_neg h0, hv, l1In_f, Option.bind_some]
        by_cases h1 : -vars ≤ x
        · rw [decide_eq_true h1, if_pos h1, Bool.true_and]
        · rw [decide_eq_false h1, if_neg h1, Bool.false_and]
    have specE : ∀ q, Ev (fun k => if litB x vars = true then (spec_l15Leads.f k l x).bind fun t => some (t, true) else some (([] : List Int), false)) q → Ev (fun k => spec_LeadsTo.f k vars l x) q := fun q h =>
      Ev.bind (f := fun k t => if t = true then if x = 0 then some (([] : List Int), false) else (spec_l1In.f x (wrap64 (-vars)) vars).bind fun t2 => if t2 = true then (spec_l15Leads.f k l x).bind fun t3 => some (t3, true) else some (([] : List Int), false) else some (([] : List Int), false)) hS (Ev.congr (fun k => (if_pos rfl).trans (hSx k)) h)
    cases hlit : litB x vars with
    | false =>
      refine ⟨[], false, Ev.all (fun k => by rw [enterI, hlit, if_neg (by simp)]), specE _ (Ev.all (fun k => by rw [hlit, if_neg (by simp)])), by simp⟩
    | true =>
      obtain ⟨r, h3, h4, _, h5⟩ := ld_ev h2 ((litB_iff x vars).1 hlit)
      refine ⟨r, true, Ev.congr (fun k => by rw [enterI, hlit, if_pos rfl]) (Ev.bind (f := fun _ t => some (t, true)) h3 (Ev.now _)), specE _ (Ev.congr (fun k => by rw [hlit, if_pos rfl]) (Ev.bind (f := fun _ t => some (t, true)) h4 (Ev.now _))), h5⟩
/-- one answer of several, at one number of rounds -/
theorem evAnd {α β : Type} {g : Nat → Option α} {f : Nat → Option β} {a : α} {b : β} (h : Ev g a) (k : Ev f b) : ∃ K, ∀ n, K ≤ n → g n = some a ∧ f n = some b := by
  obtain ⟨K, h⟩ := h
  obtain ⟨K', k⟩ := k
  exact ⟨max K K', fun n hn => ⟨h n (by omega), k n (by omega)⟩⟩
end Go.Proofs.Ythjgcapfojhfjaa.P
