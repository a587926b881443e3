import Derived.Test.YthjgcapfojhfjaaS7
import Derived.Test.YthjgcapfojhfjaaP9
import Derived.Test.YthjgcapfojhfjaaP8
import Derived.Test.YthjgcapfojhfjaaP9
import Derived.Test.YthjgcapfojhfjaaP9
import Derived.Test.YthjgcapfojhfjaaP9
/-
  SolveTwo; what the marks of a slice of bool compute.
-/
namespace Go.Proofs.Ythjgcapfojhfjaa.P
open Go.RowKit Go.Proofs.YthjgcapfojhfjaaW.PrintWords

theorem rdOf_nat (xs : List Bool) (n : Nat) : rdOf false xs (n : Int) = xs.getD n false := by unfold rdOf; rw [Int.toNat_natCast]
theorem eqBoolS_ev (a : List Bool) (ha : a.length ≤ 1000000) : Ev (fun k => laws_eqBoolS.f k a a) true := by
  have key : ∀ d n, n ≤ a.length → a.length - n = d → Ev (fun k => laws_eqBoolS.l0 k a a (n : Int)) true := by
    intro d
    induction d with
    | zero =>
      intro n hn hd
      refine Ev.one (fun k => ?_)
      simp only [laws_eqBoolS.l0]; rw [if_neg (by omega)]
    | succ d ih =>
      intro n hn hd
      refine Ev.step (fun k => ?_) (ih (n + 1) (by omega) (by omega))
      simp only [laws_eqBoolS.l0]
      rw [if_pos (by omega), if_pos (by omega), if_pos (by omega), if_neg (by simp), wr_succ (by omega) (by omega)]; rfl
  refine Ev.congr (fun k => ?_) (key _ 0 (by omega) rfl)
  unfold laws_eqBoolS.f; rw [if_pos rfl]; rfl
theorem markBool_ev (l : List Bool) (a : Int) (h0 : 0 ≤ a) (h1 : a + l.length ≤ 1000000000000) : ∃ r, Ev (fun k => laws_markBoolS.f k l a) (a + l.length, r) ∧ Ev (fun k => laws_heldBoolS.f k r a) (a + l.length) ∧ r.length = l.length := by
  have key : ∀ d n (y : List Bool), n ≤ l.length → l.length - n = d → y.length = l.length → (∀ i : Nat, i < n → y.getD i false = (Int.tmod (a + i) 3 == 0)) → ∃ r, Ev (fun k => laws_markBoolS.l0 k y (a + n) (n : Int)) (a + l.length, r) ∧ r.length = l.length ∧ ∀ i : Nat, i < l.length → r.getD i false = (Int.tmod (a + i) 3 == 0) := by
    intro d
    induction d with
    | zero =>
      intro n y hn hd hy hr
      have e : n = l.length := by omega
      subst e
      refine ⟨y, Ev.one (fun k => ?_), hy, hr⟩
      simp only [laws_markBoolS.l0]; rw [if_neg (by omega)]
    | succ d ih =>
      intro n y hn hd hy hr
      obtain ⟨r, h2, h3, h4⟩ := ih (n + 1) (y.set n (Int.tmod (a + n) 3 == 0)) (by omega) (by omega) (by simp [hy]) (fun i hi => by
        by_cases e : i = n
        · subst e; rw [List.getD_eq_getElem?_getD, List.getElem?_set_self (by omega)]; rfl
        · rw [List.getD_eq_getElem?_getD, List.getElem?_set_ne (fun h => e h.symm), ← List.getD_eq_getElem?_getD]; exact hr i (by omega))
      refine ⟨r, Ev.step (fun k => ?_) h2, h3, h4⟩
      simp only [laws_markBoolS.l0]
      rw [if_pos (by omega), if_pos (by omega), wr_succ (by omega) (by omega), wr_succ (by omega) (by omega), Int.toNat_natCast, show a + (n : Int) + 1 = a + ((n + 1 : Nat) : Int) from by omega]; rfl
  obtain ⟨r, h2, h3, h4⟩ := key _ 0 l (by omega) rfl rfl (fun i hi => by omega)
  have ha0 : a + ((0 : Nat) : Int) = a := by omega
  rw [ha0] at h2
  refine ⟨r, Ev.congr (fun k => by unfold laws_markBoolS.f; rfl) h2, ?_, h3⟩
  have held : ∀ d n, n ≤ r.length → r.length - n = d → Ev (fun k => laws_heldBoolS.l0 k r (a + n) (n : Int)) (a + l.length) := by
    intro d
    induction d with
    | zero =>
      intro n hn hd
      refine Ev.one (fun k => ?_)
      simp only [laws_heldBoolS.l0]; rw [if_neg (by omega), show n = l.length from by omega]
    | succ d ih =>
      intro n hn hd
      refine Ev.step (fun k => ?_) (ih (n + 1) (by omega) (by omega))
      simp only [laws_heldBoolS.l0]
      rw [if_pos (by omega), if_pos (by omega), rdOf_nat, h4 n (by omega), if_neg (by simp), wr_succ (by omega) (by omega), wr_succ (by omega) (by omega), show a + (n : Int) + 1 = a + ((n + 1 : Nat) : Int) from by omega]; rfl
  have hh := held _ 0 (by omega) rfl
  rw [ha0] at hh
  exact Ev.congr (fun k => by unfold laws_heldBoolS.f; rfl) hh

/-- the model that a set of literals comes to -/
def mdl (p : Int → Bool) (y : List Bool) : Nat → Nat → List Bool
  | 0, _ => y
  | d + 1, n => mdl p (y.set n (p ((n : Int) + 1))) d (n + 1)
theorem mdl_len (p : Int → Bool) : ∀ d n (y : List Bool), (mdl p y d n).length = y.length
  | 0, _, _ => rfl
  | d + 1, n, y => by unfold mdl; rw [mdl_len p d (n + 1)]; simp
theorem specModel_ev (so : List Int) (hs : so.length ≤ 1000000) : ∀ d n (y : List Bool) (L : Nat), y.length = L → L ≤ 1000 → n ≤ L → L - n = d → Ev (fun k => spec_SolveTwo.l2 k so y (L : Int) (n : Int)) (mdl (fun z => so.contains z) y d n, true, true) := by
  intro d
  induction d with
  | zero =>
    intro n y L hy hL hn hd
    refine Ev.one (fun k => ?_)
    simp only [spec_SolveTwo.l2]; rw [if_neg (by omega)]; rfl
  | succ d ih =>
    intro n y L hy hL hn hd
    have hh := has_ev so ((n : Int) + 1) (by omega)
    refine Ev.step (g := fun k => spec_SolveTwo.l2 k so y (L : Int) (n : Int)) (f := fun k => (spec_l1Has.f k so ((n : Int) + 1)).bind fun t => spec_SolveTwo.l2 k so (y.set n t) (L : Int) ((n + 1 : Nat) : Int)) (fun k => ?_) (Ev.bind (f := fun k t => spec_SolveTwo.l2 k so (y.set n t) (L : Int) ((n + 1 : Nat) : Int)) hh (ih (n + 1) _ L (by simp [hy]) hL (by omega) (by omega)))
    show spec_SolveTwo.l2 (k + 1) so y (L : Int) (n : Int) = _
    simp only [spec_SolveTwo.l2]
    rw [if_pos (by omega), wr_succ (by omega) (by omega)]
    congr 1; funext t
    rw [if_pos (by omega), if_pos (by omega), Int.toNat_natCast]; rfl
theorem implModel_ev (so : List Int) (hs : so.length ≤ 1000000) : ∀ d n (y : List Bool) (L : Nat), y.length = L → L ≤ 1000 → n ≤ L → L - n = d → Ev (fun k => impl_SolveTwo.l1 k so y (L : Int) (n : Int)) (mdl (fun z => so.contains z) y d n, true, true) := by
  intro d
  induction d with
  | zero =>
    intro n y L hy hL hn hd
    refine Ev.one (fun k => ?_)
    simp only [impl_SolveTwo.l1]; rw [if_neg (by omega)]; rfl
  | succ d ih =>
    intro n y L hy hL hn hd
    have hh := contains_ev so ((n : Int) + 1) (by omega)
    refine Ev.step (g := fun k => impl_SolveTwo.l1 k so y (L : Int) (n : Int)) (f := fun k => (slices_Contains_int_int.f k so ((n : Int) + 1)).bind fun t => impl_SolveTwo.l1 k so (y.set n t) (L : Int) ((n + 1 : Nat) : Int)) (fun k => ?_) (Ev.bind (f := fun k t => impl_SolveTwo.l1 k so (y.set n t) (L : Int) ((n + 1 : Nat) : Int)) hh (ih (n + 1) _ L (by simp [hy]) hL (by omega) (by omega)))
    show impl_SolveTwo.l1 (k + 1) so y (L : Int) (n : Int) = _
    simp only [impl_SolveTwo.l1]
    rw [if_pos (by omega), wr_succ (by omega) (by omega)]
    congr 1; funext t
    rw [if_pos (by omega), if_pos (by omega), Int.toNat_natCast]; rfl
/-- the literals put in one by one -/
theorem putAll_ev (vars : Int) (l : List (List Int)) (v : Int) (r : List Int) (hr : r.length ≤ 25) (hv0 : 0 ≤ v) (hv : v ≤ 12) : ∀ d n (so : List Int), n ≤ r.length → r.length - n = d → so.length + d ≤ 1000 → ∃ so', (∀ z, z ∈ so' ↔ z ∈ so ∨ z ∈ r.drop n) ∧ so'.length ≤ so.length + d ∧ ∀ q, Ev (fun k => spec_SolveTwo.l0 k vars l so' (v + 1)) q → Ev (fun k => spec_SolveTwo.l1 k vars l so v r (r.length : Int) (n : Int)) q := by
  intro d
  induction d with
  | zero =>
    intro n so hn hd hs
    refine ⟨so, fun z => by rw [List.drop_of_length_le (by omega)]; simp, by omega, fun q h => Ev.step (fun k => ?_) h⟩
    simp only [spec_SolveTwo.l1]; rw [if_neg (by omega), wr_succ (by omega) (by omega)]
  | succ d ih =>
    intro n so hn hd hs
    have hp := put_ev so (rd r (n : Int)) (by omega)
    have hlen := len_ins (rd r (n : Int)) so
    obtain ⟨so', h1, h2, h3⟩ := ih (n + 1) (ins (rd r (n : Int)) so) (by omega) (by omega) (by omega)
    have hd' : r.drop n = rd r (n : Int) :: r.drop (n + 1) := by
      rw [rd_nat, List.getD_eq_getElem?_getD, List.getElem?_eq_getElem (by omega)]; exact List.drop_eq_getElem_cons (by omega)
    refine ⟨so', fun z => ?_, by omega, fun q h => ?_⟩
    · rw [h1 z, mem_ins, hd', List.mem_cons]
      constructor
      · rintro ((h | h) | h)
        · exact .inr (.inl h)
        · exact .inl h
        · exact .inr (.inr h)
      · rintro (h | h | h)
        · exact .inl (.inr h)
        · exact .inl (.inl h)
        · exact .inr h
    · refine Ev.step (g := fun k => spec_SolveTwo.l1 k vars l so v r (r.length : Int) (n : Int)) (f := fun k => (spec_l1Put.f k so (rd r (n : Int))).bind fun t => spec_SolveTwo.l1 k vars l t v r (r.length : Int) ((n + 1 : Nat) : Int)) (fun k => ?_) (Ev.bind (f := fun k t => spec_SolveTwo.l1 k vars l t v r (r.length : Int) ((n + 1 : Nat) : Int)) hp (h3 q h))
      show spec_SolveTwo.l1 (k + 1) vars l so v r (r.length : Int) (n : Int) = _
      simp only [spec_SolveTwo.l1]
      rw [if_pos (by omega), if_pos (by omega), if_pos (by omega), wr_succ (by omega) (by omega)]; rfl
theorem contains_same {a b : List Int} (h : ∀ z, z ∈ a ↔ z ∈ b) (z : Int) : a.contains z = b.contains z := by
  rw [Bool.eq_iff_iff, List.contains_iff_mem, List.contains_iff_mem]; exact h z
theorem solveL_ev {vars : Int} {l : List (List Int)} (ht : Two vars l) : ∀ d (v : Int) (si ss : List Int), 1 ≤ v → v ≤ vars + 1 → (vars + 1 - v).toNat = d → (∀ z, z ∈ si ↔ z ∈ ss) → si.length + 25 * d ≤ 400 → ss.length + 25 * d ≤ 400 → ∃ r, Ev (fun k => impl_SolveTwo.l0 k vars l si v) (r, true, true) ∧ Ev (fun k => spec_SolveTwo.l0 k vars l ss v) (r, true, true) ∧ r.length ≤ 12 := by
  have h12 := ht.2.1
  have h0 := ht.1
  intro d
  induction d with
  | zero =>
    intro v si ss h1 h2 hd hm hi hs
    have hL : (List.replicate vars.toNat false).length = vars.toNat := by simp
    have e1 := implModel_ev si (by omega) _ 0 (List.replicate vars.toNat false) vars.toNat hL (by omega) (by omega) rfl
    have e2 := specModel_ev ss (by omega) _ 0 (List.replicate vars.toNat false) vars.toNat hL (by omega) (by omega) rfl
    rw [show (fun z => si.contains z) = (fun z => ss.contains z) from funext (contains_same hm)] at e1
    refine ⟨_, Ev.step (fun k => ?_) e1, Ev.step (fun k => ?_) e2, by rw [mdl_len]; simp; omega⟩
    · simp only [impl_SolveTwo.l0]; rw [if_neg (by omega), if_pos h0, if_pos (by omega), Option.bind_some, hL]; rfl
    · simp only [spec_SolveTwo.l0]; rw [if_neg (by omega), if_pos h0, if_pos (by omega), Option.bind_some, hL]; rfl
  | succ d ih =>
    intro v si ss h1 h2 hd hm hi hs
    have hv : v ≤ vars := by omega
    have hw : wrap64 (-v) = -v := by unfold wrap64; omega
    have hw1 : wrap64 (v + 1) = v + 1 := wr_succ (by omega) (by omega)
    have ci1 := contains_ev si v (by omega)
    have ci2 := contains_ev si (-v) (by omega)
    have cs1 := has_ev ss v (by omega)
    have cs2 := has_ev ss (-v) (by omega)
    rw [contains_same hm] at ci1 ci2
    -- one round of each
    have goI : ∀ q, Ev (fun k => impl_SolveTwo.j1 k vars l si v (ss.contains v || ss.contains (-v))) q → Ev (fun k => impl_SolveTwo.l0 k vars l si v) q := fun q h => by
      refine Ev.step (g := fun k => impl_SolveTwo.l0 k vars l si v) (f := fun k => (slices_Contains_int_int.f k si v).bind fun t => if t = true then impl_SolveTwo.j1 k vars l si v true else (slices_Contains_int_int.f k si (-v)).bind fun t' => impl_SolveTwo.j1 k vars l si v t') (fun k => ?_) (Ev.bind (f := fun k t => if t = true then impl_SolveTwo.j1 k vars l si v true else (slices_Contains_int_int.f k si (-v)).bind fun t' => impl_SolveTwo.j1 k vars l si v t') ci1 ?_)
      · show impl_SolveTwo.l0 (k + 1) vars l si v = _
        simp only [impl_SolveTwo.l0]; rw [if_pos hv, hw]
      · cases hc : ss.contains v with
        | true => rw [hc] at h; exact Ev.congr (fun k => if_pos rfl) h
        | false => rw [hc] at h; exact Ev.congr (fun k => if_neg (by simp)) (Ev.bind (f := fun k t' => impl_SolveTwo.j1 k vars l si v t') ci2 h)
    have goS : ∀ q, Ev (fun k => spec_SolveTwo.j1 k vars l ss v (ss.contains v || ss.contains (-v))) q → Ev (fun k => spec_SolveTwo.l0 k vars l ss v) q := fun q h => by
      refine Ev.step (g := fun k => spec_SolveTwo.l0 k vars l ss v) (f := fun k => (spec_l1Has.f k ss v).bind fun t => if t = true then spec_SolveTwo.j1 k vars l ss v true else (spec_l1Has.f k ss (-v)).bind fun t' => spec_SolveTwo.j1 k vars l ss v t') (fun k => ?_) (Ev.bind (f := fun k t => if t = true then spec_SolveTwo.j1 k vars l ss v true else (spec_l1Has.f k ss (-v)).bind fun t' => spec_SolveTwo.j1 k vars l ss v t') cs1 ?_)
      · show spec_SolveTwo.l0 (k + 1) vars l ss v = _
        simp only [spec_SolveTwo.l0]; rw [if_pos hv, hw]
      · cases hc : ss.contains v with
        | true => rw [hc] at h; exact Ev.congr (fun k => if_pos rfl) h
        | false => rw [hc] at h; exact Ev.congr (fun k => if_neg (by simp)) (Ev.bind (f := fun k t' => spec_SolveTwo.j1 k vars l ss v t') cs2 h)
    cases hb : (ss.contains v || ss.contains (-v)) with
    | true =>
      rw [hb] at goI goS
      obtain ⟨r, f1, f2, f3⟩ := ih (v + 1) si ss (by omega) (by omega) (by omega) hm (by omega) (by omega)
      refine ⟨r, goI _ (Ev.step (fun k => ?_) f1), goS _ (Ev.step (fun k => ?_) f2), f3⟩
      · simp only [impl_SolveTwo.j1]; rw [if_pos trivial, hw1]
      · simp only [spec_SolveTwo.j1]; rw [if_pos trivial, hw1]
    | false =>
      rw [hb] at goI goS
      have hlv : Lt vars v := ⟨by omega, by omega, hv⟩
      have hln : Lt vars (-v) := ⟨by omega, by omega, by omega⟩
      have hi1 := implLeads_ev ht hlv (-v)
      obtain ⟨r1, p1, s1, e1, n1⟩ := ld_ev ht hlv
      obtain ⟨r2, p2, s2, e2, n2⟩ := ld_ev ht hln
      have c1 := has_ev r1 (-v) (by omega)
      rw [rch_contains e1] at c1
      have jI : ∀ q, Ev (fun k => if rch l v (-v) = true then (impl_leadsTo.f k l (-v)).bind fun t => (if si.length + t.length < 17592186044416 then impl_SolveTwo.l0 k vars l (si ++ t) (v + 1) else none) else (impl_leadsTo.f k l v).bind fun t => (if si.length + t.length < 17592186044416 then impl_SolveTwo.l0 k vars l (si ++ t) (v + 1) else none)) q → Ev (fun k => impl_SolveTwo.j1 k vars l si v false) q := fun q h => by
        refine Ev.step (g := fun k => impl_SolveTwo.j1 k vars l si v false) (f := fun k => (impl_leads.f k l v (-v)).bind fun t => if t = true then (impl_leadsTo.f k l (-v)).bind fun t => (if si.length + t.length < 17592186044416 then impl_SolveTwo.l0 k vars l (si ++ t) (v + 1) else none) else (impl_leadsTo.f k l v).bind fun t => (if si.length + t.length < 17592186044416 then impl_SolveTwo.l0 k vars l (si ++ t) (v + 1) else none)) (fun k => ?_) (Ev.bind (f := fun k t => if t = true then (impl_leadsTo.f k l (-v)).bind fun t => (if si.length + t.length < 17592186044416 then impl_SolveTwo.l0 k vars l (si ++ t) (v + 1) else none) else (impl_leadsTo.f k l v).bind fun t => (if si.length + t.length < 17592186044416 then impl_SolveTwo.l0 k vars l (si ++ t) (v + 1) else none)) hi1 h)
        show impl_SolveTwo.j1 (k + 1) vars l si v false = _
        simp only [impl_SolveTwo.j1]; rw [if_neg (by simp), hw, hw1]
      have jS : ∀ q, Ev (fun k => if rch l v (-v) = true then spec_SolveTwo.j2 k vars l ss v (-v) else spec_SolveTwo.j2 k vars l ss v v) q → Ev (fun k => spec_SolveTwo.j1 k vars l ss v false) q := fun q h => by
        refine Ev.step (g := fun k => spec_SolveTwo.j1 k vars l ss v false) (f := fun k => (spec_l15Leads.f k l v).bind fun t => (spec_l1Has.f k t (-v)).bind fun t' => if t' = true then spec_SolveTwo.j2 k vars l ss v (-v) else spec_SolveTwo.j2 k vars l ss v v) (fun k => ?_) (Ev.bind (f := fun k t => (spec_l1Has.f k t (-v)).bind fun t' => if t' = true then spec_SolveTwo.j2 k vars l ss v (-v) else spec_SolveTwo.j2 k vars l ss v v) s1 (Ev.bind (f := fun k t' => if t' = true then spec_SolveTwo.j2 k vars l ss v (-v) else spec_SolveTwo.j2 k vars l ss v v) c1 h))
        show spec_SolveTwo.j1 (k + 1) vars l ss v false = _
        simp only [spec_SolveTwo.j1]; rw [if_neg (by simp), hw]
      have rest : ∀ (x : Int) (t : List Int), Ev (fun k => impl_leadsTo.f k l x) t → Ev (fun k => spec_l15Leads.f k l x) t → t.length ≤ 25 → ∃ r, Ev (fun k => (impl_leadsTo.f k l x).bind fun t => (if si.length + t.length < 17592186044416 then impl_SolveTwo.l0 k vars l (si ++ t) (v + 1) else none)) (r, true, true) ∧ Ev (fun k => spec_SolveTwo.j2 k vars l ss v x) (r, true, true) ∧ r.length ≤ 12 := fun x t g1 g2 g3 => by
        obtain ⟨so', m1, m2, m3⟩ := putAll_ev vars l v t g3 (by omega) (by omega) _ 0 ss (by omega) rfl (by omega)
        have hla : (si ++ t).length = si.length + t.length := by simp
        obtain ⟨r, f1, f2, f3⟩ := ih (v + 1) (si ++ t) so' (by omega) (by omega) (by omega) (fun z => by rw [m1, List.mem_append, hm z]; rfl) (by omega) (by omega)
        refine ⟨r, Ev.bind (f := fun k t => (if si.length + t.length < 17592186044416 then impl_SolveTwo.l0 k vars l (si ++ t) (v + 1) else none)) g1 (Ev.congr (fun k => if_pos (by omega)) f1), ?_, f3⟩
        refine Ev.step (g := fun k => spec_SolveTwo.j2 k vars l ss v x) (f := fun k => (spec_l15Leads.f k l x).bind fun t => spec_SolveTwo.l1 k vars l ss v t (t.length : Int) 0) (fun k => ?_) (Ev.bind (f := fun k t => spec_SolveTwo.l1 k vars l ss v t (t.length : Int) 0) g2 (m3 _ f2))
        show spec_SolveTwo.j2 (k + 1) vars l ss v x = _
        simp only [spec_SolveTwo.j2]
      cases hq : rch l v (-v) with
      | true =>
        obtain ⟨r, f1, f2, f3⟩ := rest (-v) r2 p2 s2 n2
        exact ⟨r, goI _ (jI _ (Ev.congr (fun k => if_pos hq) f1)), goS _ (jS _ (Ev.congr (fun k => if_pos hq) f2)), f3⟩
      | false =>
        obtain ⟨r, f1, f2, f3⟩ := rest v r1 p1 s1 n1
        exact ⟨r, goI _ (jI _ (Ev.congr (fun k => if_neg (by simp [hq])) f1)), goS _ (jS _ (Ev.congr (fun k => if_neg (by simp [hq])) f2)), f3⟩
/-- SolveTwo, both -/
theorem SolveTwo_ev (vars : Int) (l : List (List Int)) (hl : l.length ≤ 1048576) (hx : ∀ c ∈ l, c.length ≤ 1048576) : ∃ r b1 b2, Ev (fun k => impl_SolveTwo.f k vars l) (r, b1, b2) ∧ Ev (fun k => spec_SolveTwo.f k vars l) (r, b1, b2) ∧ r.length ≤ 12 := by
  have hI := isTwo_f vars l
  have hS := specIsTwo_ev vars l hl hx
  cases ht : twoB vars l with
  | false =>
    rw [ht] at hI hS
    refine ⟨[], false, false, Ev.all (fun k => ?_), Ev.bind (f := fun k t => if t = true then (spec_l15Opposed.f k vars l).bind fun t2 => if t2 > 0 then some (([] : List Bool), false, true) else spec_SolveTwo.l0 k vars l [] 1 else some (([] : List Bool), false, false)) hS (Ev.all (fun k => if_neg (by simp))), by simp⟩
    unfold impl_SolveTwo.f; rw [hI, Option.bind_some, if_neg (by simp)]
  | true =>
    rw [ht] at hI hS
    have h2 := two_of vars l ht
    obtain ⟨o, h1, h3, h4⟩ := opposed_ev h2
    have h0 := h2.1
    have h12 := h2.2.1
    have enterI : ∀ k, impl_SolveTwo.f k vars l = (impl_opposed.f k vars l).bind fun b => if b.2 = true then some (([] : List Bool), false, true) else impl_SolveTwo.l0 k vars l [] 1 := fun k => by
      unfold impl_SolveTwo.f; rw [hI, Option.bind_some, if_pos rfl]
    have specE : ∀ q, Ev (fun k => if o > 0 then some (([] : List Bool), false, true) else spec_SolveTwo.l0 k vars l [] 1) q → Ev (fun k => spec_SolveTwo.f k vars l) q := fun q h =>
      Ev.bind (f := fun k t => if t = true then (spec_l15Opposed.f k vars l).bind fun t2 => if t2 > 0 then some (([] : List Bool), false, true) else spec_SolveTwo.l0 k vars l [] 1 else some (([] : List Bool), false, false)) hS (Ev.congr (fun k => if_pos rfl) (Ev.bind (f := fun k t2 => if t2 > 0 then some (([] : List Bool), false, true) else spec_SolveTwo.l0 k vars l [] 1) h3 h))
    by_cases ho : o = 0
    · obtain ⟨r, f1, f2, f3⟩ := solveL_ev h2 _ 1 [] [] (by omega) (by omega) rfl (fun _ => Iff.rfl) (by simp only [List.length_nil]; omega) (by simp only [List.length_nil]; omega)
      exact ⟨r, true, true, Ev.congr enterI (Ev.bind (f := fun k b => if b.2 = true then some (([] : List Bool), false, true) else impl_SolveTwo.l0 k vars l [] 1) h1 (Ev.congr (fun k => if_neg (by simp [ho])) f1)), specE _ (Ev.congr (fun k => if_neg (by omega)) f2), f3⟩
    · have ho1 : o > 0 := by rcases h4 with h | h <;> omega
      exact ⟨[], false, true, Ev.congr enterI (Ev.bind (f := fun k b => if b.2 = true then some (([] : List Bool), false, true) else impl_SolveTwo.l0 k vars l [] 1) h1 (Ev.all (fun k => if_pos (by simp [ho])))), specE _ (Ev.all (fun k => if_pos ho1)), by simp⟩
end Go.Proofs.Ythjgcapfojhfjaa.P
