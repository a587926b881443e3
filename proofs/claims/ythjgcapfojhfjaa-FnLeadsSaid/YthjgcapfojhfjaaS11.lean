import Derived.Test.YthjgcapfojhfjaaS10
import Derived.Test.YthjgcapfojhfjaaP12
import Derived.Test.YthjgcapfojhfjaaP13
import Derived.Test.YthjgcapfojhfjaaP11
import Derived.Test.YthjgcapfojhfjaaP11
import Derived.Test.YthjgcapfojhfjaaP13
namespace Go.Proofs.Ythjgcapfojhfjaa.P
open Go.RowKit Go.Proofs.YthjgcapfojhfjaaW.PrintWords
/-- small rows -/
def Small (l : List (List Int)) (n : Nat) : Prop := l.length ≤ n ∧ ∀ c ∈ l, c.length ≤ 40
theorem twosL_ev {s : List Int} (hs : Bytes s) (vars : Int) : ∀ d (n : Int) (l : List (List Int)) (i h : Int), n.toNat = d → n ≤ 100 → 0 ≤ i → i + 20 * d ≤ 1000000000000000000 → l.length + d ≤ 100 → (∀ c ∈ l, c.length ≤ 40) → ∃ r i' h', Ev (fun k => spec_l1Cur_twos.l0 k vars l n s i h) (vars, r, i', h') ∧ Small r 100 ∧ 0 ≤ i' ∧ i' ≤ 2000000000000000000 := by
  intro d
  induction d with
  | zero =>
    intro n l i h hd hn h0 h1 hl hc
    by_cases c1 : (l.length : Int) > 0
    · obtain ⟨b, i2, h2, e2, b2, b3⟩ := one_tot hs i h 30 h0 (by omega)
      cases b with
      | true =>
        obtain ⟨v, i3, h3, e3, b4, b5, b6⟩ := among3_tot hs i2 h2 (by omega) (by omega)
        refine ⟨l.set 0 v, i3, h3, Ev.one (fun k => ?_), ⟨by simp; omega, fun c hm => ?_⟩, by omega, by omega⟩
        · simp only [spec_l1Cur_twos.l0]
          rw [if_neg (by omega), if_pos c1, e2, Option.bind_some, if_pos rfl, e3, Option.bind_some, if_pos (by omega)]; rfl
        · rcases List.mem_or_eq_of_mem_set hm with hm | rfl
          · exact hc c hm
          · omega
      | false =>
        refine ⟨l, i2, h2, Ev.one (fun k => ?_), ⟨by omega, hc⟩, by omega, by omega⟩
        simp only [spec_l1Cur_twos.l0]
        rw [if_neg (by omega), if_pos c1, e2, Option.bind_some, if_neg (by simp)]
    · refine ⟨l, i, h, Ev.one (fun k => ?_), ⟨by omega, hc⟩, by omega, by omega⟩
      simp only [spec_l1Cur_twos.l0]
      rw [if_neg (by omega), if_neg c1]
  | succ d ih =>
    intro n l i h hd hn h0 h1 hl hc
    have hn0 : n > 0 := by omega
    have hw : wrap64 (n - 1) = n - 1 := by unfold wrap64; omega
    obtain ⟨v, i2, h2, e2, b2, b3⟩ := lit_tot hs i h vars h0 (by omega)
    obtain ⟨b, i3, h3, e3, b4, b5⟩ := one_tot hs i2 h2 6 (by omega) (by omega)
    -- behind a clause that was cleaned
    have rest : ∀ (y : List Int) (j g : Int), y.length ≤ 2 → 0 ≤ j → j + 20 * d ≤ 1000000000000000000 → ∃ r i' h', Ev (fun k => (spec_CleanClause.f k y).bind fun t => if t.2 = true then (if l.length < 5864062014805 then spec_l1Cur_twos.l0 k vars (l ++ [t.1]) (n - 1) s j g else none) else spec_l1Cur_twos.l0 k vars l (n - 1) s j g) (vars, r, i', h') ∧ Small r 100 ∧ 0 ≤ i' ∧ i' ≤ 2000000000000000000 := fun y j g hy hj0 hj1 => by
      obtain ⟨q, ok, hq, hql⟩ := clean_ev y (by omega)
      cases ok with
      | true =>
        obtain ⟨r, i', h', f1, f2⟩ := ih (n - 1) (l ++ [q]) j g (by omega) (by omega) hj0 hj1 (by simp; omega) (fun c hm => by
          rcases List.mem_append.1 hm with hm | hm
          · exact hc c hm
          · rw [List.mem_singleton.1 hm]; omega)
        exact ⟨r, i', h', Ev.bind (f := fun k t => if t.2 = true then (if l.length < 5864062014805 then spec_l1Cur_twos.l0 k vars (l ++ [t.1]) (n - 1) s j g else none) else spec_l1Cur_twos.l0 k vars l (n - 1) s j g) hq (Ev.congr (fun k => by rw [if_pos rfl, if_pos (by omega)]) f1), f2⟩
      | false =>
        obtain ⟨r, i', h', f1, f2⟩ := ih (n - 1) l j g (by omega) (by omega) hj0 hj1 (by omega) hc
        exact ⟨r, i', h', Ev.bind (f := fun k t => if t.2 = true then (if l.length < 5864062014805 then spec_l1Cur_twos.l0 k vars (l ++ [t.1]) (n - 1) s j g else none) else spec_l1Cur_twos.l0 k vars l (n - 1) s j g) hq (Ev.congr (fun k => if_neg (by simp)) f1), f2⟩
    cases b with
    | true =>
      obtain ⟨r, i', h', f1, f2⟩ := rest [v] i3 h3 (by simp) (by omega) (by omega)
      refine ⟨r, i', h', Ev.step (fun k => ?_) f1, f2⟩
      simp only [spec_l1Cur_twos.l0]
      rw [if_pos hn0, e2, Option.bind_some, Option.bind_some]
      show ((spec_l1Cur_one.f s i2 h2 6).bind _) = _
      rw [e3, Option.bind_some, if_pos rfl, hw]
    | false =>
      obtain ⟨v2, i4, h4, e4, b6, b7⟩ := lit_tot hs i3 h3 vars (by omega) (by omega)
      obtain ⟨r, i', h', f1, f2⟩ := rest ([v] ++ [v2]) i4 h4 (by simp) (by omega) (by omega)
      refine ⟨r, i', h', Ev.step (fun k => ?_) f1, f2⟩
      simp only [spec_l1Cur_twos.l0]
      rw [if_pos hn0, e2, Option.bind_some, Option.bind_some]
      show ((spec_l1Cur_one.f s i2 h2 6).bind _) = _
      rw [e3, Option.bind_some, if_neg (by simp)]
      show ((spec_l1Cur_lit.f s i3 h3 vars).bind _) = _
      rw [e4, Option.bind_some, if_pos (by simp), hw]
theorem twos_ev {s : List Int} (hs : Bytes s) : ∃ vars r i' h', Ev (fun k => spec_l1Cur_twos.f k s 0 0) (vars, r, i', h') ∧ Small r 100 ∧ 0 ≤ i' ∧ i' ≤ 2000000000000000000 ∧ 0 ≤ vars ∧ vars ≤ 13 := by
  obtain ⟨v, i1, h1, e1, p0, p1, p2, p3⟩ := pick_tot hs 0 0 6 (by omega) (by omega)
  obtain ⟨b, i2, h2, e2, q0, q1⟩ := one_tot hs i1 h1 30 (by omega) (by omega)
  have rest : ∀ (vars i h : Int), 0 ≤ i → i ≤ 1000 → ∃ r i' h', Ev (fun k => spec_l1Cur_twos.j0 k vars s i h) (vars, r, i', h') ∧ Small r 100 ∧ 0 ≤ i' ∧ i' ≤ 2000000000000000000 := fun vars i h a0 a1 => by
    obtain ⟨n, i3, h3, e3, b0, b1, b2, b3⟩ := pick_tot hs i h 12 a0 (by omega)
    obtain ⟨r, i', h', f1, f2⟩ := twosL_ev hs vars _ (if vars = 0 then 0 else n) [] i3 h3 rfl (by split <;> omega) (by omega) (by split <;> omega) (by split <;> simp <;> omega) (by simp)
    refine ⟨r, i', h', Ev.step (g := fun k => spec_l1Cur_twos.j0 k vars s i h) (f := fun k => spec_l1Cur_twos.j1 k vars [] (if vars = 0 then 0 else n) s i3 h3) (fun k => ?_) (Ev.step (fun k => ?_) f1), f2⟩
    · show spec_l1Cur_twos.j0 (k + 1) vars s i h = _
      simp only [spec_l1Cur_twos.j0]
      rw [e3, Option.bind_some]
      by_cases hv : vars = 0
      · rw [if_pos hv, if_pos hv]
      · rw [if_neg hv, if_neg hv]
    · simp only [spec_l1Cur_twos.j1]
  cases b with
  | true =>
    obtain ⟨w, i3, h3, e3, m0, m1, m2⟩ := among_tot hs i2 h2 [0, 10, 13] (by omega) (by omega) (by simp)
    obtain ⟨r, i', h', f1, f2, f3, f4⟩ := rest w i3 h3 (by omega) (by omega)
    refine ⟨w, r, i', h', Ev.congr (fun k => ?_) f1, f2, f3, f4, ?_⟩
    · unfold spec_l1Cur_twos.f
      rw [e1, Option.bind_some]
      show ((spec_l1Cur_one.f s i1 h1 30).bind _) = _
      rw [e2, Option.bind_some, if_pos rfl]
      show ((spec_l1Cur_among.f s i2 h2 [0, 10, 13]).bind _) = _
      rw [e3, Option.bind_some]
    · simp only [List.mem_cons, List.not_mem_nil, or_false] at m0; omega
  | false =>
    have hw : wrap64 (1 + v) = 1 + v := by unfold wrap64; omega
    obtain ⟨r, i', h', f1, f2, f3, f4⟩ := rest (1 + v) i2 h2 (by omega) (by omega)
    refine ⟨1 + v, r, i', h', Ev.congr (fun k => ?_) f1, f2, f3, f4, by omega, by omega⟩
    unfold spec_l1Cur_twos.f
    rw [e1, Option.bind_some]
    show ((spec_l1Cur_one.f s i1 h1 30).bind _) = _
    rw [e2, Option.bind_some, if_neg (by simp), hw]
theorem DrawLeadsTo_ev {s : List Int} (hs : Bytes s) : ∃ vars l x, Ev (fun k => spec_DrawLeadsTo.f k s) (vars, l, x) ∧ Small l 100 := by
  obtain ⟨vars, r, i, h, e, b1, b2, b3, _⟩ := twos_ev hs
  obtain ⟨v, i2, h2, e2, _⟩ := pick_tot hs i h (wrap64 (wrap64 (2 * vars) + 3)) b2 (by omega)
  refine ⟨vars, r, wrap64 ((wrap64 (v - vars)) - 1), Ev.bind (f := fun _ (t : Int × List (List Int) × Int × Int) => (spec_l1Cur_pick.f s t.2.2.1 t.2.2.2 (wrap64 ((wrap64 (2 * t.1)) + 3))).bind fun q => some (t.1, t.2.1, wrap64 ((wrap64 (q.1 - t.1)) - 1))) e (Ev.all (fun _ => ?_)), b1⟩
  · show (spec_l1Cur_pick.f s i h (wrap64 ((wrap64 (2 * vars)) + 3))).bind _ = some (vars, r, wrap64 ((wrap64 (v - vars)) - 1))
    rw [e2, Option.bind_some]
theorem DrawIsTwo_ev {s : List Int} (hs : Bytes s) : ∃ vars l, Ev (fun k => spec_DrawIsTwo.f k s) (vars, l) ∧ Small l 100 := by
  obtain ⟨vars, r, i, h, e, b1, _⟩ := twos_ev hs
  exact ⟨vars, r, Ev.bind (f := fun _ (t : Int × List (List Int) × Int × Int) => some (t.1, t.2.1)) e (Ev.now _), b1⟩
theorem DrawLoopsOf_ev {s : List Int} (hs : Bytes s) : ∃ vars l, Ev (fun k => spec_DrawLoopsOf.f k s) (vars, l) ∧ Small l 100 := by
  obtain ⟨vars, r, e, b1⟩ := DrawIsTwo_ev hs
  exact ⟨vars, r, Ev.bind (f := fun _ (t : Int × List (List Int)) => some (t.1, t.2)) e (Ev.now _), b1⟩
theorem DrawTwoOf_ev {s : List Int} (hs : Bytes s) : ∃ vars l, Ev (fun k => spec_DrawTwoOf.f k s) (vars, l) ∧ Small l 100 := by
  obtain ⟨vars, r, i, h, e, b1, b2, b3, _⟩ := twos_ev hs
  have key : ∀ d n (q : List (List Int)) (i h : Int), n ≤ r.length → r.length - n = d → 0 ≤ i → i + 10 * d ≤ 3000000000000000000 → q.length ≤ n → (∀ c ∈ q, c.length ≤ 40) → ∃ q', Ev (fun k => spec_DrawTwoOf.l0 k vars q r (r.length : Int) (n : Int) s i h) (vars, q') ∧ Small q' 100 := by
    intro d
    induction d with
    | zero =>
      intro n q i h hn hd h0 h1 hq hc
      refine ⟨q, Ev.one (fun k => ?_), by have := b1.1; omega, hc⟩
      simp only [spec_DrawTwoOf.l0]; rw [if_neg (by omega)]
    | succ d ih =>
      intro n q i h hn hd h0 h1 hq hc
      have hm : rd_L1 r (n : Int) ∈ r := by rw [rdL_nat]; exact memL r n (by omega)
      have hc' : ∀ c ∈ q ++ [rd_L1 r (n : Int)], c.length ≤ 40 := fun c hm' => by
        rcases List.mem_append.1 hm' with h | h
        · exact hc c h
        · rw [List.mem_singleton.1 h]; exact b1.2 _ hm
      have hlr := b1.1
      by_cases c2 : ((rd_L1 r (n : Int)).length : Int) = 2
      · obtain ⟨q', f1, f2⟩ := ih (n + 1) (q ++ [rd_L1 r (n : Int)]) i h (by omega) (by omega) h0 (by omega) (by simp; omega) hc'
        refine ⟨q', Ev.step (fun k => ?_) f1, f2⟩
        simp only [spec_DrawTwoOf.l0]
        rw [if_pos (by omega), if_pos (by omega), if_pos (by omega), if_pos c2, if_pos (by omega), wr_succ (by omega) (by omega)]; rfl
      · obtain ⟨b, i2, h2, e2, b4, b5⟩ := one_tot hs i h 12 h0 (by omega)
        cases b with
        | true =>
          obtain ⟨q', f1, f2⟩ := ih (n + 1) (q ++ [rd_L1 r (n : Int)]) i2 h2 (by omega) (by omega) (by omega) (by omega) (by simp; omega) hc'
          refine ⟨q', Ev.step (fun k => ?_) f1, f2⟩
          simp only [spec_DrawTwoOf.l0]
          rw [if_pos (by omega), if_pos (by omega), if_pos (by omega), if_neg c2, e2, Option.bind_some, if_pos rfl, if_pos (by omega), wr_succ (by omega) (by omega)]; rfl
        | false =>
          obtain ⟨q', f1, f2⟩ := ih (n + 1) q i2 h2 (by omega) (by omega) (by omega) (by omega) (by omega) hc
          refine ⟨q', Ev.step (fun k => ?_) f1, f2⟩
          simp only [spec_DrawTwoOf.l0]
          rw [if_pos (by omega), if_pos (by omega), if_pos (by omega), if_neg c2, e2, Option.bind_some, if_neg (by simp), wr_succ (by omega) (by omega)]; rfl
  have hlr := b1.1
  obtain ⟨q', f1, f2⟩ := key _ 0 [] i h (by omega) rfl b2 (by omega) (by simp) (by simp)
  exact ⟨vars, q', Ev.bind (f := fun k (t : Int × List (List Int) × Int × Int) => spec_DrawTwoOf.l0 k t.1 [] t.2.1 (t.2.1.length : Int) 0 s t.2.2.1 t.2.2.2) e f1, f2⟩
end Go.Proofs.Ythjgcapfojhfjaa.P
