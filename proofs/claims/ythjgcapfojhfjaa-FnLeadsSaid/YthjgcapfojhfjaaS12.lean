import Derived.Test.YthjgcapfojhfjaaS11
namespace Go.Proofs.Ythjgcapfojhfjaa.P
open Go.RowKit Go.Proofs.YthjgcapfojhfjaaW.PrintWords
theorem LeadsTo_full (vars : Int) (l : List (List Int)) (x : Int) (hl : l.length ≤ 1048576) (hx : ∀ c ∈ l, c.length ≤ 1048576) : ∃ r, Ev (fun k => impl_LeadsTo.f k vars l x) (r, twoB vars l && litB x vars) ∧ Ev (fun k => spec_LeadsTo.f k vars l x) (r, twoB vars l && litB x vars) ∧ r.length ≤ 25 ∧ ((twoB vars l && litB x vars) = true → Is l x r) := by
  obtain ⟨r, ok, h1, h2, h3⟩ := LeadsTo_ev vars l x hl hx
  have hI := isTwo_f vars l
  cases ht : twoB vars l with
  | false =>
    rw [ht] at hI
    have he : Ev (fun k => impl_LeadsTo.f k vars l x) ([], false) := Ev.all (fun k => by unfold impl_LeadsTo.f; rw [hI, Option.bind_some, if_neg (by simp)])
    have := Prod.mk.inj (Ev.unique h1 he)
    obtain ⟨rfl, rfl⟩ := this
    exact ⟨[], h1, h2, h3, fun h => by simp at h⟩
  | true =>
    rw [ht] at hI
    have h2' := two_of vars l ht
    have hL := litB_f x vars h2'.1 h2'.2.1
    have enterI : ∀ k, impl_LeadsTo.f k vars l x = if litB x vars = true then (impl_leadsTo.f k l x).bind fun t => some (t, true) else some (([] : List Int), false) := fun k => by
      unfold impl_LeadsTo.f; rw [hI, Option.bind_some, if_pos rfl, hL, Option.bind_some]
    cases hlit : litB x vars with
    | false =>
      have he : Ev (fun k => impl_LeadsTo.f k vars l x) ([], false) := Ev.all (fun k => by rw [enterI, hlit, if_neg (by simp)])
      have := Prod.mk.inj (Ev.unique h1 he)
      obtain ⟨rfl, rfl⟩ := this
      exact ⟨[], h1, h2, h3, fun h => by simp at h⟩
    | true =>
      obtain ⟨q, g3, _, g5, _⟩ := ld_ev h2' ((litB_iff x vars).1 hlit)
      have he : Ev (fun k => impl_LeadsTo.f k vars l x) (q, true) := Ev.congr (fun k => by rw [enterI, hlit, if_pos rfl]) (Ev.bind (f := fun _ t => some (t, true)) g3 (Ev.now _))
      have := Prod.mk.inj (Ev.unique h1 he)
      obtain ⟨rfl, rfl⟩ := this
      exact ⟨r, h1, h2, h3, fun _ => g5⟩
theorem arc_skew {l : List (List Int)} {y w : Int} (h : Arc l y w) : Arc l (-w) (-y) := by
  obtain ⟨c, hc, h⟩ := h
  refine ⟨c, hc, ?_⟩
  rcases h with ⟨e, hw⟩ | ⟨a, e, ha⟩ | ⟨b, e, hb⟩
  · subst hw; exact .inl ⟨e, by omega⟩
  · subst ha; exact .inr (.inr ⟨w, e, by omega⟩)
  · subst hb; exact .inr (.inl ⟨w, e, by omega⟩)
theorem reach_skew {l : List (List Int)} {x z : Int} (h : Reach l x z) : Reach l (-z) (-x) := by
  refine h (fun z => Reach l (-z) (-x)) (Reach.refl l _) (fun y w hy ha => ?_)
  exact ((Reach.refl l (-w)).step (arc_skew ha)).trans hy
theorem sameInts_ev (l : List Int) (hl : l.length ≤ 1048576) : Ev (fun k => laws_sameInts.f k l l) true := by
  have key : ∀ d n, n ≤ l.length → l.length - n = d → Ev (fun k => laws_sameInts.l0 k l l (l.length : Int) (n : Int)) true := by
    intro d
    induction d with
    | zero =>
      intro n hn hd
      refine Ev.one (fun k => ?_)
      simp only [laws_sameInts.l0]; rw [if_neg (by omega)]
    | succ d ih =>
      intro n hn hd
      refine Ev.step (fun k => ?_) (ih (n + 1) (by omega) (by omega))
      simp only [laws_sameInts.l0]
      rw [if_pos (by omega), if_pos (by omega), if_pos (by omega), if_pos (by omega), if_pos trivial, wr_succ (by omega) (by omega)]; rfl
  exact Ev.congr (fun k => by unfold laws_sameInts.f; rw [if_pos rfl]; rfl) (key _ 0 (by omega) rfl)
theorem sameRows_ev (l : List (List Int)) (hl : l.length ≤ 1048576) (hx : ∀ c ∈ l, c.length ≤ 1048576) : Ev (fun k => laws_sameRows.f k l l) true := by
  have key : ∀ d n, n ≤ l.length → l.length - n = d → Ev (fun k => laws_sameRows.l0 k l l (l.length : Int) (n : Int)) true := by
    intro d
    induction d with
    | zero =>
      intro n hn hd
      refine Ev.one (fun k => ?_)
      simp only [laws_sameRows.l0]; rw [if_neg (by omega)]
    | succ d ih =>
      intro n hn hd
      have hm : rd_L1 l (n : Int) ∈ l := by rw [rdL_nat]; exact memL l n (by omega)
      refine Ev.step (g := fun k => laws_sameRows.l0 k l l (l.length : Int) (n : Int)) (f := fun k => (laws_sameInts.f k (rd_L1 l (n : Int)) (rd_L1 l (n : Int))).bind fun t => if t = true then laws_sameRows.l0 k l l (l.length : Int) ((n + 1 : Nat) : Int) else some false) (fun k => ?_) (Ev.bind (f := fun k t => if t = true then laws_sameRows.l0 k l l (l.length : Int) ((n + 1 : Nat) : Int) else some false) (sameInts_ev _ (hx _ hm)) (Ev.congr (fun k => if_pos rfl) (ih (n + 1) (by omega) (by omega))))
      show laws_sameRows.l0 (k + 1) l l (l.length : Int) (n : Int) = _
      simp only [laws_sameRows.l0]
      rw [if_pos (by omega), if_pos (by omega), if_pos (by omega), if_pos (by omega), wr_succ (by omega) (by omega)]; rfl
  exact Ev.congr (fun k => by unfold laws_sameRows.f; rw [if_pos rfl]; rfl) (key _ 0 (by omega) rfl)
theorem lawHas_ev (l : List Int) (x : Int) (hl : l.length ≤ 1048576) : Ev (fun k => laws_has.f k l x) (l.contains x) := by
  have key : ∀ d n, n ≤ l.length → l.length - n = d → Ev (fun k => laws_has.l0 k x l (l.length : Int) (n : Int)) ((l.drop n).contains x) := by
    intro d
    induction d with
    | zero =>
      intro n hn hd
      refine Ev.one (fun k => ?_)
      rw [List.drop_of_length_le (by omega)]
      simp only [laws_has.l0]; rw [if_neg (by omega)]; rfl
    | succ d ih =>
      intro n hn hd
      rw [drop_rd l n (by omega), List.contains_cons]
      by_cases e : rd l (n : Int) = x
      · refine evEq (Ev.one (r := true) (fun k => ?_)) (by simp [e])
        simp only [laws_has.l0]
        rw [if_pos (by omega), if_pos (by omega), if_pos (by omega), if_pos e]
      · refine evEq (Ev.step (fun k => ?_) (ih (n + 1) (by omega) (by omega))) (by
          have : (x == rd l (n : Int)) = false := beq_eq_false_iff_ne.2 (fun h => e h.symm)
          rw [this, Bool.false_or])
        simp only [laws_has.l0]
        rw [if_pos (by omega), if_pos (by omega), if_pos (by omega), if_neg e, wr_succ (by omega) (by omega)]; rfl
  have := key _ 0 (by omega) rfl
  rw [List.drop_zero] at this
  exact Ev.congr (fun k => by unfold laws_has.f; rfl) this
/-- the clauses of arcs -/
def arcC (c : List Int) : List Int := [-(rd c 0), rd c 1]
theorem twoOfL_ev (a : Int) (h0 : 0 ≤ a) (h1 : a ≤ 12) (l : List (List Int)) (hl : l.length ≤ 60) (_hx : ∀ c ∈ l, c.length ≤ 1048576) : ∀ d n (out : List (List Int)), n ≤ l.length → l.length - n = d → out.length ≤ n → ∃ r ok, Ev (fun k => impl_TwoOf.l0 k a out l (l.length : Int) (n : Int)) (r, ok) ∧ Ev (fun k => spec_TwoOf.l0 k a out l (l.length : Int) (n : Int)) (r, ok) ∧ (ok = true → r = out ++ (l.drop n).map arcC ∧ ∀ c ∈ l.drop n, c.length = 2 ∧ clauseB c a = true) ∧ (ok = false → r = []) := by
  intro d
  induction d with
  | zero =>
    intro n out hn hd ho
    refine ⟨out, true, Ev.one (fun k => ?_), Ev.one (fun k => ?_), fun _ => ?_, fun h => by cases h⟩
    · simp only [impl_TwoOf.l0]; rw [if_neg (by omega)]
    · simp only [spec_TwoOf.l0]; rw [if_neg (by omega)]
    · rw [List.drop_of_length_le (by omega)]; simp
  | succ d ih =>
    intro n out hn hd ho
    have hm : rd_L1 l (n : Int) ∈ l := by rw [rdL_nat]; exact memL l n (by omega)
    have hdr : l.drop n = rd_L1 l (n : Int) :: l.drop (n + 1) := by rw [rdL_nat]; exact dropL l n (by omega)
    generalize hC : rd_L1 l (n : Int) = c at hm hdr
    by_cases h2 : (c.length : Int) = 2
    · have hi : impl_isClause.f c a = some (clauseB c a) := by unfold impl_isClause.f; rw [if_pos ⟨h0, h1⟩]
      have hsp := l4Clause_ev a c h0 h1 (by omega)
      cases hb : clauseB c a with
      | false =>
        rw [hb] at hi hsp
        refine ⟨[], false, Ev.one (fun k => ?_), ?_, fun h => (by cases h), fun _ => rfl⟩
        · simp only [impl_TwoOf.l0]
          rw [if_pos (by omega), if_pos (by omega), if_pos (by omega), hC, if_pos h2, hi, Option.bind_some, if_neg (by simp)]
        · refine Ev.step (g := fun k => spec_TwoOf.l0 k a out l (l.length : Int) (n : Int)) (f := fun k => (spec_l4Clause.f k a c).bind fun t => if t = true then (if 0 < (c.length : Int) then (if 1 < (c.length : Int) then (if out.length < 5864062014805 then spec_TwoOf.l0 k a (out ++ [[wrap64 (-(rd c 0)), rd c 1]]) l (l.length : Int) ((n + 1 : Nat) : Int) else none) else none) else none) else some ([], false)) (fun k => ?_) (Ev.bind (f := fun k t => if t = true then (if 0 < (c.length : Int) then (if 1 < (c.length : Int) then (if out.length < 5864062014805 then spec_TwoOf.l0 k a (out ++ [[wrap64 (-(rd c 0)), rd c 1]]) l (l.length : Int) ((n + 1 : Nat) : Int) else none) else none) else none) else some ([], false)) hsp (Ev.all (fun k => if_neg (by simp))))
          show spec_TwoOf.l0 (k + 1) a out l (l.length : Int) (n : Int) = _
          simp only [spec_TwoOf.l0]
          rw [if_pos (by omega), if_pos (by omega), if_pos (by omega), hC, if_pos h2, wr_succ (by omega) (by omega)]; rfl
      | true =>
        rw [hb] at hi hsp
        have hlit : Lt a (rd c 0) := by
          match c, h2 with
          | [p, q], _ => exact (litB_iff p a).1 (clauseFrom_cons (clauseB_from hb)).1
        have hw : wrap64 (-(rd c 0)) = -(rd c 0) := by unfold Lt at hlit; unfold wrap64; omega
        obtain ⟨r, ok, f1, f2, f3, f4⟩ := ih (n + 1) (out ++ [arcC c]) (by omega) (by omega) (by simp; omega)
        refine ⟨r, ok, Ev.step (fun k => ?_) f1, ?_, fun h => ?_, f4⟩
        · simp only [impl_TwoOf.l0]
          rw [if_pos (by omega), if_pos (by omega), if_pos (by omega), hC, if_pos h2, hi, Option.bind_some, if_pos rfl, if_pos (by omega), if_pos (by omega), if_pos (by omega), wr_succ (by omega) (by omega), hw]; rfl
        · refine Ev.step (g := fun k => spec_TwoOf.l0 k a out l (l.length : Int) (n : Int)) (f := fun k => (spec_l4Clause.f k a c).bind fun t => if t = true then (if 0 < (c.length : Int) then (if 1 < (c.length : Int) then (if out.length < 5864062014805 then spec_TwoOf.l0 k a (out ++ [[wrap64 (-(rd c 0)), rd c 1]]) l (l.length : Int) ((n + 1 : Nat) : Int) else none) else none) else none) else some ([], false)) (fun k => ?_) (Ev.bind (f := fun k t => if t = true then (if 0 < (c.length : Int) then (if 1 < (c.length : Int) then (if out.length < 5864062014805 then spec_TwoOf.l0 k a (out ++ [[wrap64 (-(rd c 0)), rd c 1]]) l (l.length : Int) ((n + 1 : Nat) : Int) else none) else none) else none) else some ([], false)) hsp (Ev.congr (fun k => by rw [if_pos rfl, if_pos (by omega), if_pos (by omega), if_pos (by omega), hw]; rfl) f2))
          show spec_TwoOf.l0 (k + 1) a out l (l.length : Int) (n : Int) = _
          simp only [spec_TwoOf.l0]
          rw [if_pos (by omega), if_pos (by omega), if_pos (by omega), hC, if_pos h2, wr_succ (by omega) (by omega)]; rfl
        · obtain ⟨g1, g2⟩ := f3 h
          refine ⟨by rw [g1, hdr, List.map_cons, List.append_assoc]; rfl, fun c' hc' => ?_⟩
          rw [hdr] at hc'
          rcases List.mem_cons.1 hc' with rfl | hc'
          · exact ⟨by omega, hb⟩
          · exact g2 c' hc'
    · refine ⟨[], false, Ev.one (fun k => ?_), Ev.one (fun k => ?_), fun h => (by cases h), fun _ => rfl⟩
      · simp only [impl_TwoOf.l0]
        rw [if_pos (by omega), if_pos (by omega), if_pos (by omega), hC, if_neg h2]
      · simp only [spec_TwoOf.l0]
        rw [if_pos (by omega), if_pos (by omega), if_pos (by omega), hC, if_neg h2]
theorem TwoOf_ev (a : Int) (l : List (List Int)) (hx : ∀ c ∈ l, c.length ≤ 1048576) : ∃ r ok, Ev (fun k => impl_TwoOf.f k a l) (r, ok) ∧ Ev (fun k => spec_TwoOf.f k a l) (r, ok) ∧ r.length ≤ 60 ∧ (∀ c ∈ r, c.length ≤ 2) ∧ (ok = true → 0 ≤ a ∧ a ≤ 12 ∧ l.length ≤ 60 ∧ r = l.map arcC ∧ ∀ c ∈ l, c.length = 2 ∧ clauseB c a = true) := by
  have hin : impl_in.f a 0 12 = some (decide (0 ≤ a) && decide (a ≤ 12)) := by
    unfold impl_in.f
    by_cases h : a ≥ 0
    · rw [if_pos h, show decide (0 ≤ a) = true from decide_eq_true h]; rfl
    · rw [if_neg h, show decide (0 ≤ a) = false from decide_eq_false h]; rfl
  have hsp := l1In_f a 0 12
  have out : ∀ b : Bool, b = true → Ev (fun k => impl_TwoOf.j0 k a l b) ([], false) ∧ Ev (fun k => spec_TwoOf.j0 k a l b) ([], false) := fun b hb => by
    subst hb
    constructor
    · refine Ev.one (fun k => ?_); simp only [impl_TwoOf.j0]; rw [if_pos trivial]
    · refine Ev.one (fun k => ?_); simp only [spec_TwoOf.j0]; rw [if_pos trivial]
  cases hb : (decide (0 ≤ a) && decide (a ≤ 12)) with
  | false =>
    rw [hb] at hin hsp
    refine ⟨[], false, Ev.congr (fun k => ?_) (out true rfl).1, Ev.congr (fun k => ?_) (out true rfl).2, by simp, by simp, fun h => by cases h⟩
    · unfold impl_TwoOf.f; rw [hin, Option.bind_some, if_neg (by simp)]
    · unfold spec_TwoOf.f; rw [hsp, Option.bind_some, if_neg (by simp)]
  | true =>
    rw [hb] at hin hsp
    simp only [Bool.and_eq_true, decide_eq_true_eq] at hb
    have eI : ∀ k, impl_TwoOf.f k a l = impl_TwoOf.j0 k a l (decide ((l.length : Int) > 60)) := fun k => by unfold impl_TwoOf.f; rw [hin, Option.bind_some, if_pos rfl]
    have eS : ∀ k, spec_TwoOf.f k a l = spec_TwoOf.j0 k a l (decide ((l.length : Int) > 60)) := fun k => by unfold spec_TwoOf.f; rw [hsp, Option.bind_some, if_pos rfl]
    by_cases h60 : (l.length : Int) > 60
    · have ho := out (decide ((l.length : Int) > 60)) (decide_eq_true h60)
      exact ⟨[], false, Ev.congr eI ho.1, Ev.congr eS ho.2, by simp, by simp, fun h => by cases h⟩
    · obtain ⟨r, ok, f1, f2, f3, f4⟩ := twoOfL_ev a hb.1 hb.2 l (by omega) hx _ 0 [] (by omega) rfl (by simp)
      rw [List.drop_zero] at f3
      refine ⟨r, ok, Ev.congr eI (Ev.step (fun k => ?_) f1), Ev.congr eS (Ev.step (fun k => ?_) f2), ?_, ?_, fun h => ⟨hb.1, hb.2, by omega, by rw [(f3 h).1]; rfl, (f3 h).2⟩⟩
      · simp only [impl_TwoOf.j0]; rw [if_neg (by simp; omega)]; rfl
      · simp only [spec_TwoOf.j0]; rw [if_neg (by simp; omega)]; rfl
      · cases ok with
        | true => rw [(f3 rfl).1]; simp; omega
        | false => rw [f4 rfl]; simp
      · cases ok with
        | true =>
          rw [(f3 rfl).1]
          intro c hc
          obtain ⟨c', _, rfl⟩ := List.mem_map.1 (by simpa using hc)
          simp [arcC]
        | false => rw [f4 rfl]; simp
end Go.Proofs.Ythjgcapfojhfjaa.P
