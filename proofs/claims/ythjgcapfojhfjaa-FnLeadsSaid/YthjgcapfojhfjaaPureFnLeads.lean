import Derived.Test.YthjgcapfojhfjaaS13
import Derived.Test.YthjgcapfojhfjaaP14
namespace Go.Proofs.Ythjgcapfojhfjaa.P
open Go.RowKit Go.Proofs.YthjgcapfojhfjaaW.PrintWords Go.Proofs.YthjgcapfojhfjaaW.PrintLast
theorem two_arc {a : Int} {c : List Int} (h : c.length = 2 ∧ clauseB c a = true) : Lt a (rd c 0) ∧ Lt a (rd c 1) ∧ (!clauseB (arcC c) a) = false := by
  obtain ⟨h2, hb⟩ := h
  match c, h2 with
  | [p, q], _ =>
    obtain ⟨h5, _, h6⟩ := clauseFrom_cons (clauseB_from hb)
    obtain ⟨h7, h8, _⟩ := clauseFrom_cons h6
    refine ⟨(litB_iff p a).1 h5, (litB_iff q a).1 h7, ?_⟩
    have hn : litB (-p) a = true := litB_neg p a h5
    have h9 : p.natAbs ≠ q.natAbs := fun e => by simp [e] at h8
    show (!clauseB [-p, q] a) = false
    have : clauseFrom a [] [-p, q] = true := by
      rw [clauseFrom, if_pos hn, if_neg (by simp), clauseFrom, if_pos h7, if_neg (by simp; omega), clauseFrom]
    unfold clauseB; rw [if_pos this]; simp
theorem twoB_arcs {a : Int} {l : List (List Int)} (h0 : 0 ≤ a) (h1 : a ≤ 12) (hl : l.length ≤ 60) (h : ∀ c ∈ l, c.length = 2 ∧ clauseB c a = true) : twoB a (l.map arcC) = true := by
  unfold twoB goodB isTwoB
  have e1 : ((l.map arcC).any fun c => !clauseB c a) = false := by
    rw [List.any_eq_false]; intro c hc
    obtain ⟨c', hc', rfl⟩ := List.mem_map.1 hc
    rw [(two_arc (h c' hc')).2.2]; simp
  have e2 : ((l.map arcC).any fun c => !sz12 c) = false := by
    rw [List.any_eq_false]; intro c hc
    obtain ⟨c', hc', rfl⟩ := List.mem_map.1 hc
    simp [sz12, arcC]
  rw [e1, e2]; simp [h0, h1, hl]
theorem j6_ev (a : Int) (l d : List (List Int)) (b : Bool) (h : b = true → 0 ≤ a ∧ a ≤ 12 ∧ 0 < l.length ∧ l.length ≤ 60 ∧ d = l.map arcC ∧ ∀ c ∈ l, c.length = 2 ∧ clauseB c a = true) : Ev (fun k => laws_FnLeads.j6 k a l d b) true := by
  cases b with
  | false => exact Ev.one (fun k => by simp only [laws_FnLeads.j6]; rw [if_neg (by simp)])
  | true =>
    obtain ⟨h0, h1, hp, hl, rfl, hc⟩ := h rfl
    have htwo := twoB_arcs h0 h1 hl hc
    have hm : rd_L1 l 0 ∈ l := by have := memL l 0 hp; rwa [show rd_L1 l 0 = l.getD 0 [] from rfl]
    obtain ⟨g1, g2, _⟩ := two_arc (hc _ hm)
    have hlen := (hc _ hm).1
    obtain ⟨r, f1, _, f3, f4⟩ := LeadsTo_full a (l.map arcC) (rd (rd_L1 l 0) 0) (by simp; omega) (fun c hc' => by obtain ⟨c', _, rfl⟩ := List.mem_map.1 hc'; simp [arcC])
    rw [htwo, (litB_iff _ _).2 g1, Bool.true_and] at f1 f4
    have hin : rd (rd_L1 l 0) 1 ∈ r := ((f4 rfl).2 _).2 ((Reach.refl _ _).step ⟨arcC (rd_L1 l 0), List.mem_map.2 ⟨_, hm, rfl⟩, .inr (.inl ⟨_, rfl, rfl⟩)⟩)
    have f5 := lawHas_ev r (rd (rd_L1 l 0) 1) (by omega)
    rw [show r.contains (rd (rd_L1 l 0) 1) = true from List.contains_iff_mem.2 hin] at f5
    obtain ⟨K1, e1⟩ := f1
    obtain ⟨K2, e2⟩ := f5
    refine ⟨K1 + K2 + 1, fun k hk => ?_⟩
    obtain ⟨m, rfl⟩ : ∃ m, k = m + 1 := ⟨k - 1, by omega⟩
    have b1 : impl_LeadsTo.f m a (l.map arcC) (rd (rd_L1 l 0) 0) = some (r, true) := e1 m (by omega)
    have b2 : laws_has.f m r (rd (rd_L1 l 0) 1) = some true := e2 m (by omega)
    simp only [laws_FnLeads.j6]
    rw [if_pos trivial, if_pos (by omega), if_pos (by omega), b1, Option.bind_some, if_pos rfl, if_pos (by omega), b2, Option.bind_some]
theorem j4_ev {s : List Int} (hs : Bytes s) : Ev (fun k => laws_FnLeads.j4 k s) true := by
  obtain ⟨v1, l1, d1, q1⟩ := DrawLoopsOf_ev hs
  obtain ⟨v2, l2, d2, q2⟩ := DrawTwoOf_ev hs
  obtain ⟨r, ok, a1, a2, a3, a4⟩ := LoopsOf_ev v1 l1 (by have := q1.1; omega) (fun c hc => by have := q1.2 c hc; omega)
  obtain ⟨t, ok2, b1, b2, b3, b4, b5⟩ := TwoOf_ev v2 l2 (fun c hc => by have := q2.2 c hc; omega)
  have s1 := sameRows_ev r (by omega) (fun c hc => by have := sumLen_le r c hc; omega)
  have s2 := sameRows_ev t (by omega) (fun c hc => by have := b4 c hc; omega)
  have j6 := j6_ev v2 l2 t (ok2 && (decide (v2 > 0) && decide ((l2.length : Int) > 0))) (fun h => by
    simp only [Bool.and_eq_true, decide_eq_true_eq] at h
    obtain ⟨c0, c1, c2, c3, c4⟩ := b5 h.1
    exact ⟨c0, c1, by omega, c2, c3, c4⟩)
  obtain ⟨K1, e1⟩ := d1
  obtain ⟨K2, e2⟩ := d2
  obtain ⟨K3, e3⟩ := a1
  obtain ⟨K4, e4⟩ := a2
  obtain ⟨K5, e5⟩ := b1
  obtain ⟨K6, e6⟩ := b2
  obtain ⟨K7, e7⟩ := s1
  obtain ⟨K8, e8⟩ := s2
  obtain ⟨K9, e9⟩ := j6
  refine ⟨K1 + K2 + K3 + K4 + K5 + K6 + K7 + K8 + K9 + 2, fun k hk => ?_⟩
  obtain ⟨m, rfl⟩ : ∃ m, k = m + 1 + 1 := ⟨k - 2, by omega⟩
  have f1 : spec_DrawLoopsOf.f (m + 1) s = some (v1, l1) := e1 _ (by omega)
  have f2 : spec_DrawTwoOf.f (m + 1) s = some (v2, l2) := e2 _ (by omega)
  have f3 : impl_LoopsOf.f (m + 1) v1 l1 = some (r, ok) := e3 _ (by omega)
  have f4 : spec_LoopsOf.f (m + 1) v1 l1 = some (r, ok) := e4 _ (by omega)
  have f5 : impl_TwoOf.f (m + 1) v2 l2 = some (t, ok2) := e5 _ (by omega)
  have f6 : spec_TwoOf.f (m + 1) v2 l2 = some (t, ok2) := e6 _ (by omega)
  have f7 : laws_sameRows.f (m + 1) r r = some true := e7 _ (by omega)
  have f8 : laws_sameRows.f (m + 1) t t = some true := e8 _ (by omega)
  have f9 : laws_FnLeads.j6 m v2 l2 t (ok2 && (decide (v2 > 0) && decide ((l2.length : Int) > 0))) = some true := e9 _ (by omega)
  have hj5 : laws_FnLeads.j5 (m + 1) v2 l2 t ok2 false = some true := by
    simp only [laws_FnLeads.j5]
    rw [if_neg (by simp)]
    cases ok2 with
    | false => rw [if_neg (by simp)]; rw [Bool.false_and] at f9; exact f9
    | true =>
      rw [if_pos rfl]
      rw [Bool.true_and] at f9
      by_cases hv : v2 > 0
      · rw [if_pos hv]; rw [decide_eq_true hv, Bool.true_and] at f9; exact f9
      · rw [if_neg hv]; rw [decide_eq_false hv, Bool.false_and] at f9; exact f9
  show laws_FnLeads.j4 (m + 1 + 1) s = some true
  simp only [laws_FnLeads.j4]
  rw [f1, Option.bind_some]
  show ((impl_LoopsOf.f (m + 1) v1 l1).bind _) = _
  rw [f3, Option.bind_some]
  show ((spec_LoopsOf.f (m + 1) v1 l1).bind _) = _
  rw [f4, Option.bind_some, f2, Option.bind_some]
  show ((impl_TwoOf.f (m + 1) v2 l2).bind _) = _
  rw [f5, Option.bind_some]
  show ((spec_TwoOf.f (m + 1) v2 l2).bind _) = _
  rw [f6, Option.bind_some, if_neg (by simp), f7, Option.bind_some, if_pos rfl, if_neg (by simp), f8, Option.bind_some]
  exact hj5
theorem l2_ev {s : List Int} {vars : Int} {l : List (List Int)} (htw : twoB vars l = true) (hl : l.length ≤ 100) (hx : ∀ c ∈ l, c.length ≤ 40) (b : Bool) (n : Int) (rows : List (List Int)) (i : Int) (c : List Int) (hc : 0 < c.length ∧ Lt vars (rd c 0) ∧ ∀ y ∈ c, Reach l (rd c 0) y) (hcl : c.length ≤ 5000) (hi : 0 ≤ i ∧ i ≤ 5000)
    (h : Ev (fun k => laws_FnLeads.l1 k s vars l b n rows (rows.length : Int) (i + 1)) true) : ∀ d j, j ≤ c.length → c.length - j = d → Ev (fun k => laws_FnLeads.l2 k s vars l b n c rows (rows.length : Int) i c (c.length : Int) (j : Int)) true := by
  intro d
  obtain ⟨r, f1, _, f3, f4⟩ := LeadsTo_full vars l (rd c 0) (by omega) (fun c hc => by have := hx c hc; omega)
  rw [htw, (litB_iff _ _).2 hc.2.1, Bool.true_and] at f1 f4
  induction d with
  | zero =>
    intro j hj hd
    refine Ev.step (fun k => ?_) h
    simp only [laws_FnLeads.l2]; rw [if_neg (by omega), wr_succ (by omega) (by omega)]
  | succ d ih =>
    intro j hj hd
    have hin : rd c (j : Int) ∈ r := ((f4 rfl).2 _).2 (hc.2.2 _ (rd_mem c j (by omega)))
    have f5 := lawHas_ev r (rd c (j : Int)) (by omega)
    rw [show r.contains (rd c (j : Int)) = true from List.contains_iff_mem.2 hin] at f5
    obtain ⟨K1, e1⟩ := f1
    obtain ⟨K2, e2⟩ := f5
    obtain ⟨K3, e3⟩ := ih (j + 1) (by omega) (by omega)
    refine ⟨K1 + K2 + K3 + 1, fun k hk => ?_⟩
    obtain ⟨m, rfl⟩ : ∃ m, k = m + 1 := ⟨k - 1, by omega⟩
    have b1 : impl_LeadsTo.f m vars l (rd c 0) = some (r, true) := e1 m (by omega)
    have b2 : laws_has.f m r (rd c (j : Int)) = some true := e2 m (by omega)
    have b3 : laws_FnLeads.l2 m s vars l b n c rows (rows.length : Int) i c (c.length : Int) ((j + 1 : Nat) : Int) = some true := e3 m (by omega)
    simp only [laws_FnLeads.l2]
    rw [if_pos (by omega), if_pos (by omega), if_pos (by omega), if_pos (by omega), b1, Option.bind_some, if_pos rfl, b2, Option.bind_some, if_pos rfl, wr_succ (by omega) (by omega)]
    exact b3
theorem l1_ev {s : List Int} (hs : Bytes s) {vars : Int} {l : List (List Int)} (htw : twoB vars l = true) (hl : l.length ≤ 100) (hx : ∀ c ∈ l, c.length ≤ 40) (rows : List (List Int)) (hr : rows.length ≤ 1000) (hg : Good l vars rows) (hsum : (sumLen rows : Int) = 2 * vars) : ∀ d j, j ≤ rows.length → rows.length - j = d → Ev (fun k => laws_FnLeads.l1 k s vars l true (sumLen (rows.take j) : Int) rows (rows.length : Int) (j : Int)) true := by
  have h2 := two_of vars l htw
  have h12 := h2.2.1
  have h0 := h2.1
  intro d
  induction d with
  | zero =>
    intro j hj hd
    rw [List.take_of_length_le (by omega), hsum]
    refine Ev.step (fun k => ?_) (j4_ev hs)
    simp only [laws_FnLeads.l1]; rw [if_neg (by omega), if_pos trivial, if_pos (by unfold wrap64; omega)]
  | succ d ih =>
    intro j hj hd
    have hm : rd_L1 rows (j : Int) ∈ rows := by rw [rdL_nat]; exact memL rows j (by omega)
    have hle : ∀ c ∈ rows, c.length ≤ 24 := fun c hc => by have := sumLen_le rows c hc; omega
    have htk : (sumLen (rows.take (j + 1))) = sumLen (rows.take j) + (rd_L1 rows (j : Int)).length := by
      rw [takeL rows j (by omega), sumLen_snoc, rdL_nat]
    have htot : sumLen (rows.take (j + 1)) ≤ 24 := by
      have h3 : sumLen rows = sumLen (rows.take (j + 1)) + sumLen (rows.drop (j + 1)) := by
        conv => lhs; rw [← List.take_append_drop (j + 1) rows]
        unfold sumLen
        rw [List.map_append, List.sum_append]
      omega
    have hih := ih (j + 1) (by omega) (by omega)
    have hl2 := l2_ev (s := s) htw hl hx true (sumLen (rows.take (j + 1)) : Int) rows (j : Int) (rd_L1 rows (j : Int)) (hg _ hm) (by have := hle _ hm; omega) ⟨by omega, by omega⟩ hih _ 0 (by omega) rfl
    refine Ev.step (fun k => ?_) hl2
    simp only [laws_FnLeads.l1]
    rw [if_pos (by omega), if_pos (by omega), if_pos (by omega), show wrap64 ((sumLen (rows.take j) : Int) + ((rd_L1 rows (j : Int)).length : Int)) = (sumLen (rows.take (j + 1)) : Int) from by unfold wrap64; omega]; rfl
theorem l0_ev {s : List Int} (hs : Bytes s) {vars : Int} {l : List (List Int)} (htw : twoB vars l = true) (hl : l.length ≤ 100) (hx : ∀ c ∈ l, c.length ≤ 40) (x : Int) (hlit : Lt vars x) (t : List Int) (ht : Is l x t) (htl : t.length ≤ 25) : ∀ d j, j ≤ t.length → t.length - j = d → Ev (fun k => laws_FnLeads.l0 k s vars l x t (t.length : Int) (j : Int)) true := by
  have h2 := two_of vars l htw
  have h12 := h2.2.1
  intro d
  induction d with
  | zero =>
    intro j hj hd
    obtain ⟨r, f1, f2, f3⟩ := LoopsOf_full vars l htw
    obtain ⟨r', ok, g1, _, g3, _⟩ := LoopsOf_ev vars l (by omega) (fun c hc => by have := hx c hc; omega)
    have he := (Prod.mk.inj (Ev.unique f1 g1)).1
    subst he
    have hl1 := l1_ev hs htw hl hx r g3 f2 f3 _ 0 (by omega) rfl
    refine Ev.step (g := fun k => laws_FnLeads.l0 k s vars l x t (t.length : Int) (j : Int)) (f := fun k => (impl_LoopsOf.f k vars l).bind fun (b : List (List Int) × Bool) => laws_FnLeads.l1 k s vars l b.2 0 b.1 (b.1.length : Int) 0) (fun k => ?_) (Ev.bind (f := fun k (b : List (List Int) × Bool) => laws_FnLeads.l1 k s vars l b.2 0 b.1 (b.1.length : Int) 0) f1 hl1)
    show laws_FnLeads.l0 (k + 1) s vars l x t (t.length : Int) (j : Int) = _
    simp only [laws_FnLeads.l0]; rw [if_neg (by omega)]
  | succ d ih =>
    intro j hj hd
    have hm : rd t (j : Int) ∈ t := rd_mem t j (by omega)
    have hr := (ht.2 _).1 hm
    have hly := reach_lt h2 hlit hr
    have hlt : Lt vars (-(rd t (j : Int))) := by unfold Lt at hly ⊢; omega
    have hw : wrap64 (-(rd t (j : Int))) = -(rd t (j : Int)) := by unfold Lt at hly; unfold wrap64; omega
    have hw2 : wrap64 (-x) = -x := by unfold Lt at hlit; unfold wrap64; omega
    obtain ⟨r, f1, _, f3, f4⟩ := LeadsTo_full vars l (-(rd t (j : Int))) (by omega) (fun c hc => by have := hx c hc; omega)
    rw [htw, (litB_iff _ _).2 hlt, Bool.true_and] at f1 f4
    have f5 := lawHas_ev r (-x) (by omega)
    rw [show r.contains (-x) = true from List.contains_iff_mem.2 (((f4 rfl).2 _).2 (reach_skew hr))] at f5
    obtain ⟨K1, e1⟩ := f1
    obtain ⟨K2, e2⟩ := f5
    obtain ⟨K3, e3⟩ := ih (j + 1) (by omega) (by omega)
    refine ⟨K1 + K2 + K3 + 1, fun k hk => ?_⟩
    obtain ⟨m, rfl⟩ : ∃ m, k = m + 1 := ⟨k - 1, by omega⟩
    have b1 : impl_LeadsTo.f m vars l (-(rd t (j : Int))) = some (r, true) := e1 m (by omega)
    have b2 : laws_has.f m r (-x) = some true := e2 m (by omega)
    have b3 : laws_FnLeads.l0 m s vars l x t (t.length : Int) ((j + 1 : Nat) : Int) = some true := e3 m (by omega)
    simp only [laws_FnLeads.l0]
    rw [if_pos (by omega), if_pos (by omega), if_pos (by omega), hw, b1, Option.bind_some, if_pos rfl, hw2, b2, Option.bind_some, if_pos rfl, wr_succ (by omega) (by omega)]
    exact b3
theorem bytes_of {l : List Int} (hl : l.length ≤ 1099511627776) (h : ∀ x ∈ l, (Lit.int .u8 x).wf = true) : Bytes l := ⟨hl, fun x hx => by
  have := h x hx
  simp [Lit.wf, IntKind.min, IntKind.max, IntKind.bits, IntKind.signed] at this
  omega⟩
end Go.Proofs.Ythjgcapfojhfjaa.P
namespace Go.Proofs.Ythjgcapfojhfjaa.Pure
open Go.RowKit Go.Proofs.Ythjgcapfojhfjaa.P Go.Proofs.YthjgcapfojhfjaaW.PrintWords Go.Proofs.YthjgcapfojhfjaaW.PrintLast
theorem FnLeads : laws_FnLeads.Pure := by
  intro l0 l1 h1 h2 h3 h4 h5 h6
  have hl0 : l0.length ≤ maxLen := h1
  by_cases hbig : wrap64 ((l0.length : Int) + (l1.length : Int)) > 1048576
  · exact ⟨0, by unfold laws_FnLeads.f; rw [if_pos hbig]⟩
  · have hs : l0.length ≤ 1099511627776 ∧ l1.length ≤ 1099511627776 := by unfold wrap64 at hbig; omega
    have B0 := bytes_of hs.1 h3
    have B1 := bytes_of hs.2 h6
    obtain ⟨vars, l, x, d1, q1, q2⟩ := DrawLeadsTo_ev B0
    obtain ⟨r, a1, a2, a3, a4⟩ := LeadsTo_full vars l x (by omega) (fun c hc => by have := q2 c hc; omega)
    have s1 := sameInts_ev r (by omega)
    have hj : Ev (fun k => laws_FnLeads.j0 k l1 vars l x r (twoB vars l && litB x vars) false) true := by
      cases hb : (twoB vars l && litB x vars) with
      | false =>
        refine Ev.step (fun k => ?_) (j4_ev B1)
        simp only [laws_FnLeads.j0]; rw [if_neg (by simp), if_neg (by simp)]
      | true =>
        have hb' := hb
        rw [Bool.and_eq_true] at hb'
        refine Ev.step (fun k => ?_) (l0_ev B1 hb'.1 q1 q2 x ((litB_iff _ _).1 hb'.2) r (a4 hb) a3 _ 0 (by omega) rfl)
        simp only [laws_FnLeads.j0]; rw [if_neg (by simp), if_pos trivial]; rfl
    obtain ⟨K1, e1⟩ := d1
    obtain ⟨K2, e2⟩ := a1
    obtain ⟨K3, e3⟩ := a2
    obtain ⟨K4, e4⟩ := s1
    obtain ⟨K5, e5⟩ := hj
    refine ⟨K1 + K2 + K3 + K4 + K5, ?_⟩
    generalize hK : K1 + K2 + K3 + K4 + K5 = k
    have f1 : spec_DrawLeadsTo.f k l0 = some (vars, l, x) := e1 _ (by omega)
    have f2 : impl_LeadsTo.f k vars l x = some (r, twoB vars l && litB x vars) := e2 _ (by omega)
    have f3 : spec_LeadsTo.f k vars l x = some (r, twoB vars l && litB x vars) := e3 _ (by omega)
    have f4 : laws_sameInts.f k r r = some true := e4 _ (by omega)
    have f5 : laws_FnLeads.j0 k l1 vars l x r (twoB vars l && litB x vars) false = some true := e5 _ (by omega)
    unfold laws_FnLeads.f
    rw [if_neg hbig, f1, Option.bind_some]
    show ((impl_LeadsTo.f k vars l x).bind _) = _
    rw [f2, Option.bind_some]
    show ((spec_LeadsTo.f k vars l x).bind _) = _
    rw [f3, Option.bind_some, if_neg (by simp), f4, Option.bind_some]
    exact f5
end Go.Proofs.Ythjgcapfojhfjaa.Pure
