-- Written by wip/tools/pp.py for this claim.
import Derived.Test.YthjgcapfojhfjaaP0
import Derived.Test.YthjgcapfojhfjaaP5
import Derived.Test.YthjgcapfojhfjaaP6
import Derived.Test.YthjgcapfojhfjaaP7
import Derived.Test.YthjgcapfojhfjaaP11
import Derived.Test.YthjgcapfojhfjaaP12
import Derived.Test.YthjgcapfojhfjaaP13
namespace Go.Proofs.Ythjgcapfojhfjaa.P
open Go.RowKit Go.Proofs.YthjgcapfojhfjaaW.PrintWords Go.Proofs.YthjgcapfojhfjaaW.PrintLast Go.Proofs.YthjgcapfojhfjaaW.PrintMore
attribute [local go_sem] max2_int min2_int max_two min_two max_three min_three max_four min_four   -- for this text's walks alone
set_option linter.unusedVariables false
set_option linter.unusedSimpArgs false
mutual
def laws_FnLeads.j0 : Nat → List Int → Int → List (List Int) → Int → List Int → Bool → Bool → Option (Bool)
  | 0, _, _, _, _, _, _, _ => none
  | k + 1, x1, x5, x6, x7, x8, x9, x73 => if x73 = true then (some false) else (if x9 = true then (laws_FnLeads.l0 k x1 x5 x6 x7 x8 (x8.length : Int) 0) else (laws_FnLeads.j4 k x1))
def laws_FnLeads.j4 : Nat → List Int → Option (Bool)
  | 0, _ => none
  | k + 1, x1 => (spec_DrawLoopsOf.f k x1).bind fun bt689 => ((impl_LoopsOf.f k bt689.1 bt689.2).bind fun bt693 => ((spec_LoopsOf.f k bt689.1 bt689.2).bind fun bt697 => ((spec_DrawTwoOf.f k x1).bind fun bt701 => ((impl_TwoOf.f k bt701.1 bt701.2).bind fun bt705 => ((spec_TwoOf.f k bt701.1 bt701.2).bind fun bt709 => (if (bt693.2 != bt697.2) = true then (laws_FnLeads.j5 k bt701.1 bt701.2 bt705.1 bt705.2 true) else ((laws_sameRows.f k bt693.1 bt697.1).bind fun t713 => (if t713 = true then (if (bt705.2 != bt709.2) = true then (laws_FnLeads.j5 k bt701.1 bt701.2 bt705.1 bt705.2 true) else ((laws_sameRows.f k bt705.1 bt709.1).bind fun t714 => (laws_FnLeads.j5 k bt701.1 bt701.2 bt705.1 bt705.2 (!t714)))) else (laws_FnLeads.j5 k bt701.1 bt701.2 bt705.1 bt705.2 true)))))))))
def laws_FnLeads.j5 : Nat → Int → List (List Int) → List (List Int) → Bool → Bool → Option (Bool)
  | 0, _, _, _, _, _ => none
  | k + 1, x31, x32, x33, x34, x201 => if x201 = true then (some false) else (if x34 = true then (if x31 > 0 then (laws_FnLeads.j6 k x31 x32 x33 (decide ((x32.length : Int) > 0))) else (laws_FnLeads.j6 k x31 x32 x33 false)) else (laws_FnLeads.j6 k x31 x32 x33 false))
def laws_FnLeads.j6 : Nat → Int → List (List Int) → List (List Int) → Bool → Option (Bool)
  | 0, _, _, _, _ => none
  | k + 1, x31, x32, x33, x211 => if x211 = true then (if 0 < (x32.length : Int) then (if 0 < ((rd_L1 x32 0).length : Int) then ((impl_LeadsTo.f k x31 x33 (rd (rd_L1 x32 0) 0)).bind fun bt717 => (if bt717.2 = true then (if 1 < ((rd_L1 x32 0).length : Int) then ((laws_has.f k bt717.1 (rd (rd_L1 x32 0) 1)).bind fun t723 => (some t723)) else (none)) else (some false))) else (none)) else (none)) else (some true)
def laws_FnLeads.l0 : Nat → List Int → Int → List (List Int) → Int → List Int → Int → Int → Option (Bool)
  | 0, _, _, _, _, _, _, _ => none
  | k + 1, x1, x5, x6, x7, x75, x76, x77 => if x77 < x76 then (if 0 ≤ x77 then (if x77 < (x75.length : Int) then ((impl_LeadsTo.f k x5 x6 (wrap64 (-(rd x75 x77)))).bind fun bt672 => (if bt672.2 = true then ((laws_has.f k bt672.1 (wrap64 (-x7))).bind fun t676 => (if t676 = true then (laws_FnLeads.l0 k x1 x5 x6 x7 x75 x76 (wrap64 (x77 + 1))) else (some false))) else (some false))) else (none)) else (none)) else ((impl_LoopsOf.f k x5 x6).bind fun bt677 => (laws_FnLeads.l1 k x1 x5 x6 bt677.2 0 bt677.1 (bt677.1.length : Int) 0))
def laws_FnLeads.l1 : Nat → List Int → Int → List (List Int) → Bool → Int → List (List Int) → Int → Int → Option (Bool)
  | 0, _, _, _, _, _, _, _, _ => none
  | k + 1, x1, x5, x6, x17, x18, x105, x106, x107 => if x107 < x106 then (if 0 ≤ x107 then (if x107 < (x105.length : Int) then (laws_FnLeads.l2 k x1 x5 x6 x17 (wrap64 (x18 + ((rd_L1 x105 x107).length : Int))) (rd_L1 x105 x107) x105 x106 x107 (rd_L1 x105 x107) ((rd_L1 x105 x107).length : Int) 0) else (none)) else (none)) else (if x17 = true then (if x18 = (wrap64 (2 * x5)) then (laws_FnLeads.j4 k x1) else (some false)) else (some false))
def laws_FnLeads.l2 : Nat → List Int → Int → List (List Int) → Bool → Int → List Int → List (List Int) → Int → Int → List Int → Int → Int → Option (Bool)
  | 0, _, _, _, _, _, _, _, _, _, _, _, _ => none
  | k + 1, x1, x5, x6, x17, x18, x20, x105, x106, x107, x115, x116, x117 => if x117 < x116 then (if 0 ≤ x117 then (if x117 < (x115.length : Int) then (if 0 < (x20.length : Int) then ((impl_LeadsTo.f k x5 x6 (rd x20 0)).bind fun bt684 => (if bt684.2 = true then ((laws_has.f k bt684.1 (rd x115 x117)).bind fun t688 => (if t688 = true then (laws_FnLeads.l2 k x1 x5 x6 x17 x18 x20 x105 x106 x107 x115 x116 (wrap64 (x117 + 1))) else (some false))) else (some false))) else (none)) else (none)) else (none)) else (laws_FnLeads.l1 k x1 x5 x6 x17 x18 x105 x106 (wrap64 (x107 + 1)))
end
def laws_FnLeads.f (k : Nat) (l0 : List Int) (l1 : List Int) : Option (Bool) := if (wrap64 ((l0.length : Int) + (l1.length : Int))) > 1048576 then (some true) else ((spec_DrawLeadsTo.f k l0).bind fun bt657 => ((impl_LeadsTo.f k bt657.1 bt657.2.1 bt657.2.2).bind fun bt662 => ((spec_LeadsTo.f k bt657.1 bt657.2.1 bt657.2.2).bind fun bt666 => (if (bt662.2 != bt666.2) = true then (laws_FnLeads.j0 k l1 bt657.1 bt657.2.1 bt657.2.2 bt662.1 bt662.2 true) else ((laws_sameInts.f k bt662.1 bt666.1).bind fun t670 => (laws_FnLeads.j0 k l1 bt657.1 bt657.2.1 bt657.2.2 bt662.1 bt662.2 (!t670)))))))
set_option maxHeartbeats 8000000 in
set_option maxRecDepth 100000 in
theorem laws_FnLeads.calls (k : Nat) (A0 : Option Addr) (c0 : Nat) (l0 : List Int) (A1 : Option Addr) (c1 : Nat) (l1 : List Int) (r : Bool) (w : World) (hr0 : Kd.C (Kd.int .u8) w A0 l0.length l0) (hc0 : l0.length ≤ c0) (hr1 : Kd.C (Kd.int .u8) w A1 l1.length l1) (hc1 : l1.length ≤ c1) (h : laws_FnLeads.f k l0 l1 = some r) :
    Calls Try.prog 8 #[.slice A0 l0.length c0, .slice A1 l1.length c1] w fun e w' => e = .returned (.bool r) ∧ Below w.heap.size w w' := by
  have HR0 := Aside0.mk hr0
  have HC0 := Aside0.mk hc0
  clear hr0 hc0
  have HR1 := Aside0.mk hr1
  have HC1 := Aside0.mk hc1
  clear hr1 hc1
  have HB := Aside0.mk (Below.refl w.heap.size w)
  have H : (if (wrap64 ((l0.length : Int) + (l1.length : Int))) > 1048576 then (some true) else ((spec_DrawLeadsTo.f k l0).bind fun bt657 => ((impl_LeadsTo.f k bt657.1 bt657.2.1 bt657.2.2).bind fun bt662 => ((spec_LeadsTo.f k bt657.1 bt657.2.1 bt657.2.2).bind fun bt666 => (if (bt662.2 != bt666.2) = true then (laws_FnLeads.j0 k l1 bt657.1 bt657.2.1 bt657.2.2 bt662.1 bt662.2 true) else ((laws_sameInts.f k bt662.1 bt666.1).bind fun t670 => (laws_FnLeads.j0 k l1 bt657.1 bt657.2.1 bt657.2.2 bt662.1 bt662.2 (!t670)))))))) = some r := h
  clear h
  by_cases c3 : (wrap64 ((l0.length : Int) + (l1.length : Int))) > 1048576
  · rw [if_pos c3] at H
    have c3b0 : decide (1048576 < (wrap64 ((l0.length : Int) + (l1.length : Int)))) = true := decide_eq_true c3
    clear c3
    obtain rfl := Option.some.inj H
    go_enter Try.func8, Try.ntmps8
    go_wp2
    go_ret
    exact ⟨by first | rfl | (simp [errW_none, errW_some] <;> rfl) | (simp [*, errW_none, errW_some] <;> rfl), by repeat (first | (with_reducible first | exact HB.out | apply below_alloc | apply pw_below_drewN | apply below_drew1) | exact HB.out)⟩
  · rw [if_neg c3] at H
    have c3b0 : decide (1048576 < (wrap64 ((l0.length : Int) + (l1.length : Int)))) = false := decide_eq_false c3
    clear c3
    replace H := Option.bind_eq_some_iff.mp H
    obtain ⟨⟨t657, t658, t659⟩, A40, H⟩ := H
    replace H : ((impl_LeadsTo.f k t657 t658 t659).bind fun bt662 => ((spec_LeadsTo.f k t657 t658 t659).bind fun bt666 => (if (bt662.2 != bt666.2) = true then (laws_FnLeads.j0 k l1 t657 t658 t659 bt662.1 bt662.2 true) else ((laws_sameInts.f k bt662.1 bt666.1).bind fun t670 => (laws_FnLeads.j0 k l1 t657 t658 t659 bt662.1 bt662.2 (!t670)))))) = some r := H
    have A4 := Aside0.mk A40
    clear A40
    replace H := Option.bind_eq_some_iff.mp H
    obtain ⟨⟨t662, t663⟩, A50, H⟩ := H
    replace H : ((spec_LeadsTo.f k t657 t658 t659).bind fun bt666 => (if (t663 != bt666.2) = true then (laws_FnLeads.j0 k l1 t657 t658 t659 t662 t663 true) else ((laws_sameInts.f k t662 bt666.1).bind fun t670 => (laws_FnLeads.j0 k l1 t657 t658 t659 t662 t663 (!t670))))) = some r := H
    have A5 := Aside0.mk A50
    clear A50
    replace H := Option.bind_eq_some_iff.mp H
    obtain ⟨⟨t666, t667⟩, A60, H⟩ := H
    replace H : (if (t663 != t667) = true then (laws_FnLeads.j0 k l1 t657 t658 t659 t662 t663 true) else ((laws_sameInts.f k t662 t666).bind fun t670 => (laws_FnLeads.j0 k l1 t657 t658 t659 t662 t663 (!t670)))) = some r := H
    have A6 := Aside0.mk A60
    clear A60
    have HC7 := Aside0.mk H
    clear H
    go_enter Try.func8, Try.ntmps8
    go_upto_region 6 with (first | ((with_reducible refine gate_callee (f := 31) rfl ?_); refine goesL_ (some 47) rfl rfl Try.func31 (by kernel_rfl) rfl #[.slice A0 l0.length c0] rfl (by (try simp only [List.map_toArray, List.map_cons, List.map_nil]); first | done | rfl | (simp only [List.length_drop, List.length_take]; rfl)) ?_; (with_reducible refine (spec_DrawLeadsTo.calls k _ _ l0 t657 t658 t659 _ ?side1 ?side2 A4.out).mono ?_); (case side1 => repeat (first | exact HR0.out | (with_reducible refine Kd.C_alloc ?_ _) | (with_reducible refine Kd.C_drewN ?_ _) | (with_reducible refine Kd.C_drew ?_))); (case side2 => exact HC0.out); rintro e w8 ⟨v660, rfl, ho0, hb⟩; refine ⟨_, rfl, ?_⟩; have n0_ := Aside0.mk (Kd.N_lower (Kd.N_mono (ok' := fun k_ => True) (Kd.S_N (Kd.S_bound ho0)) (fun k_ hk_ => trivial)) (below_size (by repeat (first | (with_reducible first | exact HB.out | apply below_alloc | apply pw_below_drewN | apply below_drew1) | exact HB.out)))); have n1_ := Aside0.mk (below_step (by repeat (first | (with_reducible first | exact HB.out | apply below_alloc | apply pw_below_drewN | apply below_drew1) | exact HB.out)) hb); clear HB; have HO661 := n0_; have HB := n1_; clear n0_ n1_; (try clear hb); (try clear hb2); (try clear hk); (try clear hi); (try clear ho0); obtain ⟨Ao9, co9, eo9⟩ := Kd.N_slice HO661.out; subst eo9) | ((with_reducible refine gate_callee (f := 16) rfl ?_); refine goesL_ (some 55) rfl rfl Try.func16 (by kernel_rfl) rfl #[.int .i64 t657, .slice Ao9 t658.length co9, .int .i64 t659] rfl (by (try simp only [List.map_toArray, List.map_cons, List.map_nil]); first | done | rfl | (simp only [List.length_drop, List.length_take]; rfl)) ?_; (with_reducible refine (impl_LeadsTo.calls k t657 _ _ t658 t659 t662 t663 _ ?side1 ?side2 A5.out).mono ?_); (case side1 => repeat (first | exact (Kd.N_reads' HO661.out).2.2 | (with_reducible refine Kd.C_alloc ?_ _) | (with_reducible refine Kd.C_drewN ?_ _) | (with_reducible refine Kd.C_drew ?_))); (case side2 => exact (Kd.N_reads' HO661.out).2.1); rintro e w10 ⟨v664, rfl, ho0, hb⟩; refine ⟨_, rfl, ?_⟩; have n0_ := Aside0.mk (Kd.N_elder' (by (with_reducible repeat (first | apply Kd.N_alloc | apply Kd.N_drewN | apply Kd.N_drew)); exact HO661.out) (Kd.R_base ho0) hb); have n1_ := Aside0.mk (Kd.R_lower ho0 (below_size (by repeat (first | (with_reducible first | exact HB.out | apply below_alloc | apply pw_below_drewN | apply below_drew1) | exact HB.out)))); have n2_ := Aside0.mk (below_step (by repeat (first | (with_reducible first | exact HB.out | apply below_alloc | apply pw_below_drewN | apply below_drew1) | exact HB.out)) hb); clear HO661; clear HB; have HO661 := n0_; have HO665 := n1_; have HB := n2_; clear n0_ n1_ n2_; (try clear hb); (try clear hb2); (try clear hk); (try clear hi); (try clear ho0)) | ((with_reducible refine gate_callee (f := 15) rfl ?_); refine goesL_ (some 62) rfl rfl Try.func15 (by kernel_rfl) rfl #[.int .i64 t657, .slice Ao9 t658.length co9, .int .i64 t659] rfl (by (try simp only [List.map_toArray, List.map_cons, List.map_nil]); first | done | rfl | (simp only [List.length_drop, List.length_take]; rfl)) ?_; (with_reducible refine (spec_LeadsTo.calls k t657 _ _ t658 t659 t666 t667 _ ?side1 ?side2 A6.out).mono ?_); (case side1 => repeat (first | exact (Kd.N_reads' HO661.out).2.2 | (with_reducible refine Kd.C_alloc ?_ _) | (with_reducible refine Kd.C_drewN ?_ _) | (with_reducible refine Kd.C_drew ?_))); (case side2 => exact (Kd.N_reads' HO661.out).2.1); rintro e w11 ⟨v668, rfl, ho0, hb⟩; refine ⟨_, rfl, ?_⟩; have n0_ := Aside0.mk (Kd.N_elder' (by (with_reducible repeat (first | apply Kd.N_alloc | apply Kd.N_drewN | apply Kd.N_drew)); exact HO661.out) (Kd.R_base ho0) hb); have n1_ := Aside0.mk (Kd.R_elder' (by (with_reducible repeat (first | apply Kd.R_alloc | apply Kd.R_drewN | apply Kd.R_drew)); exact HO665.out) (Kd.R_base ho0) hb); have n2_ := Aside0.mk (Kd.R_lower (Kd.R_new' ho0 (Kd.R_lt (by (with_reducible repeat (first | apply Kd.R_alloc | apply Kd.R_drewN | apply Kd.R_drew)); exact HO665.out))) (below_size (by repeat (first | (with_reducible first | exact HB.out | apply below_alloc | apply pw_below_drewN | apply below_drew1) | exact HB.out)))); have n3_ := Aside0.mk (below_step (by repeat (first | (with_reducible first | exact HB.out | apply below_alloc | apply pw_below_drewN | apply below_drew1) | exact HB.out)) hb); clear HO661; clear HO665; clear HB; have HO661 := n0_; have HO665 := n1_; have HO669 := n2_; have HB := n3_; clear n0_ n1_ n2_ n3_; (try clear hb); (try clear hb2); (try clear hk); (try clear hi); (try clear ho0)))
    (try simp only [Act.put, List.setIfInBounds_toArray, List.set_cons_zero, List.set_cons_succ])
    go_cut [73] (fun v73 wc => ∃ (kq : Nat) (x73_6 : Bool), v73 = .bool x73_6 ∧ Aside0 (laws_FnLeads.j0 kq l1 t657 t658 t659 t662 t663 x73_6 = some r) ∧ Aside0 (kq ≤ k) ∧ Aside0 (Kd.N (Kd.slice 3 (Kd.int .i64)) 29 wc w.heap.size (fun k_ => some k_ ≠ (v664 : Value).ownBlock) (.slice Ao9 t658.length co9) t658) ∧ Aside0 (Kd.R (Kd.int .i64) 3 wc w.heap.size (fun _ => True) v664 t662) ∧ Aside0 (Below w.heap.size w wc))
    case first =>
      have H := HC7.out
      clear HC7
      by_cases c12 : (t663 != t667) = true
      · rw [if_pos c12] at H
        have c12b0 : (t663 != t667) = true := c12
        (try (have c12b1 : decide (t663 = t667) = false := by simpa using c12))
        (try (have c12b2 : (t663 == t667) = false := by simpa using c12))
        (try (have c12b3 : ¬ (t663 = t667) := by simpa using c12))
        clear c12
        (first | rw [c12b0] | (simp only [i64_w, i32_w]; rw [c12b0]) | skip)
        have H' := Aside0.mk H
        clear H
        go_wp2
        go_meet
        case rel => exact ⟨_, (true), (by first | rfl | (simp; done) | (simp [*]; done)), H', ⟨by first | omega | exact Nat.le_refl _⟩, ⟨by (with_reducible repeat (first | apply Kd.N_alloc | apply Kd.N_drewN | apply Kd.N_drew)); exact Kd.N_mono HO661.out (fun _ hk => hk.1.2)⟩, ⟨by (with_reducible repeat (first | apply Kd.R_alloc | apply Kd.R_drewN | apply Kd.R_drew)); exact Kd.R_mono HO665.out (fun _ hk => trivial)⟩, ⟨by repeat (first | (with_reducible first | exact HB.out | apply below_alloc | apply pw_below_drewN | apply below_drew1) | exact HB.out)⟩⟩
      · rw [if_neg c12] at H
        have c12b0 : (t663 != t667) = false := by simpa using c12
        (try (have c12b1 : decide (t663 = t667) = true := by simpa using c12))
        (try (have c12b2 : (t663 == t667) = true := by simpa using c12))
        clear c12
        (first | rw [c12b0] | (simp only [i64_w, i32_w]; rw [c12b0]) | skip)
        replace H := Option.bind_eq_some_iff.mp H
        obtain ⟨t670, A130, H⟩ := H
        replace H : (laws_FnLeads.j0 k l1 t657 t658 t659 t662 t663 (!t670)) = some r := H
        have A13 := Aside0.mk A130
        clear A130
        have H' := Aside0.mk H
        clear H
        obtain ⟨Ao14, co14, eo14⟩ := Kd.R_slice HO665.out
        subst eo14
        obtain ⟨Ao15, co15, eo15⟩ := Kd.R_slice HO669.out
        subst eo15
        go_wp2_with (first | (go_at_call 32; (with_reducible refine (laws_sameInts.calls k _ _ t662 _ _ t666 t670 _ ?side1 ?side2 ?side3 ?side4 A13.out).mono ?_); (case side1 => repeat (first | exact (Kd.R_reads' HO665.out).2.2 | (with_reducible refine Kd.C_alloc ?_ _) | (with_reducible refine Kd.C_drewN ?_ _) | (with_reducible refine Kd.C_drew ?_))); (case side2 => exact (Kd.R_reads' HO665.out).2.1); (case side3 => repeat (first | exact (Kd.R_reads' HO669.out).2.2 | (with_reducible refine Kd.C_alloc ?_ _) | (with_reducible refine Kd.C_drewN ?_ _) | (with_reducible refine Kd.C_drew ?_))); (case side4 => exact (Kd.R_reads' HO669.out).2.1); rintro e w' ⟨rfl, ⟨nd, rfl⟩⟩))
        go_meet
        case rel => exact ⟨_, (!t670), (by first | rfl | (simp; done) | (simp [*]; done)), H', ⟨by first | omega | exact Nat.le_refl _⟩, ⟨by (with_reducible repeat (first | apply Kd.N_alloc | apply Kd.N_drewN | apply Kd.N_drew)); exact Kd.N_mono HO661.out (fun _ hk => hk.1.2)⟩, ⟨by (with_reducible repeat (first | apply Kd.R_alloc | apply Kd.R_drewN | apply Kd.R_drew)); exact Kd.R_mono HO665.out (fun _ hk => trivial)⟩, ⟨by repeat (first | (with_reducible first | exact HB.out | apply below_alloc | apply pw_below_drewN | apply below_drew1) | exact HB.out)⟩⟩
    case rest =>
      as_aux_lemma =>
        clear HC7
        try clear c1
        try clear p2
        try clear c3
        try clear c3b0
        try clear p6
        try clear c8
        try clear c12
        try clear c12b0
        try clear c12b1
        try clear c12b2
        try clear c15
        obtain ⟨kq, x73_6, rfl, HA, HJ6, HO_6, HO_8, HB⟩ := hcut
        cases kq with
        | zero => exact absurd HA.out (by simp [laws_FnLeads.j0])
        | succ kj6 =>
          have H := HA.out
          clear HA
          simp only [laws_FnLeads.j0] at H
          by_cases c16 : x73_6 = true
          · subst c16
            have H1 : (some false) = some r := by rw [if_pos rfl] at H; exact H
            clear H
            have H := H1
            clear H1
            obtain rfl := Option.some.inj H
            go_wp2
            go_ret
            exact ⟨by first | rfl | (simp [errW_none, errW_some] <;> rfl) | (simp [*, errW_none, errW_some] <;> rfl), by repeat (first | (with_reducible first | exact HB.out | apply below_alloc | apply pw_below_drewN | apply below_drew1) | exact HB.out)⟩
          · replace c16 := Bool.eq_false_iff.mpr c16
            subst c16
            have H1 : (if t663 = true then (laws_FnLeads.l0 kj6 l1 t657 t658 t659 t662 (t662.length : Int) 0) else (laws_FnLeads.j4 kj6 l1)) = some r := by rw [if_neg (show ¬ (false = true) by decide)] at H; exact H
            clear H
            have H := H1
            clear H1
            have HC17 := Aside0.mk H
            clear H
            go_upto_if 74 with (fail)
            go_cut [] (fun wc => ∃ (kq : Nat), Aside0 (laws_FnLeads.j4 kq l1 = some r) ∧ Aside0 (kq ≤ kj6) ∧ Aside0 (Below w.heap.size w wc))
            case first =>
              have H := HC17.out
              clear HC17
              by_cases c18 : t663 = true
              · subst c18
                have H1 : (laws_FnLeads.l0 kj6 l1 t657 t658 t659 t662 (t662.length : Int) 0) = some r := by rw [if_pos rfl] at H; exact H
                clear H
                have H := H1
                clear H1
                have H' := Aside0.mk H
                clear H
                obtain ⟨Ao19, co19, eo19⟩ := Kd.R_slice HO_8.out
                subst eo19
                go_wp2
                go_loopg [77] kj6 (fun kq v77 w' => ∃ (x77_2 : Int), v77 = .int .i64 x77_2 ∧ Aside0 (laws_FnLeads.l0 kq l1 t657 t658 t659 t662 (t662.length : Int) x77_2 = some r) ∧ Aside0 (kq ≤ kj6) ∧ Aside0 (Kd.N (Kd.slice 3 (Kd.int .i64)) 29 w' w.heap.size (fun k_ => some k_ ≠ ((.slice Ao19 t662.length co19) : Value).ownBlock) (.slice Ao9 t658.length co9) t658) ∧ Aside0 (Kd.R (Kd.int .i64) 3 w' w.heap.size (fun _ => True) (.slice Ao19 t662.length co19) t662) ∧ Aside0 (Below w.heap.size w w'))
                case atStart => exact ⟨(0), (by first | rfl | (simp; done) | (simp [*]; done)), H', ⟨Nat.le_refl _⟩, ⟨by (with_reducible repeat (first | apply Kd.N_alloc | apply Kd.N_drewN | apply Kd.N_drew)); exact HO_6.out⟩, ⟨by (with_reducible repeat (first | apply Kd.R_alloc | apply Kd.R_drewN | apply Kd.R_drew)); exact HO_8.out⟩, ⟨by repeat (first | (with_reducible first | exact HB.out | apply below_alloc | apply pw_below_drewN | apply below_drew1) | exact HB.out)⟩⟩
                case round =>
                  as_aux_lemma =>
                    clear H'
                    try clear c1
                    try clear p2
                    try clear c3
                    try clear c3b0
                    try clear p6
                    try clear c8
                    try clear c12
                    try clear c12b0
                    try clear c12b1
                    try clear c12b2
                    try clear c15
                    try clear c16
                    try clear c18
                    try clear p2
                    try clear p6
                    obtain ⟨x77_2, rfl, HA, HK2, HO_6, HO_75, HB⟩ := hrel
                    cases gk with
                    | zero => exact absurd HA.out (by simp [laws_FnLeads.l0])
                    | succ k2 =>
                      have H := HA.out
                      clear HA
                      simp only [laws_FnLeads.l0] at H
                      by_cases c20 : x77_2 < (t662.length : Int)
                      · rw [if_pos c20] at H
                        have c20b0 : decide (x77_2 < (t662.length : Int)) = true := decide_eq_true c20
                        clear c20
                        (first | rw [c20b0] | (simp only [i64_w, i32_w]; rw [c20b0]) | skip)
                        by_cases c21 : 0 ≤ x77_2
                        · rw [if_pos c21] at H
                          have c21b0 : decide (0 ≤ x77_2) = true := decide_eq_true c21
                          clear c21
                          by_cases c22 : x77_2 < (t662.length : Int)
                          · rw [if_pos c22] at H
                            have c22b0 : decide (x77_2 < (t662.length : Int)) = true := decide_eq_true c22
                            clear c22
                            replace H := Option.bind_eq_some_iff.mp H
                            obtain ⟨⟨t672, t673⟩, A230, H⟩ := H
                            replace H : (if t673 = true then ((laws_has.f k2 t672 (wrap64 (-t659))).bind fun t676 => (if t676 = true then (laws_FnLeads.l0 k2 l1 t657 t658 t659 t662 (t662.length : Int) (wrap64 (x77_2 + 1))) else (some false))) else (some false)) = some r := H
                            have A23 := Aside0.mk A230
                            clear A230
                            by_cases c24 : t673 = true
                            · subst c24
                              have H1 : ((laws_has.f k2 t672 (wrap64 (-t659))).bind fun t676 => (if t676 = true then (laws_FnLeads.l0 k2 l1 t657 t658 t659 t662 (t662.length : Int) (wrap64 (x77_2 + 1))) else (some false))) = some r := by rw [if_pos rfl] at H; exact H
                              clear H
                              have H := H1
                              clear H1
                              replace H := Option.bind_eq_some_iff.mp H
                              obtain ⟨t676, A250, H⟩ := H
                              replace H : (if t676 = true then (laws_FnLeads.l0 k2 l1 t657 t658 t659 t662 (t662.length : Int) (wrap64 (x77_2 + 1))) else (some false)) = some r := H
                              have A25 := Aside0.mk A250
                              clear A250
                              by_cases c26 : t676 = true
                              · subst c26
                                have H1 : (laws_FnLeads.l0 k2 l1 t657 t658 t659 t662 (t662.length : Int) (wrap64 (x77_2 + 1))) = some r := by rw [if_pos rfl] at H; exact H
                                clear H
                                have H := H1
                                clear H1
                                have H' := Aside0.mk H
                                clear H
                                have p671 : 0 ≤ (x77_2 : Int) := of_decide_eq_true (by first | (with_reducible assumption) | assumption)
                                have q671 : x77_2 < (t662.length : Int) := of_decide_eq_true (by first | (with_reducible assumption) | assumption)
                                obtain ⟨ad671, e671, hx671_0⟩ := Kd.at_int (Kd.R_reads' HO_75.out).2.2 x77_2 p671 q671
                                cases e671
                                replace p671 := eq_true p671
                                replace q671 := eq_true q671
                                go_wp2_with (first | ((with_reducible refine gate_callee (f := 16) rfl ?_); refine goesL_ (some 86) rfl rfl Try.func16 (by kernel_rfl) rfl #[.int .i64 t657, .slice Ao9 t658.length co9, .int .i64 (wrap64 (-(rd t662 x77_2)))] rfl (by (try simp only [List.map_toArray, List.map_cons, List.map_nil]); first | done | rfl | (simp only [List.length_drop, List.length_take]; rfl)) ?_; (with_reducible refine (impl_LeadsTo.calls k2 t657 _ _ t658 (wrap64 (-(rd t662 x77_2))) t672 true _ ?side1 ?side2 A23.out).mono ?_); (case side1 => repeat (first | exact (Kd.N_reads' HO_6.out).2.2 | (with_reducible refine Kd.C_alloc ?_ _) | (with_reducible refine Kd.C_drewN ?_ _) | (with_reducible refine Kd.C_drew ?_))); (case side2 => exact (Kd.N_reads' HO_6.out).2.1); rintro e w27 ⟨v674, rfl, ho0, hb⟩; refine ⟨_, rfl, ?_⟩; have n0_ := Aside0.mk (Kd.N_elder' (by (with_reducible repeat (first | apply Kd.N_alloc | apply Kd.N_drewN | apply Kd.N_drew)); exact HO_6.out) (Kd.R_base ho0) hb); have n1_ := Aside0.mk (Kd.R_elder' (by (with_reducible repeat (first | apply Kd.R_alloc | apply Kd.R_drewN | apply Kd.R_drew)); exact HO_75.out) (Kd.R_base ho0) hb); have n2_ := Aside0.mk (Kd.R_lower (Kd.R_new' ho0 (Kd.R_lt (by (with_reducible repeat (first | apply Kd.R_alloc | apply Kd.R_drewN | apply Kd.R_drew)); exact HO_75.out))) (below_size (by repeat (first | (with_reducible first | exact HB.out | apply below_alloc | apply pw_below_drewN | apply below_drew1) | exact HB.out)))); have n3_ := Aside0.mk (below_step (by repeat (first | (with_reducible first | exact HB.out | apply below_alloc | apply pw_below_drewN | apply below_drew1) | exact HB.out)) hb); clear HO_6; clear HO_75; clear HB; have HO_6 := n0_; have HO_75 := n1_; have HO675 := n2_; have HB := n3_; clear n0_ n1_ n2_ n3_; (try clear hb); (try clear hb2); (try clear hk); (try clear hi); (try clear ho0); obtain ⟨Ao28, co28, eo28⟩ := Kd.R_slice HO675.out; subst eo28) | (go_at_call 33; (with_reducible refine (laws_has.calls k2 _ _ t672 (wrap64 (-t659)) true _ ?side1 ?side2 A25.out).mono ?_); (case side1 => repeat (first | exact (Kd.R_reads' HO675.out).2.2 | (with_reducible refine Kd.C_alloc ?_ _) | (with_reducible refine Kd.C_drewN ?_ _) | (with_reducible refine Kd.C_drew ?_))); (case side2 => exact (Kd.R_reads' HO675.out).2.1); rintro e w' ⟨rfl, ⟨nd, rfl⟩⟩))
                                go_roundg k2
                                case measure => have := HJ6.out; have := HK2.out; omega
                                case rel => exact ⟨(wrap64 (x77_2 + 1)), (by first | rfl | (simp; done) | (simp [*]; done)), H', ⟨by have := HJ6.out; have := HK2.out; omega⟩, ⟨by (with_reducible repeat (first | apply Kd.N_alloc | apply Kd.N_drewN | apply Kd.N_drew)); exact Kd.N_mono HO_6.out (fun _ hk => hk.1)⟩, ⟨by (with_reducible repeat (first | apply Kd.R_alloc | apply Kd.R_drewN | apply Kd.R_drew)); exact Kd.R_mono HO_75.out (fun _ hk => trivial)⟩, ⟨by repeat (first | (with_reducible first | exact HB.out | apply below_alloc | apply pw_below_drewN | apply below_drew1) | exact HB.out)⟩⟩
                              · replace c26 := Bool.eq_false_iff.mpr c26
                                subst c26
                                have H1 : (some false) = some r := by rw [if_neg (show ¬ (false = true) by decide)] at H; exact H
                                clear H
                                have H := H1
                                clear H1
                                obtain rfl := Option.some.inj H
                                have p671 : 0 ≤ (x77_2 : Int) := of_decide_eq_true (by first | (with_reducible assumption) | assumption)
                                have q671 : x77_2 < (t662.length : Int) := of_decide_eq_true (by first | (with_reducible assumption) | assumption)
                                obtain ⟨ad671, e671, hx671_0⟩ := Kd.at_int (Kd.R_reads' HO_75.out).2.2 x77_2 p671 q671
                                cases e671
                                replace p671 := eq_true p671
                                replace q671 := eq_true q671
                                go_wp2_with (first | ((with_reducible refine gate_callee (f := 16) rfl ?_); refine goesL_ (some 86) rfl rfl Try.func16 (by kernel_rfl) rfl #[.int .i64 t657, .slice Ao9 t658.length co9, .int .i64 (wrap64 (-(rd t662 x77_2)))] rfl (by (try simp only [List.map_toArray, List.map_cons, List.map_nil]); first | done | rfl | (simp only [List.length_drop, List.length_take]; rfl)) ?_; (with_reducible refine (impl_LeadsTo.calls k2 t657 _ _ t658 (wrap64 (-(rd t662 x77_2))) t672 true _ ?side1 ?side2 A23.out).mono ?_); (case side1 => repeat (first | exact (Kd.N_reads' HO_6.out).2.2 | (with_reducible refine Kd.C_alloc ?_ _) | (with_reducible refine Kd.C_drewN ?_ _) | (with_reducible refine Kd.C_drew ?_))); (case side2 => exact (Kd.N_reads' HO_6.out).2.1); rintro e w29 ⟨v674, rfl, ho0, hb⟩; refine ⟨_, rfl, ?_⟩; have n0_ := Aside0.mk (Kd.N_elder' (by (with_reducible repeat (first | apply Kd.N_alloc | apply Kd.N_drewN | apply Kd.N_drew)); exact HO_6.out) (Kd.R_base ho0) hb); have n1_ := Aside0.mk (Kd.R_elder' (by (with_reducible repeat (first | apply Kd.R_alloc | apply Kd.R_drewN | apply Kd.R_drew)); exact HO_75.out) (Kd.R_base ho0) hb); have n2_ := Aside0.mk (Kd.R_lower (Kd.R_new' ho0 (Kd.R_lt (by (with_reducible repeat (first | apply Kd.R_alloc | apply Kd.R_drewN | apply Kd.R_drew)); exact HO_75.out))) (below_size (by repeat (first | (with_reducible first | exact HB.out | apply below_alloc | apply pw_below_drewN | apply below_drew1) | exact HB.out)))); have n3_ := Aside0.mk (below_step (by repeat (first | (with_reducible first | exact HB.out | apply below_alloc | apply pw_below_drewN | apply below_drew1) | exact HB.out)) hb); clear HO_6; clear HO_75; clear HB; have HO_6 := n0_; have HO_75 := n1_; have HO675 := n2_; have HB := n3_; clear n0_ n1_ n2_ n3_; (try clear hb); (try clear hb2); (try clear hk); (try clear hi); (try clear ho0); obtain ⟨Ao30, co30, eo30⟩ := Kd.R_slice HO675.out; subst eo30) | (go_at_call 33; (with_reducible refine (laws_has.calls k2 _ _ t672 (wrap64 (-t659)) false _ ?side1 ?side2 A25.out).mono ?_); (case side1 => repeat (first | exact (Kd.R_reads' HO675.out).2.2 | (with_reducible refine Kd.C_alloc ?_ _) | (with_reducible refine Kd.C_drewN ?_ _) | (with_reducible refine Kd.C_drew ?_))); (case side2 => exact (Kd.R_reads' HO675.out).2.1); rintro e w' ⟨rfl, ⟨nd, rfl⟩⟩))
                                go_ret
                                exact ⟨by first | rfl | (simp [errW_none, errW_some] <;> rfl) | (simp [*, errW_none, errW_some] <;> rfl), by repeat (first | (with_reducible first | exact HB.out | apply below_alloc | apply pw_below_drewN | apply below_drew1) | exact HB.out)⟩
                            · replace c24 := Bool.eq_false_iff.mpr c24
                              subst c24
                              have H1 : (some false) = some r := by rw [if_neg (show ¬ (false = true) by decide)] at H; exact H
                              clear H
                              have H := H1
                              clear H1
                              obtain rfl := Option.some.inj H
                              have p671 : 0 ≤ (x77_2 : Int) := of_decide_eq_true (by first | (with_reducible assumption) | assumption)
                              have q671 : x77_2 < (t662.length : Int) := of_decide_eq_true (by first | (with_reducible assumption) | assumption)
                              obtain ⟨ad671, e671, hx671_0⟩ := Kd.at_int (Kd.R_reads' HO_75.out).2.2 x77_2 p671 q671
                              cases e671
                              replace p671 := eq_true p671
                              replace q671 := eq_true q671
                              go_wp2_with (first | ((with_reducible refine gate_callee (f := 16) rfl ?_); refine goesL_ (some 86) rfl rfl Try.func16 (by kernel_rfl) rfl #[.int .i64 t657, .slice Ao9 t658.length co9, .int .i64 (wrap64 (-(rd t662 x77_2)))] rfl (by (try simp only [List.map_toArray, List.map_cons, List.map_nil]); first | done | rfl | (simp only [List.length_drop, List.length_take]; rfl)) ?_; (with_reducible refine (impl_LeadsTo.calls k2 t657 _ _ t658 (wrap64 (-(rd t662 x77_2))) t672 false _ ?side1 ?side2 A23.out).mono ?_); (case side1 => repeat (first | exact (Kd.N_reads' HO_6.out).2.2 | (with_reducible refine Kd.C_alloc ?_ _) | (with_reducible refine Kd.C_drewN ?_ _) | (with_reducible refine Kd.C_drew ?_))); (case side2 => exact (Kd.N_reads' HO_6.out).2.1); rintro e w31 ⟨v674, rfl, ho0, hb⟩; refine ⟨_, rfl, ?_⟩; have n0_ := Aside0.mk (Kd.N_elder' (by (with_reducible repeat (first | apply Kd.N_alloc | apply Kd.N_drewN | apply Kd.N_drew)); exact HO_6.out) (Kd.R_base ho0) hb); have n1_ := Aside0.mk (Kd.R_elder' (by (with_reducible repeat (first | apply Kd.R_alloc | apply Kd.R_drewN | apply Kd.R_drew)); exact HO_75.out) (Kd.R_base ho0) hb); have n2_ := Aside0.mk (Kd.R_lower (Kd.R_new' ho0 (Kd.R_lt (by (with_reducible repeat (first | apply Kd.R_alloc | apply Kd.R_drewN | apply Kd.R_drew)); exact HO_75.out))) (below_size (by repeat (first | (with_reducible first | exact HB.out | apply below_alloc | apply pw_below_drewN | apply below_drew1) | exact HB.out)))); have n3_ := Aside0.mk (below_step (by repeat (first | (with_reducible first | exact HB.out | apply below_alloc | apply pw_below_drewN | apply below_drew1) | exact HB.out)) hb); clear HO_6; clear HO_75; clear HB; have HO_6 := n0_; have HO_75 := n1_; have HO675 := n2_; have HB := n3_; clear n0_ n1_ n2_ n3_; (try clear hb); (try clear hb2); (try clear hk); (try clear hi); (try clear ho0)))
                              go_ret
                              exact ⟨by first | rfl | (simp [errW_none, errW_some] <;> rfl) | (simp [*, errW_none, errW_some] <;> rfl), by repeat (first | (with_reducible first | exact HB.out | apply below_alloc | apply pw_below_drewN | apply below_drew1) | exact HB.out)⟩
                          · rw [if_neg c22] at H
                            exact absurd H (by simp)
                        · rw [if_neg c21] at H
                          exact absurd H (by simp)
                      · rw [if_neg c20] at H
                        have c20b0 : decide (x77_2 < (t662.length : Int)) = false := decide_eq_false c20
                        clear c20
                        (first | rw [c20b0] | (simp only [i64_w, i32_w]; rw [c20b0]) | skip)
                        replace H := Option.bind_eq_some_iff.mp H
                        obtain ⟨⟨t677, t678⟩, A320, H⟩ := H
                        replace H : (laws_FnLeads.l1 k2 l1 t657 t658 t678 0 t677 (t677.length : Int) 0) = some r := H
                        have A32 := Aside0.mk A320
                        clear A320
                        have H' := Aside0.mk H
                        clear H
                        go_wp2_with (first | ((with_reducible refine gate_callee (f := 24) rfl ?_); refine goesL_ (some 102) rfl rfl Try.func24 (by kernel_rfl) rfl #[.int .i64 t657, .slice Ao9 t658.length co9] rfl (by (try simp only [List.map_toArray, List.map_cons, List.map_nil]); first | done | rfl | (simp only [List.length_drop, List.length_take]; rfl)) ?_; (with_reducible refine (impl_LoopsOf.calls k2 t657 _ _ t658 t677 t678 _ ?side1 ?side2 A32.out).mono ?_); (case side1 => repeat (first | exact (Kd.N_reads' HO_6.out).2.2 | (with_reducible refine Kd.C_alloc ?_ _) | (with_reducible refine Kd.C_drewN ?_ _) | (with_reducible refine Kd.C_drew ?_))); (case side2 => exact (Kd.N_reads' HO_6.out).2.1); rintro e w33 ⟨v679, rfl, ho0, hb⟩; refine ⟨_, rfl, ?_⟩; have n0_ := Aside0.mk (Kd.N_elder' (by (with_reducible repeat (first | apply Kd.N_alloc | apply Kd.N_drewN | apply Kd.N_drew)); exact HO_6.out) (Kd.N_base (Kd.S_N ho0)) hb); have n1_ := Aside0.mk (Kd.R_below (by (with_reducible repeat (first | apply Kd.R_alloc | apply Kd.R_drewN | apply Kd.R_drew)); exact HO_75.out) hb); have n2_ := Aside0.mk (Kd.N_lower (Kd.N_mono (ok' := fun k_ => some k_ ≠ (.slice Ao9 t658.length co9 : Value).ownBlock ∧ some k_ ≠ (.slice Ao19 t662.length co19 : Value).ownBlock) (Kd.S_N (Kd.S_bound ho0)) (fun k_ hk_ => ⟨(Kd.fresh' (Kd.N_lt (by (with_reducible repeat (first | apply Kd.N_alloc | apply Kd.N_drewN | apply Kd.N_drew)); exact HO_6.out)) k_ hk_.2.1), (Kd.fresh' (Kd.R_lt (by (with_reducible repeat (first | apply Kd.R_alloc | apply Kd.R_drewN | apply Kd.R_drew)); exact HO_75.out)) k_ hk_.2.1)⟩)) (below_size (by repeat (first | (with_reducible first | exact HB.out | apply below_alloc | apply pw_below_drewN | apply below_drew1) | exact HB.out)))); have n3_ := Aside0.mk (below_step (by repeat (first | (with_reducible first | exact HB.out | apply below_alloc | apply pw_below_drewN | apply below_drew1) | exact HB.out)) hb); clear HO_6; clear HO_75; clear HB; have HO_6 := n0_; have HO_75 := n1_; have HO680 := n2_; have HB := n3_; clear n0_ n1_ n2_ n3_; (try clear hb); (try clear hb2); (try clear hk); (try clear hi); (try clear ho0); obtain ⟨Ao34, co34, eo34⟩ := Kd.N_slice HO680.out; subst eo34))
                        go_loopg [18, 107] k2 (fun kq v18 v107 w' => ∃ (x18_3 : Int) (x107_3 : Int), v18 = .int .i64 x18_3 ∧ v107 = .int .i64 x107_3 ∧ Aside0 (laws_FnLeads.l1 kq l1 t657 t658 t678 x18_3 t677 (t677.length : Int) x107_3 = some r) ∧ Aside0 (kq ≤ k2) ∧ Aside0 (Kd.N (Kd.slice 3 (Kd.int .i64)) 29 w' w.heap.size (fun k_ => some k_ ≠ ((.slice Ao34 t677.length co34) : Value).ownBlock) (.slice Ao9 t658.length co9) t658) ∧ Aside0 (Kd.N (Kd.slice 3 (Kd.int .i64)) 29 w' w.heap.size (fun k_ => some k_ ≠ ((.slice Ao9 t658.length co9) : Value).ownBlock) (.slice Ao34 t677.length co34) t677) ∧ Aside0 (Below w.heap.size w w'))
                        case atStart => exact ⟨(0), (0), (by first | rfl | (simp; done) | (simp [*]; done)), (by first | rfl | (simp; done) | (simp [*]; done)), H', ⟨Nat.le_refl _⟩, ⟨by (with_reducible repeat (first | apply Kd.N_alloc | apply Kd.N_drewN | apply Kd.N_drew)); exact Kd.N_mono HO_6.out (fun _ hk => hk.2)⟩, ⟨by (with_reducible repeat (first | apply Kd.N_alloc | apply Kd.N_drewN | apply Kd.N_drew)); exact Kd.N_mono HO680.out (fun _ hk => hk.1)⟩, ⟨by repeat (first | (with_reducible first | exact HB.out | apply below_alloc | apply pw_below_drewN | apply below_drew1) | exact HB.out)⟩⟩
                        case round =>
                          as_aux_lemma =>
                            clear H'
                            try clear c1
                            try clear c2
                            try clear p2
                            try clear c3
                            try clear c3b0
                            try clear p6
                            try clear q6
                            try clear hx6
                            try clear c8
                            try clear c12
                            try clear c12b0
                            try clear c12b1
                            try clear c12b2
                            try clear c15
                            try clear c16
                            try clear c18
                            try clear c20
                            try clear c20b0
                            try clear c21
                            try clear c21b0
                            try clear c22
                            try clear c22b0
                            try clear c24
                            try clear c26
                            try clear c31
                            try clear hx671_0
                            try clear p2
                            try clear p6
                            try clear p671
                            try clear q671
                            obtain ⟨x18_3, x107_3, rfl, rfl, HA, HK3, HO_6, HO_105, HB⟩ := hrel
                            cases gk with
                            | zero => exact absurd HA.out (by simp [laws_FnLeads.l1])
                            | succ k3 =>
                              have H := HA.out
                              clear HA
                              simp only [laws_FnLeads.l1] at H
                              by_cases c35 : x107_3 < (t677.length : Int)
                              · rw [if_pos c35] at H
                                have c35b0 : decide (x107_3 < (t677.length : Int)) = true := decide_eq_true c35
                                clear c35
                                by_cases c36 : 0 ≤ x107_3
                                · rw [if_pos c36] at H
                                  have c36b0 : decide (0 ≤ x107_3) = true := decide_eq_true c36
                                  clear c36
                                  by_cases c37 : x107_3 < (t677.length : Int)
                                  · rw [if_pos c37] at H
                                    have c37b0 : decide (x107_3 < (t677.length : Int)) = true := decide_eq_true c37
                                    clear c37
                                    have H' := Aside0.mk H
                                    clear H
                                    have p681 : 0 ≤ (x107_3 : Int) := of_decide_eq_true (by first | (with_reducible assumption) | assumption)
                                    have q681 : x107_3 < (t677.length : Int) := of_decide_eq_true (by first | (with_reducible assumption) | assumption)
                                    obtain ⟨ad681, A681_0, c681_0, e681, hx681_0, hl681_0, hi681_0⟩ := at_L1 (Kd.N_reads' HO_105.out).2.2 x107_3 p681 q681
                                    cases e681
                                    obtain ⟨ce681, hce681, hMe681, hcc681⟩ := Kd.N_get HO_105.out [] x107_3 p681 (by first | exact q681 | exact of_decide_eq_true (by first | (with_reducible assumption) | assumption) | (have e_ := (Kd.N_reads' HO_105.out).1; omega))
                                    obtain ⟨ua681_0, uc681_0, rfl, ul681_0, ge681_0⟩ := Kd.FK_slice_open hMe681
                                    have hv681_0 := hcc681 0 _ rfl
                                    rw [Nat.add_zero, show ((Kd.slice 3 (Kd.int .i64))).sz = 1 from rfl, Nat.mul_one] at hv681_0
                                    replace hv681_0 := Option.some.inj (hv681_0.symm.trans hx681_0)
                                    injection hv681_0 with hva_ hvn_ hvc_
                                    rw [hva_] at ge681_0
                                    rw [hvc_] at ul681_0
                                    have HL681_0 := Aside0.mk (show Kd.V (Kd.int .i64) 3 _ w.heap.size _ _ (rd_L1 t677 x107_3) from Kd.V_mk ul681_0 ge681_0)
                                    clear hva_ hvn_ hvc_ ge681_0 ul681_0
                                    clear hcc681 hce681
                                    have HR681_0 := Aside0.mk hi681_0
                                    have HC681_0 := Aside0.mk hl681_0
                                    clear hi681_0 hl681_0
                                    replace p681 := eq_true p681
                                    replace q681 := eq_true q681
                                    go_wp2
                                    go_loopg [117] k3 (fun kq v117 w' => ∃ (x117_4 : Int), v117 = .int .i64 x117_4 ∧ Aside0 (laws_FnLeads.l2 kq l1 t657 t658 t678 (wrap64 (x18_3 + ((rd_L1 t677 x107_3).length : Int))) (rd_L1 t677 x107_3) t677 (t677.length : Int) x107_3 (rd_L1 t677 x107_3) ((rd_L1 t677 x107_3).length : Int) x117_4 = some r) ∧ Aside0 (kq ≤ k3) ∧ Aside0 (Kd.N (Kd.slice 3 (Kd.int .i64)) 29 w' w.heap.size (fun k_ => some k_ ≠ ((.slice (some ad681) t677.length co34) : Value).ownBlock) (.slice Ao9 t658.length co9) t658) ∧ Aside0 (Kd.N (Kd.slice 3 (Kd.int .i64)) 29 w' w.heap.size (fun k_ => some k_ ≠ ((.slice Ao9 t658.length co9) : Value).ownBlock) (.slice (some ad681) t677.length co34) t677) ∧ Aside0 (Kd.C (Kd.int .i64) w' A681_0 (rd_L1 t677 x107_3).length (rd_L1 t677 x107_3)) ∧ Aside0 (Below w.heap.size w w'))
                                    case atStart => exact ⟨(0), (by first | rfl | (simp; done) | (simp [*]; done)), H', ⟨Nat.le_refl _⟩, ⟨by (with_reducible repeat (first | apply Kd.N_alloc | apply Kd.N_drewN | apply Kd.N_drew)); exact HO_6.out⟩, ⟨by (with_reducible repeat (first | apply Kd.N_alloc | apply Kd.N_drewN | apply Kd.N_drew)); exact HO_105.out⟩, ⟨by repeat (first | (with_reducible exact HR681_0.out) | (with_reducible refine Kd.C_alloc ?_ _) | (with_reducible refine Kd.C_drewN ?_ _) | (with_reducible refine Kd.C_drew ?_) | exact HR681_0.out)⟩, ⟨by repeat (first | (with_reducible first | exact HB.out | apply below_alloc | apply pw_below_drewN | apply below_drew1) | exact HB.out)⟩⟩
                                    case round =>
                                      as_aux_lemma =>
                                        clear H'
                                        try clear c1
                                        try clear c2
                                        try clear p2
                                        try clear c3
                                        try clear c3b0
                                        try clear c6
                                        try clear p6
                                        try clear q6
                                        try clear hx6
                                        try clear c8
                                        try clear c12
                                        try clear c12b0
                                        try clear c12b1
                                        try clear c12b2
                                        try clear c15
                                        try clear c16
                                        try clear c18
                                        try clear c20
                                        try clear c20b0
                                        try clear c21
                                        try clear c21b0
                                        try clear c22
                                        try clear c22b0
                                        try clear c24
                                        try clear c26
                                        try clear c31
                                        try clear c35
                                        try clear c35b0
                                        try clear c36
                                        try clear c36b0
                                        try clear c37
                                        try clear c37b0
                                        try clear hx671_0
                                        try clear hx681_0
                                        try clear p2
                                        try clear p6
                                        try clear p671
                                        try clear p681
                                        try clear q6
                                        try clear q671
                                        try clear q681
                                        obtain ⟨x117_4, rfl, HA, HK4, HO_6, HO_105, HR681_0, HB⟩ := hrel
                                        cases gk with
                                        | zero => exact absurd HA.out (by simp [laws_FnLeads.l2])
                                        | succ k4 =>
                                          have H := HA.out
                                          clear HA
                                          simp only [laws_FnLeads.l2] at H
                                          by_cases c38 : x117_4 < ((rd_L1 t677 x107_3).length : Int)
                                          · rw [if_pos c38] at H
                                            have c38b0 : decide (x117_4 < ((rd_L1 t677 x107_3).length : Int)) = true := decide_eq_true c38
                                            clear c38
                                            by_cases c39 : 0 ≤ x117_4
                                            · rw [if_pos c39] at H
                                              have c39b0 : decide (0 ≤ x117_4) = true := decide_eq_true c39
                                              clear c39
                                              by_cases c40 : x117_4 < ((rd_L1 t677 x107_3).length : Int)
                                              · rw [if_pos c40] at H
                                                have c40b0 : decide (x117_4 < ((rd_L1 t677 x107_3).length : Int)) = true := decide_eq_true c40
                                                clear c40
                                                by_cases c41 : 0 < ((rd_L1 t677 x107_3).length : Int)
                                                · rw [if_pos c41] at H
                                                  have c41b0 : decide (0 < ((rd_L1 t677 x107_3).length : Int)) = true := decide_eq_true c41
                                                  have c41b1 : decide (0 < (rd_L1 t677 x107_3).length) = true := decide_eq_true (by omega)
                                                  clear c41
                                                  replace H := Option.bind_eq_some_iff.mp H
                                                  obtain ⟨⟨t684, t685⟩, A420, H⟩ := H
                                                  replace H : (if t685 = true then ((laws_has.f k4 t684 (rd (rd_L1 t677 x107_3) x117_4)).bind fun t688 => (if t688 = true then (laws_FnLeads.l2 k4 l1 t657 t658 t678 (wrap64 (x18_3 + ((rd_L1 t677 x107_3).length : Int))) (rd_L1 t677 x107_3) t677 (t677.length : Int) x107_3 (rd_L1 t677 x107_3) ((rd_L1 t677 x107_3).length : Int) (wrap64 (x117_4 + 1))) else (some false))) else (some false)) = some r := H
                                                  have A42 := Aside0.mk A420
                                                  clear A420
                                                  by_cases c43 : t685 = true
                                                  · subst c43
                                                    have H1 : ((laws_has.f k4 t684 (rd (rd_L1 t677 x107_3) x117_4)).bind fun t688 => (if t688 = true then (laws_FnLeads.l2 k4 l1 t657 t658 t678 (wrap64 (x18_3 + ((rd_L1 t677 x107_3).length : Int))) (rd_L1 t677 x107_3) t677 (t677.length : Int) x107_3 (rd_L1 t677 x107_3) ((rd_L1 t677 x107_3).length : Int) (wrap64 (x117_4 + 1))) else (some false))) = some r := by rw [if_pos rfl] at H; exact H
                                                    clear H
                                                    have H := H1
                                                    clear H1
                                                    replace H := Option.bind_eq_some_iff.mp H
                                                    obtain ⟨t688, A440, H⟩ := H
                                                    replace H : (if t688 = true then (laws_FnLeads.l2 k4 l1 t657 t658 t678 (wrap64 (x18_3 + ((rd_L1 t677 x107_3).length : Int))) (rd_L1 t677 x107_3) t677 (t677.length : Int) x107_3 (rd_L1 t677 x107_3) ((rd_L1 t677 x107_3).length : Int) (wrap64 (x117_4 + 1))) else (some false)) = some r := H
                                                    have A44 := Aside0.mk A440
                                                    clear A440
                                                    by_cases c45 : t688 = true
                                                    · subst c45
                                                      have H1 : (laws_FnLeads.l2 k4 l1 t657 t658 t678 (wrap64 (x18_3 + ((rd_L1 t677 x107_3).length : Int))) (rd_L1 t677 x107_3) t677 (t677.length : Int) x107_3 (rd_L1 t677 x107_3) ((rd_L1 t677 x107_3).length : Int) (wrap64 (x117_4 + 1))) = some r := by rw [if_pos rfl] at H; exact H
                                                      clear H
                                                      have H := H1
                                                      clear H1
                                                      have H' := Aside0.mk H
                                                      clear H
                                                      have p682 : 0 ≤ (x117_4 : Int) := of_decide_eq_true (by first | (with_reducible assumption) | assumption)
                                                      have q682 : x117_4 < ((rd_L1 t677 x107_3).length : Int) := of_decide_eq_true (by first | (with_reducible assumption) | assumption)
                                                      obtain ⟨ad682, e682, hx682_0⟩ := Kd.at_int HR681_0.out x117_4 p682 q682
                                                      cases e682
                                                      (try replace hx682_0 := (HB.out.cell (World.block_lt_of_cell? w _ hx682_0)).trans hx682_0)
                                                      replace p682 := eq_true p682
                                                      replace q682 := eq_true q682
                                                      have p683 : 0 ≤ (0 : Int) := (by omega)
                                                      have q683 : 0 < ((rd_L1 t677 x107_3).length : Int) := of_decide_eq_true (by first | (with_reducible assumption) | assumption)
                                                      obtain ⟨ad683, e683, hx683_0⟩ := Kd.at_int HR681_0.out 0 p683 q683
                                                      obtain rfl : ad682 = ad683 := (by injection e683)
                                                      have qi683 : (0 < (rd_L1 t677 x107_3).length) = True := eq_true (by omega)
                                                      (try rw [show ((0 : Int)).toNat = 0 from rfl] at hx683_0)
                                                      (try rw [Addr.add_zero'] at hx683_0)
                                                      (try replace hx683_0 := (HB.out.cell (World.block_lt_of_cell? w _ hx683_0)).trans hx683_0)
                                                      replace p683 := eq_true p683
                                                      replace q683 := eq_true q683
                                                      go_wp2_with (first | ((with_reducible refine gate_callee (f := 16) rfl ?_); refine goesL_ (some 127) rfl rfl Try.func16 (by kernel_rfl) rfl #[.int .i64 t657, .slice Ao9 t658.length co9, .int .i64 (rd (rd_L1 t677 x107_3) 0)] rfl (by (try simp only [List.map_toArray, List.map_cons, List.map_nil]); first | done | rfl | (simp only [List.length_drop, List.length_take]; rfl)) ?_; (with_reducible refine (impl_LeadsTo.calls k4 t657 _ _ t658 (rd (rd_L1 t677 x107_3) 0) t684 true _ ?side1 ?side2 A42.out).mono ?_); (case side1 => repeat (first | exact (Kd.N_reads' HO_6.out).2.2 | (with_reducible refine Kd.C_alloc ?_ _) | (with_reducible refine Kd.C_drewN ?_ _) | (with_reducible refine Kd.C_drew ?_))); (case side2 => exact (Kd.N_reads' HO_6.out).2.1); rintro e w46 ⟨v686, rfl, ho0, hb⟩; refine ⟨_, rfl, ?_⟩; have n0_ := Aside0.mk (Kd.N_elder' (by (with_reducible repeat (first | apply Kd.N_alloc | apply Kd.N_drewN | apply Kd.N_drew)); exact HO_6.out) (Kd.R_base ho0) hb); have n1_ := Aside0.mk (Kd.N_elder' (by (with_reducible repeat (first | apply Kd.N_alloc | apply Kd.N_drewN | apply Kd.N_drew)); exact HO_105.out) (Kd.R_base ho0) hb); have n2_ := Aside0.mk (Kd.R_lower ho0 (below_size (by repeat (first | (with_reducible first | exact HB.out | apply below_alloc | apply pw_below_drewN | apply below_drew1) | exact HB.out)))); have n3_ := Aside0.mk (Kd.C_below (by repeat (first | (with_reducible exact HR681_0.out) | (with_reducible refine Kd.C_alloc ?_ _) | (with_reducible refine Kd.C_drewN ?_ _) | (with_reducible refine Kd.C_drew ?_) | exact HR681_0.out)) hb); have n4_ := Aside0.mk (below_step (by repeat (first | (with_reducible first | exact HB.out | apply below_alloc | apply pw_below_drewN | apply below_drew1) | exact HB.out)) hb); clear HO_6; clear HO_105; clear HR681_0; clear HB; have HO_6 := n0_; have HO_105 := n1_; have HO687 := n2_; have HR681_0 := n3_; have HB := n4_; clear n0_ n1_ n2_ n3_ n4_; (try clear hb); (try clear hb2); (try clear hk); (try clear hi); (try clear ho0); obtain ⟨Ao47, co47, eo47⟩ := Kd.R_slice HO687.out; subst eo47) | (go_at_call 33; (with_reducible refine (laws_has.calls k4 _ _ t684 (rd (rd_L1 t677 x107_3) x117_4) true _ ?side1 ?side2 A44.out).mono ?_); (case side1 => repeat (first | exact (Kd.R_reads' HO687.out).2.2 | (with_reducible refine Kd.C_alloc ?_ _) | (with_reducible refine Kd.C_drewN ?_ _) | (with_reducible refine Kd.C_drew ?_))); (case side2 => exact (Kd.R_reads' HO687.out).2.1); rintro e w' ⟨rfl, ⟨nd, rfl⟩⟩))
                                                      go_roundg k4
                                                      case measure => have := HJ6.out; have := HK2.out; have := HK3.out; have := HK4.out; omega
                                                      case rel => exact ⟨(wrap64 (x117_4 + 1)), (by first | rfl | (simp; done) | (simp [*]; done)), H', ⟨by have := HJ6.out; have := HK2.out; have := HK3.out; have := HK4.out; omega⟩, ⟨by (with_reducible repeat (first | apply Kd.N_alloc | apply Kd.N_drewN | apply Kd.N_drew)); exact Kd.N_mono HO_6.out (fun _ hk => hk.1)⟩, ⟨by (with_reducible repeat (first | apply Kd.N_alloc | apply Kd.N_drewN | apply Kd.N_drew)); exact Kd.N_mono HO_105.out (fun _ hk => hk.1)⟩, ⟨by repeat (first | (with_reducible exact HR681_0.out) | (with_reducible refine Kd.C_alloc ?_ _) | (with_reducible refine Kd.C_drewN ?_ _) | (with_reducible refine Kd.C_drew ?_) | exact HR681_0.out)⟩, ⟨by repeat (first | (with_reducible first | exact HB.out | apply below_alloc | apply pw_below_drewN | apply below_drew1) | exact HB.out)⟩⟩
                                                    · replace c45 := Bool.eq_false_iff.mpr c45
                                                      subst c45
                                                      have H1 : (some false) = some r := by rw [if_neg (show ¬ (false = true) by decide)] at H; exact H
                                                      clear H
                                                      have H := H1
                                                      clear H1
                                                      obtain rfl := Option.some.inj H
                                                      have p682 : 0 ≤ (x117_4 : Int) := of_decide_eq_true (by first | (with_reducible assumption) | assumption)
                                                      have q682 : x117_4 < ((rd_L1 t677 x107_3).length : Int) := of_decide_eq_true (by first | (with_reducible assumption) | assumption)
                                                      obtain ⟨ad682, e682, hx682_0⟩ := Kd.at_int HR681_0.out x117_4 p682 q682
                                                      cases e682
                                                      (try replace hx682_0 := (HB.out.cell (World.block_lt_of_cell? w _ hx682_0)).trans hx682_0)
                                                      replace p682 := eq_true p682
                                                      replace q682 := eq_true q682
                                                      have p683 : 0 ≤ (0 : Int) := (by omega)
                                                      have q683 : 0 < ((rd_L1 t677 x107_3).length : Int) := of_decide_eq_true (by first | (with_reducible assumption) | assumption)
                                                      obtain ⟨ad683, e683, hx683_0⟩ := Kd.at_int HR681_0.out 0 p683 q683
                                                      obtain rfl : ad682 = ad683 := (by injection e683)
                                                      have qi683 : (0 < (rd_L1 t677 x107_3).length) = True := eq_true (by omega)
                                                      (try rw [show ((0 : Int)).toNat = 0 from rfl] at hx683_0)
                                                      (try rw [Addr.add_zero'] at hx683_0)
                                                      (try replace hx683_0 := (HB.out.cell (World.block_lt_of_cell? w _ hx683_0)).trans hx683_0)
                                                      replace p683 := eq_true p683
                                                      replace q683 := eq_true q683
                                                      go_wp2_with (first | ((with_reducible refine gate_callee (f := 16) rfl ?_); refine goesL_ (some 127) rfl rfl Try.func16 (by kernel_rfl) rfl #[.int .i64 t657, .slice Ao9 t658.length co9, .int .i64 (rd (rd_L1 t677 x107_3) 0)] rfl (by (try simp only [List.map_toArray, List.map_cons, List.map_nil]); first | done | rfl | (simp only [List.length_drop, List.length_take]; rfl)) ?_; (with_reducible refine (impl_LeadsTo.calls k4 t657 _ _ t658 (rd (rd_L1 t677 x107_3) 0) t684 true _ ?side1 ?side2 A42.out).mono ?_); (case side1 => repeat (first | exact (Kd.N_reads' HO_6.out).2.2 | (with_reducible refine Kd.C_alloc ?_ _) | (with_reducible refine Kd.C_drewN ?_ _) | (with_reducible refine Kd.C_drew ?_))); (case side2 => exact (Kd.N_reads' HO_6.out).2.1); rintro e w48 ⟨v686, rfl, ho0, hb⟩; refine ⟨_, rfl, ?_⟩; have n0_ := Aside0.mk (Kd.N_elder' (by (with_reducible repeat (first | apply Kd.N_alloc | apply Kd.N_drewN | apply Kd.N_drew)); exact HO_6.out) (Kd.R_base ho0) hb); have n1_ := Aside0.mk (Kd.N_elder' (by (with_reducible repeat (first | apply Kd.N_alloc | apply Kd.N_drewN | apply Kd.N_drew)); exact HO_105.out) (Kd.R_base ho0) hb); have n2_ := Aside0.mk (Kd.R_lower ho0 (below_size (by repeat (first | (with_reducible first | exact HB.out | apply below_alloc | apply pw_below_drewN | apply below_drew1) | exact HB.out)))); have n3_ := Aside0.mk (Kd.C_below (by repeat (first | (with_reducible exact HR681_0.out) | (with_reducible refine Kd.C_alloc ?_ _) | (with_reducible refine Kd.C_drewN ?_ _) | (with_reducible refine Kd.C_drew ?_) | exact HR681_0.out)) hb); have n4_ := Aside0.mk (below_step (by repeat (first | (with_reducible first | exact HB.out | apply below_alloc | apply pw_below_drewN | apply below_drew1) | exact HB.out)) hb); clear HO_6; clear HO_105; clear HR681_0; clear HB; have HO_6 := n0_; have HO_105 := n1_; have HO687 := n2_; have HR681_0 := n3_; have HB := n4_; clear n0_ n1_ n2_ n3_ n4_; (try clear hb); (try clear hb2); (try clear hk); (try clear hi); (try clear ho0); obtain ⟨Ao49, co49, eo49⟩ := Kd.R_slice HO687.out; subst eo49) | (go_at_call 33; (with_reducible refine (laws_has.calls k4 _ _ t684 (rd (rd_L1 t677 x107_3) x117_4) false _ ?side1 ?side2 A44.out).mono ?_); (case side1 => repeat (first | exact (Kd.R_reads' HO687.out).2.2 | (with_reducible refine Kd.C_alloc ?_ _) | (with_reducible refine Kd.C_drewN ?_ _) | (with_reducible refine Kd.C_drew ?_))); (case side2 => exact (Kd.R_reads' HO687.out).2.1); rintro e w' ⟨rfl, ⟨nd, rfl⟩⟩))
                                                      go_ret
                                                      exact ⟨by first | rfl | (simp [errW_none, errW_some] <;> rfl) | (simp [*, errW_none, errW_some] <;> rfl), by repeat (first | (with_reducible first | exact HB.out | apply below_alloc | apply pw_below_drewN | apply below_drew1) | exact HB.out)⟩
                                                  · replace c43 := Bool.eq_false_iff.mpr c43
                                                    subst c43
                                                    have H1 : (some false) = some r := by rw [if_neg (show ¬ (false = true) by decide)] at H; exact H
                                                    clear H
                                                    have H := H1
                                                    clear H1
                                                    obtain rfl := Option.some.inj H
                                                    have p682 : 0 ≤ (x117_4 : Int) := of_decide_eq_true (by first | (with_reducible assumption) | assumption)
                                                    have q682 : x117_4 < ((rd_L1 t677 x107_3).length : Int) := of_decide_eq_true (by first | (with_reducible assumption) | assumption)
                                                    obtain ⟨ad682, e682, hx682_0⟩ := Kd.at_int HR681_0.out x117_4 p682 q682
                                                    cases e682
                                                    (try replace hx682_0 := (HB.out.cell (World.block_lt_of_cell? w _ hx682_0)).trans hx682_0)
                                                    replace p682 := eq_true p682
                                                    replace q682 := eq_true q682
                                                    have p683 : 0 ≤ (0 : Int) := (by omega)
                                                    have q683 : 0 < ((rd_L1 t677 x107_3).length : Int) := of_decide_eq_true (by first | (with_reducible assumption) | assumption)
                                                    obtain ⟨ad683, e683, hx683_0⟩ := Kd.at_int HR681_0.out 0 p683 q683
                                                    obtain rfl : ad682 = ad683 := (by injection e683)
                                                    have qi683 : (0 < (rd_L1 t677 x107_3).length) = True := eq_true (by omega)
                                                    (try rw [show ((0 : Int)).toNat = 0 from rfl] at hx683_0)
                                                    (try rw [Addr.add_zero'] at hx683_0)
                                                    (try replace hx683_0 := (HB.out.cell (World.block_lt_of_cell? w _ hx683_0)).trans hx683_0)
                                                    replace p683 := eq_true p683
                                                    replace q683 := eq_true q683
                                                    go_wp2_with (first | ((with_reducible refine gate_callee (f := 16) rfl ?_); refine goesL_ (some 127) rfl rfl Try.func16 (by kernel_rfl) rfl #[.int .i64 t657, .slice Ao9 t658.length co9, .int .i64 (rd (rd_L1 t677 x107_3) 0)] rfl (by (try simp only [List.map_toArray, List.map_cons, List.map_nil]); first | done | rfl | (simp only [List.length_drop, List.length_take]; rfl)) ?_; (with_reducible refine (impl_LeadsTo.calls k4 t657 _ _ t658 (rd (rd_L1 t677 x107_3) 0) t684 false _ ?side1 ?side2 A42.out).mono ?_); (case side1 => repeat (first | exact (Kd.N_reads' HO_6.out).2.2 | (with_reducible refine Kd.C_alloc ?_ _) | (with_reducible refine Kd.C_drewN ?_ _) | (with_reducible refine Kd.C_drew ?_))); (case side2 => exact (Kd.N_reads' HO_6.out).2.1); rintro e w50 ⟨v686, rfl, ho0, hb⟩; refine ⟨_, rfl, ?_⟩; have n0_ := Aside0.mk (Kd.N_elder' (by (with_reducible repeat (first | apply Kd.N_alloc | apply Kd.N_drewN | apply Kd.N_drew)); exact HO_6.out) (Kd.R_base ho0) hb); have n1_ := Aside0.mk (Kd.N_elder' (by (with_reducible repeat (first | apply Kd.N_alloc | apply Kd.N_drewN | apply Kd.N_drew)); exact HO_105.out) (Kd.R_base ho0) hb); have n2_ := Aside0.mk (Kd.R_lower ho0 (below_size (by repeat (first | (with_reducible first | exact HB.out | apply below_alloc | apply pw_below_drewN | apply below_drew1) | exact HB.out)))); have n3_ := Aside0.mk (Kd.C_below (by repeat (first | (with_reducible exact HR681_0.out) | (with_reducible refine Kd.C_alloc ?_ _) | (with_reducible refine Kd.C_drewN ?_ _) | (with_reducible refine Kd.C_drew ?_) | exact HR681_0.out)) hb); have n4_ := Aside0.mk (below_step (by repeat (first | (with_reducible first | exact HB.out | apply below_alloc | apply pw_below_drewN | apply below_drew1) | exact HB.out)) hb); clear HO_6; clear HO_105; clear HR681_0; clear HB; have HO_6 := n0_; have HO_105 := n1_; have HO687 := n2_; have HR681_0 := n3_; have HB := n4_; clear n0_ n1_ n2_ n3_ n4_; (try clear hb); (try clear hb2); (try clear hk); (try clear hi); (try clear ho0)))
                                                    go_ret
                                                    exact ⟨by first | rfl | (simp [errW_none, errW_some] <;> rfl) | (simp [*, errW_none, errW_some] <;> rfl), by repeat (first | (with_reducible first | exact HB.out | apply below_alloc | apply pw_below_drewN | apply below_drew1) | exact HB.out)⟩
                                                · rw [if_neg c41] at H
                                                  exact absurd H (by simp)
                                              · rw [if_neg c40] at H
                                                exact absurd H (by simp)
                                            · rw [if_neg c39] at H
                                              exact absurd H (by simp)
                                          · rw [if_neg c38] at H
                                            have c38b0 : decide (x117_4 < ((rd_L1 t677 x107_3).length : Int)) = false := decide_eq_false c38
                                            clear c38
                                            have H' := Aside0.mk H
                                            clear H
                                            go_wp2
                                            go_roundg k4
                                            case measure => have := HJ6.out; have := HK2.out; have := HK3.out; have := HK4.out; omega
                                            case rel => exact ⟨((wrap64 (x18_3 + ((rd_L1 t677 x107_3).length : Int)))), (wrap64 (x107_3 + 1)), (by first | rfl | (simp; done) | (simp [*]; done)), (by first | rfl | (simp; done) | (simp [*]; done)), H', ⟨by have := HJ6.out; have := HK2.out; have := HK3.out; have := HK4.out; omega⟩, ⟨by (with_reducible repeat (first | apply Kd.N_alloc | apply Kd.N_drewN | apply Kd.N_drew)); exact HO_6.out⟩, ⟨by (with_reducible repeat (first | apply Kd.N_alloc | apply Kd.N_drewN | apply Kd.N_drew)); exact HO_105.out⟩, ⟨by repeat (first | (with_reducible first | exact HB.out | apply below_alloc | apply pw_below_drewN | apply below_drew1) | exact HB.out)⟩⟩
                                  · rw [if_neg c37] at H
                                    exact absurd H (by simp)
                                · rw [if_neg c36] at H
                                  exact absurd H (by simp)
                              · rw [if_neg c35] at H
                                have c35b0 : decide (x107_3 < (t677.length : Int)) = false := decide_eq_false c35
                                clear c35
                                by_cases c51 : t678 = true
                                · subst c51
                                  have H1 : (if x18_3 = (wrap64 (2 * t657)) then (laws_FnLeads.j4 k3 l1) else (some false)) = some r := by rw [if_pos rfl] at H; exact H
                                  clear H
                                  have H := H1
                                  clear H1
                                  by_cases c52 : x18_3 = (wrap64 (2 * t657))
                                  · rw [if_pos c52] at H
                                    have c52b0 : (x18_3 == (wrap64 (2 * t657))) = true := beq_iff_eq.mpr c52
                                    have c52b1 : (x18_3 != (wrap64 (2 * t657))) = false := bne_eq_false_iff_eq.mpr c52
                                    clear c52
                                    have H' := Aside0.mk H
                                    clear H
                                    go_wp2
                                    go_meet
                                    case rel => exact ⟨_, H', ⟨by have := HJ6.out; have := HK2.out; have := HK3.out; first | omega | exact Nat.le_refl _⟩, ⟨by repeat (first | (with_reducible first | exact HB.out | apply below_alloc | apply pw_below_drewN | apply below_drew1) | exact HB.out)⟩⟩
                                  · rw [if_neg c52] at H
                                    have c52b0 : (x18_3 == (wrap64 (2 * t657))) = false := beq_eq_false_iff_ne.mpr c52
                                    have c52b1 : (x18_3 != (wrap64 (2 * t657))) = true := bne_iff_ne.mpr c52
                                    obtain rfl := Option.some.inj H
                                    go_wp2
                                    go_ret
                                    exact ⟨by first | rfl | (simp [errW_none, errW_some] <;> rfl) | (simp [*, errW_none, errW_some] <;> rfl), by repeat (first | (with_reducible first | exact HB.out | apply below_alloc | apply pw_below_drewN | apply below_drew1) | exact HB.out)⟩
                                · replace c51 := Bool.eq_false_iff.mpr c51
                                  subst c51
                                  have H1 : (some false) = some r := by rw [if_neg (show ¬ (false = true) by decide)] at H; exact H
                                  clear H
                                  have H := H1
                                  clear H1
                                  obtain rfl := Option.some.inj H
                                  go_wp2
                                  go_ret
                                  exact ⟨by first | rfl | (simp [errW_none, errW_some] <;> rfl) | (simp [*, errW_none, errW_some] <;> rfl), by repeat (first | (with_reducible first | exact HB.out | apply below_alloc | apply pw_below_drewN | apply below_drew1) | exact HB.out)⟩
              · replace c18 := Bool.eq_false_iff.mpr c18
                subst c18
                have H1 : (laws_FnLeads.j4 kj6 l1) = some r := by rw [if_neg (show ¬ (false = true) by decide)] at H; exact H
                clear H
                have H := H1
                clear H1
                have H' := Aside0.mk H
                clear H
                go_wp2
                go_meet
                case rel => exact ⟨_, H', ⟨by have := HJ6.out; first | omega | exact Nat.le_refl _⟩, ⟨by repeat (first | (with_reducible first | exact HB.out | apply below_alloc | apply pw_below_drewN | apply below_drew1) | exact HB.out)⟩⟩
            case rest =>
              as_aux_lemma =>
                clear HC17
                try clear c1
                try clear c2
                try clear p2
                try clear c3
                try clear c3b0
                try clear c4
                try clear c5
                try clear c6
                try clear p6
                try clear q6
                try clear hx6
                try clear qi6
                try clear c8
                try clear c12
                try clear c12b0
                try clear c12b1
                try clear c12b2
                try clear c15
                try clear c16
                try clear c18
                try clear c20
                try clear c20b0
                try clear c21
                try clear c21b0
                try clear c22
                try clear c22b0
                try clear c24
                try clear c26
                try clear c31
                try clear c35
                try clear c35b0
                try clear c36
                try clear c36b0
                try clear c37
                try clear c37b0
                try clear c38
                try clear c38b0
                try clear c39
                try clear c39b0
                try clear c40
                try clear c40b0
                try clear c41
                try clear c41b0
                try clear c41b1
                try clear c43
                try clear c45
                try clear c51
                try clear c52
                try clear c52b0
                try clear c52b1
                try clear hx671_0
                try clear hx681_0
                try clear hx682_0
                try clear hx683_0
                try clear p2
                try clear p6
                try clear p671
                try clear p681
                try clear p682
                try clear p683
                try clear q6
                try clear q671
                try clear q681
                try clear q682
                try clear q683
                obtain ⟨kq, HA, HJ16, HB⟩ := hcut
                cases kq with
                | zero => exact absurd HA.out (by simp [laws_FnLeads.j4])
                | succ kj16 =>
                  have H := HA.out
                  clear HA
                  simp only [laws_FnLeads.j4] at H
                  replace H := Option.bind_eq_some_iff.mp H
                  obtain ⟨⟨t689, t690⟩, A530, H⟩ := H
                  replace H : ((impl_LoopsOf.f kj16 t689 t690).bind fun bt693 => ((spec_LoopsOf.f kj16 t689 t690).bind fun bt697 => ((spec_DrawTwoOf.f kj16 l1).bind fun bt701 => ((impl_TwoOf.f kj16 bt701.1 bt701.2).bind fun bt705 => ((spec_TwoOf.f kj16 bt701.1 bt701.2).bind fun bt709 => (if (bt693.2 != bt697.2) = true then (laws_FnLeads.j5 kj16 bt701.1 bt701.2 bt705.1 bt705.2 true) else ((laws_sameRows.f kj16 bt693.1 bt697.1).bind fun t713 => (if t713 = true then (if (bt705.2 != bt709.2) = true then (laws_FnLeads.j5 kj16 bt701.1 bt701.2 bt705.1 bt705.2 true) else ((laws_sameRows.f kj16 bt705.1 bt709.1).bind fun t714 => (laws_FnLeads.j5 kj16 bt701.1 bt701.2 bt705.1 bt705.2 (!t714)))) else (laws_FnLeads.j5 kj16 bt701.1 bt701.2 bt705.1 bt705.2 true))))))))) = some r := H
                  have A53 := Aside0.mk A530
                  clear A530
                  replace H := Option.bind_eq_some_iff.mp H
                  obtain ⟨⟨t693, t694⟩, A540, H⟩ := H
                  replace H : ((spec_LoopsOf.f kj16 t689 t690).bind fun bt697 => ((spec_DrawTwoOf.f kj16 l1).bind fun bt701 => ((impl_TwoOf.f kj16 bt701.1 bt701.2).bind fun bt705 => ((spec_TwoOf.f kj16 bt701.1 bt701.2).bind fun bt709 => (if (t694 != bt697.2) = true then (laws_FnLeads.j5 kj16 bt701.1 bt701.2 bt705.1 bt705.2 true) else ((laws_sameRows.f kj16 t693 bt697.1).bind fun t713 => (if t713 = true then (if (bt705.2 != bt709.2) = true then (laws_FnLeads.j5 kj16 bt701.1 bt701.2 bt705.1 bt705.2 true) else ((laws_sameRows.f kj16 bt705.1 bt709.1).bind fun t714 => (laws_FnLeads.j5 kj16 bt701.1 bt701.2 bt705.1 bt705.2 (!t714)))) else (laws_FnLeads.j5 kj16 bt701.1 bt701.2 bt705.1 bt705.2 true)))))))) = some r := H
                  have A54 := Aside0.mk A540
                  clear A540
                  replace H := Option.bind_eq_some_iff.mp H
                  obtain ⟨⟨t697, t698⟩, A550, H⟩ := H
                  replace H : ((spec_DrawTwoOf.f kj16 l1).bind fun bt701 => ((impl_TwoOf.f kj16 bt701.1 bt701.2).bind fun bt705 => ((spec_TwoOf.f kj16 bt701.1 bt701.2).bind fun bt709 => (if (t694 != t698) = true then (laws_FnLeads.j5 kj16 bt701.1 bt701.2 bt705.1 bt705.2 true) else ((laws_sameRows.f kj16 t693 t697).bind fun t713 => (if t713 = true then (if (bt705.2 != bt709.2) = true then (laws_FnLeads.j5 kj16 bt701.1 bt701.2 bt705.1 bt705.2 true) else ((laws_sameRows.f kj16 bt705.1 bt709.1).bind fun t714 => (laws_FnLeads.j5 kj16 bt701.1 bt701.2 bt705.1 bt705.2 (!t714)))) else (laws_FnLeads.j5 kj16 bt701.1 bt701.2 bt705.1 bt705.2 true))))))) = some r := H
                  have A55 := Aside0.mk A550
                  clear A550
                  replace H := Option.bind_eq_some_iff.mp H
                  obtain ⟨⟨t701, t702⟩, A560, H⟩ := H
                  replace H : ((impl_TwoOf.f kj16 t701 t702).bind fun bt705 => ((spec_TwoOf.f kj16 t701 t702).bind fun bt709 => (if (t694 != t698) = true then (laws_FnLeads.j5 kj16 t701 t702 bt705.1 bt705.2 true) else ((laws_sameRows.f kj16 t693 t697).bind fun t713 => (if t713 = true then (if (bt705.2 != bt709.2) = true then (laws_FnLeads.j5 kj16 t701 t702 bt705.1 bt705.2 true) else ((laws_sameRows.f kj16 bt705.1 bt709.1).bind fun t714 => (laws_FnLeads.j5 kj16 t701 t702 bt705.1 bt705.2 (!t714)))) else (laws_FnLeads.j5 kj16 t701 t702 bt705.1 bt705.2 true)))))) = some r := H
                  have A56 := Aside0.mk A560
                  clear A560
                  replace H := Option.bind_eq_some_iff.mp H
                  obtain ⟨⟨t705, t706⟩, A570, H⟩ := H
                  replace H : ((spec_TwoOf.f kj16 t701 t702).bind fun bt709 => (if (t694 != t698) = true then (laws_FnLeads.j5 kj16 t701 t702 t705 t706 true) else ((laws_sameRows.f kj16 t693 t697).bind fun t713 => (if t713 = true then (if (t706 != bt709.2) = true then (laws_FnLeads.j5 kj16 t701 t702 t705 t706 true) else ((laws_sameRows.f kj16 t705 bt709.1).bind fun t714 => (laws_FnLeads.j5 kj16 t701 t702 t705 t706 (!t714)))) else (laws_FnLeads.j5 kj16 t701 t702 t705 t706 true))))) = some r := H
                  have A57 := Aside0.mk A570
                  clear A570
                  replace H := Option.bind_eq_some_iff.mp H
                  obtain ⟨⟨t709, t710⟩, A580, H⟩ := H
                  replace H : (if (t694 != t698) = true then (laws_FnLeads.j5 kj16 t701 t702 t705 t706 true) else ((laws_sameRows.f kj16 t693 t697).bind fun t713 => (if t713 = true then (if (t706 != t710) = true then (laws_FnLeads.j5 kj16 t701 t702 t705 t706 true) else ((laws_sameRows.f kj16 t705 t709).bind fun t714 => (laws_FnLeads.j5 kj16 t701 t702 t705 t706 (!t714)))) else (laws_FnLeads.j5 kj16 t701 t702 t705 t706 true)))) = some r := H
                  have A58 := Aside0.mk A580
                  clear A580
                  have HC59 := Aside0.mk H
                  clear H
                  go_upto_region 38 with (first | ((with_reducible refine gate_callee (f := 34) rfl ?_); refine goesL_ (some 150) rfl rfl Try.func34 (by kernel_rfl) rfl #[.slice A1 l1.length c1] rfl (by (try simp only [List.map_toArray, List.map_cons, List.map_nil]); first | done | rfl | (simp only [List.length_drop, List.length_take]; rfl)) ?_; (with_reducible refine (spec_DrawLoopsOf.calls kj16 _ _ l1 t689 t690 _ ?side1 ?side2 A53.out).mono ?_); (case side1 => repeat (first | exact (Kd.C_below HR1.out HB.out) | (with_reducible refine Kd.C_alloc ?_ _) | (with_reducible refine Kd.C_drewN ?_ _) | (with_reducible refine Kd.C_drew ?_))); (case side2 => exact HC1.out); rintro e w60 ⟨v691, rfl, ho0, hb⟩; refine ⟨_, rfl, ?_⟩; have n0_ := Aside0.mk (Kd.N_lower (Kd.N_mono (ok' := fun k_ => True) (Kd.S_N (Kd.S_bound ho0)) (fun k_ hk_ => trivial)) (below_size (by repeat (first | (with_reducible first | exact HB.out | apply below_alloc | apply pw_below_drewN | apply below_drew1) | exact HB.out)))); have n1_ := Aside0.mk (below_step (by repeat (first | (with_reducible first | exact HB.out | apply below_alloc | apply pw_below_drewN | apply below_drew1) | exact HB.out)) hb); clear HB; have HO692 := n0_; have HB := n1_; clear n0_ n1_; (try clear hb); (try clear hb2); (try clear hk); (try clear hi); (try clear ho0); obtain ⟨Ao61, co61, eo61⟩ := Kd.N_slice HO692.out; subst eo61) | ((with_reducible refine gate_callee (f := 24) rfl ?_); refine goesL_ (some 156) rfl rfl Try.func24 (by kernel_rfl) rfl #[.int .i64 t689, .slice Ao61 t690.length co61] rfl (by (try simp only [List.map_toArray, List.map_cons, List.map_nil]); first | done | rfl | (simp only [List.length_drop, List.length_take]; rfl)) ?_; (with_reducible refine (impl_LoopsOf.calls kj16 t689 _ _ t690 t693 t694 _ ?side1 ?side2 A54.out).mono ?_); (case side1 => repeat (first | exact (Kd.N_reads' HO692.out).2.2 | (with_reducible refine Kd.C_alloc ?_ _) | (with_reducible refine Kd.C_drewN ?_ _) | (with_reducible refine Kd.C_drew ?_))); (case side2 => exact (Kd.N_reads' HO692.out).2.1); rintro e w62 ⟨v695, rfl, ho0, hb⟩; refine ⟨_, rfl, ?_⟩; have n0_ := Aside0.mk (Kd.N_elder' (by (with_reducible repeat (first | apply Kd.N_alloc | apply Kd.N_drewN | apply Kd.N_drew)); exact HO692.out) (Kd.N_base (Kd.S_N ho0)) hb); have n1_ := Aside0.mk (Kd.N_lower (Kd.N_mono (ok' := fun k_ => some k_ ≠ (.slice Ao61 t690.length co61 : Value).ownBlock) (Kd.S_N (Kd.S_bound ho0)) (fun k_ hk_ => (Kd.fresh' (Kd.N_lt (by (with_reducible repeat (first | apply Kd.N_alloc | apply Kd.N_drewN | apply Kd.N_drew)); exact HO692.out)) k_ hk_.2.1))) (below_size (by repeat (first | (with_reducible first | exact HB.out | apply below_alloc | apply pw_below_drewN | apply below_drew1) | exact HB.out)))); have n2_ := Aside0.mk (below_step (by repeat (first | (with_reducible first | exact HB.out | apply below_alloc | apply pw_below_drewN | apply below_drew1) | exact HB.out)) hb); clear HO692; clear HB; have HO692 := n0_; have HO696 := n1_; have HB := n2_; clear n0_ n1_ n2_; (try clear hb); (try clear hb2); (try clear hk); (try clear hi); (try clear ho0)) | ((with_reducible refine gate_callee (f := 23) rfl ?_); refine goesL_ (some 162) rfl rfl Try.func23 (by kernel_rfl) rfl #[.int .i64 t689, .slice Ao61 t690.length co61] rfl (by (try simp only [List.map_toArray, List.map_cons, List.map_nil]); first | done | rfl | (simp only [List.length_drop, List.length_take]; rfl)) ?_; (with_reducible refine (spec_LoopsOf.calls kj16 t689 _ _ t690 t697 t698 _ ?side1 ?side2 A55.out).mono ?_); (case side1 => repeat (first | exact (Kd.N_reads' HO692.out).2.2 | (with_reducible refine Kd.C_alloc ?_ _) | (with_reducible refine Kd.C_drewN ?_ _) | (with_reducible refine Kd.C_drew ?_))); (case side2 => exact (Kd.N_reads' HO692.out).2.1); rintro e w63 ⟨v699, rfl, ho0, hb⟩; refine ⟨_, rfl, ?_⟩; have n0_ := Aside0.mk (Kd.N_elder' (by (with_reducible repeat (first | apply Kd.N_alloc | apply Kd.N_drewN | apply Kd.N_drew)); exact HO692.out) (Kd.N_base (Kd.S_N ho0)) hb); have n1_ := Aside0.mk (Kd.N_elder' (by (with_reducible repeat (first | apply Kd.N_alloc | apply Kd.N_drewN | apply Kd.N_drew)); exact HO696.out) (Kd.N_base (Kd.S_N ho0)) hb); have n2_ := Aside0.mk (Kd.N_lower (Kd.N_mono (ok' := fun k_ => some k_ ≠ (.slice Ao61 t690.length co61 : Value).ownBlock ∧ some k_ ≠ (v695 : Value).ownBlock) (Kd.S_N (Kd.S_bound ho0)) (fun k_ hk_ => ⟨(Kd.fresh' (Kd.N_lt (by (with_reducible repeat (first | apply Kd.N_alloc | apply Kd.N_drewN | apply Kd.N_drew)); exact HO692.out)) k_ hk_.2.1), (Kd.fresh' (Kd.N_lt (by (with_reducible repeat (first | apply Kd.N_alloc | apply Kd.N_drewN | apply Kd.N_drew)); exact HO696.out)) k_ hk_.2.1)⟩)) (below_size (by repeat (first | (with_reducible first | exact HB.out | apply below_alloc | apply pw_below_drewN | apply below_drew1) | exact HB.out)))); have n3_ := Aside0.mk (below_step (by repeat (first | (with_reducible first | exact HB.out | apply below_alloc | apply pw_below_drewN | apply below_drew1) | exact HB.out)) hb); clear HO692; clear HO696; clear HB; have HO692 := n0_; have HO696 := n1_; have HO700 := n2_; have HB := n3_; clear n0_ n1_ n2_ n3_; (try clear hb); (try clear hb2); (try clear hk); (try clear hi); (try clear ho0)) | ((with_reducible refine gate_callee (f := 35) rfl ?_); refine goesL_ (some 167) rfl rfl Try.func35 (by kernel_rfl) rfl #[.slice A1 l1.length c1] rfl (by (try simp only [List.map_toArray, List.map_cons, List.map_nil]); first | done | rfl | (simp only [List.length_drop, List.length_take]; rfl)) ?_; (with_reducible refine (spec_DrawTwoOf.calls kj16 _ _ l1 t701 t702 _ ?side1 ?side2 A56.out).mono ?_); (case side1 => repeat (first | exact (Kd.C_below HR1.out HB.out) | (with_reducible refine Kd.C_alloc ?_ _) | (with_reducible refine Kd.C_drewN ?_ _) | (with_reducible refine Kd.C_drew ?_))); (case side2 => exact HC1.out); rintro e w64 ⟨v703, rfl, ho0, hb⟩; refine ⟨_, rfl, ?_⟩; have n0_ := Aside0.mk (Kd.N_elder' (by (with_reducible repeat (first | apply Kd.N_alloc | apply Kd.N_drewN | apply Kd.N_drew)); exact HO692.out) (Kd.N_base ho0) hb); have n1_ := Aside0.mk (Kd.N_elder' (by (with_reducible repeat (first | apply Kd.N_alloc | apply Kd.N_drewN | apply Kd.N_drew)); exact HO696.out) (Kd.N_base ho0) hb); have n2_ := Aside0.mk (Kd.N_elder' (by (with_reducible repeat (first | apply Kd.N_alloc | apply Kd.N_drewN | apply Kd.N_drew)); exact HO700.out) (Kd.N_base ho0) hb); have n3_ := Aside0.mk (Kd.N_lower (Kd.N_mono (ok' := fun k_ => some k_ ≠ (.slice Ao61 t690.length co61 : Value).ownBlock ∧ some k_ ≠ (v695 : Value).ownBlock ∧ some k_ ≠ (v699 : Value).ownBlock) ho0 (fun k_ hk_ => ⟨(Kd.fresh' (Kd.N_lt (by (with_reducible repeat (first | apply Kd.N_alloc | apply Kd.N_drewN | apply Kd.N_drew)); exact HO692.out)) k_ hk_), (Kd.fresh' (Kd.N_lt (by (with_reducible repeat (first | apply Kd.N_alloc | apply Kd.N_drewN | apply Kd.N_drew)); exact HO696.out)) k_ hk_), (Kd.fresh' (Kd.N_lt (by (with_reducible repeat (first | apply Kd.N_alloc | apply Kd.N_drewN | apply Kd.N_drew)); exact HO700.out)) k_ hk_)⟩)) (below_size (by repeat (first | (with_reducible first | exact HB.out | apply below_alloc | apply pw_below_drewN | apply below_drew1) | exact HB.out)))); have n4_ := Aside0.mk (below_step (by repeat (first | (with_reducible first | exact HB.out | apply below_alloc | apply pw_below_drewN | apply below_drew1) | exact HB.out)) hb); clear HO692; clear HO696; clear HO700; clear HB; have HO692 := n0_; have HO696 := n1_; have HO700 := n2_; have HO704 := n3_; have HB := n4_; clear n0_ n1_ n2_ n3_ n4_; (try clear hb); (try clear hb2); (try clear hk); (try clear hi); (try clear ho0); obtain ⟨Ao65, co65, eo65⟩ := Kd.N_slice HO704.out; subst eo65) | ((with_reducible refine gate_callee (f := 36) rfl ?_); refine goesL_ (some 173) rfl rfl Try.func36 (by kernel_rfl) rfl #[.int .i64 t701, .slice Ao65 t702.length co65] rfl (by (try simp only [List.map_toArray, List.map_cons, List.map_nil]); first | done | rfl | (simp only [List.length_drop, List.length_take]; rfl)) ?_; (with_reducible refine (impl_TwoOf.calls kj16 t701 _ _ t702 t705 t706 _ ?side1 ?side2 A57.out).mono ?_); (case side1 => repeat (first | exact (Kd.N_reads' HO704.out).2.2 | (with_reducible refine Kd.C_alloc ?_ _) | (with_reducible refine Kd.C_drewN ?_ _) | (with_reducible refine Kd.C_drew ?_))); (case side2 => exact (Kd.N_reads' HO704.out).2.1); rintro e w66 ⟨v707, rfl, ho0, hb⟩; refine ⟨_, rfl, ?_⟩; have n0_ := Aside0.mk (Kd.N_elder' (by (with_reducible repeat (first | apply Kd.N_alloc | apply Kd.N_drewN | apply Kd.N_drew)); exact HO692.out) (Kd.N_base (Kd.S_N ho0)) hb); have n1_ := Aside0.mk (Kd.N_elder' (by (with_reducible repeat (first | apply Kd.N_alloc | apply Kd.N_drewN | apply Kd.N_drew)); exact HO696.out) (Kd.N_base (Kd.S_N ho0)) hb); have n2_ := Aside0.mk (Kd.N_elder' (by (with_reducible repeat (first | apply Kd.N_alloc | apply Kd.N_drewN | apply Kd.N_drew)); exact HO700.out) (Kd.N_base (Kd.S_N ho0)) hb); have n3_ := Aside0.mk (Kd.N_elder' (by (with_reducible repeat (first | apply Kd.N_alloc | apply Kd.N_drewN | apply Kd.N_drew)); exact HO704.out) (Kd.N_base (Kd.S_N ho0)) hb); have n4_ := Aside0.mk (Kd.N_lower (Kd.N_mono (ok' := fun k_ => some k_ ≠ (.slice Ao61 t690.length co61 : Value).ownBlock ∧ some k_ ≠ (v695 : Value).ownBlock ∧ some k_ ≠ (v699 : Value).ownBlock ∧ some k_ ≠ (.slice Ao65 t702.length co65 : Value).ownBlock) (Kd.S_N (Kd.S_bound ho0)) (fun k_ hk_ => ⟨(Kd.fresh' (Kd.N_lt (by (with_reducible repeat (first | apply Kd.N_alloc | apply Kd.N_drewN | apply Kd.N_drew)); exact HO692.out)) k_ hk_.2.1), (Kd.fresh' (Kd.N_lt (by (with_reducible repeat (first | apply Kd.N_alloc | apply Kd.N_drewN | apply Kd.N_drew)); exact HO696.out)) k_ hk_.2.1), (Kd.fresh' (Kd.N_lt (by (with_reducible repeat (first | apply Kd.N_alloc | apply Kd.N_drewN | apply Kd.N_drew)); exact HO700.out)) k_ hk_.2.1), (Kd.fresh' (Kd.N_lt (by (with_reducible repeat (first | apply Kd.N_alloc | apply Kd.N_drewN | apply Kd.N_drew)); exact HO704.out)) k_ hk_.2.1)⟩)) (below_size (by repeat (first | (with_reducible first | exact HB.out | apply below_alloc | apply pw_below_drewN | apply below_drew1) | exact HB.out)))); have n5_ := Aside0.mk (below_step (by repeat (first | (with_reducible first | exact HB.out | apply below_alloc | apply pw_below_drewN | apply below_drew1) | exact HB.out)) hb); clear HO692; clear HO696; clear HO700; clear HO704; clear HB; have HO692 := n0_; have HO696 := n1_; have HO700 := n2_; have HO704 := n3_; have HO708 := n4_; have HB := n5_; clear n0_ n1_ n2_ n3_ n4_ n5_; (try clear hb); (try clear hb2); (try clear hk); (try clear hi); (try clear ho0)) | ((with_reducible refine gate_callee (f := 37) rfl ?_); refine goesL_ (some 179) rfl rfl Try.func37 (by kernel_rfl) rfl #[.int .i64 t701, .slice Ao65 t702.length co65] rfl (by (try simp only [List.map_toArray, List.map_cons, List.map_nil]); first | done | rfl | (simp only [List.length_drop, List.length_take]; rfl)) ?_; (with_reducible refine (spec_TwoOf.calls kj16 t701 _ _ t702 t709 t710 _ ?side1 ?side2 A58.out).mono ?_); (case side1 => repeat (first | exact (Kd.N_reads' HO704.out).2.2 | (with_reducible refine Kd.C_alloc ?_ _) | (with_reducible refine Kd.C_drewN ?_ _) | (with_reducible refine Kd.C_drew ?_))); (case side2 => exact (Kd.N_reads' HO704.out).2.1); rintro e w67 ⟨v711, rfl, ho0, hb⟩; refine ⟨_, rfl, ?_⟩; have n0_ := Aside0.mk (Kd.N_elder' (by (with_reducible repeat (first | apply Kd.N_alloc | apply Kd.N_drewN | apply Kd.N_drew)); exact HO692.out) (Kd.N_base (Kd.S_N ho0)) hb); have n1_ := Aside0.mk (Kd.N_elder' (by (with_reducible repeat (first | apply Kd.N_alloc | apply Kd.N_drewN | apply Kd.N_drew)); exact HO696.out) (Kd.N_base (Kd.S_N ho0)) hb); have n2_ := Aside0.mk (Kd.N_elder' (by (with_reducible repeat (first | apply Kd.N_alloc | apply Kd.N_drewN | apply Kd.N_drew)); exact HO700.out) (Kd.N_base (Kd.S_N ho0)) hb); have n3_ := Aside0.mk (Kd.N_elder' (by (with_reducible repeat (first | apply Kd.N_alloc | apply Kd.N_drewN | apply Kd.N_drew)); exact HO704.out) (Kd.N_base (Kd.S_N ho0)) hb); have n4_ := Aside0.mk (Kd.N_elder' (by (with_reducible repeat (first | apply Kd.N_alloc | apply Kd.N_drewN | apply Kd.N_drew)); exact HO708.out) (Kd.N_base (Kd.S_N ho0)) hb); have n5_ := Aside0.mk (Kd.N_lower (Kd.N_mono (ok' := fun k_ => some k_ ≠ (.slice Ao61 t690.length co61 : Value).ownBlock ∧ some k_ ≠ (v695 : Value).ownBlock ∧ some k_ ≠ (v699 : Value).ownBlock ∧ some k_ ≠ (.slice Ao65 t702.length co65 : Value).ownBlock ∧ some k_ ≠ (v707 : Value).ownBlock) (Kd.S_N (Kd.S_bound ho0)) (fun k_ hk_ => ⟨(Kd.fresh' (Kd.N_lt (by (with_reducible repeat (first | apply Kd.N_alloc | apply Kd.N_drewN | apply Kd.N_drew)); exact HO692.out)) k_ hk_.2.1), (Kd.fresh' (Kd.N_lt (by (with_reducible repeat (first | apply Kd.N_alloc | apply Kd.N_drewN | apply Kd.N_drew)); exact HO696.out)) k_ hk_.2.1), (Kd.fresh' (Kd.N_lt (by (with_reducible repeat (first | apply Kd.N_alloc | apply Kd.N_drewN | apply Kd.N_drew)); exact HO700.out)) k_ hk_.2.1), (Kd.fresh' (Kd.N_lt (by (with_reducible repeat (first | apply Kd.N_alloc | apply Kd.N_drewN | apply Kd.N_drew)); exact HO704.out)) k_ hk_.2.1), (Kd.fresh' (Kd.N_lt (by (with_reducible repeat (first | apply Kd.N_alloc | apply Kd.N_drewN | apply Kd.N_drew)); exact HO708.out)) k_ hk_.2.1)⟩)) (below_size (by repeat (first | (with_reducible first | exact HB.out | apply below_alloc | apply pw_below_drewN | apply below_drew1) | exact HB.out)))); have n6_ := Aside0.mk (below_step (by repeat (first | (with_reducible first | exact HB.out | apply below_alloc | apply pw_below_drewN | apply below_drew1) | exact HB.out)) hb); clear HO692; clear HO696; clear HO700; clear HO704; clear HO708; clear HB; have HO692 := n0_; have HO696 := n1_; have HO700 := n2_; have HO704 := n3_; have HO708 := n4_; have HO712 := n5_; have HB := n6_; clear n0_ n1_ n2_ n3_ n4_ n5_ n6_; (try clear hb); (try clear hb2); (try clear hk); (try clear hi); (try clear ho0)))
                  (try simp only [Act.put, List.setIfInBounds_toArray, List.set_cons_zero, List.set_cons_succ])
                  go_cut [201] (fun v201 wc => ∃ (kq : Nat) (x201_58 : Bool), v201 = .bool x201_58 ∧ Aside0 (laws_FnLeads.j5 kq t701 t702 t705 t706 x201_58 = some r) ∧ Aside0 (kq ≤ kj16) ∧ Aside0 (Kd.N (Kd.slice 3 (Kd.int .i64)) 29 wc w.heap.size (fun k_ => some k_ ≠ (v707 : Value).ownBlock) (.slice Ao65 t702.length co65) t702) ∧ Aside0 (Kd.N (Kd.slice 3 (Kd.int .i64)) 29 wc w.heap.size (fun k_ => some k_ ≠ ((.slice Ao65 t702.length co65) : Value).ownBlock) v707 t705) ∧ Aside0 (Below w.heap.size w wc))
                  case first =>
                    have H := HC59.out
                    clear HC59
                    by_cases c68 : (t694 != t698) = true
                    · rw [if_pos c68] at H
                      have c68b0 : (t694 != t698) = true := c68
                      (try (have c68b1 : decide (t694 = t698) = false := by simpa using c68))
                      (try (have c68b2 : (t694 == t698) = false := by simpa using c68))
                      (try (have c68b3 : ¬ (t694 = t698) := by simpa using c68))
                      clear c68
                      (first | rw [c68b0] | (simp only [i64_w, i32_w]; rw [c68b0]) | skip)
                      have H' := Aside0.mk H
                      clear H
                      go_wp2
                      go_meet
                      case rel => exact ⟨_, (true), (by first | rfl | (simp; done) | (simp [*]; done)), H', ⟨by have := HJ6.out; have := HJ16.out; first | omega | exact Nat.le_refl _⟩, ⟨by (with_reducible repeat (first | apply Kd.N_alloc | apply Kd.N_drewN | apply Kd.N_drew)); exact Kd.N_mono HO704.out (fun _ hk => hk.1.2)⟩, ⟨by (with_reducible repeat (first | apply Kd.N_alloc | apply Kd.N_drewN | apply Kd.N_drew)); exact Kd.N_mono HO708.out (fun _ hk => hk.1.2.2.2)⟩, ⟨by repeat (first | (with_reducible first | exact HB.out | apply below_alloc | apply pw_below_drewN | apply below_drew1) | exact HB.out)⟩⟩
                    · rw [if_neg c68] at H
                      have c68b0 : (t694 != t698) = false := by simpa using c68
                      (try (have c68b1 : decide (t694 = t698) = true := by simpa using c68))
                      (try (have c68b2 : (t694 == t698) = true := by simpa using c68))
                      clear c68
                      (first | rw [c68b0] | (simp only [i64_w, i32_w]; rw [c68b0]) | skip)
                      replace H := Option.bind_eq_some_iff.mp H
                      obtain ⟨t713, A690, H⟩ := H
                      replace H : (if t713 = true then (if (t706 != t710) = true then (laws_FnLeads.j5 kj16 t701 t702 t705 t706 true) else ((laws_sameRows.f kj16 t705 t709).bind fun t714 => (laws_FnLeads.j5 kj16 t701 t702 t705 t706 (!t714)))) else (laws_FnLeads.j5 kj16 t701 t702 t705 t706 true)) = some r := H
                      have A69 := Aside0.mk A690
                      clear A690
                      by_cases c70 : t713 = true
                      · subst c70
                        have H1 : (if (t706 != t710) = true then (laws_FnLeads.j5 kj16 t701 t702 t705 t706 true) else ((laws_sameRows.f kj16 t705 t709).bind fun t714 => (laws_FnLeads.j5 kj16 t701 t702 t705 t706 (!t714)))) = some r := by rw [if_pos rfl] at H; exact H
                        clear H
                        have H := H1
                        clear H1
                        by_cases c71 : (t706 != t710) = true
                        · rw [if_pos c71] at H
                          have c71b0 : (t706 != t710) = true := c71
                          (try (have c71b1 : decide (t706 = t710) = false := by simpa using c71))
                          (try (have c71b2 : (t706 == t710) = false := by simpa using c71))
                          (try (have c71b3 : ¬ (t706 = t710) := by simpa using c71))
                          clear c71
                          have H' := Aside0.mk H
                          clear H
                          obtain ⟨Ao72, co72, eo72⟩ := Kd.N_slice HO696.out
                          subst eo72
                          obtain ⟨Ao73, co73, eo73⟩ := Kd.N_slice HO700.out
                          subst eo73
                          go_wp2_with (first | (go_at_call 38; (with_reducible refine (laws_sameRows.calls kj16 _ _ t693 _ _ t697 true _ ?side1 ?side2 ?side3 ?side4 A69.out).mono ?_); (case side1 => repeat (first | exact (Kd.N_reads' HO696.out).2.2 | (with_reducible refine Kd.C_alloc ?_ _) | (with_reducible refine Kd.C_drewN ?_ _) | (with_reducible refine Kd.C_drew ?_))); (case side2 => exact (Kd.N_reads' HO696.out).2.1); (case side3 => repeat (first | exact (Kd.N_reads' HO700.out).2.2 | (with_reducible refine Kd.C_alloc ?_ _) | (with_reducible refine Kd.C_drewN ?_ _) | (with_reducible refine Kd.C_drew ?_))); (case side4 => exact (Kd.N_reads' HO700.out).2.1); rintro e w' ⟨rfl, ⟨nd, rfl⟩⟩))
                          go_meet
                          case rel => exact ⟨_, (true), (by first | rfl | (simp; done) | (simp [*]; done)), H', ⟨by have := HJ6.out; have := HJ16.out; first | omega | exact Nat.le_refl _⟩, ⟨by (with_reducible repeat (first | apply Kd.N_alloc | apply Kd.N_drewN | apply Kd.N_drew)); exact Kd.N_mono HO704.out (fun _ hk => hk.1.2)⟩, ⟨by (with_reducible repeat (first | apply Kd.N_alloc | apply Kd.N_drewN | apply Kd.N_drew)); exact Kd.N_mono HO708.out (fun _ hk => hk.1.2.2.2)⟩, ⟨by repeat (first | (with_reducible first | exact HB.out | apply below_alloc | apply pw_below_drewN | apply below_drew1) | exact HB.out)⟩⟩
                        · rw [if_neg c71] at H
                          have c71b0 : (t706 != t710) = false := by simpa using c71
                          (try (have c71b1 : decide (t706 = t710) = true := by simpa using c71))
                          (try (have c71b2 : (t706 == t710) = true := by simpa using c71))
                          clear c71
                          replace H := Option.bind_eq_some_iff.mp H
                          obtain ⟨t714, A740, H⟩ := H
                          replace H : (laws_FnLeads.j5 kj16 t701 t702 t705 t706 (!t714)) = some r := H
                          have A74 := Aside0.mk A740
                          clear A740
                          have H' := Aside0.mk H
                          clear H
                          obtain ⟨Ao75, co75, eo75⟩ := Kd.N_slice HO696.out
                          subst eo75
                          obtain ⟨Ao76, co76, eo76⟩ := Kd.N_slice HO700.out
                          subst eo76
                          go_wp2_with (first | (go_at_call 38; (with_reducible refine (laws_sameRows.calls kj16 _ _ t693 _ _ t697 true _ ?side1 ?side2 ?side3 ?side4 A69.out).mono ?_); (case side1 => repeat (first | exact (Kd.N_reads' HO696.out).2.2 | (with_reducible refine Kd.C_alloc ?_ _) | (with_reducible refine Kd.C_drewN ?_ _) | (with_reducible refine Kd.C_drew ?_))); (case side2 => exact (Kd.N_reads' HO696.out).2.1); (case side3 => repeat (first | exact (Kd.N_reads' HO700.out).2.2 | (with_reducible refine Kd.C_alloc ?_ _) | (with_reducible refine Kd.C_drewN ?_ _) | (with_reducible refine Kd.C_drew ?_))); (case side4 => exact (Kd.N_reads' HO700.out).2.1); rintro e w' ⟨rfl, ⟨nd, rfl⟩⟩; obtain ⟨Ao77, co77, eo77⟩ := Kd.N_slice HO708.out; subst eo77; obtain ⟨Ao78, co78, eo78⟩ := Kd.N_slice HO712.out; subst eo78) | (go_at_call 38; (with_reducible refine (laws_sameRows.calls kj16 _ _ t705 _ _ t709 t714 _ ?side1 ?side2 ?side3 ?side4 A74.out).mono ?_); (case side1 => repeat (first | exact (Kd.N_reads' HO708.out).2.2 | (with_reducible refine Kd.C_alloc ?_ _) | (with_reducible refine Kd.C_drewN ?_ _) | (with_reducible refine Kd.C_drew ?_))); (case side2 => exact (Kd.N_reads' HO708.out).2.1); (case side3 => repeat (first | exact (Kd.N_reads' HO712.out).2.2 | (with_reducible refine Kd.C_alloc ?_ _) | (with_reducible refine Kd.C_drewN ?_ _) | (with_reducible refine Kd.C_drew ?_))); (case side4 => exact (Kd.N_reads' HO712.out).2.1); rintro e w' ⟨rfl, ⟨nd, rfl⟩⟩))
                          go_meet
                          case rel => exact ⟨_, (!t714), (by first | rfl | (simp; done) | (simp [*]; done)), H', ⟨by have := HJ6.out; have := HJ16.out; first | omega | exact Nat.le_refl _⟩, ⟨by (with_reducible repeat (first | apply Kd.N_alloc | apply Kd.N_drewN | apply Kd.N_drew)); exact Kd.N_mono HO704.out (fun _ hk => hk.1.2)⟩, ⟨by (with_reducible repeat (first | apply Kd.N_alloc | apply Kd.N_drewN | apply Kd.N_drew)); exact Kd.N_mono HO708.out (fun _ hk => hk.1.2.2.2)⟩, ⟨by repeat (first | (with_reducible first | exact HB.out | apply below_alloc | apply pw_below_drewN | apply below_drew1) | exact HB.out)⟩⟩
                      · replace c70 := Bool.eq_false_iff.mpr c70
                        subst c70
                        have H1 : (laws_FnLeads.j5 kj16 t701 t702 t705 t706 true) = some r := by rw [if_neg (show ¬ (false = true) by decide)] at H; exact H
                        clear H
                        have H := H1
                        clear H1
                        have H' := Aside0.mk H
                        clear H
                        obtain ⟨Ao79, co79, eo79⟩ := Kd.N_slice HO696.out
                        subst eo79
                        obtain ⟨Ao80, co80, eo80⟩ := Kd.N_slice HO700.out
                        subst eo80
                        go_wp2_with (first | (go_at_call 38; (with_reducible refine (laws_sameRows.calls kj16 _ _ t693 _ _ t697 false _ ?side1 ?side2 ?side3 ?side4 A69.out).mono ?_); (case side1 => repeat (first | exact (Kd.N_reads' HO696.out).2.2 | (with_reducible refine Kd.C_alloc ?_ _) | (with_reducible refine Kd.C_drewN ?_ _) | (with_reducible refine Kd.C_drew ?_))); (case side2 => exact (Kd.N_reads' HO696.out).2.1); (case side3 => repeat (first | exact (Kd.N_reads' HO700.out).2.2 | (with_reducible refine Kd.C_alloc ?_ _) | (with_reducible refine Kd.C_drewN ?_ _) | (with_reducible refine Kd.C_drew ?_))); (case side4 => exact (Kd.N_reads' HO700.out).2.1); rintro e w' ⟨rfl, ⟨nd, rfl⟩⟩))
                        go_meet
                        case rel => exact ⟨_, (true), (by first | rfl | (simp; done) | (simp [*]; done)), H', ⟨by have := HJ6.out; have := HJ16.out; first | omega | exact Nat.le_refl _⟩, ⟨by (with_reducible repeat (first | apply Kd.N_alloc | apply Kd.N_drewN | apply Kd.N_drew)); exact Kd.N_mono HO704.out (fun _ hk => hk.1.2)⟩, ⟨by (with_reducible repeat (first | apply Kd.N_alloc | apply Kd.N_drewN | apply Kd.N_drew)); exact Kd.N_mono HO708.out (fun _ hk => hk.1.2.2.2)⟩, ⟨by repeat (first | (with_reducible first | exact HB.out | apply below_alloc | apply pw_below_drewN | apply below_drew1) | exact HB.out)⟩⟩
                  case rest =>
                    as_aux_lemma =>
                      clear HC59
                      try clear c1
                      try clear c2
                      try clear p2
                      try clear c3
                      try clear c3b0
                      try clear c4
                      try clear c5
                      try clear c6
                      try clear p6
                      try clear q6
                      try clear hx6
                      try clear qi6
                      try clear c7
                      try clear c8
                      try clear c12
                      try clear c12b0
                      try clear c12b1
                      try clear c12b2
                      try clear c15
                      try clear c16
                      try clear c18
                      try clear c20
                      try clear c20b0
                      try clear c21
                      try clear c21b0
                      try clear c22
                      try clear c22b0
                      try clear c23
                      try clear c24
                      try clear c26
                      try clear c31
                      try clear c34
                      try clear c35
                      try clear c35b0
                      try clear c36
                      try clear c36b0
                      try clear c37
                      try clear c37b0
                      try clear c38
                      try clear c38b0
                      try clear c39
                      try clear c39b0
                      try clear c40
                      try clear c40b0
                      try clear c41
                      try clear c41b0
                      try clear c41b1
                      try clear c43
                      try clear c45
                      try clear c51
                      try clear c52
                      try clear c52b0
                      try clear c52b1
                      try clear p64
                      try clear p67
                      try clear q67
                      try clear hx67
                      try clear c68
                      try clear c68b0
                      try clear c68b1
                      try clear c68b2
                      try clear p68
                      try clear q68
                      try clear hx68
                      try clear qi68
                      try clear c70
                      try clear c71
                      try clear c71b0
                      try clear c71b1
                      try clear c71b2
                      try clear hx671_0
                      try clear hx681_0
                      try clear hx682_0
                      try clear hx683_0
                      try clear p2
                      try clear p6
                      try clear p671
                      try clear p681
                      try clear p682
                      try clear p683
                      try clear q6
                      try clear q671
                      try clear q681
                      try clear q682
                      try clear q683
                      obtain ⟨kq, x201_58, rfl, HA, HJ58, HO_32, HO_33, HB⟩ := hcut
                      cases kq with
                      | zero => exact absurd HA.out (by simp [laws_FnLeads.j5])
                      | succ kj58 =>
                        have H := HA.out
                        clear HA
                        simp only [laws_FnLeads.j5] at H
                        by_cases c81 : x201_58 = true
                        · subst c81
                          have H1 : (some false) = some r := by rw [if_pos rfl] at H; exact H
                          clear H
                          have H := H1
                          clear H1
                          obtain rfl := Option.some.inj H
                          go_wp2
                          go_ret
                          exact ⟨by first | rfl | (simp [errW_none, errW_some] <;> rfl) | (simp [*, errW_none, errW_some] <;> rfl), by repeat (first | (with_reducible first | exact HB.out | apply below_alloc | apply pw_below_drewN | apply below_drew1) | exact HB.out)⟩
                        · replace c81 := Bool.eq_false_iff.mpr c81
                          subst c81
                          have H1 : (if t706 = true then (if t701 > 0 then (laws_FnLeads.j6 kj58 t701 t702 t705 (decide ((t702.length : Int) > 0))) else (laws_FnLeads.j6 kj58 t701 t702 t705 false)) else (laws_FnLeads.j6 kj58 t701 t702 t705 false)) = some r := by rw [if_neg (show ¬ (false = true) by decide)] at H; exact H
                          clear H
                          have H := H1
                          clear H1
                          have HC82 := Aside0.mk H
                          clear H
                          go_upto_region 40 with (fail)
                          go_cut [211] (fun v211 wc => ∃ (kq : Nat) (x211_81 : Bool), v211 = .bool x211_81 ∧ Aside0 (laws_FnLeads.j6 kq t701 t702 t705 x211_81 = some r) ∧ Aside0 (kq ≤ kj58) ∧ Aside0 (Kd.N (Kd.slice 3 (Kd.int .i64)) 29 wc w.heap.size (fun k_ => some k_ ≠ (v707 : Value).ownBlock) (.slice Ao65 t702.length co65) t702) ∧ Aside0 (Kd.N (Kd.slice 3 (Kd.int .i64)) 29 wc w.heap.size (fun k_ => some k_ ≠ ((.slice Ao65 t702.length co65) : Value).ownBlock) v707 t705) ∧ Aside0 (Below w.heap.size w wc))
                          case first =>
                            have H := HC82.out
                            clear HC82
                            by_cases c83 : t706 = true
                            · subst c83
                              have H1 : (if t701 > 0 then (laws_FnLeads.j6 kj58 t701 t702 t705 (decide ((t702.length : Int) > 0))) else (laws_FnLeads.j6 kj58 t701 t702 t705 false)) = some r := by rw [if_pos rfl] at H; exact H
                              clear H
                              have H := H1
                              clear H1
                              by_cases c84 : t701 > 0
                              · rw [if_pos c84] at H
                                have c84b0 : decide (0 < t701) = true := decide_eq_true c84
                                clear c84
                                (first | rw [c84b0] | (simp only [i64_w, i32_w]; rw [c84b0]) | skip)
                                have H' := Aside0.mk H
                                clear H
                                go_wp2
                                go_meet
                                case rel => exact ⟨_, (decide ((t702.length : Int) > 0)), (by first | rfl | (simp; done) | (simp [*]; done)), H', ⟨by have := HJ6.out; have := HJ16.out; have := HJ58.out; first | omega | exact Nat.le_refl _⟩, ⟨by (with_reducible repeat (first | apply Kd.N_alloc | apply Kd.N_drewN | apply Kd.N_drew)); exact HO_32.out⟩, ⟨by (with_reducible repeat (first | apply Kd.N_alloc | apply Kd.N_drewN | apply Kd.N_drew)); exact HO_33.out⟩, ⟨by repeat (first | (with_reducible first | exact HB.out | apply below_alloc | apply pw_below_drewN | apply below_drew1) | exact HB.out)⟩⟩
                              · rw [if_neg c84] at H
                                have c84b0 : decide (0 < t701) = false := decide_eq_false c84
                                clear c84
                                (first | rw [c84b0] | (simp only [i64_w, i32_w]; rw [c84b0]) | skip)
                                have H' := Aside0.mk H
                                clear H
                                go_wp2
                                go_meet
                                case rel => exact ⟨_, (false), (by first | rfl | (simp; done) | (simp [*]; done)), H', ⟨by have := HJ6.out; have := HJ16.out; have := HJ58.out; first | omega | exact Nat.le_refl _⟩, ⟨by (with_reducible repeat (first | apply Kd.N_alloc | apply Kd.N_drewN | apply Kd.N_drew)); exact HO_32.out⟩, ⟨by (with_reducible repeat (first | apply Kd.N_alloc | apply Kd.N_drewN | apply Kd.N_drew)); exact HO_33.out⟩, ⟨by repeat (first | (with_reducible first | exact HB.out | apply below_alloc | apply pw_below_drewN | apply below_drew1) | exact HB.out)⟩⟩
                            · replace c83 := Bool.eq_false_iff.mpr c83
                              subst c83
                              have H1 : (laws_FnLeads.j6 kj58 t701 t702 t705 false) = some r := by rw [if_neg (show ¬ (false = true) by decide)] at H; exact H
                              clear H
                              have H := H1
                              clear H1
                              have H' := Aside0.mk H
                              clear H
                              go_wp2
                              go_meet
                              case rel => exact ⟨_, (false), (by first | rfl | (simp; done) | (simp [*]; done)), H', ⟨by have := HJ6.out; have := HJ16.out; have := HJ58.out; first | omega | exact Nat.le_refl _⟩, ⟨by (with_reducible repeat (first | apply Kd.N_alloc | apply Kd.N_drewN | apply Kd.N_drew)); exact HO_32.out⟩, ⟨by (with_reducible repeat (first | apply Kd.N_alloc | apply Kd.N_drewN | apply Kd.N_drew)); exact HO_33.out⟩, ⟨by repeat (first | (with_reducible first | exact HB.out | apply below_alloc | apply pw_below_drewN | apply below_drew1) | exact HB.out)⟩⟩
                          case rest =>
                            as_aux_lemma =>
                              clear HC82
                              try clear c1
                              try clear c2
                              try clear p2
                              try clear c3
                              try clear c3b0
                              try clear c4
                              try clear c5
                              try clear c6
                              try clear p6
                              try clear q6
                              try clear hx6
                              try clear qi6
                              try clear c7
                              try clear c8
                              try clear c12
                              try clear c12b0
                              try clear c12b1
                              try clear c12b2
                              try clear c15
                              try clear c16
                              try clear c18
                              try clear c20
                              try clear c20b0
                              try clear c21
                              try clear c21b0
                              try clear c22
                              try clear c22b0
                              try clear c23
                              try clear c24
                              try clear c26
                              try clear c31
                              try clear c34
                              try clear c35
                              try clear c35b0
                              try clear c36
                              try clear c36b0
                              try clear c37
                              try clear c37b0
                              try clear c38
                              try clear c38b0
                              try clear c39
                              try clear c39b0
                              try clear c40
                              try clear c40b0
                              try clear c41
                              try clear c41b0
                              try clear c41b1
                              try clear c43
                              try clear c45
                              try clear c51
                              try clear c52
                              try clear c52b0
                              try clear c52b1
                              try clear p64
                              try clear p67
                              try clear q67
                              try clear hx67
                              try clear c68
                              try clear c68b0
                              try clear c68b1
                              try clear c68b2
                              try clear p68
                              try clear q68
                              try clear hx68
                              try clear qi68
                              try clear c70
                              try clear c71
                              try clear c71b0
                              try clear c71b1
                              try clear c71b2
                              try clear c81
                              try clear c83
                              try clear c84
                              try clear c84b0
                              try clear hx671_0
                              try clear hx681_0
                              try clear hx682_0
                              try clear hx683_0
                              try clear p2
                              try clear p6
                              try clear p64
                              try clear p67
                              try clear p671
                              try clear p68
                              try clear p681
                              try clear p682
                              try clear p683
                              try clear q6
                              try clear q67
                              try clear q671
                              try clear q68
                              try clear q681
                              try clear q682
                              try clear q683
                              obtain ⟨kq, x211_81, rfl, HA, HJ81, HO_32, HO_33, HB⟩ := hcut
                              cases kq with
                              | zero => exact absurd HA.out (by simp [laws_FnLeads.j6])
                              | succ kj81 =>
                                have H := HA.out
                                clear HA
                                simp only [laws_FnLeads.j6] at H
                                by_cases c85 : x211_81 = true
                                · subst c85
                                  have H1 : (if 0 < (t702.length : Int) then (if 0 < ((rd_L1 t702 0).length : Int) then ((impl_LeadsTo.f kj81 t701 t705 (rd (rd_L1 t702 0) 0)).bind fun bt717 => (if bt717.2 = true then (if 1 < ((rd_L1 t702 0).length : Int) then ((laws_has.f kj81 bt717.1 (rd (rd_L1 t702 0) 1)).bind fun t723 => (some t723)) else (none)) else (some false))) else (none)) else (none)) = some r := by rw [if_pos rfl] at H; exact H
                                  clear H
                                  have H := H1
                                  clear H1
                                  by_cases c86 : 0 < (t702.length : Int)
                                  · rw [if_pos c86] at H
                                    have c86b0 : decide (0 < (t702.length : Int)) = true := decide_eq_true c86
                                    have c86b1 : decide (0 < t702.length) = true := decide_eq_true (by omega)
                                    clear c86
                                    by_cases c87 : 0 < ((rd_L1 t702 0).length : Int)
                                    · rw [if_pos c87] at H
                                      have c87b0 : decide (0 < ((rd_L1 t702 0).length : Int)) = true := decide_eq_true c87
                                      have c87b1 : decide (0 < (rd_L1 t702 0).length) = true := decide_eq_true (by omega)
                                      clear c87
                                      replace H := Option.bind_eq_some_iff.mp H
                                      obtain ⟨⟨t717, t718⟩, A880, H⟩ := H
                                      replace H : (if t718 = true then (if 1 < ((rd_L1 t702 0).length : Int) then ((laws_has.f kj81 t717 (rd (rd_L1 t702 0) 1)).bind fun t723 => (some t723)) else (none)) else (some false)) = some r := H
                                      have A88 := Aside0.mk A880
                                      clear A880
                                      by_cases c89 : t718 = true
                                      · subst c89
                                        have H1 : (if 1 < ((rd_L1 t702 0).length : Int) then ((laws_has.f kj81 t717 (rd (rd_L1 t702 0) 1)).bind fun t723 => (some t723)) else (none)) = some r := by rw [if_pos rfl] at H; exact H
                                        clear H
                                        have H := H1
                                        clear H1
                                        by_cases c90 : 1 < ((rd_L1 t702 0).length : Int)
                                        · rw [if_pos c90] at H
                                          have c90b0 : decide (1 < ((rd_L1 t702 0).length : Int)) = true := decide_eq_true c90
                                          have c90b1 : decide (1 < (rd_L1 t702 0).length) = true := decide_eq_true (by omega)
                                          clear c90
                                          replace H := Option.bind_eq_some_iff.mp H
                                          obtain ⟨t723, A910, H⟩ := H
                                          replace H : (some t723) = some r := H
                                          have A91 := Aside0.mk A910
                                          clear A910
                                          obtain rfl := Option.some.inj H
                                          have p715 : 0 ≤ (0 : Int) := (by omega)
                                          have q715 : 0 < (t702.length : Int) := of_decide_eq_true (by first | (with_reducible assumption) | assumption)
                                          obtain ⟨ad715, A715_0, c715_0, e715, hx715_0, hl715_0, hi715_0⟩ := at_L1 (Kd.N_reads' HO_32.out).2.2 0 p715 q715
                                          cases e715
                                          obtain ⟨ce715, hce715, hMe715, hcc715⟩ := Kd.N_get HO_32.out [] 0 p715 (by first | exact q715 | exact of_decide_eq_true (by first | (with_reducible assumption) | assumption) | (have e_ := (Kd.N_reads' HO_32.out).1; omega))
                                          obtain ⟨ua715_0, uc715_0, rfl, ul715_0, ge715_0⟩ := Kd.FK_slice_open hMe715
                                          have hv715_0 := hcc715 0 _ rfl
                                          rw [Nat.add_zero, show ((Kd.slice 3 (Kd.int .i64))).sz = 1 from rfl, Nat.mul_one] at hv715_0
                                          replace hv715_0 := Option.some.inj (hv715_0.symm.trans hx715_0)
                                          injection hv715_0 with hva_ hvn_ hvc_
                                          rw [hva_] at ge715_0
                                          rw [hvc_] at ul715_0
                                          have HL715_0 := Aside0.mk (show Kd.V (Kd.int .i64) 3 _ w.heap.size _ _ (rd_L1 t702 0) from Kd.V_mk ul715_0 ge715_0)
                                          clear hva_ hvn_ hvc_ ge715_0 ul715_0
                                          clear hcc715 hce715
                                          have qi715 : (0 < t702.length) = True := eq_true (by omega)
                                          (try rw [show ((0 : Int)).toNat = 0 from rfl] at hx715_0)
                                          (try rw [Addr.add_zero'] at hx715_0)
                                          have HR715_0 := Aside0.mk hi715_0
                                          have HC715_0 := Aside0.mk hl715_0
                                          clear hi715_0 hl715_0
                                          replace p715 := eq_true p715
                                          replace q715 := eq_true q715
                                          have p716 : 0 ≤ (0 : Int) := (by omega)
                                          have q716 : 0 < ((rd_L1 t702 0).length : Int) := of_decide_eq_true (by first | (with_reducible assumption) | assumption)
                                          obtain ⟨ad716, e716, hx716_0⟩ := Kd.at_int (by repeat (first | (with_reducible exact HR715_0.out) | (with_reducible refine Kd.C_alloc ?_ _) | (with_reducible refine Kd.C_drewN ?_ _) | (with_reducible refine Kd.C_drew ?_) | exact HR715_0.out)) 0 p716 q716
                                          cases e716
                                          have qi716 : (0 < (rd_L1 t702 0).length) = True := eq_true (by omega)
                                          (try rw [show ((0 : Int)).toNat = 0 from rfl] at hx716_0)
                                          (try rw [Addr.add_zero'] at hx716_0)
                                          replace p716 := eq_true p716
                                          replace q716 := eq_true q716
                                          obtain ⟨Ao92, co92, eo92⟩ := Kd.N_slice HO_33.out
                                          subst eo92
                                          go_wp2_with (first | ((with_reducible refine gate_callee (f := 16) rfl ?_); refine goesL_ (some 220) rfl rfl Try.func16 (by kernel_rfl) rfl #[.int .i64 t701, .slice Ao92 t705.length co92, .int .i64 (rd (rd_L1 t702 0) 0)] rfl (by (try simp only [List.map_toArray, List.map_cons, List.map_nil]); first | done | rfl | (simp only [List.length_drop, List.length_take]; rfl)) ?_; (with_reducible refine (impl_LeadsTo.calls kj81 t701 _ _ t705 (rd (rd_L1 t702 0) 0) t717 true _ ?side1 ?side2 A88.out).mono ?_); (case side1 => repeat (first | exact (Kd.N_reads' HO_33.out).2.2 | (with_reducible refine Kd.C_alloc ?_ _) | (with_reducible refine Kd.C_drewN ?_ _) | (with_reducible refine Kd.C_drew ?_))); (case side2 => exact (Kd.N_reads' HO_33.out).2.1); rintro e w93 ⟨v719, rfl, ho0, hb⟩; refine ⟨_, rfl, ?_⟩; have n0_ := Aside0.mk (Kd.N_elder' (by (with_reducible repeat (first | apply Kd.N_alloc | apply Kd.N_drewN | apply Kd.N_drew)); exact HO_32.out) (Kd.R_base ho0) hb); have n1_ := Aside0.mk (Kd.N_elder' (by (with_reducible repeat (first | apply Kd.N_alloc | apply Kd.N_drewN | apply Kd.N_drew)); exact HO_33.out) (Kd.R_base ho0) hb); have n2_ := Aside0.mk (Kd.V_elder' (by (with_reducible repeat (first | apply Kd.V_alloc | apply Kd.V_drewN | apply Kd.V_drew)); exact HL715_0.out) (Kd.R_base ho0) hb); have n3_ := Aside0.mk (Kd.R_lower ho0 (below_size (by repeat (first | (with_reducible first | exact HB.out | apply below_alloc | apply pw_below_drewN | apply below_drew1) | exact HB.out)))); have n4_ := Aside0.mk (Kd.C_below (by repeat (first | (with_reducible exact HR715_0.out) | (with_reducible refine Kd.C_alloc ?_ _) | (with_reducible refine Kd.C_drewN ?_ _) | (with_reducible refine Kd.C_drew ?_) | exact HR715_0.out)) hb); have n5_ := Aside0.mk (below_step (by repeat (first | (with_reducible first | exact HB.out | apply below_alloc | apply pw_below_drewN | apply below_drew1) | exact HB.out)) hb); clear HO_32; clear HO_33; clear HL715_0; clear HR715_0; clear HB; have HO_32 := n0_; have HO_33 := n1_; have HL715_0 := n2_; have HO720 := n3_; have HR715_0 := n4_; have HB := n5_; clear n0_ n1_ n2_ n3_ n4_ n5_; (try clear hb); (try clear hb2); (try clear hk); (try clear hi); (try clear ho0); have p721 : 0 ≤ (0 : Int) := (by omega); have q721 : 0 < (t702.length : Int) := of_decide_eq_true (by first | (with_reducible assumption) | assumption); obtain ⟨ad721, A721_0, c721_0, e721, hx721_0, hl721_0, hi721_0⟩ := at_L1 (Kd.N_reads' HO_32.out).2.2 0 p721 q721; obtain rfl : ad715 = ad721 := (by injection e721); obtain ⟨ce721, hce721, hMe721, hcc721⟩ := Kd.N_get HO_32.out [] 0 p721 (by first | exact q721 | exact of_decide_eq_true (by first | (with_reducible assumption) | assumption) | (have e_ := (Kd.N_reads' HO_32.out).1; omega)); obtain ⟨ua721_0, uc721_0, rfl, ul721_0, ge721_0⟩ := Kd.FK_slice_open hMe721; have hv721_0 := hcc721 0 _ rfl; rw [Nat.add_zero, show ((Kd.slice 3 (Kd.int .i64))).sz = 1 from rfl, Nat.mul_one] at hv721_0; replace hv721_0 := Option.some.inj (hv721_0.symm.trans hx721_0); injection hv721_0 with hva_ hvn_ hvc_; rw [hva_] at ge721_0; rw [hvc_] at ul721_0; have HL721_0 := Aside0.mk (show Kd.V (Kd.int .i64) 3 _ w.heap.size _ _ (rd_L1 t702 0) from Kd.V_mk ul721_0 ge721_0); clear hva_ hvn_ hvc_ ge721_0 ul721_0; clear hcc721 hce721; have qi721 : (0 < t702.length) = True := eq_true (by omega); (try rw [show ((0 : Int)).toNat = 0 from rfl] at hx721_0); (try rw [Addr.add_zero'] at hx721_0); have HR721_0 := Aside0.mk hi721_0; have HC721_0 := Aside0.mk hl721_0; clear hi721_0 hl721_0; replace p721 := eq_true p721; replace q721 := eq_true q721; have p722 : 0 ≤ (1 : Int) := (by omega); have q722 : 1 < ((rd_L1 t702 0).length : Int) := of_decide_eq_true (by first | (with_reducible assumption) | assumption); obtain ⟨ad722, e722, hx722_0⟩ := Kd.at_int (by repeat (first | (with_reducible exact HR721_0.out) | (with_reducible refine Kd.C_alloc ?_ _) | (with_reducible refine Kd.C_drewN ?_ _) | (with_reducible refine Kd.C_drew ?_) | exact HR721_0.out)) 1 p722 q722; cases e722; (try simp only [show (1 : Int).toNat = 1 from rfl, Nat.reduceMul, Nat.reduceEqDiff, Go.Addr.add, ↓reduceIte] at hx722_0); have qi722 : (1 < (rd_L1 t702 0).length) = True := eq_true (by omega); (try rw [show ((1 : Int)).toNat = 1 from rfl] at hx722_0); replace p722 := eq_true p722; replace q722 := eq_true q722; obtain ⟨Ao94, co94, eo94⟩ := Kd.R_slice HO720.out; subst eo94) | (go_at_call 33; (with_reducible refine (laws_has.calls kj81 _ _ t717 (rd (rd_L1 t702 0) 1) t723 _ ?side1 ?side2 A91.out).mono ?_); (case side1 => repeat (first | exact (Kd.R_reads' HO720.out).2.2 | (with_reducible refine Kd.C_alloc ?_ _) | (with_reducible refine Kd.C_drewN ?_ _) | (with_reducible refine Kd.C_drew ?_))); (case side2 => exact (Kd.R_reads' HO720.out).2.1); rintro e w' ⟨rfl, ⟨nd, rfl⟩⟩))
                                          go_ret
                                          exact ⟨by first | rfl | (simp [errW_none, errW_some] <;> rfl) | (simp [*, errW_none, errW_some] <;> rfl), by repeat (first | (with_reducible first | exact HB.out | apply below_alloc | apply pw_below_drewN | apply below_drew1) | exact HB.out)⟩
                                        · rw [if_neg c90] at H
                                          exact absurd H (by simp)
                                      · replace c89 := Bool.eq_false_iff.mpr c89
                                        subst c89
                                        have H1 : (some false) = some r := by rw [if_neg (show ¬ (false = true) by decide)] at H; exact H
                                        clear H
                                        have H := H1
                                        clear H1
                                        obtain rfl := Option.some.inj H
                                        have p715 : 0 ≤ (0 : Int) := (by omega)
                                        have q715 : 0 < (t702.length : Int) := of_decide_eq_true (by first | (with_reducible assumption) | assumption)
                                        obtain ⟨ad715, A715_0, c715_0, e715, hx715_0, hl715_0, hi715_0⟩ := at_L1 (Kd.N_reads' HO_32.out).2.2 0 p715 q715
                                        cases e715
                                        obtain ⟨ce715, hce715, hMe715, hcc715⟩ := Kd.N_get HO_32.out [] 0 p715 (by first | exact q715 | exact of_decide_eq_true (by first | (with_reducible assumption) | assumption) | (have e_ := (Kd.N_reads' HO_32.out).1; omega))
                                        obtain ⟨ua715_0, uc715_0, rfl, ul715_0, ge715_0⟩ := Kd.FK_slice_open hMe715
                                        have hv715_0 := hcc715 0 _ rfl
                                        rw [Nat.add_zero, show ((Kd.slice 3 (Kd.int .i64))).sz = 1 from rfl, Nat.mul_one] at hv715_0
                                        replace hv715_0 := Option.some.inj (hv715_0.symm.trans hx715_0)
                                        injection hv715_0 with hva_ hvn_ hvc_
                                        rw [hva_] at ge715_0
                                        rw [hvc_] at ul715_0
                                        have HL715_0 := Aside0.mk (show Kd.V (Kd.int .i64) 3 _ w.heap.size _ _ (rd_L1 t702 0) from Kd.V_mk ul715_0 ge715_0)
                                        clear hva_ hvn_ hvc_ ge715_0 ul715_0
                                        clear hcc715 hce715
                                        have qi715 : (0 < t702.length) = True := eq_true (by omega)
                                        (try rw [show ((0 : Int)).toNat = 0 from rfl] at hx715_0)
                                        (try rw [Addr.add_zero'] at hx715_0)
                                        have HR715_0 := Aside0.mk hi715_0
                                        have HC715_0 := Aside0.mk hl715_0
                                        clear hi715_0 hl715_0
                                        replace p715 := eq_true p715
                                        replace q715 := eq_true q715
                                        have p716 : 0 ≤ (0 : Int) := (by omega)
                                        have q716 : 0 < ((rd_L1 t702 0).length : Int) := of_decide_eq_true (by first | (with_reducible assumption) | assumption)
                                        obtain ⟨ad716, e716, hx716_0⟩ := Kd.at_int (by repeat (first | (with_reducible exact HR715_0.out) | (with_reducible refine Kd.C_alloc ?_ _) | (with_reducible refine Kd.C_drewN ?_ _) | (with_reducible refine Kd.C_drew ?_) | exact HR715_0.out)) 0 p716 q716
                                        cases e716
                                        have qi716 : (0 < (rd_L1 t702 0).length) = True := eq_true (by omega)
                                        (try rw [show ((0 : Int)).toNat = 0 from rfl] at hx716_0)
                                        (try rw [Addr.add_zero'] at hx716_0)
                                        replace p716 := eq_true p716
                                        replace q716 := eq_true q716
                                        obtain ⟨Ao95, co95, eo95⟩ := Kd.N_slice HO_33.out
                                        subst eo95
                                        go_wp2_with (first | ((with_reducible refine gate_callee (f := 16) rfl ?_); refine goesL_ (some 220) rfl rfl Try.func16 (by kernel_rfl) rfl #[.int .i64 t701, .slice Ao95 t705.length co95, .int .i64 (rd (rd_L1 t702 0) 0)] rfl (by (try simp only [List.map_toArray, List.map_cons, List.map_nil]); first | done | rfl | (simp only [List.length_drop, List.length_take]; rfl)) ?_; (with_reducible refine (impl_LeadsTo.calls kj81 t701 _ _ t705 (rd (rd_L1 t702 0) 0) t717 false _ ?side1 ?side2 A88.out).mono ?_); (case side1 => repeat (first | exact (Kd.N_reads' HO_33.out).2.2 | (with_reducible refine Kd.C_alloc ?_ _) | (with_reducible refine Kd.C_drewN ?_ _) | (with_reducible refine Kd.C_drew ?_))); (case side2 => exact (Kd.N_reads' HO_33.out).2.1); rintro e w96 ⟨v719, rfl, ho0, hb⟩; refine ⟨_, rfl, ?_⟩; have n0_ := Aside0.mk (Kd.N_elder' (by (with_reducible repeat (first | apply Kd.N_alloc | apply Kd.N_drewN | apply Kd.N_drew)); exact HO_32.out) (Kd.R_base ho0) hb); have n1_ := Aside0.mk (Kd.N_elder' (by (with_reducible repeat (first | apply Kd.N_alloc | apply Kd.N_drewN | apply Kd.N_drew)); exact HO_33.out) (Kd.R_base ho0) hb); have n2_ := Aside0.mk (Kd.V_elder' (by (with_reducible repeat (first | apply Kd.V_alloc | apply Kd.V_drewN | apply Kd.V_drew)); exact HL715_0.out) (Kd.R_base ho0) hb); have n3_ := Aside0.mk (Kd.R_lower ho0 (below_size (by repeat (first | (with_reducible first | exact HB.out | apply below_alloc | apply pw_below_drewN | apply below_drew1) | exact HB.out)))); have n4_ := Aside0.mk (Kd.C_below (by repeat (first | (with_reducible exact HR715_0.out) | (with_reducible refine Kd.C_alloc ?_ _) | (with_reducible refine Kd.C_drewN ?_ _) | (with_reducible refine Kd.C_drew ?_) | exact HR715_0.out)) hb); have n5_ := Aside0.mk (below_step (by repeat (first | (with_reducible first | exact HB.out | apply below_alloc | apply pw_below_drewN | apply below_drew1) | exact HB.out)) hb); clear HO_32; clear HO_33; clear HL715_0; clear HR715_0; clear HB; have HO_32 := n0_; have HO_33 := n1_; have HL715_0 := n2_; have HO720 := n3_; have HR715_0 := n4_; have HB := n5_; clear n0_ n1_ n2_ n3_ n4_ n5_; (try clear hb); (try clear hb2); (try clear hk); (try clear hi); (try clear ho0)))
                                        go_ret
                                        exact ⟨by first | rfl | (simp [errW_none, errW_some] <;> rfl) | (simp [*, errW_none, errW_some] <;> rfl), by repeat (first | (with_reducible first | exact HB.out | apply below_alloc | apply pw_below_drewN | apply below_drew1) | exact HB.out)⟩
                                    · rw [if_neg c87] at H
                                      exact absurd H (by simp)
                                  · rw [if_neg c86] at H
                                    exact absurd H (by simp)
                                · replace c85 := Bool.eq_false_iff.mpr c85
                                  subst c85
                                  have H1 : (some true) = some r := by rw [if_neg (show ¬ (false = true) by decide)] at H; exact H
                                  clear H
                                  have H := H1
                                  clear H1
                                  obtain rfl := Option.some.inj H
                                  go_wp2
                                  go_ret
                                  exact ⟨by first | rfl | (simp [errW_none, errW_some] <;> rfl) | (simp [*, errW_none, errW_some] <;> rfl), by repeat (first | (with_reducible first | exact HB.out | apply below_alloc | apply pw_below_drewN | apply below_drew1) | exact HB.out)⟩
/-- THE ONE PURE STATEMENT of laws_FnLeads: yours. -/
def laws_FnLeads.Pure : Prop := ∀ (l0 : List Int) (l1 : List Int), l0.length ≤ maxLen → l0.length * 1 ≤ 140737488351232 → (∀ x ∈ l0, (Lit.int .u8 x).wf = true) → l1.length ≤ maxLen → l1.length * 1 ≤ 140737488351232 → (∀ x ∈ l1, (Lit.int .u8 x).wf = true) → ∃ k, laws_FnLeads.f k l0 l1 = some true
theorem laws_FnLeads.walk (P : laws_FnLeads.Pure) (a0 : Option Addr) (len0 cap0 : Nat) (z0 : List Int) (a1 : Option Addr) (len1 cap1 : Nat) (z1 : List Int) (w : World) (w0 : (a0 = none ∧ len0 = 0 ∧ cap0 = 0 ∧ z0 = []) ∨ ∃ x, a0 = some x ∧ len0 ≤ cap0 ∧ cap0 ≤ maxLen ∧ z0.length = cap0 ∧ (∀ i, i < z0.length → w.cell? (x.add i) = some (.int .u8 (z0.getD i 0))) ∧ ∀ n ∈ z0, (Lit.int .u8 n).wf = true) (y0 : len0 * 1 ≤ 140737488351232) (w1 : (a1 = none ∧ len1 = 0 ∧ cap1 = 0 ∧ z1 = []) ∨ ∃ x, a1 = some x ∧ len1 ≤ cap1 ∧ cap1 ≤ maxLen ∧ z1.length = cap1 ∧ (∀ i, i < z1.length → w.cell? (x.add i) = some (.int .u8 (z1.getD i 0))) ∧ ∀ n ∈ z1, (Lit.int .u8 n).wf = true) (y1 : len1 * 1 ≤ 140737488351232) :
    Calls Try.prog 8 #[.slice a0 len0 cap0, .slice a1 len1 cap1] w fun e w' => e = .returned (.bool true) ∧ Below w.heap.size w w' := by
  obtain ⟨l0, rfl, hr0, hm0, hw0, hc0⟩ := ReadsInt.ofRowC w0
  obtain ⟨l1, rfl, hr1, hm1, hw1, hc1⟩ := ReadsInt.ofRowC w1
  obtain ⟨k, h⟩ := P l0 l1 hm0 y0 hw0 hm1 y1 hw1
  refine (laws_FnLeads.calls k _ _ l0 _ _ l1 true w (Kd.C_of_reads (d := (0 : Int)) (h1 := fun _ => rfl) hr0) hc0 (Kd.C_of_reads (d := (0 : Int)) (h1 := fun _ => rfl) hr1) hc1 h).mono ?_
  rintro e w' ⟨rfl, hd⟩
  exact ⟨rfl, hd⟩
end Go.Proofs.Ythjgcapfojhfjaa.P
