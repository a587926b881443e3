-- Written by wip/tools/pp.py for this claim.
import Derived.Test.YthjgcapfojhfjaaP0
import Derived.Test.YthjgcapfojhfjaaP3
import Derived.Test.YthjgcapfojhfjaaP4
import Derived.Test.YthjgcapfojhfjaaP10
import Derived.Test.YthjgcapfojhfjaaP11
namespace Go.Proofs.Ythjgcapfojhfjaa.P
open Go.RowKit Go.Proofs.YthjgcapfojhfjaaW.PrintWords Go.Proofs.YthjgcapfojhfjaaW.PrintLast Go.Proofs.YthjgcapfojhfjaaW.PrintMore
attribute [local go_sem] max2_int min2_int max_two min_two max_three min_three max_four min_four   -- for this text's walks alone
set_option linter.unusedVariables false
set_option linter.unusedSimpArgs false
def spec_DrawTwoOf.l0 : Nat → Int → List (List Int) → List (List Int) → Int → Int → List Int → Int → Int → Option (Int × (List (List Int)))
  | 0, _, _, _, _, _, _, _, _ => none
  | k + 1, x5, x7, x18, x19, x20, x616000, x616001, x616002 => if x20 < x19 then (if 0 ≤ x20 then (if x20 < (x18.length : Int) then (if ((rd_L1 x18 x20).length : Int) = 2 then (if x7.length < 5864062014805 then (spec_DrawTwoOf.l0 k x5 (x7 ++ [rd_L1 x18 x20]) x18 x19 (wrap64 (x20 + 1)) x616000 x616001 x616002) else (none)) else ((spec_l1Cur_one.f x616000 x616001 x616002 12).bind fun bt626 => (if bt626.1 = true then (if x7.length < 5864062014805 then (spec_DrawTwoOf.l0 k x5 (x7 ++ [rd_L1 x18 x20]) x18 x19 (wrap64 (x20 + 1)) x616000 bt626.2.1 bt626.2.2) else (none)) else (spec_DrawTwoOf.l0 k x5 x7 x18 x19 (wrap64 (x20 + 1)) x616000 bt626.2.1 bt626.2.2)))) else (none)) else (none)) else (some (x5, x7))
def spec_DrawTwoOf.f (k : Nat) (l0 : List Int) : Option (Int × (List (List Int))) := (spec_l1Cur_twos.f k l0 0 0).bind fun bt616 => (spec_DrawTwoOf.l0 k bt616.1 ([] : List (List Int)) bt616.2.1 (bt616.2.1.length : Int) 0 l0 bt616.2.2.1 bt616.2.2.2)
set_option maxHeartbeats 8000000 in
set_option maxRecDepth 100000 in
theorem spec_DrawTwoOf.calls (k : Nat) (A0 : Option Addr) (c0 : Nat) (l0 : List Int) (r1 : Int) (r2 : List (List Int)) (w : World) (hr0 : Kd.C (Kd.int .u8) w A0 l0.length l0) (hc0 : l0.length ≤ c0) (h : spec_DrawTwoOf.f k l0 = some (r1, r2)) :
    Calls Try.prog 35 #[.slice A0 l0.length c0] w fun e w' => ∃ v1_ : Value, e = .returned (.tuple #[.int .i64 r1, v1_]) ∧ Kd.N (Kd.slice 3 (Kd.int .i64)) 29 w' w.heap.size (fun k_ => (w.heap.size ≤ k_)) v1_ r2 ∧ Below w.heap.size w w' := by
  have hu68 := Try.underlying68
  have HR0 := Aside0.mk hr0
  have HC0 := Aside0.mk hc0
  clear hr0 hc0
  have HB := Aside0.mk (Below.refl w.heap.size w)
  have H : ((spec_l1Cur_twos.f k l0 0 0).bind fun bt616 => (spec_DrawTwoOf.l0 k bt616.1 ([] : List (List Int)) bt616.2.1 (bt616.2.1.length : Int) 0 l0 bt616.2.2.1 bt616.2.2.2)) = some (r1, r2) := h
  clear h
  replace H := Option.bind_eq_some_iff.mp H
  obtain ⟨⟨t616, t617, t620, t621⟩, A20, H⟩ := H
  replace H : (spec_DrawTwoOf.l0 k t616 ([] : List (List Int)) t617 (t617.length : Int) 0 l0 t620 t621) = some (r1, r2) := H
  have A2 := Aside0.mk A20
  clear A20
  have H' := Aside0.mk H
  clear H
  go_enter Try.func35, Try.ntmps35
  go_wp2_with (first | ((with_reducible refine gate_dst (N := 12) rfl ?_); refine box_event ?hg (N := 12) ?hd (cs := #[.slice A0 l0.length c0, .int .i64 0, .int .u64 0]) (t := 68) ?hr ?_; (case hd => rfl); (case hg => rfl); (case hr => first | (go_simp; done) | (go_simp; rfl)); intro gb615 hg w3 hbox hb; have n0_ := Aside0.mk (below_step (by repeat (first | (with_reducible first | exact HB.out | apply below_alloc | apply pw_below_drewN | apply below_drew1) | exact HB.out)) hb); have n1_ := Aside0.mk ((⟨_, _, hbox, (by rw [hg]; exact (below_size (by repeat (first | (with_reducible first | exact HB.out | apply below_alloc | apply pw_below_drewN | apply below_drew1) | exact HB.out))) : w.heap.size ≤ gb615), HR0.out⟩ : IsS68 w _ gb615 l0 0 0)); clear HB; have HB := n0_; have HI615 := n1_; clear n0_ n1_; clear hb hbox hg) | ((with_reducible refine gate_callee (f := 63) rfl ?_); refine goesL_ (some 15) rfl rfl Try.func63 (by kernel_rfl) rfl #[.pointer (some ⟨gb615, 0, none⟩)] rfl (by (try simp only [List.map_toArray, List.map_cons, List.map_nil]); first | done | rfl | (simp only [List.length_drop, List.length_take]; rfl)) ?_; (with_reducible refine (spec_l1Cur_twos.calls k gb615 l0 0 0 t616 t617 t620 t621 w _ ?side1 ?side2 A2.out).mono ?_); (case side1 => repeat (first | (with_reducible first | exact HI615.out | apply IsS68.alloc | apply IsS68.drewN | apply IsS68.drew | apply IsS68.set_1 | apply IsS68.set_2) | exact HI615.out)); (case side2 => repeat (first | (with_reducible first | exact HB.out | apply below_alloc | apply pw_below_drewN | apply below_drew1 | refine below_set ?_ (IsS68.ge HI615.out)) | exact HB.out)); rintro e w4 ⟨v618, rfl, ho0, hi, hb, hk⟩; refine ⟨_, rfl, ?_⟩; have n0_ := Aside0.mk (Kd.N_lower (Kd.N_mono (ok' := fun k_ => (w.heap.size ≤ k_) ∧ k_ ≠ gb615) (Kd.S_N (Kd.S_bound ho0)) (fun k_ hk_ => ⟨(Nat.le_trans (below_size (by repeat (first | (with_reducible first | exact HB.out | apply below_alloc | apply pw_below_drewN | apply below_drew1 | refine below_set ?_ (IsS68.ge HI615.out)) | exact HB.out))) hk_.2.1), (IsS68.fresh (by repeat (first | (with_reducible first | exact HI615.out | apply IsS68.alloc | apply IsS68.drewN | apply IsS68.drew | apply IsS68.set_1 | apply IsS68.set_2) | exact HI615.out)) k_ hk_.2.1)⟩)) (below_size (by repeat (first | (with_reducible first | exact HB.out | apply below_alloc | apply pw_below_drewN | apply below_drew1 | refine below_set ?_ (IsS68.ge HI615.out)) | exact HB.out)))); have n1_ := Aside0.mk (hb); have n2_ := Aside0.mk (hi); clear HB; clear HI615; have HO619 := n0_; have HB := n1_; have HI615 := n2_; clear n0_ n1_ n2_; (try clear hb); (try clear hb2); (try clear hk); (try clear hi); (try clear ho0); obtain ⟨Ao5, co5, eo5⟩ := Kd.N_slice HO619.out; subst eo5))
  go_loopg [7, 20] k (fun kq v7 v20 w' => ∃ (x7_1 : List (List Int)) (x20_1 : Int) (x616001_1 : Int) (x616002_1 : Int), v20 = .int .i64 x20_1 ∧ Aside0 (spec_DrawTwoOf.l0 kq t616 x7_1 t617 (t617.length : Int) x20_1 l0 x616001_1 x616002_1 = some (r1, r2)) ∧ Aside0 (kq ≤ k) ∧ Aside0 (Kd.N (Kd.slice 3 (Kd.int .i64)) 29 w' w.heap.size (fun k_ => (w.heap.size ≤ k_) ∧ some k_ ≠ ((.slice Ao5 t617.length co5) : Value).ownBlock ∧ k_ ≠ gb615) v7 x7_1) ∧ Aside0 (Kd.N (Kd.slice 3 (Kd.int .i64)) 29 w' w.heap.size (fun k_ => (w.heap.size ≤ k_) ∧ some k_ ≠ (v7 : Value).ownBlock ∧ k_ ≠ gb615) (.slice Ao5 t617.length co5) t617) ∧ Aside0 (IsS68 w w' gb615 l0 x616001_1 x616002_1) ∧ Aside0 (Below w.heap.size w w'))
  case atStart => exact ⟨(([] : List (List Int))), (0), (t620), (t621), (by first | rfl | (simp; done) | (simp [*]; done)), H', ⟨Nat.le_refl _⟩, ⟨by first | exact Kd.S_nil _ _ _ _ _ | exact Kd.N_nil _ _ _ _ _ | exact Kd.V_nil _ _ _ _ _ | exact Kd.Q_nil _ _ _ _ _ | exact Kd.R_nil _ _ _ _ _⟩, ⟨by (with_reducible repeat (first | apply Kd.N_alloc | apply Kd.N_drewN | apply Kd.N_drew)); exact Kd.N_mono HO619.out (fun _ hk => ⟨hk.1, ⟨(by simp [Value.ownBlock]), hk.2⟩⟩)⟩, ⟨by repeat (first | (with_reducible first | exact HI615.out | apply IsS68.alloc | apply IsS68.drewN | apply IsS68.drew | apply IsS68.set_1 | apply IsS68.set_2) | exact HI615.out)⟩, ⟨by repeat (first | (with_reducible first | exact HB.out | apply below_alloc | apply pw_below_drewN | apply below_drew1 | refine below_set ?_ (IsS68.ge HI615.out)) | exact HB.out)⟩⟩
  case round =>
    clear H'
    try clear p2
    try clear c3
    obtain ⟨x7_1, x20_1, x616001_1, x616002_1, rfl, HA, HK1, HO_7, HO_18, HI615, HB⟩ := hrel
    cases gk with
    | zero => exact absurd HA.out (by simp [spec_DrawTwoOf.l0])
    | succ k1 =>
      have H := HA.out
      clear HA
      simp only [spec_DrawTwoOf.l0] at H
      by_cases c6 : x20_1 < (t617.length : Int)
      · rw [if_pos c6] at H
        have c6b0 : decide (x20_1 < (t617.length : Int)) = true := decide_eq_true c6
        clear c6
        by_cases c7 : 0 ≤ x20_1
        · rw [if_pos c7] at H
          have c7b0 : decide (0 ≤ x20_1) = true := decide_eq_true c7
          clear c7
          by_cases c8 : x20_1 < (t617.length : Int)
          · rw [if_pos c8] at H
            have c8b0 : decide (x20_1 < (t617.length : Int)) = true := decide_eq_true c8
            clear c8
            by_cases c9 : ((rd_L1 t617 x20_1).length : Int) = 2
            · rw [if_pos c9] at H
              have c9b0 : (((rd_L1 t617 x20_1).length : Int) == 2) = true := beq_iff_eq.mpr c9
              have c9b1 : (((rd_L1 t617 x20_1).length : Int) != 2) = false := bne_eq_false_iff_eq.mpr c9
              clear c9
              by_cases c10 : x7_1.length < 5864062014805
              · rw [if_pos c10] at H
                have LMc10 := Aside0.mk c10
                clear c10
                obtain ⟨y623, hy623⟩ : ∃ y_ : List (List Int), y_ = (x7_1 ++ [rd_L1 t617 x20_1]) := ⟨_, rfl⟩
                replace H : (spec_DrawTwoOf.l0 k1 t616 y623 t617 (t617.length : Int) (wrap64 (x20_1 + 1)) l0 x616001_1 x616002_1) = some (r1, r2) := by first | (rw [hy623]; with_reducible exact H) | (have H2_ := (Option.bind_some _ _).symm.trans H; rw [hy623]; with_reducible exact H2_) | (have H2_ := (Option.bind_some _ _).symm.trans H; with_reducible exact H2_) | with_reducible exact H | (rw [hy623]; exact H) | exact H
                have Ny623 := Aside0.mk hy623
                clear hy623
                have H' := Aside0.mk H
                clear H
                have p622 : 0 ≤ (x20_1 : Int) := of_decide_eq_true (by first | (with_reducible assumption) | assumption)
                have q622 : x20_1 < (t617.length : Int) := of_decide_eq_true (by first | (with_reducible assumption) | assumption)
                obtain ⟨ad622, A622_0, c622_0, e622, hx622_0, hl622_0, hi622_0⟩ := at_L1 (Kd.N_reads' HO_18.out).2.2 x20_1 p622 q622
                cases e622
                obtain ⟨ce622, hce622, hMe622, hcc622⟩ := Kd.N_get HO_18.out [] x20_1 p622 (by first | exact q622 | exact of_decide_eq_true (by first | (with_reducible assumption) | assumption) | (have e_ := (Kd.N_reads' HO_18.out).1; omega))
                obtain ⟨ua622_0, uc622_0, rfl, ul622_0, ge622_0⟩ := Kd.FK_slice_open hMe622
                have hv622_0 := hcc622 0 _ rfl
                rw [Nat.add_zero, show ((Kd.slice 3 (Kd.int .i64))).sz = 1 from rfl, Nat.mul_one] at hv622_0
                replace hv622_0 := Option.some.inj (hv622_0.symm.trans hx622_0)
                injection hv622_0 with hva_ hvn_ hvc_
                rw [hva_] at ge622_0
                rw [hvc_] at ul622_0
                have HL622_0 := Aside0.mk (show Kd.V (Kd.int .i64) 3 _ w.heap.size _ _ (rd_L1 t617 x20_1) from Kd.V_mk ul622_0 ge622_0)
                clear hva_ hvn_ hvc_ ge622_0 ul622_0
                clear hcc622 hce622
                have HR622_0 := Aside0.mk hi622_0
                have HC622_0 := Aside0.mk hl622_0
                clear hi622_0 hl622_0
                replace p622 := eq_true p622
                replace q622 := eq_true q622
                go_wp2_with (first | ((with_reducible refine gate_builtin (b := .append) (xs := #[.tmp 31, .tmp 33]) rfl ?_); at_builtin; refine Kd.N_append (Kd.slice 3 (Kd.int .i64)) (w0 := w) w.heap.size rfl (.tmp 31) (.tmp 33) 22 29 (.slice none 0 0) 24 rfl Try.underlying22 info29 rfl (by decide) (by omega) u7 x7_1 (rd_L1 t617 x20_1) [.slice A622_0 (rd_L1 t617 x20_1).length c622_0] (fun k_ => (w.heap.size ≤ k_) ∧ some k_ ≠ (.slice (some ad622) t617.length co5 : Value).ownBlock ∧ k_ ≠ gb615) (fun k_ => ((fun k_ => (w.heap.size ≤ k_) ∧ some k_ ≠ (.slice (some ad622) t617.length co5 : Value).ownBlock ∧ k_ ≠ gb615)) k_ ∧ some k_ ≠ (u7 : Value).ownBlock) rfl rfl ?aP (fun _ hk => hk) ?aF ?aO ?aB ?aS ?aL ?_; (case aP => exact (Kd.FK_slice_mk (Kd.V_reads' (Kd.V_mono (ok' := (fun k_ => ((fun k_ => (w.heap.size ≤ k_) ∧ some k_ ≠ (.slice (some ad622) t617.length co5 : Value).ownBlock ∧ k_ ≠ gb615)) k_ ∧ some k_ ≠ (u7 : Value).ownBlock)) (HL622_0.out) (fun k_ hk => ⟨⟨hk.1.1, ⟨hk.2, hk.1.2.2⟩⟩, hk.1.2.1⟩))).2.1 (Kd.V_F (Kd.V_mono (ok' := (fun k_ => ((fun k_ => (w.heap.size ≤ k_) ∧ some k_ ≠ (.slice (some ad622) t617.length co5 : Value).ownBlock ∧ k_ ≠ gb615)) k_ ∧ some k_ ≠ (u7 : Value).ownBlock)) (HL622_0.out) (fun k_ hk => ⟨⟨hk.1.1, ⟨hk.2, hk.1.2.2⟩⟩, hk.1.2.1⟩))))); (case aB => exact (by repeat (first | (with_reducible first | exact HB.out | apply below_alloc | apply pw_below_drewN | apply below_drew1 | refine below_set ?_ (IsS68.ge HI615.out)) | exact HB.out))); (case aF => exact (fun k_ hk => ⟨(Nat.le_trans (below_size (by repeat (first | (with_reducible first | exact HB.out | apply below_alloc | apply pw_below_drewN | apply below_drew1 | refine below_set ?_ (IsS68.ge HI615.out)) | exact HB.out))) hk), Kd.fresh' (Kd.N_lt (by (with_reducible repeat (first | apply Kd.N_alloc | apply Kd.N_drewN | apply Kd.N_drew)); exact HO_18.out)) k_ hk, IsS68.fresh (by repeat (first | (with_reducible first | exact HI615.out | apply IsS68.alloc | apply IsS68.drewN | apply IsS68.drew | apply IsS68.set_1 | apply IsS68.set_2) | exact HI615.out)) k_ hk⟩)); (case aO => exact (by (with_reducible repeat (first | apply Kd.N_alloc | apply Kd.N_drewN | apply Kd.N_drew)); exact HO_7.out)); (case aS => exact (below_size (by repeat (first | (with_reducible first | exact HB.out | apply below_alloc | apply pw_below_drewN | apply below_drew1 | refine below_set ?_ (IsS68.ge HI615.out)) | exact HB.out)))); (case aL => have := LMc10.out; omega); intro v624 w11 ho hb hg hat; rw [← Ny623.out] at ho; have n0_ := Aside0.mk (Kd.N_afterv (ok := (fun k_ => (w.heap.size ≤ k_) ∧ k_ ≠ gb615)) (by (with_reducible repeat (first | apply Kd.N_alloc | apply Kd.N_drewN | apply Kd.N_drew)); exact Kd.N_mono HO_18.out (fun _ hk => ⟨⟨hk.1, hk.2.2⟩, hk.2.1⟩)) hg hat); have n1_ := Aside0.mk (IsS68.grown (by repeat (first | (with_reducible first | exact HI615.out | apply IsS68.alloc | apply IsS68.drewN | apply IsS68.drew | apply IsS68.set_1 | apply IsS68.set_2) | exact HI615.out)) hg (IsS68.own_neN HI615.out HO_7.out (by decide))); have n2_ := Aside0.mk (Kd.V_afterv (ok := (fun k_ => (w.heap.size ≤ k_) ∧ some k_ ≠ (.slice (some ad622) t617.length co5 : Value).ownBlock ∧ k_ ≠ gb615)) (by (with_reducible repeat (first | apply Kd.V_alloc | apply Kd.V_drewN | apply Kd.V_drew)); exact Kd.V_mono HL622_0.out (fun _ hk => ⟨⟨hk.1.1, ⟨hk.2, hk.1.2.2⟩⟩, hk.1.2.1⟩)) hg hat); have n3_ := Aside0.mk (hb); have n4_ := Aside0.mk (ho); clear HO_18; clear HI615; clear HL622_0; clear HB; clear HO_7; have HO_18 := n0_; have HI615 := n1_; have HL622_0 := n2_; have HB := n3_; have HO625 := n4_; clear n0_ n1_ n2_ n3_ n4_; clear ho hb hg hat))
                go_roundg k1
                case measure => have := HK1.out; omega
                case rel => exact ⟨(y623), (wrap64 (x20_1 + 1)), (x616001_1), (x616002_1), (by first | rfl | (simp; done) | (simp [*]; done)), H', ⟨by have := HK1.out; omega⟩, ⟨by (with_reducible repeat (first | apply Kd.N_alloc | apply Kd.N_drewN | apply Kd.N_drew)); exact HO625.out⟩, ⟨by (with_reducible repeat (first | apply Kd.N_alloc | apply Kd.N_drewN | apply Kd.N_drew)); exact Kd.N_mono HO_18.out (fun _ hk => ⟨hk.1.1, ⟨hk.2, hk.1.2⟩⟩)⟩, ⟨by repeat (first | (with_reducible first | exact HI615.out | apply IsS68.alloc | apply IsS68.drewN | apply IsS68.drew | apply IsS68.set_1 | apply IsS68.set_2) | exact HI615.out)⟩, ⟨by repeat (first | (with_reducible first | exact HB.out | apply below_alloc | apply pw_below_drewN | apply below_drew1 | refine below_set ?_ (IsS68.ge HI615.out)) | exact HB.out)⟩⟩
              · rw [if_neg c10] at H
                exact absurd H (by simp)
            · rw [if_neg c9] at H
              have c9b0 : (((rd_L1 t617 x20_1).length : Int) == 2) = false := beq_eq_false_iff_ne.mpr c9
              have c9b1 : (((rd_L1 t617 x20_1).length : Int) != 2) = true := bne_iff_ne.mpr c9
              replace H := Option.bind_eq_some_iff.mp H
              obtain ⟨⟨t626, t627, t628⟩, A120, H⟩ := H
              replace H : (if t626 = true then (if x7_1.length < 5864062014805 then (spec_DrawTwoOf.l0 k1 t616 (x7_1 ++ [rd_L1 t617 x20_1]) t617 (t617.length : Int) (wrap64 (x20_1 + 1)) l0 t627 t628) else (none)) else (spec_DrawTwoOf.l0 k1 t616 x7_1 t617 (t617.length : Int) (wrap64 (x20_1 + 1)) l0 t627 t628)) = some (r1, r2) := H
              have A12 := Aside0.mk A120
              clear A120
              by_cases c13 : t626 = true
              · subst c13
                have H1 : (if x7_1.length < 5864062014805 then (spec_DrawTwoOf.l0 k1 t616 (x7_1 ++ [rd_L1 t617 x20_1]) t617 (t617.length : Int) (wrap64 (x20_1 + 1)) l0 t627 t628) else (none)) = some (r1, r2) := by rw [if_pos rfl] at H; exact H
                clear H
                have H := H1
                clear H1
                by_cases c14 : x7_1.length < 5864062014805
                · rw [if_pos c14] at H
                  have LMc14 := Aside0.mk c14
                  clear c14
                  obtain ⟨y629, hy629⟩ : ∃ y_ : List (List Int), y_ = (x7_1 ++ [rd_L1 t617 x20_1]) := ⟨_, rfl⟩
                  replace H : (spec_DrawTwoOf.l0 k1 t616 y629 t617 (t617.length : Int) (wrap64 (x20_1 + 1)) l0 t627 t628) = some (r1, r2) := by first | (rw [hy629]; with_reducible exact H) | (have H2_ := (Option.bind_some _ _).symm.trans H; rw [hy629]; with_reducible exact H2_) | (have H2_ := (Option.bind_some _ _).symm.trans H; with_reducible exact H2_) | with_reducible exact H | (rw [hy629]; exact H) | exact H
                  have Ny629 := Aside0.mk hy629
                  clear hy629
                  have H' := Aside0.mk H
                  clear H
                  have p622 : 0 ≤ (x20_1 : Int) := of_decide_eq_true (by first | (with_reducible assumption) | assumption)
                  have q622 : x20_1 < (t617.length : Int) := of_decide_eq_true (by first | (with_reducible assumption) | assumption)
                  obtain ⟨ad622, A622_0, c622_0, e622, hx622_0, hl622_0, hi622_0⟩ := at_L1 (Kd.N_reads' HO_18.out).2.2 x20_1 p622 q622
                  cases e622
                  obtain ⟨ce622, hce622, hMe622, hcc622⟩ := Kd.N_get HO_18.out [] x20_1 p622 (by first | exact q622 | exact of_decide_eq_true (by first | (with_reducible assumption) | assumption) | (have e_ := (Kd.N_reads' HO_18.out).1; omega))
                  obtain ⟨ua622_0, uc622_0, rfl, ul622_0, ge622_0⟩ := Kd.FK_slice_open hMe622
                  have hv622_0 := hcc622 0 _ rfl
                  rw [Nat.add_zero, show ((Kd.slice 3 (Kd.int .i64))).sz = 1 from rfl, Nat.mul_one] at hv622_0
                  replace hv622_0 := Option.some.inj (hv622_0.symm.trans hx622_0)
                  injection hv622_0 with hva_ hvn_ hvc_
                  rw [hva_] at ge622_0
                  rw [hvc_] at ul622_0
                  have HL622_0 := Aside0.mk (show Kd.V (Kd.int .i64) 3 _ w.heap.size _ _ (rd_L1 t617 x20_1) from Kd.V_mk ul622_0 ge622_0)
                  clear hva_ hvn_ hvc_ ge622_0 ul622_0
                  clear hcc622 hce622
                  have HR622_0 := Aside0.mk hi622_0
                  have HC622_0 := Aside0.mk hl622_0
                  clear hi622_0 hl622_0
                  replace p622 := eq_true p622
                  replace q622 := eq_true q622
                  go_wp2_with (first | (go_at_call 66; (with_reducible refine (spec_l1Cur_one.calls gb615 l0 x616001_1 x616002_1 12 true t627 t628 w _ ?side1 ?side2 A12.out).mono ?_); (case side1 => repeat (first | (with_reducible first | exact HI615.out | apply IsS68.alloc | apply IsS68.drewN | apply IsS68.drew | apply IsS68.set_1 | apply IsS68.set_2) | exact HI615.out)); (case side2 => repeat (first | (with_reducible first | exact HB.out | apply below_alloc | apply pw_below_drewN | apply below_drew1 | refine below_set ?_ (IsS68.ge HI615.out)) | exact HB.out)); rintro e w15 ⟨rfl, hi, hb, hk⟩; have n0_ := Aside0.mk (Kd.N_mono (Kd.N_keep (Kd.N_mono (ok := fun k_ => (((w.heap.size ≤ k_)) ∧ (some k_ ≠ (.slice (some ad622) t617.length co5 : Value).ownBlock ∧ k_ ≠ gb615))) (by (with_reducible repeat (first | apply Kd.N_alloc | apply Kd.N_drewN | apply Kd.N_drew)); exact HO_7.out) (fun k_ hk_ => (⟨hk_, hk_.2.2⟩ : _ ∧ k_ ≠ gb615))) hk (fun _ h => h.2)) (fun _ h => h.1)); have n1_ := Aside0.mk (Kd.N_mono (Kd.N_keep (Kd.N_mono (ok := fun k_ => (((w.heap.size ≤ k_)) ∧ (some k_ ≠ (u7 : Value).ownBlock ∧ k_ ≠ gb615))) (by (with_reducible repeat (first | apply Kd.N_alloc | apply Kd.N_drewN | apply Kd.N_drew)); exact HO_18.out) (fun k_ hk_ => (⟨hk_, hk_.2.2⟩ : _ ∧ k_ ≠ gb615))) hk (fun _ h => h.2)) (fun _ h => h.1)); have n2_ := Aside0.mk (Kd.V_mono (Kd.V_keep (Kd.V_mono (ok := fun k_ => ((((w.heap.size ≤ k_)) ∧ (some k_ ≠ (u7 : Value).ownBlock ∧ k_ ≠ gb615)) ∧ some k_ ≠ (.slice (some ad622) t617.length co5 : Value).ownBlock)) (by (with_reducible repeat (first | apply Kd.V_alloc | apply Kd.V_drewN | apply Kd.V_drew)); exact HL622_0.out) (fun k_ hk_ => (⟨hk_, hk_.1.2.2⟩ : _ ∧ k_ ≠ gb615))) hk (fun _ h => h.2)) (fun _ h => h.1)); have n3_ := Aside0.mk (hb); have n4_ := Aside0.mk (hi); clear HO_7; clear HO_18; clear HL622_0; clear HB; clear HI615; have HO_7 := n0_; have HO_18 := n1_; have HL622_0 := n2_; have HB := n3_; have HI615 := n4_; clear n0_ n1_ n2_ n3_ n4_; (try clear hb); (try clear hb2); (try clear hk); (try clear hi)) | ((with_reducible refine gate_builtin (b := .append) (xs := #[.tmp 31, .tmp 33]) rfl ?_); at_builtin; refine Kd.N_append (Kd.slice 3 (Kd.int .i64)) (w0 := w) w.heap.size rfl (.tmp 31) (.tmp 33) 22 29 (.slice none 0 0) 24 rfl Try.underlying22 info29 rfl (by decide) (by omega) u7 x7_1 (rd_L1 t617 x20_1) [.slice A622_0 (rd_L1 t617 x20_1).length c622_0] (fun k_ => (w.heap.size ≤ k_) ∧ some k_ ≠ (.slice (some ad622) t617.length co5 : Value).ownBlock ∧ k_ ≠ gb615) (fun k_ => ((fun k_ => (w.heap.size ≤ k_) ∧ some k_ ≠ (.slice (some ad622) t617.length co5 : Value).ownBlock ∧ k_ ≠ gb615)) k_ ∧ some k_ ≠ (u7 : Value).ownBlock) rfl rfl ?aP (fun _ hk => hk) ?aF ?aO ?aB ?aS ?aL ?_; (case aP => exact (Kd.FK_slice_mk (Kd.V_reads' (Kd.V_mono (ok' := (fun k_ => ((fun k_ => (w.heap.size ≤ k_) ∧ some k_ ≠ (.slice (some ad622) t617.length co5 : Value).ownBlock ∧ k_ ≠ gb615)) k_ ∧ some k_ ≠ (u7 : Value).ownBlock)) (HL622_0.out) (fun k_ hk => ⟨⟨hk.1.1, ⟨hk.2, hk.1.2.2⟩⟩, hk.1.2.1⟩))).2.1 (Kd.V_F (Kd.V_mono (ok' := (fun k_ => ((fun k_ => (w.heap.size ≤ k_) ∧ some k_ ≠ (.slice (some ad622) t617.length co5 : Value).ownBlock ∧ k_ ≠ gb615)) k_ ∧ some k_ ≠ (u7 : Value).ownBlock)) (HL622_0.out) (fun k_ hk => ⟨⟨hk.1.1, ⟨hk.2, hk.1.2.2⟩⟩, hk.1.2.1⟩))))); (case aB => exact (by repeat (first | (with_reducible first | exact HB.out | apply below_alloc | apply pw_below_drewN | apply below_drew1 | refine below_set ?_ (IsS68.ge HI615.out)) | exact HB.out))); (case aF => exact (fun k_ hk => ⟨(Nat.le_trans (below_size (by repeat (first | (with_reducible first | exact HB.out | apply below_alloc | apply pw_below_drewN | apply below_drew1 | refine below_set ?_ (IsS68.ge HI615.out)) | exact HB.out))) hk), Kd.fresh' (Kd.N_lt (by (with_reducible repeat (first | apply Kd.N_alloc | apply Kd.N_drewN | apply Kd.N_drew)); exact HO_18.out)) k_ hk, IsS68.fresh (by repeat (first | (with_reducible first | exact HI615.out | apply IsS68.alloc | apply IsS68.drewN | apply IsS68.drew | apply IsS68.set_1 | apply IsS68.set_2) | exact HI615.out)) k_ hk⟩)); (case aO => exact (by (with_reducible repeat (first | apply Kd.N_alloc | apply Kd.N_drewN | apply Kd.N_drew)); exact HO_7.out)); (case aS => exact (below_size (by repeat (first | (with_reducible first | exact HB.out | apply below_alloc | apply pw_below_drewN | apply below_drew1 | refine below_set ?_ (IsS68.ge HI615.out)) | exact HB.out)))); (case aL => have := LMc14.out; omega); intro v630 w16 ho hb hg hat; rw [← Ny629.out] at ho; have n0_ := Aside0.mk (Kd.N_afterv (ok := (fun k_ => (w.heap.size ≤ k_) ∧ k_ ≠ gb615)) (by (with_reducible repeat (first | apply Kd.N_alloc | apply Kd.N_drewN | apply Kd.N_drew)); exact Kd.N_mono HO_18.out (fun _ hk => ⟨⟨hk.1, hk.2.2⟩, hk.2.1⟩)) hg hat); have n1_ := Aside0.mk (IsS68.grown (by repeat (first | (with_reducible first | exact HI615.out | apply IsS68.alloc | apply IsS68.drewN | apply IsS68.drew | apply IsS68.set_1 | apply IsS68.set_2) | exact HI615.out)) hg (IsS68.own_neN HI615.out HO_7.out (by decide))); have n2_ := Aside0.mk (Kd.V_afterv (ok := (fun k_ => (w.heap.size ≤ k_) ∧ some k_ ≠ (.slice (some ad622) t617.length co5 : Value).ownBlock ∧ k_ ≠ gb615)) (by (with_reducible repeat (first | apply Kd.V_alloc | apply Kd.V_drewN | apply Kd.V_drew)); exact Kd.V_mono HL622_0.out (fun _ hk => ⟨⟨hk.1.1, ⟨hk.2, hk.1.2.2⟩⟩, hk.1.2.1⟩)) hg hat); have n3_ := Aside0.mk (hb); have n4_ := Aside0.mk (ho); clear HO_18; clear HI615; clear HL622_0; clear HB; clear HO_7; have HO_18 := n0_; have HI615 := n1_; have HL622_0 := n2_; have HB := n3_; have HO631 := n4_; clear n0_ n1_ n2_ n3_ n4_; clear ho hb hg hat))
                  go_roundg k1
                  case measure => have := HK1.out; omega
                  case rel => exact ⟨(y629), (wrap64 (x20_1 + 1)), (t627), (t628), (by first | rfl | (simp; done) | (simp [*]; done)), H', ⟨by have := HK1.out; omega⟩, ⟨by (with_reducible repeat (first | apply Kd.N_alloc | apply Kd.N_drewN | apply Kd.N_drew)); exact HO631.out⟩, ⟨by (with_reducible repeat (first | apply Kd.N_alloc | apply Kd.N_drewN | apply Kd.N_drew)); exact Kd.N_mono HO_18.out (fun _ hk => ⟨hk.1.1, ⟨hk.2, hk.1.2⟩⟩)⟩, ⟨by repeat (first | (with_reducible first | exact HI615.out | apply IsS68.alloc | apply IsS68.drewN | apply IsS68.drew | apply IsS68.set_1 | apply IsS68.set_2) | exact HI615.out)⟩, ⟨by repeat (first | (with_reducible first | exact HB.out | apply below_alloc | apply pw_below_drewN | apply below_drew1 | refine below_set ?_ (IsS68.ge HI615.out)) | exact HB.out)⟩⟩
                · rw [if_neg c14] at H
                  exact absurd H (by simp)
              · replace c13 := Bool.eq_false_iff.mpr c13
                subst c13
                have H1 : (spec_DrawTwoOf.l0 k1 t616 x7_1 t617 (t617.length : Int) (wrap64 (x20_1 + 1)) l0 t627 t628) = some (r1, r2) := by rw [if_neg (show ¬ (false = true) by decide)] at H; exact H
                clear H
                have H := H1
                clear H1
                have H' := Aside0.mk H
                clear H
                have p622 : 0 ≤ (x20_1 : Int) := of_decide_eq_true (by first | (with_reducible assumption) | assumption)
                have q622 : x20_1 < (t617.length : Int) := of_decide_eq_true (by first | (with_reducible assumption) | assumption)
                obtain ⟨ad622, A622_0, c622_0, e622, hx622_0, hl622_0, hi622_0⟩ := at_L1 (Kd.N_reads' HO_18.out).2.2 x20_1 p622 q622
                cases e622
                obtain ⟨ce622, hce622, hMe622, hcc622⟩ := Kd.N_get HO_18.out [] x20_1 p622 (by first | exact q622 | exact of_decide_eq_true (by first | (with_reducible assumption) | assumption) | (have e_ := (Kd.N_reads' HO_18.out).1; omega))
                obtain ⟨ua622_0, uc622_0, rfl, ul622_0, ge622_0⟩ := Kd.FK_slice_open hMe622
                have hv622_0 := hcc622 0 _ rfl
                rw [Nat.add_zero, show ((Kd.slice 3 (Kd.int .i64))).sz = 1 from rfl, Nat.mul_one] at hv622_0
                replace hv622_0 := Option.some.inj (hv622_0.symm.trans hx622_0)
                injection hv622_0 with hva_ hvn_ hvc_
                rw [hva_] at ge622_0
                rw [hvc_] at ul622_0
                have HL622_0 := Aside0.mk (show Kd.V (Kd.int .i64) 3 _ w.heap.size _ _ (rd_L1 t617 x20_1) from Kd.V_mk ul622_0 ge622_0)
                clear hva_ hvn_ hvc_ ge622_0 ul622_0
                clear hcc622 hce622
                have HR622_0 := Aside0.mk hi622_0
                have HC622_0 := Aside0.mk hl622_0
                clear hi622_0 hl622_0
                replace p622 := eq_true p622
                replace q622 := eq_true q622
                go_wp2_with (first | (go_at_call 66; (with_reducible refine (spec_l1Cur_one.calls gb615 l0 x616001_1 x616002_1 12 false t627 t628 w _ ?side1 ?side2 A12.out).mono ?_); (case side1 => repeat (first | (with_reducible first | exact HI615.out | apply IsS68.alloc | apply IsS68.drewN | apply IsS68.drew | apply IsS68.set_1 | apply IsS68.set_2) | exact HI615.out)); (case side2 => repeat (first | (with_reducible first | exact HB.out | apply below_alloc | apply pw_below_drewN | apply below_drew1 | refine below_set ?_ (IsS68.ge HI615.out)) | exact HB.out)); rintro e w17 ⟨rfl, hi, hb, hk⟩; have n0_ := Aside0.mk (Kd.N_mono (Kd.N_keep (Kd.N_mono (ok := fun k_ => (((w.heap.size ≤ k_)) ∧ (some k_ ≠ (.slice (some ad622) t617.length co5 : Value).ownBlock ∧ k_ ≠ gb615))) (by (with_reducible repeat (first | apply Kd.N_alloc | apply Kd.N_drewN | apply Kd.N_drew)); exact HO_7.out) (fun k_ hk_ => (⟨hk_, hk_.2.2⟩ : _ ∧ k_ ≠ gb615))) hk (fun _ h => h.2)) (fun _ h => h.1)); have n1_ := Aside0.mk (Kd.N_mono (Kd.N_keep (Kd.N_mono (ok := fun k_ => (((w.heap.size ≤ k_)) ∧ (some k_ ≠ (u7 : Value).ownBlock ∧ k_ ≠ gb615))) (by (with_reducible repeat (first | apply Kd.N_alloc | apply Kd.N_drewN | apply Kd.N_drew)); exact HO_18.out) (fun k_ hk_ => (⟨hk_, hk_.2.2⟩ : _ ∧ k_ ≠ gb615))) hk (fun _ h => h.2)) (fun _ h => h.1)); have n2_ := Aside0.mk (Kd.V_mono (Kd.V_keep (Kd.V_mono (ok := fun k_ => ((((w.heap.size ≤ k_)) ∧ (some k_ ≠ (u7 : Value).ownBlock ∧ k_ ≠ gb615)) ∧ some k_ ≠ (.slice (some ad622) t617.length co5 : Value).ownBlock)) (by (with_reducible repeat (first | apply Kd.V_alloc | apply Kd.V_drewN | apply Kd.V_drew)); exact HL622_0.out) (fun k_ hk_ => (⟨hk_, hk_.1.2.2⟩ : _ ∧ k_ ≠ gb615))) hk (fun _ h => h.2)) (fun _ h => h.1)); have n3_ := Aside0.mk (hb); have n4_ := Aside0.mk (hi); clear HO_7; clear HO_18; clear HL622_0; clear HB; clear HI615; have HO_7 := n0_; have HO_18 := n1_; have HL622_0 := n2_; have HB := n3_; have HI615 := n4_; clear n0_ n1_ n2_ n3_ n4_; (try clear hb); (try clear hb2); (try clear hk); (try clear hi)))
                go_roundg k1
                case measure => have := HK1.out; omega
                case rel => exact ⟨(x7_1), (wrap64 (x20_1 + 1)), (t627), (t628), (by first | rfl | (simp; done) | (simp [*]; done)), H', ⟨by have := HK1.out; omega⟩, ⟨by (with_reducible repeat (first | apply Kd.N_alloc | apply Kd.N_drewN | apply Kd.N_drew)); exact HO_7.out⟩, ⟨by (with_reducible repeat (first | apply Kd.N_alloc | apply Kd.N_drewN | apply Kd.N_drew)); exact HO_18.out⟩, ⟨by repeat (first | (with_reducible first | exact HI615.out | apply IsS68.alloc | apply IsS68.drewN | apply IsS68.drew | apply IsS68.set_1 | apply IsS68.set_2) | exact HI615.out)⟩, ⟨by repeat (first | (with_reducible first | exact HB.out | apply below_alloc | apply pw_below_drewN | apply below_drew1 | refine below_set ?_ (IsS68.ge HI615.out)) | exact HB.out)⟩⟩
          · rw [if_neg c8] at H
            exact absurd H (by simp)
        · rw [if_neg c7] at H
          exact absurd H (by simp)
      · rw [if_neg c6] at H
        have c6b0 : decide (x20_1 < (t617.length : Int)) = false := decide_eq_false c6
        clear c6
        simp only [Option.some.injEq, Prod.mk.injEq] at H
        obtain ⟨rfl, rfl⟩ := H
        go_wp2
        go_ret2
        exact ⟨_, by first | rfl | (simp [errW_none, errW_some] <;> rfl) | (simp [*, errW_none, errW_some] <;> rfl), by (with_reducible repeat (first | apply Kd.N_alloc | apply Kd.N_drewN | apply Kd.N_drew)); exact Kd.N_mono HO_7.out (fun _ hk => hk.1), by repeat (first | (with_reducible first | exact HB.out | apply below_alloc | apply pw_below_drewN | apply below_drew1 | refine below_set ?_ (IsS68.ge HI615.out)) | exact HB.out)⟩
mutual
def impl_TwoOf.j0 : Nat → Int → List (List Int) → Bool → Option ((List (List Int)) × Bool)
  | 0, _, _, _ => none
  | k + 1, x0, x1, x16 => if x16 = true then (some (([] : List (List Int)), false)) else (impl_TwoOf.l0 k x0 ([] : List (List Int)) x1 (x1.length : Int) 0)
def impl_TwoOf.l0 : Nat → Int → List (List Int) → List (List Int) → Int → Int → Option ((List (List Int)) × Bool)
  | 0, _, _, _, _, _ => none
  | k + 1, x0, x6, x17, x18, x19 => if x19 < x18 then (if 0 ≤ x19 then (if x19 < (x17.length : Int) then (if ((rd_L1 x17 x19).length : Int) = 2 then ((impl_isClause.f (rd_L1 x17 x19) x0).bind fun t634 => (if t634 = true then (if 0 < ((rd_L1 x17 x19).length : Int) then (if 1 < ((rd_L1 x17 x19).length : Int) then (if x6.length < 5864062014805 then (impl_TwoOf.l0 k x0 (x6 ++ [(([wrap64 (-(rd (rd_L1 x17 x19) 0)), rd (rd_L1 x17 x19) 1] : List Int))]) x17 x18 (wrap64 (x19 + 1))) else (none)) else (none)) else (none)) else (some (([] : List (List Int)), false)))) else (some (([] : List (List Int)), false))) else (none)) else (none)) else (some (x6, true))
end
def impl_TwoOf.f (k : Nat) (a0 : Int) (l1 : List (List Int)) : Option ((List (List Int)) × Bool) := (impl_in.f a0 0 12).bind fun t632 => (if t632 = true then (impl_TwoOf.j0 k a0 l1 (decide ((l1.length : Int) > 60))) else (impl_TwoOf.j0 k a0 l1 true))
def impl_TwoOf.T9 : Bool × List (List Nat × List Nat) := (true, [([], []), ([], []), ([1], [1]), ([2], [2]), ([3], [3]), ([], []), ([5], [5]), ([6], [6]), ([4, 7], [4, 7]), ([8], [8]), ([0, 9], [0, 9]), ([10, 10, 0, 1, 2, 3, 4, 5, 6, 7, 8, 9, 10], [0, 10])])
def impl_TwoOf.B9 : List Nat := [0, 0, 2, 6, 14, 0, 32, 96, 254, 510, 1023, 2047]
theorem impl_TwoOf.tab9 : rtab .any (opsOf Try.f36 9) = impl_TwoOf.T9 := by kernel_rfl
theorem impl_TwoOf.bits9 : waitsOk impl_TwoOf.T9.2 impl_TwoOf.B9 = true := by kernel_rfl
set_option maxHeartbeats 8000000 in
set_option maxRecDepth 100000 in
theorem impl_TwoOf.calls (k : Nat) (a0 : Int) (A1 : Option Addr) (c1 : Nat) (l1 : List (List Int)) (r1 : List (List Int)) (r2 : Bool) (w : World) (hr1 : Kd.C (Kd.slice 3 (Kd.int .i64)) w A1 l1.length l1) (hc1 : l1.length ≤ c1) (h : impl_TwoOf.f k a0 l1 = some (r1, r2)) :
    Calls Try.prog 36 #[.int .i64 a0, .slice A1 l1.length c1] w fun e w' => ∃ v0_ : Value, e = .returned (.tuple #[v0_, .bool r2]) ∧ Kd.S (Kd.slice 3 (Kd.int .i64)) 29 w' w.heap.size (fun _ => True) v0_ r1 ∧ Below w.heap.size w w' := by
  have HR1 := Aside0.mk hr1
  have HC1 := Aside0.mk hc1
  clear hr1 hc1
  have HB := Aside0.mk (Below.refl w.heap.size w)
  have H : ((impl_in.f a0 0 12).bind fun t632 => (if t632 = true then (impl_TwoOf.j0 k a0 l1 (decide ((l1.length : Int) > 60))) else (impl_TwoOf.j0 k a0 l1 true))) = some (r1, r2) := h
  clear h
  have HC3 := Aside0.mk H
  clear H
  go_enter Try.func36, Try.ntmps36
  go_upto_region 1 with (fail)
  go_cut [16] (fun v16 wc => ∃ (kq : Nat) (x16_2 : Bool), v16 = .bool x16_2 ∧ Aside0 (impl_TwoOf.j0 kq a0 l1 x16_2 = some (r1, r2)) ∧ Aside0 (kq ≤ k) ∧ Aside0 (Below w.heap.size w wc))
  case first =>
    have H := HC3.out
    clear HC3
    replace H := Option.bind_eq_some_iff.mp H
    obtain ⟨t632, A40, H⟩ := H
    replace H : (if t632 = true then (impl_TwoOf.j0 k a0 l1 (decide ((l1.length : Int) > 60))) else (impl_TwoOf.j0 k a0 l1 true)) = some (r1, r2) := H
    have A4 := Aside0.mk A40
    clear A40
    by_cases c5 : t632 = true
    · subst c5
      have H1 : (impl_TwoOf.j0 k a0 l1 (decide ((l1.length : Int) > 60))) = some (r1, r2) := by rw [if_pos rfl] at H; exact H
      clear H
      have H := H1
      clear H1
      have H' := Aside0.mk H
      clear H
      go_wp2_with (first | ((with_reducible refine gate_callee (f := 67) rfl ?_); refine goesL_ (some 10) rfl rfl Try.func67 (by kernel_rfl) rfl #[.int .i64 a0, .int .i64 0, .int .i64 12] rfl (by (try simp only [List.map_toArray, List.map_cons, List.map_nil]); first | done | rfl | (simp only [List.length_drop, List.length_take]; rfl)) ?_; (with_reducible refine (impl_in.calls a0 0 12 true _ A4.out).mono ?_); rintro e w' ⟨rfl, ⟨nd, rfl⟩⟩; refine ⟨_, rfl, ?_⟩))
      go_meet
      case rel => exact ⟨_, (decide ((l1.length : Int) > 60)), (by first | rfl | (simp; done) | (simp [*]; done)), H', ⟨by first | omega | exact Nat.le_refl _⟩, ⟨by repeat (first | (with_reducible first | exact HB.out | apply below_alloc | apply pw_below_drewN | apply below_drew1) | exact HB.out)⟩⟩
    · replace c5 := Bool.eq_false_iff.mpr c5
      subst c5
      have H1 : (impl_TwoOf.j0 k a0 l1 true) = some (r1, r2) := by rw [if_neg (show ¬ (false = true) by decide)] at H; exact H
      clear H
      have H := H1
      clear H1
      have H' := Aside0.mk H
      clear H
      go_wp2_with (first | ((with_reducible refine gate_callee (f := 67) rfl ?_); refine goesL_ (some 10) rfl rfl Try.func67 (by kernel_rfl) rfl #[.int .i64 a0, .int .i64 0, .int .i64 12] rfl (by (try simp only [List.map_toArray, List.map_cons, List.map_nil]); first | done | rfl | (simp only [List.length_drop, List.length_take]; rfl)) ?_; (with_reducible refine (impl_in.calls a0 0 12 false _ A4.out).mono ?_); rintro e w' ⟨rfl, ⟨nd, rfl⟩⟩; refine ⟨_, rfl, ?_⟩))
      go_meet
      case rel => exact ⟨_, (true), (by first | rfl | (simp; done) | (simp [*]; done)), H', ⟨by first | omega | exact Nat.le_refl _⟩, ⟨by repeat (first | (with_reducible first | exact HB.out | apply below_alloc | apply pw_below_drewN | apply below_drew1) | exact HB.out)⟩⟩
  case rest =>
    clear HC3
    try clear c1
    try clear p2
    try clear c3
    try clear c5
    obtain ⟨kq, x16_2, rfl, HA, HJ2, HB⟩ := hcut
    cases kq with
    | zero => exact absurd HA.out (by simp [impl_TwoOf.j0])
    | succ kj2 =>
      have H := HA.out
      clear HA
      simp only [impl_TwoOf.j0] at H
      by_cases c6 : x16_2 = true
      · subst c6
        have H1 : (some (([] : List (List Int)), false)) = some (r1, r2) := by rw [if_pos rfl] at H; exact H
        clear H
        have H := H1
        clear H1
        simp only [Option.some.injEq, Prod.mk.injEq] at H
        obtain ⟨rfl, rfl⟩ := H
        go_wp2
        go_ret2
        exact ⟨_, by first | rfl | (simp [errW_none, errW_some] <;> rfl) | (simp [*, errW_none, errW_some] <;> rfl), by first | exact Kd.S_nil _ _ _ _ _ | exact Kd.N_nil _ _ _ _ _ | exact Kd.V_nil _ _ _ _ _ | exact Kd.Q_nil _ _ _ _ _ | exact Kd.R_nil _ _ _ _ _, by repeat (first | (with_reducible first | exact HB.out | apply below_alloc | apply pw_below_drewN | apply below_drew1) | exact HB.out)⟩
      · replace c6 := Bool.eq_false_iff.mpr c6
        subst c6
        have H1 : (impl_TwoOf.l0 kj2 a0 ([] : List (List Int)) l1 (l1.length : Int) 0) = some (r1, r2) := by rw [if_neg (show ¬ (false = true) by decide)] at H; exact H
        clear H
        have H := H1
        clear H1
        have H' := Aside0.mk H
        clear H
        go_wp2
        go_loopg [6, 19] kj2 (fun kq v6 v19 w' => ∃ (x6_2 : List (List Int)) (x19_2 : Int), v19 = .int .i64 x19_2 ∧ Aside0 (impl_TwoOf.l0 kq a0 x6_2 l1 (l1.length : Int) x19_2 = some (r1, r2)) ∧ Aside0 (kq ≤ kj2) ∧ Aside0 (Kd.S (Kd.slice 3 (Kd.int .i64)) 29 w' w.heap.size (fun _ => True) v6 x6_2) ∧ Aside0 (Below w.heap.size w w'))
        case atStart => exact ⟨(([] : List (List Int))), (0), (by first | rfl | (simp; done) | (simp [*]; done)), H', ⟨Nat.le_refl _⟩, ⟨by first | exact Kd.S_nil _ _ _ _ _ | exact Kd.N_nil _ _ _ _ _ | exact Kd.V_nil _ _ _ _ _ | exact Kd.Q_nil _ _ _ _ _ | exact Kd.R_nil _ _ _ _ _⟩, ⟨by repeat (first | (with_reducible first | exact HB.out | apply below_alloc | apply pw_below_drewN | apply below_drew1) | exact HB.out)⟩⟩
        case round =>
          clear H'
          try clear c1
          try clear p2
          try clear c3
          try clear c5
          try clear c6
          try clear p2
          obtain ⟨x6_2, x19_2, rfl, HA, HK2, HO_6, HB⟩ := hrel
          cases gk with
          | zero => exact absurd HA.out (by simp [impl_TwoOf.l0])
          | succ k2 =>
            have H := HA.out
            clear HA
            simp only [impl_TwoOf.l0] at H
            by_cases c7 : x19_2 < (l1.length : Int)
            · rw [if_pos c7] at H
              have c7b0 : decide (x19_2 < (l1.length : Int)) = true := decide_eq_true c7
              clear c7
              by_cases c8 : 0 ≤ x19_2
              · rw [if_pos c8] at H
                have c8b0 : decide (0 ≤ x19_2) = true := decide_eq_true c8
                clear c8
                by_cases c9 : x19_2 < (l1.length : Int)
                · rw [if_pos c9] at H
                  have c9b0 : decide (x19_2 < (l1.length : Int)) = true := decide_eq_true c9
                  clear c9
                  by_cases c10 : ((rd_L1 l1 x19_2).length : Int) = 2
                  · rw [if_pos c10] at H
                    have c10b0 : (((rd_L1 l1 x19_2).length : Int) == 2) = true := beq_iff_eq.mpr c10
                    have c10b1 : (((rd_L1 l1 x19_2).length : Int) != 2) = false := bne_eq_false_iff_eq.mpr c10
                    clear c10
                    replace H := Option.bind_eq_some_iff.mp H
                    obtain ⟨t634, A110, H⟩ := H
                    replace H : (if t634 = true then (if 0 < ((rd_L1 l1 x19_2).length : Int) then (if 1 < ((rd_L1 l1 x19_2).length : Int) then (if x6_2.length < 5864062014805 then (impl_TwoOf.l0 k2 a0 (x6_2 ++ [(([wrap64 (-(rd (rd_L1 l1 x19_2) 0)), rd (rd_L1 l1 x19_2) 1] : List Int))]) l1 (l1.length : Int) (wrap64 (x19_2 + 1))) else (none)) else (none)) else (none)) else (some (([] : List (List Int)), false))) = some (r1, r2) := H
                    have A11 := Aside0.mk A110
                    clear A110
                    by_cases c12 : t634 = true
                    · subst c12
                      have H1 : (if 0 < ((rd_L1 l1 x19_2).length : Int) then (if 1 < ((rd_L1 l1 x19_2).length : Int) then (if x6_2.length < 5864062014805 then (impl_TwoOf.l0 k2 a0 (x6_2 ++ [(([wrap64 (-(rd (rd_L1 l1 x19_2) 0)), rd (rd_L1 l1 x19_2) 1] : List Int))]) l1 (l1.length : Int) (wrap64 (x19_2 + 1))) else (none)) else (none)) else (none)) = some (r1, r2) := by rw [if_pos rfl] at H; exact H
                      clear H
                      have H := H1
                      clear H1
                      by_cases c13 : 0 < ((rd_L1 l1 x19_2).length : Int)
                      · rw [if_pos c13] at H
                        have c13b0 : decide (0 < ((rd_L1 l1 x19_2).length : Int)) = true := decide_eq_true c13
                        have c13b1 : decide (0 < (rd_L1 l1 x19_2).length) = true := decide_eq_true (by omega)
                        clear c13
                        by_cases c14 : 1 < ((rd_L1 l1 x19_2).length : Int)
                        · rw [if_pos c14] at H
                          have c14b0 : decide (1 < ((rd_L1 l1 x19_2).length : Int)) = true := decide_eq_true c14
                          have c14b1 : decide (1 < (rd_L1 l1 x19_2).length) = true := decide_eq_true (by omega)
                          clear c14
                          obtain ⟨y637, hy637⟩ : ∃ y_ : List Int, y_ = (([wrap64 (-(rd (rd_L1 l1 x19_2) 0)), rd (rd_L1 l1 x19_2) 1] : List Int)) := ⟨_, rfl⟩
                          replace H : (if x6_2.length < 5864062014805 then (impl_TwoOf.l0 k2 a0 (x6_2 ++ [y637]) l1 (l1.length : Int) (wrap64 (x19_2 + 1))) else (none)) = some (r1, r2) := by first | (rw [hy637]; with_reducible exact H) | (have H2_ := (Option.bind_some _ _).symm.trans H; rw [hy637]; with_reducible exact H2_) | (have H2_ := (Option.bind_some _ _).symm.trans H; with_reducible exact H2_) | with_reducible exact H | (rw [hy637]; exact H) | exact H
                          have Ny637 := Aside0.mk hy637
                          clear hy637
                          by_cases c15 : x6_2.length < 5864062014805
                          · rw [if_pos c15] at H
                            have LMc15 := Aside0.mk c15
                            clear c15
                            obtain ⟨y640, hy640⟩ : ∃ y_ : List (List Int), y_ = (x6_2 ++ [y637]) := ⟨_, rfl⟩
                            replace H : (impl_TwoOf.l0 k2 a0 y640 l1 (l1.length : Int) (wrap64 (x19_2 + 1))) = some (r1, r2) := by first | (rw [hy640]; with_reducible exact H) | (have H2_ := (Option.bind_some _ _).symm.trans H; rw [hy640]; with_reducible exact H2_) | (have H2_ := (Option.bind_some _ _).symm.trans H; with_reducible exact H2_) | with_reducible exact H | (rw [hy640]; exact H) | exact H
                            have Ny640 := Aside0.mk hy640
                            clear hy640
                            have H' := Aside0.mk H
                            clear H
                            have p633 : 0 ≤ (x19_2 : Int) := of_decide_eq_true (by first | (with_reducible assumption) | assumption)
                            have q633 : x19_2 < (l1.length : Int) := of_decide_eq_true (by first | (with_reducible assumption) | assumption)
                            obtain ⟨ad633, A633_0, c633_0, e633, hx633_0, hl633_0, hi633_0⟩ := at_L1 HR1.out x19_2 p633 q633
                            cases e633
                            (try replace hx633_0 := (HB.out.cell (World.block_lt_of_cell? w _ hx633_0)).trans hx633_0)
                            have HR633_0 := Aside0.mk hi633_0
                            have HC633_0 := Aside0.mk hl633_0
                            clear hi633_0 hl633_0
                            replace p633 := eq_true p633
                            replace q633 := eq_true q633
                            try go_wp2_with (first | (go_at_call 68; (with_reducible refine (impl_isClause.calls _ _ (rd_L1 l1 x19_2) a0 true _ ?side1 ?side2 A11.out).mono ?_); (case side1 => repeat (first | exact (Kd.C_below HR633_0.out HB.out) | (with_reducible refine Kd.C_alloc ?_ _) | (with_reducible refine Kd.C_drewN ?_ _) | (with_reducible refine Kd.C_drew ?_))); (case side2 => exact HC633_0.out); rintro e w16 ⟨rfl, hb⟩; have n0_ := Aside0.mk (Kd.S_below (by (with_reducible repeat (first | apply Kd.S_alloc | apply Kd.S_drewN | apply Kd.S_drew)); exact HO_6.out) hb); have n1_ := Aside0.mk (below_step (by repeat (first | (with_reducible first | exact HB.out | apply below_alloc | apply pw_below_drewN | apply below_drew1) | exact HB.out)) hb); clear HO_6; clear HB; have HO_6 := n0_; have HB := n1_; clear n0_ n1_; (try clear hb); (try clear hb2); (try clear hk); (try clear hi)))
                            have n0_ := Aside0.mk (Kd.S_drew HO_6.out)
                            have n1_ := Aside0.mk (below_drew1 HB.out)
                            clear HO_6
                            clear HB
                            have HO_6 := n0_
                            have HB := n1_
                            clear n0_ n1_
                            have p635 : 0 ≤ (0 : Int) := (by omega)
                            have q635 : 0 < ((rd_L1 l1 x19_2).length : Int) := of_decide_eq_true (by first | (with_reducible assumption) | assumption)
                            obtain ⟨ad635, e635, hx635_0⟩ := Kd.at_int HR633_0.out 0 p635 q635
                            have hw635_0 := hx635_0
                            (try rw [show ((0 : Int)).toNat = 0 from rfl] at hw635_0)
                            (try rw [show 0 * 1 = 0 from rfl] at hw635_0)
                            (try rw [Addr.add_zero'] at hw635_0)
                            cases e635
                            have qi635 : (0 < (rd_L1 l1 x19_2).length) = True := eq_true (by omega)
                            (try rw [show ((0 : Int)).toNat = 0 from rfl] at hx635_0)
                            (try rw [Addr.add_zero'] at hx635_0)
                            (try replace hx635_0 := (HB.out.cell (World.block_lt_of_cell? w _ hx635_0)).trans hx635_0)
                            replace p635 := eq_true p635
                            replace q635 := eq_true q635
                            have p636 : 0 ≤ (1 : Int) := (by omega)
                            have q636 : 1 < ((rd_L1 l1 x19_2).length : Int) := of_decide_eq_true (by first | (with_reducible assumption) | assumption)
                            obtain ⟨ad636, e636, hx636_0⟩ := Kd.at_int HR633_0.out 1 p636 q636
                            have hw636_0 := hx636_0
                            (try rw [show ((1 : Int)).toNat = 1 from rfl] at hw636_0)
                            (try rw [show 1 * 1 = 1 from rfl] at hw636_0)
                            (try simp only [Nat.reduceMul, Nat.reduceEqDiff, Go.Addr.add, ↓reduceIte] at hw636_0)
                            obtain rfl : ad635 = ad636 := (by injection e636)
                            (try simp only [show (1 : Int).toNat = 1 from rfl, Nat.reduceMul, Nat.reduceEqDiff, Go.Addr.add, ↓reduceIte] at hx636_0)
                            have qi636 : (1 < (rd_L1 l1 x19_2).length) = True := eq_true (by omega)
                            (try rw [show ((1 : Int)).toNat = 1 from rfl] at hx636_0)
                            (try replace hx636_0 := (HB.out.cell (World.block_lt_of_cell? w _ hx636_0)).trans hx636_0)
                            replace p636 := eq_true p636
                            replace q636 := eq_true q636
                            refine start_ (n := 12) (S := fun w' => w'.cell? ad635 = some (.int .i64 (rd (rd_L1 l1 x19_2) 0)) ∧ w'.cell? ⟨ad635.block, ad635.off + 1, none⟩ = some (.int .i64 (rd (rd_L1 l1 x19_2) 1))) (ds := []) #[false, false, false, false, false, false, false, false, false, false, false, false] (by kernel_rfl) rfl rfl ⟨((HB.out.cell (World.block_lt_of_cell? w _ hw635_0)).trans hw635_0), ((HB.out.cell (World.block_lt_of_cell? w _ hw636_0)).trans hw636_0)⟩ (fun hHeld => ?_); refine with_tabW impl_TwoOf.tab9 impl_TwoOf.bits9 (fun HT_ HW_ => ?_)
                            generalize w16.drew = w17 at HO_6 HB hx635_0 hx636_0 hHeld ⊢
                            refine pure_ (i := 0) (N := some 32) (v := ?_) (a' := ?_) #[true, false, false, false, false, false, false, false, false, false, false, false] rfl rfl (any_of HT_.out (by kernel_rfl)) (fun _ _ _ h => h) (Or.inl ⟨by rfl, ?_⟩) ?_ ?_
                            rotate_left
                            · intro w'
                              go_simp
                              with_reducible rfl
                            rotate_left
                            · simp only [Act.put, List.setIfInBounds_toArray, List.set_cons_zero, List.set_cons_succ, i64_w, i32_w]
                              rfl
                            refine pure_ (i := 1) (N := some 33) (v := ?_) (a' := ?_) #[true, true, false, false, false, false, false, false, false, false, false, false] rfl rfl (any_of HT_.out (by kernel_rfl)) (fun _ _ _ h => h) (Or.inl ⟨by rfl, ?_⟩) ?_ ?_
                            rotate_left
                            · intro w'
                              go_simp
                              with_reducible rfl
                            rotate_left
                            · simp only [Act.put, List.setIfInBounds_toArray, List.set_cons_zero, List.set_cons_succ, i64_w, i32_w]
                              rfl
                            refine pure_ (i := 2) (N := some 34) (v := ?_) (a' := ?_) #[true, true, true, false, false, false, false, false, false, false, false, false] rfl rfl (any_of HT_.out (by kernel_rfl)) (fun _ _ _ h => h) (Or.inl ⟨by rfl, ?_⟩) ?_ ?_
                            rotate_left
                            · intro w'
                              go_simp
                              with_reducible rfl
                            rotate_left
                            · simp only [Act.put, List.setIfInBounds_toArray, List.set_cons_zero, List.set_cons_succ, i64_w, i32_w]
                              rfl
                            refine pure_ (i := 5) (N := some 37) (v := ?_) (a' := ?_) #[true, true, true, false, false, true, false, false, false, false, false, false] rfl rfl (any_of HT_.out (by kernel_rfl)) (fun _ _ _ h => h) (Or.inl ⟨by rfl, ?_⟩) ?_ ?_
                            rotate_left
                            · intro w'
                              go_simp
                              with_reducible rfl
                            rotate_left
                            · simp only [Act.put, List.setIfInBounds_toArray, List.set_cons_zero, List.set_cons_succ, i64_w, i32_w]
                              rfl
                            refine pure_ (i := 6) (N := some 38) (v := ?_) (a' := ?_) #[true, true, true, false, false, true, true, false, false, false, false, false] rfl rfl (any_of HT_.out (by kernel_rfl)) (fun _ _ _ h => h) (Or.inl ⟨by rfl, ?_⟩) ?_ ?_
                            rotate_left
                            · intro w'
                              go_simp
                              with_reducible rfl
                            rotate_left
                            · simp only [Act.put, List.setIfInBounds_toArray, List.set_cons_zero, List.set_cons_succ, i64_w, i32_w]
                              rfl
                            refine take_ (i := 3) (N := some 35) (v := ?_) (a' := ?_) #[true, true, true, true, false, true, true, false, false, false, false, false] rfl rfl (take_ofW HT_.out HW_.out (by kernel_rfl)) (fun _ _ _ h => h) (Or.inl ⟨by rfl, ?_⟩) hHeld ?_ ?_
                            rotate_left
                            · rintro w' ⟨s0, s1⟩
                              go_simp
                              with_reducible rfl
                            rotate_left
                            · simp only [Act.put, List.setIfInBounds_toArray, List.set_cons_zero, List.set_cons_succ, i64_w, i32_w]
                              rfl
                            refine pure_ (i := 4) (N := some 36) (v := ?_) (a' := ?_) #[true, true, true, true, true, true, true, false, false, false, false, false] rfl rfl (any_of HT_.out (by kernel_rfl)) (fun _ _ _ h => h) (Or.inl ⟨by rfl, ?_⟩) ?_ ?_
                            rotate_left
                            · intro w'
                              go_simp
                              with_reducible rfl
                            rotate_left
                            · simp only [Act.put, List.setIfInBounds_toArray, List.set_cons_zero, List.set_cons_succ, i64_w, i32_w]
                              rfl
                            refine take_ (i := 7) (N := some 39) (v := ?_) (a' := ?_) #[true, true, true, true, true, true, true, true, false, false, false, false] rfl rfl (take_ofW HT_.out HW_.out (by kernel_rfl)) (fun _ _ _ h => h) (Or.inl ⟨by rfl, ?_⟩) hHeld ?_ ?_
                            rotate_left
                            · rintro w' ⟨s0, s1⟩
                              go_simp
                              with_reducible rfl
                            rotate_left
                            · simp only [Act.put, List.setIfInBounds_toArray, List.set_cons_zero, List.set_cons_succ, i64_w, i32_w]
                              rfl
                            refine one_ (i := 8) (N := some 40) #[true, true, true, true, true, true, true, true, true, false, false, false] rfl rfl (one_of HT_.out (by kernel_rfl)) (by decide) (fun K hK => ?_)
                            refine Kd.R_lit_step (Kd.int .i64) _ 3 ?hg (N := 40) ?hd (xs := ([wrap64 (-(rd (rd_L1 l1 x19_2) 0)), rd (rd_L1 l1 x19_2) 1] : List Int)) (inner := [.int .i64 (wrap64 (-(rd (rd_L1 l1 x19_2) 0))), .int .i64 (rd (rd_L1 l1 x19_2) 1)]) (ok := fun _ => True) (okp := fun _ => True) ?hr ?hp (fun _ hk => hk) trivial (Below.refl _ _) (Nat.le_refl _) (by simp) ?_; (case hd => rfl); (case hg => rfl); (case hr => first | (go_simp; done) | (go_simp; rfl)); (case hp => exact (Reps.one (show Kd.M (Kd.int .i64) _ _ _ (wrap64 (-(rd (rd_L1 l1 x19_2) 0))) [.int .i64 (wrap64 (-(rd (rd_L1 l1 x19_2) 0)))] from rfl) (Reps.one (show Kd.M (Kd.int .i64) _ _ _ (rd (rd_L1 l1 x19_2) 1) [.int .i64 (rd (rd_L1 l1 x19_2) 1)] from rfl) (Reps.none _ _))))
                            intro v638 w18 ho19 hb hg_ hnew_
                            clear hg_ hnew_
                            (first | rw [← Ny637.out] at ho19 | (simp only [Int.reduceToNat] at ho19; rw [← Ny637.out] at ho19))
                            have n0_ := Aside0.mk (Kd.S_elder' (by (with_reducible repeat (first | apply Kd.S_alloc | apply Kd.S_drewN | apply Kd.S_drew)); exact HO_6.out) (Kd.R_base ho19) hb)
                            have n1_ := Aside0.mk (Kd.R_lower ho19 (below_size (by repeat (first | (with_reducible first | exact HB.out | apply below_alloc | apply pw_below_drewN | apply below_drew1) | exact HB.out))))
                            have n2_ := Aside0.mk (below_step (by repeat (first | (with_reducible first | exact HB.out | apply below_alloc | apply pw_below_drewN | apply below_drew1) | exact HB.out)) hb)
                            clear HO_6
                            clear HB
                            have HO_6 := n0_
                            have HO639 := n1_
                            have HB := n2_
                            clear n0_ n1_ n2_
                            clear hb ho19
                            obtain ⟨Ao21, co21, eo21⟩ := Kd.R_slice HO639.out
                            (first | subst eo21 | (injection eo21 with f1_ f2_ f3_; have f4_ := f1_.symm; have f5_ := f3_.symm; clear f1_ f2_ f3_; subst f4_; subst f5_))
                            refine hK.out _ _ ⟨((HB.out.cell (World.block_lt_of_cell? w _ hw635_0)).trans hw635_0), ((HB.out.cell (World.block_lt_of_cell? w _ hw636_0)).trans hw636_0)⟩ (fun hHeld => ?_)
                            clear hK K
                            refine norm_ (a' := ?_) ?_ ?_
                            rotate_left
                            · show Act.put _ (some 40) _ = _
                              simp only [Act.put, List.setIfInBounds_toArray, List.set_cons_zero, List.set_cons_succ, i64_w, i32_w]
                              rfl
                            refine one_ (i := 9) (N := some 41) #[true, true, true, true, true, true, true, true, true, true, false, false] rfl rfl (one_of HT_.out (by kernel_rfl)) (by decide) (fun K hK => ?_)
                            refine value_ (w1 := ?_) (v := ?_) (by rfl) rfl ?_ ?_
                            rotate_left 2
                            · go_simp
                              constructor
                              · rfl
                              · rfl
                            refine hK.out _ _ ⟨(World.cell?_alloc_lt _ _ _ (World.block_lt_of_cell? _ _ (((HB.out.cell (World.block_lt_of_cell? w _ hw635_0)).trans hw635_0)))).trans (((HB.out.cell (World.block_lt_of_cell? w _ hw635_0)).trans hw635_0)), (World.cell?_alloc_lt _ _ _ (World.block_lt_of_cell? _ _ (((HB.out.cell (World.block_lt_of_cell? w _ hw636_0)).trans hw636_0)))).trans (((HB.out.cell (World.block_lt_of_cell? w _ hw636_0)).trans hw636_0))⟩ (fun hHeld => ?_)
                            clear hK K
                            refine norm_ (a' := ?_) ?_ ?_
                            rotate_left
                            · show Act.put _ (some 41) _ = _
                              simp only [Act.put, List.setIfInBounds_toArray, List.set_cons_zero, List.set_cons_succ, i64_w, i32_w]
                              rfl
                            refine one_ (i := 10) (N := some 42) #[true, true, true, true, true, true, true, true, true, true, true, false] rfl rfl (one_of HT_.out (by kernel_rfl)) (by decide) (fun K hK => ?_)
                            refine Kd.S_append_step (Kd.slice 3 (Kd.int .i64)) (w0 := w) w.heap.size (by rfl) (.tmp 32) (.tmp 41) 22 29 (.slice none 0 0) 24 rfl Try.underlying22 info29 rfl (by decide) (by omega) u6 x6_2 y637 [.slice Ao21 y637.length co21] (fun _ => True) (fun k_ => some k_ = (.slice Ao21 y637.length co21 : Value).ownBlock) rfl rfl ?aP (fun k_ hk_ => ((Kd.R_mono (ok' := fun k_ => ((fun _ => True)) k_ ∧ some k_ ≠ (u6 : Value).ownBlock) (Kd.R_apart' (HO639.out) (Kd.S_typed HO_6.out) (by decide)) (fun k_ hk => ⟨trivial, hk.2⟩))).1 k_ hk_.symm) ?aF ?aO ?aB ?aS ?aL ?_
                            (case aP => exact Kd.M_row (Kd.R_mono (Kd.R_tight rfl (Kd.R_mono (ok' := fun k_ => ((fun _ => True)) k_ ∧ some k_ ≠ (u6 : Value).ownBlock) (Kd.R_apart' (HO639.out) (Kd.S_typed HO_6.out) (by decide)) (fun k_ hk => ⟨trivial, hk.2⟩))) (fun _ h_ => h_)))
                            (case aB => exact (by repeat (first | (with_reducible first | exact HB.out | apply below_alloc | apply pw_below_drewN | apply below_drew1) | exact HB.out)))
                            (case aF => exact (fun _ _ => trivial))
                            (case aO => exact (by (with_reducible repeat (first | apply Kd.S_alloc | apply Kd.S_drewN | apply Kd.S_drew)); exact Kd.S_mono HO_6.out (fun k_ hk => ⟨trivial, fun e_ => hk.2 e_⟩)))
                            (case aS => exact (below_size (by repeat (first | (with_reducible first | exact HB.out | apply below_alloc | apply pw_below_drewN | apply below_drew1) | exact HB.out))))
                            (case aL => have := LMc15.out; omega)
                            intro v641 w20 ho hb hg hat
                            rw [← Ny640.out] at ho
                            have n0_ := Aside0.mk (hb)
                            have n1_ := Aside0.mk (ho)
                            clear HB
                            clear HO_6
                            clear HO639
                            have HB := n0_
                            have HO642 := n1_
                            clear n0_ n1_
                            clear ho hb hg hat
                            refine hK.out _ _ ⟨((HB.out.cell (World.block_lt_of_cell? w _ hw635_0)).trans hw635_0), ((HB.out.cell (World.block_lt_of_cell? w _ hw636_0)).trans hw636_0)⟩ (fun hHeld => ?_)
                            clear hK K
                            refine norm_ (a' := ?_) ?_ ?_
                            rotate_left
                            · show Act.put _ (some 42) _ = _
                              simp only [Act.put, List.setIfInBounds_toArray, List.set_cons_zero, List.set_cons_succ, i64_w, i32_w]
                              rfl
                            refine pure_ (i := 11) (N := some 6) (v := ?_) (a' := ?_) #[true, true, true, true, true, true, true, true, true, true, true, true] rfl rfl (any_of HT_.out (by kernel_rfl)) (fun _ _ _ h => h) (Or.inl ⟨by rfl, ?_⟩) ?_ ?_
                            rotate_left
                            · intro w'
                              go_simp
                              with_reducible rfl
                            rotate_left
                            · simp only [Act.put, List.setIfInBounds_toArray, List.set_cons_zero, List.set_cons_succ, i64_w, i32_w]
                              rfl
                            refine done_ (done_of HT_.out (by kernel_rfl)) ?_
                            try go_wp2
                            go_roundg k2
                            case measure => have := HJ2.out; have := HK2.out; omega
                            case rel => exact ⟨(y640), (wrap64 (x19_2 + 1)), (by first | rfl | (simp; done) | (simp [*]; done)), H', ⟨by have := HJ2.out; have := HK2.out; omega⟩, ⟨by (with_reducible repeat (first | apply Kd.S_alloc | apply Kd.S_drewN | apply Kd.S_drew)); exact HO642.out⟩, ⟨by repeat (first | (with_reducible first | exact HB.out | apply below_alloc | apply pw_below_drewN | apply below_drew1) | exact HB.out)⟩⟩
                          · rw [if_neg c15] at H
                            exact absurd H (by simp)
                        · rw [if_neg c14] at H
                          exact absurd H (by simp)
                      · rw [if_neg c13] at H
                        exact absurd H (by simp)
                    · replace c12 := Bool.eq_false_iff.mpr c12
                      subst c12
                      have H1 : (some (([] : List (List Int)), false)) = some (r1, r2) := by rw [if_neg (show ¬ (false = true) by decide)] at H; exact H
                      clear H
                      have H := H1
                      clear H1
                      simp only [Option.some.injEq, Prod.mk.injEq] at H
                      obtain ⟨rfl, rfl⟩ := H
                      have p633 : 0 ≤ (x19_2 : Int) := of_decide_eq_true (by first | (with_reducible assumption) | assumption)
                      have q633 : x19_2 < (l1.length : Int) := of_decide_eq_true (by first | (with_reducible assumption) | assumption)
                      obtain ⟨ad633, A633_0, c633_0, e633, hx633_0, hl633_0, hi633_0⟩ := at_L1 HR1.out x19_2 p633 q633
                      cases e633
                      (try replace hx633_0 := (HB.out.cell (World.block_lt_of_cell? w _ hx633_0)).trans hx633_0)
                      have HR633_0 := Aside0.mk hi633_0
                      have HC633_0 := Aside0.mk hl633_0
                      clear hi633_0 hl633_0
                      replace p633 := eq_true p633
                      replace q633 := eq_true q633
                      go_wp2_with (first | (go_at_call 68; (with_reducible refine (impl_isClause.calls _ _ (rd_L1 l1 x19_2) a0 false _ ?side1 ?side2 A11.out).mono ?_); (case side1 => repeat (first | exact (Kd.C_below HR633_0.out HB.out) | (with_reducible refine Kd.C_alloc ?_ _) | (with_reducible refine Kd.C_drewN ?_ _) | (with_reducible refine Kd.C_drew ?_))); (case side2 => exact HC633_0.out); rintro e w22 ⟨rfl, hb⟩; have n0_ := Aside0.mk (Kd.S_below (by (with_reducible repeat (first | apply Kd.S_alloc | apply Kd.S_drewN | apply Kd.S_drew)); exact HO_6.out) hb); have n1_ := Aside0.mk (below_step (by repeat (first | (with_reducible first | exact HB.out | apply below_alloc | apply pw_below_drewN | apply below_drew1) | exact HB.out)) hb); clear HO_6; clear HB; have HO_6 := n0_; have HB := n1_; clear n0_ n1_; (try clear hb); (try clear hb2); (try clear hk); (try clear hi)))
                      go_ret2
                      exact ⟨_, by first | rfl | (simp [errW_none, errW_some] <;> rfl) | (simp [*, errW_none, errW_some] <;> rfl), by first | exact Kd.S_nil _ _ _ _ _ | exact Kd.N_nil _ _ _ _ _ | exact Kd.V_nil _ _ _ _ _ | exact Kd.Q_nil _ _ _ _ _ | exact Kd.R_nil _ _ _ _ _, by repeat (first | (with_reducible first | exact HB.out | apply below_alloc | apply pw_below_drewN | apply below_drew1) | exact HB.out)⟩
                  · rw [if_neg c10] at H
                    have c10b0 : (((rd_L1 l1 x19_2).length : Int) == 2) = false := beq_eq_false_iff_ne.mpr c10
                    have c10b1 : (((rd_L1 l1 x19_2).length : Int) != 2) = true := bne_iff_ne.mpr c10
                    simp only [Option.some.injEq, Prod.mk.injEq] at H
                    obtain ⟨rfl, rfl⟩ := H
                    have p633 : 0 ≤ (x19_2 : Int) := of_decide_eq_true (by first | (with_reducible assumption) | assumption)
                    have q633 : x19_2 < (l1.length : Int) := of_decide_eq_true (by first | (with_reducible assumption) | assumption)
                    obtain ⟨ad633, A633_0, c633_0, e633, hx633_0, hl633_0, hi633_0⟩ := at_L1 HR1.out x19_2 p633 q633
                    cases e633
                    (try replace hx633_0 := (HB.out.cell (World.block_lt_of_cell? w _ hx633_0)).trans hx633_0)
                    have HR633_0 := Aside0.mk hi633_0
                    have HC633_0 := Aside0.mk hl633_0
                    clear hi633_0 hl633_0
                    replace p633 := eq_true p633
                    replace q633 := eq_true q633
                    go_wp2
                    go_ret2
                    exact ⟨_, by first | rfl | (simp [errW_none, errW_some] <;> rfl) | (simp [*, errW_none, errW_some] <;> rfl), by first | exact Kd.S_nil _ _ _ _ _ | exact Kd.N_nil _ _ _ _ _ | exact Kd.V_nil _ _ _ _ _ | exact Kd.Q_nil _ _ _ _ _ | exact Kd.R_nil _ _ _ _ _, by repeat (first | (with_reducible first | exact HB.out | apply below_alloc | apply pw_below_drewN | apply below_drew1) | exact HB.out)⟩
                · rw [if_neg c9] at H
                  exact absurd H (by simp)
              · rw [if_neg c8] at H
                exact absurd H (by simp)
            · rw [if_neg c7] at H
              have c7b0 : decide (x19_2 < (l1.length : Int)) = false := decide_eq_false c7
              clear c7
              simp only [Option.some.injEq, Prod.mk.injEq] at H
              obtain ⟨rfl, rfl⟩ := H
              go_wp2
              go_ret2
              exact ⟨_, by first | rfl | (simp [errW_none, errW_some] <;> rfl) | (simp [*, errW_none, errW_some] <;> rfl), by (with_reducible repeat (first | apply Kd.S_alloc | apply Kd.S_drewN | apply Kd.S_drew)); exact HO_6.out, by repeat (first | (with_reducible first | exact HB.out | apply below_alloc | apply pw_below_drewN | apply below_drew1) | exact HB.out)⟩
end Go.Proofs.Ythjgcapfojhfjaa.P
