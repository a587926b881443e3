-- Written by wip/tools/pp.py for this claim.
import Derived.Test.YthjgcapfojhfjaaP0
import Derived.Test.YthjgcapfojhfjaaP1
import Derived.Test.YthjgcapfojhfjaaP2
import Derived.Test.YthjgcapfojhfjaaP3
import Derived.Test.YthjgcapfojhfjaaP4
import Derived.Test.YthjgcapfojhfjaaP5
import Derived.Test.YthjgcapfojhfjaaP6
namespace Go.Proofs.Ythjgcapfojhfjaa.P
open Go.RowKit Go.Proofs.YthjgcapfojhfjaaW.PrintWords Go.Proofs.YthjgcapfojhfjaaW.PrintLast Go.Proofs.YthjgcapfojhfjaaW.PrintMore
attribute [local go_sem] max2_int min2_int max_two min_two max_three min_three max_four min_four   -- for this text's walks alone
set_option linter.unusedVariables false
set_option linter.unusedSimpArgs false
mutual
def spec_LoopsOf.l0 : Nat → Int → List (List Int) → List Int → List (List Int) → Int → Option ((List (List Int)) × Bool)
  | 0, _, _, _, _, _ => none
  | k + 1, x0, x1, x6, x7, x8 => if x8 ≤ x0 then (if x8 = 0 then (spec_LoopsOf.j1 k x0 x1 x6 x7 x8 true) else ((spec_l1Has.f k x6 x8).bind fun t365 => (spec_LoopsOf.j1 k x0 x1 x6 x7 x8 t365))) else (some (x7, true))
def spec_LoopsOf.j1 : Nat → Int → List (List Int) → List Int → List (List Int) → Int → Bool → Option ((List (List Int)) × Bool)
  | 0, _, _, _, _, _, _ => none
  | k + 1, x0, x1, x6, x7, x8, x29 => if x29 = true then (spec_LoopsOf.l0 k x0 x1 x6 x7 (wrap64 (x8 + 1))) else ((spec_l15Leads.f k x1 x8).bind fun t366 => (spec_LoopsOf.l1 k x0 x1 x6 x7 x8 ([] : List Int) t366 (t366.length : Int) 0))
def spec_LoopsOf.l1 : Nat → Int → List (List Int) → List Int → List (List Int) → Int → List Int → List Int → Int → Int → Option ((List (List Int)) × Bool)
  | 0, _, _, _, _, _, _, _, _, _ => none
  | k + 1, x0, x1, x6, x7, x8, x9, x32, x33, x34 => if x34 < x33 then (if 0 ≤ x34 then (if x34 < (x32.length : Int) then ((spec_l15Leads.f k x1 (rd x32 x34)).bind fun t373 => ((spec_l1Has.f k t373 x8).bind fun t376 => (if t376 = true then (if x9.length < 17592186044416 then (if x6.length < 17592186044416 then (spec_LoopsOf.l1 k x0 x1 (x6 ++ [rd x32 x34]) x7 x8 (x9 ++ [rd x32 x34]) x32 x33 (wrap64 (x34 + 1))) else (none)) else (none)) else (spec_LoopsOf.l1 k x0 x1 x6 x7 x8 x9 x32 x33 (wrap64 (x34 + 1)))))) else (none)) else (none)) else (if x7.length < 5864062014805 then (spec_LoopsOf.l0 k x0 x1 x6 (x7 ++ [x9]) (wrap64 (x8 + 1))) else (none))
end
def spec_LoopsOf.f (k : Nat) (a0 : Int) (l1 : List (List Int)) : Option ((List (List Int)) × Bool) := (spec_IsTwo.f k a0 l1).bind fun t364 => (if t364 = true then (spec_LoopsOf.l0 k a0 l1 ([] : List Int) ([] : List (List Int)) (wrap64 (-a0))) else (some (([] : List (List Int)), false)))
set_option maxHeartbeats 8000000 in
set_option maxRecDepth 100000 in
theorem spec_LoopsOf.calls (k : Nat) (a0 : Int) (A1 : Option Addr) (c1 : Nat) (l1 : List (List Int)) (r1 : List (List Int)) (r2 : Bool) (w : World) (hr1 : Kd.C (Kd.slice 3 (Kd.int .i64)) w A1 l1.length l1) (hc1 : l1.length ≤ c1) (h : spec_LoopsOf.f k a0 l1 = some (r1, r2)) :
    Calls Try.prog 23 #[.int .i64 a0, .slice A1 l1.length c1] w fun e w' => ∃ v0_ : Value, e = .returned (.tuple #[v0_, .bool r2]) ∧ Kd.S (Kd.slice 3 (Kd.int .i64)) 29 w' w.heap.size (fun _ => True) v0_ r1 ∧ Below w.heap.size w w' := by
  have HR1 := Aside0.mk hr1
  have HC1 := Aside0.mk hc1
  clear hr1 hc1
  have HB := Aside0.mk (Below.refl w.heap.size w)
  have H : ((spec_IsTwo.f k a0 l1).bind fun t364 => (if t364 = true then (spec_LoopsOf.l0 k a0 l1 ([] : List Int) ([] : List (List Int)) (wrap64 (-a0))) else (some (([] : List (List Int)), false)))) = some (r1, r2) := h
  clear h
  replace H := Option.bind_eq_some_iff.mp H
  obtain ⟨t364, A30, H⟩ := H
  replace H : (if t364 = true then (spec_LoopsOf.l0 k a0 l1 ([] : List Int) ([] : List (List Int)) (wrap64 (-a0))) else (some (([] : List (List Int)), false))) = some (r1, r2) := H
  have A3 := Aside0.mk A30
  clear A30
  by_cases c4 : t364 = true
  · subst c4
    have H1 : (spec_LoopsOf.l0 k a0 l1 ([] : List Int) ([] : List (List Int)) (wrap64 (-a0))) = some (r1, r2) := by rw [if_pos rfl] at H; exact H
    clear H
    have H := H1
    clear H1
    have H' := Aside0.mk H
    clear H
    go_enter Try.func23, Try.ntmps23
    go_wp2_with (first | ((with_reducible refine gate_callee (f := 49) rfl ?_); refine goesL_ (some 14) rfl rfl Try.func49 (by kernel_rfl) rfl #[.int .i64 a0, .slice A1 l1.length c1] rfl (by (try simp only [List.map_toArray, List.map_cons, List.map_nil]); first | done | rfl | (simp only [List.length_drop, List.length_take]; rfl)) ?_; (with_reducible refine (spec_IsTwo.calls k a0 _ _ l1 true _ ?side1 ?side2 A3.out).mono ?_); (case side1 => repeat (first | exact HR1.out | (with_reducible refine Kd.C_alloc ?_ _) | (with_reducible refine Kd.C_drewN ?_ _) | (with_reducible refine Kd.C_drew ?_))); (case side2 => exact HC1.out); rintro e w' ⟨rfl, ⟨nd, rfl⟩⟩; refine ⟨_, rfl, ?_⟩))
    go_loopg [6, 7, 8] k (fun kq v6 v7 v8 w' => ∃ (x6_1 : List Int) (x7_1 : List (List Int)) (x8_1 : Int), v8 = .int .i64 x8_1 ∧ Aside0 (spec_LoopsOf.l0 kq a0 l1 x6_1 x7_1 x8_1 = some (r1, r2)) ∧ Aside0 (kq ≤ k) ∧ Aside0 (Kd.R (Kd.int .i64) 3 w' w.heap.size (fun _ => True) v6 x6_1) ∧ Aside0 (Kd.S (Kd.slice 3 (Kd.int .i64)) 29 w' w.heap.size (fun k_ => some k_ ≠ (v6 : Value).ownBlock) v7 x7_1) ∧ Aside0 (Below w.heap.size w w'))
    case atStart => exact ⟨(([] : List Int)), (([] : List (List Int))), (wrap64 (-a0)), (by first | rfl | (simp; done) | (simp [*]; done)), H', ⟨Nat.le_refl _⟩, ⟨by first | exact Kd.R_nil _ _ _ _ _ | exact Kd.N_nil _ _ _ _ _ | exact Kd.V_nil _ _ _ _ _ | exact Kd.Q_nil _ _ _ _ _ | exact Kd.S_nil _ _ _ _ _⟩, ⟨by first | exact Kd.S_nil _ _ _ _ _ | exact Kd.N_nil _ _ _ _ _ | exact Kd.V_nil _ _ _ _ _ | exact Kd.Q_nil _ _ _ _ _ | exact Kd.R_nil _ _ _ _ _⟩, ⟨by repeat (first | (with_reducible first | exact HB.out | apply below_alloc | apply pw_below_drewN | apply below_drew1) | exact HB.out)⟩⟩
    case round =>
      clear H'
      try clear c1
      try clear c2
      try clear p2
      try clear c4
      obtain ⟨x6_1, x7_1, x8_1, rfl, HA, HK1, HO_6, HO_7, HB⟩ := hrel
      cases gk with
      | zero => exact absurd HA.out (by simp [spec_LoopsOf.l0])
      | succ k1 =>
        have H := HA.out
        clear HA
        simp only [spec_LoopsOf.l0] at H
        by_cases c5 : x8_1 ≤ a0
        · rw [if_pos c5] at H
          have c5b0 : decide (x8_1 ≤ a0) = true := decide_eq_true c5
          clear c5
          have HC6 := Aside0.mk H
          clear H
          go_upto_region 8 with (fail)
          go_cut [29] (fun v29 wc => ∃ (kq : Nat) (x29_5 : Bool), v29 = .bool x29_5 ∧ Aside0 (spec_LoopsOf.j1 kq a0 l1 x6_1 x7_1 x8_1 x29_5 = some (r1, r2)) ∧ Aside0 (kq ≤ k1) ∧ Aside0 (Kd.R (Kd.int .i64) 3 wc w.heap.size (fun _ => True) u6 x6_1) ∧ Aside0 (Kd.S (Kd.slice 3 (Kd.int .i64)) 29 wc w.heap.size (fun k_ => some k_ ≠ (u6 : Value).ownBlock) u7 x7_1) ∧ Aside0 (Below w.heap.size w wc))
          case first =>
            have H := HC6.out
            clear HC6
            by_cases c7 : x8_1 = 0
            · rw [if_pos c7] at H
              have c7b0 : (x8_1 == 0) = true := beq_iff_eq.mpr c7
              have c7b1 : (x8_1 != 0) = false := bne_eq_false_iff_eq.mpr c7
              clear c7
              (first | rw [c7b0] | (simp only [i64_w, i32_w]; rw [c7b0]) | skip)
              have H' := Aside0.mk H
              clear H
              go_wp2
              go_meet
              case rel => exact ⟨_, (true), (by first | rfl | (simp; done) | (simp [*]; done)), H', ⟨by have := HK1.out; first | omega | exact Nat.le_refl _⟩, ⟨by (with_reducible repeat (first | apply Kd.R_alloc | apply Kd.R_drewN | apply Kd.R_drew)); exact HO_6.out⟩, ⟨by (with_reducible repeat (first | apply Kd.S_alloc | apply Kd.S_drewN | apply Kd.S_drew)); exact HO_7.out⟩, ⟨by repeat (first | (with_reducible first | exact HB.out | apply below_alloc | apply pw_below_drewN | apply below_drew1) | exact HB.out)⟩⟩
            · rw [if_neg c7] at H
              have c7b0 : (x8_1 == 0) = false := beq_eq_false_iff_ne.mpr c7
              have c7b1 : (x8_1 != 0) = true := bne_iff_ne.mpr c7
              (first | rw [c7b0] | (simp only [i64_w, i32_w]; rw [c7b0]) | skip)
              replace H := Option.bind_eq_some_iff.mp H
              obtain ⟨t365, A80, H⟩ := H
              replace H : (spec_LoopsOf.j1 k1 a0 l1 x6_1 x7_1 x8_1 t365) = some (r1, r2) := H
              have A8 := Aside0.mk A80
              clear A80
              have H' := Aside0.mk H
              clear H
              obtain ⟨Ao9, co9, eo9⟩ := Kd.R_slice HO_6.out
              subst eo9
              go_wp2_with (first | (go_at_call 57; (with_reducible refine (spec_l1Has.calls k1 _ _ x6_1 x8_1 t365 _ ?side1 ?side2 A8.out).mono ?_); (case side1 => repeat (first | exact (Kd.R_reads' HO_6.out).2.2 | (with_reducible refine Kd.C_alloc ?_ _) | (with_reducible refine Kd.C_drewN ?_ _) | (with_reducible refine Kd.C_drew ?_))); (case side2 => exact (Kd.R_reads' HO_6.out).2.1); rintro e w' ⟨rfl, ⟨nd, rfl⟩⟩))
              go_meet
              case rel => exact ⟨_, (t365), (by first | rfl | (simp; done) | (simp [*]; done)), H', ⟨by have := HK1.out; first | omega | exact Nat.le_refl _⟩, ⟨by (with_reducible repeat (first | apply Kd.R_alloc | apply Kd.R_drewN | apply Kd.R_drew)); exact HO_6.out⟩, ⟨by (with_reducible repeat (first | apply Kd.S_alloc | apply Kd.S_drewN | apply Kd.S_drew)); exact HO_7.out⟩, ⟨by repeat (first | (with_reducible first | exact HB.out | apply below_alloc | apply pw_below_drewN | apply below_drew1) | exact HB.out)⟩⟩
          case rest =>
            clear HC6
            try clear c1
            try clear c2
            try clear p2
            try clear c4
            try clear c5
            try clear c5b0
            try clear p6
            try clear c7
            try clear c7b0
            try clear c7b1
            try clear p2
            obtain ⟨kq, x29_5, rfl, HA, HJ5, HO_6, HO_7, HB⟩ := hcut
            cases kq with
            | zero => exact absurd HA.out (by simp [spec_LoopsOf.j1])
            | succ kj5 =>
              have H := HA.out
              clear HA
              simp only [spec_LoopsOf.j1] at H
              by_cases c10 : x29_5 = true
              · subst c10
                have H1 : (spec_LoopsOf.l0 kj5 a0 l1 x6_1 x7_1 (wrap64 (x8_1 + 1))) = some (r1, r2) := by rw [if_pos rfl] at H; exact H
                clear H
                have H := H1
                clear H1
                have H' := Aside0.mk H
                clear H
                go_wp2
                go_roundg kj5
                case measure => have := HK1.out; have := HJ5.out; omega
                case rel => exact ⟨(x6_1), (x7_1), (wrap64 (x8_1 + 1)), (by first | rfl | (simp; done) | (simp [*]; done)), H', ⟨by have := HK1.out; have := HJ5.out; omega⟩, ⟨by (with_reducible repeat (first | apply Kd.R_alloc | apply Kd.R_drewN | apply Kd.R_drew)); exact HO_6.out⟩, ⟨by (with_reducible repeat (first | apply Kd.S_alloc | apply Kd.S_drewN | apply Kd.S_drew)); exact HO_7.out⟩, ⟨by repeat (first | (with_reducible first | exact HB.out | apply below_alloc | apply pw_below_drewN | apply below_drew1) | exact HB.out)⟩⟩
              · replace c10 := Bool.eq_false_iff.mpr c10
                subst c10
                have H1 : ((spec_l15Leads.f kj5 l1 x8_1).bind fun t366 => (spec_LoopsOf.l1 kj5 a0 l1 x6_1 x7_1 x8_1 ([] : List Int) t366 (t366.length : Int) 0)) = some (r1, r2) := by rw [if_neg (show ¬ (false = true) by decide)] at H; exact H
                clear H
                have H := H1
                clear H1
                replace H := Option.bind_eq_some_iff.mp H
                obtain ⟨t366, A110, H⟩ := H
                replace H : (spec_LoopsOf.l1 kj5 a0 l1 x6_1 x7_1 x8_1 ([] : List Int) t366 (t366.length : Int) 0) = some (r1, r2) := H
                have A11 := Aside0.mk A110
                clear A110
                have H' := Aside0.mk H
                clear H
                go_wp2_with (first | ((with_reducible refine gate_callee (f := 54) rfl ?_); refine goesL_ (some 32) rfl rfl Try.func54 (by kernel_rfl) rfl #[.slice A1 l1.length c1, .int .i64 x8_1] rfl (by (try simp only [List.map_toArray, List.map_cons, List.map_nil]); first | done | rfl | (simp only [List.length_drop, List.length_take]; rfl)) ?_; (with_reducible refine (spec_l15Leads.calls kj5 _ _ l1 x8_1 t366 _ ?side1 ?side2 A11.out).mono ?_); (case side1 => repeat (first | exact (Kd.C_below HR1.out HB.out) | (with_reducible refine Kd.C_alloc ?_ _) | (with_reducible refine Kd.C_drewN ?_ _) | (with_reducible refine Kd.C_drew ?_))); (case side2 => exact HC1.out); rintro e w12 ⟨v367, rfl, ho0, hb⟩; refine ⟨_, rfl, ?_⟩; have n0_ := Aside0.mk (Kd.R_elder' (by (with_reducible repeat (first | apply Kd.R_alloc | apply Kd.R_drewN | apply Kd.R_drew)); exact HO_6.out) (Kd.R_base ho0) hb); have n1_ := Aside0.mk (Kd.S_elder' (by (with_reducible repeat (first | apply Kd.S_alloc | apply Kd.S_drewN | apply Kd.S_drew)); exact HO_7.out) (Kd.R_base ho0) hb); have n2_ := Aside0.mk (Kd.R_lower (Kd.R_new' ho0 (Kd.R_lt (by (with_reducible repeat (first | apply Kd.R_alloc | apply Kd.R_drewN | apply Kd.R_drew)); exact HO_6.out))) (below_size (by repeat (first | (with_reducible first | exact HB.out | apply below_alloc | apply pw_below_drewN | apply below_drew1) | exact HB.out)))); have n3_ := Aside0.mk (below_step (by repeat (first | (with_reducible first | exact HB.out | apply below_alloc | apply pw_below_drewN | apply below_drew1) | exact HB.out)) hb); clear HO_6; clear HO_7; clear HB; have HO_6 := n0_; have HO_7 := n1_; have HO368 := n2_; have HB := n3_; clear n0_ n1_ n2_ n3_; (try clear hb); (try clear hb2); (try clear hk); (try clear hi); (try clear ho0); obtain ⟨Ao13, co13, eo13⟩ := Kd.R_slice HO368.out; subst eo13))
                go_loopg [6, 9, 34] kj5 (fun kq v6 v9 v34 w' => ∃ (x6_3 : List Int) (x9_3 : List Int) (x34_3 : Int), v34 = .int .i64 x34_3 ∧ Aside0 (spec_LoopsOf.l1 kq a0 l1 x6_3 x7_1 x8_1 x9_3 t366 (t366.length : Int) x34_3 = some (r1, r2)) ∧ Aside0 (kq ≤ kj5) ∧ Aside0 (Kd.R (Kd.int .i64) 3 w' w.heap.size (fun k_ => some k_ ≠ (v9 : Value).ownBlock ∧ some k_ ≠ ((.slice Ao13 t366.length co13) : Value).ownBlock) v6 x6_3) ∧ Aside0 (Kd.S (Kd.slice 3 (Kd.int .i64)) 29 w' w.heap.size (fun k_ => some k_ ≠ (v6 : Value).ownBlock ∧ some k_ ≠ (v9 : Value).ownBlock ∧ some k_ ≠ ((.slice Ao13 t366.length co13) : Value).ownBlock) u7 x7_1) ∧ Aside0 (Kd.R (Kd.int .i64) 3 w' w.heap.size (fun k_ => some k_ ≠ (v6 : Value).ownBlock ∧ some k_ ≠ ((.slice Ao13 t366.length co13) : Value).ownBlock) v9 x9_3) ∧ Aside0 (Kd.R (Kd.int .i64) 3 w' w.heap.size (fun k_ => some k_ ≠ (v6 : Value).ownBlock ∧ some k_ ≠ (v9 : Value).ownBlock) (.slice Ao13 t366.length co13) t366) ∧ Aside0 (Below w.heap.size w w'))
                case atStart => exact ⟨(x6_1), (([] : List Int)), (0), (by first | rfl | (simp; done) | (simp [*]; done)), H', ⟨Nat.le_refl _⟩, ⟨by (with_reducible repeat (first | apply Kd.R_alloc | apply Kd.R_drewN | apply Kd.R_drew)); exact Kd.R_mono HO_6.out (fun _ hk => ⟨(by simp [Value.ownBlock]), hk.2⟩)⟩, ⟨by (with_reducible repeat (first | apply Kd.S_alloc | apply Kd.S_drewN | apply Kd.S_drew)); exact Kd.S_mono HO_7.out (fun _ hk => ⟨hk.1, ⟨(by simp [Value.ownBlock]), hk.2⟩⟩)⟩, ⟨by first | exact Kd.R_nil _ _ _ _ _ | exact Kd.N_nil _ _ _ _ _ | exact Kd.V_nil _ _ _ _ _ | exact Kd.Q_nil _ _ _ _ _ | exact Kd.S_nil _ _ _ _ _⟩, ⟨by (with_reducible repeat (first | apply Kd.R_alloc | apply Kd.R_drewN | apply Kd.R_drew)); exact Kd.R_mono HO368.out (fun _ hk => ⟨hk.2, (by simp [Value.ownBlock])⟩)⟩, ⟨by repeat (first | (with_reducible first | exact HB.out | apply below_alloc | apply pw_below_drewN | apply below_drew1) | exact HB.out)⟩⟩
                case round =>
                  clear H'
                  try clear c1
                  try clear c2
                  try clear p2
                  try clear c4
                  try clear c5
                  try clear c5b0
                  try clear p6
                  try clear c7
                  try clear c7b0
                  try clear c7b1
                  try clear c10
                  try clear p2
                  try clear p6
                  obtain ⟨x6_3, x9_3, x34_3, rfl, HA, HK3, HO_6, HO_7, HO_9, HO_32, HB⟩ := hrel
                  cases gk with
                  | zero => exact absurd HA.out (by simp [spec_LoopsOf.l1])
                  | succ k3 =>
                    have H := HA.out
                    clear HA
                    simp only [spec_LoopsOf.l1] at H
                    by_cases c14 : x34_3 < (t366.length : Int)
                    · rw [if_pos c14] at H
                      have c14b0 : decide (x34_3 < (t366.length : Int)) = true := decide_eq_true c14
                      clear c14
                      by_cases c15 : 0 ≤ x34_3
                      · rw [if_pos c15] at H
                        have c15b0 : decide (0 ≤ x34_3) = true := decide_eq_true c15
                        clear c15
                        by_cases c16 : x34_3 < (t366.length : Int)
                        · rw [if_pos c16] at H
                          have c16b0 : decide (x34_3 < (t366.length : Int)) = true := decide_eq_true c16
                          clear c16
                          replace H := Option.bind_eq_some_iff.mp H
                          obtain ⟨t373, A170, H⟩ := H
                          replace H : ((spec_l1Has.f k3 t373 x8_1).bind fun t376 => (if t376 = true then (if x9_3.length < 17592186044416 then (if x6_3.length < 17592186044416 then (spec_LoopsOf.l1 k3 a0 l1 (x6_3 ++ [rd t366 x34_3]) x7_1 x8_1 (x9_3 ++ [rd t366 x34_3]) t366 (t366.length : Int) (wrap64 (x34_3 + 1))) else (none)) else (none)) else (spec_LoopsOf.l1 k3 a0 l1 x6_3 x7_1 x8_1 x9_3 t366 (t366.length : Int) (wrap64 (x34_3 + 1))))) = some (r1, r2) := H
                          have A17 := Aside0.mk A170
                          clear A170
                          replace H := Option.bind_eq_some_iff.mp H
                          obtain ⟨t376, A180, H⟩ := H
                          replace H : (if t376 = true then (if x9_3.length < 17592186044416 then (if x6_3.length < 17592186044416 then (spec_LoopsOf.l1 k3 a0 l1 (x6_3 ++ [rd t366 x34_3]) x7_1 x8_1 (x9_3 ++ [rd t366 x34_3]) t366 (t366.length : Int) (wrap64 (x34_3 + 1))) else (none)) else (none)) else (spec_LoopsOf.l1 k3 a0 l1 x6_3 x7_1 x8_1 x9_3 t366 (t366.length : Int) (wrap64 (x34_3 + 1)))) = some (r1, r2) := H
                          have A18 := Aside0.mk A180
                          clear A180
                          by_cases c19 : t376 = true
                          · subst c19
                            have H1 : (if x9_3.length < 17592186044416 then (if x6_3.length < 17592186044416 then (spec_LoopsOf.l1 k3 a0 l1 (x6_3 ++ [rd t366 x34_3]) x7_1 x8_1 (x9_3 ++ [rd t366 x34_3]) t366 (t366.length : Int) (wrap64 (x34_3 + 1))) else (none)) else (none)) = some (r1, r2) := by rw [if_pos rfl] at H; exact H
                            clear H
                            have H := H1
                            clear H1
                            by_cases c20 : x9_3.length < 17592186044416
                            · rw [if_pos c20] at H
                              have LMc20 := Aside0.mk c20
                              clear c20
                              obtain ⟨y377, hy377⟩ : ∃ y_ : List Int, y_ = (x9_3 ++ [rd t366 x34_3]) := ⟨_, rfl⟩
                              replace H : (if x6_3.length < 17592186044416 then (spec_LoopsOf.l1 k3 a0 l1 (x6_3 ++ [rd t366 x34_3]) x7_1 x8_1 y377 t366 (t366.length : Int) (wrap64 (x34_3 + 1))) else (none)) = some (r1, r2) := by first | (rw [hy377]; with_reducible exact H) | (have H2_ := (Option.bind_some _ _).symm.trans H; rw [hy377]; with_reducible exact H2_) | (have H2_ := (Option.bind_some _ _).symm.trans H; with_reducible exact H2_) | with_reducible exact H | (rw [hy377]; exact H) | exact H
                              have Ny377 := Aside0.mk hy377
                              clear hy377
                              by_cases c21 : x6_3.length < 17592186044416
                              · rw [if_pos c21] at H
                                have LMc21 := Aside0.mk c21
                                clear c21
                                obtain ⟨y380, hy380⟩ : ∃ y_ : List Int, y_ = (x6_3 ++ [rd t366 x34_3]) := ⟨_, rfl⟩
                                replace H : (spec_LoopsOf.l1 k3 a0 l1 y380 x7_1 x8_1 y377 t366 (t366.length : Int) (wrap64 (x34_3 + 1))) = some (r1, r2) := by first | (rw [hy380]; with_reducible exact H) | (have H2_ := (Option.bind_some _ _).symm.trans H; rw [hy380]; with_reducible exact H2_) | (have H2_ := (Option.bind_some _ _).symm.trans H; with_reducible exact H2_) | with_reducible exact H | (rw [hy380]; exact H) | exact H
                                have Ny380 := Aside0.mk hy380
                                clear hy380
                                have H' := Aside0.mk H
                                clear H
                                have p372 : 0 ≤ (x34_3 : Int) := of_decide_eq_true (by first | (with_reducible assumption) | assumption)
                                have q372 : x34_3 < (t366.length : Int) := of_decide_eq_true (by first | (with_reducible assumption) | assumption)
                                obtain ⟨ad372, e372, hx372_0⟩ := Kd.at_int (Kd.R_reads' HO_32.out).2.2 x34_3 p372 q372
                                cases e372
                                replace p372 := eq_true p372
                                replace q372 := eq_true q372
                                go_wp2_with (first | ((with_reducible refine gate_callee (f := 54) rfl ?_); refine goesL_ (some 40) rfl rfl Try.func54 (by kernel_rfl) rfl #[.slice A1 l1.length c1, .int .i64 (rd t366 x34_3)] rfl (by (try simp only [List.map_toArray, List.map_cons, List.map_nil]); first | done | rfl | (simp only [List.length_drop, List.length_take]; rfl)) ?_; (with_reducible refine (spec_l15Leads.calls k3 _ _ l1 (rd t366 x34_3) t373 _ ?side1 ?side2 A17.out).mono ?_); (case side1 => repeat (first | exact (Kd.C_below HR1.out HB.out) | (with_reducible refine Kd.C_alloc ?_ _) | (with_reducible refine Kd.C_drewN ?_ _) | (with_reducible refine Kd.C_drew ?_))); (case side2 => exact HC1.out); rintro e w22 ⟨v374, rfl, ho0, hb⟩; refine ⟨_, rfl, ?_⟩; have n0_ := Aside0.mk (Kd.R_elder' (by (with_reducible repeat (first | apply Kd.R_alloc | apply Kd.R_drewN | apply Kd.R_drew)); exact HO_6.out) (Kd.R_base ho0) hb); have n1_ := Aside0.mk (Kd.S_elder' (by (with_reducible repeat (first | apply Kd.S_alloc | apply Kd.S_drewN | apply Kd.S_drew)); exact HO_7.out) (Kd.R_base ho0) hb); have n2_ := Aside0.mk (Kd.R_elder' (by (with_reducible repeat (first | apply Kd.R_alloc | apply Kd.R_drewN | apply Kd.R_drew)); exact HO_9.out) (Kd.R_base ho0) hb); have n3_ := Aside0.mk (Kd.R_elder' (by (with_reducible repeat (first | apply Kd.R_alloc | apply Kd.R_drewN | apply Kd.R_drew)); exact HO_32.out) (Kd.R_base ho0) hb); have n4_ := Aside0.mk (Kd.R_lower (Kd.R_new' (Kd.R_new' (Kd.R_new' ho0 (Kd.R_lt (by (with_reducible repeat (first | apply Kd.R_alloc | apply Kd.R_drewN | apply Kd.R_drew)); exact HO_6.out))) (Kd.R_lt (by (with_reducible repeat (first | apply Kd.R_alloc | apply Kd.R_drewN | apply Kd.R_drew)); exact HO_9.out))) (Kd.R_lt (by (with_reducible repeat (first | apply Kd.R_alloc | apply Kd.R_drewN | apply Kd.R_drew)); exact HO_32.out))) (below_size (by repeat (first | (with_reducible first | exact HB.out | apply below_alloc | apply pw_below_drewN | apply below_drew1) | exact HB.out)))); have n5_ := Aside0.mk (below_step (by repeat (first | (with_reducible first | exact HB.out | apply below_alloc | apply pw_below_drewN | apply below_drew1) | exact HB.out)) hb); clear HO_6; clear HO_7; clear HO_9; clear HO_32; clear HB; have HO_6 := n0_; have HO_7 := n1_; have HO_9 := n2_; have HO_32 := n3_; have HO375 := n4_; have HB := n5_; clear n0_ n1_ n2_ n3_ n4_ n5_; (try clear hb); (try clear hb2); (try clear hk); (try clear hi); (try clear ho0); obtain ⟨Ao23, co23, eo23⟩ := Kd.R_slice HO375.out; subst eo23) | ((with_reducible refine gate_callee (f := 57) rfl ?_); refine goesL_ (some 42) rfl rfl Try.func57 (by kernel_rfl) rfl #[.slice Ao23 t373.length co23, .int .i64 x8_1] rfl (by (try simp only [List.map_toArray, List.map_cons, List.map_nil]); first | done | rfl | (simp only [List.length_drop, List.length_take]; rfl)) ?_; (with_reducible refine (spec_l1Has.calls k3 _ _ t373 x8_1 true _ ?side1 ?side2 A18.out).mono ?_); (case side1 => repeat (first | exact (Kd.R_reads' HO375.out).2.2 | (with_reducible refine Kd.C_alloc ?_ _) | (with_reducible refine Kd.C_drewN ?_ _) | (with_reducible refine Kd.C_drew ?_))); (case side2 => exact (Kd.R_reads' HO375.out).2.1); rintro e w' ⟨rfl, ⟨nd, rfl⟩⟩; refine ⟨_, rfl, ?_⟩) | ((with_reducible refine gate_builtin (b := .append) (xs := #[.tmp 43, .tmp 45]) rfl ?_); at_builtin; refine Kd.R_append (Kd.int .i64) (w0 := w) w.heap.size rfl (.tmp 43) (.tmp 45) 29 3 (.int .i64 0) 8 rfl Try.underlying29 info3 rfl (by decide) (by omega) u9 x9_3 (rd t366 x34_3) [.int .i64 (rd t366 x34_3)] (fun k_ => some k_ ≠ (u6 : Value).ownBlock ∧ some k_ ≠ (.slice (some ad372) t366.length co13 : Value).ownBlock ∧ some k_ ≠ (.slice Ao23 t373.length co23 : Value).ownBlock) (fun _ => False) rfl rfl ?aP (fun _ hk => hk.elim) ?aF ?aO ?aB ?aS ?aL ?_; (case aP => exact rfl); (case aB => exact (by repeat (first | (with_reducible first | exact HB.out | apply below_alloc | apply pw_below_drewN | apply below_drew1) | exact HB.out))); (case aF => exact (fun k_ hk => ⟨Kd.fresh' (Kd.R_lt (by (with_reducible repeat (first | apply Kd.R_alloc | apply Kd.R_drewN | apply Kd.R_drew)); exact HO_6.out)) k_ hk, Kd.fresh' (Kd.R_lt (by (with_reducible repeat (first | apply Kd.R_alloc | apply Kd.R_drewN | apply Kd.R_drew)); exact HO_32.out)) k_ hk, Kd.fresh' (Kd.R_lt (by (with_reducible repeat (first | apply Kd.R_alloc | apply Kd.R_drewN | apply Kd.R_drew)); exact HO375.out)) k_ hk⟩)); (case aO => exact (by (with_reducible repeat (first | apply Kd.R_alloc | apply Kd.R_drewN | apply Kd.R_drew)); exact Kd.R_mono HO_9.out (fun _ hk => ⟨hk.1.1, ⟨hk.1.2, hk.2⟩⟩))); (case aS => exact (below_size (by repeat (first | (with_reducible first | exact HB.out | apply below_alloc | apply pw_below_drewN | apply below_drew1) | exact HB.out)))); (case aL => have := LMc20.out; omega); intro v378 w24 ho hb hg hat; rw [← Ny377.out] at ho; have n0_ := Aside0.mk (Kd.R_after (ok := (fun k_ => some k_ ≠ (.slice (some ad372) t366.length co13 : Value).ownBlock ∧ some k_ ≠ (.slice Ao23 t373.length co23 : Value).ownBlock)) (by (with_reducible repeat (first | apply Kd.R_alloc | apply Kd.R_drewN | apply Kd.R_drew)); exact Kd.R_mono HO_6.out (fun _ hk => ⟨⟨hk.1.2, hk.2⟩, hk.1.1⟩)) hg hat); have n1_ := Aside0.mk (Kd.S_after (ok := (fun k_ => some k_ ≠ (u6 : Value).ownBlock ∧ some k_ ≠ (.slice (some ad372) t366.length co13 : Value).ownBlock ∧ some k_ ≠ (.slice Ao23 t373.length co23 : Value).ownBlock)) (by (with_reducible repeat (first | apply Kd.S_alloc | apply Kd.S_drewN | apply Kd.S_drew)); exact Kd.S_mono HO_7.out (fun _ hk => ⟨⟨hk.1.1, ⟨hk.1.2.2, hk.2⟩⟩, hk.1.2.1⟩)) hg hat); have n2_ := Aside0.mk (Kd.R_after (ok := (fun k_ => some k_ ≠ (u6 : Value).ownBlock ∧ some k_ ≠ (.slice Ao23 t373.length co23 : Value).ownBlock)) (by (with_reducible repeat (first | apply Kd.R_alloc | apply Kd.R_drewN | apply Kd.R_drew)); exact Kd.R_mono HO_32.out (fun _ hk => ⟨⟨hk.1.1, hk.2⟩, hk.1.2⟩)) hg hat); have n3_ := Aside0.mk (Kd.R_after (ok := (fun k_ => some k_ ≠ (u6 : Value).ownBlock ∧ some k_ ≠ (.slice (some ad372) t366.length co13 : Value).ownBlock)) (by (with_reducible repeat (first | apply Kd.R_alloc | apply Kd.R_drewN | apply Kd.R_drew)); exact Kd.R_mono HO375.out (fun _ hk => ⟨⟨hk.1.1.2, hk.2⟩, hk.1.2⟩)) hg hat); have n4_ := Aside0.mk (hb); have n5_ := Aside0.mk (ho); clear HO_6; clear HO_7; clear HO_32; clear HO375; clear HB; clear HO_9; have HO_6 := n0_; have HO_7 := n1_; have HO_32 := n2_; have HO375 := n3_; have HB := n4_; have HO379 := n5_; clear n0_ n1_ n2_ n3_ n4_ n5_; clear ho hb hg hat) | ((with_reducible refine gate_builtin (b := .append) (xs := #[.tmp 47, .tmp 49]) rfl ?_); at_builtin; refine Kd.R_append (Kd.int .i64) (w0 := w) w.heap.size rfl (.tmp 47) (.tmp 49) 29 3 (.int .i64 0) 8 rfl Try.underlying29 info3 rfl (by decide) (by omega) u6 x6_3 (rd t366 x34_3) [.int .i64 (rd t366 x34_3)] (fun k_ => some k_ ≠ (.slice (some ad372) t366.length co13 : Value).ownBlock ∧ some k_ ≠ (.slice Ao23 t373.length co23 : Value).ownBlock ∧ some k_ ≠ (v378 : Value).ownBlock) (fun _ => False) rfl rfl ?aP (fun _ hk => hk.elim) ?aF ?aO ?aB ?aS ?aL ?_; (case aP => exact rfl); (case aB => exact (by repeat (first | (with_reducible first | exact HB.out | apply below_alloc | apply pw_below_drewN | apply below_drew1) | exact HB.out))); (case aF => exact (fun k_ hk => ⟨Kd.fresh' (Kd.R_lt (by (with_reducible repeat (first | apply Kd.R_alloc | apply Kd.R_drewN | apply Kd.R_drew)); exact HO_32.out)) k_ hk, Kd.fresh' (Kd.R_lt (by (with_reducible repeat (first | apply Kd.R_alloc | apply Kd.R_drewN | apply Kd.R_drew)); exact HO375.out)) k_ hk, Kd.fresh' (Kd.R_lt (by (with_reducible repeat (first | apply Kd.R_alloc | apply Kd.R_drewN | apply Kd.R_drew)); exact HO379.out)) k_ hk⟩)); (case aO => exact (by (with_reducible repeat (first | apply Kd.R_alloc | apply Kd.R_drewN | apply Kd.R_drew)); exact Kd.R_mono HO_6.out (fun _ hk => ⟨hk.1.1, ⟨hk.1.2, hk.2⟩⟩))); (case aS => exact (below_size (by repeat (first | (with_reducible first | exact HB.out | apply below_alloc | apply pw_below_drewN | apply below_drew1) | exact HB.out)))); (case aL => have := LMc21.out; omega); intro v381 w25 ho hb hg hat; rw [← Ny380.out] at ho; have n0_ := Aside0.mk (Kd.S_after (ok := (fun k_ => some k_ ≠ (.slice (some ad372) t366.length co13 : Value).ownBlock ∧ some k_ ≠ (.slice Ao23 t373.length co23 : Value).ownBlock ∧ some k_ ≠ (v378 : Value).ownBlock)) (by (with_reducible repeat (first | apply Kd.S_alloc | apply Kd.S_drewN | apply Kd.S_drew)); exact Kd.S_mono HO_7.out (fun _ hk => ⟨⟨hk.1.2.1, ⟨hk.1.2.2, hk.2⟩⟩, hk.1.1⟩)) hg hat); have n1_ := Aside0.mk (Kd.R_after (ok := (fun k_ => some k_ ≠ (.slice Ao23 t373.length co23 : Value).ownBlock ∧ some k_ ≠ (v378 : Value).ownBlock)) (by (with_reducible repeat (first | apply Kd.R_alloc | apply Kd.R_drewN | apply Kd.R_drew)); exact Kd.R_mono HO_32.out (fun _ hk => ⟨⟨hk.1.2, hk.2⟩, hk.1.1⟩)) hg hat); have n2_ := Aside0.mk (Kd.R_after (ok := (fun k_ => some k_ ≠ (.slice (some ad372) t366.length co13 : Value).ownBlock ∧ some k_ ≠ (v378 : Value).ownBlock)) (by (with_reducible repeat (first | apply Kd.R_alloc | apply Kd.R_drewN | apply Kd.R_drew)); exact Kd.R_mono HO375.out (fun _ hk => ⟨⟨hk.1.2, hk.2⟩, hk.1.1⟩)) hg hat); have n3_ := Aside0.mk (Kd.R_after (ok := (fun k_ => some k_ ≠ (.slice (some ad372) t366.length co13 : Value).ownBlock ∧ some k_ ≠ (.slice Ao23 t373.length co23 : Value).ownBlock)) (by (with_reducible repeat (first | apply Kd.R_alloc | apply Kd.R_drewN | apply Kd.R_drew)); exact Kd.R_mono HO379.out (fun _ hk => ⟨⟨hk.2.1, hk.2.2⟩, hk.1⟩)) hg hat); have n4_ := Aside0.mk (hb); have n5_ := Aside0.mk (ho); clear HO_7; clear HO_32; clear HO375; clear HO379; clear HB; clear HO_6; have HO_7 := n0_; have HO_32 := n1_; have HO375 := n2_; have HO379 := n3_; have HB := n4_; have HO382 := n5_; clear n0_ n1_ n2_ n3_ n4_ n5_; clear ho hb hg hat))
                                go_roundg k3
                                case measure => have := HK1.out; have := HJ5.out; have := HK3.out; omega
                                case rel => exact ⟨(y380), (y377), (wrap64 (x34_3 + 1)), (by first | rfl | (simp; done) | (simp [*]; done)), H', ⟨by have := HK1.out; have := HJ5.out; have := HK3.out; omega⟩, ⟨by (with_reducible repeat (first | apply Kd.R_alloc | apply Kd.R_drewN | apply Kd.R_drew)); exact Kd.R_mono HO382.out (fun _ hk => ⟨hk.2.2, hk.1⟩)⟩, ⟨by (with_reducible repeat (first | apply Kd.S_alloc | apply Kd.S_drewN | apply Kd.S_drew)); exact Kd.S_mono HO_7.out (fun _ hk => ⟨hk.2, ⟨hk.1.2.2, hk.1.1⟩⟩)⟩, ⟨by (with_reducible repeat (first | apply Kd.R_alloc | apply Kd.R_drewN | apply Kd.R_drew)); exact Kd.R_mono HO379.out (fun _ hk => ⟨hk.2, hk.1.1⟩)⟩, ⟨by (with_reducible repeat (first | apply Kd.R_alloc | apply Kd.R_drewN | apply Kd.R_drew)); exact Kd.R_mono HO_32.out (fun _ hk => ⟨hk.2, hk.1.2⟩)⟩, ⟨by repeat (first | (with_reducible first | exact HB.out | apply below_alloc | apply pw_below_drewN | apply below_drew1) | exact HB.out)⟩⟩
                              · rw [if_neg c21] at H
                                exact absurd H (by simp)
                            · rw [if_neg c20] at H
                              exact absurd H (by simp)
                          · replace c19 := Bool.eq_false_iff.mpr c19
                            subst c19
                            have H1 : (spec_LoopsOf.l1 k3 a0 l1 x6_3 x7_1 x8_1 x9_3 t366 (t366.length : Int) (wrap64 (x34_3 + 1))) = some (r1, r2) := by rw [if_neg (show ¬ (false = true) by decide)] at H; exact H
                            clear H
                            have H := H1
                            clear H1
                            have H' := Aside0.mk H
                            clear H
                            have p372 : 0 ≤ (x34_3 : Int) := of_decide_eq_true (by first | (with_reducible assumption) | assumption)
                            have q372 : x34_3 < (t366.length : Int) := of_decide_eq_true (by first | (with_reducible assumption) | assumption)
                            obtain ⟨ad372, e372, hx372_0⟩ := Kd.at_int (Kd.R_reads' HO_32.out).2.2 x34_3 p372 q372
                            cases e372
                            replace p372 := eq_true p372
                            replace q372 := eq_true q372
                            go_wp2_with (first | ((with_reducible refine gate_callee (f := 54) rfl ?_); refine goesL_ (some 40) rfl rfl Try.func54 (by kernel_rfl) rfl #[.slice A1 l1.length c1, .int .i64 (rd t366 x34_3)] rfl (by (try simp only [List.map_toArray, List.map_cons, List.map_nil]); first | done | rfl | (simp only [List.length_drop, List.length_take]; rfl)) ?_; (with_reducible refine (spec_l15Leads.calls k3 _ _ l1 (rd t366 x34_3) t373 _ ?side1 ?side2 A17.out).mono ?_); (case side1 => repeat (first | exact (Kd.C_below HR1.out HB.out) | (with_reducible refine Kd.C_alloc ?_ _) | (with_reducible refine Kd.C_drewN ?_ _) | (with_reducible refine Kd.C_drew ?_))); (case side2 => exact HC1.out); rintro e w26 ⟨v374, rfl, ho0, hb⟩; refine ⟨_, rfl, ?_⟩; have n0_ := Aside0.mk (Kd.R_elder' (by (with_reducible repeat (first | apply Kd.R_alloc | apply Kd.R_drewN | apply Kd.R_drew)); exact HO_6.out) (Kd.R_base ho0) hb); have n1_ := Aside0.mk (Kd.S_elder' (by (with_reducible repeat (first | apply Kd.S_alloc | apply Kd.S_drewN | apply Kd.S_drew)); exact HO_7.out) (Kd.R_base ho0) hb); have n2_ := Aside0.mk (Kd.R_elder' (by (with_reducible repeat (first | apply Kd.R_alloc | apply Kd.R_drewN | apply Kd.R_drew)); exact HO_9.out) (Kd.R_base ho0) hb); have n3_ := Aside0.mk (Kd.R_elder' (by (with_reducible repeat (first | apply Kd.R_alloc | apply Kd.R_drewN | apply Kd.R_drew)); exact HO_32.out) (Kd.R_base ho0) hb); have n4_ := Aside0.mk (Kd.R_lower (Kd.R_new' (Kd.R_new' (Kd.R_new' ho0 (Kd.R_lt (by (with_reducible repeat (first | apply Kd.R_alloc | apply Kd.R_drewN | apply Kd.R_drew)); exact HO_6.out))) (Kd.R_lt (by (with_reducible repeat (first | apply Kd.R_alloc | apply Kd.R_drewN | apply Kd.R_drew)); exact HO_9.out))) (Kd.R_lt (by (with_reducible repeat (first | apply Kd.R_alloc | apply Kd.R_drewN | apply Kd.R_drew)); exact HO_32.out))) (below_size (by repeat (first | (with_reducible first | exact HB.out | apply below_alloc | apply pw_below_drewN | apply below_drew1) | exact HB.out)))); have n5_ := Aside0.mk (below_step (by repeat (first | (with_reducible first | exact HB.out | apply below_alloc | apply pw_below_drewN | apply below_drew1) | exact HB.out)) hb); clear HO_6; clear HO_7; clear HO_9; clear HO_32; clear HB; have HO_6 := n0_; have HO_7 := n1_; have HO_9 := n2_; have HO_32 := n3_; have HO375 := n4_; have HB := n5_; clear n0_ n1_ n2_ n3_ n4_ n5_; (try clear hb); (try clear hb2); (try clear hk); (try clear hi); (try clear ho0); obtain ⟨Ao27, co27, eo27⟩ := Kd.R_slice HO375.out; subst eo27) | ((with_reducible refine gate_callee (f := 57) rfl ?_); refine goesL_ (some 42) rfl rfl Try.func57 (by kernel_rfl) rfl #[.slice Ao27 t373.length co27, .int .i64 x8_1] rfl (by (try simp only [List.map_toArray, List.map_cons, List.map_nil]); first | done | rfl | (simp only [List.length_drop, List.length_take]; rfl)) ?_; (with_reducible refine (spec_l1Has.calls k3 _ _ t373 x8_1 false _ ?side1 ?side2 A18.out).mono ?_); (case side1 => repeat (first | exact (Kd.R_reads' HO375.out).2.2 | (with_reducible refine Kd.C_alloc ?_ _) | (with_reducible refine Kd.C_drewN ?_ _) | (with_reducible refine Kd.C_drew ?_))); (case side2 => exact (Kd.R_reads' HO375.out).2.1); rintro e w' ⟨rfl, ⟨nd, rfl⟩⟩; refine ⟨_, rfl, ?_⟩))
                            go_roundg k3
                            case measure => have := HK1.out; have := HJ5.out; have := HK3.out; omega
                            case rel => exact ⟨(x6_3), (x9_3), (wrap64 (x34_3 + 1)), (by first | rfl | (simp; done) | (simp [*]; done)), H', ⟨by have := HK1.out; have := HJ5.out; have := HK3.out; omega⟩, ⟨by (with_reducible repeat (first | apply Kd.R_alloc | apply Kd.R_drewN | apply Kd.R_drew)); exact Kd.R_mono HO_6.out (fun _ hk => ⟨hk.1.1, hk.1.2⟩)⟩, ⟨by (with_reducible repeat (first | apply Kd.S_alloc | apply Kd.S_drewN | apply Kd.S_drew)); exact Kd.S_mono HO_7.out (fun _ hk => ⟨hk.1.1, ⟨hk.1.2.1, hk.1.2.2⟩⟩)⟩, ⟨by (with_reducible repeat (first | apply Kd.R_alloc | apply Kd.R_drewN | apply Kd.R_drew)); exact Kd.R_mono HO_9.out (fun _ hk => ⟨hk.1.1, hk.1.2⟩)⟩, ⟨by (with_reducible repeat (first | apply Kd.R_alloc | apply Kd.R_drewN | apply Kd.R_drew)); exact Kd.R_mono HO_32.out (fun _ hk => ⟨hk.1.1, hk.1.2⟩)⟩, ⟨by repeat (first | (with_reducible first | exact HB.out | apply below_alloc | apply pw_below_drewN | apply below_drew1) | exact HB.out)⟩⟩
                        · rw [if_neg c16] at H
                          exact absurd H (by simp)
                      · rw [if_neg c15] at H
                        exact absurd H (by simp)
                    · rw [if_neg c14] at H
                      have c14b0 : decide (x34_3 < (t366.length : Int)) = false := decide_eq_false c14
                      clear c14
                      by_cases c28 : x7_1.length < 5864062014805
                      · rw [if_pos c28] at H
                        have LMc28 := Aside0.mk c28
                        clear c28
                        obtain ⟨y369, hy369⟩ : ∃ y_ : List (List Int), y_ = (x7_1 ++ [x9_3]) := ⟨_, rfl⟩
                        replace H : (spec_LoopsOf.l0 k3 a0 l1 x6_3 y369 (wrap64 (x8_1 + 1))) = some (r1, r2) := by first | (rw [hy369]; with_reducible exact H) | (have H2_ := (Option.bind_some _ _).symm.trans H; rw [hy369]; with_reducible exact H2_) | (have H2_ := (Option.bind_some _ _).symm.trans H; with_reducible exact H2_) | with_reducible exact H | (rw [hy369]; exact H) | exact H
                        have Ny369 := Aside0.mk hy369
                        clear hy369
                        have H' := Aside0.mk H
                        clear H
                        obtain ⟨Ao30, co30, eo30⟩ := Kd.R_slice HO_9.out
                        subst eo30
                        go_wp2_with (first | ((with_reducible refine gate_builtin (b := .append) (xs := #[.tmp 52, .tmp 54]) rfl ?_); at_builtin; refine Kd.S_append (Kd.slice 3 (Kd.int .i64)) (w0 := w) w.heap.size rfl (.tmp 52) (.tmp 54) 22 29 (.slice none 0 0) 24 rfl Try.underlying22 info29 rfl (by decide) (by omega) u7 x7_1 x9_3 [.slice Ao30 x9_3.length co30] (fun k_ => some k_ ≠ (u6 : Value).ownBlock ∧ some k_ ≠ (.slice Ao13 t366.length co13 : Value).ownBlock) (fun k_ => some k_ = (.slice Ao30 x9_3.length co30 : Value).ownBlock) rfl rfl ?aP (fun k_ hk_ => ((Kd.R_mono (ok' := fun k_ => ((fun k_ => some k_ ≠ (u6 : Value).ownBlock ∧ some k_ ≠ (.slice Ao13 t366.length co13 : Value).ownBlock)) k_ ∧ some k_ ≠ (u7 : Value).ownBlock) (Kd.R_apart' (HO_9.out) (Kd.S_typed HO_7.out) (by decide)) (fun k_ hk => ⟨⟨hk.1.1, hk.1.2⟩, hk.2⟩))).1 k_ hk_.symm) ?aF ?aO ?aB ?aS ?aL ?_; (case aP => exact Kd.M_row (Kd.R_mono (Kd.R_tight rfl (Kd.R_mono (ok' := fun k_ => ((fun k_ => some k_ ≠ (u6 : Value).ownBlock ∧ some k_ ≠ (.slice Ao13 t366.length co13 : Value).ownBlock)) k_ ∧ some k_ ≠ (u7 : Value).ownBlock) (Kd.R_apart' (HO_9.out) (Kd.S_typed HO_7.out) (by decide)) (fun k_ hk => ⟨⟨hk.1.1, hk.1.2⟩, hk.2⟩))) (fun _ h_ => h_))); (case aB => exact (by repeat (first | (with_reducible first | exact HB.out | apply below_alloc | apply pw_below_drewN | apply below_drew1) | exact HB.out))); (case aF => exact (fun k_ hk => ⟨Kd.fresh' (Kd.R_lt (by (with_reducible repeat (first | apply Kd.R_alloc | apply Kd.R_drewN | apply Kd.R_drew)); exact HO_6.out)) k_ hk, Kd.fresh' (Kd.R_lt (by (with_reducible repeat (first | apply Kd.R_alloc | apply Kd.R_drewN | apply Kd.R_drew)); exact HO_32.out)) k_ hk⟩)); (case aO => exact (by (with_reducible repeat (first | apply Kd.S_alloc | apply Kd.S_drewN | apply Kd.S_drew)); exact Kd.S_mono HO_7.out (fun k_ hk => ⟨⟨hk.1, hk.2.2⟩, fun e_ => hk.2.1 e_⟩))); (case aS => exact (below_size (by repeat (first | (with_reducible first | exact HB.out | apply below_alloc | apply pw_below_drewN | apply below_drew1) | exact HB.out)))); (case aL => have := LMc28.out; omega); intro v370 w29 ho hb hg hat; rw [← Ny369.out] at ho; have n0_ := Aside0.mk (Kd.R_over' (by (with_reducible repeat (first | apply Kd.R_alloc | apply Kd.R_drewN | apply Kd.R_drew)); exact HO_6.out) (Kd.S_typed (by (with_reducible repeat (first | apply Kd.S_alloc | apply Kd.S_drewN | apply Kd.S_drew)); exact HO_7.out)) (by decide) hg); have n1_ := Aside0.mk (Kd.R_over' (by (with_reducible repeat (first | apply Kd.R_alloc | apply Kd.R_drewN | apply Kd.R_drew)); exact HO_32.out) (Kd.S_typed (by (with_reducible repeat (first | apply Kd.S_alloc | apply Kd.S_drewN | apply Kd.S_drew)); exact HO_7.out)) (by decide) hg); have n2_ := Aside0.mk (hb); have n3_ := Aside0.mk (ho); clear HO_6; clear HO_32; clear HB; clear HO_7; clear HO_9; have HO_6 := n0_; have HO_32 := n1_; have HB := n2_; have HO371 := n3_; clear n0_ n1_ n2_ n3_; clear ho hb hg hat))
                        go_roundg k3
                        case measure => have := HK1.out; have := HJ5.out; have := HK3.out; omega
                        case rel => exact ⟨(x6_3), (y369), (wrap64 (x8_1 + 1)), (by first | rfl | (simp; done) | (simp [*]; done)), H', ⟨by have := HK1.out; have := HJ5.out; have := HK3.out; omega⟩, ⟨by (with_reducible repeat (first | apply Kd.R_alloc | apply Kd.R_drewN | apply Kd.R_drew)); exact Kd.R_mono HO_6.out (fun _ hk => trivial)⟩, ⟨by (with_reducible repeat (first | apply Kd.S_alloc | apply Kd.S_drewN | apply Kd.S_drew)); exact Kd.S_mono HO371.out (fun _ hk => hk.1)⟩, ⟨by repeat (first | (with_reducible first | exact HB.out | apply below_alloc | apply pw_below_drewN | apply below_drew1) | exact HB.out)⟩⟩
                      · rw [if_neg c28] at H
                        exact absurd H (by simp)
        · rw [if_neg c5] at H
          have c5b0 : decide (x8_1 ≤ a0) = false := decide_eq_false c5
          clear c5
          simp only [Option.some.injEq, Prod.mk.injEq] at H
          obtain ⟨rfl, rfl⟩ := H
          go_wp2
          go_ret2
          exact ⟨_, by first | rfl | (simp [errW_none, errW_some] <;> rfl) | (simp [*, errW_none, errW_some] <;> rfl), by (with_reducible repeat (first | apply Kd.S_alloc | apply Kd.S_drewN | apply Kd.S_drew)); exact Kd.S_mono HO_7.out (fun _ hk => trivial), by repeat (first | (with_reducible first | exact HB.out | apply below_alloc | apply pw_below_drewN | apply below_drew1) | exact HB.out)⟩
  · replace c4 := Bool.eq_false_iff.mpr c4
    subst c4
    have H1 : (some (([] : List (List Int)), false)) = some (r1, r2) := by rw [if_neg (show ¬ (false = true) by decide)] at H; exact H
    clear H
    have H := H1
    clear H1
    simp only [Option.some.injEq, Prod.mk.injEq] at H
    obtain ⟨rfl, rfl⟩ := H
    go_enter Try.func23, Try.ntmps23
    go_wp2_with (first | ((with_reducible refine gate_callee (f := 49) rfl ?_); refine goesL_ (some 14) rfl rfl Try.func49 (by kernel_rfl) rfl #[.int .i64 a0, .slice A1 l1.length c1] rfl (by (try simp only [List.map_toArray, List.map_cons, List.map_nil]); first | done | rfl | (simp only [List.length_drop, List.length_take]; rfl)) ?_; (with_reducible refine (spec_IsTwo.calls k a0 _ _ l1 false _ ?side1 ?side2 A3.out).mono ?_); (case side1 => repeat (first | exact HR1.out | (with_reducible refine Kd.C_alloc ?_ _) | (with_reducible refine Kd.C_drewN ?_ _) | (with_reducible refine Kd.C_drew ?_))); (case side2 => exact HC1.out); rintro e w' ⟨rfl, ⟨nd, rfl⟩⟩; refine ⟨_, rfl, ?_⟩))
    go_ret2
    exact ⟨_, by first | rfl | (simp [errW_none, errW_some] <;> rfl) | (simp [*, errW_none, errW_some] <;> rfl), by first | exact Kd.S_nil _ _ _ _ _ | exact Kd.N_nil _ _ _ _ _ | exact Kd.V_nil _ _ _ _ _ | exact Kd.Q_nil _ _ _ _ _ | exact Kd.R_nil _ _ _ _ _, by repeat (first | (with_reducible first | exact HB.out | apply below_alloc | apply pw_below_drewN | apply below_drew1) | exact HB.out)⟩
def lfilt (k : Nat) (l : List (List Int)) (x : Int) : List Int → Option (List Int)
  | [] => some []
  | n :: t => (impl_leads.f k l n x).bind fun b => (lfilt k l x t).bind fun q => some (if b = true then n :: q else q)
theorem lfilt_is (k : Nat) (l : List (List Int)) (x : Int) : ∀ xs q, lfilt k l x xs = some q → (∀ n ∈ xs, impl_leads.f k l n x = some ((impl_leads.f k l n x).getD false)) ∧ q = xs.filter fun n => !(!(impl_leads.f k l n x).getD false)
  | [], q, h => by
    unfold lfilt at h
    exact ⟨fun n hn => (by cases hn), (Option.some.inj h).symm⟩
  | n :: t, q, h => by
    unfold lfilt at h
    obtain ⟨b, hb, h⟩ := Option.bind_eq_some_iff.mp h
    obtain ⟨q', hq, h⟩ := Option.bind_eq_some_iff.mp h
    obtain ⟨h1, h2⟩ := lfilt_is k l x t q' hq
    have h3 := Option.some.inj h
    constructor
    · intro m hm
      rcases List.mem_cons.1 hm with rfl | hm
      · rw [hb]; rfl
      · exact h1 m hm
    · rw [← h3, List.filter_cons, hb, ← h2]
      cases b <;> rfl
def impl_LoopsOf.l0 : Nat → Int → List (List Int) → List (List Int) → Int → Option (List (List Int) × Bool)
  | 0, _, _, _, _ => none
  | k + 1, vars, l, out, x => if x ≤ vars then (if x = 0 then impl_LoopsOf.l0 k vars l out (wrap64 (x + 1)) else (impl_leadsTo.f k l x).bind fun t => (lfilt k l x t).bind fun q => if 0 < q.length then (if rd q 0 = x then (if out.length < 5864062014805 then impl_LoopsOf.l0 k vars l (out ++ [q]) (wrap64 (x + 1)) else none) else impl_LoopsOf.l0 k vars l out (wrap64 (x + 1))) else none) else some (out, true)
def impl_LoopsOf.f (k : Nat) (a0 : Int) (l1 : List (List Int)) : Option (List (List Int) × Bool) := (impl_IsTwo.f a0 l1).bind fun t => if t = true then impl_LoopsOf.l0 k a0 l1 [] (wrap64 (-a0)) else some ([], false)
set_option maxHeartbeats 1000000 in
theorem loopsOf1 (k : Nat) (A : Option Addr) (c : Nat) (l : List (List Int)) (n x : Int) (b : Bool) (B0 Bx : Nat) (W : World) (hr : Kd.C (Kd.slice 3 (Kd.int .i64)) W A l.length l) (hc : l.length ≤ c) (h : impl_leads.f k l n x = some b)
    (h0 : W.heap[B0]? = some (.cells #[.slice A l.length c] 22 (0, 0))) (h1 : W.heap[Bx]? = some (.cells #[.int .i64 x] 3 (0, 0))) :
    Calls Try.prog 60 #[.int .i64 n, .pointer (some ⟨B0, 0, none⟩), .pointer (some ⟨Bx, 0, none⟩)] W fun e w' => e = .returned (.bool (!b)) ∧ Below W.heap.size W w' := by
  have HC := Aside0.mk (impl_leads.calls k A c l n x b W hr hc h)
  have hc0 : W.cell? ⟨B0, 0, none⟩ = some (.slice A l.length c) := blk_cell h0 0
  have hc1 : W.cell? ⟨Bx, 0, none⟩ = some (.int .i64 x) := blk_cell h1 0
  clear hr h h0 h1
  go_enter Try.func60, Try.ntmps60
  go_wp2_with fail
  refine HC.out.mono ?_
  rintro e w' ⟨rfl, hb⟩
  go_wp2
  go_ret
  exact ⟨rfl, hb⟩
set_option maxRecDepth 100000 in
set_option maxHeartbeats 4000000 in
theorem impl_LoopsOf.calls (k : Nat) (a0 : Int) (A1 : Option Addr) (c1 : Nat) (l1 : List (List Int)) (r1 : List (List Int)) (r2 : Bool) (w : World) (hr1 : Kd.C (Kd.slice 3 (Kd.int .i64)) w A1 l1.length l1) (hc1 : l1.length ≤ c1) (h : impl_LoopsOf.f k a0 l1 = some (r1, r2)) :
    Calls Try.prog 24 #[.int .i64 a0, .slice A1 l1.length c1] w fun e w' => ∃ v0_ : Value, e = .returned (.tuple #[v0_, .bool r2]) ∧ Kd.S (Kd.slice 3 (Kd.int .i64)) 29 w' w.heap.size (fun _ => True) v0_ r1 ∧ Below w.heap.size w w' := by
  unfold impl_LoopsOf.f at h
  obtain ⟨t, ht, h⟩ := Option.bind_eq_some_iff.mp h
  have HR1 := Aside0.mk hr1
  have HC1 := Aside0.mk hc1
  have HT := Aside0.mk (fun W (hb : Below w.heap.size w W) => impl_IsTwo.calls a0 A1 c1 l1 t W (Kd.C_below hr1 hb) hc1 ht)
  clear hr1 hc1 ht
  cases t with
  | false =>
    rw [if_neg (by simp)] at h
    obtain ⟨h1, h2⟩ := Prod.mk.inj (Option.some.inj h)
    have HE := Aside0.mk (And.intro h1 h2)
    clear h h1 h2
    go_enter Try.func24, Try.ntmps24
    go_wp2_with fail
    refine (HT.out _ (below_alloc (Below.refl _ _) _)).mono ?_
    rintro e w1 ⟨rfl, hb1⟩
    go_wp2_with fail
    go_ret2
    obtain ⟨rfl, rfl⟩ := HE.out
    exact ⟨_, rfl, Kd.S_nil _ _ _ _ _, below_step (below_alloc (Below.refl _ _) _) hb1⟩
  | true =>
    rw [if_pos rfl] at h
    have H := Aside0.mk h
    clear h
    have hbox : (w.alloc (.cells #[.slice A1 l1.length c1] 22)).cell? ⟨w.heap.size, 0, none⟩ = some (.slice A1 l1.length c1) := by simp
    go_enter Try.func24, Try.ntmps24
    go_wp2_with fail
    refine (HT.out _ (below_alloc (Below.refl _ _) _)).mono ?_
    rintro e w1 ⟨rfl, hb1⟩
    have HB1 := Aside0.mk hb1
    clear hb1 HT hbox
    go_wp2_with fail
    go_loopg [6, 7] k (fun kq s6 s7 wr => ∃ (x : Int) (out : List (List Int)) (Bx : Nat), s7 = .pointer (some ⟨Bx, 0, none⟩) ∧ w.heap.size < Bx ∧ kq ≤ k ∧ Aside0 (wr.heap[w.heap.size]? = some (.cells #[.slice A1 l1.length c1] 22 (0, 0))) ∧ Aside0 (wr.heap[Bx]? = some (.cells #[.int .i64 x] 3 (0, 0))) ∧ Aside0 (Kd.S (Kd.slice 3 (Kd.int .i64)) 29 wr w.heap.size (fun k_ => k_ ≠ w.heap.size ∧ k_ ≠ Bx) s6 out) ∧ Aside0 (Below w.heap.size w wr) ∧ Aside0 (impl_LoopsOf.l0 kq a0 l1 out x = some (r1, r2)))
    case atStart =>
      have hsz : w.heap.size < w1.heap.size := blk_lt (blk_below (blk_new w _) HB1.out)
      exact ⟨wrap64 (-a0), [], w1.heap.size, rfl, hsz, Nat.le_refl _, ⟨blk_alloc (blk_below (blk_new _ _) HB1.out) _⟩, ⟨blk_new _ _⟩, ⟨Kd.S_nil _ _ _ _ _⟩, ⟨below_alloc (below_step (below_alloc (Below.refl _ _) _) HB1.out) _⟩, H⟩
    case round =>
      clear H HB1
      obtain ⟨x, out, Bx, rfl, hBx, hkq, HX0, HX, HO, HB, HA⟩ := hrel
      cases gk with
      | zero => exact absurd HA.out (by simp [impl_LoopsOf.l0])
      | succ k1 =>
        have H := HA.out
        clear HA
        rw [impl_LoopsOf.l0] at H
        have hc0 : wr.cell? ⟨w.heap.size, 0, none⟩ = some (.slice A1 l1.length c1) := blk_cell HX0.out 0
        have hcx : wr.cell? ⟨Bx, 0, none⟩ = some (.int .i64 x) := blk_cell HX.out 0
        by_cases hx : x ≤ a0
        · rw [if_pos hx] at H
          by_cases hz : x = 0
          · rw [if_pos hz] at H
            have H' := Aside0.mk H
            clear H
            subst hz
            go_wp2_with fail
            go_roundg k1
            case measure => omega
            case rel =>
              have hsz := HB.out.size
              have hlt := blk_lt HX.out
              exact ⟨1, out, wr.heap.size, rfl, by omega, by omega, ⟨blk_alloc HX0.out _⟩, ⟨blk_new _ _⟩, ⟨Kd.S_alloc (Kd.S_mono (Kd.S_bound HO.out) (fun k_ hk => ⟨hk.1.1, by have := hk.2.2.1; omega⟩)) _⟩, ⟨below_alloc HB.out _⟩, ⟨by have h1_ := H'.out; rwa [show wrap64 (0 + 1) = 1 from by unfold wrap64; omega] at h1_⟩⟩
          · rw [if_neg hz] at H
            have hxb : (x == 0) = false := beq_eq_false_iff_ne.mpr hz
            obtain ⟨t, ht, H⟩ := Option.bind_eq_some_iff.mp H
            obtain ⟨q, hq, H⟩ := Option.bind_eq_some_iff.mp H
            have hxb2 : decide (x ≤ a0) = true := decide_eq_true hx
            have hq0 : 0 < q.length := by
              by_cases h0 : 0 < q.length
              · exact h0
              · rw [if_neg h0] at H; cases H
            rw [if_pos hq0] at H
            have HQ := Aside0.mk hq0
            have H' := Aside0.mk H
            obtain ⟨hq1, hq2⟩ := lfilt_is k1 l1 x t q hq
            have HL := Aside0.mk (impl_leadsTo.calls k1 A1 c1 l1 x t wr (Kd.C_below HR1.out HB.out) HC1.out ht)
            have HQ1 := Aside0.mk hq1
            have HQ2 := Aside0.mk hq2
            have eg : ∀ args w, (callFunc 60 args).run Try.prog w = .ok (.enter 60 args) w := enters_ Try.func60 (by kernel_rfl) (by kernel_rfl)
            have EG := Aside0.mk eg
            clear H ht hq hq1 hq2 hq0 hx hz eg
            go_wp2_with fail
            refine HL.out.mono ?_
            rintro e w2 ⟨vt, rfl, hvt, hb2⟩
            have hRt := Kd.R_lower (Kd.R_mono (Kd.R_bound hvt) (ok' := fun k_ => wr.heap.size ≤ k_) (fun k_ hk => hk.2.1)) HB.out.size
            obtain ⟨At, ct, rfl⟩ := Kd.R_slice hRt
            have HB2 := Aside0.mk (below_step HB.out hb2)
            have HY0 := Aside0.mk (blk_below HX0.out hb2)
            have HY := Aside0.mk (blk_below HX.out hb2)
            have l0_ := blk_lt HX0.out
            have lx_ := blk_lt HX.out
            have lw_ := hb2.size
            have HD := Aside0.mk (deleteFuncInt 60 #[.pointer (some ⟨w.heap.size, 0, none⟩), .pointer (some ⟨Bx, 0, none⟩)] (fun n => !(impl_leads.f k1 l1 n x).getD false) (fun k_ => wr.heap.size ≤ k_) At ct t w w2 HB2.out hRt EG.out
              (fun W n hn hbW hkW => loopsOf1 k1 A1 c1 l1 n x _ w.heap.size Bx W (Kd.C_below HR1.out hbW) HC1.out (HQ1.out n hn)
                ((hkW.2 _ (by omega) (by omega)).trans HY0.out) ((hkW.2 _ (by omega) (by omega)).trans HY.out)))
            have HO2 := Aside0.mk (Kd.S_bound (Kd.S_below (Kd.S_mono (ok' := fun k_ => (k_ ≠ w.heap.size ∧ k_ ≠ Bx) ∧ k_ < wr.heap.size) (Kd.S_bound HO.out) (fun k_ hk => ⟨hk.1, hk.2.2.1⟩)) hb2))
            rw [← HQ2.out] at HD
            have LW := Aside0.mk lw_
            clear hvt hRt hb2 HO l0_ lx_ lw_ HL
            go_wp2_with fail
            refine HD.out.mono ?_
            rintro e w3 ⟨vq, rfl, hR3, hb3, hk3⟩
            obtain ⟨gq, cq, rfl, hbq, hgq, _⟩ := Kd.R_form hR3 HQ.out
            have hqz : (0 : Int) < (q.length : Int) := by have := HQ.out; omega
            have hcq := (Kd.R_celln (enc := Value.int .i64) (h1 := fun _ => rfl) 0 hR3 0 (by omega) hqz).1
            have l0_ := blk_lt HX0.out
            have lx_ := blk_lt HX.out
            have lw_ := LW.out
            have hap : ∀ x, (⟨gq, 0, none⟩ : Addr).add x = ⟨gq, x, none⟩ := fun x => add_plain gq x
            have hc3 : w3.cell? ⟨Bx, 0, none⟩ = some (.int .i64 x) := blk_cell ((hk3.2 _ (by omega) (by omega)).trans HY.out) 0
            have HZ0 := Aside0.mk ((hk3.2 w.heap.size (by omega) (by omega)).trans HY0.out)
            have HZ := Aside0.mk ((hk3.2 Bx (by omega) (by omega)).trans HY.out)
            have HR3 := Aside0.mk hR3
            have HB3 := Aside0.mk hb3
            have HO3 := Aside0.mk (Kd.S_kept HO2.out hk3 (fun k_ hk hge => by have := hk.1.2; omega))
            have LGQ := Aside0.mk (hR3.1 gq rfl)
            have LZ := Aside0.mk (And.intro l0_ lx_)
            have LW3 := Aside0.mk hk3.1
            clear hR3 hb3 hk3 HO2 HD l0_ lx_ lw_ HY0 HY hc0 hcx
            rw [show rdOf 0 q 0 = rd q 0 from rfl, show (0 : Int).toNat = 0 from rfl] at hcq
            have hqz1 : decide ((0 : Int) < (q.length : Int)) = true := decide_eq_true hqz
            have hqz2 : decide (0 < q.length) = true := decide_eq_true HQ.out
            have hqz3 : (0 < q.length) = True := eq_true HQ.out
            have hqz4 : ((0 : Int) ≤ 0) = True := eq_true (by omega)
            replace hqz := eq_true hqz
            by_cases hy : rd q 0 = x
            · rw [if_pos hy] at H'
              rw [hy] at hcq
              have hlo : out.length < 5864062014805 := by
                by_cases h0 : out.length < 5864062014805
                · exact h0
                · have := H'.out; rw [if_neg h0] at this; cases this
              rw [if_pos hlo] at H'
              clear hy
              go_wp2_with fail
              go_quiet (fail)
              have HR4 := Aside0.mk (Kd.R_below HR3.out (pw_below_drewN (Below.refl _ _) nq))
              have HO4 := Aside0.mk (Kd.S_below HO3.out (pw_below_drewN (Below.refl _ _) nq))
              have HB4 := Aside0.mk (below_step HB3.out (pw_below_drewN (Below.refl _ _) nq))
              have HZ04 := Aside0.mk (blk_drewN HZ0.out nq)
              have HZ4 := Aside0.mk (blk_drewN HZ.out nq)
              clear HR3 HO3 HB3 HZ0 HZ hc3 hcq
              go_wp2_with (first | ((with_reducible refine gate_builtin (b := .append) (xs := #[.tmp 32, .tmp 34]) rfl ?_); at_builtin; refine Kd.S_append (Kd.slice 3 (Kd.int .i64)) (w0 := w) w.heap.size rfl (.tmp 32) (.tmp 34) 22 29 (.slice none 0 0) 24 rfl Try.underlying22 info29 rfl (by decide) (by omega) u6 out q [.slice (some ⟨gq, 0, none⟩) q.length cq] (fun k_ => k_ ≠ w.heap.size ∧ k_ ≠ Bx) (fun k_ => some k_ = (.slice (some ⟨gq, 0, none⟩) q.length cq : Value).ownBlock) rfl rfl ?aP ?aK ?aF ?aO ?aB ?aS ?aL ?_))
              case aP => exact Kd.M_row (Kd.R_tight rfl HR4.out)
              case aK =>
                intro k_ hk_
                have e_ : k_ = gq := Option.some.inj hk_
                subst e_
                have h1 := LGQ.out; have h2 := LZ.out
                refine ⟨⟨by omega, by omega⟩, fun e_ => ?_⟩
                have h3 := ((Kd.S_R HO4.out).1 k_ e_.symm).1.2
                omega
              case aF =>
                intro k_ hk_
                have hk2 : w3.heap.size ≤ k_ := hk_
                have h1 := LW.out; have h2 := LZ.out; have h3 := LW3.out
                exact ⟨by omega, by omega⟩
              case aO =>
                refine Kd.S_mono HO4.out (fun k_ hk_ => ⟨hk_.1.1, fun e_ => ?_⟩)
                have e2 : k_ = gq := Option.some.inj e_
                have h1 := LGQ.out; have h3 := hk_.1.2
                omega
              case aB => exact HB4.out
              case aS => exact HB4.out.size
              case aL => omega
              intro v5 w5 hS5 hB5 hg5 hat5
              have hne : ∀ k_, u6.ownBlock = some k_ → k_ ≠ w.heap.size ∧ k_ ≠ Bx := fun k_ e_ => ((Kd.S_R HO4.out).1 k_ e_).1.1
              have HW0 := Aside0.mk (blk_grown HZ04.out hg5 (fun e_ => (hne _ e_.symm).1 rfl))
              have HW := Aside0.mk (blk_grown HZ4.out hg5 (fun e_ => (hne _ e_.symm).2 rfl))
              have HS5 := Aside0.mk hS5
              have HB5 := Aside0.mk hB5
              have hc5 : w5.cell? ⟨Bx, 0, none⟩ = some (.int .i64 x) := blk_cell HW.out 0
              clear hS5 hB5 hg5 hat5 hne
              go_wp2_with fail
              go_roundg k1
              case measure => omega
              case rel =>
                have hlt := blk_lt HW.out
                exact ⟨wrap64 (x + 1), out ++ [q], w5.heap.size, rfl, by omega, by omega, ⟨blk_alloc HW0.out _⟩, ⟨blk_new _ _⟩, ⟨Kd.S_alloc (Kd.S_mono (Kd.S_bound HS5.out) (fun k_ hk => ⟨hk.1.1, by have := hk.2.2.1; omega⟩)) _⟩, ⟨below_alloc HB5.out _⟩, H'⟩
            · rw [if_neg hy] at H'
              have hyb : (rd q 0 == x) = false := beq_eq_false_iff_ne.mpr hy
              clear hy
              go_wp2_with fail
              go_quiet (fail)
              have HO4 := Aside0.mk (Kd.S_below HO3.out (pw_below_drewN (Below.refl _ _) nq))
              have HB4 := Aside0.mk (below_step HB3.out (pw_below_drewN (Below.refl _ _) nq))
              have HZ04 := Aside0.mk (blk_drewN HZ0.out nq)
              have HZ4 := Aside0.mk (blk_drewN HZ.out nq)
              have hc4 : (w3.drewN nq).cell? ⟨Bx, 0, none⟩ = some (.int .i64 x) := blk_cell HZ4.out 0
              clear HR3 HO3 HB3 HZ0 HZ hc3 hcq
              generalize hq_ : World.drewN w3 nq = w4 at hc4 HO4 HB4 HZ04 HZ4 ⊢
              clear hq_
              go_wp2_with fail
              go_roundg k1
              case measure => omega
              case rel =>
                have hlt := blk_lt HZ4.out
                exact ⟨wrap64 (x + 1), out, w4.heap.size, rfl, by omega, by omega, ⟨blk_alloc HZ04.out _⟩, ⟨blk_new _ _⟩, ⟨Kd.S_alloc (Kd.S_mono (Kd.S_bound HO4.out) (fun k_ hk => ⟨hk.1.1.1.1, by have := hk.2.2.1; omega⟩)) _⟩, ⟨below_alloc HB4.out _⟩, H'⟩
        · rw [if_neg hx] at H
          have hxb : decide (x ≤ a0) = false := decide_eq_false hx
          obtain ⟨h1, h2⟩ := Prod.mk.inj (Option.some.inj H)
          have HE := Aside0.mk (And.intro h1 h2)
          clear H h1 h2 hx
          go_wp2_with fail
          go_ret2
          obtain ⟨rfl, rfl⟩ := HE.out
          exact ⟨_, rfl, Kd.S_mono HO.out (fun _ _ => trivial), HB.out⟩
end Go.Proofs.Ythjgcapfojhfjaa.P
