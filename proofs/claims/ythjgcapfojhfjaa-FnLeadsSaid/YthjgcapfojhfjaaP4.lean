-- Written by wip/tools/pp.py for this claim.
import Derived.Test.YthjgcapfojhfjaaP0
import Derived.Test.YthjgcapfojhfjaaP3
namespace Go.Proofs.Ythjgcapfojhfjaa.P
open Go.RowKit Go.Proofs.YthjgcapfojhfjaaW.PrintWords Go.Proofs.YthjgcapfojhfjaaW.PrintLast Go.Proofs.YthjgcapfojhfjaaW.PrintMore
attribute [local go_sem] max2_int min2_int max_two min_two max_three min_three max_four min_four   -- for this text's walks alone
set_option linter.unusedVariables false
set_option linter.unusedSimpArgs false
def litB (n vars : Int) : Bool := if n = 0 then false else if -vars ≤ n then decide (n ≤ vars) else false
def clauseFrom (vars : Int) : List Int → List Int → Bool
  | _, [] => true
  | seen, n :: rest => if litB n vars then (if seen.any (fun k => decide (k.natAbs = n.natAbs)) then false else clauseFrom vars (seen ++ [n]) rest) else false
def clauseB (l : List Int) (vars : Int) : Bool := if clauseFrom vars [] l then decide (l.length ≤ 12) else false
def impl_isClause.f (l0 : List Int) (a1 : Int) : Option (Bool) := if 0 ≤ a1 ∧ a1 ≤ 12 then some (clauseB l0 a1) else none
theorem litB_f (n vars : Int) (h0 : 0 ≤ vars) (h1 : vars ≤ 12) : impl_isLiteral.f n vars = some (litB n vars) := by
  have hw : wrap64 (-vars) = -vars := by unfold wrap64; omega
  unfold impl_isLiteral.f litB impl_in.f
  rw [hw]
  by_cases h : n = 0
  · rw [if_pos h, if_pos h]
  · rw [if_neg h, if_neg h]
    by_cases h2 : n ≥ -vars
    · rw [if_pos h2, if_pos h2]; rfl
    · rw [if_neg h2, if_neg h2]; rfl
theorem litB_bd {n vars : Int} (h : litB n vars = true) (h1 : vars ≤ 12) : -12 ≤ n ∧ n ≤ 12 := by
  unfold litB at h
  split at h
  · cases h
  · split at h
    · have := of_decide_eq_true h; omega
    · cases h
theorem var_abs (n : Int) (h0 : -12 ≤ n) (h1 : n ≤ 12) : mx n (wrap64 (-n)) = (n.natAbs : Int) := by
  have hw : wrap64 (-n) = -n := by unfold wrap64; omega
  rw [hw]; unfold mx; split <;> omega
set_option maxHeartbeats 1000000 in
theorem isClause1 (k n : Int) (B : Nat) (W : World) (hk : -12 ≤ k ∧ k ≤ 12) (hn : -12 ≤ n ∧ n ≤ 12) (hcell : W.cell? ⟨B, 0, none⟩ = some (.int .i64 n)) :
    Calls Try.prog 89 #[.int .i64 k, .pointer (some ⟨B, 0, none⟩)] W fun e w' => e = .returned (.bool (decide (k.natAbs = n.natAbs))) ∧ Below W.heap.size W w' := by
  have h1 : ∀ w, Calls Try.prog 90 #[.int .i64 k] w fun e w' => e = .returned (.int .i64 (k.natAbs : Int)) ∧ ∃ n, w' = w.drewN n := fun w => (impl_variable.calls k _ w (by unfold impl_variable.f; rw [var_abs k hk.1 hk.2])).mono fun e w' ⟨he, hd⟩ => ⟨he, hd.out⟩
  have h2 : ∀ w, Calls Try.prog 90 #[.int .i64 n] w fun e w' => e = .returned (.int .i64 (n.natAbs : Int)) ∧ ∃ n, w' = w.drewN n := fun w => (impl_variable.calls n _ w (by unfold impl_variable.f; rw [var_abs n hn.1 hn.2])).mono fun e w' ⟨he, hd⟩ => ⟨he, hd.out⟩
  have H1 := Aside0.mk h1
  have H2 := Aside0.mk h2
  clear h1 h2 hk hn
  go_enter Try.func89, Try.ntmps89
  go_wp2
  go_quiet ((go_at_call 90; first | (with_reducible exact Calls.quiet_of (H1.out _)) | (with_reducible exact Calls.quiet_of (H2.out _))))
  go_wp2
  go_ret
  exact ⟨ret_bool (by rw [Bool.eq_iff_iff]; simp; omega), pw_below_drewN (Below.refl _ _) _⟩
theorem clauseFrom_step (vars : Int) (l0 : List Int) (kk : Nat) (h : kk < l0.length) : clauseFrom vars (l0.take kk) (l0.drop kk) = (if litB (rd l0 kk) vars then (if (l0.take kk).any (fun k => decide (k.natAbs = (rd l0 kk).natAbs)) then false else clauseFrom vars (l0.take (kk + 1)) (l0.drop (kk + 1))) else false) := by
  rw [drop_rd l0 kk h, take_rd l0 kk h]; rfl
theorem clauseFrom_false (vars : Int) (l0 : List Int) (h : clauseFrom vars [] l0 = false) : clauseB l0 vars = false := by unfold clauseB; rw [h]; rfl
/-- all that was seen is in range -/
def InR (l : List Int) : Prop := ∀ x ∈ l, -12 ≤ x ∧ x ≤ 12
set_option maxHeartbeats 2000000 in
theorem impl_isClause.calls (A0 : Option Addr) (c0 : Nat) (l0 : List Int) (a1 : Int) (r : Bool) (w : World) (hr0 : Kd.C (Kd.int .i64) w A0 l0.length l0) (hc0 : l0.length ≤ c0) (h : impl_isClause.f l0 a1 = some r) :
    Calls Try.prog 68 #[.slice A0 l0.length c0, .int .i64 a1] w fun e w' => e = .returned (.bool r) ∧ Below w.heap.size w w' := by
  have ha : 0 ≤ a1 ∧ a1 ≤ 12 := by
    unfold impl_isClause.f at h; split at h
    · assumption
    · cases h
  have hr : clauseB l0 a1 = r := by unfold impl_isClause.f at h; rw [if_pos ha] at h; exact Option.some.inj h
  clear h
  obtain ⟨ha0, ha1⟩ := ha
  have HR := Aside0.mk hr0
  have HRR := Aside0.mk hr
  have hlen : l0.length ≤ 9223372036854775807 := by have := hr0.2.1; simpa using this
  clear hr0 hr
  go_enter Try.func68, Try.ntmps68
  go_wp2
  go_loopg [5, 6, 9] l0.length (fun gg _ _ s9 wr => ∃ kk : Nat, kk ≤ l0.length ∧ l0.length - kk ≤ gg ∧ s9 = .int .i64 kk ∧ Aside0 (Below w.heap.size w wr) ∧ Aside0 (clauseFrom a1 [] l0 = clauseFrom a1 (l0.take kk) (l0.drop kk)) ∧ Aside0 (InR (l0.take kk)))
  case atStart => exact ⟨0, Nat.zero_le _, by omega, rfl, ⟨Below.refl _ w⟩, ⟨by simp⟩, ⟨by intro x hx; simp at hx⟩⟩
  case round =>
    obtain ⟨kk, hkk, hg, rfl, BW, A', AR⟩ := hrel
    by_cases hlt : kk < l0.length
    · have hltz : (kk : Int) < (l0.length : Int) := by omega
      obtain ⟨ad, e1, hcell⟩ := Kd.at_int (Kd.C_below HR.out BW.out) (kk : Int) (by omega) hltz
      cases e1
      rw [Int.toNat_natCast] at hcell
      have HS := Aside0.mk (clauseFrom_step a1 l0 kk hlt)
      have hrd := take_rd l0 kk hlt
      generalize rd l0 kk = y at hcell HS hrd
      have HT := Aside0.mk hrd
      clear hrd
      have hlit : ∀ W, Calls Try.prog 55 #[.int .i64 y, .int .i64 a1] W fun e w' => e = .returned (.bool (litB y a1)) ∧ Below W.heap.size W w' := fun W => (impl_isLiteral.calls y a1 _ W (litB_f y a1 ha0 ha1)).mono fun e w' ⟨he, hd⟩ => ⟨he, hd.below⟩
      have HL := Aside0.mk hlit
      clear hlit
      have HB' := Aside0.mk (fun h => litB_bd (n := y) (vars := a1) h ha1)
      cases hq : litB y a1 with
      | false =>
        rw [hq] at HL HS
        go_wp2_with fail
        refine (HL.out _).mono ?_
        rintro e w' ⟨rfl, hb'⟩
        go_wp2_with fail
        go_ret
        refine ⟨ret_bool ?_, below_step (below_alloc BW.out _) hb'⟩
        rw [← HRR.out, clauseFrom_false a1 l0 (by rw [A'.out, HS.out]; rfl)]
      | true =>
        rw [hq] at HL HS
        obtain ⟨hy0, hy1⟩ := HB'.out hq
        have eg : ∀ args w, (callFunc 89 args).run Try.prog w = .ok (.enter 89 args) w := enters_ Try.func89 (by kernel_rfl) (by kernel_rfl)
        have EG := Aside0.mk eg
        clear eg
        have hblk : (wr.alloc (.cells #[.int .i64 y] 3)).cell? ⟨wr.heap.size, 0, none⟩ = some (.int .i64 y) := by simp
        go_wp2_with fail
        refine (HL.out _).mono ?_
        rintro e w1 ⟨rfl, hb1⟩
        have hcon := containsFuncInt 89 #[.pointer (some ⟨wr.heap.size, 0, none⟩)] (fun k => decide (k.natAbs = y.natAbs)) (some ad) c0 (l0.take kk) w1
          (Kd.C_take (Kd.C_below HR.out (below_step (below_alloc BW.out _) hb1)) (by omega)) EG.out
          (fun W x hx hbW => isClause1 x y wr.heap.size W (AR.out x hx) ⟨hy0, hy1⟩ ((below_step hb1 hbW).cell (p := ⟨wr.heap.size, 0, none⟩) (by simp) |>.trans hblk))
        have HI := Aside0.mk (show InR (l0.take (kk + 1)) from by
          rw [HT.out]; intro x hx
          rcases List.mem_append.1 hx with h | h
          · exact AR.out x h
          · rw [List.mem_singleton.1 h]; exact ⟨hy0, hy1⟩)
        have hlk : (l0.take kk).length = kk := by rw [List.length_take]; omega
        rw [hlk] at hcon
        clear hlk
        have HC := Aside0.mk hcon
        clear hcon hblk EG
        cases hs : (l0.take kk).any (fun k => decide (k.natAbs = y.natAbs)) with
        | true =>
          rw [hs] at HC HS
          have HS' := Aside0.mk hs
          clear hs
          go_wp2_with fail
          refine HC.out.mono ?_
          rintro e w2 ⟨rfl, hb2⟩
          go_wp2_with fail
          go_ret
          refine ⟨ret_bool ?_, below_step (below_step (below_alloc BW.out _) hb1) hb2⟩
          rw [← HRR.out, clauseFrom_false a1 l0 (by rw [A'.out, HS.out]; rfl)]
        | false =>
          rw [hs] at HC HS
          have HS' := Aside0.mk hs
          clear hs
          go_wp2_with fail
          refine HC.out.mono ?_
          rintro e w2 ⟨rfl, hb2⟩
          go_wp2_with fail
          go_roundg (l0.length - (kk + 1))
          case measure => omega
          case rel =>
            exact ⟨kk + 1, by omega, by omega, by go_num, ⟨below_step (below_step (below_alloc BW.out _) hb1) hb2⟩, ⟨by rw [A'.out, HS.out]; rfl⟩, HI⟩
    · have hltz : ¬ (kk : Int) < (l0.length : Int) := by omega
      have : kk = l0.length := by omega
      have A2 := A'.out
      rw [this, List.drop_length, List.take_length] at A2
      have AA := Aside0.mk A2
      clear A2 A' this
      go_wp2
      go_ret
      refine ⟨ret_bool ?_, BW.out⟩
      rw [← HRR.out]; unfold clauseB; rw [AA.out]; unfold clauseFrom; simp; omega
def impl_areClauses.f (l0 : List (List Int)) (a1 : Int) : Option (Bool) := if 0 ≤ a1 ∧ a1 ≤ 12 then some (!(l0.any fun c => !clauseB c a1)) else none
set_option maxHeartbeats 1000000 in
theorem areClauses1 (B0 : Option Addr) (c0 : Nat) (x : List Int) (n : Int) (B : Nat) (W : World) (hn : 0 ≤ n ∧ n ≤ 12) (hr0 : Kd.C (Kd.int .i64) W B0 x.length x) (hc0 : x.length ≤ c0) (hcell : W.cell? ⟨B, 0, none⟩ = some (.int .i64 n)) :
    Calls Try.prog 102 #[.slice B0 x.length c0, .pointer (some ⟨B, 0, none⟩)] W fun e w' => e = .returned (.bool (!clauseB x n)) ∧ Below W.heap.size W w' := by
  have HC := Aside0.mk (fun W1 (hb : Below W.heap.size W W1) => impl_isClause.calls B0 c0 x n _ W1 (Kd.C_below hr0 hb) hc0 (by unfold impl_isClause.f; rw [if_pos hn]))
  clear hr0 hn
  go_enter Try.func102, Try.ntmps102
  go_wp2_with fail
  refine (HC.out _ (Below.refl _ _)).mono ?_
  rintro e w' ⟨rfl, hb⟩
  go_wp2
  go_ret
  exact ⟨rfl, hb⟩
set_option maxHeartbeats 1000000 in
theorem impl_areClauses.calls (A0 : Option Addr) (c0 : Nat) (l0 : List (List Int)) (a1 : Int) (r : Bool) (w : World) (hr0 : Kd.C (Kd.slice 3 (Kd.int .i64)) w A0 l0.length l0) (hc0 : l0.length ≤ c0) (h : impl_areClauses.f l0 a1 = some r) :
    Calls Try.prog 91 #[.slice A0 l0.length c0, .int .i64 a1] w fun e w' => e = .returned (.bool r) ∧ Below w.heap.size w w' := by
  have ha : 0 ≤ a1 ∧ a1 ≤ 12 := by
    unfold impl_areClauses.f at h; split at h
    · assumption
    · cases h
  have hr : (!(l0.any fun c => !clauseB c a1)) = r := by unfold impl_areClauses.f at h; rw [if_pos ha] at h; exact Option.some.inj h
  clear h
  have hblk : (w.alloc (.cells #[.int .i64 a1] 3)).cell? ⟨w.heap.size, 0, none⟩ = some (.int .i64 a1) := by simp
  have HC := Aside0.mk (containsFuncRow 102 #[.pointer (some ⟨w.heap.size, 0, none⟩)] (fun c => !clauseB c a1) A0 c0 l0 (w.alloc (.cells #[.int .i64 a1] 3))
    (Kd.C_alloc hr0 _) (enters_ Try.func102 (by kernel_rfl) (by kernel_rfl))
    (fun W x B c hx hbW hl hK => areClauses1 B c x a1 w.heap.size W ha hK hl (hbW.cell (p := ⟨w.heap.size, 0, none⟩) (by simp) |>.trans hblk)))
  have HRR := Aside0.mk hr
  clear hr0 hr ha hblk
  go_enter Try.func91, Try.ntmps91
  go_wp2_with fail
  refine HC.out.mono ?_
  rintro e w' ⟨rfl, hb⟩
  go_wp2
  go_ret
  exact ⟨ret_bool HRR.out, below_step (below_alloc (Below.refl _ _) _) hb⟩
def impl_GoodClauses.f (a0 : Int) (l1 : List (List Int)) : Option (Bool) := (impl_in.f a0 0 12).bind fun t221 => (if t221 = true then (if (l1.length : Int) ≤ 60 then ((impl_areClauses.f l1 a0).bind fun t222 => (some t222)) else (some false)) else (some false))
set_option maxHeartbeats 8000000 in
set_option maxRecDepth 100000 in
theorem impl_GoodClauses.calls (a0 : Int) (A1 : Option Addr) (c1 : Nat) (l1 : List (List Int)) (r : Bool) (w : World) (hr1 : Kd.C (Kd.slice 3 (Kd.int .i64)) w A1 l1.length l1) (hc1 : l1.length ≤ c1) (h : impl_GoodClauses.f a0 l1 = some r) :
    Calls Try.prog 70 #[.int .i64 a0, .slice A1 l1.length c1] w fun e w' => e = .returned (.bool r) ∧ Below w.heap.size w w' := by
  have HR1 := Aside0.mk hr1
  have HC1 := Aside0.mk hc1
  clear hr1 hc1
  have HB := Aside0.mk (Below.refl w.heap.size w)
  have H : ((impl_in.f a0 0 12).bind fun t221 => (if t221 = true then (if (l1.length : Int) ≤ 60 then ((impl_areClauses.f l1 a0).bind fun t222 => (some t222)) else (some false)) else (some false))) = some r := h
  clear h
  replace H := Option.bind_eq_some_iff.mp H
  obtain ⟨t221, A30, H⟩ := H
  replace H : (if t221 = true then (if (l1.length : Int) ≤ 60 then ((impl_areClauses.f l1 a0).bind fun t222 => (some t222)) else (some false)) else (some false)) = some r := H
  have A3 := Aside0.mk A30
  clear A30
  by_cases c4 : t221 = true
  · subst c4
    have H1 : (if (l1.length : Int) ≤ 60 then ((impl_areClauses.f l1 a0).bind fun t222 => (some t222)) else (some false)) = some r := by rw [if_pos rfl] at H; exact H
    clear H
    have H := H1
    clear H1
    by_cases c5 : (l1.length : Int) ≤ 60
    · rw [if_pos c5] at H
      have c5b0 : decide ((l1.length : Int) ≤ 60) = true := decide_eq_true c5
      have c5b1 : decide (l1.length ≤ 60) = true := decide_eq_true (by omega)
      clear c5
      replace H := Option.bind_eq_some_iff.mp H
      obtain ⟨t222, A60, H⟩ := H
      replace H : (some t222) = some r := H
      have A6 := Aside0.mk A60
      clear A60
      obtain rfl := Option.some.inj H
      go_enter Try.func70, Try.ntmps70
      go_wp2_with (first | ((with_reducible refine gate_callee (f := 67) rfl ?_); refine goesL_ (some 6) rfl rfl Try.func67 (by kernel_rfl) rfl #[.int .i64 a0, .int .i64 0, .int .i64 12] rfl (by (try simp only [List.map_toArray, List.map_cons, List.map_nil]); first | done | rfl | (simp only [List.length_drop, List.length_take]; rfl)) ?_; (with_reducible refine (impl_in.calls a0 0 12 true _ A3.out).mono ?_); rintro e w' ⟨rfl, ⟨nd, rfl⟩⟩; refine ⟨_, rfl, ?_⟩) | (go_at_call 91; (with_reducible refine (impl_areClauses.calls _ _ l1 a0 t222 _ ?side1 ?side2 A6.out).mono ?_); (case side1 => repeat (first | exact HR1.out | (with_reducible refine Kd.C_alloc ?_ _) | (with_reducible refine Kd.C_drewN ?_ _) | (with_reducible refine Kd.C_drew ?_))); (case side2 => exact HC1.out); rintro e w7 ⟨rfl, hb⟩; have n0_ := Aside0.mk (below_step (by repeat (first | (with_reducible first | exact HB.out | apply below_alloc | apply pw_below_drewN | apply below_drew1) | exact HB.out)) hb); clear HB; have HB := n0_; clear n0_; (try clear hb); (try clear hb2); (try clear hk); (try clear hi)))
      go_ret
      exact ⟨by first | rfl | (simp [errW_none, errW_some] <;> rfl) | (simp [*, errW_none, errW_some] <;> rfl), by repeat (first | (with_reducible first | exact HB.out | apply below_alloc | apply pw_below_drewN | apply below_drew1) | exact HB.out)⟩
    · rw [if_neg c5] at H
      have c5b0 : decide ((l1.length : Int) ≤ 60) = false := decide_eq_false c5
      have c5b1 : decide (l1.length ≤ 60) = false := decide_eq_false (by omega)
      clear c5
      obtain rfl := Option.some.inj H
      go_enter Try.func70, Try.ntmps70
      go_wp2_with (first | ((with_reducible refine gate_callee (f := 67) rfl ?_); refine goesL_ (some 6) rfl rfl Try.func67 (by kernel_rfl) rfl #[.int .i64 a0, .int .i64 0, .int .i64 12] rfl (by (try simp only [List.map_toArray, List.map_cons, List.map_nil]); first | done | rfl | (simp only [List.length_drop, List.length_take]; rfl)) ?_; (with_reducible refine (impl_in.calls a0 0 12 true _ A3.out).mono ?_); rintro e w' ⟨rfl, ⟨nd, rfl⟩⟩; refine ⟨_, rfl, ?_⟩))
      go_ret
      exact ⟨by first | rfl | (simp [errW_none, errW_some] <;> rfl) | (simp [*, errW_none, errW_some] <;> rfl), by repeat (first | (with_reducible first | exact HB.out | apply below_alloc | apply pw_below_drewN | apply below_drew1) | exact HB.out)⟩
  · replace c4 := Bool.eq_false_iff.mpr c4
    subst c4
    have H1 : (some false) = some r := by rw [if_neg (show ¬ (false = true) by decide)] at H; exact H
    clear H
    have H := H1
    clear H1
    obtain rfl := Option.some.inj H
    go_enter Try.func70, Try.ntmps70
    go_wp2_with (first | ((with_reducible refine gate_callee (f := 67) rfl ?_); refine goesL_ (some 6) rfl rfl Try.func67 (by kernel_rfl) rfl #[.int .i64 a0, .int .i64 0, .int .i64 12] rfl (by (try simp only [List.map_toArray, List.map_cons, List.map_nil]); first | done | rfl | (simp only [List.length_drop, List.length_take]; rfl)) ?_; (with_reducible refine (impl_in.calls a0 0 12 false _ A3.out).mono ?_); rintro e w' ⟨rfl, ⟨nd, rfl⟩⟩; refine ⟨_, rfl, ?_⟩))
    go_ret
    exact ⟨by first | rfl | (simp [errW_none, errW_some] <;> rfl) | (simp [*, errW_none, errW_some] <;> rfl), by repeat (first | (with_reducible first | exact HB.out | apply below_alloc | apply pw_below_drewN | apply below_drew1) | exact HB.out)⟩
def sz12 (c : List Int) : Bool := decide (1 ≤ c.length) && decide (c.length ≤ 2)
def isTwoB (l : List (List Int)) : Bool := !(l.any fun c => !sz12 c)
def impl_IsTwo.f (a0 : Int) (l1 : List (List Int)) : Option (Bool) := (impl_GoodClauses.f a0 l1).bind fun t => if t = true then some (isTwoB l1) else some false
set_option maxHeartbeats 1000000 in
theorem isTwo1 (B0 : Option Addr) (c0 : Nat) (x : List Int) (W : World) :
    Calls Try.prog 72 #[.slice B0 x.length c0] W fun e w' => e = .returned (.bool (!sz12 x)) ∧ Below W.heap.size W w' := by
  have hin : ∀ W, Calls Try.prog 67 #[.int .i64 (x.length : Int), .int .i64 1, .int .i64 2] W fun e w' => e = .returned (.bool (sz12 x)) ∧ Below W.heap.size W w' := fun W =>
    (impl_in.calls (x.length : Int) 1 2 (sz12 x) W (by
      unfold impl_in.f sz12
      by_cases h : (x.length : Int) ≥ 1
      · rw [if_pos h, show decide (1 ≤ x.length) = true from decide_eq_true (by omega)]; simp; omega
      · rw [if_neg h, show decide (1 ≤ x.length) = false from decide_eq_false (by omega)]; simp)).mono fun e w' ⟨he, hd⟩ => ⟨he, hd.below⟩
  have HI := Aside0.mk hin
  clear hin
  generalize sz12 x = b at HI ⊢
  go_enter Try.func72, Try.ntmps72
  go_wp2_with fail
  refine (HI.out _).mono ?_
  rintro e w' ⟨rfl, hb⟩
  go_wp2
  go_ret
  exact ⟨rfl, hb⟩
set_option maxHeartbeats 1000000 in
theorem impl_IsTwo.calls (a0 : Int) (A1 : Option Addr) (c1 : Nat) (l1 : List (List Int)) (r : Bool) (w : World) (hr1 : Kd.C (Kd.slice 3 (Kd.int .i64)) w A1 l1.length l1) (hc1 : l1.length ≤ c1) (h : impl_IsTwo.f a0 l1 = some r) :
    Calls Try.prog 41 #[.int .i64 a0, .slice A1 l1.length c1] w fun e w' => e = .returned (.bool r) ∧ Below w.heap.size w w' := by
  unfold impl_IsTwo.f at h
  obtain ⟨t, ht, h2⟩ := Option.bind_eq_some_iff.mp h
  clear h
  have HG := Aside0.mk (impl_GoodClauses.calls a0 A1 c1 l1 t w hr1 hc1 ht)
  have HC := Aside0.mk (fun W (hb : Below w.heap.size w W) => containsFuncRow 72 #[] (fun c => !sz12 c) A1 c1 l1 W (Kd.C_below hr1 hb)
    (enters_ Try.func72 (by kernel_rfl) (by kernel_rfl)) (fun W x B c _ _ _ _ => isTwo1 B c x W))
  clear hr1 ht
  cases t with
  | false =>
    have hrr : false = r := by simpa using h2
    have HRR := Aside0.mk hrr
    clear h2 hrr
    go_enter Try.func41, Try.ntmps41
    go_wp2_with fail
    refine HG.out.mono ?_
    rintro e w1 ⟨rfl, hb⟩
    go_wp2_with fail
    go_ret
    exact ⟨ret_bool HRR.out, hb⟩
  | true =>
    have hrr : isTwoB l1 = r := by simpa using h2
    have HRR := Aside0.mk hrr
    clear h2 hrr
    go_enter Try.func41, Try.ntmps41
    go_wp2_with fail
    refine HG.out.mono ?_
    rintro e w1 ⟨rfl, hb⟩
    go_wp2_with fail
    refine (HC.out w1 hb).mono ?_
    rintro e w2 ⟨rfl, hb2⟩
    go_wp2_with fail
    go_ret
    exact ⟨ret_bool HRR.out, below_step hb hb2⟩
def slices_Index_int_int.l0 : Nat → List Int → Int → Int → Int → Option (Int)
  | 0, _, _, _, _ => none
  | k + 1, x0, x1, x7, x8 => if x8 < x7 then (if 0 ≤ x8 then (if x8 < (x0.length : Int) then (if x1 = (rd x0 x8) then (some x8) else (slices_Index_int_int.l0 k x0 x1 x7 (wrap64 (x8 + 1)))) else (none)) else (none)) else (some (-1))
def slices_Index_int_int.f (k : Nat) (l0 : List Int) (a1 : Int) : Option (Int) := slices_Index_int_int.l0 k l0 a1 (l0.length : Int) 0
set_option maxHeartbeats 8000000 in
set_option maxRecDepth 100000 in
theorem slices_Index_int_int.calls (k : Nat) (A0 : Option Addr) (c0 : Nat) (l0 : List Int) (a1 : Int) (r : Int) (w : World) (hr0 : Kd.C (Kd.int .i64) w A0 l0.length l0) (hc0 : l0.length ≤ c0) (h : slices_Index_int_int.f k l0 a1 = some r) :
    Calls Try.prog 82 #[.slice A0 l0.length c0, .int .i64 a1] w fun e w' => e = .returned (.int .i64 r) ∧ Drawn0 w w' := by
  have HR0 := Aside0.mk hr0
  have HC0 := Aside0.mk hc0
  clear hr0 hc0
  have H : (slices_Index_int_int.l0 k l0 a1 (l0.length : Int) 0) = some r := h
  clear h
  have H' := Aside0.mk H
  clear H
  go_enter Try.func82, Try.ntmps82
  go_wp2
  go_loopg [8] k (fun kq v8 w' => ∃ (x8_1 : Int), v8 = .int .i64 x8_1 ∧ Aside0 (slices_Index_int_int.l0 kq l0 a1 (l0.length : Int) x8_1 = some r) ∧ Aside0 (kq ≤ k) ∧ Drawn0 w w')
  case atStart => exact ⟨(0), (by first | rfl | (simp; done) | (simp [*]; done)), H', ⟨Nat.le_refl _⟩, by repeat (first | exact Drawn0.refl _ | apply Drawn0.step)⟩
  case round =>
    clear H'
    try clear p2
    obtain ⟨x8_1, rfl, HA, HK1, ⟨m1, rfl⟩⟩ := hrel
    cases gk with
    | zero => exact absurd HA.out (by simp [slices_Index_int_int.l0])
    | succ k1 =>
      have H := HA.out
      clear HA
      simp only [slices_Index_int_int.l0] at H
      by_cases c3 : x8_1 < (l0.length : Int)
      · rw [if_pos c3] at H
        have c3b0 : decide (x8_1 < (l0.length : Int)) = true := decide_eq_true c3
        clear c3
        by_cases c4 : 0 ≤ x8_1
        · rw [if_pos c4] at H
          have c4b0 : decide (0 ≤ x8_1) = true := decide_eq_true c4
          clear c4
          by_cases c5 : x8_1 < (l0.length : Int)
          · rw [if_pos c5] at H
            have c5b0 : decide (x8_1 < (l0.length : Int)) = true := decide_eq_true c5
            clear c5
            by_cases c6 : a1 = (rd l0 x8_1)
            · rw [if_pos c6] at H
              have c6b0 : (a1 == (rd l0 x8_1)) = true := beq_iff_eq.mpr c6
              have c6b1 : (a1 != (rd l0 x8_1)) = false := bne_eq_false_iff_eq.mpr c6
              clear c6
              obtain rfl := Option.some.inj H
              have p223 : 0 ≤ (x8_1 : Int) := of_decide_eq_true (by first | (with_reducible assumption) | assumption)
              have q223 : x8_1 < (l0.length : Int) := of_decide_eq_true (by first | (with_reducible assumption) | assumption)
              obtain ⟨ad223, e223, hx223_0⟩ := Kd.at_int HR0.out x8_1 p223 q223
              cases e223
              replace p223 := eq_true p223
              replace q223 := eq_true q223
              go_wp2
              go_ret
              exact ⟨by first | rfl | (simp; done) | (simp [*]; done), by repeat (first | exact Drawn0.refl _ | apply Drawn0.step)⟩
            · rw [if_neg c6] at H
              have c6b0 : (a1 == (rd l0 x8_1)) = false := beq_eq_false_iff_ne.mpr c6
              have c6b1 : (a1 != (rd l0 x8_1)) = true := bne_iff_ne.mpr c6
              have H' := Aside0.mk H
              clear H
              have p223 : 0 ≤ (x8_1 : Int) := of_decide_eq_true (by first | (with_reducible assumption) | assumption)
              have q223 : x8_1 < (l0.length : Int) := of_decide_eq_true (by first | (with_reducible assumption) | assumption)
              obtain ⟨ad223, e223, hx223_0⟩ := Kd.at_int HR0.out x8_1 p223 q223
              cases e223
              replace p223 := eq_true p223
              replace q223 := eq_true q223
              go_wp2
              go_roundg k1
              case measure => have := HK1.out; omega
              case rel => exact ⟨(wrap64 (x8_1 + 1)), (by first | rfl | (simp; done) | (simp [*]; done)), H', ⟨by have := HK1.out; omega⟩, by repeat (first | exact Drawn0.refl _ | apply Drawn0.step)⟩
          · rw [if_neg c5] at H
            exact absurd H (by simp)
        · rw [if_neg c4] at H
          exact absurd H (by simp)
      · rw [if_neg c3] at H
        have c3b0 : decide (x8_1 < (l0.length : Int)) = false := decide_eq_false c3
        clear c3
        obtain rfl := Option.some.inj H
        go_wp2
        go_ret
        exact ⟨by first | rfl | (simp; done) | (simp [*]; done), by repeat (first | exact Drawn0.refl _ | apply Drawn0.step)⟩
def slices_Contains_int_int.f (k : Nat) (l0 : List Int) (a1 : Int) : Option (Bool) := (slices_Index_int_int.f k l0 a1).bind fun t224 => (some (decide (t224 ≥ 0)))
set_option maxHeartbeats 8000000 in
set_option maxRecDepth 100000 in
theorem slices_Contains_int_int.calls (k : Nat) (A0 : Option Addr) (c0 : Nat) (l0 : List Int) (a1 : Int) (r : Bool) (w : World) (hr0 : Kd.C (Kd.int .i64) w A0 l0.length l0) (hc0 : l0.length ≤ c0) (h : slices_Contains_int_int.f k l0 a1 = some r) :
    Calls Try.prog 62 #[.slice A0 l0.length c0, .int .i64 a1] w fun e w' => e = .returned (.bool r) ∧ Drawn0 w w' := by
  have HR0 := Aside0.mk hr0
  have HC0 := Aside0.mk hc0
  clear hr0 hc0
  have H : ((slices_Index_int_int.f k l0 a1).bind fun t224 => (some (decide (t224 ≥ 0)))) = some r := h
  clear h
  replace H := Option.bind_eq_some_iff.mp H
  obtain ⟨t224, A30, H⟩ := H
  replace H : (some (decide (t224 ≥ 0))) = some r := H
  have A3 := Aside0.mk A30
  clear A30
  obtain rfl := Option.some.inj H
  go_enter Try.func62, Try.ntmps62
  go_wp2_with (first | ((with_reducible refine gate_callee (f := 82) rfl ?_); refine goesL_ (some 7) rfl rfl Try.func82 (by kernel_rfl) rfl #[.slice A0 l0.length c0, .int .i64 a1] rfl (by (try simp only [List.map_toArray, List.map_cons, List.map_nil]); first | done | rfl | (simp only [List.length_drop, List.length_take]; rfl)) ?_; (with_reducible refine (slices_Index_int_int.calls k _ _ l0 a1 t224 _ ?side1 ?side2 A3.out).mono ?_); (case side1 => repeat (first | exact HR0.out | (with_reducible refine Kd.C_alloc ?_ _) | (with_reducible refine Kd.C_drewN ?_ _) | (with_reducible refine Kd.C_drew ?_))); (case side2 => exact HC0.out); rintro e w' ⟨rfl, ⟨nd, rfl⟩⟩; refine ⟨_, rfl, ?_⟩))
  go_ret
  exact ⟨by first | rfl | (simp; done) | (simp [*]; done), by repeat (first | exact Drawn0.refl _ | apply Drawn0.step)⟩
def slices_Sort_int_int.f (l0 : List Int) : Option (List Int) := if l0.length < 4611686018427387904 then some (l0.mergeSort fun x y => decide (x ≤ y)) else none
set_option maxHeartbeats 1000000 in
theorem slices_Sort_int_int.calls (P0_ : Nat → Prop) (u9000_ : Value) (l0 : List Int) (r : List Int) (w0 w : World) (hB : Below w0.heap.size w0 w) (ho0 : Kd.R (Kd.int .i64) 3 w w0.heap.size P0_ u9000_ l0) (h : slices_Sort_int_int.f l0 = some r) :
    Calls Try.prog 80 #[u9000_] w fun e w' => e = .returned (.tuple #[]) ∧ Kd.R (Kd.int .i64) 3 w' w0.heap.size (fun k_ => (P0_ k_ ∨ w.heap.size ≤ k_)) u9000_ r ∧ Below w0.heap.size w0 w' ∧ Kept w w' (fun k_ => P0_ k_) := by
  have hsz : l0.length < 4611686018427387904 := by
    unfold slices_Sort_int_int.f at h; split at h
    · assumption
    · cases h
  have hr : (l0.mergeSort fun x y => decide (x ≤ y)) = r := by unfold slices_Sort_int_int.f at h; rw [if_pos hsz] at h; exact Option.some.inj h
  clear h
  have ho := Kd.own_of_R ho0
  have hok := ho0.1
  rcases ho.2 with ⟨rfl, hn⟩ | ⟨g, cap, cur, rfl, hb, hh, h1, h2, h3, h4⟩
  · have hl : l0 = [] := List.eq_nil_of_length_eq_zero hn
    subst hl
    have hrr : r = [] := by rw [← hr]; simp
    subst hrr
    refine (Try.slices_Sort_int_none none 0 w).mono ?_
    rintro e w' ⟨rfl, rfl⟩
    exact ⟨rfl, Kd.R_mono ho0 (fun k hk => .inl hk), hB, Kept.refl _ _⟩
  · have hlen : r.length = l0.length := by rw [← hr]; exact List.length_mergeSort _
    have h4' : cur.toList.take l0.length = l0.map (Value.int .i64) := by rw [Nat.mul_one] at h4; exact h4
    refine (Try.slices_Sort_int g 0 cap l0 w (holds_of_blockI hh h4') ((Array.getElem?_eq_some_iff.1 hh).1) hsz).mono ?_
    rintro e w' ⟨rfl, n, os, rfl⟩
    rw [hr]
    have hown := ownsRow_sortedI (n := n) (os := os) (ts := r) hlen hb hh h1 h2 h3
    have hg := grownBy_sortedI (w := w) (g := g) (n := n) (os := os) r.toArray
    refine ⟨rfl, Kd.R_of_own (by rw [hlen]; exact hown) (fun k hk => .inl (hok k hk)), ?_, Kept.of_grown hg (Kept.refl _ _) (fun k e => .inl (hok k e))⟩
    exact hB.grown hg hB.size (fun k e => by injection e with e; subst e; exact hb)
mutual
def impl_leadsTo.l0 : Nat → List (List Int) → List Int → Int → Option (List Int)
  | 0, _, _, _ => none
  | k + 1, x0, x5, x6 => if x6 < (x5.length : Int) then (impl_leadsTo.l1 k x0 x5 x6 x0 (x0.length : Int) 0) else ((slices_Sort_int_int.f x5).bind fun t228 => (some t228))
def impl_leadsTo.l1 : Nat → List (List Int) → List Int → Int → List (List Int) → Int → Int → Option (List Int)
  | 0, _, _, _, _, _, _ => none
  | k + 1, x0, x5, x6, x20, x21, x22 => if x22 < x21 then (if 0 ≤ x22 then (if x22 < (x20.length : Int) then (impl_leadsTo.l2 k x0 x5 x6 (rd_L1 x20 x22) x20 x21 x22 (rd_L1 x20 x22) ((rd_L1 x20 x22).length : Int) 0) else (none)) else (none)) else (impl_leadsTo.l0 k x0 x5 (wrap64 (x6 + 1)))
def impl_leadsTo.l2 : Nat → List (List Int) → List Int → Int → List Int → List (List Int) → Int → Int → List Int → Int → Int → Option (List Int)
  | 0, _, _, _, _, _, _, _, _, _, _ => none
  | k + 1, x0, x5, x6, x8, x20, x21, x22, x26, x27, x28 => if x28 < x27 then (if 0 ≤ x28 then (if x28 < (x26.length : Int) then (if 0 ≤ (wrap64 ((wrap64 ((x8.length : Int) - 1)) - x28)) then (if (wrap64 ((wrap64 ((x8.length : Int) - 1)) - x28)) < (x8.length : Int) then (if 0 ≤ x6 then (if x6 < (x5.length : Int) then (if (wrap64 (-(rd x26 x28))) = (rd x5 x6) then ((slices_Contains_int_int.f k x5 (rd x8 (wrap64 ((wrap64 ((x8.length : Int) - 1)) - x28)))).bind fun t233 => (if t233 = true then (impl_leadsTo.l2 k x0 x5 x6 x8 x20 x21 x22 x26 x27 (wrap64 (x28 + 1))) else (if x5.length < 17592186044416 then (impl_leadsTo.l2 k x0 (x5 ++ [rd x8 (wrap64 ((wrap64 ((x8.length : Int) - 1)) - x28))]) x6 x8 x20 x21 x22 x26 x27 (wrap64 (x28 + 1))) else (none)))) else (impl_leadsTo.l2 k x0 x5 x6 x8 x20 x21 x22 x26 x27 (wrap64 (x28 + 1)))) else (none)) else (none)) else (none)) else (none)) else (none)) else (none)) else (impl_leadsTo.l1 k x0 x5 x6 x20 x21 (wrap64 (x22 + 1)))
end
def impl_leadsTo.f (k : Nat) (l0 : List (List Int)) (a1 : Int) : Option (List Int) := impl_leadsTo.l0 k l0 (([a1] : List Int)) 0
set_option maxHeartbeats 8000000 in
set_option maxRecDepth 100000 in
theorem impl_leadsTo.calls (k : Nat) (A0 : Option Addr) (c0 : Nat) (l0 : List (List Int)) (a1 : Int) (r : List Int) (w : World) (hr0 : Kd.C (Kd.slice 3 (Kd.int .i64)) w A0 l0.length l0) (hc0 : l0.length ≤ c0) (h : impl_leadsTo.f k l0 a1 = some r) :
    Calls Try.prog 56 #[.slice A0 l0.length c0, .int .i64 a1] w fun e w' => ∃ v0_ : Value, e = .returned (v0_) ∧ Kd.R (Kd.int .i64) 3 w' w.heap.size (fun _ => True) v0_ r ∧ Below w.heap.size w w' := by
  have HR0 := Aside0.mk hr0
  have HC0 := Aside0.mk hc0
  clear hr0 hc0
  have HB := Aside0.mk (Below.refl w.heap.size w)
  have H : (impl_leadsTo.l0 k l0 (([a1] : List Int)) 0) = some r := h
  clear h
  obtain ⟨y225, hy225⟩ : ∃ y_ : List Int, y_ = (([a1] : List Int)) := ⟨_, rfl⟩
  replace H : (impl_leadsTo.l0 k l0 y225 0) = some r := by first | (rw [hy225]; with_reducible exact H) | (have H2_ := (Option.bind_some _ _).symm.trans H; rw [hy225]; with_reducible exact H2_) | (have H2_ := (Option.bind_some _ _).symm.trans H; with_reducible exact H2_) | with_reducible exact H | (rw [hy225]; exact H) | exact H
  have Ny225 := Aside0.mk hy225
  clear hy225
  have H' := Aside0.mk H
  clear H
  go_enter Try.func56, Try.ntmps56
  go_wp2_with (first | ((with_reducible refine gate_dst (N := 13) rfl ?_); refine Kd.R_lit (Kd.int .i64) _ 3 ?hg (N := 13) ?hd (xs := ([a1] : List Int)) (inner := [.int .i64 a1]) (ok := fun _ => True) (okp := fun _ => True) ?hr ?hp (fun _ hk => hk) trivial (Below.refl _ _) (Nat.le_refl _) (by simp) ?_; (case hd => rfl); (case hg => rfl); (case hr => first | (go_simp; done) | (go_simp; rfl)); (case hp => exact (Reps.one (show Kd.M (Kd.int .i64) _ _ _ a1 [.int .i64 a1] from rfl) (Reps.none _ _))); intro v226 w3 ho4 hb hg_ hnew_; clear hg_ hnew_; (first | rw [← Ny225.out] at ho4 | (simp only [Int.reduceToNat] at ho4; rw [← Ny225.out] at ho4)); have n0_ := Aside0.mk (Kd.R_lower ho4 (below_size (by repeat (first | (with_reducible first | exact HB.out | apply below_alloc | apply pw_below_drewN | apply below_drew1) | exact HB.out)))); have n1_ := Aside0.mk (below_step (by repeat (first | (with_reducible first | exact HB.out | apply below_alloc | apply pw_below_drewN | apply below_drew1) | exact HB.out)) hb); clear HB; have HO227 := n0_; have HB := n1_; clear n0_ n1_; clear hb ho4))
  go_loopg [5, 6] k (fun kq v5 v6 w' => ∃ (x5_1 : List Int) (x6_1 : Int), v6 = .int .i64 x6_1 ∧ Aside0 (impl_leadsTo.l0 kq l0 x5_1 x6_1 = some r) ∧ Aside0 (kq ≤ k) ∧ Aside0 (Kd.R (Kd.int .i64) 3 w' w.heap.size (fun _ => True) v5 x5_1) ∧ Aside0 (Below w.heap.size w w'))
  case atStart => exact ⟨(y225), (0), (by first | rfl | (simp; done) | (simp [*]; done)), H', ⟨Nat.le_refl _⟩, ⟨by (with_reducible repeat (first | apply Kd.R_alloc | apply Kd.R_drewN | apply Kd.R_drew)); exact HO227.out⟩, ⟨by repeat (first | (with_reducible first | exact HB.out | apply below_alloc | apply pw_below_drewN | apply below_drew1) | exact HB.out)⟩⟩
  case round =>
    clear H'
    try clear p2
    obtain ⟨x5_1, x6_1, rfl, HA, HK1, HO_5, HB⟩ := hrel
    cases gk with
    | zero => exact absurd HA.out (by simp [impl_leadsTo.l0])
    | succ k1 =>
      have H := HA.out
      clear HA
      simp only [impl_leadsTo.l0] at H
      by_cases c5 : x6_1 < (x5_1.length : Int)
      · rw [if_pos c5] at H
        have c5b0 : decide (x6_1 < (x5_1.length : Int)) = true := decide_eq_true c5
        clear c5
        have H' := Aside0.mk H
        clear H
        obtain ⟨Ao6, co6, eo6⟩ := Kd.R_slice HO_5.out
        subst eo6
        go_wp2
        go_loopg [5, 22] k1 (fun kq v5 v22 w' => ∃ (x5_2 : List Int) (x22_2 : Int), v22 = .int .i64 x22_2 ∧ Aside0 (impl_leadsTo.l1 kq l0 x5_2 x6_1 l0 (l0.length : Int) x22_2 = some r) ∧ Aside0 (kq ≤ k1) ∧ Aside0 (Kd.R (Kd.int .i64) 3 w' w.heap.size (fun _ => True) v5 x5_2) ∧ Aside0 (Below w.heap.size w w'))
        case atStart => exact ⟨(x5_1), (0), (by first | rfl | (simp; done) | (simp [*]; done)), H', ⟨Nat.le_refl _⟩, ⟨by (with_reducible repeat (first | apply Kd.R_alloc | apply Kd.R_drewN | apply Kd.R_drew)); exact HO_5.out⟩, ⟨by repeat (first | (with_reducible first | exact HB.out | apply below_alloc | apply pw_below_drewN | apply below_drew1) | exact HB.out)⟩⟩
        case round =>
          clear H'
          try clear p2
          try clear c5
          try clear c5b0
          try clear p2
          obtain ⟨x5_2, x22_2, rfl, HA, HK2, HO_5, HB⟩ := hrel
          cases gk with
          | zero => exact absurd HA.out (by simp [impl_leadsTo.l1])
          | succ k2 =>
            have H := HA.out
            clear HA
            simp only [impl_leadsTo.l1] at H
            by_cases c7 : x22_2 < (l0.length : Int)
            · rw [if_pos c7] at H
              have c7b0 : decide (x22_2 < (l0.length : Int)) = true := decide_eq_true c7
              clear c7
              by_cases c8 : 0 ≤ x22_2
              · rw [if_pos c8] at H
                have c8b0 : decide (0 ≤ x22_2) = true := decide_eq_true c8
                clear c8
                by_cases c9 : x22_2 < (l0.length : Int)
                · rw [if_pos c9] at H
                  have c9b0 : decide (x22_2 < (l0.length : Int)) = true := decide_eq_true c9
                  clear c9
                  have H' := Aside0.mk H
                  clear H
                  have p229 : 0 ≤ (x22_2 : Int) := of_decide_eq_true (by first | (with_reducible assumption) | assumption)
                  have q229 : x22_2 < (l0.length : Int) := of_decide_eq_true (by first | (with_reducible assumption) | assumption)
                  obtain ⟨ad229, A229_0, c229_0, e229, hx229_0, hl229_0, hi229_0⟩ := at_L1 HR0.out x22_2 p229 q229
                  cases e229
                  (try replace hx229_0 := (HB.out.cell (World.block_lt_of_cell? w _ hx229_0)).trans hx229_0)
                  have HR229_0 := Aside0.mk hi229_0
                  have HC229_0 := Aside0.mk hl229_0
                  clear hi229_0 hl229_0
                  replace p229 := eq_true p229
                  replace q229 := eq_true q229
                  go_wp2
                  go_loopg [5, 28] k2 (fun kq v5 v28 w' => ∃ (x5_3 : List Int) (x28_3 : Int), v28 = .int .i64 x28_3 ∧ Aside0 (impl_leadsTo.l2 kq l0 x5_3 x6_1 (rd_L1 l0 x22_2) l0 (l0.length : Int) x22_2 (rd_L1 l0 x22_2) ((rd_L1 l0 x22_2).length : Int) x28_3 = some r) ∧ Aside0 (kq ≤ k2) ∧ Aside0 (Kd.R (Kd.int .i64) 3 w' w.heap.size (fun _ => True) v5 x5_3) ∧ Aside0 (Below w.heap.size w w'))
                  case atStart => exact ⟨(x5_2), (0), (by first | rfl | (simp; done) | (simp [*]; done)), H', ⟨Nat.le_refl _⟩, ⟨by (with_reducible repeat (first | apply Kd.R_alloc | apply Kd.R_drewN | apply Kd.R_drew)); exact HO_5.out⟩, ⟨by repeat (first | (with_reducible first | exact HB.out | apply below_alloc | apply pw_below_drewN | apply below_drew1) | exact HB.out)⟩⟩
                  case round =>
                    clear H'
                    try clear c2
                    try clear p2
                    try clear q2
                    try clear hx2
                    try clear c5
                    try clear c5b0
                    try clear c7
                    try clear c7b0
                    try clear c8
                    try clear c8b0
                    try clear c9
                    try clear c9b0
                    try clear hx229_0
                    try clear p2
                    try clear p229
                    try clear q229
                    obtain ⟨x5_3, x28_3, rfl, HA, HK3, HO_5, HB⟩ := hrel
                    cases gk with
                    | zero => exact absurd HA.out (by simp [impl_leadsTo.l2])
                    | succ k3 =>
                      have H := HA.out
                      clear HA
                      simp only [impl_leadsTo.l2] at H
                      by_cases c10 : x28_3 < ((rd_L1 l0 x22_2).length : Int)
                      · rw [if_pos c10] at H
                        have c10b0 : decide (x28_3 < ((rd_L1 l0 x22_2).length : Int)) = true := decide_eq_true c10
                        clear c10
                        by_cases c11 : 0 ≤ x28_3
                        · rw [if_pos c11] at H
                          have c11b0 : decide (0 ≤ x28_3) = true := decide_eq_true c11
                          clear c11
                          by_cases c12 : x28_3 < ((rd_L1 l0 x22_2).length : Int)
                          · rw [if_pos c12] at H
                            have c12b0 : decide (x28_3 < ((rd_L1 l0 x22_2).length : Int)) = true := decide_eq_true c12
                            clear c12
                            obtain ⟨ji13, hji13⟩ : ∃ j_ : Int, (wrap64 ((wrap64 (((rd_L1 l0 x22_2).length : Int) - 1)) - x28_3)) = j_ := ⟨_, rfl⟩
                            replace H : (if 0 ≤ (ji13) then (if (ji13) < ((rd_L1 l0 x22_2).length : Int) then (if 0 ≤ x6_1 then (if x6_1 < (x5_3.length : Int) then (if (wrap64 (-(rd (rd_L1 l0 x22_2) x28_3))) = (rd x5_3 x6_1) then ((slices_Contains_int_int.f k3 x5_3 (rd (rd_L1 l0 x22_2) (ji13))).bind fun t233 => (if t233 = true then (impl_leadsTo.l2 k3 l0 x5_3 x6_1 (rd_L1 l0 x22_2) l0 (l0.length : Int) x22_2 (rd_L1 l0 x22_2) ((rd_L1 l0 x22_2).length : Int) (wrap64 (x28_3 + 1))) else (if x5_3.length < 17592186044416 then (impl_leadsTo.l2 k3 l0 (x5_3 ++ [rd (rd_L1 l0 x22_2) (ji13)]) x6_1 (rd_L1 l0 x22_2) l0 (l0.length : Int) x22_2 (rd_L1 l0 x22_2) ((rd_L1 l0 x22_2).length : Int) (wrap64 (x28_3 + 1))) else (none)))) else (impl_leadsTo.l2 k3 l0 x5_3 x6_1 (rd_L1 l0 x22_2) l0 (l0.length : Int) x22_2 (rd_L1 l0 x22_2) ((rd_L1 l0 x22_2).length : Int) (wrap64 (x28_3 + 1)))) else (none)) else (none)) else (none)) else (none)) = some r := by first | (rw [hji13] at H; exact H) | (simp only [hji13] at H ⊢; exact H)
                            have hji13w : (IntKind.i64.wrap ((wrap64 (((rd_L1 l0 x22_2).length : Int) - 1)) - x28_3)) = ji13 := (i64_w _).trans hji13
                            by_cases c14 : 0 ≤ (ji13)
                            · rw [if_pos c14] at H
                              have c14b0 : decide (0 ≤ (ji13)) = true := decide_eq_true c14
                              clear c14
                              by_cases c15 : (ji13) < ((rd_L1 l0 x22_2).length : Int)
                              · rw [if_pos c15] at H
                                have c15b0 : decide ((ji13) < ((rd_L1 l0 x22_2).length : Int)) = true := decide_eq_true c15
                                clear c15
                                by_cases c16 : 0 ≤ x6_1
                                · rw [if_pos c16] at H
                                  have c16b0 : decide (0 ≤ x6_1) = true := decide_eq_true c16
                                  clear c16
                                  by_cases c17 : x6_1 < (x5_3.length : Int)
                                  · rw [if_pos c17] at H
                                    have c17b0 : decide (x6_1 < (x5_3.length : Int)) = true := decide_eq_true c17
                                    clear c17
                                    by_cases c18 : (wrap64 (-(rd (rd_L1 l0 x22_2) x28_3))) = (rd x5_3 x6_1)
                                    · rw [if_pos c18] at H
                                      have c18b0 : ((wrap64 (-(rd (rd_L1 l0 x22_2) x28_3))) == (rd x5_3 x6_1)) = true := beq_iff_eq.mpr c18
                                      have c18b1 : ((wrap64 (-(rd (rd_L1 l0 x22_2) x28_3))) != (rd x5_3 x6_1)) = false := bne_eq_false_iff_eq.mpr c18
                                      clear c18
                                      replace H := Option.bind_eq_some_iff.mp H
                                      obtain ⟨t233, A190, H⟩ := H
                                      replace H : (if t233 = true then (impl_leadsTo.l2 k3 l0 x5_3 x6_1 (rd_L1 l0 x22_2) l0 (l0.length : Int) x22_2 (rd_L1 l0 x22_2) ((rd_L1 l0 x22_2).length : Int) (wrap64 (x28_3 + 1))) else (if x5_3.length < 17592186044416 then (impl_leadsTo.l2 k3 l0 (x5_3 ++ [rd (rd_L1 l0 x22_2) (ji13)]) x6_1 (rd_L1 l0 x22_2) l0 (l0.length : Int) x22_2 (rd_L1 l0 x22_2) ((rd_L1 l0 x22_2).length : Int) (wrap64 (x28_3 + 1))) else (none))) = some r := H
                                      have A19 := Aside0.mk A190
                                      clear A190
                                      by_cases c20 : t233 = true
                                      · subst c20
                                        have H1 : (impl_leadsTo.l2 k3 l0 x5_3 x6_1 (rd_L1 l0 x22_2) l0 (l0.length : Int) x22_2 (rd_L1 l0 x22_2) ((rd_L1 l0 x22_2).length : Int) (wrap64 (x28_3 + 1))) = some r := by rw [if_pos rfl] at H; exact H
                                        clear H
                                        have H := H1
                                        clear H1
                                        have H' := Aside0.mk H
                                        clear H
                                        have p230 : 0 ≤ (x28_3 : Int) := of_decide_eq_true (by first | (with_reducible assumption) | assumption)
                                        have q230 : x28_3 < ((rd_L1 l0 x22_2).length : Int) := of_decide_eq_true (by first | (with_reducible assumption) | assumption)
                                        obtain ⟨ad230, e230, hx230_0⟩ := Kd.at_int HR229_0.out x28_3 p230 q230
                                        cases e230
                                        (try replace hx230_0 := (HB.out.cell (World.block_lt_of_cell? w _ hx230_0)).trans hx230_0)
                                        replace p230 := eq_true p230
                                        replace q230 := eq_true q230
                                        have p231 : 0 ≤ ((ji13) : Int) := of_decide_eq_true (by first | (with_reducible assumption) | assumption)
                                        have q231 : (ji13) < ((rd_L1 l0 x22_2).length : Int) := of_decide_eq_true (by first | (with_reducible assumption) | assumption)
                                        obtain ⟨ad231, e231, hx231_0⟩ := Kd.at_int HR229_0.out (ji13) p231 q231
                                        obtain rfl : ad230 = ad231 := (by injection e231)
                                        (try replace hx231_0 := (HB.out.cell (World.block_lt_of_cell? w _ hx231_0)).trans hx231_0)
                                        replace p231 := eq_true p231
                                        replace q231 := eq_true q231
                                        obtain ⟨Ao21, co21, eo21⟩ := Kd.R_slice HO_5.out
                                        subst eo21
                                        have p232 : 0 ≤ (x6_1 : Int) := of_decide_eq_true (by first | (with_reducible assumption) | assumption)
                                        have q232 : x6_1 < (x5_3.length : Int) := of_decide_eq_true (by first | (with_reducible assumption) | assumption)
                                        obtain ⟨ad232, e232, hx232_0⟩ := Kd.at_int (Kd.R_reads' HO_5.out).2.2 x6_1 p232 q232
                                        cases e232
                                        replace p232 := eq_true p232
                                        replace q232 := eq_true q232
                                        go_wp2_with (first | (go_at_call 62; (with_reducible refine (slices_Contains_int_int.calls k3 _ _ x5_3 (rd (rd_L1 l0 x22_2) (ji13)) true _ ?side1 ?side2 A19.out).mono ?_); (case side1 => repeat (first | exact (Kd.R_reads' HO_5.out).2.2 | (with_reducible refine Kd.C_alloc ?_ _) | (with_reducible refine Kd.C_drewN ?_ _) | (with_reducible refine Kd.C_drew ?_))); (case side2 => exact (Kd.R_reads' HO_5.out).2.1); rintro e w' ⟨rfl, ⟨nd, rfl⟩⟩))
                                        go_roundg k3
                                        case measure => have := HK1.out; have := HK2.out; have := HK3.out; omega
                                        case rel => exact ⟨(x5_3), (wrap64 (x28_3 + 1)), (by first | rfl | (simp; done) | (simp [*]; done)), H', ⟨by have := HK1.out; have := HK2.out; have := HK3.out; omega⟩, ⟨by (with_reducible repeat (first | apply Kd.R_alloc | apply Kd.R_drewN | apply Kd.R_drew)); exact HO_5.out⟩, ⟨by repeat (first | (with_reducible first | exact HB.out | apply below_alloc | apply pw_below_drewN | apply below_drew1) | exact HB.out)⟩⟩
                                      · replace c20 := Bool.eq_false_iff.mpr c20
                                        subst c20
                                        have H1 : (if x5_3.length < 17592186044416 then (impl_leadsTo.l2 k3 l0 (x5_3 ++ [rd (rd_L1 l0 x22_2) (ji13)]) x6_1 (rd_L1 l0 x22_2) l0 (l0.length : Int) x22_2 (rd_L1 l0 x22_2) ((rd_L1 l0 x22_2).length : Int) (wrap64 (x28_3 + 1))) else (none)) = some r := by rw [if_neg (show ¬ (false = true) by decide)] at H; exact H
                                        clear H
                                        have H := H1
                                        clear H1
                                        by_cases c22 : x5_3.length < 17592186044416
                                        · rw [if_pos c22] at H
                                          have LMc22 := Aside0.mk c22
                                          clear c22
                                          obtain ⟨y234, hy234⟩ : ∃ y_ : List Int, y_ = (x5_3 ++ [rd (rd_L1 l0 x22_2) (ji13)]) := ⟨_, rfl⟩
                                          replace H : (impl_leadsTo.l2 k3 l0 y234 x6_1 (rd_L1 l0 x22_2) l0 (l0.length : Int) x22_2 (rd_L1 l0 x22_2) ((rd_L1 l0 x22_2).length : Int) (wrap64 (x28_3 + 1))) = some r := by first | (rw [hy234]; with_reducible exact H) | (have H2_ := (Option.bind_some _ _).symm.trans H; rw [hy234]; with_reducible exact H2_) | (have H2_ := (Option.bind_some _ _).symm.trans H; with_reducible exact H2_) | with_reducible exact H | (rw [hy234]; exact H) | exact H
                                          have Ny234 := Aside0.mk hy234
                                          clear hy234
                                          have H' := Aside0.mk H
                                          clear H
                                          have p230 : 0 ≤ (x28_3 : Int) := of_decide_eq_true (by first | (with_reducible assumption) | assumption)
                                          have q230 : x28_3 < ((rd_L1 l0 x22_2).length : Int) := of_decide_eq_true (by first | (with_reducible assumption) | assumption)
                                          obtain ⟨ad230, e230, hx230_0⟩ := Kd.at_int HR229_0.out x28_3 p230 q230
                                          cases e230
                                          (try replace hx230_0 := (HB.out.cell (World.block_lt_of_cell? w _ hx230_0)).trans hx230_0)
                                          replace p230 := eq_true p230
                                          replace q230 := eq_true q230
                                          have p231 : 0 ≤ ((ji13) : Int) := of_decide_eq_true (by first | (with_reducible assumption) | assumption)
                                          have q231 : (ji13) < ((rd_L1 l0 x22_2).length : Int) := of_decide_eq_true (by first | (with_reducible assumption) | assumption)
                                          obtain ⟨ad231, e231, hx231_0⟩ := Kd.at_int HR229_0.out (ji13) p231 q231
                                          obtain rfl : ad230 = ad231 := (by injection e231)
                                          (try replace hx231_0 := (HB.out.cell (World.block_lt_of_cell? w _ hx231_0)).trans hx231_0)
                                          replace p231 := eq_true p231
                                          replace q231 := eq_true q231
                                          obtain ⟨Ao23, co23, eo23⟩ := Kd.R_slice HO_5.out
                                          subst eo23
                                          have p232 : 0 ≤ (x6_1 : Int) := of_decide_eq_true (by first | (with_reducible assumption) | assumption)
                                          have q232 : x6_1 < (x5_3.length : Int) := of_decide_eq_true (by first | (with_reducible assumption) | assumption)
                                          obtain ⟨ad232, e232, hx232_0⟩ := Kd.at_int (Kd.R_reads' HO_5.out).2.2 x6_1 p232 q232
                                          cases e232
                                          replace p232 := eq_true p232
                                          replace q232 := eq_true q232
                                          go_wp2_with (first | (go_at_call 62; (with_reducible refine (slices_Contains_int_int.calls k3 _ _ x5_3 (rd (rd_L1 l0 x22_2) (ji13)) false _ ?side1 ?side2 A19.out).mono ?_); (case side1 => repeat (first | exact (Kd.R_reads' HO_5.out).2.2 | (with_reducible refine Kd.C_alloc ?_ _) | (with_reducible refine Kd.C_drewN ?_ _) | (with_reducible refine Kd.C_drew ?_))); (case side2 => exact (Kd.R_reads' HO_5.out).2.1); rintro e w' ⟨rfl, ⟨nd, rfl⟩⟩) | ((with_reducible refine gate_builtin (b := .append) (xs := #[.tmp 54, .tmp 56]) rfl ?_); at_builtin; refine Kd.R_append (Kd.int .i64) (w0 := w) w.heap.size rfl (.tmp 54) (.tmp 56) 29 3 (.int .i64 0) 8 rfl Try.underlying29 info3 rfl (by decide) (by omega) (.slice (some ad232) x5_3.length co23) x5_3 (rd (rd_L1 l0 x22_2) (ji13)) [.int .i64 (rd (rd_L1 l0 x22_2) (ji13))] (fun _ => True) (fun _ => False) rfl rfl ?aP (fun _ hk => hk.elim) ?aF ?aO ?aB ?aS ?aL ?_; (case aP => exact rfl); (case aB => exact (by repeat (first | (with_reducible first | exact HB.out | apply below_alloc | apply pw_below_drewN | apply below_drew1) | exact HB.out))); (case aF => exact (fun _ _ => trivial)); (case aO => exact (by (with_reducible repeat (first | apply Kd.R_alloc | apply Kd.R_drewN | apply Kd.R_drew)); exact HO_5.out)); (case aS => exact (below_size (by repeat (first | (with_reducible first | exact HB.out | apply below_alloc | apply pw_below_drewN | apply below_drew1) | exact HB.out)))); (case aL => have := LMc22.out; omega); intro v235 w24 ho hb hg hat; rw [← Ny234.out] at ho; have n0_ := Aside0.mk (hb); have n1_ := Aside0.mk (ho); clear HB; clear HO_5; have HB := n0_; have HO236 := n1_; clear n0_ n1_; clear ho hb hg hat))
                                          go_roundg k3
                                          case measure => have := HK1.out; have := HK2.out; have := HK3.out; omega
                                          case rel => exact ⟨(y234), (wrap64 (x28_3 + 1)), (by first | rfl | (simp; done) | (simp [*]; done)), H', ⟨by have := HK1.out; have := HK2.out; have := HK3.out; omega⟩, ⟨by (with_reducible repeat (first | apply Kd.R_alloc | apply Kd.R_drewN | apply Kd.R_drew)); exact HO236.out⟩, ⟨by repeat (first | (with_reducible first | exact HB.out | apply below_alloc | apply pw_below_drewN | apply below_drew1) | exact HB.out)⟩⟩
                                        · rw [if_neg c22] at H
                                          exact absurd H (by simp)
                                    · rw [if_neg c18] at H
                                      have c18b0 : ((wrap64 (-(rd (rd_L1 l0 x22_2) x28_3))) == (rd x5_3 x6_1)) = false := beq_eq_false_iff_ne.mpr c18
                                      have c18b1 : ((wrap64 (-(rd (rd_L1 l0 x22_2) x28_3))) != (rd x5_3 x6_1)) = true := bne_iff_ne.mpr c18
                                      have H' := Aside0.mk H
                                      clear H
                                      have p230 : 0 ≤ (x28_3 : Int) := of_decide_eq_true (by first | (with_reducible assumption) | assumption)
                                      have q230 : x28_3 < ((rd_L1 l0 x22_2).length : Int) := of_decide_eq_true (by first | (with_reducible assumption) | assumption)
                                      obtain ⟨ad230, e230, hx230_0⟩ := Kd.at_int HR229_0.out x28_3 p230 q230
                                      cases e230
                                      (try replace hx230_0 := (HB.out.cell (World.block_lt_of_cell? w _ hx230_0)).trans hx230_0)
                                      replace p230 := eq_true p230
                                      replace q230 := eq_true q230
                                      have p231 : 0 ≤ ((ji13) : Int) := of_decide_eq_true (by first | (with_reducible assumption) | assumption)
                                      have q231 : (ji13) < ((rd_L1 l0 x22_2).length : Int) := of_decide_eq_true (by first | (with_reducible assumption) | assumption)
                                      obtain ⟨ad231, e231, hx231_0⟩ := Kd.at_int HR229_0.out (ji13) p231 q231
                                      obtain rfl : ad230 = ad231 := (by injection e231)
                                      (try replace hx231_0 := (HB.out.cell (World.block_lt_of_cell? w _ hx231_0)).trans hx231_0)
                                      replace p231 := eq_true p231
                                      replace q231 := eq_true q231
                                      obtain ⟨Ao25, co25, eo25⟩ := Kd.R_slice HO_5.out
                                      subst eo25
                                      have p232 : 0 ≤ (x6_1 : Int) := of_decide_eq_true (by first | (with_reducible assumption) | assumption)
                                      have q232 : x6_1 < (x5_3.length : Int) := of_decide_eq_true (by first | (with_reducible assumption) | assumption)
                                      obtain ⟨ad232, e232, hx232_0⟩ := Kd.at_int (Kd.R_reads' HO_5.out).2.2 x6_1 p232 q232
                                      cases e232
                                      replace p232 := eq_true p232
                                      replace q232 := eq_true q232
                                      go_wp2
                                      go_roundg k3
                                      case measure => have := HK1.out; have := HK2.out; have := HK3.out; omega
                                      case rel => exact ⟨(x5_3), (wrap64 (x28_3 + 1)), (by first | rfl | (simp; done) | (simp [*]; done)), H', ⟨by have := HK1.out; have := HK2.out; have := HK3.out; omega⟩, ⟨by (with_reducible repeat (first | apply Kd.R_alloc | apply Kd.R_drewN | apply Kd.R_drew)); exact HO_5.out⟩, ⟨by repeat (first | (with_reducible first | exact HB.out | apply below_alloc | apply pw_below_drewN | apply below_drew1) | exact HB.out)⟩⟩
                                  · rw [if_neg c17] at H
                                    exact absurd H (by simp)
                                · rw [if_neg c16] at H
                                  exact absurd H (by simp)
                              · rw [if_neg c15] at H
                                exact absurd H (by simp)
                            · rw [if_neg c14] at H
                              exact absurd H (by simp)
                          · rw [if_neg c12] at H
                            exact absurd H (by simp)
                        · rw [if_neg c11] at H
                          exact absurd H (by simp)
                      · rw [if_neg c10] at H
                        have c10b0 : decide (x28_3 < ((rd_L1 l0 x22_2).length : Int)) = false := decide_eq_false c10
                        clear c10
                        have H' := Aside0.mk H
                        clear H
                        go_wp2
                        go_roundg k3
                        case measure => have := HK1.out; have := HK2.out; have := HK3.out; omega
                        case rel => exact ⟨(x5_3), (wrap64 (x22_2 + 1)), (by first | rfl | (simp; done) | (simp [*]; done)), H', ⟨by have := HK1.out; have := HK2.out; have := HK3.out; omega⟩, ⟨by (with_reducible repeat (first | apply Kd.R_alloc | apply Kd.R_drewN | apply Kd.R_drew)); exact HO_5.out⟩, ⟨by repeat (first | (with_reducible first | exact HB.out | apply below_alloc | apply pw_below_drewN | apply below_drew1) | exact HB.out)⟩⟩
                · rw [if_neg c9] at H
                  exact absurd H (by simp)
              · rw [if_neg c8] at H
                exact absurd H (by simp)
            · rw [if_neg c7] at H
              have c7b0 : decide (x22_2 < (l0.length : Int)) = false := decide_eq_false c7
              clear c7
              have H' := Aside0.mk H
              clear H
              go_wp2
              go_roundg k2
              case measure => have := HK1.out; have := HK2.out; omega
              case rel => exact ⟨(x5_2), (wrap64 (x6_1 + 1)), (by first | rfl | (simp; done) | (simp [*]; done)), H', ⟨by have := HK1.out; have := HK2.out; omega⟩, ⟨by (with_reducible repeat (first | apply Kd.R_alloc | apply Kd.R_drewN | apply Kd.R_drew)); exact HO_5.out⟩, ⟨by repeat (first | (with_reducible first | exact HB.out | apply below_alloc | apply pw_below_drewN | apply below_drew1) | exact HB.out)⟩⟩
      · rw [if_neg c5] at H
        have c5b0 : decide (x6_1 < (x5_1.length : Int)) = false := decide_eq_false c5
        clear c5
        replace H := Option.bind_eq_some_iff.mp H
        obtain ⟨t228, A260, H⟩ := H
        replace H : (some t228) = some r := H
        have A26 := Aside0.mk A260
        clear A260
        obtain rfl := Option.some.inj H
        obtain ⟨Ao27, co27, eo27⟩ := Kd.R_slice HO_5.out
        subst eo27
        go_wp2_with (first | ((with_reducible refine gate_callee (f := 80) rfl ?_); refine goesL_ (some 61) rfl rfl Try.func80 (by kernel_rfl) rfl #[.slice Ao27 x5_1.length co27] rfl (by (try simp only [List.map_toArray, List.map_cons, List.map_nil]); first | done | rfl | (simp only [List.length_drop, List.length_take]; rfl)) ?_; (with_reducible refine (slices_Sort_int_int.calls (fun k_ => some k_ = (.slice Ao27 x5_1.length co27 : Value).ownBlock) (.slice Ao27 x5_1.length co27) x5_1 t228 w _ ?side1 ?side2 A26.out).mono ?_); (case side1 => repeat (first | (with_reducible first | exact HB.out | apply below_alloc | apply pw_below_drewN | apply below_drew1) | exact HB.out)); (case side2 => exact Kd.R_tight rfl HO_5.out); rintro e w28 ⟨rfl, hy0, hb, hkp⟩; refine ⟨_, rfl, ?_⟩; have n0_ := Aside0.mk (Kd.R_reok rfl hy0 (fun k_ e_ => HO_5.out.1 k_ e_)); have n1_ := Aside0.mk (hb); clear HO_5; clear HB; have HO_5 := n0_; have HB := n1_; clear n0_ n1_; (try clear hb); (try clear hkp); (try clear hy0)))
        go_ret
        exact ⟨_, by first | rfl | (simp [errW_none, errW_some] <;> rfl) | (simp [*, errW_none, errW_some] <;> rfl), by (with_reducible repeat (first | apply Kd.R_alloc | apply Kd.R_drewN | apply Kd.R_drew)); exact HO_5.out, by repeat (first | (with_reducible first | exact HB.out | apply below_alloc | apply pw_below_drewN | apply below_drew1) | exact HB.out)⟩
end Go.Proofs.Ythjgcapfojhfjaa.P
