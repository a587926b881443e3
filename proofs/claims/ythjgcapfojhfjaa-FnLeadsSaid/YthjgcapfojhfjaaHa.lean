import Derived.Test.YthjgcapfojhfjaaProg
import Derived.Below
import Derived.Deep.Draws
import Derived.Deep.AppendLies
import Derived.Maps.AppendAt
import Derived.OwnWalk
import Derived.Laws.BytesArg
import Derived.Laws.MakeOwn
import Derived.Laws.OwnMore
import Derived.Deep.OwnRows
import Derived.Tactics
import Derived.Lib.ConvBytes
import Derived.Laws.Slices
import Derived.WalkKit
import Derived.KernelRfl
import Derived.RowKit3
import Derived.Deep.LoopGhost
import Derived.Deep.QuietTactic
import Derived.BigQuiet
import Derived.WideLaws
import Derived.Deep.DeepCutAuto
import Derived.Deep.CutBlock
import Derived.Deep.RegionHeld3
import Derived.Laws.Rows
import Derived.Lib.AppendStr
import Derived.ArgAppend
import Derived.Laws.IdiomCopy
import Derived.OrdersHeld
import Derived.Laws.BitsLemmas
import Derived.RowKit
import Derived.Test.YthjgcapfojhfjaaWWords
import Derived.Test.YthjgcapfojhfjaaWLast
import Derived.Test.YthjgcapfojhfjaaWTab
import Derived.Test.YthjgcapfojhfjaaWFour
import Derived.Test.YthjgcapfojhfjaaWQPut
import Derived.Test.YthjgcapfojhfjaaWApart
import Derived.Test.YthjgcapfojhfjaaWArr
import Derived.Test.YthjgcapfojhfjaaWZeros
import Derived.Test.YthjgcapfojhfjaaWFoot
import Derived.Test.YthjgcapfojhfjaaWKept
import Derived.Test.YthjgcapfojhfjaaWShare
import Derived.Test.YthjgcapfojhfjaaWN
import Derived.Test.YthjgcapfojhfjaaWFootNe
import Derived.Test.YthjgcapfojhfjaaWAt
import Derived.Test.YthjgcapfojhfjaaWEqStruct
import Derived.Test.YthjgcapfojhfjaaWRepsOne
import Derived.Test.YthjgcapfojhfjaaWInv
import Derived.Test.YthjgcapfojhfjaaWInvWords
import Derived.Test.YthjgcapfojhfjaaWGuard
import Derived.Test.YthjgcapfojhfjaaWNEv
import Derived.Test.YthjgcapfojhfjaaWMore
import Derived.Test.YthjgcapfojhfjaaHs
import Derived.Sort.OwnSortedInts
namespace Go.Proofs.Ythjgcapfojhfjaa.P
open Go.RowKit Go.Proofs.YthjgcapfojhfjaaW.PrintWords Go.Proofs.YthjgcapfojhfjaaW.PrintLast Go.Proofs.YthjgcapfojhfjaaW.PrintMore
/-- the first index at which p holds, or -1 -/
def idxP {α : Type} (p : α → Bool) : List α → Nat → Int
  | [], _ => -1
  | x :: xs, k => if p x then (k : Int) else idxP p xs (k + 1)
theorem idxP_spec {α : Type} (p : α → Bool) : ∀ (xs : List α) (k : Nat), (idxP p xs k = -1 ∧ xs.any p = false) ∨ ((k : Int) ≤ idxP p xs k ∧ xs.any p = true)
  | [], _ => .inl ⟨rfl, rfl⟩
  | x :: xs, k => by
    unfold idxP
    cases h : p x with
    | true => exact .inr ⟨by simp, by simp [h]⟩
    | false =>
      rcases idxP_spec p xs (k + 1) with ⟨a, b⟩ | ⟨a, b⟩
      · exact .inl ⟨by simpa using a, by simp [h, b]⟩
      · exact .inr ⟨by simp only [Bool.false_eq_true, if_false]; omega, by simp [h, b]⟩
theorem idxP_any {α : Type} (p : α → Bool) (xs : List α) : decide (0 ≤ idxP p xs 0) = xs.any p := by
  rcases idxP_spec p xs 0 with ⟨a, b⟩ | ⟨a, b⟩
  · rw [a, b]; rfl
  · rw [b]; exact decide_eq_true a
theorem rd_mem (xs : List Int) (k : Nat) (h : k < xs.length) : rd xs k ∈ xs := by
  unfold rd; rw [Int.toNat_natCast, List.getD_eq_getElem?_getD, List.getElem?_eq_getElem h]; exact List.getElem_mem _
theorem drop_rd (xs : List Int) (k : Nat) (h : k < xs.length) : xs.drop k = rd xs k :: xs.drop (k + 1) := by
  unfold rd; rw [Int.toNat_natCast, List.getD_eq_getElem?_getD, List.getElem?_eq_getElem h]; exact List.drop_eq_getElem_cons h
theorem take_rd (xs : List Int) (k : Nat) (h : k < xs.length) : xs.take (k + 1) = xs.take k ++ [rd xs k] := by
  unfold rd; rw [Int.toNat_natCast, List.getD_eq_getElem?_getD, List.getElem?_eq_getElem h]; exact (List.take_succ_eq_append_getElem h).trans rfl
theorem ret_bool {a b : Bool} (h : a = b) : Ending.returned (.bool a) = .returned (.bool b) := by rw [h]
theorem slice_of_aside {α : Type} {d : Kd α} {e : Nat} {w : World} {base : Nat} {ok : Nat → Prop} {v : Value} {xs : List α} (h : Aside0 (Kd.R d e w base ok v xs)) : ∃ A n c, v = .slice A n c := by
  obtain ⟨A, c, hh⟩ := Kd.R_slice h.out
  exact ⟨A, _, c, hh⟩
set_option maxHeartbeats 1000000 in
theorem indexFuncInt (g : Nat) (lb : Array Value) (p : Int → Bool) (A : Option Addr) (c : Nat) (xs : List Int) (w : World)
    (hr : Kd.C (Kd.int .i64) w A xs.length xs)
    (eg : ∀ args w, (callFunc g args).run Try.prog w = .ok (.enter g args) w)
    (hp : ∀ (W : World) (x : Int), x ∈ xs → Below w.heap.size w W → Calls Try.prog g (#[.int .i64 x] ++ lb) W fun e w' => e = .returned (.bool (p x)) ∧ Below W.heap.size W w') :
    Calls Try.prog 81 #[.slice A xs.length c, .func (.func g) #[] lb] w fun e w' => e = .returned (.int .i64 (idxP p xs 0)) ∧ Below w.heap.size w w' := by
  have HR := Aside0.mk hr
  have HP := Aside0.mk hp
  have hlen : xs.length ≤ 9223372036854775807 := by have := hr.2.1; simpa using this
  clear hr hp
  go_enter Try.func81, Try.ntmps81
  go_wp2
  go_loopg [5, 8] xs.length (fun gg _ s8 wr => ∃ kk : Nat, kk ≤ xs.length ∧ xs.length - kk ≤ gg ∧ s8 = .int .i64 kk ∧ Aside0 (Below w.heap.size w wr) ∧ Aside0 (idxP p xs 0 = idxP p (xs.drop kk) kk))
  case atStart => exact ⟨0, Nat.zero_le _, by omega, rfl, ⟨Below.refl _ w⟩, ⟨by simp⟩⟩
  case round =>
    obtain ⟨kk, hkk, hg, rfl, BW, A'⟩ := hrel
    by_cases hlt : kk < xs.length
    · have hltz : (kk : Int) < (xs.length : Int) := by omega
      obtain ⟨ad, e1, hcell⟩ := Kd.at_int (Kd.C_below HR.out BW.out) (kk : Int) (by omega) hltz
      cases e1
      rw [Int.toNat_natCast] at hcell
      have hcall := HP.out wr (rd xs kk) (rd_mem xs kk hlt) BW.out
      have hd : xs.drop kk = rd xs kk :: xs.drop (kk + 1) := drop_rd xs kk hlt
      generalize rd xs kk = y at hcell hcall hd
      have HD := Aside0.mk hd
      clear hd
      cases hq : p y with
      | true =>
        rw [hq] at hcall
        go_wp2_with fail
        refine hcall.mono ?_
        rintro e w' ⟨rfl, hb'⟩
        go_wp2_with fail
        go_ret
        refine ⟨?_, below_step BW.out hb'⟩
        rw [A'.out, HD.out]; unfold idxP; rw [hq]; rfl
      | false =>
        rw [hq] at hcall
        go_wp2_with fail
        refine hcall.mono ?_
        rintro e w' ⟨rfl, hb'⟩
        go_wp2_with fail
        go_roundg (xs.length - (kk + 1))
        case measure => omega
        case rel =>
          refine ⟨kk + 1, by omega, by omega, by go_num, ⟨below_step BW.out hb'⟩, ⟨?_⟩⟩
          rw [A'.out, HD.out]; conv => lhs; unfold idxP
          rw [hq]; rfl
    · have hltz : ¬ (kk : Int) < (xs.length : Int) := by omega
      have : kk = xs.length := by omega
      have A2 := A'.out
      rw [this, List.drop_length] at A2
      have AA := Aside0.mk A2
      clear A2 A' this
      go_wp2
      go_ret
      exact ⟨by rw [AA.out]; rfl, BW.out⟩
set_option maxHeartbeats 1000000 in
theorem containsFuncInt (g : Nat) (lb : Array Value) (p : Int → Bool) (A : Option Addr) (c : Nat) (xs : List Int) (w : World)
    (hr : Kd.C (Kd.int .i64) w A xs.length xs)
    (eg : ∀ args w, (callFunc g args).run Try.prog w = .ok (.enter g args) w)
    (hp : ∀ (W : World) (x : Int), x ∈ xs → Below w.heap.size w W → Calls Try.prog g (#[.int .i64 x] ++ lb) W fun e w' => e = .returned (.bool (p x)) ∧ Below W.heap.size W w') :
    Calls Try.prog 88 #[.slice A xs.length c, .func (.func g) #[] lb] w fun e w' => e = .returned (.bool (xs.any p)) ∧ Below w.heap.size w w' := by
  have hc := indexFuncInt g lb p A c xs w hr eg hp
  have HV := Aside0.mk (idxP_any p xs)
  clear hr hp eg
  generalize idxP p xs 0 = z at hc HV
  go_enter Try.func88, Try.ntmps88
  go_wp2_with fail
  refine hc.mono ?_
  rintro e w' ⟨rfl, hb⟩
  go_wp2
  go_ret
  exact ⟨ret_bool HV.out, hb⟩
set_option maxHeartbeats 1000000 in
/-- IndexFunc over rows of rows (or any elements of one cell that read as a value f x). -/
theorem indexFuncRow (g : Nat) (lb : Array Value) (p : List Int → Bool) (A : Option Addr) (c : Nat) (xs : List (List Int)) (w : World)
    (hr : Kd.C (Kd.slice 3 (Kd.int .i64)) w A xs.length xs)
    (eg : ∀ args w, (callFunc g args).run Try.prog w = .ok (.enter g args) w)
    (hp : ∀ (W : World) (x : List Int) (B : Option Addr) (c : Nat), x ∈ xs → Below w.heap.size w W → x.length ≤ c → Kd.C (Kd.int .i64) W B x.length x → Calls Try.prog g (#[.slice B x.length c] ++ lb) W fun e w' => e = .returned (.bool (p x)) ∧ Below W.heap.size W w') :
    Calls Try.prog 92 #[.slice A xs.length c, .func (.func g) #[] lb] w fun e w' => e = .returned (.int .i64 (idxP p xs 0)) ∧ Below w.heap.size w w' := by
  have HR := Aside0.mk hr
  have HP := Aside0.mk hp
  have hlen : xs.length ≤ 9223372036854775807 := by have := hr.2.1; simpa using this
  clear hr hp
  go_enter Try.func92, Try.ntmps92
  go_wp2
  go_loopg [5, 8] xs.length (fun gg _ s8 wr => ∃ kk : Nat, kk ≤ xs.length ∧ xs.length - kk ≤ gg ∧ s8 = .int .i64 kk ∧ Aside0 (Below w.heap.size w wr) ∧ Aside0 (idxP p xs 0 = idxP p (xs.drop kk) kk))
  case atStart => exact ⟨0, Nat.zero_le _, by omega, rfl, ⟨Below.refl _ w⟩, ⟨by simp⟩⟩
  case round =>
    obtain ⟨kk, hkk, hg, rfl, BW, A'⟩ := hrel
    by_cases hlt : kk < xs.length
    · have hltz : (kk : Int) < (xs.length : Int) := by omega
      obtain ⟨ad, cs, e1, _, hK, hcell⟩ := Kd.C_get (Kd.C_below HR.out BW.out) ([] : List Int) (kk : Int) (by omega) hltz
      cases e1
      obtain ⟨A0, c0, rfl, hl0, hC0⟩ := hK
      replace hcell := hcell 0 _ rfl
      rw [Int.toNat_natCast] at hcell hC0 hl0
      simp only [Kd.slice, Nat.mul_one, Nat.add_zero] at hcell
      have hmem : xs.getD kk [] ∈ xs := by rw [List.getD_eq_getElem?_getD, List.getElem?_eq_getElem hlt]; exact List.getElem_mem _
      have hcall := HP.out wr (xs.getD kk []) A0 c0 hmem BW.out hl0 hC0
      have hd : xs.drop kk = xs.getD kk [] :: xs.drop (kk + 1) := by rw [List.getD_eq_getElem?_getD, List.getElem?_eq_getElem hlt]; exact List.drop_eq_getElem_cons hlt
      clear hC0 hl0 hmem
      generalize xs.getD kk [] = y at hcell hcall hd
      have HD := Aside0.mk hd
      clear hd
      cases hq : p y with
      | true =>
        rw [hq] at hcall
        go_wp2_with fail
        refine hcall.mono ?_
        rintro e w' ⟨rfl, hb'⟩
        go_wp2_with fail
        go_ret
        refine ⟨?_, below_step BW.out hb'⟩
        rw [A'.out, HD.out]; unfold idxP; rw [hq]; rfl
      | false =>
        rw [hq] at hcall
        go_wp2_with fail
        refine hcall.mono ?_
        rintro e w' ⟨rfl, hb'⟩
        go_wp2_with fail
        go_roundg (xs.length - (kk + 1))
        case measure => omega
        case rel =>
          refine ⟨kk + 1, by omega, by omega, by go_num, ⟨below_step BW.out hb'⟩, ⟨?_⟩⟩
          rw [A'.out, HD.out]; conv => lhs; unfold idxP
          rw [hq]; rfl
    · have hltz : ¬ (kk : Int) < (xs.length : Int) := by omega
      have : kk = xs.length := by omega
      have A2 := A'.out
      rw [this, List.drop_length] at A2
      have AA := Aside0.mk A2
      clear A2 A' this
      go_wp2
      go_ret
      exact ⟨by rw [AA.out]; rfl, BW.out⟩
set_option maxHeartbeats 1000000 in
theorem containsFuncRow (g : Nat) (lb : Array Value) (p : List Int → Bool) (A : Option Addr) (c : Nat) (xs : List (List Int)) (w : World)
    (hr : Kd.C (Kd.slice 3 (Kd.int .i64)) w A xs.length xs)
    (eg : ∀ args w, (callFunc g args).run Try.prog w = .ok (.enter g args) w)
    (hp : ∀ (W : World) (x : List Int) (B : Option Addr) (c : Nat), x ∈ xs → Below w.heap.size w W → x.length ≤ c → Kd.C (Kd.int .i64) W B x.length x → Calls Try.prog g (#[.slice B x.length c] ++ lb) W fun e w' => e = .returned (.bool (p x)) ∧ Below W.heap.size W w') :
    Calls Try.prog 71 #[.slice A xs.length c, .func (.func g) #[] lb] w fun e w' => e = .returned (.bool (xs.any p)) ∧ Below w.heap.size w w' := by
  have hc := indexFuncRow g lb p A c xs w hr eg hp
  have HV := Aside0.mk (idxP_any p xs)
  clear hr hp eg
  generalize idxP p xs 0 = z at hc HV
  go_enter Try.func71, Try.ntmps71
  go_wp2_with fail
  refine hc.mono ?_
  rintro e w' ⟨rfl, hb⟩
  go_wp2
  go_ret
  exact ⟨ret_bool HV.out, hb⟩
end Go.Proofs.Ythjgcapfojhfjaa.P
