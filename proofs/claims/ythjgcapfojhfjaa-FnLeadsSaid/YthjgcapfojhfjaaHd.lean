import Derived.Test.YthjgcapfojhfjaaProg
import Derived.Below
import Derived.Deep.Draws
import Derived.Deep.AppendLies
import Derived.Maps.AppendAt
import Derived.OwnWalk
import Derived.Laws.BytesArg
import Derived.Laws.MakeOwn
import Derived.Laws.OwnMore
import Derived.Deep.OwnRows
import Derived.Tactics
import Derived.Lib.ConvBytes
import Derived.Laws.Slices
import Derived.WalkKit
import Derived.KernelRfl
import Derived.RowKit3
import Derived.Deep.LoopGhost
import Derived.Deep.QuietTactic
import Derived.BigQuiet
import Derived.WideLaws
import Derived.Deep.DeepCutAuto
import Derived.Deep.CutBlock
import Derived.Deep.RegionHeld3
import Derived.Laws.Rows
import Derived.Lib.AppendStr
import Derived.ArgAppend
import Derived.Laws.IdiomCopy
import Derived.OrdersHeld
import Derived.Laws.BitsLemmas
import Derived.RowKit
import Derived.Test.YthjgcapfojhfjaaWWords
import Derived.Test.YthjgcapfojhfjaaWLast
import Derived.Test.YthjgcapfojhfjaaWTab
import Derived.Test.YthjgcapfojhfjaaWFour
import Derived.Test.YthjgcapfojhfjaaWQPut
import Derived.Test.YthjgcapfojhfjaaWApart
import Derived.Test.YthjgcapfojhfjaaWArr
import Derived.Test.YthjgcapfojhfjaaWZeros
import Derived.Test.YthjgcapfojhfjaaWFoot
import Derived.Test.YthjgcapfojhfjaaWKept
import Derived.Test.YthjgcapfojhfjaaWShare
import Derived.Test.YthjgcapfojhfjaaWN
import Derived.Test.YthjgcapfojhfjaaWFootNe
import Derived.Test.YthjgcapfojhfjaaWAt
import Derived.Test.YthjgcapfojhfjaaWEqStruct
import Derived.Test.YthjgcapfojhfjaaWRepsOne
import Derived.Test.YthjgcapfojhfjaaWInv
import Derived.Test.YthjgcapfojhfjaaWInvWords
import Derived.Test.YthjgcapfojhfjaaWGuard
import Derived.Test.YthjgcapfojhfjaaWNEv
import Derived.Test.YthjgcapfojhfjaaWMore
import Derived.Test.YthjgcapfojhfjaaHa
import Derived.Lib.SliceRun
namespace Go.Proofs.Ythjgcapfojhfjaa.P
open Go.RowKit Go.Proofs.YthjgcapfojhfjaaW.PrintWords Go.Proofs.YthjgcapfojhfjaaW.PrintLast Go.Proofs.YthjgcapfojhfjaaW.PrintMore
theorem idxP_none {α : Type} (p : α → Bool) : ∀ (xs : List α) (k : Nat), idxP p xs k = -1 → xs.filter (fun x => !p x) = xs
  | [], _, _ => rfl
  | x :: xs, k, h => by
    unfold idxP at h
    cases hp : p x with
    | true => rw [hp] at h; simp at h
    | false =>
      rw [hp] at h
      rw [List.filter_cons_of_pos (by simp [hp]), idxP_none p xs (k + 1) (by simpa using h)]
theorem idxP_some {α : Type} (p : α → Bool) : ∀ (xs : List α) (k : Nat), idxP p xs k ≠ -1 → ∃ j, j < xs.length ∧ idxP p xs k = ((k + j : Nat) : Int) ∧ (xs.take (j + 1)).filter (fun x => !p x) = xs.take j
  | [], _, h => absurd rfl h
  | x :: xs, k, h => by
    unfold idxP at h
    cases hp : p x with
    | true => exact ⟨0, by simp, by unfold idxP; rw [hp]; simp, by simp [hp]⟩
    | false =>
      rw [hp] at h
      obtain ⟨j, h1, h2, h3⟩ := idxP_some p xs (k + 1) (by simpa using h)
      refine ⟨j + 1, by simp; omega, ?_, ?_⟩
      · unfold idxP; rw [hp]; simp only [Bool.false_eq_true, if_false]; rw [h2]; omega
      rw [List.take_succ_cons, List.filter_cons_of_pos (by simp [hp]), h3, List.take_succ_cons]
theorem R_clear {e g n cap base : Nat} {ok : Nat → Prop} (hg : ok g) (hb : base ≤ g) : ∀ (m o : Nat) (w : World) (xs : List Int), Kd.R (Kd.int .i64) e w base ok (.slice (some ⟨g, 0, none⟩) n cap) xs →
    ∃ ys : List Int, Kd.R (Kd.int .i64) e (w.setCells g o (List.replicate m (.int .i64 0))) base ok (.slice (some ⟨g, 0, none⟩) n cap) ys ∧ ys.take o = xs.take o ∧ ys.length = xs.length ∧ Kept w (w.setCells g o (List.replicate m (.int .i64 0))) ok ∧ ∀ w0 : World, w0.heap.size = base → Below w0.heap.size w0 w → Below w0.heap.size w0 (w.setCells g o (List.replicate m (.int .i64 0)))
  | 0, o, w, xs, h => ⟨xs, h, rfl, rfl, Kept.refl _ _, fun _ _ h => h⟩
  | m + 1, o, w, xs, h => by
    have hp := Kd.R_putg (enc := Value.int .i64) (h1 := fun _ => rfl) h (o : Int) 0
    rw [Int.toNat_natCast] at hp
    obtain ⟨ys, h1, h2, h3, h4, h5⟩ := R_clear hg hb m (o + 1) _ _ hp.1
    refine ⟨ys, h1, ?_, by rw [h3, List.length_set], (Kept.of_grown hp.2 (Kept.refl _ _) (fun k e => .inl (by injection e with e; subst e; exact hg))).then_ h4 (fun k hk => .inl hk), fun w0 e hB => h5 w0 e (hB.grown hp.2 hB.size (fun k e' => by injection e' with e'; subst e'; omega))⟩
    have := congrArg (List.take o) h2
    rw [List.take_take, List.take_take, Nat.min_eq_left (by omega)] at this
    rw [this, List.take_set_of_le (Nat.le_refl _)]
set_option maxRecDepth 100000 in
set_option maxHeartbeats 2000000 in
theorem deleteFuncInt (g : Nat) (lb : Array Value) (p : Int → Bool) (ok : Nat → Prop) (A : Option Addr) (c : Nat) (xs : List Int) (w0 w : World)
    (hB : Below w0.heap.size w0 w) (hR : Kd.R (Kd.int .i64) 3 w w0.heap.size ok (.slice A xs.length c) xs)
    (eg : ∀ args w, (callFunc g args).run Try.prog w = .ok (.enter g args) w)
    (hp : ∀ (W : World) (x : Int), x ∈ xs → Below w0.heap.size w0 W → Kept w W ok → Calls Try.prog g (#[.int .i64 x] ++ lb) W fun e w' => e = .returned (.bool (p x)) ∧ Below W.heap.size W w') :
    Calls Try.prog 59 #[.slice A xs.length c, .func (.func g) #[] lb] w fun e w' => ∃ v, e = .returned v ∧ Kd.R (Kd.int .i64) 3 w' w0.heap.size ok v (xs.filter fun x => !p x) ∧ Below w0.heap.size w0 w' ∧ Kept w w' ok := by
  have hc := indexFuncInt g lb p A c xs w (Kd.R_reads' hR).2.2 eg (fun W x hx hb => hp W x hx (below_step hB hb) (Kept.of_below hb _))
  have hlen : xs.length ≤ 9223372036854775807 := by have := (Kd.R_reads' hR).2.2.2.1; simpa using this
  by_cases hq : idxP p xs 0 = -1
  · have hf := Aside0.mk (idxP_none p xs 0 hq)
    rw [hq] at hc
    have HR := Aside0.mk hR
    have HB := Aside0.mk hB
    have HC := Aside0.mk hc
    clear hR hB hp hc eg hq
    go_enter Try.func59, Try.ntmps59
    go_wp2_with fail
    refine HC.out.mono ?_
    rintro e w' ⟨rfl, hb⟩
    go_wp2_with fail
    go_ret
    exact ⟨_, rfl, by rw [hf.out]; exact Kd.R_below HR.out hb, below_step HB.out hb, Kept.of_below hb _⟩
  · obtain ⟨k0, hk0, hi, hf⟩ := idxP_some p xs 0 hq
    rw [Nat.zero_add] at hi
    rw [hi] at hc
    obtain ⟨gb, cap, eA, hbg, hgw, _⟩ := Kd.R_form hR (by omega)
    have e1 := (Value.slice.inj eA).1
    have e2 := (Value.slice.inj eA).2.2
    subst e1 e2
    have hok : ok gb := hR.1 gb rfl
    have hne1 : ((k0 : Int) == -1) = false := beq_eq_false_iff_ne.2 (by omega)
    have HF := Aside0.mk hf
    have HR := Aside0.mk hR
    have HB := Aside0.mk hB
    have HC := Aside0.mk hc
    have HP := Aside0.mk hp
    have HOK := Aside0.mk (And.intro hok hbg)
    have hap : ∀ x, (⟨gb, 0, none⟩ : Addr).add x = ⟨gb, x, none⟩ := fun x => add_plain gb x
    have hcz : c ≤ 9223372036854775807 ∨ True := .inr trivial
    have hnc : xs.length ≤ c := (Kd.R_reads' hR).2.1
    clear hR hB hp hc hq hf hi eA hok hbg hcz
    go_enter Try.func59, Try.ntmps59
    go_wp2_with fail
    refine HC.out.mono ?_
    rintro e w1 ⟨rfl, hb1⟩
    have HB1 := Aside0.mk hb1
    clear hb1 HC
    go_wp2_with fail
    go_loopg [5, 6, 7] xs.length (fun gg s5 s6 _ wr => ∃ (i j : Nat) (cur : List Int), s5 = .int .i64 i ∧ s6 = .int .i64 j ∧ i < j ∧ j ≤ xs.length ∧ xs.length - j ≤ gg ∧ Aside0 (cur.length = xs.length ∧ cur.take i = (xs.take j).filter (fun x => !p x) ∧ cur.drop j = xs.drop j) ∧ Aside0 (Kd.R (Kd.int .i64) 3 wr w0.heap.size ok (.slice (some ⟨gb, 0, none⟩) xs.length c) cur) ∧ Aside0 (Below w0.heap.size w0 wr) ∧ Aside0 (Kept w wr ok))
    case atStart => exact ⟨k0, k0 + 1, xs, rfl, by go_num, by omega, by omega, by omega, ⟨rfl, HF.out.symm, rfl⟩, ⟨Kd.R_below HR.out HB1.out⟩, ⟨below_step HB.out HB1.out⟩, ⟨Kept.of_below HB1.out _⟩⟩
    case round =>
      clear HF HR HB HB1
      obtain ⟨i, j, cur, rfl, rfl, hij, hj, hgg, HL, HR, HB, HK⟩ := hrel
      by_cases hlt : j < xs.length
      · have hltz : (j : Int) < (xs.length : Int) := by omega
        have hcj := Kd.R_celln (enc := Value.int .i64) (h1 := fun _ => rfl) 0 HR.out (j : Int) (by omega) hltz
        have hd0 : xs.drop j = cur.getD j 0 :: xs.drop (j + 1) := by
          have h3 := HL.out.2.2
          have h4 : cur.drop j = cur.getD j 0 :: cur.drop (j + 1) := by
            rw [List.getD_eq_getElem?_getD, List.getElem?_eq_getElem (by rw [HL.out.1]; omega)]; exact List.drop_eq_getElem_cons (by rw [HL.out.1]; omega)
          have h5 := congrArg List.tail h3
          rw [List.tail_drop, List.tail_drop] at h5
          rw [← h3, h4, h5]
        rw [Int.toNat_natCast] at hcj
        unfold rdOf at hcj
        rw [Int.toNat_natCast] at hcj
        have hcellj := hcj.1
        have hmem : cur.getD j 0 ∈ xs := List.drop_subset j xs (by rw [hd0]; exact List.mem_cons_self)
        have hcall := HP.out wr (cur.getD j 0) hmem HB.out HK.out
        clear hmem hcj
        generalize cur.getD j 0 = y at hcellj hcall hd0
        have htk : (xs.take (j + 1)).filter (fun x => !p x) = (xs.take j).filter (fun x => !p x) ++ (if p y then [] else [y]) := by
          have : xs.take (j + 1) = xs.take j ++ [y] := by
            rw [List.take_add, hd0]; rfl
          rw [this, List.filter_append]
          congr 1
          cases hpy : p y <;> simp [hpy]
        have HD := Aside0.mk htk
        have HD0 := Aside0.mk hd0
        clear htk hd0
        cases hq : p y with
        | true =>
          rw [hq] at hcall HD
          have HC := Aside0.mk hcall
          clear hcall hq
          go_wp2_with fail
          refine HC.out.mono ?_
          rintro e w' ⟨rfl, hb'⟩
          go_wp2_with fail
          go_roundg (xs.length - (j + 1))
          case measure => omega
          case rel =>
            have hh := HD.out
            simp only [if_true, List.append_nil] at hh
            exact ⟨i, j + 1, cur, rfl, by go_num, by omega, by omega, Nat.le_refl _, ⟨HL.out.1, by rw [hh]; exact HL.out.2.1, by have h5 := congrArg List.tail HL.out.2.2; rwa [List.tail_drop, List.tail_drop] at h5⟩, ⟨Kd.R_below HR.out hb'⟩, ⟨below_step HB.out hb'⟩, ⟨HK.out.below hb'⟩⟩
        | false =>
          rw [hq] at hcall HD
          have HC := Aside0.mk hcall
          clear hcall hq
          go_wp2_with fail
          refine HC.out.mono ?_
          rintro e w' ⟨rfl, hb'⟩
          have HR' := Aside0.mk (Kd.R_below HR.out hb')
          have HB' := Aside0.mk (below_step HB.out hb')
          have HK' := Aside0.mk (HK.out.below hb')
          clear hb' HR HB HK HC
          have hiz : (i : Int) < (xs.length : Int) := by omega
          obtain ⟨hci, hfi⟩ := Kd.R_celln (enc := Value.int .i64) (h1 := fun _ => rfl) 0 HR'.out (i : Int) (by omega) hiz
          have HPUT := Aside0.mk (Kd.R_putg (enc := Value.int .i64) (h1 := fun _ => rfl) HR'.out (i : Int) y)
          rw [Int.toNat_natCast] at hci hfi HPUT
          go_wp2_with fail
          go_roundg (xs.length - (j + 1))
          case measure => omega
          case rel =>
            have hh := HD.out
            simp only [Bool.false_eq_true, if_false] at hh
            refine ⟨i + 1, j + 1, cur.set i y, by go_num, by go_num, by omega, by omega, Nat.le_refl _, ⟨by rw [List.length_set]; exact HL.out.1, ?_, ?_⟩, ⟨HPUT.out.1⟩, ⟨HB'.out.grown HPUT.out.2 HB'.out.size (fun k e => by injection e with e; subst e; exact HOK.out.2)⟩, ⟨Kept.of_grown HPUT.out.2 HK'.out (fun k e => .inl (by injection e with e; subst e; exact HOK.out.1))⟩⟩
            · rw [hh, ← HL.out.2.1, List.take_succ_eq_append_getElem (by rw [List.length_set, HL.out.1]; omega), List.take_set_of_le (Nat.le_refl _), List.getElem_set_self]
            · rw [List.drop_set_of_lt (by omega)]
              have h5 := congrArg List.tail HL.out.2.2
              rwa [List.tail_drop, List.tail_drop] at h5
      · have hjn : j = xs.length := by omega
        subst hjn
        have hltz : ¬ (xs.length : Int) < (xs.length : Int) := by omega
        have hcl : ∀ ty, (Builtin.clear_ #[29] ty #[.slice (some ⟨gb, i, none⟩) (xs.length - i) (c - i)]).run Try.prog wr = .ok (.tuple #[]) (wr.setCells gb i (List.replicate (xs.length - i) (.int .i64 0))) :=
          fun ty => Lib.run_clear_slice wr _ _ ty _ Try.underlying29 Try.zeroValue3 rfl rfl gb i _ _ (by omega)
            (fun t ht => by
              have := (Kd.R_celln (enc := Value.int .i64) (h1 := fun _ => rfl) 0 HR.out ((i + t : Nat) : Int) (by omega) (by omega)).1
              rw [Int.toNat_natCast] at this; rw [this]; rfl)
            (fun t ht => by
              have := (Kd.R_celln (enc := Value.int .i64) (h1 := fun _ => rfl) 0 HR.out ((i + t : Nat) : Int) (by omega) (by omega)).2
              rwa [Int.toNat_natCast] at this)
        have HCLR := Aside0.mk (R_clear HOK.out.1 HOK.out.2 (xs.length - i) i wr cur HR.out)
        have hil : i ≤ xs.length := by omega
        go_wp2
        go_ret
        obtain ⟨ys, h1, h2, h3, h4, h5⟩ := HCLR.out
        refine ⟨_, rfl, ?_, h5 w0 rfl HB.out, HK.out.then_ h4 (fun k hk => .inl hk)⟩
        have hfl : (xs.filter fun x => !p x) = ys.take i := by
          rw [h2, HL.out.2.1, List.take_length]
        rw [hfl]
        exact Kd.R_take h1 (by rw [h3, HL.out.1]; omega)
end Go.Proofs.Ythjgcapfojhfjaa.P
