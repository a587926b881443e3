import Derived.Test.YthjgcapfojhfjaaS9
import Derived.Test.YthjgcapfojhfjaaP11
import Derived.Test.YthjgcapfojhfjaaP11
import Derived.Test.YthjgcapfojhfjaaP12
import Derived.Test.YthjgcapfojhfjaaP10
import Derived.Laws.Bits64b
namespace Go.Proofs.Ythjgcapfojhfjaa.P
open Go.RowKit Go.Proofs.YthjgcapfojhfjaaW.PrintWords
theorem and255 (x : Int) (h0 : 0 ≤ x) (h1 : x < 18446744073709551616) : 0 ≤ Go.bits .and .u64 x 255 ∧ Go.bits .and .u64 x 255 ≤ 255 := by
  have h := bits_and_u64_nat x.toNat 255 (by omega) (by omega)
  have hx : ((x.toNat : Nat) : Int) = x := by omega
  rw [hx] at h
  rw [show (255 : Int) = ((255 : Nat) : Int) from rfl, h]
  have := Nat.and_le_right (n := x.toNat) (m := 255)
  omega
theorem u64_bd (n : Int) : 0 ≤ IntKind.u64.wrap n ∧ IntKind.u64.wrap n < 18446744073709551616 := by rw [IntKind.wrap_u64]; omega
/-- a byte slice that can be drawn from -/
def Bytes (s : List Int) : Prop := s.length ≤ 1099511627776 ∧ ∀ x ∈ s, 0 ≤ x ∧ x ≤ 255
theorem rd_bd {s : List Int} (h : Bytes s) (i : Int) : 0 ≤ rd s i ∧ rd s i ≤ 255 := by
  unfold rd
  rw [List.getD_eq_getElem?_getD]
  cases e : s[i.toNat]? with
  | none => exact ⟨by simp, by simp⟩
  | some v => exact h.2 v (List.mem_of_getElem? e)
theorem next_tot {s : List Int} (hs : Bytes s) (i h : Int) (h0 : 0 ≤ i) (h1 : i ≤ 4000000000000000000) : ∃ v h', spec_l1Cur_next.f s i h = some (v, i + 1, h') ∧ 0 ≤ v ∧ v ≤ 255 := by
  have hr := rd_bd hs i
  have hwr : wrap64 (rd s i) = rd s i := by unfold wrap64; omega
  have hw1 : wrap64 (i + 1) = i + 1 := wr_succ h0 (by omega)
  have hb : ∀ n : Int, 0 ≤ wrap64 (Go.bits .and .u64 (IntKind.u64.wrap n / 1099511627776) 255) ∧ wrap64 (Go.bits .and .u64 (IntKind.u64.wrap n / 1099511627776) 255) ≤ 255 := fun n => by
    have hu := u64_bd n
    have h2 := and255 (IntKind.u64.wrap n / 1099511627776) (by omega) (by omega)
    generalize Go.bits .and .u64 (IntKind.u64.wrap n / 1099511627776) 255 = y at h2 ⊢
    unfold wrap64; omega
  unfold spec_l1Cur_next.f
  rw [hw1, hwr]
  by_cases c1 : i < (s.length : Int)
  · rw [if_pos c1, if_pos h0]
    by_cases c2 : i + 1 ≤ (s.length : Int)
    · rw [if_pos c2]; exact ⟨_, _, rfl, hr⟩
    · rw [if_neg c2]; exact ⟨_, _, rfl, hb _⟩
  · rw [if_neg c1]
    by_cases c2 : i + 1 ≤ (s.length : Int)
    · rw [if_pos c2]; exact ⟨_, _, rfl, by omega, by omega⟩
    · rw [if_neg c2]; exact ⟨_, _, rfl, hb _⟩
theorem pick_tot {s : List Int} (hs : Bytes s) (i h n : Int) (h0 : 0 ≤ i) (h1 : i ≤ 3000000000000000000) : ∃ v i' h', spec_l1Cur_pick.f s i h n = some (v, i', h') ∧ 0 ≤ v ∧ (v = 0 ∨ v < n) ∧ i ≤ i' ∧ i' ≤ i + 2 := by
  unfold spec_l1Cur_pick.f
  by_cases c : n ≤ 1
  · rw [if_pos c]; exact ⟨0, i, h, rfl, by omega, .inl rfl, by omega, by omega⟩
  · rw [if_neg c]
    obtain ⟨v, h', e, b0, b1⟩ := next_tot hs i h h0 (by omega)
    rw [e, Option.bind_some]
    by_cases c2 : n > 200
    · rw [if_pos c2]
      obtain ⟨v2, h2, e2, b2, b3⟩ := next_tot hs (i + 1) h' (by omega) (by omega)
      rw [e2, Option.bind_some, if_neg (by omega)]
      have hw : wrap64 (wrap64 (v * 256) + v2) = v * 256 + v2 := by unfold wrap64; omega
      refine ⟨_, _, _, rfl, ?_, ?_, by show i ≤ i + 1 + 1; omega, by show i + 1 + 1 ≤ i + 2; omega⟩
      · show 0 ≤ Int.tmod (wrap64 (wrap64 (v * 256) + v2)) n
        rw [hw]; exact Int.tmod_nonneg _ (by omega)
      · show _ ∨ Int.tmod (wrap64 (wrap64 (v * 256) + v2)) n < n
        exact .inr (Int.tmod_lt_of_pos _ (by omega))
    · rw [if_neg c2, if_neg (by omega)]
      exact ⟨_, _, _, rfl, Int.tmod_nonneg _ b0, .inr (Int.tmod_lt_of_pos _ (by omega)), by show i ≤ i + 1; omega, by show i + 1 ≤ i + 2; omega⟩
theorem one_tot {s : List Int} (hs : Bytes s) (i h n : Int) (h0 : 0 ≤ i) (h1 : i ≤ 3000000000000000000) : ∃ b i' h', spec_l1Cur_one.f s i h n = some (b, i', h') ∧ i ≤ i' ∧ i' ≤ i + 2 := by
  obtain ⟨v, i', h', e, _, _, b1, b2⟩ := pick_tot hs i h n h0 h1
  exact ⟨_, i', h', by unfold spec_l1Cur_one.f; rw [e, Option.bind_some], b1, b2⟩
theorem among_tot {s : List Int} (hs : Bytes s) (i h : Int) (l : List Int) (h0 : 0 ≤ i) (h1 : i ≤ 3000000000000000000) (hl : 0 < l.length) : ∃ v i' h', spec_l1Cur_among.f s i h l = some (v, i', h') ∧ v ∈ l ∧ i ≤ i' ∧ i' ≤ i + 2 := by
  obtain ⟨v, i', h', e, b0, b1, b2, b3⟩ := pick_tot hs i h (l.length : Int) h0 h1
  refine ⟨rd l v, i', h', by unfold spec_l1Cur_among.f; rw [e, Option.bind_some, if_pos b0, if_pos (by show v < _; omega)], ?_, b2, b3⟩
  have := rd_mem l v.toNat (by omega)
  rwa [show ((v.toNat : Nat) : Int) = v from by omega] at this
theorem lit_tot {s : List Int} (hs : Bytes s) (i h n : Int) (h0 : 0 ≤ i) (h1 : i ≤ 2000000000000000000) : ∃ v i' h', spec_l1Cur_lit.f s i h n = some (v, i', h') ∧ i ≤ i' ∧ i' ≤ i + 4 := by
  obtain ⟨v, i1, h2, e, _, _, b1, b2⟩ := pick_tot hs i h n h0 (by omega)
  obtain ⟨b, i3, h4, e2, b3, b4⟩ := one_tot hs i1 h2 2 (by omega) (by omega)
  unfold spec_l1Cur_lit.f
  rw [e, Option.bind_some]
  show ∃ v i' h', ((spec_l1Cur_one.f s i1 h2 2).bind _) = _ ∧ _
  rw [e2, Option.bind_some]
  cases b with
  | true => rw [if_pos rfl]; exact ⟨_, _, _, rfl, by show i ≤ i3; omega, by show i3 ≤ i + 4; omega⟩
  | false => rw [if_neg (by simp)]; exact ⟨_, _, _, rfl, by show i ≤ i3; omega, by show i3 ≤ i + 4; omega⟩
theorem among3_tot {s : List Int} (hs : Bytes s) (i h : Int) (h0 : 0 ≤ i) (h1 : i ≤ 3000000000000000000) : ∃ v i' h', spec_l1Cur_among3.f s i h = some (v, i', h') ∧ v.length ≤ 3 ∧ i ≤ i' ∧ i' ≤ i + 2 := by
  obtain ⟨b, i3, h4, e2, b3, b4⟩ := one_tot hs i h 2 h0 h1
  unfold spec_l1Cur_among3.f
  rw [e2, Option.bind_some]
  cases b with
  | true => rw [if_pos rfl]; exact ⟨_, _, _, rfl, by simp, b3, b4⟩
  | false => rw [if_neg (by simp)]; exact ⟨_, _, _, rfl, by simp, b3, b4⟩
theorem clean_ev (l : List Int) (hl : l.length ≤ 40) : ∃ r ok, Ev (fun k => spec_CleanClause.f k l) (r, ok) ∧ r.length ≤ l.length := by
  have key : ∀ d n (c : List Int), n ≤ l.length → l.length - n = d → c.length ≤ n → ∃ r ok, Ev (fun k => spec_CleanClause.l0 k c l (l.length : Int) (n : Int)) (r, ok) ∧ r.length ≤ l.length := by
    intro d
    induction d with
    | zero =>
      intro n c hn hd hc
      refine ⟨c, true, Ev.one (fun k => ?_), by omega⟩
      simp only [spec_CleanClause.l0]; rw [if_neg (by omega)]
    | succ d ih =>
      intro n c hn hd hc
      have c1 := has_ev c (rd l (n : Int)) (by omega)
      obtain ⟨r, ok, f1, f2⟩ := ih (n + 1) c (by omega) (by omega) (by omega)
      obtain ⟨r', ok', f1', f2'⟩ := ih (n + 1) (c ++ [rd l (n : Int)]) (by omega) (by omega) (by simp; omega)
      have hj : ∀ b, ∃ r ok, Ev (fun k => spec_CleanClause.j1 k c (rd l (n : Int)) l (l.length : Int) (n : Int) b) (r, ok) ∧ r.length ≤ l.length := fun b => by
        cases b with
        | true =>
          refine ⟨[], false, Ev.one (fun k => ?_), by simp⟩
          simp only [spec_CleanClause.j1]; rw [if_pos trivial]
        | false =>
          have go : ∀ k, spec_CleanClause.j1 (k + 1) c (rd l (n : Int)) l (l.length : Int) (n : Int) false = (spec_l1Has.f k c (rd l (n : Int))).bind fun t => if t = true then spec_CleanClause.l0 k c l (l.length : Int) ((n + 1 : Nat) : Int) else spec_CleanClause.l0 k (c ++ [rd l (n : Int)]) l (l.length : Int) ((n + 1 : Nat) : Int) := fun k => by
            simp only [spec_CleanClause.j1]; rw [if_neg (by simp), wr_succ (by omega) (by omega), if_pos (show c.length < 17592186044416 by omega)]; rfl
          cases hb : c.contains (rd l (n : Int)) with
          | true =>
            rw [hb] at c1
            exact ⟨r, ok, Ev.step go (Ev.bind (f := fun k t => if t = true then spec_CleanClause.l0 k c l (l.length : Int) ((n + 1 : Nat) : Int) else spec_CleanClause.l0 k (c ++ [rd l (n : Int)]) l (l.length : Int) ((n + 1 : Nat) : Int)) c1 (Ev.congr (fun k => if_pos rfl) f1)), f2⟩
          | false =>
            rw [hb] at c1
            exact ⟨r', ok', Ev.step go (Ev.bind (f := fun k t => if t = true then spec_CleanClause.l0 k c l (l.length : Int) ((n + 1 : Nat) : Int) else spec_CleanClause.l0 k (c ++ [rd l (n : Int)]) l (l.length : Int) ((n + 1 : Nat) : Int)) c1 (Ev.congr (fun k => if_neg (by simp)) f1')), f2'⟩
      have c2 := has_ev c (wrap64 (-(rd l (n : Int)))) (by omega)
      have go : ∀ k, spec_CleanClause.l0 (k + 1) c l (l.length : Int) (n : Int) = if rd l (n : Int) = 0 then spec_CleanClause.j1 k c (rd l (n : Int)) l (l.length : Int) (n : Int) true else if (decide (-12 ≤ rd l (n : Int)) && decide (rd l (n : Int) ≤ 12)) = true then (spec_l1Has.f k c (wrap64 (-(rd l (n : Int))))).bind fun t => spec_CleanClause.j1 k c (rd l (n : Int)) l (l.length : Int) (n : Int) t else spec_CleanClause.j1 k c (rd l (n : Int)) l (l.length : Int) (n : Int) true := fun k => by
        simp only [spec_CleanClause.l0]; rw [if_pos (by omega), if_pos (by omega), if_pos (by omega), l1In_f, Option.bind_some]
      by_cases hz : rd l (n : Int) = 0
      · obtain ⟨r, ok, g1, g2⟩ := hj true
        exact ⟨r, ok, Ev.step go (Ev.congr (fun k => if_pos hz) g1), g2⟩
      · by_cases hi : (decide (-12 ≤ rd l (n : Int)) && decide (rd l (n : Int) ≤ 12)) = true
        · obtain ⟨r, ok, g1, g2⟩ := hj (c.contains (wrap64 (-(rd l (n : Int)))))
          exact ⟨r, ok, Ev.step go (Ev.congr (fun k => by rw [if_neg hz, if_pos hi]) (Ev.bind (f := fun k t => spec_CleanClause.j1 k c (rd l (n : Int)) l (l.length : Int) (n : Int) t) c2 g1)), g2⟩
        · obtain ⟨r, ok, g1, g2⟩ := hj true
          exact ⟨r, ok, Ev.step go (Ev.congr (fun k => by rw [if_neg hz, if_neg hi]) g1), g2⟩
  obtain ⟨r, ok, h1, h2⟩ := key _ 0 [] (by omega) rfl (by simp)
  exact ⟨r, ok, Ev.congr (fun k => by unfold spec_CleanClause.f; rw [if_neg (by omega)]; rfl) h1, h2⟩
end Go.Proofs.Ythjgcapfojhfjaa.P
