import Derived.Test.YthjgcapfojhfjaaP3
import Derived.Test.YthjgcapfojhfjaaP5
import Derived.Test.YthjgcapfojhfjaaP5
/-
  What the printed functions compute: lists, clauses (no program and no memory here).
-/
namespace Go.Proofs.Ythjgcapfojhfjaa.P
open Go.RowKit Go.Proofs.YthjgcapfojhfjaaW.PrintWords

theorem wr_succ {i : Int} (h0 : 0 ≤ i) (h : i < 9223372036854775807) : wrap64 (i + 1) = i + 1 := by unfold wrap64; omega
theorem evEq {α : Type} {g : Nat → Option α} {r r' : α} (h : Ev g r) (e : r = r') : Ev g r' := e ▸ h
theorem Ev.unique {α : Type} {g : Nat → Option α} {r r' : α} (h : Ev g r) (h' : Ev g r') : r = r' := by
  obtain ⟨K, h⟩ := h
  obtain ⟨K', h'⟩ := h'
  have := h (max K K') (by omega)
  rw [h' (max K K') (by omega)] at this
  exact (Option.some.inj this).symm
theorem Ev.one {α : Type} {g : Nat → Option α} {r : α} (h : ∀ k, g (k + 1) = some r) : Ev g r := ⟨1, fun k hk => by obtain ⟨m, rfl⟩ : ∃ m, k = m + 1 := ⟨k - 1, by omega⟩; exact h m⟩
theorem Ev.all {α : Type} {g : Nat → Option α} {r : α} (h : ∀ k, g k = some r) : Ev g r := ⟨0, fun k _ => h k⟩
/-- two calls, the second's answer by the first's -/
theorem rd_nat (xs : List Int) (n : Nat) : rd xs (n : Int) = xs.getD n 0 := by unfold rd; rw [Int.toNat_natCast]
theorem rdL_nat (xs : List (List Int)) (n : Nat) : rd_L1 xs (n : Int) = xs.getD n [] := by unfold rd_L1; rw [Int.toNat_natCast]
theorem dropL (xs : List (List Int)) (n : Nat) (h : n < xs.length) : xs.drop n = xs.getD n [] :: xs.drop (n + 1) := by
  rw [List.getD_eq_getElem?_getD, List.getElem?_eq_getElem h]; exact List.drop_eq_getElem_cons h
theorem memL (xs : List (List Int)) (n : Nat) (h : n < xs.length) : xs.getD n [] ∈ xs := by
  rw [List.getD_eq_getElem?_getD, List.getElem?_eq_getElem h]; exact List.getElem_mem _

/-- l1Has -/
theorem has_ev (l : List Int) (x : Int) (hl : l.length ≤ 9223372036854775807) : Ev (fun k => spec_l1Has.f k l x) (l.contains x) := by
  have key : ∀ d n, n ≤ l.length → l.length - n = d → Ev (fun k => spec_l1Has.l0 k x l (l.length : Int) (n : Int)) ((l.drop n).contains x) := by
    intro d
    induction d with
    | zero =>
      intro n hn hd
      refine Ev.one (fun k => ?_)
      simp only [spec_l1Has.l0]
      rw [if_neg (by omega), show n = l.length from by omega, List.drop_length]; rfl
    | succ d ih =>
      intro n hn hd
      have hlt : n < l.length := by omega
      have hdr := drop_rd l n hlt
      by_cases e : rd l n = x
      · refine Ev.one (fun k => ?_)
        simp only [spec_l1Has.l0]
        rw [if_pos (by omega), if_pos (by omega), if_pos (by omega), if_pos e, hdr]
        rw [List.contains_cons, e]; simp
      · refine evEq (Ev.step (f := fun k => spec_l1Has.l0 k x l (l.length : Int) ((n + 1 : Nat) : Int)) (fun k => ?_) (ih (n + 1) (by omega) (by omega))) ?_
        · simp only [spec_l1Has.l0]
          rw [if_pos (by omega), if_pos (by omega), if_pos (by omega), if_neg e, wr_succ (by omega) (by omega)]; rfl
        · rw [hdr, List.contains_cons]
          have : (x == rd l n) = false := by simpa using fun h => e h.symm
          rw [this, Bool.false_or]
  exact key _ 0 (by omega) rfl

/-- slices.Contains -/
theorem contains_ev (l : List Int) (x : Int) (hl : l.length ≤ 9223372036854775807) : Ev (fun k => slices_Contains_int_int.f k l x) (l.contains x) := by
  have key : ∀ d n, n ≤ l.length → l.length - n = d → ∃ r, Ev (fun k => slices_Index_int_int.l0 k l x (l.length : Int) (n : Int)) r ∧ decide (r ≥ 0) = (l.drop n).contains x := by
    intro d
    induction d with
    | zero =>
      intro n hn hd
      refine ⟨-1, Ev.one (fun k => ?_), ?_⟩
      · simp only [slices_Index_int_int.l0]
        rw [if_neg (by omega)]
      · rw [show n = l.length from by omega, List.drop_length]; rfl
    | succ d ih =>
      intro n hn hd
      have hlt : n < l.length := by omega
      have hdr := drop_rd l n hlt
      by_cases e : x = rd l n
      · refine ⟨(n : Int), Ev.one (fun k => ?_), ?_⟩
        · simp only [slices_Index_int_int.l0]
          rw [if_pos (by omega), if_pos (by omega), if_pos (by omega), if_pos e]
        · rw [hdr, List.contains_cons, ← e]; simp
      · obtain ⟨r, hr, hd2⟩ := ih (n + 1) (by omega) (by omega)
        refine ⟨r, Ev.step (f := fun k => slices_Index_int_int.l0 k l x (l.length : Int) ((n + 1 : Nat) : Int)) (fun k => ?_) hr, ?_⟩
        · simp only [slices_Index_int_int.l0]
          rw [if_pos (by omega), if_pos (by omega), if_pos (by omega), if_neg e, wr_succ (by omega) (by omega)]; rfl
        · rw [hdr, List.contains_cons, hd2]
          have : (x == rd l n) = false := by simpa using e
          rw [this, Bool.false_or]
  obtain ⟨r, hr, hd⟩ := key _ 0 (by omega) rfl
  refine evEq (Ev.bind (f := fun _ t => some (decide (t ≥ 0))) hr (Ev.now _)) ?_
  rw [hd, List.drop_zero]

/-- sz: what is left of a bound -/
theorem szIntS_eq (l : List Int) (a : Int) (h0 : 0 ≤ a) (h1 : a ≤ 1048576) (hl : l.length ≤ maxLen) : laws_szIntS.f l a = some (if (l.length : Int) ≤ a then a - l.length else -1) := by
  unfold maxLen at hl
  have hw : wrap64 (a - (l.length : Int)) = a - l.length := by unfold wrap64; omega
  unfold laws_szIntS.f
  rw [hw]
  by_cases h : (l.length : Int) ≤ a
  · rw [if_neg (by omega), if_pos h]
  · rw [if_pos (by omega), if_neg h]
def sumLen (l : List (List Int)) : Nat := (l.map List.length).sum
theorem szIntSS_ev (l : List (List Int)) (hl : l.length ≤ maxLen) (hx : ∀ c ∈ l, c.length ≤ maxLen) : ∃ t, Ev (fun k => laws_szIntSS.f k l 1048576) t ∧ (t < 0 ∨ (0 ≤ t ∧ l.length + sumLen l ≤ 1048576)) := by
  have hl' := hl
  unfold maxLen at hl'
  have hw : wrap64 (1048576 - (l.length : Int)) = 1048576 - l.length := by unfold wrap64; omega
  by_cases hs : (l.length : Int) ≤ 1048576
  · have key : ∀ d n (a : Int), n ≤ l.length → l.length - n = d → 0 ≤ a → a ≤ 1048576 → ∃ t, Ev (fun k => laws_szIntSS.l0 k l a (n : Int)) t ∧ (t < 0 ∨ (0 ≤ t ∧ (sumLen (l.drop n) : Int) ≤ a)) := by
      intro d
      induction d with
      | zero =>
        intro n a hn hd h0 h1
        refine ⟨a, Ev.one (fun k => ?_), .inr ⟨h0, ?_⟩⟩
        · simp only [laws_szIntSS.l0]; rw [if_neg (by omega)]
        · rw [show n = l.length from by omega, List.drop_length]; simp [sumLen]; exact h0
      | succ d ih =>
        intro n a hn hd h0 h1
        have hlt : n < l.length := by omega
        have hsz := szIntS_eq (l.getD n []) a h0 h1 (hx _ (memL l n hlt))
        by_cases hc : ((l.getD n []).length : Int) ≤ a
        · rw [if_pos hc] at hsz
          obtain ⟨t, ht, hp⟩ := ih (n + 1) (a - (l.getD n []).length) (by omega) (by omega) (by omega) (by omega)
          refine ⟨t, Ev.step (f := fun k => laws_szIntSS.l0 k l (a - (l.getD n []).length) ((n + 1 : Nat) : Int)) (fun k => ?_) ht, ?_⟩
          · simp only [laws_szIntSS.l0]
            rw [if_pos (by omega), if_pos (by omega), rdL_nat, hsz, Option.bind_some, if_neg (by omega), wr_succ (by omega) (by omega)]; rfl
          · rcases hp with hp | ⟨hp, hq⟩
            · exact .inl hp
            · refine .inr ⟨hp, ?_⟩
              rw [dropL l n hlt]; simp only [sumLen, List.map_cons, List.sum_cons] at hq ⊢; omega
        · rw [if_neg hc] at hsz
          refine ⟨-1, Ev.one (fun k => ?_), .inl (by omega)⟩
          simp only [laws_szIntSS.l0]
          rw [if_pos (by omega), if_pos (by omega), rdL_nat, hsz, Option.bind_some, if_pos (by omega)]
    obtain ⟨t, ht, hp⟩ := key _ 0 (1048576 - l.length) (by omega) rfl (by omega) (by omega)
    refine ⟨t, Ev.congr (fun k => ?_) ht, ?_⟩
    · unfold laws_szIntSS.f; rw [hw, if_neg (by omega)]; rfl
    · rcases hp with hp | ⟨hp, hq⟩
      · exact .inl hp
      · exact .inr ⟨hp, by rw [List.drop_zero] at hq; omega⟩
  · refine ⟨-1, Ev.all (fun k => ?_), .inl (by omega)⟩
    unfold laws_szIntSS.f; rw [hw, if_pos (by omega)]
theorem sumLen_le (l : List (List Int)) : ∀ c ∈ l, c.length ≤ sumLen l := by
  induction l with
  | nil => intro c h; simp at h
  | cons a l ih =>
    intro c h
    simp only [sumLen, List.map_cons, List.sum_cons]
    rcases List.mem_cons.1 h with rfl | h
    · omega
    · have := ih c h; unfold sumLen at this; omega

/-- toIntS: a copy -/
theorem toIntS_ev (l : List Int) (hl : l.length ≤ 1048576) : Ev (fun k => laws_toIntS.f k l) l := by
  have key : ∀ d n (y : List Int), n ≤ l.length → l.length - n = d → y.length = l.length → y.take n = l.take n → Ev (fun k => laws_toIntS.l0 k l y (n : Int)) l := by
    intro d
    induction d with
    | zero =>
      intro n y hn hd hy ht
      refine evEq (Ev.one (r := y) (fun k => ?_)) ?_
      · simp only [laws_toIntS.l0]; rw [if_neg (by omega)]
      · rw [show n = l.length from by omega, List.take_length, ← hy, List.take_length] at ht; exact ht
    | succ d ih =>
      intro n y hn hd hy ht
      have hlt : n < l.length := by omega
      refine Ev.step (f := fun k => laws_toIntS.l0 k l (y.set n (rd l n)) ((n + 1 : Nat) : Int)) (fun k => ?_) (ih (n + 1) _ (by omega) (by omega) (by simp [hy]) ?_)
      · simp only [laws_toIntS.l0]
        rw [if_pos (by omega), if_pos (by omega), if_pos (by omega), wr_succ (by omega) (by omega), Int.toNat_natCast]; rfl
      · rw [take_rd l n hlt, ← ht]
        apply List.ext_getElem?
        intro i
        by_cases h1 : i < n
        · rw [List.getElem?_take_of_lt (by omega), List.getElem?_set_ne (by omega), List.getElem?_append_left (by rw [List.length_take]; omega), List.getElem?_take_of_lt h1]
        · by_cases h2 : i = n
          · subst h2
            rw [List.getElem?_take_of_lt (by omega), List.getElem?_set_self (by omega), List.getElem?_append_right (by rw [List.length_take]; omega)]
            rw [List.length_take, show i - min i y.length = 0 from by omega]; rfl
          · rw [List.getElem?_eq_none (by rw [List.length_take]; omega), List.getElem?_eq_none (by rw [List.length_append, List.length_take, List.length_singleton]; omega)]
  refine Ev.congr (fun k => ?_) (key _ 0 (List.replicate l.length 0) (by omega) rfl (by simp) (by simp))
  unfold laws_toIntS.f
  rw [if_pos (by omega), if_pos (by rw [Int.toNat_natCast]; omega), Int.toNat_natCast]; rfl
theorem takeL (xs : List (List Int)) (k : Nat) (h : k < xs.length) : xs.take (k + 1) = xs.take k ++ [xs.getD k []] := by
  rw [List.getD_eq_getElem?_getD, List.getElem?_eq_getElem h]; exact (List.take_succ_eq_append_getElem h).trans rfl
theorem toIntSS_ev (l : List (List Int)) (hl : l.length ≤ 1048576) (hx : ∀ c ∈ l, c.length ≤ 1048576) : Ev (fun k => laws_toIntSS.f k l) l := by
  have key : ∀ d n (y : List (List Int)), n ≤ l.length → l.length - n = d → y.length = l.length → y.take n = l.take n → Ev (fun k => laws_toIntSS.l0 k l y (n : Int)) l := by
    intro d
    induction d with
    | zero =>
      intro n y hn hd hy ht
      refine evEq (Ev.one (r := y) (fun k => ?_)) ?_
      · simp only [laws_toIntSS.l0]; rw [if_neg (by omega)]
      · rw [show n = l.length from by omega, List.take_length, ← hy, List.take_length] at ht; exact ht
    | succ d ih =>
      intro n y hn hd hy ht
      have hlt : n < l.length := by omega
      have hset : (y.set n (l.getD n [])).take (n + 1) = l.take (n + 1) := by
        rw [takeL l n hlt, ← ht]
        apply List.ext_getElem?
        intro i
        by_cases h1 : i < n
        · rw [List.getElem?_take_of_lt (by omega), List.getElem?_set_ne (by omega), List.getElem?_append_left (by rw [List.length_take]; omega), List.getElem?_take_of_lt h1]
        · by_cases h2 : i = n
          · subst h2
            rw [List.getElem?_take_of_lt (by omega), List.getElem?_set_self (by omega), List.getElem?_append_right (by rw [List.length_take]; omega)]
            rw [List.length_take, show i - min i y.length = 0 from by omega]; rfl
          · rw [List.getElem?_eq_none (by rw [List.length_take]; omega), List.getElem?_eq_none (by rw [List.length_append, List.length_take, List.length_singleton]; omega)]
      refine Ev.step (f := fun k => (laws_toIntS.f k (l.getD n [])).bind fun t => laws_toIntSS.l0 k l (y.set n t) ((n + 1 : Nat) : Int)) (fun k => ?_) (Ev.bind (f := fun k t => laws_toIntSS.l0 k l (y.set n t) ((n + 1 : Nat) : Int)) (toIntS_ev _ (hx _ (memL l n hlt))) (ih (n + 1) _ (by omega) (by omega) (by simp [hy]) hset))
      simp only [laws_toIntSS.l0]
      rw [if_pos (by omega), if_pos (by omega), rdL_nat]
      congr 1; funext t
      rw [if_pos (by omega), wr_succ (by omega) (by omega), Int.toNat_natCast]; rfl
  refine Ev.congr (fun k => ?_) (key _ 0 (List.replicate l.length []) (by omega) rfl (by simp) (by simp))
  unfold laws_toIntSS.f
  rw [if_pos (by omega), if_pos (by rw [Int.toNat_natCast]; omega), Int.toNat_natCast]; rfl

/-- eqIntS: equality -/
theorem eqIntS_ev (a b : List Int) (ha : a.length ≤ 9223372036854775807) : Ev (fun k => laws_eqIntS.f k a b) (decide (a = b)) := by
  by_cases hl : a.length = b.length
  · have key : ∀ d n, n ≤ a.length → a.length - n = d → Ev (fun k => laws_eqIntS.l0 k a b (n : Int)) (decide (a.drop n = b.drop n)) := by
      intro d
      induction d with
      | zero =>
        intro n hn hd
        refine Ev.one (fun k => ?_)
        simp only [laws_eqIntS.l0]
        rw [if_neg (by omega), List.drop_eq_nil_of_le (by omega), List.drop_eq_nil_of_le (by omega)]; rfl
      | succ d ih =>
        intro n hn hd
        have hlt : n < a.length := by omega
        rw [drop_rd a n hlt, drop_rd b n (by omega)]
        by_cases e : rd a n = rd b n
        · refine evEq (Ev.step (f := fun k => laws_eqIntS.l0 k a b ((n + 1 : Nat) : Int)) (fun k => ?_) (ih (n + 1) (by omega) (by omega))) ?_
          · simp only [laws_eqIntS.l0]
            rw [if_pos (by omega), if_pos (by omega), if_pos (by omega), if_pos e, wr_succ (by omega) (by omega)]; rfl
          · rw [e]; simp
        · refine Ev.one (fun k => ?_)
          simp only [laws_eqIntS.l0]
          rw [if_pos (by omega), if_pos (by omega), if_pos (by omega), if_neg e]
          rw [decide_eq_false (by intro h; exact e (List.cons.inj h).1)]
    refine (Ev.congr (fun k => ?_) (key _ 0 (by omega) rfl))
    unfold laws_eqIntS.f; rw [if_pos (by omega)]; rfl
  · refine Ev.all (fun k => ?_)
    unfold laws_eqIntS.f; rw [if_neg (by omega), decide_eq_false (by rintro rfl; exact hl rfl)]
theorem eqIntSS_refl (a : List (List Int)) (ha : a.length ≤ 1048576) (hx : ∀ c ∈ a, c.length ≤ 1048576) : Ev (fun k => laws_eqIntSS.f k a a) true := by
  have key : ∀ d n, n ≤ a.length → a.length - n = d → Ev (fun k => laws_eqIntSS.l0 k a a (n : Int)) true := by
    intro d
    induction d with
    | zero =>
      intro n hn hd
      refine Ev.one (fun k => ?_)
      simp only [laws_eqIntSS.l0]
      rw [if_neg (by omega)]
    | succ d ih =>
      intro n hn hd
      have hlt : n < a.length := by omega
      refine Ev.step (f := fun k => (laws_eqIntS.f k (a.getD n []) (a.getD n [])).bind fun t => if t = true then laws_eqIntSS.l0 k a a ((n + 1 : Nat) : Int) else some false) (fun k => ?_)
        (Ev.bind (f := fun k t => if t = true then laws_eqIntSS.l0 k a a ((n + 1 : Nat) : Int) else some false) (a := true) (evEq (eqIntS_ev (a.getD n []) (a.getD n []) (by have := hx _ (memL a n hlt); omega)) (by simp)) (Ev.congr (fun k => if_pos rfl) (ih (n + 1) (by omega) (by omega))))
      simp only [laws_eqIntSS.l0]
      rw [if_pos (by omega), if_pos (by omega), if_pos (by omega), rdL_nat, wr_succ (by omega) (by omega)]; rfl
  refine Ev.congr (fun k => ?_) (key _ 0 (by omega) rfl)
  unfold laws_eqIntSS.f; rw [if_pos rfl]; rfl
end Go.Proofs.Ythjgcapfojhfjaa.P
