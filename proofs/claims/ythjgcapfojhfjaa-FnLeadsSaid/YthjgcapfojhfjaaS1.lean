import Derived.Test.YthjgcapfojhfjaaP3
import Derived.Test.YthjgcapfojhfjaaP5
import Derived.Test.YthjgcapfojhfjaaP5
namespace Go.Proofs.Ythjgcapfojhfjaa.P
open Go.RowKit Go.Proofs.YthjgcapfojhfjaaW.PrintWords
theorem wr_succ {i : Int} (h0 : 0 ≤ i) (h : i < 9223372036854775807) : wrap64 (i + 1) = i + 1 := by unfold wrap64; omega
theorem evEq {α : Type} {g : Nat → Option α} {r r' : α} (h : Ev g r) (e : r = r') : Ev g r' := e ▸ h
theorem Ev.unique {α : Type} {g : Nat → Option α} {r r' : α} (h : Ev g r) (h' : Ev g r') : r = r' := by
  obtain ⟨K, h⟩ := h
  obtain ⟨K', h'⟩ := h'
  have := h (max K K') (by omega)
  rw [h' (max K K') (by omega)] at this
  exact (Option.some.inj this).symm
theorem Ev.one {α : Type} {g : Nat → Option α} {r : α} (h : ∀ k, g (k + 1) = some r) : Ev g r := ⟨1, fun k hk => by obtain ⟨m, rfl⟩ : ∃ m, k = m + 1 := ⟨k - 1, by omega⟩; exact h m⟩
theorem Ev.all {α : Type} {g : Nat → Option α} {r : α} (h : ∀ k, g k = some r) : Ev g r := ⟨0, fun k _ => h k⟩
/-- two calls, the second's answer by the first's -/
theorem rd_nat (xs : List Int) (n : Nat) : rd xs (n : Int) = xs.getD n 0 := by unfold rd; rw [Int.toNat_natCast]
theorem rdL_nat (xs : List (List Int)) (n : Nat) : rd_L1 xs (n : Int) = xs.getD n [] := by unfold rd_L1; rw [Int.toNat_natCast]
theorem dropL (xs : List (List Int)) (n : Nat) (h : n < xs.length) : xs.drop n = xs.getD n [] :: xs.drop (n + 1) := by
  rw [List.getD_eq_getElem?_getD, List.getElem?_eq_getElem h]; exact List.drop_eq_getElem_cons h
theorem memL (xs : List (List Int)) (n : Nat) (h : n < xs.length) : xs.getD n [] ∈ xs := by
  rw [List.getD_eq_getElem?_getD, List.getElem?_eq_getElem h]; exact List.getElem_mem _
/-- l1Has -/
theorem has_ev (l : List Int) (x : Int) (hl : l.length ≤ 9223372036854775807) : Ev (fun k => spec_l1Has.f k l x) (l.contains x) := by
  have key : ∀ d n, n ≤ l.length → l.length - n = d → Ev (fun k => spec_l1Has.l0 k x l (l.length : Int) (n : Int)) ((l.drop n).contains x) := by
    intro d
    induction d with
    | zero =>
      intro n hn hd
      refine Ev.one (fun k => ?_)
      simp only [spec_l1Has.l0]
      rw [if_neg (by omega), show n = l.length from by omega, List.drop_length]; rfl
    | succ d ih =>
      intro n hn hd
      have hlt : n < l.length := by omega
      have hdr := drop_rd l n hlt
      by_cases e : rd l n = x
      · refine Ev.one (fun k => ?_)
        simp only [spec_l1Has.l0]
        rw [if_pos (by omega), if_pos (by omega), if_pos (by omega), if_pos e, hdr]
        rw [List.contains_cons, e]; simp
      · refine evEq (Ev.step (f := fun k => spec_l1Has.l0 k x l (l.length : Int) ((n + 1 : Nat) : Int)) (fun k => ?_) (ih (n + 1) (by omega) (by omega))) ?_
        · simp only [spec_l1Has.l0]
          rw [if_pos (by omega), if_pos (by omega), if_pos (by omega), if_neg e, wr_succ (by omega) (by omega)]; rfl
        · rw [hdr, List.contains_cons]
          have : (x == rd l n) = false := by simpa using fun h => e h.symm
          rw [this, Bool.false_or]
  exact key _ 0 (by omega) rfl
/-- slices.Contains -/
theorem contains_ev (l : List Int) (x : Int) (hl : l.length ≤ 9223372036854775807) : Ev (fun k => slices_Contains_int_int.f k l x) (l.contains x) := by
  have key : ∀ d n, n ≤ l.length → l.length - n = d → ∃ r, Ev (fun k => slices_Index_int_int.l0 k l x (l.length : Int) (n : Int)) r ∧ decide (r ≥ 0) = (l.drop n).contains x := by
    intro d
    induction d with
    | zero =>
      intro n hn hd
      refine ⟨-1, Ev.one (fun k => ?_), ?_⟩
      · simp only [slices_Index_int_int.l0]
        rw [if_neg (by omega)]
      · rw [show n = l.length from by omega, List.drop_length]; rfl
    | succ d ih =>
      intro n hn hd
      have hlt : n < l.length := by omega
      have hdr := drop_rd l n hlt
      by_cases e : x = rd l n
      · refine ⟨(n : Int), Ev.one (fun k => ?_), ?_⟩
        · simp only [slices_Index_int_int.l0]
          rw [if_pos (by omega), if_pos (by omega), if_pos (by omega), if_pos e]
        · rw [hdr, List.contains_cons, ← e]; simp
      · obtain ⟨r, hr, hd2⟩ := ih (n + 1) (by omega) (by omega)
        refine ⟨r, Ev.step (f := fun k => slices_Index_int_int.l0 k l x (l.length : Int) ((n + 1 : Nat) : Int)) (fun k => ?_) hr, ?_⟩
        · simp only [slices_Index_int_int.l0]
          rw [if_pos (by omega), if_pos (by omega), if_pos (by omega), if_neg e, wr_succ (by omega) (by omega)]; rfl
        · rw [hdr, List.contains_cons, hd2]
          have : (x == rd l n) = false := by simpa using e
          rw [this, Bool.false_or]
  obtain ⟨r, hr, hd⟩ := key _ 0 (by omega) rfl
  refine evEq (Ev.bind (f := fun _ t => some (decide (t ≥ 0))) hr (Ev.now _)) ?_
  rw [hd, List.drop_zero]
def sumLen (l : List (List Int)) : Nat := (l.map List.length).sum
theorem sumLen_le (l : List (List Int)) : ∀ c ∈ l, c.length ≤ sumLen l := by
  induction l with
  | nil => intro c h; simp at h
  | cons a l ih =>
    intro c h
    simp only [sumLen, List.map_cons, List.sum_cons]
    rcases List.mem_cons.1 h with rfl | h
    · omega
    · have := ih c h; unfold sumLen at this; omega
theorem takeL (xs : List (List Int)) (k : Nat) (h : k < xs.length) : xs.take (k + 1) = xs.take k ++ [xs.getD k []] := by
  rw [List.getD_eq_getElem?_getD, List.getElem?_eq_getElem h]; exact (List.take_succ_eq_append_getElem h).trans rfl
end Go.Proofs.Ythjgcapfojhfjaa.P
