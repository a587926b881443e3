import Derived.Test.YthjgcapfojhfjaaHa
/-
  Rows of the call's own, told by the interval in which their blocks lie: for laws that are walked by hand.
-/
namespace Go.Proofs.Ythjgcapfojhfjaa.P
open Go.RowKit Go.Proofs.YthjgcapfojhfjaaW.PrintWords Go.Proofs.YthjgcapfojhfjaaW.PrintLast Go.Proofs.YthjgcapfojhfjaaW.PrintMore
theorem bne_self_eq_false' {α : Type} [BEq α] [LawfulBEq α] (a : α) : (a != a) = false := by simp
section
variable {α : Type} {d : Kd α} {e : Nat} {w w1 w2 : World} {B lo hi : Nat} {v : Value} {xs : List α} {ok S : Nat → Prop}
def In (d : Kd α) (e : Nat) (w : World) (B lo hi : Nat) (v : Value) (xs : List α) : Prop := Kd.R d e w B (fun k => lo ≤ k ∧ k < hi) v xs
theorem In.of_new (h : Kd.R d e w1 w.heap.size ok v xs) (hB : B ≤ w.heap.size) : In d e w1 B w.heap.size w1.heap.size v xs :=
  Kd.R_lower (Kd.R_mono (Kd.R_bound h) (fun _ hk => ⟨hk.2.1, hk.2.2.1⟩)) hB
theorem In.below (h : In d e w B lo hi v xs) (hb : Below w.heap.size w w1) : In d e w1 B lo hi v xs := Kd.R_below h hb
theorem In.kept (h : In d e w B lo hi v xs) (hk : Kept w w1 S) (hs : ∀ k, lo ≤ k → k < hi → ¬ S k) : In d e w1 B lo hi v xs := Kd.R_kept h hk (fun k hk => hs k hk.1 hk.2)
theorem In.reads {A : Option Addr} {n c : Nat} (h : In d e w B lo hi (.slice A n c) xs) : n = xs.length ∧ n ≤ c ∧ Kd.C d w A xs.length xs := Kd.R_reads' h
theorem In.slice (h : In d e w B lo hi v xs) : ∃ A c, v = .slice A xs.length c := Kd.R_slice h
def InS (d : Kd α) (e : Nat) (w : World) (B lo hi : Nat) (v : Value) (xs : List α) : Prop := Kd.S d e w B (fun k => lo ≤ k ∧ k < hi) v xs
theorem InS.of_new (h : Kd.S d e w1 w.heap.size ok v xs) (hB : B ≤ w.heap.size) : InS d e w1 B w.heap.size w1.heap.size v xs :=
  Kd.S_lower (Kd.S_mono (Kd.S_bound h) (fun _ hk => ⟨hk.2.1, hk.2.2.1⟩)) hB
theorem InS.below (h : InS d e w B lo hi v xs) (hb : Below w.heap.size w w1) : InS d e w1 B lo hi v xs := Kd.S_below h hb
theorem InS.kept (h : InS d e w B lo hi v xs) (hk : Kept w w1 S) (hs : ∀ k, lo ≤ k → k < hi → ¬ S k) : InS d e w1 B lo hi v xs := Kd.S_kept h hk (fun k hk => hs k hk.1 hk.2)
theorem InS.reads {A : Option Addr} {n c : Nat} (h : InS d e w B lo hi (.slice A n c) xs) : n = xs.length ∧ n ≤ c ∧ Kd.C d w A xs.length xs := Kd.S_reads' h
theorem InS.slice (h : InS d e w B lo hi v xs) : ∃ A c, v = .slice A xs.length c := Kd.S_slice h
theorem In.len {A : Option Addr} {n c : Nat} (h : In d e w B lo hi (.slice A n c) xs) : xs.length ≤ c := by have h1 := h.reads; rw [← h1.1]; exact h1.2.1
theorem InS.len {A : Option Addr} {n c : Nat} (h : InS d e w B lo hi (.slice A n c) xs) : xs.length ≤ c := by have h1 := h.reads; rw [← h1.1]; exact h1.2.1
end
/-- the row that was written, again (a row of whole numbers or bools) -/
theorem In.again {α : Type} {enc : α → Value} {h1 : ∀ x, (enc x).oneCell' = true} {e : Nat} {w w1 : World} {B lo hi : Nat} {v : Value} {xs ys : List α} {ok : Nat → Prop} (h : In (Kd.scalar enc h1) e w B lo hi v xs) (hr : Kd.R (Kd.scalar enc h1) e w1 B ok v ys) : In (Kd.scalar enc h1) e w1 B lo hi v ys :=
  Kd.R_of_own (Kd.own_of_R hr) h.1
end Go.Proofs.Ythjgcapfojhfjaa.P
