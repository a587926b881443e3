import Derived.Test.YthjgcapfojhfjaaS12
namespace Go.Proofs.Ythjgcapfojhfjaa.P
open Go.RowKit Go.Proofs.YthjgcapfojhfjaaW.PrintWords
/-- the literals, one by one -/
def lits (n : Nat) : List Int := (List.range n).map (fun i : Nat => (i : Int) + 1) ++ (List.range n).map (fun i : Nat => -((i : Int) + 1))
theorem mem_lits (n : Nat) (z : Int) : z ∈ lits n ↔ Lt (n : Int) z := by
  unfold lits Lt
  rw [List.mem_append, List.mem_map, List.mem_map]
  constructor
  · rintro (⟨i, hi, rfl⟩ | ⟨i, hi, rfl⟩)
    · rw [List.mem_range] at hi; omega
    · rw [List.mem_range] at hi; omega
  · rintro ⟨h0, h1, h2⟩
    by_cases h : 0 < z
    · exact .inl ⟨z.toNat - 1, by rw [List.mem_range]; omega, by omega⟩
    · exact .inr ⟨(-z).toNat - 1, by rw [List.mem_range]; omega, by omega⟩
theorem nodup_lits (n : Nat) : (lits n).Nodup := by
  unfold lits
  rw [List.nodup_append]
  refine ⟨?_, ?_, ?_⟩
  · exact List.Pairwise.map _ (fun (a b : Nat) (h : a ≠ b) => by intro e; exact h (by omega)) (List.nodup_range (n := n))
  · exact List.Pairwise.map _ (fun (a b : Nat) (h : a ≠ b) => by intro e; exact h (by omega)) (List.nodup_range (n := n))
  · intro a ha b hb e
    obtain ⟨i, _, rfl⟩ := List.mem_map.1 ha
    obtain ⟨j, _, rfl⟩ := List.mem_map.1 hb
    omega
theorem all_lits {vars : Int} (h0 : 0 ≤ vars) {l : List Int} (hn : l.Nodup) (h : ∀ z, z ∈ l ↔ Lt vars z) : (l.length : Int) = 2 * vars := by
  have hp : l.Perm (lits vars.toNat) := (List.perm_ext_iff_of_nodup hn (nodup_lits _)).2 (fun z => by
    rw [h z, mem_lits, show ((vars.toNat : Nat) : Int) = vars from by omega])
  rw [hp.length_eq]; unfold lits; simp; omega
/-- what the law asks of the components -/
def Good (l : List (List Int)) (vars : Int) (r : List (List Int)) : Prop := ∀ c ∈ r, 0 < c.length ∧ Lt vars (rd c 0) ∧ ∀ y ∈ c, Reach l (rd c 0) y
theorem loopsFull {vars : Int} {l : List (List Int)} (ht : Two vars l) : ∀ d (x : Int) (done : List Int) (out : List (List Int)), -vars ≤ x → x ≤ vars + 1 → (vars + 1 - x).toNat = d → out.length + d ≤ 1000 → (∀ z, z ∈ done ↔ ∃ y, Lt vars y ∧ y < x ∧ Reach l y z ∧ Reach l z y) → done.Nodup → sumLen out = done.length → Good l vars out → ∃ r, Ev (fun k => impl_LoopsOf.l0 k vars l out x) (r, true) ∧ Good l vars r ∧ (sumLen r : Int) = 2 * vars := by
  have h12 := ht.2.1
  have h0 := ht.1
  intro d
  induction d with
  | zero =>
    intro x done out h1 h2 hd hl hI hN hS hG
    refine ⟨out, Ev.one (fun k => ?_), hG, ?_⟩
    · rw [impl_LoopsOf.l0, if_neg (by omega)]
    · rw [hS]
      refine all_lits h0 hN (fun z => ?_)
      rw [hI z]
      constructor
      · rintro ⟨y, a, _, c, _⟩; exact reach_lt ht a c
      · intro hz; exact ⟨z, hz, by have := hz.2.2; omega, Reach.refl l z, Reach.refl l z⟩
  | succ d ih =>
    intro x done out h1 h2 hd hl hI hN hS hG
    have hv : x ≤ vars := by omega
    have hw1 : wrap64 (x + 1) = x + 1 := by unfold wrap64; omega
    by_cases hz : x = 0
    · obtain ⟨r, f1, f3⟩ := ih (x + 1) done out (by omega) (by omega) (by omega) (by omega) (fun z => by
        rw [hI z]
        constructor
        · rintro ⟨y, a, b, c⟩; exact ⟨y, a, by omega, c⟩
        · rintro ⟨y, a, b, c⟩; exact ⟨y, a, by have := a.1; omega, c⟩) hN hS hG
      refine ⟨r, Ev.step (fun k => ?_) f1, f3⟩
      rw [impl_LoopsOf.l0, if_pos hv, if_pos hz, hw1]
    · have hlx : Lt vars x := ⟨hz, h1, hv⟩
      obtain ⟨t, p1, _, e1, n1⟩ := ld_ev ht hlx
      have hlt : ∀ n ∈ t, Lt vars n := fun n hn => reach_lt ht hlx ((e1.2 n).1 hn)
      have hf := lfilt_ev ht x t hlt
      have hq : ∀ z, z ∈ (t.filter fun n => rch l n x) ↔ Reach l x z ∧ Reach l z x := fun z => by
        rw [List.mem_filter, e1.2 z, rch_iff]
      have hsort : (t.filter fun n => rch l n x).Pairwise (· < ·) := e1.1.filter _
      generalize hQ : (t.filter fun n => rch l n x) = q at hf hq hsort
      have hxq : x ∈ q := (hq x).2 ⟨Reach.refl l x, Reach.refl l x⟩
      have hq0 : 0 < q.length := List.length_pos_of_mem hxq
      have hfirst : rd q 0 = x ↔ x ∉ done := by
        cases q with
        | nil => simp at hq0
        | cons a q' =>
          have ha : rd (a :: q') 0 = a := rfl
          rw [ha, hI x]
          rw [List.pairwise_cons] at hsort
          constructor
          · rintro rfl ⟨y, b1, b2, b3, b4⟩
            have : y ∈ a :: q' := (hq y).2 ⟨b4, b3⟩
            rcases List.mem_cons.1 this with e | hy
            · omega
            · have := hsort.1 y hy; omega
          · intro hn
            rcases List.mem_cons.1 hxq with e | hx
            · exact e.symm
            · exact absurd ⟨a, reach_lt ht hlx ((hq a).1 List.mem_cons_self).1, hsort.1 x hx, ((hq a).1 List.mem_cons_self).2, ((hq a).1 List.mem_cons_self).1⟩ hn
      have goI : ∀ o p, (if rd q 0 = x then out ++ [q] else out) = o → Ev (fun k => impl_LoopsOf.l0 k vars l o (x + 1)) p → Ev (fun k => impl_LoopsOf.l0 k vars l out x) p := fun o p ho hp => by
        refine Ev.step (g := fun k => impl_LoopsOf.l0 k vars l out x) (f := fun k => (impl_leadsTo.f k l x).bind fun t => (lfilt k l x t).bind fun q => if 0 < q.length then (if rd q 0 = x then (if out.length < 5864062014805 then impl_LoopsOf.l0 k vars l (out ++ [q]) (x + 1) else none) else impl_LoopsOf.l0 k vars l out (x + 1)) else none) (fun k => ?_) (Ev.bind (f := fun k t => (lfilt k l x t).bind fun q => if 0 < q.length then (if rd q 0 = x then (if out.length < 5864062014805 then impl_LoopsOf.l0 k vars l (out ++ [q]) (x + 1) else none) else impl_LoopsOf.l0 k vars l out (x + 1)) else none) p1 (Ev.bind (f := fun k q => if 0 < q.length then (if rd q 0 = x then (if out.length < 5864062014805 then impl_LoopsOf.l0 k vars l (out ++ [q]) (x + 1) else none) else impl_LoopsOf.l0 k vars l out (x + 1)) else none) hf (Ev.congr (fun k => ?_) hp)))
        · show impl_LoopsOf.l0 (k + 1) vars l out x = _
          rw [impl_LoopsOf.l0, if_pos hv, if_neg hz, hw1]
        · show (if 0 < q.length then _ else _) = _
          rw [if_pos hq0, ← ho]
          by_cases e : rd q 0 = x
          · rw [if_pos e, if_pos e, if_pos (by omega)]
          · rw [if_neg e, if_neg e]
      by_cases hin : x ∈ done
      · obtain ⟨r, f1, f3⟩ := ih (x + 1) done out (by omega) (by omega) (by omega) (by omega) (fun z => by
          rw [hI z]
          constructor
          · rintro ⟨y, a, b, c⟩; exact ⟨y, a, by omega, c⟩
          · rintro ⟨y, a, b, c1, c2⟩
            by_cases e : y = x
            · obtain ⟨u, g1, g2, g3, g4⟩ := (hI x).1 hin
              subst e
              exact ⟨u, g1, g2, g3.trans c1, c2.trans g4⟩
            · exact ⟨y, a, by omega, c1, c2⟩) hN hS hG
        exact ⟨r, goI out _ (if_neg (fun e => (hfirst.1 e) hin)) f1, f3⟩
      · have hrx := hfirst.2 hin
        obtain ⟨r, f1, f3⟩ := ih (x + 1) (done ++ q) (out ++ [q]) (by omega) (by omega) (by omega) (by simp; omega) (fun z => by
          rw [List.mem_append, hI z, hq z]
          constructor
          · rintro (⟨y, a, b, c⟩ | ⟨c1, c2⟩)
            · exact ⟨y, a, by omega, c⟩
            · exact ⟨x, hlx, by omega, c1, c2⟩
          · rintro ⟨y, a, b, c1, c2⟩
            by_cases e : y = x
            · subst e; exact .inr ⟨c1, c2⟩
            · exact .inl ⟨y, a, by omega, c1, c2⟩)
          (by
            rw [List.nodup_append]
            refine ⟨hN, sorted_nodup q hsort, fun a ha b hb e => ?_⟩
            subst e
            obtain ⟨y, g1, g2, g3, g4⟩ := (hI a).1 ha
            obtain ⟨g5, g6⟩ := (hq a).1 hb
            exact hin ((hI x).2 ⟨y, g1, g2, g3.trans g6, g5.trans g4⟩))
          (by rw [sumLen_snoc, hS, List.length_append])
          (fun c hc => by
            rcases List.mem_append.1 hc with hc | hc
            · exact hG c hc
            · rw [List.mem_singleton.1 hc, hrx]; exact ⟨hq0, hlx, fun y hy => ((hq y).1 hy).1⟩)
        exact ⟨r, goI (out ++ [q]) _ (if_pos hrx) f1, f3⟩
theorem LoopsOf_full (vars : Int) (l : List (List Int)) (ht : twoB vars l = true) : ∃ r, Ev (fun k => impl_LoopsOf.f k vars l) (r, true) ∧ Good l vars r ∧ (sumLen r : Int) = 2 * vars := by
  have hI := isTwo_f vars l
  rw [ht] at hI
  have h2 := two_of vars l ht
  have h0 := h2.1
  have h12 := h2.2.1
  have hw : wrap64 (-vars) = -vars := by unfold wrap64; omega
  obtain ⟨r, f1, f3⟩ := loopsFull h2 _ (-vars) [] [] (by omega) (by omega) rfl (by simp only [List.length_nil]; omega) (fun z => by
    constructor
    · intro h; cases h
    · rintro ⟨y, a, b, _⟩; have := a.2.1; omega) List.nodup_nil rfl (fun c hc => by cases hc)
  refine ⟨r, Ev.congr (fun k => ?_) f1, f3⟩
  unfold impl_LoopsOf.f; rw [hI, Option.bind_some, if_pos rfl, hw]
end Go.Proofs.Ythjgcapfojhfjaa.P
