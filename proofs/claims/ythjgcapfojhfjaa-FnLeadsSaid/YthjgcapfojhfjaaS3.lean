import Derived.Test.YthjgcapfojhfjaaS2
namespace Go.Proofs.Ythjgcapfojhfjaa.P
open Go.RowKit Go.Proofs.YthjgcapfojhfjaaW.PrintWords
/-- sorted lists with the same elements -/
theorem sorted_ext : ∀ (a b : List Int), a.Pairwise (· < ·) → b.Pairwise (· < ·) → (∀ z, z ∈ a ↔ z ∈ b) → a = b
  | [], [], _, _, _ => rfl
  | [], y :: b, _, _, h => by have := (h y).2 (List.mem_cons_self); simp at this
  | x :: a, [], _, _, h => by have := (h x).1 (List.mem_cons_self); simp at this
  | x :: a, y :: b, ha, hb, h => by
    rw [List.pairwise_cons] at ha hb
    have hxy : x = y := by
      have h1 := (h x).1 List.mem_cons_self
      have h2 := (h y).2 List.mem_cons_self
      rcases List.mem_cons.1 h1 with e | h1
      · exact e
      · rcases List.mem_cons.1 h2 with e | h2
        · exact e.symm
        · have := ha.1 y h2; have := hb.1 x h1; omega
    subst hxy
    rw [sorted_ext a b ha.2 hb.2 (fun z => by
      have := h z
      rw [List.mem_cons, List.mem_cons] at this
      constructor
      · intro hz
        rcases this.1 (.inr hz) with e | e
        · subst e; exact absurd (ha.1 z hz) (by omega)
        · exact e
      · intro hz
        rcases this.2 (.inr hz) with e | e
        · subst e; exact absurd (hb.1 z hz) (by omega)
        · exact e)]
/-- lists of literals are short -/
theorem nodup_len (l : List Int) (hn : l.Nodup) (hr : ∀ x ∈ l, -12 ≤ x ∧ x ≤ 12) : l.length ≤ 25 := by
  have h := List.Nodup.length_le_of_subset (l₂ := (List.range 25).map (fun i : Nat => (i : Int) - 12)) hn (fun x hx => by
    have := hr x hx
    rw [List.mem_map]
    exact ⟨(x + 12).toNat, by rw [List.mem_range]; omega, by omega⟩)
  simpa using h
theorem sorted_nodup (l : List Int) (h : l.Pairwise (· < ·)) : l.Nodup := h.imp (fun h => by omega)
/-- an arc of the implication graph that a clause contributes -/
def ArcC (c : List Int) (y w : Int) : Prop := (c = [w] ∧ w = -y) ∨ (∃ a, c = [a, w] ∧ a = -y) ∨ (∃ b, c = [w, b] ∧ b = -y)
def Arc (l : List (List Int)) (y w : Int) : Prop := ∃ c ∈ l, ArcC c y w
def Reach (l : List (List Int)) (x z : Int) : Prop := ∀ S : Int → Prop, S x → (∀ y w, S y → Arc l y w → S w) → S z
theorem Reach.refl (l : List (List Int)) (x : Int) : Reach l x x := fun _ h _ => h
theorem Reach.step {l : List (List Int)} {x y w : Int} (h : Reach l x y) (a : Arc l y w) : Reach l x w := fun S h0 hs => hs y w (h S h0 hs) a
theorem Reach.trans {l : List (List Int)} {x y z : Int} (h : Reach l x y) (k : Reach l y z) : Reach l x z := fun S h0 hs => k S (h S h0 hs) hs
/-- the literals of so many variables -/
def Lt (vars x : Int) : Prop := x ≠ 0 ∧ -vars ≤ x ∧ x ≤ vars
/-- clauses of one or two literals -/
def Two (vars : Int) (l : List (List Int)) : Prop := 0 ≤ vars ∧ vars ≤ 12 ∧ l.length ≤ 60 ∧ ∀ c ∈ l, (∃ a, c = [a] ∧ Lt vars a) ∨ (∃ a b, c = [a, b] ∧ Lt vars a ∧ Lt vars b ∧ a.natAbs ≠ b.natAbs)
theorem clauseB_from {c : List Int} {vars : Int} (h : clauseB c vars = true) : clauseFrom vars [] c = true := by
  unfold clauseB at h
  cases hc : clauseFrom vars [] c with
  | true => rfl
  | false => rw [if_neg (by rw [hc]; simp)] at h; cases h
theorem clauseFrom_cons {vars n : Int} {seen rest : List Int} (h : clauseFrom vars seen (n :: rest) = true) : litB n vars = true ∧ (seen.any fun k => decide (k.natAbs = n.natAbs)) = false ∧ clauseFrom vars (seen ++ [n]) rest = true := by
  rw [clauseFrom] at h
  by_cases h1 : litB n vars = true
  · rw [if_pos h1] at h
    by_cases h2 : (seen.any fun k => decide (k.natAbs = n.natAbs)) = true
    · rw [if_pos h2] at h; cases h
    · rw [if_neg h2] at h; exact ⟨h1, by simpa using h2, h⟩
  · rw [if_neg h1] at h; cases h
theorem two_of (vars : Int) (l : List (List Int)) (h : twoB vars l = true) : Two vars l := by
  unfold twoB goodB isTwoB at h
  simp only [Bool.and_eq_true, decide_eq_true_eq, Bool.not_eq_true', List.any_eq_false] at h
  obtain ⟨⟨⟨h0, h1⟩, h2, h3⟩, h4⟩ := h
  refine ⟨h0, h1, h2, fun c hc => ?_⟩
  have hs := h4 c hc
  have hg := h3 c hc
  simp only [Bool.not_eq_false] at hs hg
  unfold sz12 at hs
  simp only [Bool.and_eq_true, decide_eq_true_eq] at hs
  replace hg := clauseB_from hg
  match c, hs with
  | [a], _ => exact .inl ⟨a, rfl, (litB_iff a vars).1 (clauseFrom_cons hg).1⟩
  | [a, b], _ =>
    obtain ⟨h5, _, h6⟩ := clauseFrom_cons hg
    obtain ⟨h7, h8, _⟩ := clauseFrom_cons h6
    refine .inr ⟨a, b, rfl, (litB_iff a vars).1 h5, (litB_iff b vars).1 h7, fun e => ?_⟩
    simp [e] at h8
  | [], hs => simp at hs
  | _ :: _ :: _ :: _, hs => simp at hs
theorem arc_lt {vars : Int} {l : List (List Int)} (ht : Two vars l) {y w : Int} (h : Arc l y w) : Lt vars w := by
  obtain ⟨c, hc, h⟩ := h
  rcases ht.2.2.2 c hc with ⟨a, rfl, ha⟩ | ⟨a, b, rfl, ha, hb, _⟩
  · rcases h with ⟨e, _⟩ | ⟨_, e, _⟩ | ⟨_, e, _⟩
    · injection e with e _; subst e; exact ha
    · simp at e
    · simp at e
  · rcases h with ⟨e, _⟩ | ⟨_, e, _⟩ | ⟨_, e, _⟩
    · simp at e
    · injection e with _ e; injection e with e _; subst e; exact hb
    · injection e with e _; subst e; exact ha
theorem reach_lt {vars : Int} {l : List (List Int)} (ht : Two vars l) {x z : Int} (hx : Lt vars x) (h : Reach l x z) : Lt vars z := h (Lt vars) hx (fun _ _ _ a => arc_lt ht a)
/-- the literals reachable from x, in increasing order -/
def Is (l : List (List Int)) (x : Int) (r : List Int) : Prop := r.Pairwise (· < ·) ∧ ∀ z, z ∈ r ↔ Reach l x z
theorem Is.unique {l : List (List Int)} {x : Int} {r r' : List Int} (h : Is l x r) (h' : Is l x r') : r = r' := sorted_ext r r' h.1 h'.1 (fun z => (h.2 z).trans (h'.2 z).symm)
def addTo (out : List Int) (o : Int) : List Int := if out.contains o then out else out ++ [o]
def addIf (out : List Int) (y n o : Int) : List Int := if -n = y then addTo out o else out
theorem addTo_ext (out : List Int) (o : Int) : ∃ t, addTo out o = out ++ t := by
  unfold addTo; split
  · exact ⟨[], by simp⟩
  · exact ⟨_, rfl⟩
theorem addIf_ext (out : List Int) (y n o : Int) : ∃ t, addIf out y n o = out ++ t := by
  unfold addIf; split
  · exact addTo_ext out o
  · exact ⟨[], by simp⟩
theorem mem_addTo (out : List Int) (o z : Int) : z ∈ addTo out o ↔ z ∈ out ∨ z = o := by
  unfold addTo
  by_cases h : out.contains o = true
  · rw [if_pos h]
    constructor
    · exact .inl
    · rintro (h' | rfl)
      · exact h'
      · simpa using h
  · rw [if_neg h, List.mem_append, List.mem_singleton]
theorem nodup_addTo (out : List Int) (o : Int) (h : out.Nodup) : (addTo out o).Nodup := by
  unfold addTo
  by_cases hc : out.contains o = true
  · rw [if_pos hc]; exact h
  · rw [if_neg hc]
    rw [List.nodup_append]
    exact ⟨h, by simp, fun a ha b hb => by
      rw [List.mem_singleton] at hb; subst hb; rintro rfl; exact hc (by simpa using ha)⟩
theorem nodup_addIf (out : List Int) (y n o : Int) (h : out.Nodup) : (addIf out y n o).Nodup := by
  unfold addIf; split
  · exact nodup_addTo out o h
  · exact h
theorem rd_append (out t : List Int) (i : Nat) (h : i < out.length) : rd (out ++ t) (i : Int) = rd out (i : Int) := by
  rw [rd_nat, rd_nat, List.getD_eq_getElem?_getD, List.getD_eq_getElem?_getD, List.getElem?_append_left h]
theorem leads_pos {l : List (List Int)} {out : List Int} {i j p : Nat} {c : List Int} {r : List Int} (hi : i < out.length) (hp : p < c.length) (hc : c.length ≤ 2) (hlen : out.length ≤ 1000) (hr : -12 ≤ rd c (p : Int) ∧ rd c (p : Int) ≤ 12)
    (h : Ev (fun k => impl_leadsTo.l2 k l (addIf out (rd out (i : Int)) (rd c (p : Int)) (rd c ((c.length - 1 - p : Nat) : Int))) (i : Int) c l (l.length : Int) (j : Int) c (c.length : Int) ((p + 1 : Nat) : Int)) r) :
    Ev (fun k => impl_leadsTo.l2 k l out (i : Int) c l (l.length : Int) (j : Int) c (c.length : Int) (p : Int)) r := by
  have hw : wrap64 (wrap64 ((c.length : Int) - 1) - (p : Int)) = ((c.length - 1 - p : Nat) : Int) := by unfold wrap64; omega
  have hn : wrap64 (-(rd c (p : Int))) = -(rd c (p : Int)) := by unfold wrap64; omega
  by_cases e : -(rd c (p : Int)) = rd out (i : Int)
  · have hc1 := contains_ev out (rd c ((c.length - 1 - p : Nat) : Int)) (by omega)
    unfold addIf at h
    rw [if_pos e] at h
    refine Ev.step (f := fun k => (slices_Contains_int_int.f k out (rd c ((c.length - 1 - p : Nat) : Int))).bind fun t => if t = true then impl_leadsTo.l2 k l out (i : Int) c l (l.length : Int) (j : Int) c (c.length : Int) ((p + 1 : Nat) : Int) else impl_leadsTo.l2 k l (out ++ [rd c ((c.length - 1 - p : Nat) : Int)]) (i : Int) c l (l.length : Int) (j : Int) c (c.length : Int) ((p + 1 : Nat) : Int)) (fun k => ?_)
      (Ev.bind (f := fun k t => if t = true then impl_leadsTo.l2 k l out (i : Int) c l (l.length : Int) (j : Int) c (c.length : Int) ((p + 1 : Nat) : Int) else impl_leadsTo.l2 k l (out ++ [rd c ((c.length - 1 - p : Nat) : Int)]) (i : Int) c l (l.length : Int) (j : Int) c (c.length : Int) ((p + 1 : Nat) : Int)) hc1 ?_)
    · simp only [impl_leadsTo.l2]
      rw [if_pos (by omega), if_pos (by omega), if_pos (by omega), hw, if_pos (by omega), if_pos (by omega), if_pos (by omega), if_pos (by omega), hn, if_pos e, wr_succ (by omega) (by omega)]
      congr 1; funext t
      by_cases ht : t = true
      · rw [if_pos ht, if_pos ht]; rfl
      · rw [if_neg ht, if_neg ht, if_pos (by omega)]; rfl
    · unfold addTo at h
      by_cases hcc : out.contains (rd c ((c.length - 1 - p : Nat) : Int)) = true
      · rw [if_pos hcc] at h; exact Ev.congr (fun k => if_pos hcc) h
      · rw [if_neg hcc] at h; exact Ev.congr (fun k => if_neg hcc) h
  · unfold addIf at h
    rw [if_neg e] at h
    refine Ev.step (f := fun k => impl_leadsTo.l2 k l out (i : Int) c l (l.length : Int) (j : Int) c (c.length : Int) ((p + 1 : Nat) : Int)) (fun k => ?_) h
    simp only [impl_leadsTo.l2]
    rw [if_pos (by omega), if_pos (by omega), if_pos (by omega), hw, if_pos (by omega), if_pos (by omega), if_pos (by omega), if_pos (by omega), hn, if_neg e, wr_succ (by omega) (by omega)]; rfl
/-- what is so of the list all along -/
structure LInv (vars : Int) (l : List (List Int)) (x : Int) (out : List Int) (i : Nat) (seen : List (List Int)) : Prop where
  nodup : out.Nodup
  mem : ∀ z ∈ out, Reach l x z
  start : x ∈ out
  closed : ∀ i' : Nat, i' < i → ∀ w, Arc l (rd out (i' : Int)) w → w ∈ out
  part : ∀ c ∈ seen, ∀ w, ArcC c (rd out (i : Int)) w → w ∈ out
theorem LInv.add {vars : Int} {l : List (List Int)} {x : Int} {out : List Int} {i : Nat} {seen : List (List Int)} (hi : i < out.length) (h : LInv vars l x out i seen) {n o : Int} (hs : -n = rd out (i : Int) → Arc l (rd out (i : Int)) o) :
    LInv vars l x (addIf out (rd out (i : Int)) n o) i seen ∧ i < (addIf out (rd out (i : Int)) n o).length ∧ rd (addIf out (rd out (i : Int)) n o) (i : Int) = rd out (i : Int) ∧ (-n = rd out (i : Int) → o ∈ addIf out (rd out (i : Int)) n o) ∧ ∀ z ∈ out, z ∈ addIf out (rd out (i : Int)) n o := by
  obtain ⟨t, ht⟩ := addIf_ext out (rd out (i : Int)) n o
  have hrd : rd (addIf out (rd out (i : Int)) n o) (i : Int) = rd out (i : Int) := by rw [ht]; exact rd_append out t i hi
  have hsub : ∀ z ∈ out, z ∈ addIf out (rd out (i : Int)) n o := fun z hz => by rw [ht]; exact List.mem_append_left _ hz
  refine ⟨⟨nodup_addIf _ _ _ _ h.nodup, fun z hz => ?_, hsub _ h.start, fun i' hi' w hw => ?_, fun c hc w hw => ?_⟩, by rw [ht, List.length_append]; omega, hrd, fun e => ?_, hsub⟩
  · unfold addIf at hz
    split at hz
    · rename_i e
      rcases (mem_addTo _ _ _).1 hz with hz | rfl
      · exact h.mem z hz
      · have hin : rd out (i : Int) ∈ out := rd_mem out i hi
        exact (h.mem _ hin).step (hs e)
    · exact h.mem z hz
  · rw [ht, rd_append out t i' (by omega)] at hw
    exact hsub _ (h.closed i' hi' w hw)
  · rw [hrd] at hw; exact hsub _ (h.part c hc w hw)
  · unfold addIf; rw [if_pos e]; exact (mem_addTo _ _ _).2 (.inr rfl)
set_option maxHeartbeats 800000 in
theorem leads_ev {vars : Int} {l : List (List Int)} (ht : Two vars l) {x : Int} (hx : Lt vars x) : ∃ r, Ev (fun k => impl_leadsTo.f k l x) r ∧ Is l x r := by
  have hl60 := ht.2.2.1
  have hshort : ∀ out i seen, LInv vars l x out i seen → out.length ≤ 25 := fun out i seen h => nodup_len out h.nodup (fun z hz => by
    have := reach_lt ht hx (h.mem z hz); have := ht.2.1; unfold Lt at *; omega)
  have main : ∀ d i out, 25 - i = d → i ≤ out.length → LInv vars l x out i [] → ∃ r, Ev (fun k => impl_leadsTo.l0 k l out (i : Int)) r ∧ Is l x r := by
    intro d
    induction d using Nat.strongRecOn with
    | _ d ih =>
      intro i out hd hio h
      have hs := hshort _ _ _ h
      by_cases hlt : i < out.length
      · -- the clauses, one by one
        have inner : ∀ e j out, l.length - j = e → j ≤ l.length → i < out.length → LInv vars l x out i (l.take j) → ∃ r, Ev (fun k => impl_leadsTo.l1 k l out (i : Int) l (l.length : Int) (j : Int)) r ∧ Is l x r := by
          intro e
          induction e with
          | zero =>
            intro j out he hj hi h
            have hs := hshort _ _ _ h
            have hj' : j = l.length := by omega
            subst hj'
            rw [List.take_length] at h
            obtain ⟨r, hr, hir⟩ := ih (25 - (i + 1)) (by omega) (i + 1) out rfl (by omega) ⟨h.nodup, h.mem, h.start, fun i' hi' w hw => by
              by_cases e : i' = i
              · subst e; obtain ⟨c, hc, hw⟩ := hw; exact h.part c hc w hw
              · exact h.closed i' (by omega) w hw, fun c hc => by simp at hc⟩
            refine ⟨r, Ev.step (f := fun k => impl_leadsTo.l0 k l out ((i + 1 : Nat) : Int)) (fun k => ?_) hr, hir⟩
            simp only [impl_leadsTo.l1]
            rw [if_neg (by omega), wr_succ (by omega) (by omega)]; rfl
          | succ e ihe =>
            intro j out he hj hi h
            have hs := hshort _ _ _ h
            have hjl : j < l.length := by omega
            obtain ⟨c, hc⟩ : ∃ c, l.getD j [] = c := ⟨_, rfl⟩
            have hmem : c ∈ l := hc ▸ memL l j hjl
            have htk : l.take (j + 1) = l.take j ++ [c] := hc ▸ takeL l j hjl
            -- into the clause
            have enter : ∀ r, Ev (fun k => impl_leadsTo.l2 k l out (i : Int) c l (l.length : Int) (j : Int) c (c.length : Int) ((0 : Nat) : Int)) r → Ev (fun k => impl_leadsTo.l1 k l out (i : Int) l (l.length : Int) (j : Int)) r := fun r h => by
              refine Ev.step (fun k => ?_) h
              simp only [impl_leadsTo.l1]
              rw [if_pos (by omega), if_pos (by omega), if_pos (by omega), rdL_nat, hc]; rfl
            have leave : ∀ (c : List Int) (out : List Int) r, Ev (fun k => impl_leadsTo.l1 k l out (i : Int) l (l.length : Int) ((j + 1 : Nat) : Int)) r → Ev (fun k => impl_leadsTo.l2 k l out (i : Int) c l (l.length : Int) (j : Int) c (c.length : Int) ((c.length : Nat) : Int)) r := fun c out r h => by
              refine Ev.step (fun k => ?_) h
              simp only [impl_leadsTo.l2]
              rw [if_neg (by omega), wr_succ (by omega) (by omega)]; rfl
            have h12 := ht.2.1
            rcases ht.2.2.2 c hmem with ⟨a, rfl, ha⟩ | ⟨a, b, rfl, ha, hb, hab⟩
            · obtain ⟨h1, h2, h3, h4, h5⟩ := h.add hi (n := a) (o := a) (fun e => ⟨[a], hmem, .inl ⟨rfl, by omega⟩⟩)
              obtain ⟨r, hr, hir⟩ := ihe (j + 1) _ (by omega) (by omega) h2 ⟨h1.nodup, h1.mem, h1.start, h1.closed, fun c' hc' w hw => by
                rw [htk] at hc'
                rcases List.mem_append.1 hc' with hc' | hc'
                · exact h1.part c' hc' w hw
                · rw [List.mem_singleton] at hc'; subst hc'
                  rw [h3] at hw
                  rcases hw with ⟨e, e2⟩ | ⟨_, e, _⟩ | ⟨_, e, _⟩
                  · injection e with e _; subst e; exact h4 (by omega)
                  · simp at e
                  · simp at e⟩
              refine ⟨r, enter r ?_, hir⟩
              refine leads_pos hi (by simp) (by simp) (by omega) (by show -12 ≤ a ∧ a ≤ 12; unfold Lt at ha; omega) ?_
              exact leave [a] _ r hr
            · obtain ⟨h1, h2, h3, h4, h5⟩ := h.add hi (n := a) (o := b) (fun e => ⟨[a, b], hmem, .inr (.inl ⟨a, rfl, by omega⟩)⟩)
              obtain ⟨g1, g2, g3, g4, g5⟩ := h1.add h2 (n := b) (o := a) (fun e => ⟨[a, b], hmem, .inr (.inr ⟨b, rfl, by omega⟩)⟩)
              have hs1 := hshort _ _ _ h1
              obtain ⟨r, hr, hir⟩ := ihe (j + 1) _ (by omega) (by omega) g2 ⟨g1.nodup, g1.mem, g1.start, g1.closed, fun c' hc' w hw => by
                rw [htk] at hc'
                rcases List.mem_append.1 hc' with hc' | hc'
                · exact g1.part c' hc' w hw
                · rw [List.mem_singleton] at hc'; subst hc'
                  rw [g3, h3] at hw
                  rcases hw with ⟨e, _⟩ | ⟨a', e, e2⟩ | ⟨b', e, e2⟩
                  · simp at e
                  · injection e with e e3; injection e3 with e3 _; subst e; subst e3; exact g5 _ (h4 (by omega))
                  · injection e with e e3; injection e3 with e3 _; subst e; subst e3; exact g4 (by rw [h3]; omega)⟩
              refine ⟨r, enter r ?_, hir⟩
              refine leads_pos hi (by simp) (by simp) (by omega) (by show -12 ≤ a ∧ a ≤ 12; unfold Lt at ha; omega) ?_
              refine leads_pos (c := [a, b]) (p := 1) h2 (by simp) (by simp) (by show (addIf out (rd out (i : Int)) a b).length ≤ 1000; omega) (by show -12 ≤ b ∧ b ≤ 12; unfold Lt at hb; omega) ?_
              exact leave [a, b] _ r hr
        obtain ⟨r, hr, hir⟩ := inner _ 0 out rfl (by omega) hlt (by rw [List.take_zero]; exact h)
        refine ⟨r, Ev.step (fun k => ?_) hr, hir⟩
        simp only [impl_leadsTo.l0]
        rw [if_pos (by omega)]; rfl
      · -- the end: sorted
        have hi : i = out.length := by omega
        have hsz : out.length < 4611686018427387904 := by omega
        refine ⟨out.mergeSort fun x y => decide (x ≤ y), Ev.one (fun k => ?_), ?_, fun z => ?_⟩
        · simp only [impl_leadsTo.l0]
          rw [if_neg (by omega)]
          unfold slices_Sort_int_int.f; rw [if_pos hsz]; rfl
        · have h1 := List.pairwise_mergeSort (le := fun x y : Int => decide (x ≤ y)) (fun a b c h1 h2 => by simp at h1 h2 ⊢; omega) (fun a b => by simp; omega) out
          have h2 : (out.mergeSort fun x y => decide (x ≤ y)).Nodup := (List.mergeSort_perm _ _).nodup_iff.2 h.nodup
          exact (h1.and h2).imp (fun h => by have := h.1; have := h.2; simp at *; omega)
        · rw [(List.mergeSort_perm _ _).mem_iff]
          constructor
          · exact h.mem z
          · intro hz
            refine hz (· ∈ out) h.start (fun y w hy ha => ?_)
            obtain ⟨i', hi'⟩ := List.getElem?_of_mem hy
            have hlt' : i' < out.length := (List.getElem?_eq_some_iff.1 hi').1
            have : rd out (i' : Int) = y := by rw [rd_nat, List.getD_eq_getElem?_getD, hi']; rfl
            exact h.closed i' (by omega) w (this ▸ ha)
  obtain ⟨r, hr, hir⟩ := main _ 0 [x] rfl (by simp) ⟨by simp, fun z hz => by rw [List.mem_singleton.1 hz]; exact Reach.refl _ _, by simp, fun i' hi' => by omega, fun c hc => by simp at hc⟩
  exact ⟨r, hr, hir⟩
end Go.Proofs.Ythjgcapfojhfjaa.P
