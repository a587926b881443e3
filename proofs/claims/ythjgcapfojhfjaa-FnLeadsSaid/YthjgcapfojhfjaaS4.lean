import Derived.Test.YthjgcapfojhfjaaS3
namespace Go.Proofs.Ythjgcapfojhfjaa.P
open Go.RowKit Go.Proofs.YthjgcapfojhfjaaW.PrintWords
/-- put in order, once -/
def ins (n : Int) : List Int → List Int
  | [] => [n]
  | a :: t => if a < n then a :: ins n t else if a = n then a :: t else n :: a :: t
theorem mem_ins (n z : Int) : ∀ l, z ∈ ins n l ↔ z = n ∨ z ∈ l
  | [] => by simp [ins]
  | a :: t => by
    unfold ins
    split
    · rw [List.mem_cons, mem_ins n z t, List.mem_cons]; constructor
      · rintro (h | h | h)
        · exact .inr (.inl h)
        · exact .inl h
        · exact .inr (.inr h)
      · rintro (h | h | h)
        · exact .inr (.inl h)
        · exact .inl h
        · exact .inr (.inr h)
    · split
      · rename_i e; subst e; simp
      · rw [List.mem_cons]
theorem len_ins (n : Int) : ∀ l, (ins n l).length ≤ l.length + 1
  | [] => by simp [ins]
  | a :: t => by
    unfold ins
    split
    · have := len_ins n t; simp only [List.length_cons]; omega
    · split <;> simp
theorem sorted_ins (n : Int) : ∀ l, l.Pairwise (· < ·) → (ins n l).Pairwise (· < ·)
  | [], _ => by simp [ins]
  | a :: t, h => by
    rw [List.pairwise_cons] at h
    unfold ins
    split
    · rw [List.pairwise_cons]
      refine ⟨fun z hz => ?_, sorted_ins n t h.2⟩
      rcases (mem_ins n z t).1 hz with rfl | hz
      · assumption
      · exact h.1 z hz
    · split
      · rw [List.pairwise_cons]; exact h
      · rw [List.pairwise_cons]
        refine ⟨fun z hz => ?_, by rw [List.pairwise_cons]; exact h⟩
        rcases List.mem_cons.1 hz with rfl | hz
        · omega
        · have := h.1 z hz; omega
theorem put_ev (l : List Int) (n : Int) (hl : l.length ≤ 1048576) : Ev (fun k => spec_l1Put.f k l n) (ins n l) := by
  have key : ∀ d m, m ≤ l.length → l.length - m = d → Ev (fun k => spec_l1Put.l0 k l n (m : Int)) (l.take m ++ ins n (l.drop m)) := by
    intro d
    induction d with
    | zero =>
      intro m hm hd
      have e : m = l.length := by omega
      subst e
      refine Ev.one (fun k => ?_)
      simp only [spec_l1Put.l0, Option.bind_some]
      rw [if_neg (by omega), if_pos (by omega), if_pos (by omega), Int.toNat_natCast, if_pos (by simp only [List.length_nil, List.length_take]; omega), if_pos (by simp only [List.nil_append, List.length_take]; omega), if_pos (by simp only [List.nil_append, List.length_append, List.length_take, List.length_drop, List.length_singleton]; omega)]
      rw [List.drop_length, List.take_length, List.nil_append]; simp [ins]
    | succ d ih =>
      intro m hm hd
      have hlt : m < l.length := by omega
      have hdr := drop_rd l m hlt
      obtain ⟨y, hy⟩ : ∃ y, rd l (m : Int) = y := ⟨_, rfl⟩
      rw [hy] at hdr
      by_cases h1 : y < n
      · refine evEq (Ev.step (f := fun k => spec_l1Put.l0 k l n ((m + 1 : Nat) : Int)) (fun k => ?_) (ih (m + 1) (by omega) (by omega))) ?_
        · simp only [spec_l1Put.l0]
          rw [if_pos (by omega), if_pos (by omega), hy, if_pos h1, wr_succ (by omega) (by omega)]; rfl
        · rw [hdr, take_rd l m hlt, hy]; unfold ins; rw [if_pos h1, List.append_assoc]; congr 1
          cases l.drop (m + 1) <;> rfl
      · by_cases h2 : y = n
        · refine evEq (Ev.one (r := l) (fun k => ?_)) ?_
          · simp only [spec_l1Put.l0]
            rw [if_pos (by omega), if_pos (by omega), hy, if_neg h1, if_pos h2]
          · rw [hdr]; unfold ins; rw [if_neg h1, if_pos h2, ← hdr, List.take_append_drop]
        · refine evEq (Ev.one (r := l.take m ++ [n] ++ l.drop m) (fun k => ?_)) ?_
          · simp only [spec_l1Put.l0, Option.bind_some]
            rw [if_pos (by omega), if_pos (by omega), hy, if_neg h1, if_neg h2, if_pos (by omega), Int.toNat_natCast, if_pos (by simp only [List.length_nil, List.length_take]; omega), if_pos (by simp only [List.nil_append, List.length_take]; omega), if_pos (by simp only [List.nil_append, List.length_append, List.length_take, List.length_drop, List.length_singleton]; omega), List.nil_append]
          · rw [hdr]; unfold ins; rw [if_neg h1, if_neg h2, List.append_assoc]; rfl
  refine evEq (key _ 0 (by omega) rfl) ?_
  rw [List.take_zero, List.drop_zero]; rfl
/-- l15Next: the literals that one leads to at once -/
theorem next_ev {vars : Int} {l : List (List Int)} (ht : Two vars l) {x : Int} (hx : Lt vars x) : ∃ r, Ev (fun k => spec_l15Next.f k l x) r ∧ r.Pairwise (· < ·) ∧ ∀ w, w ∈ r ↔ Arc l x w := by
  have hl60 := ht.2.2.1
  have h12 := ht.2.1
  have hwx : wrap64 (-x) = -x := by unfold Lt at hx; unfold wrap64; omega
  have key : ∀ d j out, l.length - j = d → j ≤ l.length → out.Pairwise (· < ·) → out.length ≤ j → (∀ w, w ∈ out ↔ ∃ c ∈ l.take j, ArcC c x w) →
      ∃ r, Ev (fun k => spec_l15Next.l0 k x out l (l.length : Int) (j : Int)) r ∧ r.Pairwise (· < ·) ∧ ∀ w, w ∈ r ↔ Arc l x w := by
    intro d
    induction d with
    | zero =>
      intro j out hd hj hs hlen hm
      have e : j = l.length := by omega
      subst e
      refine ⟨out, Ev.one (fun k => ?_), hs, fun w => ?_⟩
      · simp only [spec_l15Next.l0]; rw [if_neg (by omega)]
      · rw [List.take_length] at hm; exact hm w
    | succ d ih =>
      intro j out hd hj hs hlen hm
      have hjl : j < l.length := by omega
      obtain ⟨c, hc⟩ : ∃ c, l.getD j [] = c := ⟨_, rfl⟩
      have hmem : c ∈ l := hc ▸ memL l j hjl
      have htk : l.take (j + 1) = l.take j ++ [c] := hc ▸ takeL l j hjl
      have hmem2 : ∀ w, (∃ c' ∈ l.take (j + 1), ArcC c' x w) ↔ (∃ c' ∈ l.take j, ArcC c' x w) ∨ ArcC c x w := by
        intro w; rw [htk]
        constructor
        · rintro ⟨c', hc', h⟩
          rcases List.mem_append.1 hc' with hc' | hc'
          · exact .inl ⟨c', hc', h⟩
          · rw [List.mem_singleton] at hc'; subst hc'; exact .inr h
        · rintro (⟨c', hc', h⟩ | h)
          · exact ⟨c', List.mem_append_left _ hc', h⟩
          · exact ⟨c, List.mem_append_right _ (List.mem_singleton.2 rfl), h⟩
      -- the step: what is put, or nothing
      have put : ∀ o, (∀ w, ArcC c x w ↔ w = o) → (∀ r, Ev (fun k => (spec_l1Put.f k out o).bind fun t => spec_l15Next.l0 k x t l (l.length : Int) ((j + 1 : Nat) : Int)) r → Ev (fun k => spec_l15Next.l0 k x out l (l.length : Int) (j : Int)) r) → ∃ r, Ev (fun k => spec_l15Next.l0 k x out l (l.length : Int) (j : Int)) r ∧ r.Pairwise (· < ·) ∧ ∀ w, w ∈ r ↔ Arc l x w := by
        intro o ho hk
        obtain ⟨r, hr, h1, h2⟩ := ih (j + 1) (ins o out) (by omega) (by omega) (sorted_ins o out hs) (by have := len_ins o out; omega) (fun w => by rw [mem_ins, hm, hmem2, ho]; constructor <;> (rintro (h | h) <;> simp [h]))
        exact ⟨r, hk r (Ev.bind (f := fun k t => spec_l15Next.l0 k x t l (l.length : Int) ((j + 1 : Nat) : Int)) (put_ev out o (by omega)) hr), h1, h2⟩
      have skip : (∀ w, ¬ ArcC c x w) → (∀ r, Ev (fun k => spec_l15Next.l0 k x out l (l.length : Int) ((j + 1 : Nat) : Int)) r → Ev (fun k => spec_l15Next.l0 k x out l (l.length : Int) (j : Int)) r) → ∃ r, Ev (fun k => spec_l15Next.l0 k x out l (l.length : Int) (j : Int)) r ∧ r.Pairwise (· < ·) ∧ ∀ w, w ∈ r ↔ Arc l x w := by
        intro ho hk
        obtain ⟨r, hr, h1, h2⟩ := ih (j + 1) out (by omega) (by omega) hs (by omega) (fun w => by rw [hm, hmem2]; constructor
                                                                                                  · exact .inl
                                                                                                  · rintro (h | h)
                                                                                                    · exact h
                                                                                                    · exact absurd h (ho w))
        exact ⟨r, hk r hr, h1, h2⟩
      rcases ht.2.2.2 c hmem with ⟨a, rfl, ha⟩ | ⟨a, b, rfl, ha, hb, hab⟩
      · by_cases e : a = -x
        · refine put a (fun w => ⟨?_, fun h => .inl ⟨by rw [h], by omega⟩⟩) (fun r hr => ?_)
          · rintro (⟨e1, _⟩ | ⟨_, e1, _⟩ | ⟨_, e1, _⟩)
            · injection e1 with e1 _; exact e1.symm
            · simp at e1
            · simp at e1
          · refine Ev.step (f := fun k => spec_l15Next.j1 k x out [a] l (l.length : Int) (j : Int) (a == -x)) (fun k => ?_) (Ev.step (fun k => ?_) hr)
            · simp only [spec_l15Next.l0]
              rw [if_pos (by omega), if_pos (by omega), if_pos (by omega), rdL_nat, hc, if_pos (by simp), if_pos (by simp), hwx]; rfl
            · simp only [spec_l15Next.j1]
              rw [if_pos (by simpa using e), if_pos (by simp), wr_succ (by omega) (by omega)]; rfl
        · refine skip (fun w => ?_) (fun r hr => ?_)
          · rintro (⟨e1, e2⟩ | ⟨_, e1, _⟩ | ⟨_, e1, _⟩)
            · injection e1 with e1 _; omega
            · simp at e1
            · simp at e1
          · refine Ev.step (f := fun k => spec_l15Next.j1 k x out [a] l (l.length : Int) (j : Int) (a == -x)) (fun k => ?_) (Ev.step (f := fun k => spec_l15Next.j2 k x out [a] l (l.length : Int) (j : Int) false) (fun k => ?_) (Ev.step (fun k => ?_) hr))
            · simp only [spec_l15Next.l0]
              rw [if_pos (by omega), if_pos (by omega), if_pos (by omega), rdL_nat, hc, if_pos (by simp), if_pos (by simp), hwx]; rfl
            · simp only [spec_l15Next.j1]
              rw [if_neg (by simpa using e), if_neg (by simp)]
            · simp only [spec_l15Next.j2]
              rw [if_neg (by simp), if_neg (by simp), wr_succ (by omega) (by omega)]; rfl
      · have into : ∀ r, Ev (fun k => spec_l15Next.j2 k x out [a, b] l (l.length : Int) (j : Int) (a == -x)) r → Ev (fun k => spec_l15Next.l0 k x out l (l.length : Int) (j : Int)) r := fun r hr => by
          refine Ev.step (f := fun k => spec_l15Next.j1 k x out [a, b] l (l.length : Int) (j : Int) false) (fun k => ?_) (Ev.step (fun k => ?_) hr)
          · simp only [spec_l15Next.l0]
            rw [if_pos (by omega), if_pos (by omega), if_pos (by omega), rdL_nat, hc, if_neg (by simp)]
          · simp only [spec_l15Next.j1]
            rw [if_neg (by simp), if_pos (by simp), if_pos (by simp), hwx]; rfl
        by_cases e : a = -x
        · refine put b (fun w => ⟨?_, fun h => .inr (.inl ⟨a, by rw [h], e⟩)⟩) (fun r hr => into r (Ev.step (fun k => ?_) hr))
          · rintro (⟨e1, _⟩ | ⟨a', e1, _⟩ | ⟨b', e1, e2⟩)
            · simp at e1
            · injection e1 with _ e1; injection e1 with e1 _; exact e1.symm
            · injection e1 with e1 e3; injection e3 with e3 _; omega
          · simp only [spec_l15Next.j2]
            rw [if_pos (by simpa using e), if_pos (by simp), wr_succ (by omega) (by omega)]; rfl
        · by_cases e2 : b = -x
          · refine put a (fun w => ⟨?_, fun h => .inr (.inr ⟨b, by rw [h], e2⟩)⟩) (fun r hr => into r (Ev.step (fun k => ?_) hr))
            · rintro (⟨e1, _⟩ | ⟨a', e1, e3⟩ | ⟨b', e1, _⟩)
              · simp at e1
              · injection e1 with e1 _; omega
              · injection e1 with e1 _; exact e1.symm
            · simp only [spec_l15Next.j2]
              rw [if_neg (by simpa using e), if_pos (by simp), if_pos (by simp), hwx, if_pos (by show b = -x; exact e2), if_pos (by simp), wr_succ (by omega) (by omega)]; rfl
          · refine skip (fun w => ?_) (fun r hr => into r (Ev.step (fun k => ?_) hr))
            · rintro (⟨e1, _⟩ | ⟨a', e1, e3⟩ | ⟨b', e1, e3⟩)
              · simp at e1
              · injection e1 with e1 _; omega
              · injection e1 with _ e1; injection e1 with e1 _; omega
            · simp only [spec_l15Next.j2]
              rw [if_neg (by simpa using e), if_pos (by simp), if_pos (by simp), hwx, if_neg (by show ¬ b = -x; exact e2), wr_succ (by omega) (by omega)]; rfl
  exact key _ 0 [] rfl (by omega) List.Pairwise.nil (by simp) (fun w => by simp)
/-- l15Leads -/
structure QInv (vars : Int) (l : List (List Int)) (x : Int) (out queue : List Int) : Prop where
  sorted : out.Pairwise (· < ·)
  mem : ∀ z ∈ out, Reach l x z
  start : x ∈ out
  sub : ∀ z ∈ queue, z ∈ out
  closed : ∀ z ∈ out, z ∈ queue ∨ ∀ w, Arc l z w → w ∈ out
set_option maxHeartbeats 800000 in
theorem specLeads_ev {vars : Int} {l : List (List Int)} (ht : Two vars l) {x : Int} (hx : Lt vars x) : ∃ r, Ev (fun k => spec_l15Leads.f k l x) r ∧ Is l x r := by
  have h12 := ht.2.1
  have hrange : ∀ z, Reach l x z → -12 ≤ z ∧ z ≤ 12 := fun z h => by have := reach_lt ht hx h; unfold Lt at this; omega
  have hshort : ∀ out : List Int, out.Pairwise (· < ·) → (∀ z ∈ out, Reach l x z) → out.length ≤ 25 := fun out h1 h2 => nodup_len out (sorted_nodup out h1) (fun z hz => hrange z (h2 z hz))
  have main : ∀ d out queue, 2 * (25 - out.length) + queue.length = d → d ≤ 100 → QInv vars l x out queue → ∃ r, Ev (fun k => spec_l15Leads.l0 k l out queue) r ∧ Is l x r := by
    intro d
    induction d using Nat.strongRecOn with
    | _ d ih =>
      intro out queue hd hql h
      match queue, h with
      | [], h =>
        refine ⟨out, Ev.one (fun k => ?_), h.sorted, fun z => ⟨h.mem z, fun hz => hz (· ∈ out) h.start (fun y w hy ha => ?_)⟩⟩
        · simp only [spec_l15Leads.l0]; rw [if_neg (by simp)]
        · rcases h.closed y hy with hq | hq
          · simp at hq
          · exact hq w ha
      | y :: q, h =>
        have hyo : y ∈ out := h.sub y List.mem_cons_self
        have hyr := h.mem y hyo
        obtain ⟨nx, hnx, hsn, hmn⟩ := next_ev ht (reach_lt ht hx hyr)
        have hnl : nx.length ≤ 25 := nodup_len nx (sorted_nodup nx hsn) (fun z hz => hrange z (hyr.step ((hmn z).1 hz)))
        have hdl : d = 2 * (25 - out.length) + (q.length + 1) := by rw [← hd]; rfl
        -- what is told of the row of next ones, one by one
        have inner : ∀ e m out' q', nx.length - m = e → m ≤ nx.length → 2 * (25 - out'.length) + q'.length ≤ 2 * (25 - out.length) + q.length → out'.Pairwise (· < ·) → (∀ z ∈ out', Reach l x z) → x ∈ out' → (∀ z ∈ q', z ∈ out') → (∀ z ∈ out', z = y ∨ z ∈ q' ∨ ∀ w, Arc l z w → w ∈ out') → y ∈ out' → (∀ w ∈ nx.take m, w ∈ out') →
            ∃ r, Ev (fun k => spec_l15Leads.l1 k l out' q' nx (nx.length : Int) (m : Int)) r ∧ Is l x r := by
          intro e
          induction e with
          | zero =>
            intro m out' q' he hm hmeas h1 h2 h3 h4 h5 h6 h7
            have e : m = nx.length := by omega
            subst e
            rw [List.take_length] at h7
            obtain ⟨r, hr, hir⟩ := ih _ (by omega) out' q' rfl (by omega) ⟨h1, h2, h3, h4, fun z hz => by
              rcases h5 z hz with rfl | h | h
              · exact .inr (fun w hw => h7 w ((hmn w).2 hw))
              · exact .inl h
              · exact .inr h⟩
            refine ⟨r, Ev.step (fun k => ?_) hr, hir⟩
            simp only [spec_l15Leads.l1]; rw [if_neg (by omega)]
          | succ e ihe =>
            intro m out' q' he hm hmeas h1 h2 h3 h4 h5 h6 h7
            have hlt : m < nx.length := by omega
            obtain ⟨z, hz⟩ : ∃ z, rd nx (m : Int) = z := ⟨_, rfl⟩
            have htk : nx.take (m + 1) = nx.take m ++ [z] := hz ▸ take_rd nx m hlt
            have hzr : Reach l x z := hyr.step ((hmn z).1 (hz ▸ rd_mem nx m hlt))
            have hlen' := hshort out' h1 h2
            have hhas := has_ev out' z (by omega)
            have hstep : ∀ k, spec_l15Leads.l1 (k + 1) l out' q' nx (nx.length : Int) (m : Int) = (spec_l1Has.f k out' z).bind fun t => if t = true then spec_l15Leads.l1 k l out' q' nx (nx.length : Int) ((m + 1 : Nat) : Int) else (spec_l1Put.f k out' z).bind fun t' => if q'.length < 17592186044416 then spec_l15Leads.l1 k l t' (q' ++ [z]) nx (nx.length : Int) ((m + 1 : Nat) : Int) else none := fun k => by
              simp only [spec_l15Leads.l1]
              rw [if_pos (by omega), if_pos (by omega), if_pos (by omega), hz, wr_succ (by omega) (by omega)]; rfl
            cases hc : out'.contains z with
            | true =>
              rw [hc] at hhas
              have hzin : z ∈ out' := by simpa using hc
              obtain ⟨r, hr, hir⟩ := ihe (m + 1) out' q' (by omega) (by omega) hmeas h1 h2 h3 h4 h5 h6 (fun w hw => by
                rw [htk] at hw
                rcases List.mem_append.1 hw with hw | hw
                · exact h7 w hw
                · rw [List.mem_singleton.1 hw]; exact hzin)
              exact ⟨r, Ev.step hstep (Ev.bind (f := fun k t => if t = true then spec_l15Leads.l1 k l out' q' nx (nx.length : Int) ((m + 1 : Nat) : Int) else (spec_l1Put.f k out' z).bind fun t' => if q'.length < 17592186044416 then spec_l15Leads.l1 k l t' (q' ++ [z]) nx (nx.length : Int) ((m + 1 : Nat) : Int) else none) hhas (Ev.congr (fun k => if_pos rfl) hr)), hir⟩
            | false =>
              rw [hc] at hhas
              have hzni : z ∉ out' := by simpa using hc
              have hlen2 : (ins z out').length = out'.length + 1 := by
                have h25 := hshort (ins z out') (sorted_ins z out' h1) (fun w hw => by
                  rcases (mem_ins z w out').1 hw with rfl | hw
                  · exact hzr
                  · exact h2 w hw)
                have hle := len_ins z out'
                have hsub : (z :: out').length ≤ (ins z out').length := List.Nodup.length_le_of_subset (by rw [List.nodup_cons]; exact ⟨hzni, sorted_nodup _ h1⟩) (fun w hw => (mem_ins z w out').2 (by
                  rcases List.mem_cons.1 hw with rfl | hw
                  · exact .inl rfl
                  · exact .inr hw))
                rw [List.length_cons] at hsub; omega
              have h25 := hshort (ins z out') (sorted_ins z out' h1) (fun w hw => by
                  rcases (mem_ins z w out').1 hw with rfl | hw
                  · exact hzr
                  · exact h2 w hw)
              obtain ⟨r, hr, hir⟩ := ihe (m + 1) (ins z out') (q' ++ [z]) (by omega) (by omega) (by rw [List.length_append, List.length_singleton]; omega) (sorted_ins z out' h1)
                (fun w hw => by
                  rcases (mem_ins z w out').1 hw with rfl | hw
                  · exact hzr
                  · exact h2 w hw)
                ((mem_ins _ _ _).2 (.inr h3))
                (fun w hw => by
                  rcases List.mem_append.1 hw with hw | hw
                  · exact (mem_ins _ _ _).2 (.inr (h4 w hw))
                  · exact (mem_ins _ _ _).2 (.inl (List.mem_singleton.1 hw)))
                (fun w hw => by
                  rcases (mem_ins z w out').1 hw with rfl | hw
                  · exact .inr (.inl (List.mem_append_right _ (List.mem_singleton.2 rfl)))
                  · rcases h5 w hw with h | h | h
                    · exact .inl h
                    · exact .inr (.inl (List.mem_append_left _ h))
                    · exact .inr (.inr (fun v hv => (mem_ins _ _ _).2 (.inr (h v hv)))))
                ((mem_ins _ _ _).2 (.inr h6))
                (fun w hw => by
                  rw [htk] at hw
                  rcases List.mem_append.1 hw with hw | hw
                  · exact (mem_ins _ _ _).2 (.inr (h7 w hw))
                  · exact (mem_ins _ _ _).2 (.inl (List.mem_singleton.1 hw)))
              exact ⟨r, Ev.step hstep (Ev.bind (f := fun k t => if t = true then spec_l15Leads.l1 k l out' q' nx (nx.length : Int) ((m + 1 : Nat) : Int) else (spec_l1Put.f k out' z).bind fun t' => if q'.length < 17592186044416 then spec_l15Leads.l1 k l t' (q' ++ [z]) nx (nx.length : Int) ((m + 1 : Nat) : Int) else none) hhas
                (Ev.congr (fun k => if_neg (by simp)) (Ev.bind (f := fun k t' => if q'.length < 17592186044416 then spec_l15Leads.l1 k l t' (q' ++ [z]) nx (nx.length : Int) ((m + 1 : Nat) : Int) else none) (put_ev out' z (by omega)) (Ev.congr (fun k => if_pos (by omega)) hr)))), hir⟩
        have hol := hshort out h.sorted h.mem
        obtain ⟨r, hr, hir⟩ := inner _ 0 out q rfl (by omega) (by omega) h.sorted h.mem h.start (fun z hz => h.sub z (List.mem_cons_of_mem _ hz)) (fun z hz => by
          rcases h.closed z hz with h | h
          · rcases List.mem_cons.1 h with h | h
            · exact .inl h
            · exact .inr (.inl h)
          · exact .inr (.inr h)) hyo (fun w hw => by simp at hw)
        refine ⟨r, Ev.step (fun k => ?_) (Ev.bind (f := fun k t => spec_l15Leads.l1 k l out q t (t.length : Int) ((0 : Nat) : Int)) hnx hr), hir⟩
        simp only [spec_l15Leads.l0]
        rw [if_pos (by simp only [List.length_cons]; omega), if_pos (by simp only [List.length_cons]; omega), if_pos (by simp only [List.length_cons]; omega)]; rfl
  obtain ⟨r, hr, hir⟩ := main _ [x] [x] rfl (by simp) ⟨by simp, fun z hz => by rw [List.mem_singleton.1 hz]; exact Reach.refl _ _, by simp, fun z hz => hz, fun z hz => .inl hz⟩
  exact ⟨r, hr, hir⟩
end Go.Proofs.Ythjgcapfojhfjaa.P
