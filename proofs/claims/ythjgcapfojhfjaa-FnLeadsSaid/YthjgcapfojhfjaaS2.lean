import Derived.Test.YthjgcapfojhfjaaS1
namespace Go.Proofs.Ythjgcapfojhfjaa.P
open Go.RowKit Go.Proofs.YthjgcapfojhfjaaW.PrintWords
def goodB (vars : Int) (l : List (List Int)) : Bool := decide (0 ≤ vars ∧ vars ≤ 12) && (decide (l.length ≤ 60) && !(l.any fun c => !clauseB c vars))
theorem goodB_f (vars : Int) (l : List (List Int)) : impl_GoodClauses.f vars l = some (goodB vars l) := by
  unfold impl_GoodClauses.f goodB impl_in.f
  by_cases h0 : vars ≥ 0
  · rw [if_pos h0]
    by_cases h1 : vars ≤ 12
    · simp only [Option.bind_some, decide_eq_true h1, if_true]
      rw [show decide (0 ≤ vars ∧ vars ≤ 12) = true from decide_eq_true ⟨h0, h1⟩]
      by_cases h2 : l.length ≤ 60
      · rw [if_pos (by omega), show decide (l.length ≤ 60) = true from decide_eq_true h2]
        unfold impl_areClauses.f; rw [if_pos ⟨h0, h1⟩]; rfl
      · rw [if_neg (by omega), show decide (l.length ≤ 60) = false from decide_eq_false h2]; rfl
    · simp only [Option.bind_some, decide_eq_false h1]
      rw [show decide (0 ≤ vars ∧ vars ≤ 12) = false from decide_eq_false (by omega)]; rfl
  · rw [if_neg h0, show decide (0 ≤ vars ∧ vars ≤ 12) = false from decide_eq_false (by omega)]; rfl
def twoB (vars : Int) (l : List (List Int)) : Bool := goodB vars l && isTwoB l
theorem isTwo_f (vars : Int) (l : List (List Int)) : impl_IsTwo.f vars l = some (twoB vars l) := by
  unfold impl_IsTwo.f twoB
  rw [goodB_f, Option.bind_some]
  cases goodB vars l <;> rfl
theorem l1In_f (a b c : Int) : spec_l1In.f a b c = some (decide (b ≤ a) && decide (a ≤ c)) := by
  unfold spec_l1In.f
  by_cases h : a ≥ b
  · rw [if_pos h, show decide (b ≤ a) = true from decide_eq_true h]; rfl
  · rw [if_neg h, show decide (b ≤ a) = false from decide_eq_false h]; rfl
theorem litB_iff (n vars : Int) : litB n vars = true ↔ n ≠ 0 ∧ -vars ≤ n ∧ n ≤ vars := by
  unfold litB
  by_cases h : n = 0
  · rw [if_pos h]; constructor
    · intro h; cases h
    · intro h'; exact absurd h h'.1
  · rw [if_neg h]
    by_cases h2 : -vars ≤ n
    · rw [if_pos h2, decide_eq_true_eq]; constructor
      · intro h3; exact ⟨h, h2, h3⟩
      · intro h3; exact h3.2.2
    · rw [if_neg h2]; constructor
      · intro h; cases h
      · intro h'; exact absurd h'.2.1 h2
theorem litB_neg (n vars : Int) (h : litB n vars = true) : litB (-n) vars = true := by
  rw [litB_iff] at h ⊢; omega
theorem any_abs (l : List Int) (n : Int) : (l.any fun k => decide (k.natAbs = n.natAbs)) = (l.contains n || l.contains (-n)) := by
  induction l with
  | nil => rfl
  | cons a l ih =>
    rw [List.any_cons, ih, List.contains_cons, List.contains_cons]
    by_cases h1 : n = a
    · subst h1; simp
    · by_cases h2 : -n = a
      · subst h2; simp
      · rw [decide_eq_false (by omega), show (n == a) = false by simpa using h1, show (-n == a) = false by simpa using h2]; simp
set_option maxHeartbeats 400000 in
theorem l4Clause_ev (vars : Int) (l : List Int) (h0 : 0 ≤ vars) (h1 : vars ≤ 12) (hl : l.length ≤ 1048576) : Ev (fun k => spec_l4Clause.f k vars l) (clauseB l vars) := by
  have hv : wrap64 (-vars) = -vars := by unfold wrap64; omega
  have key : ∀ d n, n ≤ l.length → l.length - n = d → Ev (fun k => spec_l4Clause.l0 k vars l l (l.length : Int) (n : Int)) (clauseFrom vars (l.take n) (l.drop n) && decide (l.length ≤ 12)) := by
    intro d
    induction d with
    | zero =>
      intro n hn hd
      refine Ev.one (fun k => ?_)
      simp only [spec_l4Clause.l0]
      rw [if_neg (by omega), List.drop_eq_nil_of_le (by omega)]
      unfold clauseFrom; rw [Bool.true_and]
      congr 1
      by_cases h : l.length ≤ 12
      · rw [decide_eq_true h, decide_eq_true (by omega)]
      · rw [decide_eq_false h, decide_eq_false (by omega)]
    | succ d ih =>
      intro n hn hd
      have hlt : n < l.length := by omega
      rw [clauseFrom_step vars l n hlt, any_abs]
      obtain ⟨x, hrd⟩ : ∃ x, rd l (n : Int) = x := ⟨_, rfl⟩
      rw [hrd]
      have htl : (l.take n).length ≤ 9223372036854775807 := by rw [List.length_take]; omega
      cases hq : litB x vars with
      | false =>
        refine Ev.one (fun k => ?_)
        simp only [spec_l4Clause.l0]
        rw [if_pos (by omega), if_pos (by omega), if_pos (by omega), hrd]
        by_cases hz : x = 0
        · rw [if_pos hz]; rfl
        · rw [if_neg hz, hv, l1In_f, Option.bind_some, if_neg (by
            intro h
            rw [Bool.and_eq_true, decide_eq_true_eq, decide_eq_true_eq] at h
            rw [(litB_iff x vars).2 ⟨hz, h.1, h.2⟩] at hq; cases hq)]; rfl
      | true =>
        have hb := (litB_iff x vars).1 hq
        have hwx : wrap64 (-x) = -x := by unfold wrap64; omega
        rw [if_pos rfl]
        have h1 := has_ev (l.take n) x htl
        have h2 := has_ev (l.take n) (-x) htl
        have hstep : ∀ k, spec_l4Clause.l0 (k + 1) vars l l (l.length : Int) (n : Int) = (spec_l1Has.f k (l.take n) x).bind fun t => if t = true then some false else (spec_l1Has.f k (l.take n) (-x)).bind fun t' => if t' = true then some false else spec_l4Clause.l0 k vars l l (l.length : Int) ((n + 1 : Nat) : Int) := by
          intro k
          simp only [spec_l4Clause.l0]
          rw [if_pos (by omega), if_pos (by omega), if_pos (by omega), hrd, if_neg hb.1, hv, l1In_f, Option.bind_some, if_pos (by rw [decide_eq_true hb.2.1, decide_eq_true hb.2.2]; rfl), if_pos (by omega), hwx, wr_succ (by omega) (by omega), Int.toNat_natCast]; rfl
        refine Ev.step hstep ?_
        cases hc1 : (l.take n).contains x with
        | true =>
          rw [hc1] at h1
          refine evEq (Ev.bind (f := fun k t => if t = true then some false else (spec_l1Has.f k (l.take n) (-x)).bind fun t' => if t' = true then some false else spec_l4Clause.l0 k vars l l (l.length : Int) ((n + 1 : Nat) : Int)) h1 (Ev.all (r := false) (fun k => if_pos rfl))) ?_
          rfl
        | false =>
          rw [hc1] at h1
          cases hc2 : (l.take n).contains (-x) with
          | true =>
            rw [hc2] at h2
            refine evEq (Ev.bind (f := fun k t => if t = true then some false else (spec_l1Has.f k (l.take n) (-x)).bind fun t' => if t' = true then some false else spec_l4Clause.l0 k vars l l (l.length : Int) ((n + 1 : Nat) : Int)) h1
              (Ev.congr (fun k => if_neg (by simp)) (Ev.bind (f := fun k t' => if t' = true then some false else spec_l4Clause.l0 k vars l l (l.length : Int) ((n + 1 : Nat) : Int)) h2 (Ev.all (r := false) (fun k => if_pos rfl))))) ?_
            rfl
          | false =>
            rw [hc2] at h2
            exact Ev.bind (f := fun k t => if t = true then some false else (spec_l1Has.f k (l.take n) (-x)).bind fun t' => if t' = true then some false else spec_l4Clause.l0 k vars l l (l.length : Int) ((n + 1 : Nat) : Int)) h1
              (Ev.congr (fun k => if_neg (by simp)) (Ev.bind (f := fun k t' => if t' = true then some false else spec_l4Clause.l0 k vars l l (l.length : Int) ((n + 1 : Nat) : Int)) h2 (Ev.congr (fun k => if_neg (by simp)) (ih (n + 1) (by omega) (by omega)))))
  refine evEq (key _ 0 (by omega) rfl) ?_
  unfold clauseB
  rw [List.take_zero, List.drop_zero]
  cases clauseFrom vars [] l <;> rfl
theorem l4Good_ev (vars : Int) (l : List (List Int)) (hl : l.length ≤ 1048576) (hx : ∀ c ∈ l, c.length ≤ 1048576) : Ev (fun k => spec_l4Good.f k vars l 60) (goodB vars l) := by
  unfold goodB
  by_cases hv : 0 ≤ vars ∧ vars ≤ 12
  · rw [decide_eq_true hv, Bool.true_and]
    have hin : spec_l1In.f vars 0 12 = some true := by rw [l1In_f, decide_eq_true hv.1, decide_eq_true hv.2]; rfl
    by_cases h60 : l.length ≤ 60
    · rw [decide_eq_true h60, Bool.true_and]
      have key : ∀ d n, n ≤ l.length → l.length - n = d → Ev (fun k => spec_l4Good.l0 k vars l (l.length : Int) (n : Int)) (!((l.drop n).any fun c => !clauseB c vars)) := by
        intro d
        induction d with
        | zero =>
          intro n hn hd
          refine Ev.one (fun k => ?_)
          simp only [spec_l4Good.l0]
          rw [if_neg (by omega), List.drop_eq_nil_of_le (by omega)]; rfl
        | succ d ih =>
          intro n hn hd
          have hlt : n < l.length := by omega
          have hc := l4Clause_ev vars (l.getD n []) hv.1 hv.2 (hx _ (memL l n hlt))
          rw [dropL l n hlt, List.any_cons]
          cases hq : clauseB (l.getD n []) vars with
          | true =>
            rw [hq] at hc
            refine Ev.step (f := fun k => (spec_l4Clause.f k vars (l.getD n [])).bind fun t => if t = true then spec_l4Good.l0 k vars l (l.length : Int) ((n + 1 : Nat) : Int) else some false) (fun k => ?_)
              (Ev.bind (f := fun k t => if t = true then spec_l4Good.l0 k vars l (l.length : Int) ((n + 1 : Nat) : Int) else some false) hc (Ev.congr (fun k => if_pos rfl) (ih (n + 1) (by omega) (by omega))))
            simp only [spec_l4Good.l0]
            rw [if_pos (by omega), if_pos (by omega), if_pos (by omega), rdL_nat, wr_succ (by omega) (by omega)]; rfl
          | false =>
            rw [hq] at hc
            refine Ev.step (f := fun k => (spec_l4Clause.f k vars (l.getD n [])).bind fun t => if t = true then spec_l4Good.l0 k vars l (l.length : Int) ((n + 1 : Nat) : Int) else some false) (fun k => ?_)
              (Ev.bind (f := fun k t => if t = true then spec_l4Good.l0 k vars l (l.length : Int) ((n + 1 : Nat) : Int) else some false) hc (Ev.all (fun k => if_neg (by simp))))
            simp only [spec_l4Good.l0]
            rw [if_pos (by omega), if_pos (by omega), if_pos (by omega), rdL_nat, wr_succ (by omega) (by omega)]; rfl
      refine Ev.congr (fun k => ?_) (Ev.step (g := fun k => spec_l4Good.j0 k vars l (decide ((l.length : Int) > 60))) (f := fun k => spec_l4Good.l0 k vars l (l.length : Int) ((0 : Nat) : Int)) (fun k => ?_) (key _ 0 (by omega) rfl))
      · unfold spec_l4Good.f; rw [hin, Option.bind_some, if_pos rfl]
      · simp only [spec_l4Good.j0]; rw [decide_eq_false (by omega), if_neg (by simp)]; rfl
    · rw [decide_eq_false h60]
      refine Ev.congr (fun k => ?_) (Ev.one (g := fun k => spec_l4Good.j0 k vars l (decide ((l.length : Int) > 60))) (fun k => ?_))
      · unfold spec_l4Good.f; rw [hin, Option.bind_some, if_pos rfl]
      · simp only [spec_l4Good.j0]; rw [decide_eq_true (by omega), if_pos rfl]; rfl
  · rw [decide_eq_false hv]
    have hin : spec_l1In.f vars 0 12 = some false := by
      rw [l1In_f]
      by_cases h : 0 ≤ vars
      · rw [decide_eq_false (p := vars ≤ 12) (by omega)]; simp
      · rw [decide_eq_false h]; simp
    refine Ev.congr (fun k => ?_) (Ev.one (g := fun k => spec_l4Good.j0 k vars l true) (fun k => ?_))
    · unfold spec_l4Good.f; rw [hin, Option.bind_some, if_neg (by simp)]
    · simp only [spec_l4Good.j0]; rw [if_pos trivial]; rfl
theorem specGood_ev (vars : Int) (l : List (List Int)) (hl : l.length ≤ 1048576) (hx : ∀ c ∈ l, c.length ≤ 1048576) : Ev (fun k => spec_GoodClauses.f k vars l) (goodB vars l) :=
  Ev.bind (f := fun _ t => some t) (l4Good_ev vars l hl hx) (Ev.now _)
theorem specIsTwo_ev (vars : Int) (l : List (List Int)) (hl : l.length ≤ 1048576) (hx : ∀ c ∈ l, c.length ≤ 1048576) : Ev (fun k => spec_IsTwo.f k vars l) (twoB vars l) := by
  have key : ∀ d n, n ≤ l.length → l.length - n = d → Ev (fun k => spec_IsTwo.l0 k vars l l (l.length : Int) (n : Int)) (goodB vars l && !((l.drop n).any fun c => !sz12 c)) := by
    intro d
    induction d with
    | zero =>
      intro n hn hd
      rw [List.drop_eq_nil_of_le (by omega)]
      refine evEq (Ev.step (f := fun k => (spec_GoodClauses.f k vars l).bind fun t => some t) (fun k => ?_) (Ev.bind (f := fun _ t => some t) (specGood_ev vars l hl hx) (Ev.now _))) ?_
      · simp only [spec_IsTwo.l0]
        rw [if_neg (by omega)]
      · simp
    | succ d ih =>
      intro n hn hd
      have hlt : n < l.length := by omega
      have hs : spec_l1In.f ((l.getD n []).length : Int) 1 2 = some (sz12 (l.getD n [])) := by
        rw [l1In_f]; unfold sz12; congr 1
        generalize (l.getD n []).length = m
        by_cases h1 : 1 ≤ m
        · by_cases h2 : m ≤ 2
          · rw [decide_eq_true h1, decide_eq_true h2, decide_eq_true (by omega), decide_eq_true (by omega)]
          · rw [decide_eq_true h1, decide_eq_false h2, decide_eq_true (by omega), decide_eq_false (by omega)]
        · rw [decide_eq_false h1, decide_eq_false (by omega)]; simp
      rw [dropL l n hlt, List.any_cons]
      cases hq : sz12 (l.getD n []) with
      | true =>
        rw [hq] at hs
        refine Ev.step (f := fun k => spec_IsTwo.l0 k vars l l (l.length : Int) ((n + 1 : Nat) : Int)) (fun k => ?_) (ih (n + 1) (by omega) (by omega))
        simp only [spec_IsTwo.l0]
        rw [if_pos (by omega), if_pos (by omega), if_pos (by omega), rdL_nat, hs, Option.bind_some, if_pos rfl, wr_succ (by omega) (by omega)]; rfl
      | false =>
        rw [hq] at hs
        refine evEq (Ev.one (r := false) (fun k => ?_)) ?_
        · simp only [spec_IsTwo.l0]
          rw [if_pos (by omega), if_pos (by omega), if_pos (by omega), rdL_nat, hs, Option.bind_some, if_neg (by simp)]
        · simp
  exact key _ 0 (by omega) rfl
end Go.Proofs.Ythjgcapfojhfjaa.P
