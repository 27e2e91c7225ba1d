/- Plain laws: the reduction, the reference's side alone. -/
import Derived.Test.YtfoiedjjhgpcpaaGreatKPe
namespace Go.Proofs.YtfoiedjjhgpcpaaGreat
open Go.RowKit
set_option maxRecDepth 100000
set_option linter.unusedVariables false
set_option linter.unusedSimpArgs false
section
variable {N : Int} {h : 1 ≤ N ∧ N ≤ 4}
/-- Stage 1. -/
theorem s_st1 {q B : Nat} (hq : q < N.toNat) (hB : B ≤ 900) {s : RS} (hs : RI (N := N) B s) :
    s_l28First_l1 N q FU N s.1 s.2 q = s_l28First_j2 N q N (iterN (f1 h q) q (N.toNat - q) s).1 (iterN (f1 h q) q (N.toNat - q) s).2 ∧ RI (N := N) (B + 8) (iterN (f1 h q) q (N.toNat - q) s) := by
  have hn := n_le h
  have H := st_loop0 (fun m k (s : RS) => s_l28First_l1 N q m N s.1 s.2 k) (f1 h q) (fun s => s_l28First_j2 N q N s.1 s.2) N.toNat (LI (N := N) B) (by omega) (fun m k s hk hi => ?_) (inv_f1 hq) (fun m s hi => ?_) q (by omega) s (LI.of hs hB (by omega))
  · obtain ⟨e, i⟩ := H
    exact ⟨e, i.to hn⟩
  · show s_l28First_l1 N q (m + 1) N s.1 s.2 (k : Int) = s_l28First_l1 N q m N (f1 h q k s).1 (f1 h q k s).2 ((k + 1 : Nat) : Int)
    obtain ⟨r, e1, e3, e4, eX, eZ, _⟩ := hi.row (j := q) (by omega)
    have hlt : (k : Int) < N := by omega
    have g5 := one_ok h (kd := 5) (by omega) hk
    have g4 := one_ok h (kd := 4) (by omega) hk
    have d5 := s_do (h := h) hi.1 g5.1 g5.2
    have d4 := s_do (h := h) hi.1 g4.1 g4.2
    rw [s_l28First_l1]
    simp only [hlt, decide_true, br_true, e1, bO_some, s_bx e3 (by omega : k < 4), s_bz e4 (by omega : k < 4), s_l28First_j8, s_l28First_j7, s_l14One, hw4 (by omega : k < 10)]
    unfold f1
    rw [eX, eZ]
    cases bt r.2.1 k <;> cases bt r.2.2.1 k <;> simp only [br_true, br_false, bO_some, Bool.and_self, Bool.and_false, Bool.false_and, Bool.true_and, if_true, if_false, Bool.false_eq_true]
    · exact congrArg (fun z => bO z _) d4
    · exact congrArg (fun z => bO z _) d5
  · show s_l28First_l1 N q (m + 1) N s.1 s.2 ((N.toNat : Nat) : Int) = _
    rw [s_l28First_l1]
    have hlt : ¬ ((N.toNat : Nat) : Int) < N := by omega
    simp only [hlt, decide_false, br_false]
/-- Stage 2: the search. -/
theorem s_find (h : 1 ≤ N ∧ N ≤ 4) {q B : Nat} (hq : q < N.toNat) {s : RS} (hs : LI (N := N) B 0 s) : ∀ (c m k : Nat), k + c = N.toNat - 1 → c < m →
    s_l28First_l2 N q N s.1 s.2 m k = s_l28First_j9 N q N s.1 s.2 (findK s q c k)
  | c, 0, k, _, hm => by omega
  | 0, m + 1, k, hk, hm => by
    rw [s_l28First_l2, w64 (x := N - 1) (by omega) (by omega)]
    have hlt : ¬ (k : Int) < N - 1 := by omega
    simp only [hlt, decide_false, br_false, bO_some, s_l28First_j12, findK]
  | c + 1, m + 1, k, hk, hm => by
    have hn := n_le h
    obtain ⟨r, e1, e3, e4, eX, eZ, _⟩ := hs.row (j := q) (by omega)
    rw [s_l28First_l2, w64 (x := N - 1) (by omega) (by omega)]
    have hlt : (k : Int) < N - 1 := by omega
    simp only [hlt, decide_true, br_true, e1, bO_some, s_bx e3 (by omega : k < 4), s_l28First_j12, findK, hw4 (by omega : k < 10), eX]
    cases bt r.2.1 k with
    | true => simp only [Bool.not_true, br_false, if_true]
    | false =>
      simp only [Bool.not_false, br_true, Bool.false_eq_true, if_false]
      exact s_find h hq hs c m (k + 1) (by omega) (by omega)
theorem st2 {q B : Nat} (hq : q < N.toNat) (hB : B ≤ 900) {s : RS} (hs : RI (N := N) B s) :
    s_l28First_j2 N q N s.1 s.2 = s_l28First_j13 N q N (f2 h q s).1 (f2 h q s).2 ∧ RI (N := N) (B + 1) (f2 h q s) := by
  have hs0 : LI (N := N) B 0 s := LI.of hs hB (by omega)
  obtain ⟨k1, k2⟩ := find_bd s q (N.toNat - 1 - q) q
  unfold s_l28First_j2 f2
  rw [s_find h hq hs0 (N.toNat - 1 - q) FU q (by omega) (by rw [FU_eq]; omega)]
  unfold s_l28First_j9
  generalize findK s q (N.toNat - 1 - q) q = k at k1 k2 ⊢
  by_cases e : k = q
  · subst e
    simp only [bne_self_eq_false, br_false, if_true]
    first | exact ⟨rfl, hs.mono (by omega) (by omega)⟩ | exact ⟨trivial, hs.mono (by omega) (by omega)⟩
  · have hne : (((k : Nat) : Int) != ((q : Nat) : Int)) = true := by rw [bne_iff_ne]; omega
    have g := two_ok h (a := q) (b := k) hq (by omega) (by omega)
    simp only [hne, br_true, if_neg e]
    rw [s_do (h := h) hs g.2.1 g.2.2]
    exact ⟨rfl, hs.dg (by omega) g.2.1 g.2.2⟩
/-- Stage 3. -/
theorem st3 {q B : Nat} (hq : q < N.toNat) (hB : B ≤ 900) {s : RS} (hs : RI (N := N) B s) :
    s_l28First_j13 N q N s.1 s.2 = some (N, (iterN (f3 h q) (q + 1) (N.toNat - (q + 1)) s).1, (iterN (f3 h q) (q + 1) (N.toNat - (q + 1)) s).2) ∧
    RI (N := N) (B + 8) (iterN (f3 h q) (q + 1) (N.toNat - (q + 1)) s) := by
  have hn := n_le h
  have I0 : (LI (N := N) B (q + 1) s) := LI.of hs hB (by omega)
  have H := st_loop0 (fun m k (s : RS) => s_l28First_l3 N q m N s.1 s.2 k) (f3 h q) (fun s => some (N, s.1, s.2)) N.toNat (fun k s => LI (N := N) B k s ∧ q < k) (by omega) (fun m k s hk hi => ?_) (fun k s hk hi => ⟨inv_f3 hq k s hk hi.2 hi.1, by omega⟩) (fun m s hi => ?_) (q + 1) (by omega) s ⟨I0, by omega⟩
  · obtain ⟨e, i⟩ := H
    unfold s_l28First_j13
    rw [hw4 (by omega : q < 10)]
    exact ⟨e, i.1.to hn⟩
  · show s_l28First_l3 N q (m + 1) N s.1 s.2 (k : Int) = s_l28First_l3 N q m N (f3 h q k s).1 (f3 h q k s).2 ((k + 1 : Nat) : Int)
    obtain ⟨r, e1, e3, e4, eX, eZ, _⟩ := hi.1.row (j := q) (by omega)
    have hlt : (k : Int) < N := by omega
    have g := two_ok h (a := q) (b := k) hq hk (by omega)
    have d := s_do (h := h) hi.1.1 g.1.1 g.1.2
    rw [s_l28First_l3]
    simp only [hlt, decide_true, br_true, e1, bO_some, s_bx e3 (by omega : k < 4), s_l28First_j16, s_l14Cx, hw4 (by omega : k < 10)]
    unfold f3
    rw [eX]
    cases bt r.2.1 k <;> simp only [br_true, br_false, if_true, if_false, Bool.false_eq_true]
    exact congrArg (fun z => bO z _) d
  · show s_l28First_l3 N q (m + 1) N s.1 s.2 ((N.toNat : Nat) : Int) = _
    rw [s_l28First_l3]
    have hlt : ¬ ((N.toNat : Nat) : Int) < N := by omega
    simp only [hlt, decide_false, br_false, s_l28First_j1]
/-- Stage 4. -/
theorem st4 {q B : Nat} (hq : q < N.toNat) (hB : B ≤ 900) {s : RS} (hs : RI (N := N) B s) :
    s_l28Second N s.1 s.2 q = s_l28Second_j2 N q N (iterN (f4 h (N.toNat + q)) (q + 1) (N.toNat - (q + 1)) s).1 (iterN (f4 h (N.toNat + q)) (q + 1) (N.toNat - (q + 1)) s).2 ∧
    RI (N := N) (B + 8) (iterN (f4 h (N.toNat + q)) (q + 1) (N.toNat - (q + 1)) s) := by
  have hn := n_le h
  have I0 : (LI (N := N) B (q + 1) s) := LI.of hs hB (by omega)
  have hj : IntKind.wrap .i64 (N + (q : Int)) = ((N.toNat + q : Nat) : Int) := by rw [w64 (by omega) (by omega)]; omega
  have H := st_loop0 (fun m k (s : RS) => s_l28Second_l1 N q m N s.1 s.2 k) (f4 h (N.toNat + q)) (fun s => s_l28Second_j2 N q N s.1 s.2) N.toNat (LI (N := N) B) (by omega) (fun m k s hk hi => ?_) inv_f4 (fun m s hi => ?_) (q + 1) (by omega) s I0
  · obtain ⟨e, i⟩ := H
    unfold s_l28Second
    rw [hw4 (by omega : q < 10)]
    exact ⟨e, i.to hn⟩
  · show s_l28Second_l1 N q (m + 1) N s.1 s.2 (k : Int) = s_l28Second_l1 N q m N (f4 h (N.toNat + q) k s).1 (f4 h (N.toNat + q) k s).2 ((k + 1 : Nat) : Int)
    obtain ⟨r, e1, e3, e4, eX, eZ, _⟩ := hi.row (j := N.toNat + q) (by omega)
    have hlt : (k : Int) < N := by omega
    have g5 := one_ok h (kd := 5) (by omega) hk
    have g4 := one_ok h (kd := 4) (by omega) hk
    have hB := hi.2
    have d5 := s_do (h := h) hi.1 g5.1 g5.2
    have d54 := s_do (h := h) (hi.1.dg (h := h) (by omega) g5.1 g5.2) g4.1 g4.2
    have d4 := s_do (h := h) hi.1 g4.1 g4.2
    rw [s_l28Second_l1]
    simp only [hlt, decide_true, br_true, hj, e1, bO_some, s_bx e3 (by omega : k < 4), s_bz e4 (by omega : k < 4), s_l28Second_j8, s_l28Second_j7, s_l14One, hw4 (by omega : k < 10)]
    unfold f4
    rw [eX, eZ]
    cases bt r.2.1 k <;> cases bt r.2.2.1 k <;> simp only [br_true, br_false, bO_some, Bool.and_self, Bool.and_false, Bool.false_and, Bool.true_and, if_true, if_false, Bool.false_eq_true]
    · exact congrArg (fun z => bO z _) d4
    · refine (bO_of d5).trans ?_
      exact bO_of d54
  · show s_l28Second_l1 N q (m + 1) N s.1 s.2 ((N.toNat : Nat) : Int) = _
    rw [s_l28Second_l1]
    have hlt : ¬ ((N.toNat : Nat) : Int) < N := by omega
    simp only [hlt, decide_false, br_false]
/-- Stage 5. -/
theorem st5 {q B : Nat} (hq : q < N.toNat) (hB : B ≤ 900) {s : RS} (hs : RI (N := N) B s) :
    s_l28Second_j2 N q N s.1 s.2 = s_l28Second_j9 N q N (iterN (f5 h (N.toNat + q) q) (q + 1) (N.toNat - (q + 1)) s).1 (iterN (f5 h (N.toNat + q) q) (q + 1) (N.toNat - (q + 1)) s).2 ∧
    RI (N := N) (B + 8) (iterN (f5 h (N.toNat + q) q) (q + 1) (N.toNat - (q + 1)) s) := by
  have hn := n_le h
  have I0 : (LI (N := N) B (q + 1) s) := LI.of hs hB (by omega)
  have hj : IntKind.wrap .i64 (N + (q : Int)) = ((N.toNat + q : Nat) : Int) := by rw [w64 (by omega) (by omega)]; omega
  have H := st_loop0 (fun m k (s : RS) => s_l28Second_l2 N q m N s.1 s.2 k) (f5 h (N.toNat + q) q) (fun s => s_l28Second_j9 N q N s.1 s.2) N.toNat (fun k s => LI (N := N) B k s ∧ q < k) (by omega) (fun m k s hk hi => ?_) (fun k s hk hi => ⟨inv_f5 hq k s hk hi.2 hi.1, by omega⟩) (fun m s hi => ?_) (q + 1) (by omega) s ⟨I0, by omega⟩
  · obtain ⟨e, i⟩ := H
    unfold s_l28Second_j2
    rw [hw4 (by omega : q < 10)]
    exact ⟨e, i.1.to hn⟩
  · show s_l28Second_l2 N q (m + 1) N s.1 s.2 (k : Int) = s_l28Second_l2 N q m N (f5 h (N.toNat + q) q k s).1 (f5 h (N.toNat + q) q k s).2 ((k + 1 : Nat) : Int)
    obtain ⟨r, e1, e3, e4, eX, eZ, _⟩ := hi.1.row (j := N.toNat + q) (by omega)
    have hlt : (k : Int) < N := by omega
    have g := two_ok h (a := k) (b := q) hk hq (by omega)
    have d := s_do (h := h) hi.1.1 g.1.1 g.1.2
    rw [s_l28Second_l2]
    simp only [hlt, decide_true, br_true, hj, e1, bO_some, s_bz e4 (by omega : k < 4), s_l28Second_j12, s_l14Cx, hw4 (by omega : k < 10)]
    unfold f5
    rw [eZ]
    cases bt r.2.2.1 k <;> simp only [br_true, br_false, if_true, if_false, Bool.false_eq_true]
    exact congrArg (fun z => bO z _) d
  · show s_l28Second_l2 N q (m + 1) N s.1 s.2 ((N.toNat : Nat) : Int) = _
    rw [s_l28Second_l2]
    have hlt : ¬ ((N.toNat : Nat) : Int) < N := by omega
    simp only [hlt, decide_false, br_false]
/-- Stages 6, 7, 8. -/
theorem st6 {q B : Nat} (hq : q < N.toNat) (hB : B ≤ 900) {s : RS} (hs : RI (N := N) B s) :
    s_l28Second_j9 N q N s.1 s.2 = s_l28Second_j13 N q N (f6 h (N.toNat + q) q s).1 (f6 h (N.toNat + q) q s).2 ∧ RI (N := N) (B + 3) (f6 h (N.toNat + q) q s) := by
  have hn := n_le h
  have hj : IntKind.wrap .i64 (N + (q : Int)) = ((N.toNat + q : Nat) : Int) := by rw [w64 (by omega) (by omega)]; omega
  obtain ⟨r, e1, e3, e4, eX, eZ, _⟩ := (LI.of (k := 0) hs hB (by omega)).row (j := N.toNat + q) (by omega)
  have g5 := one_ok h (kd := 5) (by omega) hq
  have g4 := one_ok h (kd := 4) (by omega) hq
  have R1 := hs.dg (h := h) (by omega) g4.1 g4.2
  have R2 := R1.dg (h := h) (by omega) g5.1 g5.2
  have R3 := R2.dg (h := h) (by omega) g4.1 g4.2
  have c1 := s_do (h := h) hs g4.1 g4.2
  have c2 := s_do (h := h) R1 g5.1 g5.2
  have c3 := s_do (h := h) R2 g4.1 g4.2
  unfold s_l28Second_j9 f6
  rw [hj, e1, bO_some, s_bx e3 (by omega : q < 4), bO_some, eX]
  cases bt r.2.1 q with
  | false =>
    simp only [br_false, Bool.false_eq_true, if_false]
    first | exact ⟨rfl, hs.mono (by omega) (by omega)⟩ | exact ⟨trivial, hs.mono (by omega) (by omega)⟩
  | true =>
    simp only [br_true, if_true, s_l14One, bO_some]
    refine ⟨?_, R3⟩
    · refine (bO_of c1).trans ?_
      refine (bO_of c2).trans ?_
      exact bO_of c3
theorem st7 {q B : Nat} (hq : q < N.toNat) (hB : B ≤ 900) {s : RS} (hs : RI (N := N) B s) :
    s_l28Second_j13 N q N s.1 s.2 = s_l28Second_j14 N q N (f7 h q s).1 (f7 h q s).2 ∧ RI (N := N) (B + 1) (f7 h q s) := by
  have hn := n_le h
  obtain ⟨r, e1, e3, e4, eX, eZ, eP⟩ := (LI.of (k := 0) hs hB (by omega)).row (j := q) (by omega)
  have g := one_ok h (kd := 3) (by omega) hq
  have c1 := s_do (h := h) hs g.1 g.2
  unfold s_l28Second_j13 f7
  rw [e1, bO_some, eP]
  cases (r.2.2.2 == 2) with
  | false =>
    simp only [br_false, Bool.false_eq_true, if_false]
    first | exact ⟨rfl, hs.mono (by omega) (by omega)⟩ | exact ⟨trivial, hs.mono (by omega) (by omega)⟩
  | true =>
    simp only [br_true, if_true, s_l14One, bO_some]
    exact ⟨congrArg (fun z => bO z _) c1, hs.dg (by omega) g.1 g.2⟩
theorem st8 {q B : Nat} (hq : q < N.toNat) (hB : B ≤ 900) {s : RS} (hs : RI (N := N) B s) :
    s_l28Second_j14 N q N s.1 s.2 = some (N, (f8 h (N.toNat + q) q s).1, (f8 h (N.toNat + q) q s).2) ∧ RI (N := N) (B + 1) (f8 h (N.toNat + q) q s) := by
  have hn := n_le h
  have hj : IntKind.wrap .i64 (N + (q : Int)) = ((N.toNat + q : Nat) : Int) := by rw [w64 (by omega) (by omega)]; omega
  obtain ⟨r, e1, e3, e4, eX, eZ, eP⟩ := (LI.of (k := 0) hs hB (by omega)).row (j := N.toNat + q) (by omega)
  have g := one_ok h (kd := 1) (by omega) hq
  have c1 := s_do (h := h) hs g.1 g.2
  unfold s_l28Second_j14 f8
  rw [hj, e1, bO_some, eP]
  cases (r.2.2.2 == 2) with
  | false =>
    simp only [br_false, Bool.false_eq_true, if_false]
    first | exact ⟨rfl, hs.mono (by omega) (by omega)⟩ | exact ⟨trivial, hs.mono (by omega) (by omega)⟩
  | true =>
    simp only [br_true, if_true, s_l14One, bO_some]
    exact ⟨congrArg (fun z => bO z _) c1, hs.dg (by omega) g.1 g.2⟩
/-- One qubit. -/
theorem sq_eq {n q : Nat} : n - 1 - q = n - (q + 1) := by omega
theorem qubit_ok {q B : Nat} (hq : q < N.toNat) (hB : B ≤ 800) {s : RS} (hs : RI (N := N) B s) :
    (bO (s_l28First N s.1 s.2 q) fun x => s_l28Second x.1 x.2.1 x.2.2 q) = some (N, (secondP h q (firstP h q s)).1, (secondP h q (firstP h q s)).2) ∧ RI (N := N) (B + 60) (secondP h q (firstP h q s)) := by
  obtain ⟨a1, R1⟩ := s_st1 (h := h) hq (by omega) hs
  obtain ⟨a2, R2⟩ := st2 (h := h) hq (by omega) R1
  obtain ⟨a3, R3⟩ := st3 (h := h) hq (by omega) R2
  obtain ⟨a4, R4⟩ := st4 (h := h) hq (by omega) R3
  obtain ⟨a5, R5⟩ := st5 (h := h) hq (by omega) R4
  obtain ⟨a6, R6⟩ := st6 (h := h) hq (by omega) R5
  obtain ⟨a7, R7⟩ := st7 (h := h) hq (by omega) R6
  obtain ⟨a8, R8⟩ := st8 (h := h) hq (by omega) R7
  refine ⟨?_, ?_⟩
  · unfold s_l28First
    rw [a1, a2, a3, bO_some]
    simp only
    rw [a4, a5, a6, a7, a8]
    unfold secondP firstP
    rw [sq_eq]
  · unfold secondP firstP
    rw [sq_eq]
    exact R8.mono (by omega) (by omega)
theorem red_s {l : List Q4} (ht : tB N l = true) (hl : l.length ≤ 1048576) : s_ReduceTableau N l = some ((redP h l).2, true) ∧ RI (N := N) 250 (redP h l) := by
  have hn := n_le h
  have step : ∀ (c k : Nat) (ms : Nat) (s : RS), k + c = N.toNat → c < ms → RI (N := N) (60 * k) s →
      s_ReduceTableau_l1 N ms k N s.1 s.2 = some ((iterN (fun q s => secondP h q (firstP h q s)) k c s).2, true) ∧ RI (N := N) (60 * N.toNat) (iterN (fun q s => secondP h q (firstP h q s)) k c s) := by
    intro c
    induction c with
    | zero =>
      intro k ms s hk h1 hs
      obtain ⟨ms, rfl⟩ : ∃ m', ms = m' + 1 := ⟨ms - 1, by omega⟩
      rw [s_ReduceTableau_l1]
      have hlt : ¬ (k : Int) < N := by omega
      have hg : decide (([] : List Q4).length + s.2.length ≤ 16777216) = true := decide_eq_true (by have := hs.2.1; have := hs.2.2; simp; omega)
      simp only [hlt, decide_false, br_false, s_ReduceTableau_j1]
      refine ⟨congrArg (fun z => gd z _) hg, ?_⟩
      have : k = N.toNat := by omega
      subst this
      exact hs
    | succ c ih =>
      intro k ms s hk h1 hs
      obtain ⟨ms, rfl⟩ : ∃ m', ms = m' + 1 := ⟨ms - 1, by omega⟩
      have hlt : (k : Int) < N := by omega
      obtain ⟨q1, q3⟩ := qubit_ok (h := h) (q := k) (by omega) (by omega) hs
      obtain ⟨x, hx1, hx2⟩ := bO_inv q1
      obtain ⟨i1, i3⟩ := ih (k + 1) ms _ (by omega) (by omega) (q3.mono (by omega) (by omega))
      rw [s_ReduceTableau_l1]
      simp only [hlt, decide_true, br_true, hx1, hx2, bO_some, hw4 (by omega : k < 10)]
      exact ⟨i1, i3⟩
  obtain ⟨s1, s3⟩ := step N.toNat 0 FU (l, []) (by omega) (by rw [FU_eq]; omega) ⟨ht, by simp, by omega⟩
  have hg : decide (([] : List Q4).length + l.length ≤ 16777216) = true := decide_eq_true (by simp; omega)
  refine ⟨?_, s3.mono (by omega) (by omega)⟩
  unfold s_ReduceTableau s_l26Copy
  rw [s_tab N l hl, ht, bO_some]
  simp only [Bool.not_true, br_false]
  refine (congrArg (fun z => bO (gd z _) _) hg).trans ?_
  rw [gd_true, bO_some]
  exact s1
end
end Go.Proofs.YtfoiedjjhgpcpaaGreat
