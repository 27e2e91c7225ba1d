/- Plain laws: valid tableaux. -/
import Derived.Test.YtbkkfmcjfbbkaaaPa
namespace Go.Proofs.Ytbkkfmcjfbbkaaa
open Go.RowKit
set_option maxRecDepth 100000
set_option linter.unusedVariables false
set_option linter.unusedSimpArgs false
theorem loop_allI (L : Nat → Int → Option Bool) (n : Nat) (f : Nat → Bool) (hs : ∀ m k, k < n → (∀ j, j < k → f j = true) → L (m + 1) (k : Int) = br (f k) (L m ((k + 1 : Nat) : Int)) (some false)) (c : Option Bool) (he : ∀ m, L (m + 1) (n : Int) = c) :
    ∀ m k, k ≤ n → n - k < m → (∀ j, j < k → f j = true) → L m (k : Int) = br ((List.range' k (n - k)).all f) c (some false)
  | 0, k, _, h, _ => by omega
  | m + 1, k, hk, h, hj => by
    by_cases e : k = n
    · subst e; rw [he, Nat.sub_self]; rfl
    · rw [hs m k (by omega) hj, show n - k = (n - (k + 1)) + 1 by omega, List.range'_succ, List.all_cons]
      cases hf : f k with
      | false => rfl
      | true =>
        rw [br_true, loop_allI L n f hs c he m (k + 1) (by omega) (by omega) (fun j hjk => by
          rcases Nat.lt_or_ge j k with h' | h'
          · exact hj j h'
          · obtain rfl : j = k := by omega
            exact hf)]
        rfl
theorem loop_allI0 (L : Nat → Int → Option Bool) (n : Nat) (f : Nat → Bool) (hn : n ≤ 4000000) (hs : ∀ m k, k < n → (∀ j, j < k → f j = true) → L (m + 1) (k : Int) = br (f k) (L m ((k + 1 : Nat) : Int)) (some false)) (c : Option Bool) (he : ∀ m, L (m + 1) (n : Int) = c) :
    L FU 0 = br ((List.range n).all f) c (some false) := by
  have := loop_allI L n f hs c he FU 0 (by omega) (by rw [FU_eq]; omega) (by omega)
  rw [Nat.sub_zero, ← List.range_eq_range'] at this
  exact this
theorem rowB_herm {N : Int} {l : List Q4} {k : Nat} {q : Q4} (h : rowB N l k = true) (hq : l[k]? = some q) : q.1 = N ∧ hP q = true := by
  unfold rowB at h
  rw [hq] at h
  simp only [Bool.and_eq_true, beq_iff_eq] at h
  exact ⟨h.1, h.2.1⟩
theorem hP_vP {q : Q4} (h : hP q = true) : vP q = true := by
  unfold hP at h
  rw [Bool.and_eq_true] at h
  exact h.1
def cell4 (N : Int) (l : List Q4) (q : Q4) (k i : Nat) : Bool := match l[i]? with
  | some r => !(cP r q == decide ((k : Int) = (i : Int) + N))
  | none => false
theorem rowB_eq {N : Int} {l : List Q4} {k : Nat} {q : Q4} (hq : l[k]? = some q) : rowB N l k = ((q.1 == N) && (hP q && (List.range k).all (cell4 N l q k))) := by
  unfold rowB; rw [hq]; rfl
theorem all_congr {f g : Nat → Bool} {n : Nat} (h : ∀ i, i < n → f i = g i) : (List.range n).all f = (List.range n).all g := by
  rw [Bool.eq_iff_iff, List.all_eq_true, List.all_eq_true]
  constructor
  · intro hf i hi; rw [← h i (List.mem_range.1 hi)]; exact hf i hi
  · intro hf i hi; rw [h i (List.mem_range.1 hi)]; exact hf i hi
theorem s_tab (N : Int) (l : List Q4) (hl : l.length ≤ 1048576) : s_IsValidTableau N l = some (tB N l) := by
  unfold s_IsValidTableau
  rw [s_in_eq, bO_some]
  by_cases hN : 1 ≤ N ∧ N ≤ 4
  · rw [w64 (by omega) (by omega)]
    simp only [hN, and_self, decide_true, Bool.not_true, br_false, bO_some]
    unfold tB s_IsValidTableau_j1
    by_cases hlen : (l.length : Int) = 2 * N
    · simp only [hlen, hN, and_self, bne_self_eq_false, br_false, decide_true, Bool.true_and]
      rw [loop_allI0 (s_IsValidTableau_l1 N l) l.length (rowB N l) (by omega) ?_ (some true) ?_]
      · cases (List.range l.length).all (rowB N l) <;> rfl
      · intro m k hk hj
        have hq := List.getElem?_eq_getElem hk
        obtain ⟨q, hqe⟩ : ∃ q, q = l[k] := ⟨_, rfl⟩
        rw [← hqe] at hq
        rw [s_IsValidTableau_l1, geti_nat hq, rowB_eq hq]
        have hlt : (k : Int) < (l.length : Int) := by omega
        simp only [hlt, decide_true, br_true, bO_some, s_herm]
        cases hqN : (q.1 == N) with
        | false =>
          have : (q.1 != N) = true := by simp only [bne, hqN, Bool.not_false]
          simp only [this, br_true, bO_some, s_IsValidTableau_j8, Bool.false_and, br_false]
        | true =>
          have : (q.1 != N) = false := by simp only [bne, hqN, Bool.not_true]
          simp only [this, br_false, bO_some, s_IsValidTableau_j8, Bool.true_and]
          cases hh : hP q with
          | false => simp only [show hP (q.1, q.2.1, q.2.2.1, q.2.2.2) = false from hh, Bool.not_false, br_true, Bool.false_and, br_false]
          | true =>
            simp only [show hP (q.1, q.2.1, q.2.2.1, q.2.2.2) = true from hh, Bool.not_true, br_false, Bool.true_and]
            rw [loop_allI0 (s_IsValidTableau_l4 N l k (s_IsValidTableau_l1 N l m)) k (cell4 N l q k) (by omega) ?_ (s_IsValidTableau_l1 N l m ((k + 1 : Nat) : Int)) ?_]
            · intro m' i hi _
              have hir : i < l.length := by omega
              have hr := List.getElem?_eq_getElem hir
              have hrv := hP_vP (rowB_herm (hj i hi) hr).2
              rw [s_IsValidTableau_l4, geti_nat hr, geti_nat hq, w64s hi (by omega), w64 (by omega) (by omega)]
              have hlt' : (i : Int) < (k : Int) := by omega
              simp only [hlt', decide_true, br_true, bO_some]
              rw [s_comm (by exact hrv) (by exact hP_vP hh), bO_some]
              unfold cell4
              rw [hr]
              show br (cP l[i] q == decide ((k : Int) = (i : Int) + N)) _ _ = br (!(cP l[i] q == decide ((k : Int) = (i : Int) + N))) _ _
              cases (cP l[i] q == decide ((k : Int) = (i : Int) + N)) <;> rfl
            · intro m'
              rw [s_IsValidTableau_l4]
              have hlt' : ¬ (k : Int) < (k : Int) := by omega
              simp only [hlt', decide_false, br_false, s_IsValidTableau_j7]
              rw [w64s (n := l.length) hk (by omega)]
      · intro m
        rw [s_IsValidTableau_l1]
        have hlt : ¬ (l.length : Int) < (l.length : Int) := by omega
        simp only [hlt, decide_false, br_false, s_IsValidTableau_j2]
    · have : ((l.length : Int) != 2 * N) = true := by simpa using hlen
      simp only [this, br_true, hlen, decide_false, Bool.false_and, Bool.and_false]
  · simp [hN, br, bO, s_IsValidTableau_j1, tB]
theorem slc_pre {α : Type} {l : List α} {k : Nat} (h : k ≤ l.length) : slc l 0 (k : Int) = some (l.take k) := by
  unfold slc
  rw [if_pos ⟨by omega, by omega, by omega⟩]
  simp
theorem i_tab (N : Int) (l : List Q4) (hl : l.length ≤ 1048576) : i_IsValidTableau N l = some (tB N l) := by
  unfold i_IsValidTableau
  rw [i_in_eq, bO_some]
  by_cases hN : 1 ≤ N ∧ N ≤ 4
  · rw [w64 (by omega) (by omega)]
    simp only [hN, and_self, decide_true, Bool.not_true, br_false, bO_some]
    unfold tB i_IsValidTableau_j1
    by_cases hlen : (l.length : Int) = 2 * N
    · have hne : ((l.length : Int) != 2 * N) = false := by simpa using hlen
      simp only [hlen, hN, and_self, bne_self_eq_false, br_false, decide_true, Bool.true_and]
      rw [← hlen]
      rw [loop_allI0 (fun m k => i_IsValidTableau_l1 N l m (l.length : Int) k) l.length (rowB N l) (by omega) ?_ (some true) ?_]
      · cases (List.range l.length).all (rowB N l) <;> rfl
      · intro m k hk hj
        have hq := List.getElem?_eq_getElem hk
        obtain ⟨q, hqe⟩ : ∃ q, q = l[k] := ⟨_, rfl⟩
        rw [← hqe] at hq
        show i_IsValidTableau_l1 N l (m + 1) (l.length : Int) (k : Int) = br (rowB N l k) (i_IsValidTableau_l1 N l m (l.length : Int) ((k + 1 : Nat) : Int)) (some false)
        rw [i_IsValidTableau_l1, geti_nat hq, rowB_eq hq]
        have hlt : (k : Int) < (l.length : Int) := by omega
        simp only [hlt, decide_true, br_true, bO_some, i_herm]
        cases hqN : (q.1 == N) with
        | false =>
          have : (q.1 != N) = true := by simp only [bne, hqN, Bool.not_false]
          simp only [this, br_true, bO_some, i_IsValidTableau_j8, Bool.false_and, br_false]
        | true =>
          have : (q.1 != N) = false := by simp only [bne, hqN, Bool.not_true]
          simp only [this, br_false, bO_some, i_IsValidTableau_j8, Bool.true_and]
          cases hh : hP q with
          | false => simp only [show hP (q.1, q.2.1, q.2.2.1, q.2.2.2) = false from hh, Bool.not_false, br_true, Bool.false_and, br_false]
          | true =>
            simp only [show hP (q.1, q.2.1, q.2.2.1, q.2.2.2) = true from hh, Bool.not_true, br_false, Bool.true_and]
            rw [slc_pre (by omega), bO_some]
            have htl : (l.take k).length = k := by simp; omega
            rw [htl]
            rw [loop_allI0 (fun m' i => i_IsValidTableau_l7 N (l.length : Int) k (i_IsValidTableau_l1 N l m) q (l.take k) m' (k : Int) i) k (cell4 N l q k) (by omega) ?_ (i_IsValidTableau_l1 N l m (l.length : Int) ((k + 1 : Nat) : Int)) ?_]
            · intro m' i hi _
              have hir : i < l.length := by omega
              have hr := List.getElem?_eq_getElem hir
              have hrt : (l.take k)[i]? = some l[i] := by rw [List.getElem?_take, if_pos hi]; exact hr
              have hrv := hP_vP (rowB_herm (hj i hi) hr).2
              show i_IsValidTableau_l7 N (l.length : Int) k (i_IsValidTableau_l1 N l m) q (l.take k) (m' + 1) (k : Int) (i : Int) = br (cell4 N l q k i) (i_IsValidTableau_l7 N (l.length : Int) k (i_IsValidTableau_l1 N l m) q (l.take k) m' (k : Int) ((i + 1 : Nat) : Int)) (some false)
              rw [i_IsValidTableau_l7, geti_nat hrt, w64s hi (by omega), w64 (by omega) (by omega)]
              have hlt' : (i : Int) < (k : Int) := by omega
              simp only [hlt', decide_true, br_true, bO_some]
              rw [i_comm (by exact hrv) (by exact hP_vP hh), bO_some]
              unfold cell4
              rw [hr]
              show br (cP l[i] q == decide ((k : Int) = (i : Int) + N)) _ _ = br (!(cP l[i] q == decide ((k : Int) = (i : Int) + N))) _ _
              cases (cP l[i] q == decide ((k : Int) = (i : Int) + N)) <;> rfl
            · intro m'
              show i_IsValidTableau_l7 N (l.length : Int) k (i_IsValidTableau_l1 N l m) q (l.take k) (m' + 1) (k : Int) (k : Int) = _
              rw [i_IsValidTableau_l7]
              have hlt' : ¬ (k : Int) < (k : Int) := by omega
              simp only [hlt', decide_false, br_false, i_IsValidTableau_j7]
              rw [w64s (n := l.length) hk (by omega)]
      · intro m
        show i_IsValidTableau_l1 N l (m + 1) (l.length : Int) (l.length : Int) = _
        rw [i_IsValidTableau_l1]
        have hlt : ¬ (l.length : Int) < (l.length : Int) := by omega
        simp only [hlt, decide_false, br_false, i_IsValidTableau_j2]
    · have : ((l.length : Int) != 2 * N) = true := by simpa using hlen
      simp only [this, br_true, hlen, decide_false, Bool.false_and, Bool.and_false]
  · simp [hN, br, bO, i_IsValidTableau_j1, tB]
end Go.Proofs.Ytbkkfmcjfbbkaaa
