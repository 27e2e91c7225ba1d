/- Plain law: a run shortened through its normal form: the function, and that it is idempotent. -/
import Derived.Test.YtbkkfmcjfbbkaaaPnb
namespace Go.Proofs.Ytbkkfmcjfbbkaaa
open Go.RowKit
set_option maxRecDepth 100000
set_option linter.unusedVariables false
set_option linter.unusedSimpArgs false
def oneF (q : Q4) : Q4 := (q.1, 0, 0, 0)
def rcF : List Q4 → Int
  | [] => 0
  | q :: g => (if q.1 = 7 ∨ q.1 = 8 then 100 else 1) + rcF g
def hdA (g : List Q4) : Int := match g with | [] => 0 | q :: _ => q.2.1
def srB (A : Int) (q : Q4) : Bool := arity q.1 == 1 && (q.2.1 == A && ivg q.1 q.2.1 q.2.2.1 q.2.2.2 4)
def stF (g : List Q4) : List Int × List Q4 := fo (g.map oneF) S0
def shF (g : List Q4) : List Q4 := nfgF (stF g).1 (stF g).2
def setA (A : Int) (q : Q4) : Q4 := (q.1, A, q.2.2.1, q.2.2.2)
/-- ShortenRun of both sides. -/
def srF (g : List Q4) : List Q4 := if g.all (srB (hdA g)) = true ∧ rcF (shF g) < rcF g then (shF g).map (setA (hdA g)) else g
theorem ivg_1 {k a b c n : Int} (h : arity k = 1) : ivg k a b c n = (decide (1 ≤ n ∧ n ≤ 4) && (decide (0 ≤ a ∧ a ≤ n - 1) && (b == 0 && c == 0))) := by
  unfold ivg
  rw [h]
  unfold okQ okQ okQ okQ
  simp
theorem rc_append (g h : List Q4) : rcF (g ++ h) = rcF g + rcF h := by
  induction g with
  | nil => simp [rcF]
  | cons q g ih => simp only [List.cons_append, rcF, ih]; omega
theorem rc_map (f : Q4 → Q4) (hf : ∀ q, (f q).1 = q.1) (g : List Q4) : rcF (g.map f) = rcF g := by
  induction g with
  | nil => rfl
  | cons q g ih => simp only [List.map_cons, rcF, hf, ih]
theorem rc_bd (g : List Q4) : (g.length : Int) ≤ rcF g ∧ rcF g ≤ 100 * g.length := by
  induction g with
  | nil => simp [rcF]
  | cons q g ih => simp only [rcF, List.length_cons]; split <;> omega
theorem sr_g1 {g : List Q4} {A : Int} (h : g.all (srB A) = true) : ∀ q ∈ g.map oneF, G1 q := by
  intro q hq
  obtain ⟨r, hr, rfl⟩ := List.mem_map.1 hq
  have e := List.all_eq_true.1 h r hr
  unfold srB at e
  simp only [Bool.and_eq_true, beq_iff_eq] at e
  show ivg r.1 0 0 0 1 = true
  rw [ivg_1 e.1]
  decide
theorem st_ok {g : List Q4} {A : Int} (hg : g.length ≤ 1048576) (h : g.all (srB A) = true) : SV (stF g).1 ∧ tB 1 (stF g).2 = true ∧ (stF g).1.length ≤ g.length := by
  obtain ⟨_, _, h1, h2, h3⟩ := cnf_ok (g := g.map oneF) (by simpa using hg) (sr_g1 h)
  rw [List.length_map] at h3
  exact ⟨h1, h2, h3⟩
/-- The gates of a normal form are all of one qubit, at place 0. -/
theorem ar1 {k a b c : Int} (h : ivg k a b c 1 = true) : arity k = 1 := by
  rcases ar4 k with e | e | e | e
  · unfold ivg at h; rw [e] at h; simp at h
  · exact e
  · unfold ivg at h; rw [e] at h
    unfold okQ okQ okQ at h
    simp at h; omega
  · unfold ivg at h; rw [e] at h
    unfold okQ okQ okQ at h
    simp at h; omega
theorem g1_one {q : Q4} (h : G1 q) : oneF q = q := by
  unfold G1 at h
  have e := ar1 h
  rw [ivg_1 e] at h
  simp only [Bool.and_eq_true, decide_eq_true_eq, beq_iff_eq] at h
  obtain ⟨_, h1, h2, h3⟩ := h
  exact q4_ext rfl (show (0 : Int) = q.2.1 by omega) h2.symm h3.symm
theorem sr_short {y : List Int} {l : List Q4} {A : Int} (hv : SV y) (ht : tB 1 l = true) (hA : 0 ≤ A ∧ A ≤ 3) : ((nfgF y l).map (setA A)).all (srB A) = true ∧ ((nfgF y l).map (setA A)).map oneF = nfgF y l := by
  constructor
  · refine List.all_eq_true.2 fun q hq => ?_
    obtain ⟨r, hr, rfl⟩ := List.mem_map.1 hq
    have h := nfg_g1 hv ht r hr
    have e := ar1 h
    unfold G1 at h
    rw [ivg_1 e] at h
    simp only [Bool.and_eq_true, decide_eq_true_eq, beq_iff_eq] at h
    obtain ⟨_, h1, h2, h3⟩ := h
    unfold srB setA
    simp only [e, ivg_1 e, h2, h3]
    simp
    omega
  · rw [List.map_map]
    refine (List.map_congr_left fun q hq => ?_).trans (List.map_id _)
    show oneF (setA A q) = q
    exact (show oneF (setA A q) = oneF q from rfl).trans (g1_one (nfg_g1 hv ht q hq))
theorem hd_mem {g : List Q4} (h : g ≠ []) : ∃ q ∈ g, q.2.1 = hdA g := by
  cases g with
  | nil => exact absurd rfl h
  | cons q g => exact ⟨q, List.mem_cons_self .., rfl⟩
theorem sr_idem {g : List Q4} (hg : g.length ≤ 1048576) : srF (srF g) = srF g ∧ rcF (srF g) ≤ rcF g := by
  by_cases h : g.all (srB (hdA g)) = true ∧ rcF (shF g) < rcF g
  · have e : srF g = (shF g).map (setA (hdA g)) := by unfold srF; rw [if_pos h]
    obtain ⟨hv, ht, hl⟩ := st_ok hg h.1
    have hne : g ≠ [] := by
      rintro rfl
      have := (rc_bd (shF [])).1
      have h2 := h.2
      simp only [rcF] at h2
      omega
    obtain ⟨q, hq, hq2⟩ := hd_mem hne
    have hA : 0 ≤ hdA g ∧ hdA g ≤ 3 := by
      have := List.all_eq_true.1 h.1 q hq
      unfold srB at this
      simp only [Bool.and_eq_true, beq_iff_eq] at this
      obtain ⟨a1, a2, a3⟩ := this
      rw [ivg_1 a1] at a3
      simp only [Bool.and_eq_true, decide_eq_true_eq] at a3
      omega
    obtain ⟨s1, s2⟩ := sr_short hv ht hA
    have c : rcF (srF g) = rcF (shF g) := by rw [e]; exact rc_map (setA (hdA g)) (fun q => rfl) _
    have st : stF (srF g) = stF g := by
      show fo ((srF g).map oneF) S0 = _
      rw [e]
      show fo (((nfgF (stF g).1 (stF g).2).map (setA (hdA g))).map oneF) S0 = _
      rw [s2, back hv ht]
    have sh : shF (srF g) = shF g := by unfold shF; rw [st]
    refine ⟨?_, by omega⟩
    show (if (srF g).all (srB (hdA (srF g))) = true ∧ rcF (shF (srF g)) < rcF (srF g) then _ else srF g) = srF g
    rw [if_neg]
    rintro ⟨_, h2⟩
    rw [sh] at h2
    omega
  · have e : srF g = g := by unfold srF; rw [if_neg h]
    rw [e, e]
    exact ⟨rfl, Int.le_refl _⟩
end Go.Proofs.Ytbkkfmcjfbbkaaa
