/- Joined texts: Psr Pst Ptc. -/
import Derived.Test.YtfjopjalhllplaaGreatKPnb
import Derived.Test.YtfjopjalhllplaaGreatK7
import Derived.Test.YtfjopjalhllplaaGreatK17
import Derived.Test.YtfjopjalhllplaaGreatKPvn
import Derived.Test.YtfjopjalhllplaaGreatKPdr
/- Plain law: a run shortened through its normal form: the function, and that it is idempotent. -/
namespace Go.Proofs.YtfjopjalhllplaaGreat
open Go.RowKit
set_option maxRecDepth 100000
set_option linter.unusedVariables false
set_option linter.unusedSimpArgs false
def oneF (q : Q4) : Q4 := (q.1, 0, 0, 0)
def rcF : List Q4 → Int
 | [] => 0
 | q :: g => (if q.1 = 7 ∨ q.1 = 8 then 100 else 1) + rcF g
def hdA (g : List Q4) : Int := match g with | [] => 0 | q :: _ => q.2.1
def srB (A : Int) (q : Q4) : Bool := arity q.1 == 1 && (q.2.1 == A && ivg q.1 q.2.1 q.2.2.1 q.2.2.2 4)
def stF (g : List Q4) : List Int × List Q4 := fo (g.map oneF) S0
def shF (g : List Q4) : List Q4 := nfgF (stF g).1 (stF g).2
def setA (A : Int) (q : Q4) : Q4 := (q.1, A, q.2.2.1, q.2.2.2)
/-- ShortenRun of both sides. -/
def srF (g : List Q4) : List Q4 := if g.all (srB (hdA g)) = true ∧ rcF (shF g) < rcF g then (shF g).map (setA (hdA g)) else g
theorem ivg_1 {k a b c n : Int} (h : arity k = 1) : ivg k a b c n = (decide (1 ≤ n ∧ n ≤ 4) && (decide (0 ≤ a ∧ a ≤ n - 1) && (b == 0 && c == 0))) := by
 unfold ivg
 rw [h]
 unfold okQ okQ okQ okQ
 simp
theorem rc_append (g h : List Q4) : rcF (g ++ h) = rcF g + rcF h := by
 induction g with
 | nil => simp [rcF]
 | cons q g ih => simp only [List.cons_append, rcF, ih]; omega
theorem rc_map (f : Q4 → Q4) (hf : ∀ q, (f q).1 = q.1) (g : List Q4) : rcF (g.map f) = rcF g := by
 induction g with
 | nil => rfl
 | cons q g ih => simp only [List.map_cons, rcF, hf, ih]
theorem rc_bd (g : List Q4) : (g.length : Int) ≤ rcF g ∧ rcF g ≤ 100 * g.length := by
 induction g with
 | nil => simp [rcF]
 | cons q g ih => simp only [rcF, List.length_cons]; split <;> omega
theorem sr_g1 {g : List Q4} {A : Int} (h : g.all (srB A) = true) : ∀ q ∈ g.map oneF, G1 q := by
 intro q hq
 obtain ⟨r, hr, rfl⟩ := List.mem_map.1 hq
 have e := List.all_eq_true.1 h r hr
 unfold srB at e
 simp only [Bool.and_eq_true, beq_iff_eq] at e
 show ivg r.1 0 0 0 1 = true
 rw [ivg_1 e.1]
 decide
theorem st_ok {g : List Q4} {A : Int} (hg : g.length ≤ 1048576) (h : g.all (srB A) = true) : SV (stF g).1 ∧ tB 1 (stF g).2 = true ∧ (stF g).1.length ≤ g.length := by
 obtain ⟨_, _, h1, h2, h3⟩ := cnf_ok (g := g.map oneF) (by simpa using hg) (sr_g1 h)
 rw [List.length_map] at h3
 exact ⟨h1, h2, h3⟩
/-- The gates of a normal form are all of one qubit, at place 0. -/
theorem ar1 {k a b c : Int} (h : ivg k a b c 1 = true) : arity k = 1 := by
 rcases ar4 k with e | e | e | e
 ·unfold ivg at h; rw [e] at h; simp at h
 ·exact e
 ·unfold ivg at h; rw [e] at h
  unfold okQ okQ okQ at h
  simp at h; omega
 ·unfold ivg at h; rw [e] at h
  unfold okQ okQ okQ at h
  simp at h; omega
theorem g1_one {q : Q4} (h : G1 q) : oneF q = q := by
 unfold G1 at h
 have e := ar1 h
 rw [ivg_1 e] at h
 simp only [Bool.and_eq_true, decide_eq_true_eq, beq_iff_eq] at h
 obtain ⟨_, h1, h2, h3⟩ := h
 exact q4_ext rfl (show (0 : Int) = q.2.1 by omega) h2.symm h3.symm
theorem sr_short {y : List Int} {l : List Q4} {A : Int} (hv : SV y) (ht : tB 1 l = true) (hA : 0 ≤ A ∧ A ≤ 3) : ((nfgF y l).map (setA A)).all (srB A) = true ∧ ((nfgF y l).map (setA A)).map oneF = nfgF y l := by
 constructor
 ·refine List.all_eq_true.2 fun q hq => ?_
  obtain ⟨r, hr, rfl⟩ := List.mem_map.1 hq
  have h := nfg_g1 hv ht r hr
  have e := ar1 h
  unfold G1 at h
  rw [ivg_1 e] at h
  simp only [Bool.and_eq_true, decide_eq_true_eq, beq_iff_eq] at h
  obtain ⟨_, h1, h2, h3⟩ := h
  unfold srB setA
  simp only [e, ivg_1 e, h2, h3]
  simp
  omega
 ·rw [List.map_map]
  refine (List.map_congr_left fun q hq => ?_).trans (List.map_id _)
  show oneF (setA A q) = q
  exact (show oneF (setA A q) = oneF q from rfl).trans (g1_one (nfg_g1 hv ht q hq))
theorem hd_mem {g : List Q4} (h : g ≠ []) : ∃ q ∈ g, q.2.1 = hdA g := by
 cases g with
 | nil => exact absurd rfl h
 | cons q g => exact ⟨q, List.mem_cons_self .., rfl⟩
theorem sr_idem {g : List Q4} (hg : g.length ≤ 1048576) : srF (srF g) = srF g ∧ rcF (srF g) ≤ rcF g := by
 by_cases h : g.all (srB (hdA g)) = true ∧ rcF (shF g) < rcF g
 ·have e : srF g = (shF g).map (setA (hdA g)) := by unfold srF; rw [if_pos h]
  obtain ⟨hv, ht, hl⟩ := st_ok hg h.1
  have hne : g ≠ [] := by
   rintro rfl
   have := (rc_bd (shF [])).1
   have h2 := h.2
   simp only [rcF] at h2
   omega
  obtain ⟨q, hq, hq2⟩ := hd_mem hne
  have hA : 0 ≤ hdA g ∧ hdA g ≤ 3 := by
   have := List.all_eq_true.1 h.1 q hq
   unfold srB at this
   simp only [Bool.and_eq_true, beq_iff_eq] at this
   obtain ⟨a1, a2, a3⟩ := this
   rw [ivg_1 a1] at a3
   simp only [Bool.and_eq_true, decide_eq_true_eq] at a3
   omega
  obtain ⟨s1, s2⟩ := sr_short hv ht hA
  have c : rcF (srF g) = rcF (shF g) := by rw [e]; exact rc_map (setA (hdA g)) (fun q => rfl) _
  have st : stF (srF g) = stF g := by
   show fo ((srF g).map oneF) S0 = _
   rw [e]
   show fo (((nfgF (stF g).1 (stF g).2).map (setA (hdA g))).map oneF) S0 = _
   rw [s2, back hv ht]
  have sh : shF (srF g) = shF g := by unfold shF; rw [st]
  refine ⟨?_, by omega⟩
  show (if (srF g).all (srB (hdA (srF g))) = true ∧ rcF (shF (srF g)) < rcF (srF g) then _ else srF g) = srF g
  rw [if_neg]
  rintro ⟨_, h2⟩
  rw [sh] at h2
  omega
 ·have e : srF g = g := by unfold srF; rw [if_neg h]
  rw [e, e]
  exact ⟨rfl, Int.le_refl _⟩
end Go.Proofs.YtfjopjalhllplaaGreat
/- Plain law: ShortenRun and RunCost of both sides. -/
namespace Go.Proofs.YtfjopjalhllplaaGreat
open Go.RowKit
set_option maxRecDepth 100000
set_option linter.unusedVariables false
set_option linter.unusedSimpArgs false
theorem rc_take {g : List Q4} {i : Nat} (h : i < g.length) : rcF (g.take (i + 1)) = rcF (g.take i) + (if g[i].1 = 7 ∨ g[i].1 = 8 then 100 else 1) := by
 rw [List.take_add_one, List.getElem?_eq_getElem h, rc_append]
 simp [rcF]
theorem i_rc (g : List Q4) (hg : g.length ≤ 4000000) : i_RunCost g = some (rcF g) := by
 have key : ∀ (m i : Nat), i ≤ g.length → g.length - i < m → i_RunCost_l1 g m (rcF (g.take i)) (g.length : Int) i = some (rcF g) := by
  intro m
  induction m with
  | zero => intro i _ h; omega
  | succ m ih =>
   intro i hi hm
   rw [i_RunCost_l1]
   by_cases e : i = g.length
   ·have hlt : ¬ (i : Int) < (g.length : Int) := by omega
    simp only [hlt, decide_false, br_false, i_RunCost_j1]
    rw [List.take_of_length_le (by omega)]
   ·have hil : i < g.length := by omega
    have hlt : (i : Int) < (g.length : Int) := by omega
    have hb := rc_bd (g.take i)
    rw [List.length_take, Nat.min_eq_left hi] at hb
    simp only [hlt, decide_true, br_true, geti_lt hil, bO_some]
    rw [br_or]
    unfold i_RunCost_j7 i_RunCost_j6
    have ht := rc_take hil
    by_cases h7 : g[i].1 = 7 ∨ g[i].1 = 8
    ·have c : (g[i].1 == 7 || g[i].1 == 8) = true := by simpa using h7
     rw [if_pos h7] at ht
     rw [c, br_true, w64 (x := rcF (g.take i) + 100) (by omega) (by omega), w64s (n := g.length) hil (by omega), ← ht]
     exact ih (i + 1) (by omega) (by omega)
    ·have c : (g[i].1 == 7 || g[i].1 == 8) = false := by simpa using h7
     rw [if_neg h7] at ht
     rw [c, br_false, w64 (x := rcF (g.take i) + 1) (by omega) (by omega), w64s (n := g.length) hil (by omega), ← ht]
     exact ih (i + 1) (by omega) (by omega)
 exact key FU 0 (by omega) (by rw [FU_eq]; omega)
theorem s_rc (g : List Q4) (hg : g.length ≤ 4000000) : s_RunCost g = some (rcF g) := by
 have key : ∀ (m i : Nat), i ≤ g.length → g.length - i < m → s_RunCost_l1 g m (rcF (g.take i)) i = some (rcF g) := by
  intro m
  induction m with
  | zero => intro i _ h; omega
  | succ m ih =>
   intro i hi hm
   rw [s_RunCost_l1]
   by_cases e : i = g.length
   ·have hlt : ¬ (i : Int) < (g.length : Int) := by omega
    simp only [hlt, decide_false, br_false, s_RunCost_j1]
    rw [List.take_of_length_le (by omega)]
   ·have hil : i < g.length := by omega
    have hlt : (i : Int) < (g.length : Int) := by omega
    have hb := rc_bd (g.take i)
    rw [List.length_take, Nat.min_eq_left hi] at hb
    simp only [hlt, decide_true, br_true, geti_lt hil, bO_some]
    rw [br_or]
    unfold s_RunCost_j7 s_RunCost_j6
    have ht := rc_take hil
    by_cases h7 : g[i].1 = 7 ∨ g[i].1 = 8
    ·have c : (g[i].1 == 7 || g[i].1 == 8) = true := by simpa using h7
     rw [if_pos h7] at ht
     rw [c, br_true, w64 (x := rcF (g.take i) + 100) (by omega) (by omega), w64s (n := g.length) hil (by omega), ← ht]
     exact ih (i + 1) (by omega) (by omega)
    ·have c : (g[i].1 == 7 || g[i].1 == 8) = false := by simpa using h7
     rw [if_neg h7] at ht
     rw [c, br_false, w64 (x := rcF (g.take i) + 1) (by omega) (by omega), w64s (n := g.length) hil (by omega), ← ht]
     exact ih (i + 1) (by omega) (by omega)
 exact key FU 0 (by omega) (by rw [FU_eq]; omega)
/-- The loop that moves the gates to their qubit. -/
theorem set_loop (L : Nat → Int → List Q4 → Option (List Q4)) (f : Q4 → Q4) (l : List Q4) (hl : l.length ≤ 4000000)
  (hs : ∀ (m i : Nat) (v : List Q4) (hi : i < v.length), v.length = l.length → L (m + 1) (i : Int) v = L m ((i + 1 : Nat) : Int) (v.set i (f v[i])))
  (he : ∀ (m : Nat) (v : List Q4), v.length = l.length → L (m + 1) (l.length : Int) v = some v) : L FU 0 l = some (l.map f) := by
 have key : ∀ (m i : Nat) (v : List Q4), i ≤ l.length → l.length - i < m → v.length = l.length → (∀ j, v[j]? = if j < i then (l[j]?).map f else l[j]?) → L m (i : Int) v = some (l.map f) := by
  intro m
  induction m with
  | zero => intro i v _ h; omega
  | succ m ih =>
   intro i v hi hm hv hj
   by_cases e : i = l.length
   ·subst e
    rw [he m v hv]
    congr 1
    refine List.ext_getElem? fun j => ?_
    rw [hj, List.getElem?_map]
    split
    ·rfl
    ·rw [List.getElem?_eq_none (by omega)]; rfl
   ·have hiv : i < v.length := by omega
    rw [hs m i v hiv hv]
    refine ih (i + 1) _ (by omega) (by omega) (by simpa using hv) fun j => ?_
    have hvi : v[i]? = l[i]? := by rw [hj i, if_neg (by omega)]
    rw [List.getElem?_set]
    by_cases hij : i = j
    ·subst hij
     rw [if_pos rfl, if_pos hiv, if_pos (by omega), ← hvi, List.getElem?_eq_getElem hiv]
     rfl
    ·rw [if_neg hij, hj j]
     by_cases hlt : j < i
     ·rw [if_pos hlt, if_pos (by omega)]
     ·rw [if_neg hlt, if_neg (by omega)]
 exact key FU 0 l (by omega) (by rw [FU_eq]; omega) rfl fun j => by rw [if_neg (by omega)]
theorem sr_i (A k a b c : Int) : (((((arity k != 1) || (a != A)) || !(decide (0 ≤ a ∧ a ≤ 3))) || (b != 0)) || (c != 0)) = !(srB A (k, a, b, c)) := by
 unfold srB
 simp only
 by_cases h : arity k = 1
 ·rw [ivg_1 h, h, Bool.eq_iff_iff]
  simp
  omega
 ·have : (arity k == 1) = false := by simpa using h
  rw [this, Bool.false_and, Bool.not_false]
  have : (arity k != 1) = true := by simpa using h
  rw [this]
  simp
theorem sr_s (A k a b c : Int) : (((arity k != 1) || !(ivg k a b c 4)) || (a != A)) = !(srB A (k, a, b, c)) := by
 unfold srB
 simp only
 by_cases h : arity k = 1
 ·rw [ivg_1 h, h, Bool.eq_iff_iff]
  simp
  omega
 ·have : (arity k == 1) = false := by simpa using h
  rw [this, Bool.false_and, Bool.not_false]
  have : (arity k != 1) = true := by simpa using h
  rw [this]
  simp
theorem sr_bad {g : List Q4} (h : g.all (srB (hdA g)) = false) : srF g = g := by
 unfold srF
 rw [if_neg]
 rintro ⟨h1, _⟩
 rw [h] at h1
 cases h1
theorem one_fin : (([(1 : Int), 2, 3, 4, 5, 6].all fun k => decide (1 ≤ rcF (nfgF [] (laF (k, 0, 0, 0) (idT 1)))) && C1 (k, 0, 0, 0)) && (decide (100 ≤ rcF (nfgF (ntF [] (idT 1)).1 (ntF [] (idT 1)).2)) && decide (100 ≤ rcF (nfgF (ntF [] (sdF (idT 1))).1 (ntF [] (sdF (idT 1))).2)))) = true := by decide +kernel
/-- A run of one gate is never shortened. -/
theorem sr_few {g : List Q4} (hl : g.length < 2) (h : g.all (srB (hdA g)) = true) : ¬ rcF (shF g) < rcF g := by
 match g, hl, h with
 | [], _, _ =>
  have := (rc_bd (shF [])).1
  simp only [rcF]
  omega
 | [q], _, h =>
  have e := List.all_eq_true.1 h q (List.mem_cons_self ..)
  unfold srB at e
  simp only [Bool.and_eq_true, beq_iff_eq] at e
  have ha := e.1
  have hk : 1 ≤ q.1 ∧ q.1 ≤ 8 := by
   unfold arity at ha
   by_cases e1 : 1 ≤ q.1 ∧ q.1 ≤ 8
   ·exact e1
   ·rw [if_neg e1] at ha
    split at ha
    ·omega
    ·split at ha <;> omega
  have f := one_fin
  simp only [Bool.and_eq_true, decide_eq_true_eq] at f
  obtain ⟨f1, f7, f8⟩ := f
  have es : stF [q] = naF q.1 0 0 S0 := rfl
  show ¬ rcF (nfgF (stF [q]).1 (stF [q]).2) < _
  rw [es]
  simp only [rcF]
  by_cases h7 : q.1 = 7
  ·rw [h7]
   have : naF 7 0 0 S0 = ntF [] (idT 1) := rfl
   rw [this]
   simp
   omega
  ·by_cases h8 : q.1 = 8
   ·rw [h8]
    have : naF 8 0 0 S0 = ntF [] (sdF (idT 1)) := rfl
    rw [this]
    simp
    omega
   ·have hm : q.1 ∈ [(1 : Int), 2, 3, 4, 5, 6] := by
     have : q.1 = 1 ∨ q.1 = 2 ∨ q.1 = 3 ∨ q.1 = 4 ∨ q.1 = 5 ∨ q.1 = 6 := by omega
     simp only [List.mem_cons, List.not_mem_nil, or_false]
     exact this
    have f2 := List.all_eq_true.1 f1 q.1 hm
    simp only [Bool.and_eq_true, decide_eq_true_eq] at f2
    have en : naF q.1 0 0 S0 = ([], laF (q.1, 0, 0, 0) (idT 1)) := by
     rw [la_eq id1 f2.2]
     unfold naF
     rw [if_neg h7, if_neg h8]
     rfl
    rw [en, if_neg (by omega)]
    simp only
    omega
theorem s_sr (g : List Q4) (hg : g.length ≤ 1048576) : s_ShortenRun g = some (srF g) := by
 unfold s_ShortenRun
 rw [gd_w (by simp; omega)]
 have key : ∀ (m i : Nat), i ≤ g.length → g.length - i < m → (∀ q ∈ g.take i, srB (hdA g) q = true) → s_ShortenRun_l1 g m i ((g.take i).map oneF) = some (srF g) := by
  intro m
  induction m with
  | zero => intro i _ h; omega
  | succ m ih =>
   intro i hi hm hall
   rw [s_ShortenRun_l1]
   by_cases e : i = g.length
   ·have hlt : ¬ (i : Int) < (g.length : Int) := by omega
    rw [List.take_of_length_le (by omega)] at hall ⊢
    have hA : g.all (srB (hdA g)) = true := List.all_eq_true.2 hall
    simp only [hlt, decide_false, br_false, s_ShortenRun_j1]
    by_cases h2 : g.length < 2
    ·have : decide ((g.length : Int) < 2) = true := decide_eq_true (by omega)
     rw [this, br_true]
     unfold srF
     rw [if_neg (fun hh => sr_few h2 hA hh.2)]
    ·have : decide ((g.length : Int) < 2) = false := decide_eq_false (by omega)
     obtain ⟨c1, c2, c3, c4, c5⟩ := cnf_ok (g := g.map oneF) (by simpa using hg) (sr_g1 hA)
     have c5' : (stF g).1.length ≤ g.length := by rw [List.length_map] at c5; exact c5
     obtain ⟨n1, n2⟩ := nfg_fn (y := (stF g).1) (l := (stF g).2) (by omega) c3 c4
     have hlen := nfgF_len (stF g).1 c4
     have e1 : s_ComputeNormalForm (g.map oneF) = some (1, (stF g).1, (stF g).2, true) := c1
     have hsl : (shF g).length ≤ 3 * (stF g).1.length + 3 := hlen
     have n1' : s_NormalFormGates (stF g).1 1 (stF g).2 = some (shF g) := n1
     rw [this, br_false, e1, bO_some]
     simp only [n1', bO_some, s_rc (shF g) (by omega), s_rc g (by omega)]
     by_cases hc : rcF g ≤ rcF (shF g)
     ·have : decide (rcF g ≤ rcF (shF g)) = true := decide_eq_true hc
      rw [this, br_true]
      unfold srF
      rw [if_neg (by omega)]
     ·have : decide (rcF g ≤ rcF (shF g)) = false := decide_eq_false hc
      rw [this, br_false]
      have es : srF g = (shF g).map (setA (hdA g)) := by unfold srF; rw [if_pos ⟨hA, by omega⟩]
      rw [es]
      have h0 : geti g 0 = some g[0] := geti_lt (k := 0) (by omega)
      have hh : g[0].2.1 = hdA g := by
       cases g with
       | nil => simp at h2
       | cons q g => rfl
      refine set_loop (s_ShortenRun_l2 g) (setA (hdA g)) (shF g) (by omega) (fun m i v hi hv => ?_) (fun m v hv => ?_)
      ·have hlt : (i : Int) < (v.length : Int) := by omega
       rw [s_ShortenRun_l2]
       simp only [hlt, decide_true, br_true, h0, geti_lt hi, bO_some, hh, Int.toNat_natCast]
       rw [w64s (n := v.length) hi (by omega)]
       rfl
      ·have hlt : ¬ ((shF g).length : Int) < (v.length : Int) := by omega
       rw [s_ShortenRun_l2]
       simp only [hlt, decide_false, br_false, s_ShortenRun_j5]
   ·have hil : i < g.length := by omega
    have hlt : (i : Int) < (g.length : Int) := by omega
    have h0 : geti g 0 = some g[0] := geti_lt (k := 0) (by omega)
    have hh : g[0].2.1 = hdA g := by
     cases g with
     | nil => simp at hil
     | cons q g => rfl
    simp only [hlt, decide_true, br_true, geti_lt hil, bO_some, s_ar, s_ivg, h0, br_or, hh]
    have hs := sr_s (hdA g) g[i].1 g[i].2.1 g[i].2.2.1 g[i].2.2.2
    rw [hs]
    unfold s_ShortenRun_j4
    have hq : (g[i].1, g[i].2.1, g[i].2.2.1, g[i].2.2.2) = g[i] := rfl
    rw [hq]
    cases hb : srB (hdA g) g[i] with
    | false =>
     simp only [Bool.not_false, br_true]
     rw [sr_bad]
     rw [Bool.eq_false_iff]
     intro hA
     have := List.all_eq_true.1 hA g[i] (List.getElem_mem hil)
     rw [hb] at this
     cases this
    | true =>
     have o2 : s_l14One g[i].1 0 = some (g[i].1, 0, 0, 0) := rfl
     simp only [Bool.not_true, br_false, o2, bO_some]
     rw [gd_w (by simp; omega), w64s (n := g.length) hil (by omega)]
     have et : (g.take i).map oneF ++ [((g[i].1, 0, 0, 0) : Q4)] = (g.take (i + 1)).map oneF := by
      have ht' : g.take (i + 1) = g.take i ++ [g[i]] := by rw [List.take_add_one, List.getElem?_eq_getElem hil]; rfl
      rw [ht', List.map_append]
      simp [oneF]
     rw [et]
     refine ih (i + 1) (by omega) (by omega) fun q hq => ?_
     rw [List.take_add_one, List.getElem?_eq_getElem hil] at hq
     rcases List.mem_append.1 hq with h | h
     ·exact hall q h
     ·simp at h
      subst h
      exact hb
 exact key FU 0 (by omega) (by rw [FU_eq]; omega) (by simp)
theorem i_sr (g : List Q4) (hg : g.length ≤ 1048576) : i_ShortenRun g = some (srF g) := by
 unfold i_ShortenRun
 have ec : i_copyGates g = some g := by
  unfold i_copyGates
  rw [gd_w (by simp; omega)]
 rw [ec, bO_some]
 have key : ∀ (m i : Nat), i ≤ g.length → g.length - i < m → (∀ q ∈ g.take i, srB (hdA g) q = true) → i_ShortenRun_l1 g g m (g.length : Int) i ((g.take i).map oneF) = some (srF g) := by
  intro m
  induction m with
  | zero => intro i _ h; omega
  | succ m ih =>
   intro i hi hm hall
   rw [i_ShortenRun_l1]
   by_cases e : i = g.length
   ·have hlt : ¬ (i : Int) < (g.length : Int) := by omega
    rw [List.take_of_length_le (by omega)] at hall ⊢
    have hA : g.all (srB (hdA g)) = true := List.all_eq_true.2 hall
    simp only [hlt, decide_false, br_false, i_ShortenRun_j1]
    obtain ⟨c1, c2, c3, c4, c5⟩ := cnf_ok (g := g.map oneF) (by simpa using hg) (sr_g1 hA)
    have c5' : (stF g).1.length ≤ g.length := by rw [List.length_map] at c5; exact c5
    obtain ⟨n1, n2⟩ := nfg_fn (y := (stF g).1) (l := (stF g).2) (by omega) c3 c4
    have hlen := nfgF_len (stF g).1 c4
    have e1 : i_ComputeNormalForm (g.map oneF) = some (1, (stF g).1, (stF g).2, true) := c2
    have hsl : (shF g).length ≤ 3 * (stF g).1.length + 3 := hlen
    have n2' : i_NormalFormGates (stF g).1 1 (stF g).2 = some (shF g) := n2
    rw [e1, bO_some]
    simp only [Bool.not_true, br_false, n2', bO_some, i_rc (shF g) (by omega), i_rc g (by omega)]
    by_cases hc : rcF g ≤ rcF (shF g)
    ·have : decide (rcF g ≤ rcF (shF g)) = true := decide_eq_true hc
     rw [this, br_true]
     unfold srF
     rw [if_neg (by omega)]
    ·have : decide (rcF g ≤ rcF (shF g)) = false := decide_eq_false hc
     rw [this, br_false]
     have es : srF g = (shF g).map (setA (hdA g)) := by unfold srF; rw [if_pos ⟨hA, by omega⟩]
     rw [es]
     have hne : 0 < g.length := by
      rcases Nat.eq_zero_or_pos g.length with h0 | h0
      ·exfalso
       have hb := rc_bd g
       have hb2 := rc_bd (shF g)
       rw [h0] at hb
       omega
      ·exact h0
     have h0 : geti g 0 = some g[0] := geti_lt (k := 0) hne
     have hh : g[0].2.1 = hdA g := by
      cases g with
      | nil => simp at hne
      | cons q g => rfl
     refine set_loop (fun m k v => i_ShortenRun_l2 g m ((shF g).length : Int) k v) (setA (hdA g)) (shF g) (by omega) (fun m i v hi hv => ?_) (fun m v hv => ?_)
     ·have hlt : (i : Int) < ((shF g).length : Int) := by omega
      show i_ShortenRun_l2 g (m + 1) ((shF g).length : Int) (i : Int) v = _
      rw [i_ShortenRun_l2]
      simp only [hlt, decide_true, br_true, h0, geti_lt hi, bO_some, hh, Int.toNat_natCast]
      rw [w64s (n := v.length) hi (by omega)]
      rfl
     ·have hlt : ¬ ((shF g).length : Int) < ((shF g).length : Int) := by omega
      show i_ShortenRun_l2 g (m + 1) ((shF g).length : Int) ((shF g).length : Int) v = _
      rw [i_ShortenRun_l2]
      simp only [hlt, decide_false, br_false, i_ShortenRun_j5]
   ·have hil : i < g.length := by omega
    have hlt : (i : Int) < (g.length : Int) := by omega
    have h0 : geti g 0 = some g[0] := geti_lt (k := 0) (by omega)
    have hh : g[0].2.1 = hdA g := by
     cases g with
     | nil => simp at hil
     | cons q g => rfl
    simp only [hlt, decide_true, br_true, geti_lt hil, bO_some, i_ar, i_in_eq, h0, br_or, hh]
    have hs := sr_i (hdA g) g[i].1 g[i].2.1 g[i].2.2.1 g[i].2.2.2
    rw [hs]
    unfold i_ShortenRun_j4
    have hq : (g[i].1, g[i].2.1, g[i].2.2.1, g[i].2.2.2) = g[i] := rfl
    rw [hq]
    cases hb : srB (hdA g) g[i] with
    | false =>
     simp only [Bool.not_false, br_true]
     rw [sr_bad]
     rw [Bool.eq_false_iff]
     intro hA
     have := List.all_eq_true.1 hA g[i] (List.getElem_mem hil)
     rw [hb] at this
     cases this
    | true =>
     have o2 : i_one g[i].1 0 = some (g[i].1, 0, 0, 0) := rfl
     simp only [Bool.not_true, br_false, o2, bO_some]
     rw [gd_w (by simp; omega), w64s (n := g.length) hil (by omega)]
     have et : (g.take i).map oneF ++ [((g[i].1, 0, 0, 0) : Q4)] = (g.take (i + 1)).map oneF := by
      have ht' : g.take (i + 1) = g.take i ++ [g[i]] := by rw [List.take_add_one, List.getElem?_eq_getElem hil]; rfl
      rw [ht', List.map_append]
      simp [oneF]
     rw [et]
     refine ih (i + 1) (by omega) (by omega) fun q hq => ?_
     rw [List.take_add_one, List.getElem?_eq_getElem hil] at hq
     rcases List.mem_append.1 hq with h | h
     ·exact hall q h
     ·simp at h
      subst h
      exact hb
 exact key FU 0 (by omega) (by rw [FU_eq]; omega) (by simp)
end Go.Proofs.YtfjopjalhllplaaGreat
/- Plain laws: counts of T gates; the normal form has no more of them; drawn rows. -/
namespace Go.Proofs.YtfjopjalhllplaaGreat
open Go.RowKit
set_option maxRecDepth 100000
set_option linter.unusedVariables false
set_option linter.unusedSimpArgs false
def cnt (k : Int) : List Q4 → Nat
 | [] => 0
 | q :: g => (if q.1 = k then 1 else 0) + cnt k g
theorem cnt_append (k : Int) (g h : List Q4) : cnt k (g ++ h) = cnt k g + cnt k h := by
 induction g with
 | nil => simp [cnt]
 | cons q g ih => simp only [List.cons_append, cnt, ih]; omega
theorem cnt_le (k : Int) (g : List Q4) : cnt k g ≤ g.length := by
 induction g with
 | nil => simp [cnt]
 | cons q g ih => simp only [cnt, List.length_cons]; split <;> omega
theorem s_cnt (N : Int) (g : List Q4) (k : Int) (hl : g.length ≤ 4000000) : s_CountGates N g k = some ((cnt k g : Nat) : Int) := by
 have key : ∀ (m j a : Nat), j ≤ g.length → g.length - j < m → a ≤ j → s_CountGates_l1 g k m (a : Int) (j : Int) = some ((a + cnt k (g.drop j) : Nat) : Int) := by
  intro m
  induction m with
  | zero => intro j a _ h; omega
  | succ m ih =>
   intro j a hj hm ha
   rw [s_CountGates_l1]
   by_cases hjl : j < g.length
   ·have hlt : decide ((j : Int) < (g.length : Int)) = true := decide_eq_true (by omega)
    rw [hlt, br_true, geti_lt hjl, bO_some, List.drop_eq_getElem_cons hjl]
    unfold s_CountGates_j4
    rw [w64s hjl (by omega)]
    by_cases e : g[j].1 = k
    ·rw [beq_iff_eq.2 e, br_true, w64 (by omega) (by omega), show (a : Int) + 1 = ((a + 1 : Nat) : Int) by omega, ih (j + 1) (a + 1) (by omega) (by omega) (by omega)]
     simp only [cnt, if_pos e]
     congr 2; omega
    ·rw [beq_eq_false_iff_ne.2 e, br_false, ih (j + 1) a (by omega) (by omega) (by omega)]
     simp only [cnt, if_neg e, Nat.zero_add]
   ·have hlt : decide ((j : Int) < (g.length : Int)) = false := decide_eq_false (by omega)
    rw [hlt, br_false, List.drop_eq_nil_of_le (by omega)]
    rfl
 have := key FU 0 0 (by omega) (by rw [FU_eq]; omega) (by omega)
 unfold s_CountGates
 simpa using this
def tcF (g : List Q4) : Nat := cnt 7 g + cnt 8 g
theorem l_tc (g : List Q4) (hl : g.length ≤ 4000000) : l_tCount g = some ((tcF g : Nat) : Int) := by
 have h1 := cnt_le 7 g
 have h2 := cnt_le 8 g
 unfold l_tCount s_TCount
 rw [s_cnt 0 g 7 hl, bO_some, s_cnt 0 g 8 hl, bO_some, bO_some, w64 (by omega) (by omega)]
 unfold tcF
 congr 1
theorem tc_append (g h : List Q4) : tcF (g ++ h) = tcF g + tcF h := by unfold tcF; rw [cnt_append, cnt_append]; omega
theorem tc_sy (k : Int) : tcF (syF k) = 1 ∧ hc (syF k) ≤ 1 := by
 unfold syF repF
 (repeat' split) <;> decide
theorem tc_wd {l : List Q4} (ht : tB 1 l = true) : tcF (wdF l) = 0 ∧ hc (wdF l) ≤ 3 := by
 have hC := (wd_run (y := []) ht).2
 have hlen := wd_len ht
 constructor
 ·generalize wdF l = w at *
  clear hlen
  induction w with
  | nil => rfl
  | cons q w ih =>
   obtain ⟨k, rfl, hk⟩ := c1_form (hC q (List.mem_cons_self ..))
   have := ih (fun x hx => hC x (List.mem_cons_of_mem _ hx))
   unfold tcF at *
   simp only [cnt]
   rw [if_neg (by omega), if_neg (by omega)]
   omega
 ·exact Nat.le_trans (hc_le _) hlen
theorem tc_nfg (y : List Int) {l : List Q4} (ht : tB 1 l = true) : tcF (nfgF y l) = y.length ∧ hc (nfgF y l) ≤ y.length + 3 := by
 have hs : tcF (y.flatMap syF) = y.length ∧ hc (y.flatMap syF) ≤ y.length := by
  induction y with
  | nil => exact ⟨rfl, Nat.le_refl 0⟩
  | cons k y ih =>
   rw [List.flatMap_cons, tc_append, hc_append, List.length_cons]
   have := tc_sy k
   omega
 obtain ⟨w1, w2⟩ := tc_wd ht
 unfold nfgF
 rw [tc_append, hc_append]
 omega
theorem fo_len : ∀ (g : List Q4) (y : List Int) (l : List Q4), (∀ q ∈ g, G1 q) → SV y → tB 1 l = true → y.length + g.length ≤ 1048576 → (fo g (y, l)).1.length ≤ y.length + tcF g
 | [], y, l, _, _, _, _ => Nat.le_add_right _ _
 | q :: g, y, l, hg, hv, ht, hy => by
  simp only [List.length_cons] at hy
  obtain ⟨k1, k2, k3⟩ := na_keep hv ht (hg q (List.mem_cons_self ..)) (by omega)
  have h := fo_len g _ _ (fun x hx => hg x (List.mem_cons_of_mem _ hx)) k1 k2 (by omega)
  rw [fo_cons]
  refine Nat.le_trans h ?_
  unfold tcF
  simp only [cnt]
  by_cases h7 : q.1 = 7
  ·rw [if_pos h7, if_neg (by omega)]; omega
  by_cases h8 : q.1 = 8
  ·rw [if_pos h8, if_neg (by omega)]; omega
  ·have e : (naF q.1 q.2.1 q.2.2.1 (y, l)).1 = y := by unfold naF; rw [if_neg h7, if_neg h8]
   rw [e, if_neg h7, if_neg h8]; omega
theorem nf_len {g : List Q4} (hg : ∀ q ∈ g, G1 q) (hl : g.length ≤ 1048576) : (fo g S0).1.length ≤ tcF g := by
 have h := fo_len g [] (idT 1) hg sv_nil id1 (by simpa using hl)
 rw [List.length_nil, Nat.zero_add] at h
 exact h
end Go.Proofs.YtfjopjalhllplaaGreat
