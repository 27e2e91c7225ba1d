/- Plain law: runs shortened: both sides as one function. -/
import Derived.Test.YtfjopjalhllplaaGreatKMsrs
import Derived.Test.YtfjopjalhllplaaGreatK18
namespace Go.Proofs.YtfjopjalhllplaaGreat
open Go.RowKit
set_option maxRecDepth 100000
set_option linter.unusedVariables false
set_option linter.unusedSimpArgs false
abbrev ST := List Q4 × List Q4 × List Q4 × List Q4 × List Q4
/-- What is pending at a place is shortened and put out. -/
def emF (s : ST) (q : Int) : ST := if q = 0 then (s.1 ++ srF s.2.1, [], s.2.2.1, s.2.2.2.1, s.2.2.2.2) else if q = 1 then (s.1 ++ srF s.2.2.1, s.2.1, [], s.2.2.2.1, s.2.2.2.2)
 else if q = 2 then (s.1 ++ srF s.2.2.2.1, s.2.1, s.2.2.1, [], s.2.2.2.2) else (s.1 ++ srF s.2.2.2.2, s.2.1, s.2.2.1, s.2.2.2.1, [])
/-- A gate of one place is pending. -/
def puF (s : ST) (g : Q4) : ST := if g.2.1 = 0 then (s.1, s.2.1 ++ [g], s.2.2.1, s.2.2.2.1, s.2.2.2.2) else if g.2.1 = 1 then (s.1, s.2.1, s.2.2.1 ++ [g], s.2.2.2.1, s.2.2.2.2)
 else if g.2.1 = 2 then (s.1, s.2.1, s.2.2.1, s.2.2.2.1 ++ [g], s.2.2.2.2) else (s.1, s.2.1, s.2.2.1, s.2.2.2.1, s.2.2.2.2 ++ [g])
def gqF (g : Q4) : List Int := [g.2.1, g.2.2.1, g.2.2.2].take (arity g.1).toNat
def outF (s : ST) (g : Q4) : ST := (s.1 ++ [g], s.2)
def stpF (s : ST) (g : Q4) : ST := if arity g.1 = 1 then puF s g else outF ((gqF g).foldl emF s) g
def endF (s : ST) : List Q4 := (emF (emF (emF (emF s 0) 1) 2) 3).1
def vG (n : Int) (g : Q4) : Bool := ivg g.1 g.2.1 g.2.2.1 g.2.2.2 n
def srsF (n : Int) (l : List Q4) : List Q4 := if l.all (vG n) = true then endF (l.foldl stpF ([], [], [], [], [])) else l
def szS (s : ST) : Nat := s.1.length + 3 * (s.2.1.length + s.2.2.1.length + s.2.2.2.1.length + s.2.2.2.2.length)
/-- How many T gates. -/
def tnF : List Q4 → Nat
 | [] => 0
 | q :: g => (if q.1 = 7 ∨ q.1 = 8 then 1 else 0) + tnF g
theorem rc_tn : ∀ g : List Q4, rcF g = 99 * (tnF g : Int) + (g.length : Int)
 | [] => rfl
 | q :: g => by
  have := rc_tn g
  simp only [rcF, tnF, List.length_cons]
  split <;> omega
theorem tn_le : ∀ g : List Q4, tnF g ≤ g.length
 | [] => Nat.le_refl 0
 | q :: g => by
  have := tn_le g
  simp only [tnF, List.length_cons]
  split <;> omega
theorem rc_nfg (y : List Int) (l : List Q4) : 99 * (y.length : Int) + ((nfgF y l).length : Int) ≤ rcF (nfgF y l) := by
 have h : 99 * (y.length : Int) + ((y.flatMap syF).length : Int) ≤ rcF (y.flatMap syF) := by
  induction y with
  | nil => simp [rcF]
  | cons k y ih =>
   have e : rcF (syF k) = rcF (repF k) + 100 := by unfold syF; rw [rc_append]; rfl
   have := (rc_bd (repF k)).1
   have e2 : (syF k).length = (repF k).length + 1 := by unfold syF; simp
   rw [List.flatMap_cons, rc_append, List.length_append, List.length_cons]
   omega
 have := (rc_bd (wdF l)).1
 unfold nfgF
 rw [rc_append, List.length_append]
 omega
theorem sr3 {g : List Q4} (hg : g.length ≤ 1048576) : (srF g).length ≤ 3 * g.length := by
 unfold srF
 split
 ·rename_i h
  obtain ⟨c3, c4, c5⟩ := st_ok hg h.1
  have h1 := nfgF_len (stF g).1 c4
  have h2 := rc_nfg (stF g).1 (stF g).2
  have h3 := rc_tn g
  have h4 := tn_le g
  have h5 := h.2
  unfold shF at h5
  rw [List.length_map]
  show (nfgF (stF g).1 (stF g).2).length ≤ _
  omega
 ·omega
theorem em_sz (s : ST) (q : Int) (hs : szS s ≤ 3145728) : szS (emF s q) ≤ szS s := by
 obtain ⟨o, p0, p1, p2, p3⟩ := s
 unfold szS at hs ⊢
 simp only at hs
 have h0 := sr3 (g := p0) (by omega)
 have h1 := sr3 (g := p1) (by omega)
 have h2 := sr3 (g := p2) (by omega)
 have h3 := sr3 (g := p3) (by omega)
 unfold emF
 (repeat' split) <;> simp only [List.length_append, List.length_nil] <;> omega
theorem ems_sz : ∀ (l : List Int) (s : ST), szS s ≤ 3145728 → szS (l.foldl emF s) ≤ szS s
 | [], s, _ => Nat.le_refl _
 | q :: l, s, hs => by
  have h1 := em_sz s q hs
  exact Nat.le_trans (ems_sz l (emF s q) (by omega)) h1
theorem stp_sz (s : ST) (g : Q4) (hs : szS s ≤ 3145728) : szS (stpF s g) ≤ szS s + 3 := by
 unfold stpF
 split
 ·unfold puF szS
  (repeat' split) <;> simp only [List.length_append, List.length_cons, List.length_nil] <;> omega
 ·have := ems_sz (gqF g) s hs
  generalize (gqF g).foldl emF s = t at this
  unfold outF szS at *
  simp only [List.length_append, List.length_cons, List.length_nil]
  omega
theorem vG_rng {n : Int} {g : Q4} (h : vG n g = true) : ∀ q ∈ gqF g, 0 ≤ q ∧ q ≤ 3 := by
 obtain ⟨k, a, b, c⟩ := g
 unfold vG ivg at h
 simp only [Bool.and_eq_true, decide_eq_true_eq] at h
 obtain ⟨⟨hn, _⟩, h2⟩ := h
 unfold gqF
 rcases ar4 k with e | e | e | e <;> simp only [e] at h2 ⊢
 ·intro q hq; simp at hq
 ·unfold okQ okQ okQ okQ at h2
  simp at h2
  intro q hq; simp at hq; omega
 ·unfold okQ okQ okQ okQ at h2
  simp at h2
  intro q hq; simp at hq; omega
 ·unfold okQ okQ okQ okQ at h2
  simp at h2
  intro q hq; simp at hq; omega
theorem vG_one {n : Int} {g : Q4} (h : vG n g = true) (h1 : arity g.1 = 1) : 0 ≤ g.2.1 ∧ g.2.1 ≤ 3 := by
 refine vG_rng h _ ?_
 unfold gqF
 rw [h1]
 simp
theorem i_em (s : ST) (q : Int) (hq : 0 ≤ q ∧ q ≤ 3) (hs : szS s ≤ 3145728) : i_ShortenRuns_1 q s.1 s.2.1 s.2.2.1 s.2.2.2.1 s.2.2.2.2 = some (emF s q) := by
 obtain ⟨o, p0, p1, p2, p3⟩ := s
 unfold szS at hs
 simp only at hs ⊢
 have h0 := sr3 (g := p0) (by omega)
 have h1 := sr3 (g := p1) (by omega)
 have h2 := sr3 (g := p2) (by omega)
 have h3 := sr3 (g := p3) (by omega)
 unfold i_ShortenRuns_1
 have : q = 0 ∨ q = 1 ∨ q = 2 ∨ q = 3 := by omega
 rcases this with rfl | rfl | rfl | rfl
 ·rw [show ((0 : Int) == 0) = true from rfl, br_true, i_sr p0 (by omega), bO_some, decide_eq_true (by omega), gd_true]; rfl
 ·rw [show ((1 : Int) == 0) = false from rfl, br_false, show ((1 : Int) == 1) = true from rfl, br_true, i_sr p1 (by omega), bO_some, decide_eq_true (by omega), gd_true]; rfl
 ·rw [show ((2 : Int) == 0) = false from rfl, br_false, show ((2 : Int) == 1) = false from rfl, br_false, show ((2 : Int) == 2) = true from rfl, br_true, i_sr p2 (by omega), bO_some, decide_eq_true (by omega), gd_true]; rfl
 ·rw [show ((3 : Int) == 0) = false from rfl, br_false, show ((3 : Int) == 1) = false from rfl, br_false, show ((3 : Int) == 2) = false from rfl, br_false, show ((3 : Int) == 3) = true from rfl, br_true, i_sr p3 (by omega), bO_some, decide_eq_true (by omega), gd_true]; rfl
theorem s_rend (s : ST) (hs : szS s ≤ 3145728) : s_ShortenRuns_j1 s.1 s.2.1 s.2.2.1 s.2.2.2.1 s.2.2.2.2 = some (endF s) := by
 obtain ⟨o, p0, p1, p2, p3⟩ := s
 unfold szS at hs
 simp only at hs ⊢
 have h0 := sr3 (g := p0) (by omega)
 have h1 := sr3 (g := p1) (by omega)
 have h2 := sr3 (g := p2) (by omega)
 have h3 := sr3 (g := p3) (by omega)
 unfold s_ShortenRuns_j1
 obtain ⟨k, hk⟩ : ∃ k, FU = ((((k + 1) + 1) + 1) + 1) + 1 := ⟨4194299, rfl⟩
 rw [hk]
 rw [s_ShortenRuns_l5, show decide ((0 : Int) < 4) = true from rfl, br_true, show ((0 : Int) == 0) = true from rfl, br_true, s_sr p0 (by omega), bO_some, decide_eq_true (by omega), gd_true, show IntKind.wrap .i64 ((0 : Int) + 1) = 1 from rfl]
 rw [s_ShortenRuns_l5, show decide ((1 : Int) < 4) = true from rfl, br_true, show ((1 : Int) == 0) = false from rfl, br_false, show ((1 : Int) == 1) = true from rfl, br_true, s_sr p1 (by omega), bO_some, decide_eq_true (by simp only [List.length_append]; omega), gd_true, show IntKind.wrap .i64 ((1 : Int) + 1) = 2 from rfl]
 rw [s_ShortenRuns_l5, show decide ((2 : Int) < 4) = true from rfl, br_true, show ((2 : Int) == 0) = false from rfl, br_false, show ((2 : Int) == 1) = false from rfl, br_false, show ((2 : Int) == 2) = true from rfl, br_true, s_sr p2 (by omega), bO_some, decide_eq_true (by simp only [List.length_append]; omega), gd_true, show IntKind.wrap .i64 ((2 : Int) + 1) = 3 from rfl]
 rw [s_ShortenRuns_l5, show decide ((3 : Int) < 4) = true from rfl, br_true, show ((3 : Int) == 0) = false from rfl, br_false, show ((3 : Int) == 1) = false from rfl, br_false, show ((3 : Int) == 2) = false from rfl, br_false, show ((3 : Int) == 3) = true from rfl, br_true, s_sr p3 (by omega), bO_some, decide_eq_true (by simp only [List.length_append]; omega), gd_true, show IntKind.wrap .i64 ((3 : Int) + 1) = 4 from rfl]
 rw [s_ShortenRuns_l5, show decide ((4 : Int) < 4) = false from rfl, br_false]
 rfl
theorem i_rend (s : ST) (hs : szS s ≤ 3145728) : i_ShortenRuns_j2 s.1 s.2.1 s.2.2.1 s.2.2.2.1 s.2.2.2.2 = some (endF s) := by
 have b0 := em_sz s 0 hs
 have b1 := em_sz (emF s 0) 1 (by omega)
 have b2 := em_sz (emF (emF s 0) 1) 2 (by omega)
 unfold i_ShortenRuns_j2
 obtain ⟨k, hk⟩ : ∃ k, FU = ((((k + 1) + 1) + 1) + 1) + 1 := ⟨4194299, rfl⟩
 rw [hk]
 rw [i_ShortenRuns_l6, show decide ((0 : Int) < 4) = true from rfl, br_true, i_em s 0 (by omega) hs, bO_some, show IntKind.wrap .i64 ((0 : Int) + 1) = 1 from rfl]
 rw [i_ShortenRuns_l6, show decide ((1 : Int) < 4) = true from rfl, br_true, i_em (emF s 0) 1 (by omega) (by omega), bO_some, show IntKind.wrap .i64 ((1 : Int) + 1) = 2 from rfl]
 rw [i_ShortenRuns_l6, show decide ((2 : Int) < 4) = true from rfl, br_true, i_em (emF (emF s 0) 1) 2 (by omega) (by omega), bO_some, show IntKind.wrap .i64 ((2 : Int) + 1) = 3 from rfl]
 rw [i_ShortenRuns_l6, show decide ((3 : Int) < 4) = true from rfl, br_true, i_em (emF (emF (emF s 0) 1) 2) 3 (by omega) (by omega), bO_some, show IntKind.wrap .i64 ((3 : Int) + 1) = 4 from rfl]
 rw [i_ShortenRuns_l6, show decide ((4 : Int) < 4) = false from rfl, br_false]
 rfl
theorem i_gq (k a b c : Int) : i_GateQubits k a b c = some ([a, b, c].take (arity k).toNat) := by
 unfold i_GateQubits
 rw [i_ar, bO_some]
 rcases ar4 k with h | h | h | h <;> rw [h] <;> rfl
theorem i_ems (v w : Int) (kl : Int → Int → LQ → LQ → LQ → LQ → LQ → Option LQ) (g : Q4) (qs : List Int) (hq : ∀ q ∈ qs, 0 ≤ q ∧ q ≤ 3) (hl : qs.length ≤ 3) : ∀ (c m k : Nat) (s : ST), k + c = qs.length → c < m → szS s ≤ 3145728 →
  i_ShortenRuns_l5 v w kl g qs m (qs.length : Int) (k : Int) s.1 s.2.1 s.2.2.1 s.2.2.2.1 s.2.2.2.2 = i_ShortenRuns_j8 v w kl g ((qs.drop k).foldl emF s).1 ((qs.drop k).foldl emF s).2.1 ((qs.drop k).foldl emF s).2.2.1 ((qs.drop k).foldl emF s).2.2.2.1 ((qs.drop k).foldl emF s).2.2.2.2
 | 0, m, k, s, hk, hm, hs => by
  obtain ⟨m, rfl⟩ : ∃ j, m = j + 1 := ⟨m - 1, by omega⟩
  have : qs.drop k = [] := List.drop_of_length_le (by omega)
  rw [this, i_ShortenRuns_l5, decide_eq_false (by omega), br_false]
  rfl
 | c + 1, m, k, s, hk, hm, hs => by
  obtain ⟨m, rfl⟩ : ∃ j, m = j + 1 := ⟨m - 1, by omega⟩
  have hlt : k < qs.length := by omega
  rw [i_ShortenRuns_l5, decide_eq_true (by omega), br_true, geti_lt hlt, bO_some, i_em s _ (hq _ (List.getElem_mem hlt)) hs, bO_some, w64s hlt (by omega)]
  rw [i_ems v w kl g qs hq hl c m (k + 1) (emF s qs[k]) (by omega) (by omega) (Nat.le_trans (em_sz s _ hs) hs), List.drop_eq_getElem_cons hlt, List.foldl_cons]
theorem s_ems (v : Int) (kl : Int → LQ → LQ → LQ → LQ → LQ → Option LQ) (g : Q4) (qs : List Int) (hq : ∀ q ∈ qs, 0 ≤ q ∧ q ≤ 3) (hl : qs.length ≤ 3) : ∀ (c m k : Nat) (s : ST), k + c = qs.length → c < m → szS s ≤ 3145728 →
  s_ShortenRuns_l4 v kl g qs m (k : Int) s.1 s.2.1 s.2.2.1 s.2.2.2.1 s.2.2.2.2 = s_ShortenRuns_j7 v kl g ((qs.drop k).foldl emF s).1 ((qs.drop k).foldl emF s).2.1 ((qs.drop k).foldl emF s).2.2.1 ((qs.drop k).foldl emF s).2.2.2.1 ((qs.drop k).foldl emF s).2.2.2.2
 | 0, m, k, s, hk, hm, hs => by
  obtain ⟨m, rfl⟩ : ∃ j, m = j + 1 := ⟨m - 1, by omega⟩
  have : qs.drop k = [] := List.drop_of_length_le (by omega)
  rw [this, s_ShortenRuns_l4, decide_eq_false (by omega), br_false]
  rfl
 | c + 1, m, k, s, hk, hm, hs => by
  obtain ⟨m, rfl⟩ : ∃ j, m = j + 1 := ⟨m - 1, by omega⟩
  have hlt : k < qs.length := by omega
  have hr := hq _ (List.getElem_mem hlt)
  have ih := s_ems v kl g qs hq hl c m (k + 1) (emF s qs[k]) (by omega) (by omega) (Nat.le_trans (em_sz s _ hs) hs)
  rw [s_ShortenRuns_l4, decide_eq_true (by omega), br_true, geti_lt hlt, bO_some, w64s hlt (by omega), List.drop_eq_getElem_cons hlt, List.foldl_cons, ← ih]
  clear ih
  obtain ⟨o, p0, p1, p2, p3⟩ := s
  unfold szS at hs
  simp only at hs ⊢
  have h0 := sr3 (g := p0) (by omega)
  have h1 := sr3 (g := p1) (by omega)
  have h2 := sr3 (g := p2) (by omega)
  have h3 := sr3 (g := p3) (by omega)
  generalize qs[k] = q at hr
  have : q = 0 ∨ q = 1 ∨ q = 2 ∨ q = 3 := by omega
  rcases this with rfl | rfl | rfl | rfl
  ·rw [show ((0 : Int) == 0) = true from rfl, br_true, s_sr p0 (by omega), bO_some, decide_eq_true (by omega), gd_true]; rfl
  ·rw [show ((1 : Int) == 0) = false from rfl, br_false, show ((1 : Int) == 1) = true from rfl, br_true, s_sr p1 (by omega), bO_some, decide_eq_true (by omega), gd_true]; rfl
  ·rw [show ((2 : Int) == 0) = false from rfl, br_false, show ((2 : Int) == 1) = false from rfl, br_false, show ((2 : Int) == 2) = true from rfl, br_true, s_sr p2 (by omega), bO_some, decide_eq_true (by omega), gd_true]; rfl
  ·rw [show ((3 : Int) == 0) = false from rfl, br_false, show ((3 : Int) == 1) = false from rfl, br_false, show ((3 : Int) == 2) = false from rfl, br_false, show ((3 : Int) == 3) = true from rfl, br_true, s_sr p3 (by omega), bO_some, decide_eq_true (by omega), gd_true]; rfl
theorem gq_len (g : Q4) : (gqF g).length ≤ 3 := by unfold gqF; simp; omega
theorem i_rrun (l : List Q4) (n : Int) (hl : l.length ≤ 1048576) (hv : ∀ g ∈ l, vG n g = true) : ∀ (c m k : Nat) (s : ST), k + c = l.length → c < m → szS s ≤ 3 * k →
  i_ShortenRuns_l2 l m (l.length : Int) (k : Int) s.1 s.2.1 s.2.2.1 s.2.2.2.1 s.2.2.2.2 = some (endF ((l.drop k).foldl stpF s))
 | 0, m, k, s, hk, hm, hs => by
  obtain ⟨m, rfl⟩ : ∃ j, m = j + 1 := ⟨m - 1, by omega⟩
  have : l.drop k = [] := List.drop_of_length_le (by omega)
  rw [this, i_ShortenRuns_l2, decide_eq_false (by omega), br_false, i_rend s (by omega)]
  rfl
 | c + 1, m, k, s, hk, hm, hs => by
  obtain ⟨m, rfl⟩ : ∃ j, m = j + 1 := ⟨m - 1, by omega⟩
  have hlt : k < l.length := by omega
  have hg := hv _ (List.getElem_mem hlt)
  have hz := stp_sz s l[k] (by omega)
  have ih := i_rrun l n hl hv c m (k + 1) (stpF s l[k]) (by omega) (by omega) (by omega)
  rw [i_ShortenRuns_l2, decide_eq_true (by omega), br_true, geti_lt hlt, bO_some, i_ar, bO_some, List.drop_eq_getElem_cons hlt, List.foldl_cons, ← ih]
  clear ih
  generalize l[k] = g at hg hz
  by_cases h1 : arity g.1 = 1
  ·have hr := vG_one hg h1
   rw [show (arity g.1 == 1) = true by simpa using h1, br_true]
   unfold stpF
   rw [if_pos h1]
   obtain ⟨o, p0, p1, p2, p3⟩ := s
   obtain ⟨gk, ga, gb, gc⟩ := g
   unfold szS at hs
   simp only at hs hr ⊢
   have : ga = 0 ∨ ga = 1 ∨ ga = 2 ∨ ga = 3 := by omega
   rcases this with rfl | rfl | rfl | rfl
   ·rw [show ((0 : Int) == 0) = true from rfl, br_true, decide_eq_true (by simp; omega), gd_true, i_ShortenRuns_j7, w64s hlt (by omega)]; rfl
   ·rw [show ((1 : Int) == 0) = false from rfl, br_false, show ((1 : Int) == 1) = true from rfl, br_true, decide_eq_true (by simp; omega), gd_true, i_ShortenRuns_j7, w64s hlt (by omega)]; rfl
   ·rw [show ((2 : Int) == 0) = false from rfl, br_false, show ((2 : Int) == 1) = false from rfl, br_false, show ((2 : Int) == 2) = true from rfl, br_true, decide_eq_true (by simp; omega), gd_true, i_ShortenRuns_j7, w64s hlt (by omega)]; rfl
   ·rw [show ((3 : Int) == 0) = false from rfl, br_false, show ((3 : Int) == 1) = false from rfl, br_false, show ((3 : Int) == 2) = false from rfl, br_false, show ((3 : Int) == 3) = true from rfl, br_true, decide_eq_true (by simp; omega), gd_true, i_ShortenRuns_j7, w64s hlt (by omega)]; rfl
  ·rw [show (arity g.1 == 1) = false by simpa using h1, br_false, i_gq, bO_some]
   have hq := vG_rng hg
   have hql := gq_len g
   have he := i_ems (l.length : Int) (k : Int) (i_ShortenRuns_l2 l m) g (gqF g) hq hql (gqF g).length FU 0 s (by omega) (by rw [FU_eq]; omega) (by omega)
   have hz2 := ems_sz (gqF g) s (by omega)
   rw [List.drop_zero] at he
   show i_ShortenRuns_l5 (l.length : Int) (k : Int) (i_ShortenRuns_l2 l m) g (gqF g) FU ((gqF g).length : Int) ((0 : Nat) : Int) s.1 s.2.1 s.2.2.1 s.2.2.2.1 s.2.2.2.2 = _
   rw [he]
   unfold stpF
   rw [if_neg h1]
   generalize (gqF g).foldl emF s = t at hz2
   unfold szS at hz2 hs
   unfold i_ShortenRuns_j8
   rw [decide_eq_true (by simp; omega), gd_true, i_ShortenRuns_j7, w64s hlt (by omega)]
   rfl
theorem s_rrun (l : List Q4) (n : Int) (hl : l.length ≤ 1048576) : ∀ (c m k : Nat) (s : ST), k + c = l.length → c < m → szS s ≤ 3 * k →
  s_ShortenRuns_l1 l n m (k : Int) s.1 s.2.1 s.2.2.1 s.2.2.2.1 s.2.2.2.2 = some (if (l.drop k).all (vG n) = true then endF ((l.drop k).foldl stpF s) else l)
 | 0, m, k, s, hk, hm, hs => by
  obtain ⟨m, rfl⟩ : ∃ j, m = j + 1 := ⟨m - 1, by omega⟩
  have : l.drop k = [] := List.drop_of_length_le (by omega)
  rw [this, s_ShortenRuns_l1, decide_eq_false (by omega), br_false, s_rend s (by omega)]
  rfl
 | c + 1, m, k, s, hk, hm, hs => by
  obtain ⟨m, rfl⟩ : ∃ j, m = j + 1 := ⟨m - 1, by omega⟩
  have hlt : k < l.length := by omega
  have hz := stp_sz s l[k] (by omega)
  have ih := s_rrun l n hl c m (k + 1) (stpF s l[k]) (by omega) (by omega) (by omega)
  rw [s_ShortenRuns_l1, decide_eq_true (by omega), br_true, geti_lt hlt, bO_some, s_ivg, bO_some, List.drop_eq_getElem_cons hlt, List.foldl_cons, List.all_cons]
  generalize hgl : l[k] = g at hz ih
  show br (!(vG n g)) _ _ = _
  cases hg : vG n g with
  | false =>
   rw [Bool.not_false, br_true, decide_eq_true (by simp; omega), gd_true, Bool.false_and, if_neg (by simp)]
  | true =>
   rw [Bool.not_true, br_false, Bool.true_and, ← ih, s_ar, bO_some]
   clear ih
   by_cases h1 : arity g.1 = 1
   ·have hr := vG_one hg h1
    rw [show (arity g.1 == 1) = true by simpa using h1, br_true]
    unfold stpF
    rw [if_pos h1]
    obtain ⟨o, p0, p1, p2, p3⟩ := s
    obtain ⟨gk, ga, gb, gc⟩ := g
    unfold szS at hs
    simp only at hs hr ⊢
    have : ga = 0 ∨ ga = 1 ∨ ga = 2 ∨ ga = 3 := by omega
    rcases this with rfl | rfl | rfl | rfl
    ·rw [show ((0 : Int) == 0) = true from rfl, br_true, decide_eq_true (by simp; omega), gd_true, s_ShortenRuns_j6, w64s hlt (by omega)]; rfl
    ·rw [show ((1 : Int) == 0) = false from rfl, br_false, show ((1 : Int) == 1) = true from rfl, br_true, decide_eq_true (by simp; omega), gd_true, s_ShortenRuns_j6, w64s hlt (by omega)]; rfl
    ·rw [show ((2 : Int) == 0) = false from rfl, br_false, show ((2 : Int) == 1) = false from rfl, br_false, show ((2 : Int) == 2) = true from rfl, br_true, decide_eq_true (by simp; omega), gd_true, s_ShortenRuns_j6, w64s hlt (by omega)]; rfl
    ·rw [show ((3 : Int) == 0) = false from rfl, br_false, show ((3 : Int) == 1) = false from rfl, br_false, show ((3 : Int) == 2) = false from rfl, br_false, show ((3 : Int) == 3) = true from rfl, br_true, decide_eq_true (by simp; omega), gd_true, s_ShortenRuns_j6, w64s hlt (by omega)]; rfl
   ·rw [show (arity g.1 == 1) = false by simpa using h1, br_false, s_gq, bO_some]
    have hq := vG_rng hg
    have hql := gq_len g
    have he := s_ems (k : Int) (s_ShortenRuns_l1 l n m) g (gqF g) hq hql (gqF g).length FU 0 s (by omega) (by rw [FU_eq]; omega) (by omega)
    have hz2 := ems_sz (gqF g) s (by omega)
    rw [List.drop_zero] at he
    show s_ShortenRuns_l4 (k : Int) (s_ShortenRuns_l1 l n m) g (gqF g) FU ((0 : Nat) : Int) s.1 s.2.1 s.2.2.1 s.2.2.2.1 s.2.2.2.2 = _
    rw [he]
    unfold stpF
    rw [if_neg h1]
    generalize (gqF g).foldl emF s = t at hz2
    unfold szS at hz2 hs
    unfold s_ShortenRuns_j7
    rw [decide_eq_true (by simp; omega), gd_true, s_ShortenRuns_j6, w64s hlt (by omega)]
    rfl
theorem s_srs (l : List Q4) (n : Int) (hl : l.length ≤ 1048576) : s_ShortenRuns l n = some (srsF n l) := by
 have := s_rrun l n hl l.length FU 0 ([], [], [], [], []) (by omega) (by rw [FU_eq]; omega) (by simp [szS])
 rw [List.drop_zero] at this
 exact this
theorem i_ivg (k a b c n : Int) : i_IsValidGate k a b c n = some (ivg k a b c n) := rfl
theorem i_copy (l : List Q4) (hl : l.length ≤ 1048576) : i_copyGates l = some l := by
 unfold i_copyGates
 rw [decide_eq_true (by simp; omega), gd_true]
theorem i_chk (l : List Q4) (n : Int) (hl : l.length ≤ 1048576) : ∀ (c m k : Nat), k + c = l.length → c < m →
  i_ShortenRuns_l1 l n m (l.length : Int) (k : Int) = if (l.drop k).all (vG n) = true then i_ShortenRuns_j1 l else some l
 | 0, m, k, hk, hm => by
  obtain ⟨m, rfl⟩ : ∃ j, m = j + 1 := ⟨m - 1, by omega⟩
  have : l.drop k = [] := List.drop_of_length_le (by omega)
  rw [this, i_ShortenRuns_l1, decide_eq_false (by omega), br_false]
  rfl
 | c + 1, m, k, hk, hm => by
  obtain ⟨m, rfl⟩ : ∃ j, m = j + 1 := ⟨m - 1, by omega⟩
  have hlt : k < l.length := by omega
  have ih := i_chk l n hl c m (k + 1) (by omega) (by omega)
  rw [i_ShortenRuns_l1, decide_eq_true (by omega), br_true, geti_lt hlt, bO_some, i_ivg, bO_some, List.drop_eq_getElem_cons hlt, List.all_cons, w64s hlt (by omega), ih]
  generalize l[k] = g
  show br (!(vG n g)) _ _ = _
  cases hg : vG n g with
  | false =>
   rw [Bool.not_false, br_true, Bool.false_and, if_neg (by simp), i_copy l (by omega), bO_some]
  | true => rw [Bool.not_true, br_false, Bool.true_and]
theorem i_srs (l : List Q4) (n : Int) (hl : l.length ≤ 1048576) : i_ShortenRuns l n = some (srsF n l) := by
 have := i_chk l n hl l.length FU 0 (by omega) (by rw [FU_eq]; omega)
 rw [List.drop_zero] at this
 show i_ShortenRuns_l1 l n FU (l.length : Int) ((0 : Nat) : Int) = _
 rw [this]
 unfold srsF
 by_cases h : l.all (vG n) = true
 ·rw [if_pos h, if_pos h]
  have := i_rrun l n hl (fun g hg => List.all_eq_true.1 h g hg) l.length FU 0 ([], [], [], [], []) (by omega) (by rw [FU_eq]; omega) (by simp [szS])
  rw [List.drop_zero] at this
  exact this
 ·rw [if_neg h, if_neg h]
theorem run_sz : ∀ (l : List Q4) (s : ST) (k : Nat), k + l.length ≤ 1048576 → szS s ≤ 3 * k → szS (l.foldl stpF s) ≤ 3 * (k + l.length)
 | [], s, k, _, hs => hs
 | g :: l, s, k, hl, hs => by
  simp only [List.length_cons] at hl ⊢
  have h1 := stp_sz s g (by omega)
  have := run_sz l (stpF s g) (k + 1) (by omega) (by omega)
  rw [List.foldl_cons]
  omega
theorem srs_len (l : List Q4) (n : Int) (hl : l.length ≤ 1048576) : (srsF n l).length ≤ 3145728 := by
 unfold srsF
 split
 ·have hz := run_sz l ([], [], [], [], []) 0 (by omega) (by simp [szS])
  generalize l.foldl stpF ([], [], [], [], []) = s at hz
  have b0 := em_sz s 0 (by omega)
  have b1 := em_sz (emF s 0) 1 (by omega)
  have b2 := em_sz (emF (emF s 0) 1) 2 (by omega)
  have b3 := em_sz (emF (emF (emF s 0) 1) 2) 3 (by omega)
  unfold endF
  generalize emF (emF (emF (emF s 0) 1) 2) 3 = t at b3
  have : t.1.length ≤ szS t := by unfold szS; omega
  omega
 ·omega
end Go.Proofs.YtfjopjalhllplaaGreat
