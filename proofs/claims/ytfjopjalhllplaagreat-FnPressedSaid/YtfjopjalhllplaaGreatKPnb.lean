/- Joined texts: Png Pnb. -/
import Derived.Test.YtfjopjalhllplaaGreatK14
import Derived.Test.YtfjopjalhllplaaGreatKPh
import Derived.Test.YtfjopjalhllplaaGreatK11
/- Plain law: normal forms as states: a gate's step as a function; a gate and its inverse give the state back. -/
namespace Go.Proofs.YtfjopjalhllplaaGreat
open Go.RowKit
set_option maxRecDepth 100000
set_option linter.unusedVariables false
set_option linter.unusedSimpArgs false
/-- T then Tdg: what was pushed is popped, what was popped is pushed. -/
def ngA (p : List Q4 × List Q4) : Bool := let t := t1F p.2; let u := t1F (sdF t.2); u.1 == 0 && t2F u.2 t.1 == p.2
def ngB (p : List Q4 × List Q4) : Bool := let t := t1F p.2; !(t.1 == 0) || [0, 1, 2].all fun (m : Int) => t1F (sdF (t2F t.2 m)) == (m, p.2)
def ngC (p : List Q4 × List Q4) : Bool := let t := t1F (sdF p.2); let u := t1F t.2; u.1 == 0 && t2F u.2 t.1 == p.2
def ngD (p : List Q4 × List Q4) : Bool := let t := t1F (sdF p.2); !(t.1 == 0) || [0, 1, 2].all fun (m : Int) => t1F (t2F t.2 m) == (m, p.2)
def ngE (p : List Q4 × List Q4) : Bool := s_TableauApplyGate 1 p.2 6 0 0 0 == some (1, sdF p.2, true) && (0 ≤ (t1F p.2).1 && (t1F p.2).1 ≤ 2)
theorem ng_fin : (ZL.all fun p => (ngA p && ngB p) && (ngC p && ngD p) && ngE p) = true := by decide +kernel
/-- Valid syllables. -/
def SV (y : List Int) : Prop := (∀ (k : Nat) (q : Int), y[k]? = some q → 0 ≤ q ∧ q ≤ 2) ∧ ∀ k : Nat, 0 < k → y[k]? ≠ some 0
theorem sv_iff (y : List Int) : (List.range y.length).all (syB y) = true ↔ SV y := by
 constructor
 ·intro h
  have e : ∀ (k : Nat) (q : Int), y[k]? = some q → (0 ≤ q ∧ q ≤ 2) ∧ ¬ (0 < k ∧ q = 0) := fun k q hq => by
   have hk : k < y.length := by
    rcases Nat.lt_or_ge k y.length with h' | h'
    ·exact h'
    ·rw [List.getElem?_eq_none h'] at hq; cases hq
   have := List.all_eq_true.1 h k (List.mem_range.2 hk)
   rw [syB_eq hq] at this
   simp only [Bool.and_eq_true, decide_eq_true_eq, Bool.not_eq_true', Bool.and_eq_false_iff, decide_eq_false_iff_not, beq_eq_false_iff_ne] at this
   refine ⟨this.1, fun hh => ?_⟩
   rcases this.2 with h3 | h3
   ·exact h3 hh.1
   ·exact h3 hh.2
  exact ⟨fun k q hq => (e k q hq).1, fun k hk hq => (e k 0 hq).2 ⟨hk, rfl⟩⟩
 ·rintro ⟨h1, h2⟩
  refine List.all_eq_true.2 fun k hk => ?_
  have hk := List.mem_range.1 hk
  have hq := List.getElem?_eq_getElem hk
  rw [syB_eq hq]
  simp only [Bool.and_eq_true, decide_eq_true_eq, Bool.not_eq_true', Bool.and_eq_false_iff, decide_eq_false_iff_not, beq_eq_false_iff_ne]
  refine ⟨h1 k _ hq, ?_⟩
  by_cases h0 : 0 < k
  ·exact Or.inr fun e => h2 k h0 (by rw [hq, e])
  ·exact Or.inl h0
theorem sv_nil : SV [] := ⟨fun k q h => (by simp at h), fun k _ h => (by simp at h)⟩
theorem sv_take {y : List Int} (h : SV y) (n : Nat) : SV (y.take n) := by
 constructor
 ·intro k q hq
  rw [List.getElem?_take] at hq
  split at hq
  ·exact h.1 k q hq
  ·cases hq
 ·intro k hk hq
  rw [List.getElem?_take] at hq
  split at hq
  ·exact h.2 k hk hq
  ·cases hq
theorem sv_push {y : List Int} (h : SV y) {k : Int} (hk : 0 ≤ k ∧ k ≤ 2) (h0 : ¬ (k = 0 ∧ 1 ≤ y.length)) : SV (y ++ [k]) := by
 have e : ∀ (j : Nat) (q : Int), (y ++ [k])[j]? = some q → y[j]? = some q ∨ (j = y.length ∧ q = k) := by
  intro j q hq
  rcases Nat.lt_or_ge j y.length with hj | hj
  ·rw [List.getElem?_append_left hj] at hq; exact Or.inl hq
  ·rw [List.getElem?_append_right hj] at hq
   have : j - y.length = 0 ∨ 1 ≤ j - y.length := by omega
   rcases this with h0 | h0
   ·rw [h0] at hq; simp at hq; exact Or.inr ⟨by omega, hq.symm⟩
   ·rw [List.getElem?_eq_none (by simpa using h0)] at hq; cases hq
 constructor
 ·intro j q hq
  rcases e j q hq with h1 | ⟨_, rfl⟩
  ·exact h.1 j q h1
  ·exact hk
 ·intro j hj hq
  rcases e j 0 hq with h1 | ⟨h1, h2⟩
  ·exact h.2 j hj h1
  ·exact h0 ⟨h2.symm, by omega⟩
theorem ng_at {l : List Q4} (ht : tB 1 l = true) : ∃ p ∈ ZL, p.2 = l ∧ ((ngA p = true ∧ ngB p = true) ∧ (ngC p = true ∧ ngD p = true)) ∧ ngE p = true := by
 obtain ⟨p, hp, rfl, _⟩ := cwF_ok ht
 have e := List.all_eq_true.1 ng_fin p hp
 simp only [Bool.and_eq_true] at e
 exact ⟨p, hp, rfl, e.1, e.2⟩
theorem t1_bd {l : List Q4} (ht : tB 1 l = true) : 0 ≤ (t1F l).1 ∧ (t1F l).1 ≤ 2 := by
 obtain ⟨p, hp, rfl, _, e⟩ := ng_at ht
 unfold ngE at e
 simp only [Bool.and_eq_true, decide_eq_true_eq] at e
 exact e.2
theorem sd_eq {l : List Q4} (ht : tB 1 l = true) : s_TableauApplyGate 1 l 6 0 0 0 = some (1, sdF l, true) := by
 obtain ⟨p, hp, rfl, _, e⟩ := ng_at ht
 unfold ngE at e
 simp only [Bool.and_eq_true, beq_iff_eq] at e
 exact e.1
theorem h11 : 1 ≤ (1 : Int) ∧ (1 : Int) ≤ 4 := by omega
theorem sd_gmap {l : List Q4} (ht : tB 1 l = true) : sdF l = l.map (gmap h11 6 0 0) := by
 have hs := tg_ok (l := l) (by have := (tB_inv ht).2.1; omega) h11 (k := 6) (a := 0) (b := 0) (c := 0) (by decide) (by decide) ht
 have := Option.some.inj (hs.symm.trans (sd_eq ht))
 exact ((Prod.mk.inj (Prod.mk.inj this).2).1).symm
theorem sd_tB {l : List Q4} (ht : tB 1 l = true) : tB 1 (sdF l) = true := by
 rw [sd_gmap ht]
 exact gmap_tB h11 (k := 6) (a := 0) (b := 0) (c := 0) (by decide) (by decide) ht
/-- withT keeps states valid. -/
theorem nt_ok {y : List Int} {l : List Q4} (hy : y.length ≤ 2000000) (hv : SV y) (ht : tB 1 l = true) :
  i_withT y 1 l = some (1, ntF y l) ∧ s_l30T y 1 l = some (1, ntF y l) ∧ SV (ntF y l).1 ∧ tB 1 (ntF y l).2 = true ∧ ((ntF y l).1.length ≤ y.length + 1 ∧ y.length ≤ (ntF y l).1.length + 1) := by
 obtain ⟨r, h1, h2, h3, h4, h5, _, h6⟩ := wt_eq y l hy hv.1 ht
 have hr : r = (1, ntF y l) := by rw [← h6, ← h3]
 subst hr
 refine ⟨h1, h2, ?_, h4, h5, ?_⟩
 ·unfold ntF
  split
  ·exact sv_take hv _
  ·rename_i hb
   exact sv_push hv (t1_bd ht) hb
 ·unfold ntF
  split
  ·simp; omega
  ·simp; omega
/-- A gate's step. -/
def naF (k a b : Int) (s : List Int × List Q4) : List Int × List Q4 := if k = 7 then ntF s.1 s.2 else if k = 8 then ntF s.1 (sdF s.2) else (s.1, s.2.map (gmap h11 k a b))
theorem clif1 {k a b c : Int} (h : ivg k a b c 1 = true) (h7 : k ≠ 7) (h8 : k ≠ 8) : clif k = true := by
 have ha : arity k ≠ 0 := by
  intro e
  unfold ivg at h
  rw [e] at h
  simp at h
 have h12 : k ≠ 12 := by
  rintro rfl
  unfold ivg at h
  rw [show arity 12 = 3 from rfl] at h
  unfold okQ okQ okQ at h
  simp only [Bool.and_eq_true, decide_eq_true_eq] at h
  simp at h
  omega
 unfold clif
 have : 1 ≤ k ∧ k ≤ 11 := by
  unfold arity at ha
  by_cases e1 : 1 ≤ k ∧ k ≤ 8
  ·omega
  ·rw [if_neg e1] at ha
   by_cases e2 : 9 ≤ k ∧ k ≤ 11
   ·omega
   ·rw [if_neg e2, if_neg h12] at ha
    exact absurd rfl ha
 simp [this, h7, h8]
def NV (N : Int) (y : List Int) (l : List Q4) : Bool := (List.range y.length).all (syB y) && (tB N l && N == 1)
theorem nv_iff (N : Int) (y : List Int) (l : List Q4) : NV N y l = true ↔ SV y ∧ tB 1 l = true ∧ N = 1 := by
 unfold NV
 simp only [Bool.and_eq_true, beq_iff_eq]
 rw [sv_iff]
 constructor
 ·rintro ⟨h1, h2, rfl⟩; exact ⟨h1, h2, rfl⟩
 ·rintro ⟨h1, h2, rfl⟩; exact ⟨h1, h2, rfl⟩
theorem na_ok {y : List Int} {l : List Q4} {k a b c : Int} (hy : y.length ≤ 1048576) (hv : SV y) (ht : tB 1 l = true) (hg : ivg k a b c 1 = true) :
  s_NormalFormApplyGate y 1 l k a b c = some (1, (naF k a b (y, l)).1, (naF k a b (y, l)).2, true) ∧ i_NormalFormApplyGate y 1 l k a b c = some (1, (naF k a b (y, l)).1, (naF k a b (y, l)).2, true) ∧
  SV (naF k a b (y, l)).1 ∧ tB 1 (naF k a b (y, l)).2 = true ∧ (naF k a b (y, l)).1.length ≤ y.length + 1 ∧ y.length ≤ (naF k a b (y, l)).1.length + 1 := by
 have hl2 := (tB_inv ht).2.1
 have cs : s_l30Copy y 1 l = some (1, y, l) := by
  unfold s_l30Copy s_l26Copy
  rw [gd_w (by simp; omega), gd_w (by simp; omega), bO_some]
 have ci : i_copyNormalForm y 1 l = some (1, y, l) := by
  unfold i_copyNormalForm
  rw [gd_w (by simp; omega), gd_w (by simp; omega)]
 have hnv : ((List.range y.length).all (syB y) && (tB 1 l && (1 : Int) == 1)) = true := (nv_iff 1 y l).2 ⟨hv, ht, rfl⟩
 unfold s_NormalFormApplyGate i_NormalFormApplyGate
 rw [cs, ci, bO_some, bO_some, s_nfv y 1 l (by omega) (by omega), i_nfv y 1 l (by omega) (by omega), bO_some, bO_some, hnv]
 simp only [Bool.not_true, br_false, s_ivg, i_IsValidGate, bO_some, hg, s_NormalFormApplyGate_j1, i_NormalFormApplyGate_j1]
 by_cases h7 : k = 7
 ·subst h7
  obtain ⟨e1, e2, e3, e4, e5, e6⟩ := nt_ok (by omega) hv ht
  simp only [beq_self_eq_true, br_true, e1, e2, bO_some]
  exact ⟨rfl, rfl, e3, e4, e5, e6⟩
 ·have c7 : (k == 7) = false := by simpa using h7
  by_cases h8 : k = 8
  ·subst h8
   have hs := sd_eq ht
   obtain ⟨r0, g1, g2, _⟩ := tabg_eq 1 l (by omega) 6 0 0 0
   have hr0 := Option.some.inj (g1.symm.trans hs)
   subst hr0
   obtain ⟨e1, e2, e3, e4, e5, e6⟩ := nt_ok (by omega) hv (sd_tB ht)
   have o1 : i_one 6 0 = some (6, 0, 0, 0) := rfl
   have o2 : s_l14One 6 0 = some (6, 0, 0, 0) := rfl
   simp only [c7, br_false, beq_self_eq_true, br_true, o1, o2, bO_some, g1, g2, e1, e2]
   exact ⟨rfl, rfl, e3, e4, e5, e6⟩
  ·have c8 : (k == 8) = false := by simpa using h8
   have hc := clif1 hg h7 h8
   have hs := tg_ok (l := l) (by omega) h11 hc hg ht
   obtain ⟨r0, g1, g2, _⟩ := tabg_eq 1 l (by omega) k a b c
   have hr0 := Option.some.inj (g1.symm.trans hs)
   subst hr0
   have en : naF k a b (y, l) = (y, l.map (gmap h11 k a b)) := by unfold naF; rw [if_neg h7, if_neg h8]
   rw [en]
   simp only [c7, c8, br_false, g1, g2, bO_some]
   exact ⟨by trivial, by trivial, hv, gmap_tB h11 hc hg ht, by omega, by omega⟩
end Go.Proofs.YtfjopjalhllplaaGreat
/- Plain law: the gates of a normal form lead to that normal form. -/
namespace Go.Proofs.YtfjopjalhllplaaGreat
open Go.RowKit
set_option maxRecDepth 100000
set_option linter.unusedVariables false
set_option linter.unusedSimpArgs false
/-- Gates one after the other. -/
def fo (g : List Q4) (s : List Int × List Q4) : List Int × List Q4 := g.foldl (fun s q => naF q.1 q.2.1 q.2.2.1 s) s
theorem fo_append (g h : List Q4) (s : List Int × List Q4) : fo (g ++ h) s = fo h (fo g s) := by unfold fo; rw [List.foldl_append]
theorem fo_cons (q : Q4) (g : List Q4) (s : List Int × List Q4) : fo (q :: g) s = fo g (naF q.1 q.2.1 q.2.2.1 s) := rfl
def G1 (q : Q4) : Prop := ivg q.1 q.2.1 q.2.2.1 q.2.2.2 1 = true
theorem cnf_loop (g : List Q4) (hgl : g.length ≤ 1048576) (hG : ∀ q ∈ g, G1 q) : ∀ (m j : Nat) (y : List Int) (l : List Q4), j ≤ g.length → g.length - j < m → y.length + g.length ≤ 1048576 + j → SV y → tB 1 l = true →
  s_ComputeNormalForm_l1 g m j 1 y l = some (1, (fo (g.drop j) (y, l)).1, (fo (g.drop j) (y, l)).2, true) ∧ i_ComputeNormalForm_l1 g m (g.length : Int) j 1 y l = some (1, (fo (g.drop j) (y, l)).1, (fo (g.drop j) (y, l)).2, true) ∧
  SV (fo (g.drop j) (y, l)).1 ∧ tB 1 (fo (g.drop j) (y, l)).2 = true ∧ (fo (g.drop j) (y, l)).1.length + j ≤ y.length + g.length := by
 intro m
 induction m with
 | zero => intro j y l _ h; omega
 | succ m ih =>
  intro j y l hj hm hy hv ht
  rw [s_ComputeNormalForm_l1, i_ComputeNormalForm_l1]
  by_cases e : j = g.length
  ·have hlt : ¬ (j : Int) < (g.length : Int) := by omega
   have hd : g.drop j = [] := List.drop_eq_nil_of_le (by omega)
   simp only [hlt, decide_false, br_false, s_ComputeNormalForm_j1, i_ComputeNormalForm_j1, hd]
   exact ⟨rfl, rfl, hv, ht, by show y.length + j ≤ _; omega⟩
  ·have hjl : j < g.length := by omega
   have hlt : (j : Int) < (g.length : Int) := by omega
   have hq := hG g[j] (List.getElem_mem hjl)
   obtain ⟨h1, h2, h3, h4, h5, h6⟩ := na_ok (y := y) (l := l) (by omega) hv ht hq
   have hd : g.drop j = g[j] :: g.drop (j + 1) := List.drop_eq_getElem_cons hjl
   rw [hd, fo_cons]
   simp only [hlt, decide_true, br_true, geti_lt hjl, bO_some, h1, h2, Bool.not_true, br_false]
   rw [w64s (n := g.length) hjl (by omega)]
   obtain ⟨a, b, c, d, e⟩ := ih (j + 1) _ _ (by omega) (by omega) (by omega) h3 h4
   have e' : (fo (g.drop (j + 1)) (naF g[j].1 g[j].2.1 g[j].2.2.1 (y, l))).1.length + (j + 1) ≤ (naF g[j].1 g[j].2.1 g[j].2.2.1 (y, l)).1.length + g.length := e
   exact ⟨a, b, c, d, by omega⟩
/-- The state behind gates. -/
def S0 : List Int × List Q4 := ([], idT 1)
theorem cnf_ok {g : List Q4} (hg : g.length ≤ 1048576) (hG : ∀ q ∈ g, G1 q) : s_ComputeNormalForm g = some (1, (fo g S0).1, (fo g S0).2, true) ∧ i_ComputeNormalForm g = some (1, (fo g S0).1, (fo g S0).2, true) ∧
  SV (fo g S0).1 ∧ tB 1 (fo g S0).2 = true ∧ (fo g S0).1.length ≤ g.length := by
 obtain ⟨i1, i2, i3, i4⟩ := id_ok (N := 1) (by omega)
 obtain ⟨k1, k2, k3, k4, k5⟩ := cnf_loop g hg hG FU 0 [] (idT 1) (by omega) (by rw [FU_eq]; omega) (by simp; omega) sv_nil i3
 rw [List.drop_zero] at k1 k2 k3 k4 k5
 refine ⟨?_, ?_, k3, k4, by simpa [S0] using k5⟩
 ·unfold s_ComputeNormalForm s_IdentityNormalForm
  rw [i1, bO_some, bO_some]
  exact k1
 ·unfold i_ComputeNormalForm i_IdentityNormalForm
  rw [i2, bO_some, bO_some]
  exact k2
/-- A Clifford gate on a tableau, as the kernel can run it. -/
def laF (q : Q4) (l : List Q4) : List Q4 := match s_TableauApplyGate 1 l q.1 q.2.1 q.2.2.1 q.2.2.2 with | some r => r.2.1 | none => []
def laL (w : List Q4) (l : List Q4) : List Q4 := w.foldl (fun l q => laF q l) l
def C1 (q : Q4) : Bool := clif q.1 && ivg q.1 q.2.1 q.2.2.1 q.2.2.2 1
theorem la_eq {q : Q4} {l : List Q4} (ht : tB 1 l = true) (h : C1 q = true) : laF q l = l.map (gmap h11 q.1 q.2.1 q.2.2.1) := by
 unfold C1 at h
 rw [Bool.and_eq_true] at h
 unfold laF
 rw [tg_ok (by have := (tB_inv ht).2.1; omega) h11 h.1 h.2 ht]
theorem la_tB {q : Q4} {l : List Q4} (ht : tB 1 l = true) (h : C1 q = true) : tB 1 (laF q l) = true := by
 rw [la_eq ht h]
 unfold C1 at h
 rw [Bool.and_eq_true] at h
 exact gmap_tB h11 h.1 h.2 ht
theorem fo_clif : ∀ (w : List Q4) (y : List Int) (l : List Q4), (∀ q ∈ w, C1 q = true) → tB 1 l = true → fo w (y, l) = (y, laL w l) ∧ tB 1 (laL w l) = true
 | [], y, l, _, ht => ⟨rfl, ht⟩
 | q :: w, y, l, hw, ht => by
  have hq := hw q (List.mem_cons_self ..)
  have hc : clif q.1 = true := by unfold C1 at hq; rw [Bool.and_eq_true] at hq; exact hq.1
  have h7 : q.1 ≠ 7 := fun e => by rw [e] at hc; cases hc
  have h8 : q.1 ≠ 8 := fun e => by rw [e] at hc; cases hc
  have en : naF q.1 q.2.1 q.2.2.1 (y, l) = (y, laF q l) := by unfold naF; rw [if_neg h7, if_neg h8, la_eq ht hq]
  rw [fo_cons, en]
  exact fo_clif w y (laF q l) (fun r hr => hw r (List.mem_cons_of_mem _ hr)) (la_tB ht hq)
def repF (k : Int) : List Q4 := if k = 1 then [(4, 0, 0, 0)] else if k = 2 then [(6, 0, 0, 0), (4, 0, 0, 0)] else []
theorem rep_eq (q : Int) : i_CosetRepresentative q = some (repF q) ∧ s_CosetRepresentative q = some (repF q) := by
 by_cases h1 : q = 1
 ·subst h1; exact ⟨rfl, rfl⟩
 by_cases h2 : q = 2
 ·subst h2; exact ⟨rfl, rfl⟩
 have e1 : (q == 1) = false := by simpa using h1
 have e2 : (q == 2) = false := by simpa using h2
 have er : repF q = [] := by unfold repF; rw [if_neg h1, if_neg h2]
 unfold i_CosetRepresentative s_CosetRepresentative
 simp only [e1, e2, br_false, er]
 exact ⟨by trivial, by trivial⟩
theorem rep_len (q : Int) : (repF q).length ≤ 2 := by unfold repF; (repeat' split) <;> simp
theorem rep_fin : ([(0 : Int), 1, 2].all fun k => (repF k).all C1 && t1F (laL (repF k) (idT 1)) == (k, idT 1)) = true := by decide +kernel
theorem word_fin : (ZL.all fun p => p.1.all C1 && laL p.1 (idT 1) == p.2) = true := by decide +kernel
def syF (k : Int) : List Q4 := repF k ++ [(7, 0, 0, 0)]
/-- The gates of a normal form. -/
def nfgF (y : List Int) (l : List Q4) : List Q4 := y.flatMap syF ++ wdF l
theorem sy_len (y : List Int) : (y.flatMap syF).length ≤ 3 * y.length := by
 induction y with
 | nil => simp
 | cons k y ih =>
  rw [List.flatMap_cons, List.length_append, List.length_cons]
  have := rep_len k
  have : (syF k).length ≤ 3 := by unfold syF; simp; omega
  omega
theorem wd_len {l : List Q4} (ht : tB 1 l = true) : (wdF l).length ≤ 3 := by
 obtain ⟨p, hp, rfl, hc⟩ := cwF_ok ht
 unfold wdF
 rw [hc]
 exact (z_at hp).2.2.1
theorem nfgF_len (y : List Int) {l : List Q4} (ht : tB 1 l = true) : (nfgF y l).length ≤ 3 * y.length + 3 := by
 unfold nfgF
 rw [List.length_append]
 have := sy_len y; have := wd_len ht; omega
theorem nfg_run (y : List Int) (l : List Q4) (hy : y.length ≤ 1048576) (ht : tB 1 l = true) : ∀ (m i : Nat), i ≤ y.length → y.length - i < m →
  s_NormalFormGates_l1 y 1 l m i ((y.take i).flatMap syF) = some (nfgF y l) ∧ i_NormalFormGates_l1 y 1 l m (y.length : Int) i ((y.take i).flatMap syF) = some (nfgF y l)
 | 0, i, _, h => by omega
 | m + 1, i, hi, h => by
  rw [s_NormalFormGates_l1, i_NormalFormGates_l1]
  have hv := sy_len (y.take i)
  rw [List.length_take, Nat.min_eq_left hi] at hv
  have hl2 := (tB_inv ht).2.1
  by_cases e : i = y.length
  ·have hlt : ¬ (i : Int) < (y.length : Int) := by omega
   have hc := cwF_len 1 l
   have hg : decide (((y.take i).flatMap syF).length + (cwF 1 l).1.length ≤ 16777216) = true := decide_eq_true (by omega)
   simp only [hlt, decide_false, br_false, s_NormalFormGates_j1, i_NormalFormGates_j1, i_cw, s_cw 1 l (by omega), bO_some, hg, gd_true]
   rw [List.take_of_length_le (by omega)]
   exact ⟨rfl, rfl⟩
  ·have hil : i < y.length := by omega
   have hlt : (i : Int) < (y.length : Int) := by omega
   obtain ⟨e1, e2⟩ := rep_eq y[i]
   have e3 := rep_len y[i]
   have hg1 : decide (((y.take i).flatMap syF).length + (repF y[i]).length ≤ 16777216) = true := decide_eq_true (by omega)
   have hg2 : decide ((((y.take i).flatMap syF) ++ repF y[i]).length + [((7 : Int), (0 : Int), (0 : Int), (0 : Int))].length ≤ 16777216) = true := decide_eq_true (by rw [List.length_append, List.length_singleton]; omega)
   have et : (y.take i).flatMap syF ++ repF y[i] ++ [((7 : Int), (0 : Int), (0 : Int), (0 : Int))] = (y.take (i + 1)).flatMap syF := by
    have ht' : y.take (i + 1) = y.take i ++ [y[i]] := by rw [List.take_add_one, List.getElem?_eq_getElem hil]; rfl
    rw [ht', List.flatMap_append]
    simp [syF]
   simp only [hlt, decide_true, br_true, geti_lt hil, bO_some, e1, e2, hg1, gd_true, show i_one 7 0 = some (7, 0, 0, 0) from rfl, show s_l14One 7 0 = some (7, 0, 0, 0) from rfl, hg2, w64s hil (by omega : y.length ≤ 4194304), et]
   exact nfg_run y l hy ht m (i + 1) (by omega) (by omega)
theorem nfg_fn {y : List Int} {l : List Q4} (hy : y.length ≤ 1048576) (hv : SV y) (ht : tB 1 l = true) : s_NormalFormGates y 1 l = some (nfgF y l) ∧ i_NormalFormGates y 1 l = some (nfgF y l) := by
 have hl2 := (tB_inv ht).2.1
 have hnv : ((List.range y.length).all (syB y) && (tB 1 l && (1 : Int) == 1)) = true := (nv_iff 1 y l).2 ⟨hv, ht, rfl⟩
 unfold s_NormalFormGates i_NormalFormGates
 rw [s_nfv y 1 l hy (by omega), i_nfv y 1 l hy (by omega), bO_some, bO_some, hnv]
 simp only [Bool.not_true, br_false]
 exact nfg_run y l hy ht FU 0 (by omega) (by rw [FU_eq]; omega)
theorem id1 : tB 1 (idT 1) = true := (id_ok (N := 1) (by omega)).2.2.1
theorem rep_at {k : Int} (hk : 0 ≤ k ∧ k ≤ 2) : (∀ q ∈ repF k, C1 q = true) ∧ t1F (laL (repF k) (idT 1)) = (k, idT 1) := by
 have e := List.all_eq_true.1 rep_fin k (by
   have : k = 0 ∨ k = 1 ∨ k = 2 := by omega
   rcases this with rfl | rfl | rfl <;> simp)
 simp only [Bool.and_eq_true, beq_iff_eq, List.all_eq_true] at e
 exact e
theorem sy_step {y : List Int} {k : Int} (hk : 0 ≤ k ∧ k ≤ 2) (h0 : ¬ (k = 0 ∧ 1 ≤ y.length)) : fo (syF k) (y, idT 1) = (y ++ [k], idT 1) := by
 obtain ⟨h1, h2⟩ := rep_at hk
 obtain ⟨e1, e2⟩ := fo_clif (repF k) y (idT 1) h1 id1
 unfold syF
 rw [fo_append, e1]
 show naF 7 0 0 (y, laL (repF k) (idT 1)) = _
 show ntF y (laL (repF k) (idT 1)) = _
 unfold ntF
 rw [h2, if_neg h0]
theorem sy_run : ∀ (z y : List Int), SV (y ++ z) → fo (z.flatMap syF) (y, idT 1) = (y ++ z, idT 1)
 | [], y, _ => by simp [fo]
 | k :: z, y, hv => by
  have hq : (y ++ k :: z)[y.length]? = some k := by simp
  rw [List.flatMap_cons, fo_append, sy_step (hv.1 _ _ hq) (fun h => hv.2 y.length (by omega) (by rw [hq, h.1])), sy_run z (y ++ [k]) (by simpa using hv)]
  simp
theorem wd_run {y : List Int} {l : List Q4} (ht : tB 1 l = true) : fo (wdF l) (y, idT 1) = (y, l) ∧ ∀ q ∈ wdF l, C1 q = true := by
 obtain ⟨p, hp, rfl, hc⟩ := cwF_ok ht
 have e := List.all_eq_true.1 word_fin p hp
 simp only [Bool.and_eq_true, beq_iff_eq, List.all_eq_true] at e
 have hw : wdF p.2 = p.1 := by unfold wdF; rw [hc]
 rw [hw]
 refine ⟨?_, e.1⟩
 rw [(fo_clif p.1 y (idT 1) e.1 id1).1, e.2]
/-- The gates of a normal form lead to it. -/
theorem back {y : List Int} {l : List Q4} (hv : SV y) (ht : tB 1 l = true) : fo (nfgF y l) S0 = (y, l) := by
 unfold nfgF S0
 rw [fo_append, sy_run y [] (by simpa using hv)]
 exact (wd_run ht).1
theorem c1_g1 {q : Q4} (h : C1 q = true) : G1 q := by unfold C1 at h; rw [Bool.and_eq_true] at h; exact h.2
theorem nfg_g1 {y : List Int} {l : List Q4} (hv : SV y) (ht : tB 1 l = true) : ∀ q ∈ nfgF y l, G1 q := by
 intro q hq
 unfold nfgF at hq
 rcases List.mem_append.1 hq with h | h
 ·obtain ⟨k, h1, h2⟩ := List.mem_flatMap.1 h
  obtain ⟨i, hi, rfl⟩ := List.getElem_of_mem h1
  unfold syF at h2
  rcases List.mem_append.1 h2 with h3 | h3
  ·exact c1_g1 ((rep_at (hv.1 i _ (List.getElem?_eq_getElem hi))).1 q h3)
  ·rw [List.mem_singleton] at h3
   subst h3
   show ivg 7 0 0 0 1 = true
   decide
 ·exact c1_g1 ((wd_run (y := []) ht).2 q h)
end Go.Proofs.YtfjopjalhllplaaGreat
