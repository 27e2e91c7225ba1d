/- Plain law: runs shortened: the same operation, not more T gates, not more cost. -/
import Derived.Test.YtfjopjalhllplaaGreatKPcm
import Derived.Test.YtfjopjalhllplaaGreatKPrr
import Derived.Test.YtfjopjalhllplaaGreatK18
namespace Go.Proofs.YtfjopjalhllplaaGreat
open Go.RowKit
set_option maxRecDepth 100000
set_option linter.unusedVariables false
set_option linter.unusedSimpArgs false
theorem wdh_fin : (ZL.all fun p => decide (hc (wdF p.2) ≤ 2)) = true := by decide +kernel
theorem wdh {l : List Q4} (ht : tB 1 l = true) : hc (wdF l) ≤ 2 := by
 obtain ⟨p, hp, rfl, _⟩ := cwF_ok ht
 exact of_decide_eq_true (List.all_eq_true.1 wdh_fin p hp)
theorem tn_tc : ∀ g : List Q4, tnF g = tcF g
 | [] => rfl
 | q :: g => by
  have := tn_tc g
  unfold tcF at *
  simp only [tnF, cnt]
  by_cases h7 : q.1 = 7
  ·rw [if_pos (Or.inl h7), if_pos h7, if_neg (by omega)]; omega
  by_cases h8 : q.1 = 8
  ·rw [if_pos (Or.inr h8), if_neg h7, if_pos h8]; omega
  ·rw [if_neg (by omega), if_neg h7, if_neg h8]; omega
theorem rc_tc (g : List Q4) : rcF g = 99 * (tcF g : Int) + (g.length : Int) := by rw [rc_tn, tn_tc]
theorem tc_map (f : Q4 → Q4) (hf : ∀ q, (f q).1 = q.1) : ∀ g : List Q4, tcF (g.map f) = tcF g
 | [] => rfl
 | q :: g => by
  have := tc_map f hf g
  unfold tcF at *
  simp only [List.map_cons, cnt, hf]
  omega
theorem hc_tc : ∀ g : List Q4, hc g + tcF g ≤ g.length
 | [] => Nat.le_refl 0
 | q :: g => by
  have := hc_tc g
  unfold tcF at *
  simp only [hc, cnt, List.length_cons]
  by_cases h4 : q.1 = 4
  ·rw [if_pos h4, if_neg (by omega), if_neg (by omega)]; omega
  by_cases h7 : q.1 = 7
  ·rw [if_neg h4, if_pos h7, if_neg (by omega)]; omega
  by_cases h8 : q.1 = 8
  ·rw [if_neg h4, if_neg h7, if_pos h8]; omega
  ·rw [if_neg h4, if_neg h7, if_neg h8]; omega
theorem hc_nfg2 (y : List Int) {l : List Q4} (ht : tB 1 l = true) : hc (nfgF y l) ≤ y.length + 2 := by
 have hs : hc (y.flatMap syF) ≤ y.length := by
  induction y with
  | nil => exact Nat.le_refl 0
  | cons k y ih =>
   rw [List.flatMap_cons, hc_append, List.length_cons]
   have := (tc_sy k).2
   omega
 have := wdh ht
 unfold nfgF
 rw [hc_append]
 omega
/-- What a shortened run counts. -/
theorem sr_cnt {g : List Q4} (hg : g.length ≤ 1048576) (h : g.all (srB (hdA g)) = true ∧ rcF (shF g) < rcF g) :
  tcF (srF g) ≤ tcF g ∧ hc (srF g) ≤ tcF (srF g) + 2 ∧ (tcF (srF g) = tcF g → hc (srF g) + tcF g + 1 ≤ g.length) := by
 have e : srF g = (shF g).map (setA (hdA g)) := by unfold srF; rw [if_pos h]
 obtain ⟨c3, c4, c5⟩ := st_ok hg h.1
 have h1 := nf_len (g := g.map oneF) (sr_g1 h.1) (by simpa using hg)
 rw [tc_map oneF (fun q => rfl)] at h1
 have h2 := (tc_nfg (stF g).1 c4).1
 have h3 := hc_nfg2 (stF g).1 c4
 have h4 := hc_tc (shF g)
 have h5 := rc_tc g
 have h6 := rc_tc (shF g)
 have h7 := h.2
 rw [e, tc_map (setA (hdA g)) (fun q => rfl), hc_at]
 have e1 : tcF (shF g) = (stF g).1.length := h2
 have e2 : hc (shF g) ≤ (stF g).1.length + 2 := h3
 have e3 : (stF g).1.length ≤ tcF g := h1
 refine ⟨by omega, by omega, fun e4 => by omega⟩
theorem sr_tc {g : List Q4} (hg : g.length ≤ 1048576) : tcF (srF g) ≤ tcF g := by
 by_cases h : g.all (srB (hdA g)) = true ∧ rcF (shF g) < rcF g
 ·exact (sr_cnt hg h).1
 ·unfold srF; rw [if_neg h]; exact Nat.le_refl _
theorem x_cnt : ∀ {xs : List Q4}, (∀ q ∈ xs, q.1 = 1) → tcF xs = 0 ∧ hc xs = 0
 | [], _ => ⟨rfl, rfl⟩
 | q :: xs, h => by
  obtain ⟨h1, h2⟩ := x_cnt (xs := xs) (fun x hx => h x (List.mem_cons_of_mem _ hx))
  have hq := h q (List.mem_cons_self ..)
  unfold tcF at *
  simp only [cnt, hc]
  rw [if_neg (by omega), if_neg (by omega), if_neg (by omega)]
  omega
theorem sr_hx {p xs : List Q4} (hg : (p ++ xs).length ≤ 1048576) (hx : ∀ q ∈ xs, q.1 = 1) : 2 * hc (srF (p ++ xs)) ≤ 3 * p.length + 4 := by
 obtain ⟨x1, x2⟩ := x_cnt hx
 have ht := hc_tc p
 by_cases h : (p ++ xs).all (srB (hdA (p ++ xs))) = true ∧ rcF (shF (p ++ xs)) < rcF (p ++ xs)
 ·obtain ⟨h1, h2, h3⟩ := sr_cnt hg h
  rw [tc_append, x1] at h1 h3
  omega
 ·unfold srF; rw [if_neg h, hc_append, x2]; omega
theorem sr_hc {g : List Q4} (hg : g.length ≤ 1048576) : 2 * hc (srF g) ≤ 3 * g.length := by
 have ht := hc_tc g
 by_cases h : g.all (srB (hdA g)) = true ∧ rcF (shF g) < rcF g
 ·obtain ⟨h1, h2, h3⟩ := sr_cnt hg h
  by_cases hl : g.length < 2
  ·exact absurd h.2 (sr_few hl h.1)
  by_cases e : tcF (srF g) = tcF g
  ·have := h3 e; omega
  ·omega
 ·unfold srF; rw [if_neg h]; omega
def VP (n a : Int) (p : List Q4) : Prop := ∀ q ∈ p, R1 a q ∧ vG n q = true
theorem vp_nil (n a : Int) : VP n a [] := fun q hq => by simp at hq
theorem vG_r1 {n : Int} {g : Q4} (h : vG n g = true) (h1 : arity g.1 = 1) : R1 g.2.1 g := by
 unfold vG at h
 rw [ivg_1 h1] at h
 simp only [Bool.and_eq_true, decide_eq_true_eq, beq_iff_eq] at h
 refine ⟨?_, rfl, h.2.2.1, h.2.2.2⟩
 unfold arity at h1
 (repeat' split at h1) <;> omega
theorem r1_ar {a : Int} {g : Q4} (h : R1 a g) : arity g.1 = 1 := by
 have := h.1
 unfold arity
 rw [if_pos this]
theorem vp_app {n a : Int} {p q : List Q4} (hp : VP n a p) (hq : VP n a q) : VP n a (p ++ q) := fun x hx => (List.mem_append.1 hx).elim (hp x) (hq x)
theorem sr_vp {n a : Int} {p : List Q4} (hl : p.length ≤ 1048576) (hp : VP n a p) : VP n a (srF p) := by
 by_cases h : p.all (srB (hdA p)) = true ∧ rcF (shF p) < rcF p
 ·have e : srF p = (shF p).map (setA (hdA p)) := by unfold srF; rw [if_pos h]
  obtain ⟨c3, c4, c5⟩ := st_ok hl h.1
  have hne : p ≠ [] := by
   rintro rfl
   have := (rc_bd (shF [])).1
   have h2 := h.2
   simp only [rcF] at h2
   omega
  obtain ⟨q, hq, hq2⟩ := hd_mem hne
  obtain ⟨hr, hv⟩ := hp q hq
  have ha : hdA p = a := by rw [← hq2, hr.2.1]
  unfold vG at hv
  rw [ivg_1 (r1_ar hr), hr.2.1] at hv
  simp only [Bool.and_eq_true, decide_eq_true_eq, beq_iff_eq] at hv
  rw [e, ha]
  intro x hx
  obtain ⟨y, hy, rfl⟩ := List.mem_map.1 hx
  obtain ⟨k, rfl, hk⟩ := g1_form (nfg_g1 c3 c4 y hy)
  have hR : R1 a (setA a (k, 0, 0, 0)) := ⟨hk, rfl, rfl, rfl⟩
  refine ⟨hR, ?_⟩
  unfold vG
  rw [ivg_1 (r1_ar hR)]
  simp only [Bool.and_eq_true, decide_eq_true_eq, beq_iff_eq]
  exact ⟨hv.1, hv.2.1, rfl, rfl⟩
 ·unfold srF; rw [if_neg h]; exact hp
theorem vG_gok {n : Int} {g : Q4} (h : vG n g = true) : gok n.toNat g := ivg_gok h
theorem vp_gok {n a : Int} {p : List Q4} (h : VP n a p) : ∀ q ∈ p, gok n.toNat q := fun q hq => vG_gok (h q hq).2
theorem r1_off {a b : Int} (hab : b.toNat ≠ a.toNat) {q : Q4} (h : R1 a q) : off b.toNat q := by
 obtain ⟨h1, h2, _⟩ := h
 exact ⟨by rw [h2]; exact hab, fun e => by omega, fun e => by omega⟩
theorem vp_off {n a b : Int} (hab : b.toNat ≠ a.toNat) {p : List Q4} (h : VP n a p) : ∀ q ∈ p, off b.toNat q := fun q hq => r1_off hab (h q hq).1
theorem app_all {P : Q4 → Prop} {A B : List Q4} (hA : ∀ q ∈ A, P q) (hB : ∀ q ∈ B, P q) : ∀ q ∈ A ++ B, P q := fun q hq => (List.mem_append.1 hq).elim (hA q) (hB q)
theorem com_list {a : Int} {p : List Q4} (hp : ∀ q ∈ p, R1 a q) : ∀ (A : List Q4), (∀ g ∈ A, off a.toNat g) → ∀ f, gzs A (gzs p f) = gzs p (gzs A f)
 | [], _, f => rfl
 | g :: A, hA, f => by
  rw [gzs_cons, gzs_cons, com_one (hA g (List.mem_cons_self ..)) p hp, com_list hp A (fun x hx => hA x (List.mem_cons_of_mem _ hx))]
/-- A run moved behind gates of other places. -/
theorem mv_sim {n : Nat} {b : Int} {o P' P A R : List Q4} (hP : ∀ q ∈ P', R1 b q) (hA : ∀ q ∈ A, off b.toNat q) (h : Sim n P' P) (hR : ∀ q ∈ R, gok n q) : Sim n (o ++ (P' ++ (A ++ R))) (o ++ (A ++ (P ++ R))) := by
 have h1 : Sim n (P' ++ A) (A ++ P') := eqv_sim (fun f => by rw [gzs_append, gzs_append]; exact com_list hP A hA f) (by rw [hc_append, hc_append, Nat.add_comm])
 have h2 := ((h1.trans (h.pre A)).post hR).pre o
 rw [List.append_assoc, List.append_assoc] at h2
 exact h2
def PI (n : Int) (s : ST) : Prop := (∀ q ∈ s.1, vG n q = true) ∧ (VP n 0 s.2.1 ∧ VP n 1 s.2.2.1) ∧ (VP n 2 s.2.2.2.1 ∧ VP n 3 s.2.2.2.2)
def fl4 (s : ST) : List Q4 := s.1 ++ (s.2.1 ++ (s.2.2.1 ++ (s.2.2.2.1 ++ s.2.2.2.2)))
theorem vp_v {n a : Int} {p : List Q4} (h : VP n a p) : ∀ q ∈ p, vG n q = true := fun q hq => (h q hq).2
theorem em_pi {n : Int} {s : ST} (h : PI n s) (hs : szS s ≤ 3145728) (q : Int) : PI n (emF s q) := by
 obtain ⟨o, p0, p1, p2, p3⟩ := s
 unfold szS at hs
 obtain ⟨h0, ⟨h1, h2⟩, h3, h4⟩ := h
 simp only at hs h0 h1 h2 h3 h4
 have l0 : p0.length ≤ 1048576 := by omega
 have l1 : p1.length ≤ 1048576 := by omega
 have l2 : p2.length ≤ 1048576 := by omega
 have l3 : p3.length ≤ 1048576 := by omega
 unfold emF
 (repeat' split)
 ·exact ⟨app_all h0 (vp_v (sr_vp l0 h1)), ⟨vp_nil n 0, h2⟩, h3, h4⟩
 ·exact ⟨app_all h0 (vp_v (sr_vp l1 h2)), ⟨h1, vp_nil n 1⟩, h3, h4⟩
 ·exact ⟨app_all h0 (vp_v (sr_vp l2 h3)), ⟨h1, h2⟩, vp_nil n 2, h4⟩
 ·exact ⟨app_all h0 (vp_v (sr_vp l3 h4)), ⟨h1, h2⟩, h3, vp_nil n 3⟩
theorem em_sim {n : Int} {s : ST} (h : PI n s) (hs : szS s ≤ 3145728) (q : Int) : Sim n.toNat (fl4 (emF s q)) (fl4 s) := by
 obtain ⟨o, p0, p1, p2, p3⟩ := s
 unfold szS at hs
 obtain ⟨h0, ⟨h1, h2⟩, h3, h4⟩ := h
 simp only at hs h0 h1 h2 h3 h4
 have g0 := vp_gok h1
 have g1 := vp_gok h2
 have g2 := vp_gok h3
 have g3 := vp_gok h4
 unfold emF fl4
 (repeat' split) <;> simp only [List.append_assoc, List.nil_append, List.append_nil]
 ·exact mv_sim (b := 0) (A := []) (fun q hq => (sr_vp (by omega) h1 q hq).1) (fun q hq => by simp at hq) (sr_sim (by omega)) (app_all g1 (app_all g2 g3))
 ·exact mv_sim (b := 1) (A := p0) (fun q hq => (sr_vp (by omega) h2 q hq).1) (vp_off (by decide) h1) (sr_sim (by omega)) (app_all g2 g3)
 ·have := mv_sim (n := n.toNat) (b := 2) (o := o) (A := p0 ++ p1) (R := p3) (fun q hq => (sr_vp (by omega) h3 q hq).1) (app_all (vp_off (by decide) h1) (vp_off (by decide) h2)) (sr_sim (by omega)) g3
  simp only [List.append_assoc] at this
  exact this
 ·have := mv_sim (n := n.toNat) (b := 3) (o := o) (A := p0 ++ (p1 ++ p2)) (R := []) (fun q hq => (sr_vp (by omega) h4 q hq).1) (app_all (vp_off (by decide) h1) (app_all (vp_off (by decide) h2) (vp_off (by decide) h3))) (sr_sim (by omega)) (fun q hq => by simp at hq)
  simp only [List.append_assoc, List.append_nil] at this
  exact this
theorem em_tc {s : ST} (hs : szS s ≤ 3145728) (q : Int) : tcF (fl4 (emF s q)) ≤ tcF (fl4 s) ∧ rcF (fl4 (emF s q)) ≤ rcF (fl4 s) := by
 obtain ⟨o, p0, p1, p2, p3⟩ := s
 unfold szS at hs
 simp only at hs
 have t0 := sr_tc (g := p0) (by omega)
 have t1 := sr_tc (g := p1) (by omega)
 have t2 := sr_tc (g := p2) (by omega)
 have t3 := sr_tc (g := p3) (by omega)
 have r0 := (sr_idem (g := p0) (by omega)).2
 have r1 := (sr_idem (g := p1) (by omega)).2
 have r2 := (sr_idem (g := p2) (by omega)).2
 have r3 := (sr_idem (g := p3) (by omega)).2
 have e0 : tcF [] = 0 := rfl
 have e1 : rcF [] = 0 := rfl
 unfold emF fl4
 (repeat' split) <;> simp only [tc_append, rc_append, e0, e1] <;> omega
theorem pu_pi {n : Int} {s : ST} (h : PI n s) {g : Q4} (hg : vG n g = true) (h1 : arity g.1 = 1) : PI n (puF s g) := by
 obtain ⟨o, p0, p1, p2, p3⟩ := s
 obtain ⟨k0, ⟨k1, k2⟩, k3, k4⟩ := h
 have hr := vG_one hg h1
 have hR := vG_r1 hg h1
 have hp : VP n g.2.1 [g] := fun q hq => by
  simp only [List.mem_cons, List.not_mem_nil, or_false] at hq
  subst hq
  exact ⟨hR, hg⟩
 unfold puF
 split
 ·rename_i e; rw [e] at hp; exact ⟨k0, ⟨vp_app k1 hp, k2⟩, k3, k4⟩
 split
 ·rename_i e; rw [e] at hp; exact ⟨k0, ⟨k1, vp_app k2 hp⟩, k3, k4⟩
 split
 ·rename_i e; rw [e] at hp; exact ⟨k0, ⟨k1, k2⟩, vp_app k3 hp, k4⟩
 ·have e : g.2.1 = 3 := by omega
  rw [e] at hp; exact ⟨k0, ⟨k1, k2⟩, k3, vp_app k4 hp⟩
theorem pu_sim {n : Int} {s : ST} (h : PI n s) {g : Q4} (hg : vG n g = true) (h1 : arity g.1 = 1) : Sim n.toNat (fl4 (puF s g)) (fl4 s ++ [g]) := by
 obtain ⟨o, p0, p1, p2, p3⟩ := s
 obtain ⟨k0, ⟨k1, k2⟩, k3, k4⟩ := h
 simp only at k0 k1 k2 k3 k4
 have hr := vG_one hg h1
 have hR := vG_r1 hg h1
 have hp : ∀ q ∈ [g], R1 g.2.1 q := fun q hq => by
  simp only [List.mem_cons, List.not_mem_nil, or_false] at hq
  subst hq
  exact hR
 have nl : ∀ q ∈ ([] : List Q4), gok n.toNat q := fun q hq => by simp at hq
 unfold puF fl4
 split
 ·rename_i e; rw [e] at hp
  have := mv_sim (n := n.toNat) (o := o ++ p0) (A := p1 ++ (p2 ++ p3)) (R := []) hp (app_all (vp_off (by decide) k2) (app_all (vp_off (by decide) k3) (vp_off (by decide) k4))) (Sim.refl _ _) nl
  simp only [List.append_assoc, List.append_nil] at this ⊢
  exact this
 split
 ·rename_i e; rw [e] at hp
  have := mv_sim (n := n.toNat) (o := o ++ (p0 ++ p1)) (A := p2 ++ p3) (R := []) hp (app_all (vp_off (by decide) k3) (vp_off (by decide) k4)) (Sim.refl _ _) nl
  simp only [List.append_assoc, List.append_nil] at this ⊢
  exact this
 split
 ·rename_i e; rw [e] at hp
  have := mv_sim (n := n.toNat) (o := o ++ (p0 ++ (p1 ++ p2))) (A := p3) (R := []) hp (vp_off (by decide) k4) (Sim.refl _ _) nl
  simp only [List.append_assoc, List.append_nil] at this ⊢
  exact this
 ·simp only [List.append_assoc]
  exact Sim.refl _ _
theorem pu_tc (s : ST) (g : Q4) : tcF (fl4 (puF s g)) = tcF (fl4 s ++ [g]) ∧ rcF (fl4 (puF s g)) = rcF (fl4 s ++ [g]) := by
 obtain ⟨o, p0, p1, p2, p3⟩ := s
 unfold puF fl4
 (repeat' split) <;> simp only [tc_append, rc_append] <;> omega
def pend (s : ST) (a : Int) : List Q4 := if a = 0 then s.2.1 else if a = 1 then s.2.2.1 else if a = 2 then s.2.2.2.1 else s.2.2.2.2
theorem em_pend (s : ST) {q a : Int} (hq : 0 ≤ q ∧ q ≤ 3) (ha : 0 ≤ a ∧ a ≤ 3) : pend (emF s q) a = if a = q then [] else pend s a := by
 have h1 : q = 0 ∨ q = 1 ∨ q = 2 ∨ q = 3 := by omega
 have h2 : a = 0 ∨ a = 1 ∨ a = 2 ∨ a = 3 := by omega
 rcases h1 with rfl | rfl | rfl | rfl <;> rcases h2 with rfl | rfl | rfl | rfl <;> rfl
theorem ems_pend : ∀ (l : List Int) (s : ST) {a : Int}, (∀ q ∈ l, 0 ≤ q ∧ q ≤ 3) → (0 ≤ a ∧ a ≤ 3) → (a ∈ l ∨ pend s a = []) → pend (l.foldl emF s) a = []
 | [], s, a, _, _, h => by
  rcases h with h | h
  ·simp at h
  ·exact h
 | q :: l, s, a, hl, ha, h => by
  rw [List.foldl_cons]
  refine ems_pend l _ (fun x hx => hl x (List.mem_cons_of_mem _ hx)) ha ?_
  rw [em_pend s (hl q (List.mem_cons_self ..)) ha]
  by_cases e : a = q
  ·exact Or.inr (if_pos e)
  ·rw [if_neg e]
   rcases h with h | h
   ·rcases List.mem_cons.1 h with h | h
    ·exact absurd h e
    ·exact Or.inl h
   ·exact Or.inr h
/-- A gate of several places does not touch the others. -/
theorem gq_off {n : Int} {g : Q4} (h : vG n g = true) (h1 : arity g.1 ≠ 1) {a : Int} (ha : 0 ≤ a) (hn : a ∉ gqF g) : off a.toNat g := by
 obtain ⟨k, x, y, z⟩ := g
 obtain ⟨_, hx, h3⟩ := ivg_cases h
 simp only at hx h3
 unfold gqF arity at hn
 rcases h3 with ⟨g1, g2, g3⟩ | ⟨g1, g2, g3, g4⟩ | ⟨g1, g2, g3⟩
 ·exfalso; apply h1; unfold arity; rw [if_pos g1]
 ·simp only at hn
  rw [if_neg (by omega), if_pos g1] at hn
  simp at hn
  exact ⟨fun e => hn.1 (by simp only at e; omega), fun _ e => hn.2 (by simp only at e; omega), fun e => by simp only at e; omega⟩
 ·simp only at hn
  rw [if_neg (by omega), if_neg (by omega), if_pos g1] at hn
  simp at hn
  exact ⟨fun e => hn.1 (by simp only at e; omega), fun _ e => hn.2.1 (by simp only at e; omega), fun _ e => hn.2.2 (by simp only at e; omega)⟩
theorem com_or {a : Int} {g : Q4} {p : List Q4} (hp : ∀ q ∈ p, R1 a q) (h : p = [] ∨ off a.toNat g) (f : Amp) : gz g (gzs p f) = gzs p (gz g f) := by
 rcases h with rfl | h
 ·rfl
 ·exact com_one h p hp f
theorem out_sim {n : Int} {s : ST} (h : PI n s) {g : Q4} (hc0 : (s.2.1 = [] ∨ off (0 : Int).toNat g) ∧ (s.2.2.1 = [] ∨ off (1 : Int).toNat g)) (hc2 : (s.2.2.2.1 = [] ∨ off (2 : Int).toNat g) ∧ (s.2.2.2.2 = [] ∨ off (3 : Int).toNat g)) : Sim n.toNat (fl4 (outF s g)) (fl4 s ++ [g]) := by
 obtain ⟨o, p0, p1, p2, p3⟩ := s
 obtain ⟨k0, ⟨k1, k2⟩, k3, k4⟩ := h
 simp only at k0 k1 k2 k3 k4 hc0 hc2
 refine eqv_sim (fun f => ?_) ?_
 ·unfold outF fl4
  simp only [gzs_append]
  show gzs p3 (gzs p2 (gzs p1 (gzs p0 (gz g (gzs o f))))) = gz g (gzs p3 (gzs p2 (gzs p1 (gzs p0 (gzs o f)))))
  rw [com_or (fun q hq => (k4 q hq).1) hc2.2, com_or (fun q hq => (k3 q hq).1) hc2.1, com_or (fun q hq => (k2 q hq).1) hc0.2, com_or (fun q hq => (k1 q hq).1) hc0.1]
 ·unfold outF fl4
  simp only [hc_append]
  omega
theorem out_tc (s : ST) (g : Q4) : tcF (fl4 (outF s g)) = tcF (fl4 s ++ [g]) ∧ rcF (fl4 (outF s g)) = rcF (fl4 s ++ [g]) := by
 obtain ⟨o, p0, p1, p2, p3⟩ := s
 unfold outF fl4
 simp only [tc_append, rc_append]
 omega
/-- What a state stands for. -/
def Les (n : Int) (s : ST) (pre : List Q4) : Prop := (Sim n.toNat (fl4 s) pre ∧ PI n s) ∧ tcF (fl4 s) ≤ tcF pre ∧ rcF (fl4 s) ≤ rcF pre
theorem em_les {n : Int} {s : ST} {pre : List Q4} (h : Les n s pre) (hs : szS s ≤ 3145728) (q : Int) : Les n (emF s q) pre := by
 obtain ⟨⟨h1, h2⟩, h3, h4⟩ := h
 obtain ⟨t1, t2⟩ := em_tc hs q
 exact ⟨⟨(em_sim h2 hs q).trans h1, em_pi h2 hs q⟩, by omega, by omega⟩
theorem ems_les {n : Int} {pre : List Q4} : ∀ (l : List Int) (s : ST), Les n s pre → szS s ≤ 3145728 → Les n (l.foldl emF s) pre
 | [], s, h, _ => h
 | q :: l, s, h, hs => ems_les l (emF s q) (em_les h hs q) (Nat.le_trans (em_sz s q hs) hs)
theorem stp_les {n : Int} {s : ST} {pre : List Q4} (h : Les n s pre) (hs : szS s ≤ 3145728) {g : Q4} (hg : vG n g = true) : Les n (stpF s g) (pre ++ [g]) := by
 have hgk : ∀ q ∈ [g], gok n.toNat q := fun q hq => by
  simp only [List.mem_cons, List.not_mem_nil, or_false] at hq
  subst hq
  exact vG_gok hg
 unfold stpF
 split
 ·rename_i h1
  obtain ⟨⟨k1, k2⟩, k3, k4⟩ := h
  obtain ⟨t1, t2⟩ := pu_tc s g
  refine ⟨⟨(pu_sim k2 hg h1).trans (k1.post hgk), pu_pi k2 hg h1⟩, ?_, ?_⟩
  ·rw [t1, tc_append, tc_append]; omega
  ·rw [t2, rc_append, rc_append]; omega
 ·rename_i h1
  have hr := vG_rng hg
  have hp : ∀ a : Int, (0 ≤ a ∧ a ≤ 3) → (pend ((gqF g).foldl emF s) a = [] ∨ off a.toNat g) := fun a ha => by
   by_cases e : a ∈ gqF g
   ·exact Or.inl (ems_pend (gqF g) s hr ha (Or.inl e))
   ·exact Or.inr (gq_off hg h1 ha.1 e)
  have q0 := hp 0 (by omega)
  have q1 := hp 1 (by omega)
  have q2 := hp 2 (by omega)
  have q3 := hp 3 (by omega)
  have hL := ems_les (gqF g) s h hs
  generalize (gqF g).foldl emF s = t at q0 q1 q2 q3 hL
  obtain ⟨⟨k1, k2⟩, k3, k4⟩ := hL
  obtain ⟨t1, t2⟩ := out_tc t g
  refine ⟨⟨(out_sim k2 ⟨q0, q1⟩ ⟨q2, q3⟩).trans (k1.post hgk), ?_⟩, ?_, ?_⟩
  ·obtain ⟨a0, a1, a2⟩ := k2
   refine ⟨app_all a0 (fun q hq => ?_), a1, a2⟩
   simp only [List.mem_cons, List.not_mem_nil, or_false] at hq
   subst hq
   exact hg
  ·rw [t1, tc_append, tc_append]; omega
  ·rw [t2, rc_append, rc_append]; omega
theorem run_les {n : Int} : ∀ (l : List Q4) (s : ST) (pre : List Q4) (k : Nat), k + l.length ≤ 1048576 → szS s ≤ 3 * k → Les n s pre → (∀ g ∈ l, vG n g = true) → Les n (l.foldl stpF s) (pre ++ l)
 | [], s, pre, k, _, _, h, _ => by rw [List.append_nil]; exact h
 | g :: l, s, pre, k, hl, hs, h, hv => by
  simp only [List.length_cons] at hl
  have h1 := stp_sz s g (by omega)
  have := run_les l (stpF s g) (pre ++ [g]) (k + 1) (by omega) (by omega) (stp_les h (by omega) (hv g (List.mem_cons_self ..))) (fun x hx => hv x (List.mem_cons_of_mem _ hx))
  rw [List.append_assoc] at this
  exact this
theorem end_fl (s : ST) : fl4 (emF (emF (emF (emF s 0) 1) 2) 3) = endF s := by
 obtain ⟨o, p0, p1, p2, p3⟩ := s
 show _ ++ ([] ++ ([] ++ ([] ++ []))) = _
 simp only [List.append_nil]
 rfl
def s0T : ST := ([], [], [], [], [])
theorem s0_les (n : Int) : Les n s0T [] := ⟨⟨Sim.refl _ _, fun q hq => by simp [s0T] at hq, ⟨vp_nil n 0, vp_nil n 1⟩, vp_nil n 2, vp_nil n 3⟩, Nat.le_refl _, Int.le_refl _⟩
/-- Shortened runs perform the same operation up to a phase, with not more T gates and at no more cost. -/
theorem srs_les {n : Int} {l : List Q4} (hl : l.length ≤ 1048576) (hv : ∀ g ∈ l, vG n g = true) : (Sim n.toNat (srsF n l) l ∧ ∀ q ∈ srsF n l, vG n q = true) ∧ tcF (srsF n l) ≤ tcF l ∧ rcF (srsF n l) ≤ rcF l := by
 have e : srsF n l = endF (l.foldl stpF s0T) := by unfold srsF; rw [if_pos (List.all_eq_true.2 hv)]; rfl
 have h := run_les (n := n) l s0T [] 0 (by omega) (by simp [szS, s0T]) (s0_les n) hv
 have hz := run_sz l s0T 0 (by omega) (by simp [szS, s0T])
 rw [e]
 generalize l.foldl stpF s0T = s at h hz
 have b0 := em_sz s 0 (by omega)
 have b1 := em_sz (emF s 0) 1 (by omega)
 have b2 := em_sz (emF (emF s 0) 1) 2 (by omega)
 have hE := em_les (em_les (em_les (em_les h (by omega) 0) (by omega) 1) (by omega) 2) (by omega) 3
 obtain ⟨⟨k1, k2⟩, k3, k4⟩ := hE
 rw [end_fl] at k1 k3 k4
 exact ⟨⟨k1, k2.1⟩, k3, k4⟩
def wt (s : ST) : Nat := 2 * hc s.1 + 3 * (s.2.1.length + s.2.2.1.length + s.2.2.2.1.length + s.2.2.2.2.length)
theorem em_wt {s : ST} (hs : szS s ≤ 3145728) (q : Int) : wt (emF s q) ≤ wt s := by
 obtain ⟨o, p0, p1, p2, p3⟩ := s
 unfold szS at hs
 simp only at hs
 have h0 := sr_hc (g := p0) (by omega)
 have h1 := sr_hc (g := p1) (by omega)
 have h2 := sr_hc (g := p2) (by omega)
 have h3 := sr_hc (g := p3) (by omega)
 unfold emF wt
 (repeat' split) <;> simp only [hc_append, List.length_nil] <;> omega
theorem ems_wt : ∀ (l : List Int) (s : ST), szS s ≤ 3145728 → wt (l.foldl emF s) ≤ wt s
 | [], s, _ => Nat.le_refl _
 | q :: l, s, hs => Nat.le_trans (ems_wt l (emF s q) (Nat.le_trans (em_sz s q hs) hs)) (em_wt hs q)
theorem stp_wt {s : ST} (hs : szS s ≤ 3145728) (g : Q4) : wt (stpF s g) ≤ wt s + 3 := by
 unfold stpF
 split
 ·unfold puF wt
  (repeat' split) <;> simp only [List.length_append, List.length_cons, List.length_nil] <;> omega
 ·rename_i h1
  have h4 : g.1 ≠ 4 := fun e => h1 (by rw [e]; rfl)
  have := ems_wt (gqF g) s hs
  generalize (gqF g).foldl emF s = t at this
  have e : hc [g] = 0 := by unfold hc hc; rw [if_neg h4]
  unfold outF wt at *
  simp only [hc_append, e]
  omega
theorem run_wt : ∀ (l : List Q4) (s : ST) (k : Nat), k + l.length ≤ 1048576 → szS s ≤ 3 * k → wt (l.foldl stpF s) ≤ wt s + 3 * l.length
 | [], s, k, _, _ => Nat.le_refl _
 | g :: l, s, k, hl, hs => by
  simp only [List.length_cons] at hl ⊢
  have h1 := stp_sz s g (by omega)
  have h2 := stp_wt (s := s) (by omega) g
  have := run_wt l (stpF s g) (k + 1) (by omega) (by omega)
  rw [List.foldl_cons]
  omega
theorem xs_run : ∀ (xs : List Q4) (s : ST), (∀ q ∈ xs, q = ((1, 0, 0, 0) : Q4)) → xs.foldl stpF s = (s.1, s.2.1 ++ xs, s.2.2.1, s.2.2.2.1, s.2.2.2.2)
 | [], s, _ => by simp
 | q :: xs, s, h => by
  have hq := h q (List.mem_cons_self ..)
  subst hq
  rw [List.foldl_cons, xs_run xs _ (fun x hx => h x (List.mem_cons_of_mem _ hx))]
  show (s.1, (s.2.1 ++ [(1, 0, 0, 0)]) ++ xs, s.2.2.1, s.2.2.2.1, s.2.2.2.2) = _
  rw [List.append_assoc]
  rfl
theorem srs_hc {n : Int} {co xs : List Q4} (hl : (co ++ xs).length ≤ 1048576) (hco : co.length ≤ 15) (hx : ∀ q ∈ xs, q = ((1, 0, 0, 0) : Q4)) (hv : ∀ g ∈ co ++ xs, vG n g = true) : hc (srsF n (co ++ xs)) ≤ 24 := by
 have e : srsF n (co ++ xs) = endF (xs.foldl stpF (co.foldl stpF s0T)) := by
  unfold srsF; rw [if_pos (List.all_eq_true.2 hv), List.foldl_append]; rfl
 have hw := run_wt co s0T 0 (by omega) (by simp [szS, s0T])
 have hz := run_sz co s0T 0 (by omega) (by simp [szS, s0T])
 rw [e, xs_run xs _ hx]
 generalize co.foldl stpF s0T = s at hw hz
 obtain ⟨o, p0, p1, p2, p3⟩ := s
 have ew : wt s0T = 0 := rfl
 unfold szS at hz
 unfold wt at hw
 rw [List.length_append] at hl
 simp only at hw hz
 have e0 : wt s0T = 0 := rfl
 unfold wt at e0
 have h0 := sr_hx (p := p0) (xs := xs) (by rw [List.length_append]; omega) (fun q hq => by rw [hx q hq])
 have h1 := sr_hc (g := p1) (by omega)
 have h2 := sr_hc (g := p2) (by omega)
 have h3 := sr_hc (g := p3) (by omega)
 show hc ((((o ++ srF (p0 ++ xs)) ++ srF p1) ++ srF p2) ++ srF p3) ≤ 24
 simp only [hc_append]
 omega
end Go.Proofs.YtfjopjalhllplaaGreat
