/- Plain laws: one qubit: a row of gates and the gates of its normal form do the same, up to a phase; and only one normal form does. -/
import Derived.Test.YtfjopjalhllplaaGreatK15
import Derived.Test.YtfjopjalhllplaaGreatK17
import Derived.Test.YtfjopjalhllplaaGreatKPnb
namespace Go.Proofs.YtfjopjalhllplaaGreat
open Go.RowKit
set_option maxRecDepth 100000
set_option linter.unusedVariables false
set_option linter.unusedSimpArgs false
def siW (l : List Q4) : Bool := ([1, 2, 3, 4, 5, 6] : List Int).all fun k => simB 1 (wdF (laF (k, 0, 0, 0) l)) (wdF l ++ [(k, 0, 0, 0)])
def siT (l : List Q4) : Bool := let t := t1F l; simB 1 (syl t.1 ++ wdF t.2) (wdF l ++ [(7, 0, 0, 0)]) && (t.1 != 0 || ([0, 1, 2] : List Int).all fun m => simB 1 (wdF (t2F t.2 m)) (syl m ++ (wdF l ++ [(7, 0, 0, 0)])))
def siD (l : List Q4) : Bool := let t := t1F (sdF l); simB 1 (syl t.1 ++ wdF t.2) (wdF l ++ [(8, 0, 0, 0)]) && (t.1 != 0 || ([0, 1, 2] : List Int).all fun m => simB 1 (wdF (t2F t.2 m)) (syl m ++ (wdF l ++ [(8, 0, 0, 0)])))
def siP (l : List Q4) : Bool := !simB 1 (wdF l) [] || l == idT 1
theorem si_fin : (ZL.all fun p => (siW p.2 && siT p.2) && (siD p.2 && siP p.2)) = true := by decide +kernel
theorem syl_eq (k : Int) : syl k = syF k := rfl
theorem g1_form {q : Q4} (h : G1 q) : ∃ k : Int, q = (k, 0, 0, 0) ∧ 1 ≤ k ∧ k ≤ 8 := by
 obtain ⟨k, a, b, c⟩ := q
 obtain ⟨_, h2, h3⟩ := ivg_cases h
 simp only at h2 h3
 rcases h3 with ⟨g1, g2, g3⟩ | ⟨g1, g2, g3, g4⟩ | ⟨g1, g2, g3⟩
 ·refine ⟨k, ?_, g1⟩
  have : a = 0 := by omega
  rw [this, g2, g3]
 ·omega
 ·omega
theorem g1_gok {q : Q4} (h : G1 q) : gok 1 q := by
 obtain ⟨k, a, b, c⟩ := q
 exact ivg_gok (n := 1) h
theorem c1_form {q : Q4} (h : C1 q = true) : ∃ k : Int, q = (k, 0, 0, 0) ∧ (k = 1 ∨ k = 2 ∨ k = 3 ∨ k = 4 ∨ k = 5 ∨ k = 6) := by
 obtain ⟨k, rfl, h1, h2⟩ := g1_form (c1_g1 h)
 refine ⟨k, rfl, ?_⟩
 unfold C1 clif at h
 simp at h
 omega
theorem rep_g1 {k : Int} (hk : 0 ≤ k ∧ k ≤ 2) : ∀ q ∈ syl k, G1 q := by
 intro q hq
 rw [syl_eq] at hq
 unfold syF at hq
 rcases List.mem_append.1 hq with hq | hq
 ·exact c1_g1 ((rep_at hk).1 q hq)
 ·simp only [List.mem_cons, List.not_mem_nil, or_false] at hq
  subst hq
  unfold G1; decide
theorem wd_g1 {l : List Q4} (ht : tB 1 l = true) : ∀ q ∈ wdF l, G1 q := fun q hq => c1_g1 ((wd_run (y := []) ht).2 q hq)
theorem app_g1 {A B : List Q4} (hA : ∀ q ∈ A, G1 q) (hB : ∀ q ∈ B, G1 q) : ∀ q ∈ A ++ B, G1 q := fun q hq => (List.mem_append.1 hq).elim (hA q) (hB q)
theorem one_g1 {k : Int} (hk : 1 ≤ k ∧ k ≤ 8) : ∀ q ∈ [((k, 0, 0, 0) : Q4)], G1 q := by
 intro q hq
 simp only [List.mem_cons, List.not_mem_nil, or_false] at hq
 subst hq
 have : k = 1 ∨ k = 2 ∨ k = 3 ∨ k = 4 ∨ k = 5 ∨ k = 6 ∨ k = 7 ∨ k = 8 := by omega
 rcases this with rfl | rfl | rfl | rfl | rfl | rfl | rfl | rfl <;> (unfold G1; decide)
theorem sim1 {A B : List Q4} (hA : ∀ q ∈ A, G1 q) (hB : ∀ q ∈ B, G1 q) (h : simB 1 A B = true) : Sim 1 A B := sim_of (fun q hq => g1_gok (hA q hq)) (fun q hq => g1_gok (hB q hq)) h
theorem si_at {l : List Q4} (ht : tB 1 l = true) : (siW l = true ∧ siT l = true) ∧ siD l = true ∧ siP l = true := by
 obtain ⟨p, hp, h1, h2⟩ := cwF_ok ht
 have := List.all_eq_true.1 si_fin p hp
 simp only [Bool.and_eq_true, h1] at this
 exact this
theorem fm_snoc (y : List Int) (k : Int) : (y ++ [k]).flatMap syF = y.flatMap syF ++ syl k := by rw [List.flatMap_append]; simp [syl_eq]
/-- A T gate (or its inverse) behind a normal form, by what the tables say. -/
theorem nt_sim {y : List Int} {l l' : List Q4} (hv : SV y) (ht : tB 1 l = true) (ht' : tB 1 l' = true) {k : Int} (hk : 1 ≤ k ∧ k ≤ 8)
  (h1 : simB 1 (syl (t1F l').1 ++ wdF (t1F l').2) (wdF l ++ [(k, 0, 0, 0)]) = true) (h2 : ((t1F l').1 != 0 || ([0, 1, 2] : List Int).all fun m => simB 1 (wdF (t2F (t1F l').2 m)) (syl m ++ (wdF l ++ [(k, 0, 0, 0)]))) = true) :
  Sim 1 (nfgF (ntF y l').1 (ntF y l').2) (nfgF y l ++ [(k, 0, 0, 0)]) := by
 have hy : y.length ≤ 2000000 ∨ True := Or.inr trivial
 have htd : tB 1 (t1F l').2 = true ∧ ∀ m : Int, 0 ≤ m ∧ m ≤ 2 → (t1F l').1 = 0 → tB 1 (t2F (t1F l').2 m) = true := by
  constructor
  ·by_cases h0 : (t1F l').1 = 0
   ·have := (nt_ok (y := []) (l := l') (by simp) sv_nil ht').2.2.2.1
    unfold ntF at this
    rw [if_neg (by simp)] at this
    exact this
   ·have := (nt_ok (y := []) (l := l') (by simp) sv_nil ht').2.2.2.1
    unfold ntF at this
    rw [if_neg (by simp)] at this
    exact this
  ·intro m hm h0
   have hs : SV [m] := by have := sv_push sv_nil hm (by simp); simpa using this
   have := (nt_ok (y := [m]) (l := l') (by simp) hs ht').2.2.2.1
   unfold ntF at this
   rw [if_pos ⟨h0, by simp⟩] at this
   exact this
 have hb := t1_bd ht'
 unfold ntF
 by_cases hc : (t1F l').1 = 0 ∧ 1 ≤ y.length
 ·rw [if_pos hc]
  obtain ⟨h0, hl⟩ := hc
  have hlast : y.length - 1 < y.length := by omega
  have hq : y[y.length - 1]? = some y[y.length - 1] := List.getElem?_eq_getElem hlast
  have hm := hv.1 _ _ hq
  have ey : y = y.take (y.length - 1) ++ [y[y.length - 1]] := by
   have e1 : y.take (y.length - 1 + 1) = y.take (y.length - 1) ++ [y[y.length - 1]] := by rw [List.take_add_one, hq]; rfl
   rw [show y.length - 1 + 1 = y.length by omega, List.take_length] at e1
   exact e1
  rw [hq, Option.getD_some]
  generalize y[y.length - 1] = m at *
  have e : nfgF y l ++ [(k, 0, 0, 0)] = (y.take (y.length - 1)).flatMap syF ++ (syl m ++ (wdF l ++ [(k, 0, 0, 0)])) := by
   unfold nfgF
   conv => lhs; rw [ey]
   rw [fm_snoc, List.append_assoc, List.append_assoc]
  rw [e]
  unfold nfgF
  refine Sim.pre ?_ _
  have hz : ((t1F l').1 != 0) = false := by rw [h0]; rfl
  rw [hz, Bool.false_or] at h2
  have hmm : m ∈ ([0, 1, 2] : List Int) := by
   have : m = 0 ∨ m = 1 ∨ m = 2 := by omega
   simpa using this
  exact sim1 (wd_g1 (htd.2 m hm h0)) (app_g1 (rep_g1 hm) (app_g1 (wd_g1 ht) (one_g1 hk))) (List.all_eq_true.1 h2 m hmm)
 ·rw [if_neg hc]
  unfold nfgF
  rw [fm_snoc, List.append_assoc, List.append_assoc]
  exact Sim.pre (sim1 (app_g1 (rep_g1 hb) (wd_g1 htd.1)) (app_g1 (wd_g1 ht) (one_g1 hk)) h1) _
theorem nf_step {y : List Int} {l : List Q4} {q : Q4} (hv : SV y) (ht : tB 1 l = true) (hg : G1 q) : Sim 1 (nfgF (naF q.1 q.2.1 q.2.2.1 (y, l)).1 (naF q.1 q.2.1 q.2.2.1 (y, l)).2) (nfgF y l ++ [q]) := by
 obtain ⟨k, rfl, h1, h8⟩ := g1_form hg
 obtain ⟨⟨hW, hT⟩, hD, _⟩ := si_at ht
 by_cases h7 : k = 7
 ·subst h7
  unfold siT at hT
  simp only [Bool.and_eq_true] at hT
  exact nt_sim hv ht ht (by omega) hT.1 hT.2
 by_cases h88 : k = 8
 ·subst h88
  unfold siD at hD
  simp only [Bool.and_eq_true] at hD
  exact nt_sim hv ht (sd_tB ht) (by omega) hD.1 hD.2
 ·have hC : C1 (k, 0, 0, 0) = true := by
   have : k = 1 ∨ k = 2 ∨ k = 3 ∨ k = 4 ∨ k = 5 ∨ k = 6 := by omega
   rcases this with rfl | rfl | rfl | rfl | rfl | rfl <;> decide
  have e : naF k 0 0 (y, l) = (y, laF (k, 0, 0, 0) l) := by
   unfold naF
   rw [if_neg h7, if_neg h88, la_eq ht hC]
  have hl := la_tB ht hC
  show Sim 1 (nfgF (naF k 0 0 (y, l)).1 (naF k 0 0 (y, l)).2) (nfgF y l ++ [(k, 0, 0, 0)])
  rw [e]
  unfold nfgF
  rw [List.append_assoc]
  refine Sim.pre (sim1 (wd_g1 hl) (app_g1 (wd_g1 ht) (one_g1 ⟨h1, h8⟩)) ?_) _
  unfold siW at hW
  refine List.all_eq_true.1 hW k ?_
  have : k = 1 ∨ k = 2 ∨ k = 3 ∨ k = 4 ∨ k = 5 ∨ k = 6 := by omega
  simpa using this
theorem na_keep {y : List Int} {l : List Q4} {q : Q4} (hv : SV y) (ht : tB 1 l = true) (hg : G1 q) (hy : y.length ≤ 1048576) : SV (naF q.1 q.2.1 q.2.2.1 (y, l)).1 ∧ tB 1 (naF q.1 q.2.1 q.2.2.1 (y, l)).2 = true ∧ (naF q.1 q.2.1 q.2.2.1 (y, l)).1.length ≤ y.length + 1 := by
 obtain ⟨_, _, h3, h4, h5, _⟩ := na_ok hy hv ht hg
 exact ⟨h3, h4, h5⟩
theorem nf_run : ∀ (g : List Q4) (y : List Int) (l : List Q4), (∀ q ∈ g, G1 q) → SV y → tB 1 l = true → y.length + g.length ≤ 1048576 → Sim 1 (nfgF (fo g (y, l)).1 (fo g (y, l)).2) (nfgF y l ++ g)
 | [], y, l, _, _, _, _ => by rw [List.append_nil]; exact Sim.refl _ _
 | q :: g, y, l, hg, hv, ht, hy => by
  simp only [List.length_cons] at hy
  obtain ⟨k1, k2, k3⟩ := na_keep hv ht (hg q (List.mem_cons_self ..)) (by omega)
  have h1 := nf_run g _ _ (fun x hx => hg x (List.mem_cons_of_mem _ hx)) k1 k2 (by omega)
  have h2 := (nf_step hv ht (hg q (List.mem_cons_self ..))).post (C := g) (fun x hx => g1_gok (hg x (List.mem_cons_of_mem _ hx)))
  rw [fo_cons]
  rw [show nfgF y l ++ q :: g = nfgF y l ++ [q] ++ g by simp]
  exact h1.trans h2
theorem nf0 : nfgF [] (idT 1) = [] := by decide +kernel
/-- The gates of the normal form do the same as the row. -/
theorem nf_sim {g : List Q4} (hg : ∀ q ∈ g, G1 q) (hl : g.length ≤ 1048576) : Sim 1 (nfgF (fo g S0).1 (fo g S0).2) g := by
 have := nf_run g [] (idT 1) hg sv_nil id1 (by simpa using hl)
 rw [nf0] at this
 exact this
end Go.Proofs.YtfjopjalhllplaaGreat
