/- Plain laws: Clifford gates lead X and Z of each qubit to their images, on up to four qubits. -/
import Derived.Test.YtflfodcgoffjkaaKPvg
namespace Go.Proofs.Ytflfodcgoffjkaa
open Go.RowKit
set_option maxRecDepth 100000
set_option linter.unusedVariables false
set_option linter.unusedSimpArgs false
theorem pa_dl {N : Int} (p : Gp N) (c i : Nat) : paQ p.q (dl c) i = mlz (phz (pe p.q c)) (dl (pix p.q c) i) := by
  unfold paQ dl
  by_cases h : pix p.q i = c
  · rw [if_pos h, if_pos (by rw [← h, pix_pix]), h]
  · rw [if_neg h, if_neg (fun e => h (by rw [e, pix_pix])), mlz_0r, mlz_0r]
theorem gz_dl {n : Nat} {q : GQ} (h : gok n q) (h4 : q.1 ≠ 4) (c r : Nat) : gz q (dl c) r = mlz (oz (mvP q c)) (dl (mvA q c) r) := by
  unfold gz dl
  rw [if_neg h4]
  by_cases e : mvA q r = c
  · rw [if_pos e, if_pos (by rw [← e, mvA_inv h]), e]
  · rw [if_neg e, if_neg (fun e' => e (by rw [e', mvA_inv h])), mlz_0r, mlz_0r]
def cjN (N k a b : Nat) (e i : Q4) : Bool := (List.range (2 ^ N)).all fun c => mvA ((k : Int), (a : Int), (b : Int), 0) (pix e c) == pix i (mvA ((k : Int), (a : Int), (b : Int), 0) c) &&
  (2 * pe e c + mvP ((k : Int), (a : Int), (b : Int), 0) (pix e c)) % 8 == (mvP ((k : Int), (a : Int), (b : Int), 0) c + 2 * pe i (mvA ((k : Int), (a : Int), (b : Int), 0) c)) % 8
def cjB (N k a b : Nat) : Bool := (List.range N).all fun j => cjN N k a b (eX N j) (iQ N k a b j false) && cjN N k a b (eZ N j) (iQ N k a b j true)
theorem cj_fin : ∀ k : Fin 12, ∀ a b : Fin 4, ∀ N : Fin 5, (clif k.val && (k.val != 4 && ivg k.val a.val b.val 0 N.val)) = true → cjB N.val k.val a.val b.val = true := by decide +kernel
def hiB' (N a : Nat) : Bool := (List.range N).all fun j => iQ N 4 a 0 j false == (if j = a then eZ N j else eX N j) && iQ N 4 a 0 j true == (if j = a then eX N j else eZ N j)
theorem hi_fin : ∀ N : Fin 5, ∀ a : Fin 4, (decide (N.val ≤ a.val) || hiB' N.val a.val) = true := by decide +kernel
theorem ez_fin : ∀ j : Fin 4, ∀ c : Fin 16, (2 * pc (an (2 ^ j.val) (c.val : Int))).toNat % 4 = if c.val.testBit j.val = true then 2 else 0 := by decide +kernel
theorem pa_eX (N : Int) (j : Nat) (f : Amp) (r : Nat) : paQ (eX N j) f r = f (r ^^^ 2 ^ j) := by
  unfold paQ eX
  have e1 : pix (N, 2 ^ j, 0, 0) r = r ^^^ 2 ^ j := by
    unfold pix
    simp only
    rw [show ((2 : Int) ^ j).toNat = 2 ^ j by rw [show (2 : Int) ^ j = ((2 ^ j : Nat) : Int) by simp, Int.toNat_natCast]]
  have e2 : ∀ c, pe (N, 2 ^ j, 0, 0) c = 0 := fun c => by unfold pe; simp only; rw [zero_an, pc_zero]; rfl
  rw [e1, e2]
  exact mlz_1l _
theorem pa_eZ (N : Int) {j : Nat} (hj : j < 4) (f : Amp) {r : Nat} (hr : r < 16) : paQ (eZ N j) f r = if r.testBit j = true then ngz (f r) else f r := by
  unfold paQ eZ
  have e1 : pix (N, 0, 2 ^ j, 0) r = r := by unfold pix; simp
  have e2 : pe (N, 0, 2 ^ j, 0) r % 4 = if r.testBit j = true then 2 else 0 := by
    unfold pe
    simp only
    rw [Int.zero_add]
    exact ez_fin ⟨j, hj⟩ ⟨r, hr⟩
  rw [e1, phz_congr (b := pe (N, 0, 2 ^ j, 0) r % 4) (by omega), e2]
  split
  · rw [ngz_ml]; rfl
  · exact mlz_1l _
theorem xor_swap (r a b : Nat) : r ^^^ a ^^^ b = r ^^^ b ^^^ a := by rw [Nat.xor_assoc, Nat.xor_comm a b, ← Nat.xor_assoc]
theorem ngz_ngz (x : Z4) : ngz (ngz x) = x := by unfold ngz; simp
theorem ngz_adz (x y : Z4) : ngz (adz x y) = adz (ngz x) (ngz y) := by rw [ngz_ml, ngz_ml, ngz_ml, mlz_add]
/-- H, and X or Z. -/
theorem hX_same (N : Int) (a : Nat) (f : Amp) (r : Nat) : gz (4, (a : Int), 0, 0) (fun i => f (i ^^^ 2 ^ a)) r = if r.testBit a = true then ngz (gz (4, (a : Int), 0, 0) f r) else gz (4, (a : Int), 0, 0) f r := by
  unfold gz
  simp only [if_true, Int.toNat_natCast]
  cases hb : r.testBit a
  · simp only [Bool.false_eq_true, if_false, xx]; exact adz_comm ..
  · simp only [if_true, xx]; rw [ngz_adz, ngz_ngz, adz_comm]
theorem hX_other (N : Int) {a j : Nat} (h : a ≠ j) (f : Amp) (r : Nat) : gz (4, (a : Int), 0, 0) (fun i => f (i ^^^ 2 ^ j)) r = gz (4, (a : Int), 0, 0) f (r ^^^ 2 ^ j) := by
  unfold gz
  simp only [if_true, Int.toNat_natCast]
  rw [tb_ne h, xor_swap r (2 ^ a)]
theorem hZ_other {a j : Nat} (h : j ≠ a) (f : Amp) (r : Nat) : gz (4, (a : Int), 0, 0) (fun i => if i.testBit j = true then ngz (f i) else f i) r = if r.testBit j = true then ngz (gz (4, (a : Int), 0, 0) f r) else gz (4, (a : Int), 0, 0) f r := by
  unfold gz
  simp only [if_true, Int.toNat_natCast, tb_ne h]
  cases r.testBit j
  · simp only [Bool.false_eq_true, if_false]
  · simp only [if_true]
    split
    · rw [ngz_adz]
    · rw [ngz_adz]
theorem hZ_same (a : Nat) (f : Amp) (r : Nat) : gz (4, (a : Int), 0, 0) (fun i => if i.testBit a = true then ngz (f i) else f i) r = gz (4, (a : Int), 0, 0) f (r ^^^ 2 ^ a) := by
  unfold gz
  simp only [if_true, Int.toNat_natCast, tb_eq, xx]
  cases hb : r.testBit a
  · simp only [Bool.false_eq_true, if_false, Bool.not_false, if_true]
  · simp only [if_true, Bool.not_true, Bool.false_eq_true, if_false, ngz_ngz]
/-- A Clifford gate leads a Pauli operator to its image. -/
theorem cj_gate {k a b c N : Int} (h : 1 ≤ N ∧ N ≤ 4) (h1 : clif k = true) (h2 : ivg k a b c N = true) (p : Gp N) : Cj [(k, a, b, c)] p (led h (gA h k a b) (gB h k a b) p) := by
  have hg := ivg_gok h2
  obtain ⟨rfl, _⟩ := gate_dom h1 h2
  have hL : ∀ q ∈ [((k, a, b, 0) : GQ)], gok N.toNat q := fun q hq => by
    simp only [List.mem_cons, List.not_mem_nil, or_false] at hq
    rw [hq]; exact hg
  obtain ⟨_, ha, hc⟩ := ivg_cases h2
  have hk : 1 ≤ k ∧ k ≤ 11 := by
    unfold clif at h1
    simp at h1
    exact h1.1
  have hb : 0 ≤ b ∧ b < N := by rcases hc with ⟨_, e, _⟩ | ⟨_, e, _⟩ | ⟨e, _⟩ <;> omega
  obtain ⟨k', rfl⟩ : ∃ k' : Nat, k = k' := ⟨k.toNat, by omega⟩
  obtain ⟨a', rfl⟩ : ∃ a' : Nat, a = a' := ⟨a.toNat, by omega⟩
  obtain ⟨b', rfl⟩ : ∃ b' : Nat, b = b' := ⟨b.toNat, by omega⟩
  obtain ⟨N', rfl⟩ : ∃ N' : Nat, N = N' := ⟨N.toNat, by omega⟩
  have h16 : 2 ^ ((N' : Int)).toNat ≤ 16 := by rcases four h with e | e | e | e <;> rw [e] <;> decide
  refine Cj.all hL h (fun j hj => ?_) p
  obtain ⟨_, _, g1, g2⟩ := img_g h h1 h2 (v := j) hj
  have eGX : (gpX h j).q = eX N' j := by unfold gpX; rw [dif_pos hj]
  have eGZ : (gpZ h j).q = eZ N' j := by unfold gpZ; rw [dif_pos hj]
  rw [Int.toNat_natCast] at hj
  by_cases h4 : k' = 4
  · subst h4
    have hb0 : b' = 0 := by rcases hc with ⟨_, e, _⟩ | ⟨e, _⟩ | ⟨e, _⟩ <;> omega
    subst hb0
    have hfin := hi_fin ⟨N', by omega⟩ ⟨a', by omega⟩
    rw [decide_eq_false (by simp only; omega), Bool.false_or] at hfin
    have hj' := List.all_eq_true.1 hfin j (List.mem_range.2 hj)
    rw [Bool.and_eq_true] at hj'
    have i1 := eq_of_beq hj'.1
    have i2 := eq_of_beq hj'.2
    simp only at i1 i2
    have c4 : (((4 : Nat)) : Int) = 4 := rfl
    have c0 : (((0 : Nat)) : Int) = 0 := rfl
    have g1' : (gA h ((4 : Nat) : Int) (a' : Int) ((0 : Nat) : Int) j).q = if j = a' then eZ N' j else eX N' j := g1.trans i1
    have g2' : (gB h ((4 : Nat) : Int) (a' : Int) ((0 : Nat) : Int) j).q = if j = a' then eX N' j else eZ N' j := g2.trans i2
    have one : ∀ (f : Amp), gzs [(((4 : Nat) : Int), (a' : Int), ((0 : Nat) : Int), 0)] f = gz (4, (a' : Int), 0, 0) f := fun f => by rw [c4, c0]; rfl
    constructor
    · intro f r hr
      rw [eGX, g1', one, one, show paQ (eX N' j) f = fun i => f (i ^^^ 2 ^ j) from funext (pa_eX _ j f)]
      by_cases e : j = a'
      · rw [if_pos e, pa_eZ _ (by omega) _ (by omega), e]
        exact hX_same N' a' f r
      · rw [if_neg e, pa_eX]
        exact hX_other N' (fun h => e h.symm) f r
    · intro f r hr
      rw [eGZ, g2']
      have ef : ∀ i, i < 2 ^ ((N' : Int)).toNat → paQ (eZ N' j) f i = (fun i => if i.testBit j = true then ngz (f i) else f i) i := fun i hi => pa_eZ _ (by omega) f (by omega)
      rw [gzs_congr hL ef hr, one, one]
      by_cases e : j = a'
      · rw [if_pos e, pa_eX, e]
        exact hZ_same a' f r
      · rw [if_neg e, pa_eZ _ (by omega) _ (by omega)]
        exact hZ_other e f r
  · have hfin := cj_fin ⟨k', by omega⟩ ⟨a', by omega⟩ ⟨b', by omega⟩ ⟨N', by omega⟩ (by simp only; rw [h1, h2]; simpa using h4)
    unfold cjB at hfin
    have hj' := List.all_eq_true.1 hfin j (List.mem_range.2 hj)
    rw [Bool.and_eq_true] at hj'
    have h4' : ((k' : Int), (a' : Int), (b' : Int), (0 : Int)).1 ≠ 4 := by simp only; omega
    have ev : ∀ {g i : Gp (N' : Int)} {gq iq : Q4}, g.q = gq → i.q = iq → cjN N' k' a' b' gq iq = true → Cj [((k' : Int), (a' : Int), (b' : Int), 0)] g i := by
      intro g i gq iq e1 e2 he
      refine cj_of hL fun c r hc hr => ?_
      rw [Int.toNat_natCast] at hc hr
      unfold cjN at he
      have := List.all_eq_true.1 he c (List.mem_range.2 hc)
      rw [Bool.and_eq_true, beq_iff_eq, beq_iff_eq, ← e1, ← e2] at this
      obtain ⟨t1, t2⟩ := this
      show gz ((k' : Int), (a' : Int), (b' : Int), 0) (paQ g.q (dl c)) r = paQ i.q (gz ((k' : Int), (a' : Int), (b' : Int), 0) (dl c)) r
      rw [show paQ g.q (dl c) = fun i => mlz (phz (pe g.q c)) (dl (pix g.q c) i) from funext (pa_dl g c), gz_mul, gz_dl hg h4',
        show gz ((k' : Int), (a' : Int), (b' : Int), 0) (dl c) = fun r => mlz (oz (mvP ((k' : Int), (a' : Int), (b' : Int), 0) c)) (dl (mvA ((k' : Int), (a' : Int), (b' : Int), 0) c) r) from funext (gz_dl hg h4' c), pa_smul, pa_dl, t1,
        ← mlz_assoc, ← mlz_assoc, oz_ph, oz_ph, oz_mul, oz_mul, oz_congr t2]
    exact ⟨ev eGX g1 hj'.1, ev eGZ g2 hj'.2⟩
end Go.Proofs.Ytflfodcgoffjkaa
