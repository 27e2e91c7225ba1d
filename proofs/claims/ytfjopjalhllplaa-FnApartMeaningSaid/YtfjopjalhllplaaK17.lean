/- Joined texts: Pvc Pvd Pve. -/
import Derived.Test.YtfjopjalhllplaaK6
import Derived.Test.YtfjopjalhllplaaK16
import Derived.Test.YtfjopjalhllplaaK15
import Derived.Test.YtfjopjalhllplaaK9
/- Plain laws: ApplyGate and ApplyGates of the reference, on states at a common exponent. -/
namespace Go.Proofs.Ytfjopjalhllplaa
open Go.RowKit
set_option maxRecDepth 100000
set_option linter.unusedVariables false
set_option linter.unusedSimpArgs false
/-- A state of D amplitudes at exponent K. -/
def vc (D K : Nat) (f : Amp) : List DQ := (List.range D).map fun i => dq K (f i)
theorem vc_len (D K : Nat) (f : Amp) : (vc D K f).length = D := by simp [vc]
theorem vc_get {D K : Nat} {f : Amp} {i : Nat} (h : i < D) : (vc D K f)[i]? = some (dq K (f i)) := by unfold vc; rw [List.getElem?_map, List.getElem?_range h]; rfl
theorem vc_geti {D K : Nat} {f : Amp} {i : Nat} (h : i < D) : geti (vc D K f) (i : Int) = some (dq K (f i)) := geti_nat (vc_get h)
theorem vc_congr {D K : Nat} {f g : Amp} (h : ∀ i, i < D → f i = g i) : vc D K f = vc D K g := by
 unfold vc
 exact List.map_congr_left fun i hi => by rw [h i (List.mem_range.1 hi)]
theorem vc_set {D K : Nat} {f : Amp} {t : Nat} (ht : t < D) (m : Z4) : (vc D K f).set t (dq K m) = vc D K (fun r => if r = t then m else f r) := by
 refine List.ext_getElem? fun i => ?_
 by_cases hi : i < D
 ·rw [List.getElem?_set, vc_get hi]
  by_cases e : t = i
  ·subst e
   rw [if_pos rfl, if_pos (by rw [vc_len]; exact ht), vc_get ht, if_pos rfl]
  ·rw [if_neg e, vc_get hi, if_neg (fun h => e h.symm)]
 ·rw [List.getElem?_eq_none (by simp [vc]; omega), List.getElem?_eq_none (by simp [vc]; omega)]
theorem vc_st {D K : Nat} {f : Amp} (hD : 0 < qcF D) (hK : K ≤ 60) (hf : bdv 1073741824 f) : stB (vc D K f) = true := by
 unfold stB
 rw [Bool.and_eq_true, List.all_eq_true, decide_eq_true_eq, vc_len]
 refine ⟨fun x hx => ?_, hD⟩
 obtain ⟨i, _, rfl⟩ := List.mem_map.1 hx
 exact dq_vd hK (hf i)
/-- Sums. -/
def smz (g : Nat → Z4) : Nat → Z4
 | 0 => (0, 0, 0, 0)
 | k + 1 => adz (smz g k) (g k)
theorem smz_zero {g : Nat → Z4} : ∀ {k : Nat}, (∀ j, j < k → g j = (0, 0, 0, 0)) → smz g k = (0, 0, 0, 0)
 | 0, _ => rfl
 | k + 1, h => by rw [smz, smz_zero (fun j hj => h j (by omega)), h k (by omega)]; rfl
theorem smz_one {g : Nat → Z4} {c : Nat} : ∀ {k : Nat}, c < k → (∀ j, j < k → j ≠ c → g j = (0, 0, 0, 0)) → smz g k = g c
 | 0, h, _ => by omega
 | k + 1, h, hz => by
  rw [smz]
  by_cases e : c = k
  ·subst e
   rw [smz_zero (fun j hj => hz j (by omega) (by omega)), adz_comm, adz_0r]
  ·rw [smz_one (by omega) (fun j hj hne => hz j (by omega) hne), hz k (by omega) (fun h => e h.symm), adz_0r]
theorem smz_add (g h : Nat → Z4) : ∀ k, smz (fun j => adz (g j) (h j)) k = adz (smz g k) (smz h k)
 | 0 => rfl
 | k + 1 => by
  rw [smz, smz_add g h k, smz, smz, adz_mix']
theorem smz_congr {g h : Nat → Z4} : ∀ {k : Nat}, (∀ j, j < k → g j = h j) → smz g k = smz h k
 | 0, _ => rfl
 | k + 1, e => by rw [smz, smz, smz_congr (fun j hj => e j (by omega)), e k (by omega)]
theorem smz_bd {M : Nat} {g : Nat → Z4} : ∀ {k : Nat}, (∀ j, j < k → bdz M (g j)) → bdz ((k * M : Nat) : Int) (smz g k)
 | 0, _ => by unfold bdz smz; simp
 | k + 1, h => by
  rw [smz, show (((k + 1) * M : Nat) : Int) = ((k * M : Nat) : Int) + M by rw [Nat.add_mul, Nat.one_mul]; omega]
  exact bdz_adz (smz_bd fun j hj => h j (by omega)) (h k (by omega))
/-- What a source gives to a place. -/
def loB (i a : Nat) : Nat := if i.testBit a = true then i ^^^ 2 ^ a else i
def hiB (i a : Nat) : Nat := if i.testBit a = true then i else i ^^^ 2 ^ a
def ct (q : GQ) (f : Amp) (r i : Nat) : Z4 :=
 if q.1 = 4 then adz (if r = loB i q.2.1.toNat then f i else (0, 0, 0, 0)) (if r = hiB i q.2.1.toNat then (if i.testBit q.2.1.toNat = true then ngz (f i) else f i) else (0, 0, 0, 0))
 else if r = mvA q i then mlz (oz (mvP q i)) (f i) else (0, 0, 0, 0)
theorem xor_ne (i a : Nat) : i ^^^ 2 ^ a ≠ i := by
 intro h
 have := tb_eq i a
 rw [h] at this
 cases hb : i.testBit a <;> rw [hb] at this <;> cases this
theorem ct_sum {n : Nat} {q : GQ} (h : gok n q) (f : Amp) {r : Nat} (hr : r < 2 ^ n) : smz (ct q f r) (2 ^ n) = gz q f r := by
 by_cases e4 : q.1 = 4
 ·have hx := xlt hr h.1
  unfold gz
  rw [if_pos e4]
  have e : smz (ct q f r) (2 ^ n) = adz (smz (fun i => if r = loB i q.2.1.toNat then f i else (0, 0, 0, 0)) (2 ^ n)) (smz (fun i => if r = hiB i q.2.1.toNat then (if i.testBit q.2.1.toNat = true then ngz (f i) else f i) else (0, 0, 0, 0)) (2 ^ n)) := by
   rw [← smz_add]
   exact smz_congr fun j _ => by unfold ct; rw [if_pos e4]
  rw [e]
  have ad : ∀ (i : Nat) (x y : Z4), adz (if r = i then x else (0, 0, 0, 0)) y = if r = i then adz x y else y := fun i x y => by split; rfl; rw [adz_comm, adz_0r]
  cases hb : r.testBit q.2.1.toNat with
  | false =>
   -- r lies low
   have hb2 : (r ^^^ 2 ^ q.2.1.toNat).testBit q.2.1.toNat = true := by rw [tb_eq, hb]; rfl
   rw [if_neg (by simp)]
   have z2 : smz (fun i => if r = hiB i q.2.1.toNat then (if i.testBit q.2.1.toNat = true then ngz (f i) else f i) else (0, 0, 0, 0)) (2 ^ n) = (0, 0, 0, 0) := by
    refine smz_zero fun j _ => ?_
    rw [if_neg]
    intro er
    have : (hiB j q.2.1.toNat).testBit q.2.1.toNat = true := by
     unfold hiB; split
     ·assumption
     ·rename_i hj; rw [tb_eq]; simpa using hj
    rw [← er, hb] at this
    cases this
   rw [z2, adz_0r]
   -- two sources
   have z1 : smz (fun i => if r = loB i q.2.1.toNat then f i else (0, 0, 0, 0)) (2 ^ n) = adz (smz (fun i => if i = r then f i else (0, 0, 0, 0)) (2 ^ n)) (smz (fun i => if i = r ^^^ 2 ^ q.2.1.toNat then f i else (0, 0, 0, 0)) (2 ^ n)) := by
    rw [← smz_add]
    refine smz_congr fun j _ => ?_
    by_cases e1 : j = r
    ·subst e1
     have : ¬ j = j ^^^ 2 ^ q.2.1.toNat := fun h => xor_ne j _ h.symm
     simp only [loB, hb, Bool.false_eq_true, if_false, if_true, if_neg this, adz_0r]
    ·by_cases e2 : j = r ^^^ 2 ^ q.2.1.toNat
     ·subst e2
      have : r = loB (r ^^^ 2 ^ q.2.1.toNat) q.2.1.toNat := by unfold loB; rw [if_pos hb2, xx]
      simp only [if_pos this.symm, ← this, if_true, if_neg e1]
      rw [adz_comm, adz_0r]
     ·have : ¬ r = loB j q.2.1.toNat := by
       unfold loB; split
       ·intro h; apply e2; rw [h, xx]
       ·exact fun h => e1 h.symm
      simp only [if_neg this, if_neg e1, if_neg e2]; rfl
   rw [z1, smz_one (c := r) hr (fun j _ hj => by rw [if_neg hj]), smz_one (c := r ^^^ 2 ^ q.2.1.toNat) hx (fun j _ hj => by rw [if_neg hj]), if_pos rfl, if_pos rfl]
  | true =>
   have hb2 : (r ^^^ 2 ^ q.2.1.toNat).testBit q.2.1.toNat = false := by rw [tb_eq, hb]; rfl
   rw [if_pos rfl]
   have z2 : smz (fun i => if r = loB i q.2.1.toNat then f i else (0, 0, 0, 0)) (2 ^ n) = (0, 0, 0, 0) := by
    refine smz_zero fun j _ => ?_
    rw [if_neg]
    intro er
    have : (loB j q.2.1.toNat).testBit q.2.1.toNat = false := by
     unfold loB; split
     ·rename_i hj; rw [tb_eq, hj]; rfl
     ·rename_i hj; simpa using hj
    rw [← er, hb] at this
    cases this
   rw [z2, adz_comm, adz_0r]
   have z1 : smz (fun i => if r = hiB i q.2.1.toNat then (if i.testBit q.2.1.toNat = true then ngz (f i) else f i) else (0, 0, 0, 0)) (2 ^ n) = adz (smz (fun i => if i = r ^^^ 2 ^ q.2.1.toNat then f i else (0, 0, 0, 0)) (2 ^ n)) (smz (fun i => if i = r then ngz (f i) else (0, 0, 0, 0)) (2 ^ n)) := by
    rw [← smz_add]
    refine smz_congr fun j _ => ?_
    by_cases e1 : j = r
    ·subst e1
     have : ¬ j = j ^^^ 2 ^ q.2.1.toNat := fun h => xor_ne j _ h.symm
     have e3 : hiB j q.2.1.toNat = j := by unfold hiB; rw [if_pos hb]
     simp only [e3, hb, if_true, if_neg this]
     rw [adz_comm, adz_0r]
    ·by_cases e2 : j = r ^^^ 2 ^ q.2.1.toNat
     ·subst e2
      have : hiB (r ^^^ 2 ^ q.2.1.toNat) q.2.1.toNat = r := by unfold hiB; rw [if_neg (by rw [hb2]; simp), xx]
      simp only [this, hb2, if_true, if_neg e1, Bool.false_eq_true, if_false, adz_0r]
     ·have : ¬ r = hiB j q.2.1.toNat := by
       unfold hiB; split
       ·exact fun h => e1 h.symm
       ·intro h; apply e2; rw [h, xx]
      simp only [if_neg this, if_neg e1, if_neg e2]; rfl
   rw [z1, smz_one (c := r ^^^ 2 ^ q.2.1.toNat) hx (fun j _ hj => by rw [if_neg hj]), smz_one (c := r) hr (fun j _ hj => by rw [if_neg hj]), if_pos rfl, if_pos rfl]
 ·have hm := mvA_lt h hr
  unfold gz
  rw [if_neg e4, smz_one (c := mvA q r) hm (fun j _ hj => ?_)]
  ·unfold ct
   rw [if_neg e4, if_pos (mvA_inv h r).symm]
  ·unfold ct
   rw [if_neg e4, if_neg]
   intro er
   exact hj (by rw [er, mvA_inv h])
theorem ct_bd {M : Int} {f : Amp} (hM : 0 ≤ M) (hf : bdv M f) (q : GQ) (r i : Nat) : bdz (2 * M) (ct q f r i) := by
 have h0 : bdz M (0, 0, 0, 0) := by unfold bdz; simp only; omega
 unfold ct
 split
 ·rw [show 2 * M = M + M by omega]
  refine bdz_adz ?_ ?_
  ·split
   ·exact hf i
   ·exact h0
  ·split
   ·split
    ·exact bd_ngz (hf i)
    ·exact hf i
   ·exact h0
 ·refine bdz_mono (M := M) (by omega) ?_
  split
  ·exact bd_oz _ (hf i)
  ·exact h0
/-- Valid gates by kind. -/
theorem ivg_cases {k a b c n : Int} (h : ivg k a b c n = true) : (1 ≤ n ∧ n ≤ 4) ∧ (0 ≤ a ∧ a < n) ∧ (((1 ≤ k ∧ k ≤ 8) ∧ b = 0 ∧ c = 0) ∨ ((9 ≤ k ∧ k ≤ 11) ∧ (0 ≤ b ∧ b < n) ∧ a ≠ b ∧ c = 0) ∨ (k = 12 ∧ ((0 ≤ b ∧ b < n) ∧ (0 ≤ c ∧ c < n)) ∧ a ≠ b ∧ a ≠ c ∧ b ≠ c)) := by
 unfold ivg arity at h
 by_cases h1 : 1 ≤ k ∧ k ≤ 8
 ·rw [if_pos h1] at h
  simp [okQ] at h
  refine ⟨by omega, by omega, Or.inl ⟨h1, by omega, by omega⟩⟩
 ·rw [if_neg h1] at h
  by_cases h2 : 9 ≤ k ∧ k ≤ 11
  ·rw [if_pos h2] at h
   simp [okQ] at h
   refine ⟨by omega, by omega, Or.inr (Or.inl ⟨h2, by omega, by omega, by omega⟩)⟩
  ·rw [if_neg h2] at h
   by_cases h3 : k = 12
   ·rw [if_pos h3] at h
    simp [okQ] at h
    refine ⟨by omega, by omega, Or.inr (Or.inr ⟨h3, by omega, by omega, by omega, by omega⟩)⟩
   ·rw [if_neg h3] at h
    simp at h
theorem ivg_gok {k a b c n : Int} (h : ivg k a b c n = true) : gok n.toNat (k, a, b, c) := by
 obtain ⟨h1, h2, h3⟩ := ivg_cases h
 unfold gok
 simp only
 rcases h3 with ⟨g1, g2, g3⟩ | ⟨g1, g2, g3, g4⟩ | ⟨g1, g2, g3⟩ <;> refine ⟨by omega, fun e => ⟨by omega, by omega⟩, fun e => ⟨⟨by omega, by omega⟩, by omega, by omega⟩⟩
/-- Where an amplitude goes. -/
def goF (q : GQ) (i : Nat) : List (Int × Int × Int × Int × Int × Int) :=
 if q.1 = 4 then [((loB i q.2.1.toNat : Int), hD), ((hiB i q.2.1.toNat : Int), if i.testBit q.2.1.toNat = true then hN else hD)] else [((mvA q i : Int), om (mvP q i))]
def goB (k a b c i : Nat) : Bool := s_l10Goes (k : Int) (a : Int) (b : Int) (c : Int) (i : Int) == some (goF ((k : Int), (a : Int), (b : Int), (c : Int)) i)
theorem go1 : ∀ k : Fin 8, ∀ a : Fin 4, ∀ i : Fin 16, goB (k.val + 1) a.val 0 0 i.val = true := by decide +kernel
theorem go2 : ∀ k : Fin 3, ∀ a b : Fin 4, ∀ i : Fin 16, goB (k.val + 9) a.val b.val 0 i.val = true := by decide +kernel
theorem go3 : ∀ a b c : Fin 4, ∀ i : Fin 16, goB 12 a.val b.val c.val i.val = true := by decide +kernel
theorem s_goes {k a b c n : Int} (h : ivg k a b c n = true) {i : Nat} (hi : i < 2 ^ n.toNat) : s_l10Goes k a b c (i : Int) = some (goF (k, a, b, c) i) := by
 obtain ⟨h1, h2, h3⟩ := ivg_cases h
 have h16 : i < 16 := Nat.lt_of_lt_of_le hi (by rcases four h1 with rfl | rfl | rfl | rfl <;> decide)
 obtain ⟨a', rfl⟩ : ∃ a' : Nat, a = a' := ⟨a.toNat, by omega⟩
 rcases h3 with ⟨g1, rfl, rfl⟩ | ⟨g1, g2, g3, rfl⟩ | ⟨rfl, g2, g3⟩
 ·obtain ⟨k', rfl⟩ : ∃ k' : Nat, k = ((k' + 1 : Nat) : Int) := ⟨(k - 1).toNat, by omega⟩
  exact eq_of_beq (go1 ⟨k', by omega⟩ ⟨a', by omega⟩ ⟨i, h16⟩)
 ·obtain ⟨k', rfl⟩ : ∃ k' : Nat, k = ((k' + 9 : Nat) : Int) := ⟨(k - 9).toNat, by omega⟩
  obtain ⟨b', rfl⟩ : ∃ b' : Nat, b = b' := ⟨b.toNat, by omega⟩
  exact eq_of_beq (go2 ⟨k', by omega⟩ ⟨a', by omega⟩ ⟨b', by omega⟩ ⟨i, h16⟩)
 ·obtain ⟨b', rfl⟩ : ∃ b' : Nat, b = b' := ⟨b.toNat, by omega⟩
  obtain ⟨c', rfl⟩ : ∃ c' : Nat, c = c' := ⟨c.toNat, by omega⟩
  exact eq_of_beq (go3 ⟨a', by omega⟩ ⟨b', by omega⟩ ⟨c', by omega⟩ ⟨i, h16⟩)
end Go.Proofs.Ytfjopjalhllplaa
/- Plain laws: ApplyGate, ApplyGates and BasisState of the reference, on states at a common exponent. -/
namespace Go.Proofs.Ytfjopjalhllplaa
open Go.RowKit
set_option maxRecDepth 100000
set_option linter.unusedVariables false
set_option linter.unusedSimpArgs false
theorem ag_in {q15 z : DQ} {x27 : List (Int × Int × Int × Int × Int × Int)} {v21 : Int} {kl3 : Int → List DQ → Option (List DQ × Bool)} {D K : Nat} {acc : Amp} {j t m0 : Nat} {m : Z4}
  (hK : K ≤ 60) (hj : x27[j]? = some ((t : Int), z)) (hj4 : j < 4) (hx : vd q15 = true) (hz : vd z = true) (hmul : mulF q15 z = some (dq K m)) (ht : t < D) (ha : bdz 1073741824 (acc t)) (hm : bdz 1073741824 m) (hs : bdz 1073741824 (adz (acc t) m)) :
  s_ApplyGate_l4 v21 kl3 q15 x27 (m0 + 1) (j : Int) (vc D K acc) = s_ApplyGate_l4 v21 kl3 q15 x27 m0 ((j + 1 : Nat) : Int) (vc D K (fun r => if r = t then adz (acc t) m else acc r)) := by
 obtain ⟨hjl, _⟩ := List.getElem?_eq_some_iff.1 hj
 have hlt : decide ((j : Int) < (x27.length : Int)) = true := decide_eq_true (by omega)
 rw [s_ApplyGate_l4, hlt, br_true, geti_nat hj, bO_some]
 simp only
 rw [s_mul' q15 z, if_pos ⟨hx, hz⟩, hmul, bO_some, vc_geti ht, bO_some]
 simp only [res]
 rw [s_add (dq K (acc t)) (dq K m), if_pos ⟨dq_vd hK ha, dq_vd hK hm⟩, dq_add hK ha hm hs, bO_some]
 simp only [res, Bool.not_true, br_false, bO_some, s_ApplyGate_j14]
 rw [w64s (n := 4) hj4 (by omega), show ((t : Int)).toNat = t by omega, vc_set ht]
theorem ag_end {q15 : DQ} {x27 : List (Int × Int × Int × Int × Int × Int)} {v21 : Int} {kl3 : Int → List DQ → Option (List DQ × Bool)} {v : List DQ} {m0 : Nat} :
  s_ApplyGate_l4 v21 kl3 q15 x27 (m0 + 1) (x27.length : Int) v = kl3 (IntKind.wrap .i64 (v21 + 1)) v := by
 have hlt : decide ((x27.length : Int) < (x27.length : Int)) = false := decide_eq_false (by omega)
 rw [s_ApplyGate_l4, hlt, br_false]
 rfl
theorem om_vd (a : Nat) : vd (om a) = true := by rw [om_dq]; exact dq_vd (by omega) (bd_one a)
theorem hD_vd : vd hD = true := by decide
theorem hN_vd : vd hN = true := by decide
theorem lo_ne_hi (i a : Nat) : loB i a ≠ hiB i a := by
 unfold loB hiB
 split
 ·exact xor_ne i a
 ·exact fun h => xor_ne i a h.symm
theorem lo_lt {n i a : Nat} (hi : i < 2 ^ n) (ha : a < n) : loB i a < 2 ^ n := by
 unfold loB; split
 ·exact xlt hi ha
 ·exact hi
theorem hi_lt {n i a : Nat} (hi : i < 2 ^ n) (ha : a < n) : hiB i a < 2 ^ n := by
 unfold hiB; split
 ·exact hi
 ·exact xlt hi ha
theorem ct_zero {q : GQ} {f : Amp} {i : Nat} (h : f i = (0, 0, 0, 0)) (r : Nat) : ct q f r i = (0, 0, 0, 0) := by
 unfold ct
 rw [h, mlz_0r]
 have : ngz (0, 0, 0, 0) = (0, 0, 0, 0) := rfl
 rw [this]
 simp only [ite_self]
 split <;> rfl
theorem FU_2 : ∃ m, FU = m + 3 := ⟨4194301, rfl⟩
def kq (k : Int) : Nat := if k = 4 then 1 else 0
theorem ag_loop {k a b c : Int} {n : Int} {K M : Nat} {f : Amp} (hv : ivg k a b c n = true) (hK : K + 1 ≤ 60) (hM : M ≤ 16777216) (hf : bdv M f) : ∀ (m i : Nat), i ≤ 2 ^ n.toNat → 2 ^ n.toNat - i < m →
  s_ApplyGate_l1 k a b c (vc (2 ^ n.toNat) K f) m (i : Int) (vc (2 ^ n.toNat) (K + kq k) (fun r => smz (ct (k, a, b, c) f r) i)) = some (vc (2 ^ n.toNat) (K + kq k) (gz (k, a, b, c) f), true) := by
 have hg := ivg_gok hv
 obtain ⟨hn, _, _⟩ := ivg_cases hv
 have h16 : 2 ^ n.toNat ≤ 16 := by rcases four hn with rfl | rfl | rfl | rfl <;> decide
 have hf30 : bdv 1073741824 f := fun i => bdz_mono (by omega) (hf i)
 have hKq : K + kq k ≤ 60 := by unfold kq; split <;> omega
 have hbd : ∀ r j, j ≤ 2 ^ n.toNat → bdz 536870912 (smz (ct (k, a, b, c) f r) j) := by
  intro r j hj
  have h1 : bdz ((j * (2 * M) : Nat) : Int) (smz (ct (k, a, b, c) f r) j) := smz_bd fun i _ => by
   have := ct_bd (M := M) (by omega) hf (k, a, b, c) r i
   exact this
  refine bdz_mono ?_ h1
  have : j * (2 * M) ≤ 16 * 33554432 := Nat.mul_le_mul (by omega) (by omega)
  omega
 have hadd : ∀ {x y : Z4}, bdz 536870912 x → bdz 33554432 y → bdz 1073741824 (adz x y) := fun hx hy => bdz_mono (by omega) (bdz_adz hx hy)
 intro m
 induction m with
 | zero => intro i _ h; omega
 | succ m ih =>
  intro i hi hm
  rw [s_ApplyGate_l1, vc_len]
  by_cases e : i = 2 ^ n.toNat
  ·subst e
   have hlt : decide (((2 ^ n.toNat : Nat) : Int) < ((2 ^ n.toNat : Nat) : Int)) = false := decide_eq_false (by omega)
   rw [hlt, br_false]
   unfold s_ApplyGate_j2
   rw [vc_congr (fun r hr => ct_sum hg f hr)]
  ·have hil : i < 2 ^ n.toNat := by omega
   have hlt : decide ((i : Int) < ((2 ^ n.toNat : Nat) : Int)) = true := decide_eq_true (by omega)
   have next := ih (i + 1) (by omega) (by omega)
   rw [hlt, br_true, vc_geti hil, bO_some, d0_eq]
   by_cases hz : f i = (0, 0, 0, 0)
   ·rw [decide_eq_true (dq_zero.2 hz), br_true]
    unfold s_ApplyGate_j11
    rw [w64s hil (by omega), ← next]
    congr 1
    refine vc_congr fun r _ => ?_
    rw [smz, ct_zero hz, adz_0r]
   ·rw [decide_eq_false (fun h => hz (dq_zero.1 h)), br_false, s_goes hv hil, bO_some]
    have hx : vd (dq K (f i)) = true := dq_vd (by omega) (hf30 i)
    obtain ⟨m3, hm3⟩ := FU_2
    by_cases h4 : k = 4
    ·subst h4
     have hlo := lo_lt hil hg.1
     have hhi := hi_lt hil hg.1
     simp only at hlo hhi
     have hk1 : kq 4 = 1 := rfl
     have e0 : goF (4, a, b, c) i = [((loB i a.toNat : Int), hD), ((hiB i a.toNat : Int), if i.testBit a.toNat = true then hN else hD)] := rfl
     have b1 : ∀ r, bdz 536870912 (smz (ct (4, a, b, c) f r) i) := fun r => hbd r i (by omega)
     have bf : bdz 33554432 (f i) := bdz_mono (by omega) (hf i)
     rw [e0]
     rw [hk1] at next ⊢
     have s1 := ag_in (q15 := dq K (f i)) (z := hD) (x27 := [((loB i a.toNat : Int), hD), ((hiB i a.toNat : Int), if i.testBit a.toNat = true then hN else hD)]) (v21 := (i : Int)) (kl3 := s_ApplyGate_l1 4 a b c (vc (2 ^ n.toNat) K f) m)
      (D := 2 ^ n.toNat) (K := K + 1) (acc := fun r => smz (ct (4, a, b, c) f r) i) (j := 0) (t := loB i a.toNat) (m0 := m3 + 2) (m := f i) hK rfl (by omega) hx hD_vd (hD_mul hK (hf30 i)) hlo (bdz_mono (by omega) (b1 _)) (hf30 i) (hadd (b1 _) bf)
     have bz : bdz 33554432 (if i.testBit a.toNat = true then ngz (f i) else f i) := by split; exact bd_ngz bf; exact bf
     have s2 := ag_in (q15 := dq K (f i)) (z := if i.testBit a.toNat = true then hN else hD) (x27 := [((loB i a.toNat : Int), hD), ((hiB i a.toNat : Int), if i.testBit a.toNat = true then hN else hD)]) (v21 := (i : Int)) (kl3 := s_ApplyGate_l1 4 a b c (vc (2 ^ n.toNat) K f) m)
      (D := 2 ^ n.toNat) (K := K + 1) (acc := fun r => if r = loB i a.toNat then adz (smz (ct (4, a, b, c) f (loB i a.toNat)) i) (f i) else smz (ct (4, a, b, c) f r) i) (j := 1) (t := hiB i a.toNat) (m0 := m3 + 1) (m := if i.testBit a.toNat = true then ngz (f i) else f i)
      hK rfl (by omega) hx (by split; exact hN_vd; exact hD_vd) (by split; exact hN_mul hK (hf30 i); exact hD_mul hK (hf30 i)) hhi (by rw [if_neg (lo_ne_hi i _).symm]; exact bdz_mono (by omega) (b1 _)) (bdz_mono (by omega) bz) (by rw [if_neg (lo_ne_hi i _).symm]; exact hadd (b1 _) bz)
     rw [hm3]
     refine s1.trans (s2.trans ?_)
     refine (ag_end (m0 := m3)).trans ?_
     rw [w64s hil (by omega), ← next]
     congr 1
     refine vc_congr fun r _ => ?_
     rw [smz]
     unfold ct
     rw [if_pos rfl]
     simp only
     by_cases r1 : r = hiB i a.toNat
     ·have r2 : ¬ r = loB i a.toNat := fun h => lo_ne_hi i a.toNat (h.symm.trans r1)
      rw [if_pos r1, if_pos r1, if_neg r2, if_neg (lo_ne_hi i _).symm, ← r1, adz_comm (0, 0, 0, 0), adz_0r]
     ·rw [if_neg r1, if_neg r1]
      by_cases r2 : r = loB i a.toNat
      ·rw [if_pos r2, if_pos r2, adz_0r, ← r2]
      ·rw [if_neg r2, if_neg r2]
       rw [show adz ((0, 0, 0, 0) : Z4) (0, 0, 0, 0) = (0, 0, 0, 0) from rfl, adz_0r]
    ·have hk0 : kq k = 0 := if_neg h4
     have hmv := mvA_lt hg hil
     have e0 : goF (k, a, b, c) i = [((mvA (k, a, b, c) i : Int), om (mvP (k, a, b, c) i))] := if_neg h4
     have b1 : ∀ r, bdz 536870912 (smz (ct (k, a, b, c) f r) i) := fun r => hbd r i (by omega)
     have bz : bdz 33554432 (mlz (oz (mvP (k, a, b, c) i)) (f i)) := bd_oz _ (bdz_mono (by omega) (hf i))
     rw [e0]
     rw [hk0, Nat.add_zero] at hKq ⊢
     simp only [hk0, Nat.add_zero] at next
     have s1 := ag_in (q15 := dq K (f i)) (z := om (mvP (k, a, b, c) i)) (x27 := [((mvA (k, a, b, c) i : Int), om (mvP (k, a, b, c) i))]) (v21 := (i : Int)) (kl3 := s_ApplyGate_l1 k a b c (vc (2 ^ n.toNat) K f) m)
      (D := 2 ^ n.toNat) (K := K) (acc := fun r => smz (ct (k, a, b, c) f r) i) (j := 0) (t := mvA (k, a, b, c) i) (m0 := m3 + 2) (m := mlz (oz (mvP (k, a, b, c) i)) (f i)) hKq rfl (by omega) hx (om_vd _) (om_mul _ hKq (hf30 i)) hmv (bdz_mono (by omega) (b1 _)) (bdz_mono (by omega) bz) (hadd (b1 _) bz)
     rw [hm3]
     refine s1.trans ?_
     refine (ag_end (m0 := m3 + 1)).trans ?_
     rw [w64s hil (by omega), ← next]
     congr 1
     refine vc_congr fun r _ => ?_
     rw [smz]
     unfold ct
     rw [if_neg h4]
     simp only
     by_cases r1 : r = mvA (k, a, b, c) i
     ·rw [if_pos r1, if_pos r1, ← r1]
     ·rw [if_neg r1, if_neg r1, adz_0r]
theorem qc_pow {n : Int} (hn : 1 ≤ n ∧ n ≤ 4) : qcF (2 ^ n.toNat) = n := by rcases four hn with rfl | rfl | rfl | rfl <;> decide
/-- A gate on a state. -/
theorem s_ag {k a b c n : Int} {K M : Nat} {f : Amp} (hv : ivg k a b c n = true) (hK : K + 1 ≤ 60) (hM : M ≤ 16777216) (hf : bdv M f) : s_ApplyGate k a b c (vc (2 ^ n.toNat) K f) = some (vc (2 ^ n.toNat) (K + kq k) (gz (k, a, b, c) f), true) := by
 obtain ⟨hn, _, _⟩ := ivg_cases hv
 have h16 : 2 ^ n.toNat ≤ 16 := by rcases four hn with rfl | rfl | rfl | rfl <;> decide
 have hf30 : bdv 1073741824 f := fun i => bdz_mono (by omega) (hf i)
 have hst : stB (vc (2 ^ n.toNat) K f) = true := vc_st (by rw [qc_pow hn]; omega) (by omega) hf30
 unfold s_ApplyGate
 rw [s_st _ (by rw [vc_len]; omega), bO_some, hst]
 simp only [Bool.not_true, br_false]
 rw [s_qc, vc_len, qc_pow hn, bO_some, s_ivg, hv, bO_some]
 simp only [Bool.not_true, bO_some, s_ApplyGate_j1, br_false]
 have hg : decide (0 ≤ ((2 ^ n.toNat : Nat) : Int) ∧ ((2 ^ n.toNat : Nat) : Int) ≤ 1048576) = true := (fun x hx => decide_eq_true (by omega) : ∀ x : Nat, x ≤ 16 → decide (0 ≤ (x : Int) ∧ (x : Int) ≤ 1048576) = true) _ h16
 rw [vc_len, hg, gd_true]
 have e0 : List.replicate (((2 ^ n.toNat : Nat) : Int)).toNat ((0, 0, 0, 0, 0) : Int × Int × Int × Int × Int) = vc (2 ^ n.toNat) (K + kq k) (fun r => smz (ct (k, a, b, c) f r) 0) := by
  unfold vc
  rw [Int.toNat_natCast]
  refine List.ext_getElem? fun i => ?_
  by_cases h : i < 2 ^ n.toNat
  ·rw [List.getElem?_replicate, if_pos h, List.getElem?_map, List.getElem?_range h]
   show some d0 = some (dq _ (0, 0, 0, 0))
   rw [dq_0]
  ·rw [List.getElem?_eq_none (by simp; omega), List.getElem?_eq_none (by simp; omega)]
 rw [e0]
 exact ag_loop hv hK hM hf FU 0 (Nat.zero_le _) (by rw [FU_eq]; omega)
theorem gz_bd' {e : Nat} {f : Amp} (h : bdv ((2 ^ e : Nat) : Int) f) (q : GQ) : bdv ((2 ^ (e + kq q.1) : Nat) : Int) (gz q f) := by
 have := gz_bd h q
 unfold kq
 split
 ·rename_i h4
  rw [if_pos h4] at this
  rw [Nat.pow_succ]
  intro i
  exact bdz_mono (by omega) (this i)
 ·rename_i h4
  rw [if_neg h4] at this
  exact this
theorem pow24 {e : Nat} (h : e ≤ 24) : 2 ^ e ≤ 16777216 := by
 have := Nat.pow_le_pow_right (n := 2) (by omega) h
 exact this
def bsB (n i : Nat) : Bool := !decide (i < 2 ^ n) || s_BasisState (n : Int) (i : Int) == some (vc (2 ^ n) 0 (dl i))
theorem bs_fin : ∀ n : Fin 4, ∀ i : Fin 16, bsB (n.val + 1) i.val = true := by decide +kernel
theorem s_bs {n : Int} (hn : 1 ≤ n ∧ n ≤ 4) {i : Nat} (hi : i < 2 ^ n.toNat) : s_BasisState n (i : Int) = some (vc (2 ^ n.toNat) 0 (dl i)) := by
 have h16 : i < 16 := Nat.lt_of_lt_of_le hi (by rcases four hn with rfl | rfl | rfl | rfl <;> decide)
 obtain ⟨n', rfl⟩ : ∃ n' : Nat, n = ((n' + 1 : Nat) : Int) := ⟨(n - 1).toNat, by omega⟩
 have := bs_fin ⟨n', by omega⟩ ⟨i, h16⟩
 unfold bsB at this
 simp only [Int.toNat_natCast] at hi ⊢
 rw [decide_eq_true hi, Bool.not_true, Bool.false_or] at this
 exact eq_of_beq this
end Go.Proofs.Ytfjopjalhllplaa
/- Plain laws: states times phases, equality up to a phase, and 'apart'. -/
namespace Go.Proofs.Ytfjopjalhllplaa
open Go.RowKit
set_option maxRecDepth 100000
set_option linter.unusedVariables false
set_option linter.unusedSimpArgs false
theorem pf_fin : ∀ k : Fin 8, s_PhaseFactor (k.val : Int) = some (om k.val) := by decide +kernel
section
variable {D K L : Nat} {F G : Nat → Amp}
open Classical in
end
end Go.Proofs.Ytfjopjalhllplaa
