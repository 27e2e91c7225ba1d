/- Joined texts: Pvc Pvd Pve. -/
import Derived.Test.YtfjopjalhllplaaGreatK6
import Derived.Test.YtfjopjalhllplaaGreatK16
import Derived.Test.YtfjopjalhllplaaGreatK15
import Derived.Test.YtfjopjalhllplaaGreatK9
import Derived.Test.YtfjopjalhllplaaGreatKPzq
import Derived.Test.YtfjopjalhllplaaGreatK7
/- Plain laws: ApplyGate and ApplyGates of the reference, on states at a common exponent. -/
namespace Go.Proofs.YtfjopjalhllplaaGreat
open Go.RowKit
set_option maxRecDepth 100000
set_option linter.unusedVariables false
set_option linter.unusedSimpArgs false
/-- A state of D amplitudes at exponent K. -/
def vc (D K : Nat) (f : Amp) : List DQ := (List.range D).map fun i => dq K (f i)
theorem vc_len (D K : Nat) (f : Amp) : (vc D K f).length = D := by simp [vc]
theorem vc_get {D K : Nat} {f : Amp} {i : Nat} (h : i < D) : (vc D K f)[i]? = some (dq K (f i)) := by unfold vc; rw [List.getElem?_map, List.getElem?_range h]; rfl
theorem vc_geti {D K : Nat} {f : Amp} {i : Nat} (h : i < D) : geti (vc D K f) (i : Int) = some (dq K (f i)) := geti_nat (vc_get h)
theorem vc_congr {D K : Nat} {f g : Amp} (h : ∀ i, i < D → f i = g i) : vc D K f = vc D K g := by
 unfold vc
 exact List.map_congr_left fun i hi => by rw [h i (List.mem_range.1 hi)]
theorem vc_set {D K : Nat} {f : Amp} {t : Nat} (ht : t < D) (m : Z4) : (vc D K f).set t (dq K m) = vc D K (fun r => if r = t then m else f r) := by
 refine List.ext_getElem? fun i => ?_
 by_cases hi : i < D
 ·rw [List.getElem?_set, vc_get hi]
  by_cases e : t = i
  ·subst e
   rw [if_pos rfl, if_pos (by rw [vc_len]; exact ht), vc_get ht, if_pos rfl]
  ·rw [if_neg e, vc_get hi, if_neg (fun h => e h.symm)]
 ·rw [List.getElem?_eq_none (by simp [vc]; omega), List.getElem?_eq_none (by simp [vc]; omega)]
theorem vc_st {D K : Nat} {f : Amp} (hD : 0 < qcF D) (hK : K ≤ 60) (hf : bdv 1073741824 f) : stB (vc D K f) = true := by
 unfold stB
 rw [Bool.and_eq_true, List.all_eq_true, decide_eq_true_eq, vc_len]
 refine ⟨fun x hx => ?_, hD⟩
 obtain ⟨i, _, rfl⟩ := List.mem_map.1 hx
 exact dq_vd hK (hf i)
/-- Sums. -/
def smz (g : Nat → Z4) : Nat → Z4
 | 0 => (0, 0, 0, 0)
 | k + 1 => adz (smz g k) (g k)
theorem smz_zero {g : Nat → Z4} : ∀ {k : Nat}, (∀ j, j < k → g j = (0, 0, 0, 0)) → smz g k = (0, 0, 0, 0)
 | 0, _ => rfl
 | k + 1, h => by rw [smz, smz_zero (fun j hj => h j (by omega)), h k (by omega)]; rfl
theorem smz_one {g : Nat → Z4} {c : Nat} : ∀ {k : Nat}, c < k → (∀ j, j < k → j ≠ c → g j = (0, 0, 0, 0)) → smz g k = g c
 | 0, h, _ => by omega
 | k + 1, h, hz => by
  rw [smz]
  by_cases e : c = k
  ·subst e
   rw [smz_zero (fun j hj => hz j (by omega) (by omega)), adz_comm, adz_0r]
  ·rw [smz_one (by omega) (fun j hj hne => hz j (by omega) hne), hz k (by omega) (fun h => e h.symm), adz_0r]
theorem smz_add (g h : Nat → Z4) : ∀ k, smz (fun j => adz (g j) (h j)) k = adz (smz g k) (smz h k)
 | 0 => rfl
 | k + 1 => by
  rw [smz, smz_add g h k, smz, smz, adz_mix']
theorem smz_congr {g h : Nat → Z4} : ∀ {k : Nat}, (∀ j, j < k → g j = h j) → smz g k = smz h k
 | 0, _ => rfl
 | k + 1, e => by rw [smz, smz, smz_congr (fun j hj => e j (by omega)), e k (by omega)]
theorem smz_bd {M : Nat} {g : Nat → Z4} : ∀ {k : Nat}, (∀ j, j < k → bdz M (g j)) → bdz ((k * M : Nat) : Int) (smz g k)
 | 0, _ => by unfold bdz smz; simp
 | k + 1, h => by
  rw [smz, show (((k + 1) * M : Nat) : Int) = ((k * M : Nat) : Int) + M by rw [Nat.add_mul, Nat.one_mul]; omega]
  exact bdz_adz (smz_bd fun j hj => h j (by omega)) (h k (by omega))
/-- What a source gives to a place. -/
def loB (i a : Nat) : Nat := if i.testBit a = true then i ^^^ 2 ^ a else i
def hiB (i a : Nat) : Nat := if i.testBit a = true then i else i ^^^ 2 ^ a
def ct (q : GQ) (f : Amp) (r i : Nat) : Z4 :=
 if q.1 = 4 then adz (if r = loB i q.2.1.toNat then f i else (0, 0, 0, 0)) (if r = hiB i q.2.1.toNat then (if i.testBit q.2.1.toNat = true then ngz (f i) else f i) else (0, 0, 0, 0))
 else if r = mvA q i then mlz (oz (mvP q i)) (f i) else (0, 0, 0, 0)
theorem xor_ne (i a : Nat) : i ^^^ 2 ^ a ≠ i := by
 intro h
 have := tb_eq i a
 rw [h] at this
 cases hb : i.testBit a <;> rw [hb] at this <;> cases this
theorem ct_sum {n : Nat} {q : GQ} (h : gok n q) (f : Amp) {r : Nat} (hr : r < 2 ^ n) : smz (ct q f r) (2 ^ n) = gz q f r := by
 by_cases e4 : q.1 = 4
 ·have hx := xlt hr h.1
  unfold gz
  rw [if_pos e4]
  have e : smz (ct q f r) (2 ^ n) = adz (smz (fun i => if r = loB i q.2.1.toNat then f i else (0, 0, 0, 0)) (2 ^ n)) (smz (fun i => if r = hiB i q.2.1.toNat then (if i.testBit q.2.1.toNat = true then ngz (f i) else f i) else (0, 0, 0, 0)) (2 ^ n)) := by
   rw [← smz_add]
   exact smz_congr fun j _ => by unfold ct; rw [if_pos e4]
  rw [e]
  have ad : ∀ (i : Nat) (x y : Z4), adz (if r = i then x else (0, 0, 0, 0)) y = if r = i then adz x y else y := fun i x y => by split; rfl; rw [adz_comm, adz_0r]
  cases hb : r.testBit q.2.1.toNat with
  | false =>
   -- r lies low
   have hb2 : (r ^^^ 2 ^ q.2.1.toNat).testBit q.2.1.toNat = true := by rw [tb_eq, hb]; rfl
   rw [if_neg (by simp)]
   have z2 : smz (fun i => if r = hiB i q.2.1.toNat then (if i.testBit q.2.1.toNat = true then ngz (f i) else f i) else (0, 0, 0, 0)) (2 ^ n) = (0, 0, 0, 0) := by
    refine smz_zero fun j _ => ?_
    rw [if_neg]
    intro er
    have : (hiB j q.2.1.toNat).testBit q.2.1.toNat = true := by
     unfold hiB; split
     ·assumption
     ·rename_i hj; rw [tb_eq]; simpa using hj
    rw [← er, hb] at this
    cases this
   rw [z2, adz_0r]
   -- two sources
   have z1 : smz (fun i => if r = loB i q.2.1.toNat then f i else (0, 0, 0, 0)) (2 ^ n) = adz (smz (fun i => if i = r then f i else (0, 0, 0, 0)) (2 ^ n)) (smz (fun i => if i = r ^^^ 2 ^ q.2.1.toNat then f i else (0, 0, 0, 0)) (2 ^ n)) := by
    rw [← smz_add]
    refine smz_congr fun j _ => ?_
    by_cases e1 : j = r
    ·subst e1
     have : ¬ j = j ^^^ 2 ^ q.2.1.toNat := fun h => xor_ne j _ h.symm
     simp only [loB, hb, Bool.false_eq_true, if_false, if_true, if_neg this, adz_0r]
    ·by_cases e2 : j = r ^^^ 2 ^ q.2.1.toNat
     ·subst e2
      have : r = loB (r ^^^ 2 ^ q.2.1.toNat) q.2.1.toNat := by unfold loB; rw [if_pos hb2, xx]
      simp only [if_pos this.symm, ← this, if_true, if_neg e1]
      rw [adz_comm, adz_0r]
     ·have : ¬ r = loB j q.2.1.toNat := by
       unfold loB; split
       ·intro h; apply e2; rw [h, xx]
       ·exact fun h => e1 h.symm
      simp only [if_neg this, if_neg e1, if_neg e2]; rfl
   rw [z1, smz_one (c := r) hr (fun j _ hj => by rw [if_neg hj]), smz_one (c := r ^^^ 2 ^ q.2.1.toNat) hx (fun j _ hj => by rw [if_neg hj]), if_pos rfl, if_pos rfl]
  | true =>
   have hb2 : (r ^^^ 2 ^ q.2.1.toNat).testBit q.2.1.toNat = false := by rw [tb_eq, hb]; rfl
   rw [if_pos rfl]
   have z2 : smz (fun i => if r = loB i q.2.1.toNat then f i else (0, 0, 0, 0)) (2 ^ n) = (0, 0, 0, 0) := by
    refine smz_zero fun j _ => ?_
    rw [if_neg]
    intro er
    have : (loB j q.2.1.toNat).testBit q.2.1.toNat = false := by
     unfold loB; split
     ·rename_i hj; rw [tb_eq, hj]; rfl
     ·rename_i hj; simpa using hj
    rw [← er, hb] at this
    cases this
   rw [z2, adz_comm, adz_0r]
   have z1 : smz (fun i => if r = hiB i q.2.1.toNat then (if i.testBit q.2.1.toNat = true then ngz (f i) else f i) else (0, 0, 0, 0)) (2 ^ n) = adz (smz (fun i => if i = r ^^^ 2 ^ q.2.1.toNat then f i else (0, 0, 0, 0)) (2 ^ n)) (smz (fun i => if i = r then ngz (f i) else (0, 0, 0, 0)) (2 ^ n)) := by
    rw [← smz_add]
    refine smz_congr fun j _ => ?_
    by_cases e1 : j = r
    ·subst e1
     have : ¬ j = j ^^^ 2 ^ q.2.1.toNat := fun h => xor_ne j _ h.symm
     have e3 : hiB j q.2.1.toNat = j := by unfold hiB; rw [if_pos hb]
     simp only [e3, hb, if_true, if_neg this]
     rw [adz_comm, adz_0r]
    ·by_cases e2 : j = r ^^^ 2 ^ q.2.1.toNat
     ·subst e2
      have : hiB (r ^^^ 2 ^ q.2.1.toNat) q.2.1.toNat = r := by unfold hiB; rw [if_neg (by rw [hb2]; simp), xx]
      simp only [this, hb2, if_true, if_neg e1, Bool.false_eq_true, if_false, adz_0r]
     ·have : ¬ r = hiB j q.2.1.toNat := by
       unfold hiB; split
       ·exact fun h => e1 h.symm
       ·intro h; apply e2; rw [h, xx]
      simp only [if_neg this, if_neg e1, if_neg e2]; rfl
   rw [z1, smz_one (c := r ^^^ 2 ^ q.2.1.toNat) hx (fun j _ hj => by rw [if_neg hj]), smz_one (c := r) hr (fun j _ hj => by rw [if_neg hj]), if_pos rfl, if_pos rfl]
 ·have hm := mvA_lt h hr
  unfold gz
  rw [if_neg e4, smz_one (c := mvA q r) hm (fun j _ hj => ?_)]
  ·unfold ct
   rw [if_neg e4, if_pos (mvA_inv h r).symm]
  ·unfold ct
   rw [if_neg e4, if_neg]
   intro er
   exact hj (by rw [er, mvA_inv h])
theorem ct_bd {M : Int} {f : Amp} (hM : 0 ≤ M) (hf : bdv M f) (q : GQ) (r i : Nat) : bdz (2 * M) (ct q f r i) := by
 have h0 : bdz M (0, 0, 0, 0) := by unfold bdz; simp only; omega
 unfold ct
 split
 ·rw [show 2 * M = M + M by omega]
  refine bdz_adz ?_ ?_
  ·split
   ·exact hf i
   ·exact h0
  ·split
   ·split
    ·exact bd_ngz (hf i)
    ·exact hf i
   ·exact h0
 ·refine bdz_mono (M := M) (by omega) ?_
  split
  ·exact bd_oz _ (hf i)
  ·exact h0
/-- Valid gates by kind. -/
theorem ivg_cases {k a b c n : Int} (h : ivg k a b c n = true) : (1 ≤ n ∧ n ≤ 4) ∧ (0 ≤ a ∧ a < n) ∧ (((1 ≤ k ∧ k ≤ 8) ∧ b = 0 ∧ c = 0) ∨ ((9 ≤ k ∧ k ≤ 11) ∧ (0 ≤ b ∧ b < n) ∧ a ≠ b ∧ c = 0) ∨ (k = 12 ∧ ((0 ≤ b ∧ b < n) ∧ (0 ≤ c ∧ c < n)) ∧ a ≠ b ∧ a ≠ c ∧ b ≠ c)) := by
 unfold ivg arity at h
 by_cases h1 : 1 ≤ k ∧ k ≤ 8
 ·rw [if_pos h1] at h
  simp [okQ] at h
  refine ⟨by omega, by omega, Or.inl ⟨h1, by omega, by omega⟩⟩
 ·rw [if_neg h1] at h
  by_cases h2 : 9 ≤ k ∧ k ≤ 11
  ·rw [if_pos h2] at h
   simp [okQ] at h
   refine ⟨by omega, by omega, Or.inr (Or.inl ⟨h2, by omega, by omega, by omega⟩)⟩
  ·rw [if_neg h2] at h
   by_cases h3 : k = 12
   ·rw [if_pos h3] at h
    simp [okQ] at h
    refine ⟨by omega, by omega, Or.inr (Or.inr ⟨h3, by omega, by omega, by omega, by omega⟩)⟩
   ·rw [if_neg h3] at h
    simp at h
theorem ivg_gok {k a b c n : Int} (h : ivg k a b c n = true) : gok n.toNat (k, a, b, c) := by
 obtain ⟨h1, h2, h3⟩ := ivg_cases h
 unfold gok
 simp only
 rcases h3 with ⟨g1, g2, g3⟩ | ⟨g1, g2, g3, g4⟩ | ⟨g1, g2, g3⟩ <;> refine ⟨by omega, fun e => ⟨by omega, by omega⟩, fun e => ⟨⟨by omega, by omega⟩, by omega, by omega⟩⟩
/-- Where an amplitude goes. -/
def goF (q : GQ) (i : Nat) : List (Int × Int × Int × Int × Int × Int) :=
 if q.1 = 4 then [((loB i q.2.1.toNat : Int), hD), ((hiB i q.2.1.toNat : Int), if i.testBit q.2.1.toNat = true then hN else hD)] else [((mvA q i : Int), om (mvP q i))]
def goB (k a b c i : Nat) : Bool := s_l10Goes (k : Int) (a : Int) (b : Int) (c : Int) (i : Int) == some (goF ((k : Int), (a : Int), (b : Int), (c : Int)) i)
theorem go1 : ∀ k : Fin 8, ∀ a : Fin 4, ∀ i : Fin 16, goB (k.val + 1) a.val 0 0 i.val = true := by decide +kernel
theorem go2 : ∀ k : Fin 3, ∀ a b : Fin 4, ∀ i : Fin 16, goB (k.val + 9) a.val b.val 0 i.val = true := by decide +kernel
theorem go3 : ∀ a b c : Fin 4, ∀ i : Fin 16, goB 12 a.val b.val c.val i.val = true := by decide +kernel
theorem s_goes {k a b c n : Int} (h : ivg k a b c n = true) {i : Nat} (hi : i < 2 ^ n.toNat) : s_l10Goes k a b c (i : Int) = some (goF (k, a, b, c) i) := by
 obtain ⟨h1, h2, h3⟩ := ivg_cases h
 have h16 : i < 16 := Nat.lt_of_lt_of_le hi (by rcases four h1 with rfl | rfl | rfl | rfl <;> decide)
 obtain ⟨a', rfl⟩ : ∃ a' : Nat, a = a' := ⟨a.toNat, by omega⟩
 rcases h3 with ⟨g1, rfl, rfl⟩ | ⟨g1, g2, g3, rfl⟩ | ⟨rfl, g2, g3⟩
 ·obtain ⟨k', rfl⟩ : ∃ k' : Nat, k = ((k' + 1 : Nat) : Int) := ⟨(k - 1).toNat, by omega⟩
  exact eq_of_beq (go1 ⟨k', by omega⟩ ⟨a', by omega⟩ ⟨i, h16⟩)
 ·obtain ⟨k', rfl⟩ : ∃ k' : Nat, k = ((k' + 9 : Nat) : Int) := ⟨(k - 9).toNat, by omega⟩
  obtain ⟨b', rfl⟩ : ∃ b' : Nat, b = b' := ⟨b.toNat, by omega⟩
  exact eq_of_beq (go2 ⟨k', by omega⟩ ⟨a', by omega⟩ ⟨b', by omega⟩ ⟨i, h16⟩)
 ·obtain ⟨b', rfl⟩ : ∃ b' : Nat, b = b' := ⟨b.toNat, by omega⟩
  obtain ⟨c', rfl⟩ : ∃ c' : Nat, c = c' := ⟨c.toNat, by omega⟩
  exact eq_of_beq (go3 ⟨a', by omega⟩ ⟨b', by omega⟩ ⟨c', by omega⟩ ⟨i, h16⟩)
end Go.Proofs.YtfjopjalhllplaaGreat
/- Plain laws: ApplyGate, ApplyGates and BasisState of the reference, on states at a common exponent. -/
namespace Go.Proofs.YtfjopjalhllplaaGreat
open Go.RowKit
set_option maxRecDepth 100000
set_option linter.unusedVariables false
set_option linter.unusedSimpArgs false
theorem ag_in {q15 z : DQ} {x27 : List (Int × Int × Int × Int × Int × Int)} {v21 : Int} {kl3 : Int → List DQ → Option (List DQ × Bool)} {D K : Nat} {acc : Amp} {j t m0 : Nat} {m : Z4}
  (hK : K ≤ 60) (hj : x27[j]? = some ((t : Int), z)) (hj4 : j < 4) (hx : vd q15 = true) (hz : vd z = true) (hmul : mulF q15 z = some (dq K m)) (ht : t < D) (ha : bdz 1073741824 (acc t)) (hm : bdz 1073741824 m) (hs : bdz 1073741824 (adz (acc t) m)) :
  s_ApplyGate_l4 v21 kl3 q15 x27 (m0 + 1) (j : Int) (vc D K acc) = s_ApplyGate_l4 v21 kl3 q15 x27 m0 ((j + 1 : Nat) : Int) (vc D K (fun r => if r = t then adz (acc t) m else acc r)) := by
 obtain ⟨hjl, _⟩ := List.getElem?_eq_some_iff.1 hj
 have hlt : decide ((j : Int) < (x27.length : Int)) = true := decide_eq_true (by omega)
 rw [s_ApplyGate_l4, hlt, br_true, geti_nat hj, bO_some]
 simp only
 rw [s_mul' q15 z, if_pos ⟨hx, hz⟩, hmul, bO_some, vc_geti ht, bO_some]
 simp only [res]
 rw [s_add (dq K (acc t)) (dq K m), if_pos ⟨dq_vd hK ha, dq_vd hK hm⟩, dq_add hK ha hm hs, bO_some]
 simp only [res, Bool.not_true, br_false, bO_some, s_ApplyGate_j14]
 rw [w64s (n := 4) hj4 (by omega), show ((t : Int)).toNat = t by omega, vc_set ht]
theorem ag_end {q15 : DQ} {x27 : List (Int × Int × Int × Int × Int × Int)} {v21 : Int} {kl3 : Int → List DQ → Option (List DQ × Bool)} {v : List DQ} {m0 : Nat} :
  s_ApplyGate_l4 v21 kl3 q15 x27 (m0 + 1) (x27.length : Int) v = kl3 (IntKind.wrap .i64 (v21 + 1)) v := by
 have hlt : decide ((x27.length : Int) < (x27.length : Int)) = false := decide_eq_false (by omega)
 rw [s_ApplyGate_l4, hlt, br_false]
 rfl
theorem om_vd (a : Nat) : vd (om a) = true := by rw [om_dq]; exact dq_vd (by omega) (bd_one a)
theorem hD_vd : vd hD = true := by decide
theorem hN_vd : vd hN = true := by decide
theorem lo_ne_hi (i a : Nat) : loB i a ≠ hiB i a := by
 unfold loB hiB
 split
 ·exact xor_ne i a
 ·exact fun h => xor_ne i a h.symm
theorem lo_lt {n i a : Nat} (hi : i < 2 ^ n) (ha : a < n) : loB i a < 2 ^ n := by
 unfold loB; split
 ·exact xlt hi ha
 ·exact hi
theorem hi_lt {n i a : Nat} (hi : i < 2 ^ n) (ha : a < n) : hiB i a < 2 ^ n := by
 unfold hiB; split
 ·exact hi
 ·exact xlt hi ha
theorem ct_zero {q : GQ} {f : Amp} {i : Nat} (h : f i = (0, 0, 0, 0)) (r : Nat) : ct q f r i = (0, 0, 0, 0) := by
 unfold ct
 rw [h, mlz_0r]
 have : ngz (0, 0, 0, 0) = (0, 0, 0, 0) := rfl
 rw [this]
 simp only [ite_self]
 split <;> rfl
theorem FU_2 : ∃ m, FU = m + 3 := ⟨4194301, rfl⟩
def kq (k : Int) : Nat := if k = 4 then 1 else 0
theorem ag_loop {k a b c : Int} {n : Int} {K M : Nat} {f : Amp} (hv : ivg k a b c n = true) (hK : K + 1 ≤ 60) (hM : M ≤ 16777216) (hf : bdv M f) : ∀ (m i : Nat), i ≤ 2 ^ n.toNat → 2 ^ n.toNat - i < m →
  s_ApplyGate_l1 k a b c (vc (2 ^ n.toNat) K f) m (i : Int) (vc (2 ^ n.toNat) (K + kq k) (fun r => smz (ct (k, a, b, c) f r) i)) = some (vc (2 ^ n.toNat) (K + kq k) (gz (k, a, b, c) f), true) := by
 have hg := ivg_gok hv
 obtain ⟨hn, _, _⟩ := ivg_cases hv
 have h16 : 2 ^ n.toNat ≤ 16 := by rcases four hn with rfl | rfl | rfl | rfl <;> decide
 have hf30 : bdv 1073741824 f := fun i => bdz_mono (by omega) (hf i)
 have hKq : K + kq k ≤ 60 := by unfold kq; split <;> omega
 have hbd : ∀ r j, j ≤ 2 ^ n.toNat → bdz 536870912 (smz (ct (k, a, b, c) f r) j) := by
  intro r j hj
  have h1 : bdz ((j * (2 * M) : Nat) : Int) (smz (ct (k, a, b, c) f r) j) := smz_bd fun i _ => by
   have := ct_bd (M := M) (by omega) hf (k, a, b, c) r i
   exact this
  refine bdz_mono ?_ h1
  have : j * (2 * M) ≤ 16 * 33554432 := Nat.mul_le_mul (by omega) (by omega)
  omega
 have hadd : ∀ {x y : Z4}, bdz 536870912 x → bdz 33554432 y → bdz 1073741824 (adz x y) := fun hx hy => bdz_mono (by omega) (bdz_adz hx hy)
 intro m
 induction m with
 | zero => intro i _ h; omega
 | succ m ih =>
  intro i hi hm
  rw [s_ApplyGate_l1, vc_len]
  by_cases e : i = 2 ^ n.toNat
  ·subst e
   have hlt : decide (((2 ^ n.toNat : Nat) : Int) < ((2 ^ n.toNat : Nat) : Int)) = false := decide_eq_false (by omega)
   rw [hlt, br_false]
   unfold s_ApplyGate_j2
   rw [vc_congr (fun r hr => ct_sum hg f hr)]
  ·have hil : i < 2 ^ n.toNat := by omega
   have hlt : decide ((i : Int) < ((2 ^ n.toNat : Nat) : Int)) = true := decide_eq_true (by omega)
   have next := ih (i + 1) (by omega) (by omega)
   rw [hlt, br_true, vc_geti hil, bO_some, d0_eq]
   by_cases hz : f i = (0, 0, 0, 0)
   ·rw [decide_eq_true (dq_zero.2 hz), br_true]
    unfold s_ApplyGate_j11
    rw [w64s hil (by omega), ← next]
    congr 1
    refine vc_congr fun r _ => ?_
    rw [smz, ct_zero hz, adz_0r]
   ·rw [decide_eq_false (fun h => hz (dq_zero.1 h)), br_false, s_goes hv hil, bO_some]
    have hx : vd (dq K (f i)) = true := dq_vd (by omega) (hf30 i)
    obtain ⟨m3, hm3⟩ := FU_2
    by_cases h4 : k = 4
    ·subst h4
     have hlo := lo_lt hil hg.1
     have hhi := hi_lt hil hg.1
     simp only at hlo hhi
     have hk1 : kq 4 = 1 := rfl
     have e0 : goF (4, a, b, c) i = [((loB i a.toNat : Int), hD), ((hiB i a.toNat : Int), if i.testBit a.toNat = true then hN else hD)] := rfl
     have b1 : ∀ r, bdz 536870912 (smz (ct (4, a, b, c) f r) i) := fun r => hbd r i (by omega)
     have bf : bdz 33554432 (f i) := bdz_mono (by omega) (hf i)
     rw [e0]
     rw [hk1] at next ⊢
     have s1 := ag_in (q15 := dq K (f i)) (z := hD) (x27 := [((loB i a.toNat : Int), hD), ((hiB i a.toNat : Int), if i.testBit a.toNat = true then hN else hD)]) (v21 := (i : Int)) (kl3 := s_ApplyGate_l1 4 a b c (vc (2 ^ n.toNat) K f) m)
      (D := 2 ^ n.toNat) (K := K + 1) (acc := fun r => smz (ct (4, a, b, c) f r) i) (j := 0) (t := loB i a.toNat) (m0 := m3 + 2) (m := f i) hK rfl (by omega) hx hD_vd (hD_mul hK (hf30 i)) hlo (bdz_mono (by omega) (b1 _)) (hf30 i) (hadd (b1 _) bf)
     have bz : bdz 33554432 (if i.testBit a.toNat = true then ngz (f i) else f i) := by split; exact bd_ngz bf; exact bf
     have s2 := ag_in (q15 := dq K (f i)) (z := if i.testBit a.toNat = true then hN else hD) (x27 := [((loB i a.toNat : Int), hD), ((hiB i a.toNat : Int), if i.testBit a.toNat = true then hN else hD)]) (v21 := (i : Int)) (kl3 := s_ApplyGate_l1 4 a b c (vc (2 ^ n.toNat) K f) m)
      (D := 2 ^ n.toNat) (K := K + 1) (acc := fun r => if r = loB i a.toNat then adz (smz (ct (4, a, b, c) f (loB i a.toNat)) i) (f i) else smz (ct (4, a, b, c) f r) i) (j := 1) (t := hiB i a.toNat) (m0 := m3 + 1) (m := if i.testBit a.toNat = true then ngz (f i) else f i)
      hK rfl (by omega) hx (by split; exact hN_vd; exact hD_vd) (by split; exact hN_mul hK (hf30 i); exact hD_mul hK (hf30 i)) hhi (by rw [if_neg (lo_ne_hi i _).symm]; exact bdz_mono (by omega) (b1 _)) (bdz_mono (by omega) bz) (by rw [if_neg (lo_ne_hi i _).symm]; exact hadd (b1 _) bz)
     rw [hm3]
     refine s1.trans (s2.trans ?_)
     refine (ag_end (m0 := m3)).trans ?_
     rw [w64s hil (by omega), ← next]
     congr 1
     refine vc_congr fun r _ => ?_
     rw [smz]
     unfold ct
     rw [if_pos rfl]
     simp only
     by_cases r1 : r = hiB i a.toNat
     ·have r2 : ¬ r = loB i a.toNat := fun h => lo_ne_hi i a.toNat (h.symm.trans r1)
      rw [if_pos r1, if_pos r1, if_neg r2, if_neg (lo_ne_hi i _).symm, ← r1, adz_comm (0, 0, 0, 0), adz_0r]
     ·rw [if_neg r1, if_neg r1]
      by_cases r2 : r = loB i a.toNat
      ·rw [if_pos r2, if_pos r2, adz_0r, ← r2]
      ·rw [if_neg r2, if_neg r2]
       rw [show adz ((0, 0, 0, 0) : Z4) (0, 0, 0, 0) = (0, 0, 0, 0) from rfl, adz_0r]
    ·have hk0 : kq k = 0 := if_neg h4
     have hmv := mvA_lt hg hil
     have e0 : goF (k, a, b, c) i = [((mvA (k, a, b, c) i : Int), om (mvP (k, a, b, c) i))] := if_neg h4
     have b1 : ∀ r, bdz 536870912 (smz (ct (k, a, b, c) f r) i) := fun r => hbd r i (by omega)
     have bz : bdz 33554432 (mlz (oz (mvP (k, a, b, c) i)) (f i)) := bd_oz _ (bdz_mono (by omega) (hf i))
     rw [e0]
     rw [hk0, Nat.add_zero] at hKq ⊢
     simp only [hk0, Nat.add_zero] at next
     have s1 := ag_in (q15 := dq K (f i)) (z := om (mvP (k, a, b, c) i)) (x27 := [((mvA (k, a, b, c) i : Int), om (mvP (k, a, b, c) i))]) (v21 := (i : Int)) (kl3 := s_ApplyGate_l1 k a b c (vc (2 ^ n.toNat) K f) m)
      (D := 2 ^ n.toNat) (K := K) (acc := fun r => smz (ct (k, a, b, c) f r) i) (j := 0) (t := mvA (k, a, b, c) i) (m0 := m3 + 2) (m := mlz (oz (mvP (k, a, b, c) i)) (f i)) hKq rfl (by omega) hx (om_vd _) (om_mul _ hKq (hf30 i)) hmv (bdz_mono (by omega) (b1 _)) (bdz_mono (by omega) bz) (hadd (b1 _) bz)
     rw [hm3]
     refine s1.trans ?_
     refine (ag_end (m0 := m3 + 1)).trans ?_
     rw [w64s hil (by omega), ← next]
     congr 1
     refine vc_congr fun r _ => ?_
     rw [smz]
     unfold ct
     rw [if_neg h4]
     simp only
     by_cases r1 : r = mvA (k, a, b, c) i
     ·rw [if_pos r1, if_pos r1, ← r1]
     ·rw [if_neg r1, if_neg r1, adz_0r]
theorem qc_pow {n : Int} (hn : 1 ≤ n ∧ n ≤ 4) : qcF (2 ^ n.toNat) = n := by rcases four hn with rfl | rfl | rfl | rfl <;> decide
/-- A gate on a state. -/
theorem s_ag {k a b c n : Int} {K M : Nat} {f : Amp} (hv : ivg k a b c n = true) (hK : K + 1 ≤ 60) (hM : M ≤ 16777216) (hf : bdv M f) : s_ApplyGate k a b c (vc (2 ^ n.toNat) K f) = some (vc (2 ^ n.toNat) (K + kq k) (gz (k, a, b, c) f), true) := by
 obtain ⟨hn, _, _⟩ := ivg_cases hv
 have h16 : 2 ^ n.toNat ≤ 16 := by rcases four hn with rfl | rfl | rfl | rfl <;> decide
 have hf30 : bdv 1073741824 f := fun i => bdz_mono (by omega) (hf i)
 have hst : stB (vc (2 ^ n.toNat) K f) = true := vc_st (by rw [qc_pow hn]; omega) (by omega) hf30
 unfold s_ApplyGate
 rw [s_st _ (by rw [vc_len]; omega), bO_some, hst]
 simp only [Bool.not_true, br_false]
 rw [s_qc, vc_len, qc_pow hn, bO_some, s_ivg, hv, bO_some]
 simp only [Bool.not_true, bO_some, s_ApplyGate_j1, br_false]
 have hg : decide (0 ≤ ((2 ^ n.toNat : Nat) : Int) ∧ ((2 ^ n.toNat : Nat) : Int) ≤ 1048576) = true := (fun x hx => decide_eq_true (by omega) : ∀ x : Nat, x ≤ 16 → decide (0 ≤ (x : Int) ∧ (x : Int) ≤ 1048576) = true) _ h16
 rw [vc_len, hg, gd_true]
 have e0 : List.replicate (((2 ^ n.toNat : Nat) : Int)).toNat ((0, 0, 0, 0, 0) : Int × Int × Int × Int × Int) = vc (2 ^ n.toNat) (K + kq k) (fun r => smz (ct (k, a, b, c) f r) 0) := by
  unfold vc
  rw [Int.toNat_natCast]
  refine List.ext_getElem? fun i => ?_
  by_cases h : i < 2 ^ n.toNat
  ·rw [List.getElem?_replicate, if_pos h, List.getElem?_map, List.getElem?_range h]
   show some d0 = some (dq _ (0, 0, 0, 0))
   rw [dq_0]
  ·rw [List.getElem?_eq_none (by simp; omega), List.getElem?_eq_none (by simp; omega)]
 rw [e0]
 exact ag_loop hv hK hM hf FU 0 (Nat.zero_le _) (by rw [FU_eq]; omega)
theorem gz_bd' {e : Nat} {f : Amp} (h : bdv ((2 ^ e : Nat) : Int) f) (q : GQ) : bdv ((2 ^ (e + kq q.1) : Nat) : Int) (gz q f) := by
 have := gz_bd h q
 unfold kq
 split
 ·rename_i h4
  rw [if_pos h4] at this
  rw [Nat.pow_succ]
  intro i
  exact bdz_mono (by omega) (this i)
 ·rename_i h4
  rw [if_neg h4] at this
  exact this
theorem hc_cons (q : GQ) (L : List GQ) : hc (q :: L) = kq q.1 + hc L := rfl
theorem pow24 {e : Nat} (h : e ≤ 24) : 2 ^ e ≤ 16777216 := by
 have := Nat.pow_le_pow_right (n := 2) (by omega) h
 exact this
theorem ags_loop {n : Int} (L : List GQ) (hL : L.length ≤ 4000000) (hv : ∀ q ∈ L, ivg q.1 q.2.1 q.2.2.1 q.2.2.2 n = true) : ∀ (m j K e : Nat) (f : Amp), j ≤ L.length → L.length - j < m → K + hc (L.drop j) ≤ 59 → e + hc (L.drop j) ≤ 24 → bdv ((2 ^ e : Nat) : Int) f →
  s_ApplyGates_l1 L m (j : Int) (vc (2 ^ n.toNat) K f) = some (vc (2 ^ n.toNat) (K + hc (L.drop j)) (gzs (L.drop j) f), true) := by
 intro m
 induction m with
 | zero => intro j K e f _ h; omega
 | succ m ih =>
  intro j K e f hj hm hK he hf
  rw [s_ApplyGates_l1]
  by_cases hjl : j < L.length
  ·have hlt : decide ((j : Int) < (L.length : Int)) = true := decide_eq_true (by omega)
   have ed : L.drop j = L[j] :: L.drop (j + 1) := List.drop_eq_getElem_cons hjl
   have hq := hv L[j] (List.getElem_mem hjl)
   rw [ed] at hK he ⊢
   rw [hc_cons] at hK he ⊢
   rw [hlt, br_true, geti_lt hjl, bO_some, s_ag hq (by omega) (pow24 (by omega)) hf, bO_some]
   simp only [Bool.not_true, br_false]
   rw [w64s hjl (by omega), ih (j + 1) (K + kq L[j].1) (e + kq L[j].1) _ (by omega) (by omega) (by omega) (by omega) (gz_bd' hf L[j]), gzs_cons, Nat.add_assoc]
  ·have hlt : decide ((j : Int) < (L.length : Int)) = false := decide_eq_false (by omega)
   rw [hlt, br_false, List.drop_eq_nil_of_le (by omega)]
   rfl
/-- Gates on a state. -/
theorem s_ags {n : Int} (hn : 1 ≤ n ∧ n ≤ 4) {L : List GQ} (hL : L.length ≤ 4000000) (hv : ∀ q ∈ L, ivg q.1 q.2.1 q.2.2.1 q.2.2.2 n = true) {K e : Nat} {f : Amp} (hK : K + hc L ≤ 59) (he : e + hc L ≤ 24) (hf : bdv ((2 ^ e : Nat) : Int) f) :
  s_ApplyGates L (vc (2 ^ n.toNat) K f) = some (vc (2 ^ n.toNat) (K + hc L) (gzs L f), true) := by
 have h16 : 2 ^ n.toNat ≤ 16 := by rcases four hn with rfl | rfl | rfl | rfl <;> decide
 have hp := pow24 (e := e) (by omega)
 have hf30 : bdv 1073741824 f := fun i => bdz_mono (by omega) (hf i)
 have hst : stB (vc (2 ^ n.toNat) K f) = true := vc_st (by rw [qc_pow hn]; omega) (by omega) hf30
 unfold s_ApplyGates
 rw [s_st _ (by rw [vc_len]; omega), bO_some, hst]
 simp only [Bool.not_true, br_false]
 unfold s_l6Copy
 rw [decide_eq_true (by rw [vc_len]; simp; omega), gd_true, bO_some]
 have := ags_loop L hL hv FU 0 K e f (Nat.zero_le _) (by rw [FU_eq]; omega) (by simpa using hK) (by simpa using he) hf
 rw [List.drop_zero] at this
 exact this
def bsB (n i : Nat) : Bool := !decide (i < 2 ^ n) || s_BasisState (n : Int) (i : Int) == some (vc (2 ^ n) 0 (dl i))
theorem bs_fin : ∀ n : Fin 4, ∀ i : Fin 16, bsB (n.val + 1) i.val = true := by decide +kernel
theorem s_bs {n : Int} (hn : 1 ≤ n ∧ n ≤ 4) {i : Nat} (hi : i < 2 ^ n.toNat) : s_BasisState n (i : Int) = some (vc (2 ^ n.toNat) 0 (dl i)) := by
 have h16 : i < 16 := Nat.lt_of_lt_of_le hi (by rcases four hn with rfl | rfl | rfl | rfl <;> decide)
 obtain ⟨n', rfl⟩ : ∃ n' : Nat, n = ((n' + 1 : Nat) : Int) := ⟨(n - 1).toNat, by omega⟩
 have := bs_fin ⟨n', by omega⟩ ⟨i, h16⟩
 unfold bsB at this
 simp only [Int.toNat_natCast] at hi ⊢
 rw [decide_eq_true hi, Bool.not_true, Bool.false_or] at this
 exact eq_of_beq this
/-- Gates on a basis state. -/
theorem s_run {n : Int} (hn : 1 ≤ n ∧ n ≤ 4) {L : List GQ} (hL : L.length ≤ 4000000) (hv : ∀ q ∈ L, ivg q.1 q.2.1 q.2.2.1 q.2.2.2 n = true) (hh : hc L ≤ 24) (i : Nat) : s_ApplyGates L (vc (2 ^ n.toNat) 0 (dl i)) = some (vc (2 ^ n.toNat) (hc L) (gzs L (dl i)), true) := by
 have := s_ags hn hL hv (K := 0) (e := 0) (f := dl i) (by omega) (by omega) (dl_bd i)
 rwa [Nat.zero_add] at this
theorem gzs_bd {e : Nat} : ∀ {L : List GQ} {f : Amp}, bdv ((2 ^ e : Nat) : Int) f → bdv ((2 ^ (e + hc L) : Nat) : Int) (gzs L f)
 | [], f, h => h
 | q :: L, f, h => by
  rw [hc_cons, ← Nat.add_assoc, gzs_cons]
  exact gzs_bd (gz_bd' h q)
end Go.Proofs.YtfjopjalhllplaaGreat
/- Plain laws: states times phases, equality up to a phase, and 'apart'. -/
namespace Go.Proofs.YtfjopjalhllplaaGreat
open Go.RowKit
set_option maxRecDepth 100000
set_option linter.unusedVariables false
set_option linter.unusedSimpArgs false
theorem vc_snoc (K : Nat) (f : Amp) (i : Nat) : vc (i + 1) K f = vc i K f ++ [dq K (f i)] := by unfold vc; rw [List.range_succ, List.map_append]; rfl
/-- A state times a number that acts on all its amplitudes. -/
theorem sc_loop {D K L : Nat} {f g : Amp} {z : DQ} (hD : D ≤ 16) (hst : stB (vc D K f) = true) (hz : vd z = true) (hg : bdv 1073741824 g) (hm : ∀ i, i < D → mulF (dq K (f i)) z = some (dq L (g i))) : ∀ (m i : Nat), i ≤ D → D - i < m →
  s_ScaleState_l1 (vc D K f) z.1 z.2.1 z.2.2.1 z.2.2.2.1 z.2.2.2.2 m (i : Int) (vc i L g) = some (vc D L g, true) := by
 intro m
 induction m with
 | zero => intro i _ h; omega
 | succ m ih =>
  intro i hi hmm
  rw [s_ScaleState_l1, vc_len]
  by_cases e : i = D
  ·subst e
   have hlt : decide ((i : Int) < (i : Int)) = false := decide_eq_false (by omega)
   rw [hlt, br_false]
   unfold s_ScaleState_j1
   rw [s_st _ (by rw [vc_len]; omega), hst, bO_some]
  ·have hil : i < D := by omega
   have hlt : decide ((i : Int) < (D : Int)) = true := decide_eq_true (by omega)
   have hx : vd (dq K (f i)) = true := (st_inv hst).1 _ (List.mem_of_getElem? (vc_get hil))
   rw [hlt, br_true, vc_geti hil, bO_some, s_mul' (dq K (f i)) z, if_pos ⟨hx, hz⟩, hm i hil, bO_some]
   simp only [res, Bool.not_true, br_false]
   rw [s_st _ (by rw [vc_len]; omega), hst, bO_some, bO_some]
   unfold s_ScaleState_j4
   rw [Bool.not_true, br_false, decide_eq_true (by rw [vc_len]; simp; omega), gd_true, w64s hil (by omega)]
   have := ih (i + 1) (by omega) (by omega)
   rw [vc_snoc] at this
   exact this
theorem s_scale {D K L : Nat} {f g : Amp} {z : DQ} (hD : D ≤ 16) (hst : stB (vc D K f) = true) (hz : vd z = true) (hg : bdv 1073741824 g) (hm : ∀ i, i < D → mulF (dq K (f i)) z = some (dq L (g i))) :
  s_ScaleState (vc D K f) z.1 z.2.1 z.2.2.1 z.2.2.2.1 z.2.2.2.2 = some (vc D L g, true) := by
 unfold s_ScaleState
 exact sc_loop hD hst hz hg hm FU 0 (Nat.zero_le _) (by rw [FU_eq]; omega)
theorem pf_fin : ∀ k : Fin 8, s_PhaseFactor (k.val : Int) = some (om k.val) := by decide +kernel
theorem s_phase {D K : Nat} {f : Amp} (hD : D ≤ 16) (hq : 0 < qcF D) (hK : K ≤ 60) (hf : bdv 1073741824 f) (k : Nat) : s_ScaleState (vc D K f) (om k).1 (om k).2.1 (om k).2.2.1 (om k).2.2.2.1 (om k).2.2.2.2 = some (vc D K (fun i => mlz (oz k) (f i)), true) :=
 s_scale hD (vc_st hq hK hf) (om_vd k) (fun i => bd_oz k (hf i)) (fun i _ => om_mul k hK (hf i))
theorem vc_inj {D K L : Nat} {f g : Amp} : vc D K f = vc D L g ↔ ∀ i, i < D → rtn L (f i) = rtn K (g i) := by
 constructor
 ·intro h i hi
  have h1 := vc_get (K := K) (f := f) hi
  rw [h, vc_get hi] at h1
  exact dq_eq2.1 (Option.some.inj h1).symm
 ·intro h
  unfold vc
  exact List.map_congr_left fun i hi => dq_eq2.2 (h i (List.mem_range.1 hi))
/-- Columns of a map. -/
def cl (D K : Nat) (F : Nat → Amp) : List (List DQ) := (List.range D).map fun i => vc D K (F i)
theorem cl_len (D K : Nat) (F : Nat → Amp) : (cl D K F).length = D := by simp [cl]
theorem cl_get {D K : Nat} {F : Nat → Amp} {i : Nat} (h : i < D) : (cl D K F)[i]? = some (vc D K (F i)) := by unfold cl; rw [List.getElem?_map, List.getElem?_range h]; rfl
theorem cl_mt {D K : Nat} {F : Nat → Amp} (hq : 0 < qcF D) (hK : K ≤ 60) (hf : ∀ i, bdv 1073741824 (F i)) : mtB (cl D K F) = true := by
 unfold mtB
 rw [Bool.and_eq_true, List.all_eq_true, decide_eq_true_eq, cl_len]
 refine ⟨fun x hx => ?_, ?_⟩
 ·obtain ⟨i, _, rfl⟩ := List.mem_map.1 hx
  rw [Bool.and_eq_true, beq_iff_eq, vc_len]
  exact ⟨rfl, vc_st hq hK (hf i)⟩
 ·unfold qcF at hq
  (repeat' split at hq) <;> omega
def PhK (D K L : Nat) (F G : Nat → Amp) (k : Nat) : Prop := ∀ c r, c < D → r < D → rtn L (F c r) = rtn K (mlz (oz k) (G c r))
section
variable {D K L : Nat} {F G : Nat → Amp}
open Classical in
theorem gp_in (hD : D ≤ 16) (hq : 0 < qcF D) (hK : K ≤ 60) (hL : L ≤ 60) (hF : ∀ i, bdv 1073741824 (F i)) (hG : ∀ i, bdv 1073741824 (G i)) (k : Nat) (hk : k < 8) (kl3 : Int → Option (Int × Bool)) : ∀ (m j : Nat), j ≤ D → D - j + 1 < m →
  (∀ c r, c < j → r < D → rtn L (F c r) = rtn K (mlz (oz k) (G c r))) → s_GlobalPhase_l4 (cl D K F) (cl D L G) (k : Int) kl3 m true (j : Int) = if PhK D K L F G k then some ((k : Int), true) else kl3 ((k + 1 : Nat) : Int) := by
 intro m
 induction m with
 | zero => intro j _ h; omega
 | succ m ih =>
  intro j hj hm hp
  rw [s_GlobalPhase_l4, cl_len]
  by_cases e : j = D
  ·subst e
   have hlt : decide ((j : Int) < (j : Int)) = false := decide_eq_false (by omega)
   rw [hlt, br_false, bO_some]
   unfold s_GlobalPhase_j17
   rw [br_false]
   unfold s_GlobalPhase_j14
   rw [br_true, if_pos (show PhK j K L F G k from hp)]
  ·have hjl : j < D := by omega
   have hlt : decide ((j : Int) < (D : Int)) = true := decide_eq_true (by omega)
   rw [hlt, br_true, bO_some]
   unfold s_GlobalPhase_j17
   rw [br_true, geti_nat (cl_get hjl), bO_some, pf_fin ⟨k, hk⟩, bO_some, s_phase hD hq hL (hG j) k, bO_some]
   simp only [br_true]
   rw [geti_nat (cl_get hjl), bO_some, s_eqs _ _ (by rw [vc_len]; omega), bO_some, bO_some, w64s hjl (by omega)]
   by_cases h : vc D L (fun i => mlz (oz k) (G j i)) = vc D K (F j)
   ·rw [h, beq_self_eq_true]
    refine ih (j + 1) (by omega) (by omega) (fun c r hc hr => ?_)
    by_cases ec : c = j
    ·subst ec
     exact (vc_inj.1 h r hr).symm
    ·exact hp c r (by omega) hr
   ·rw [beq_eq_false_iff_ne.2 h]
    obtain ⟨m', rfl⟩ : ∃ m', m = m' + 1 := ⟨m - 1, by omega⟩
    rw [s_GlobalPhase_l4]
    have stop : bO (br (decide ((((j + 1 : Nat) : Int)) < ((cl D K F).length : Int))) (some false) (some false)) (fun x48 => s_GlobalPhase_j17 (cl D K F) (cl D L G) (k : Int) kl3 false ((j + 1 : Nat) : Int) (s_GlobalPhase_l4 (cl D K F) (cl D L G) (k : Int) kl3 m') x48) = kl3 ((k + 1 : Nat) : Int) := by
     cases decide ((((j + 1 : Nat) : Int)) < ((cl D K F).length : Int))
     all_goals
      simp only [br_true, br_false, bO_some]
      unfold s_GlobalPhase_j17
      rw [br_false]
      unfold s_GlobalPhase_j14
      rw [br_false]
      unfold s_GlobalPhase_j13
      rw [w64s hk (by omega)]
    rw [stop, if_neg]
    intro hk'
    exact h (vc_inj.2 fun r hr => (hk' j r hjl hr).symm)
theorem gp_out (hD : D ≤ 16) (hq : 0 < qcF D) (hK : K ≤ 60) (hL : L ≤ 60) (hF : ∀ i, bdv 1073741824 (F i)) (hG : ∀ i, bdv 1073741824 (G i)) : ∀ (m k : Nat), k ≤ 8 → 8 - k < m → (∀ j, j < k → ¬ PhK D K L F G j) →
  ∃ r, s_GlobalPhase_l1 (cl D K F) (cl D L G) m (k : Int) = some r ∧ (r.2 = true ↔ ∃ j, j < 8 ∧ PhK D K L F G j) := by
 intro m
 induction m with
 | zero => intro k _ h; omega
 | succ m ih =>
  intro k hk hm hn
  rw [s_GlobalPhase_l1]
  by_cases e : k = 8
  ·subst e
   refine ⟨(0, false), rfl, by simp, ?_⟩
   rintro ⟨j, hj, hp⟩
   exact absurd hp (hn j hj)
  ·have hlt : decide ((k : Int) < 8) = true := decide_eq_true (by omega)
   rw [hlt, br_true, show ((0 : Int)) = ((0 : Nat) : Int) from rfl, gp_in hD hq hK hL hF hG k (by omega) _ FU 0 (Nat.zero_le _) (by rw [FU_eq]; omega) (fun c r hc => by omega)]
   by_cases h : PhK D K L F G k
   ·rw [if_pos h]
    exact ⟨_, rfl, fun _ => ⟨k, by omega, h⟩, fun _ => rfl⟩
   ·rw [if_neg h]
    refine ih (k + 1) (by omega) (by omega) (fun j hj => ?_)
    by_cases ej : j = k
    ·subst ej; exact h
    ·exact hn j (by omega)
theorem s_gp (hD : D ≤ 16) (hq : 0 < qcF D) (hK : K ≤ 60) (hL : L ≤ 60) (hF : ∀ i, bdv 1073741824 (F i)) (hG : ∀ i, bdv 1073741824 (G i)) :
  ∃ r, s_GlobalPhase (cl D K F) (cl D L G) = some r ∧ (r.2 = true ↔ ∃ j, j < 8 ∧ PhK D K L F G j) := by
 have hl : ∀ (K : Nat) (F : Nat → Amp), ∀ r ∈ cl D K F, r.length ≤ 4000000 := fun K F r hr => by
  obtain ⟨i, _, rfl⟩ := List.mem_map.1 hr
  rw [vc_len]; omega
 unfold s_GlobalPhase
 rw [s_mt _ (by rw [cl_len]; omega) (hl K F), cl_mt hq hK hF, bO_some]
 simp only [Bool.not_true, br_false]
 rw [s_mt _ (by rw [cl_len]; omega) (hl L G), cl_mt hq hL hG, bO_some]
 simp only [Bool.not_true, br_false, bO_some, cl_len, bne_self_eq_false, s_GlobalPhase_j1]
 exact gp_out hD hq hK hL hF hG FU 0 (by omega) (by rw [FU_eq]; omega) (fun j hj => by omega)
end
theorem cl_snoc {D K : Nat} {F : Nat → Amp} {i : Nat} : (List.range (i + 1)).map (fun j => vc D K (F j)) = (List.range i).map (fun j => vc D K (F j)) ++ [vc D K (F i)] := by rw [List.range_succ, List.map_append]; rfl
theorem ap_loop {n : Int} (hn : 1 ≤ n ∧ n ≤ 4) {A B : List GQ} (lA : A.length ≤ 4000000) (lB : B.length ≤ 4000000) (hA : ∀ q ∈ A, ivg q.1 q.2.1 q.2.2.1 q.2.2.2 n = true) (hB : ∀ q ∈ B, ivg q.1 q.2.1 q.2.2.1 q.2.2.2 n = true) (cA : hc A ≤ 24) (cB : hc B ≤ 24) : ∀ (m i : Nat), i ≤ 2 ^ n.toNat → 2 ^ n.toNat - i < m →
  ∃ r, l_apart_l1 A B n m (i : Int) ((List.range i).map fun j => vc (2 ^ n.toNat) (hc A) (gzs A (dl j))) ((List.range i).map fun j => vc (2 ^ n.toNat) (hc B) (gzs B (dl j))) = some r ∧ (r.2 = true ↔ ∃ k, k < 8 ∧ PhK (2 ^ n.toNat) (hc A) (hc B) (fun j => gzs A (dl j)) (fun j => gzs B (dl j)) k) := by
 have h16 : 2 ^ n.toNat ≤ 16 := by rcases four hn with rfl | rfl | rfl | rfl <;> decide
 have hu : IntKind.wrap .u64 n = n := IntWalk.u64_in _ (by omega)
 have hs : IntKind.wrap .i64 (1 * 2 ^ min (Int.toNat n) (IntKind.bits .i64)) = ((2 ^ n.toNat : Nat) : Int) := by rcases four hn with rfl | rfl | rfl | rfl <;> decide
 have hng : decide (¬ n < 0) = true := decide_eq_true (by omega)
 have hb : ∀ (A : List GQ), hc A ≤ 24 → ∀ i, bdv 1073741824 (gzs A (dl i)) := fun A hA i r => by
  have h1 := gzs_bd (e := 0) (L := A) (dl_bd i) r
  have h2 := pow24 (e := 0 + hc A) (by omega)
  exact bdz_mono (by omega) h1
 intro m
 induction m with
 | zero => intro i _ h; omega
 | succ m ih =>
  intro i hi hm
  rw [l_apart_l1]
  simp only [hu, hs, hng, gd_true]
  by_cases e : i = 2 ^ n.toNat
  ·have hlt : decide ((i : Int) < ((2 ^ n.toNat : Nat) : Int)) = false := by rw [e]; exact decide_eq_false (Int.lt_irrefl _)
   rw [hlt, br_false]
   unfold l_apart_j1
   obtain ⟨r, h1, h2⟩ := s_gp (D := 2 ^ n.toNat) (K := hc A) (L := hc B) (F := fun j => gzs A (dl j)) (G := fun j => gzs B (dl j)) h16 (by rw [qc_pow hn]; omega) (by omega) (by omega) (hb A cA) (hb B cB)
   rw [e]
   unfold cl at h1
   rw [h1, bO_some]
   exact ⟨_, rfl, h2⟩
  ·have hil : i < 2 ^ n.toNat := by omega
   have hlt : decide ((i : Int) < ((2 ^ n.toNat : Nat) : Int)) = true := (fun x h => decide_eq_true (by omega) : ∀ x : Nat, i < x → decide ((i : Int) < (x : Int)) = true) _ hil
   rw [hlt, br_true, s_bs hn hil, bO_some, s_run hn lA hA cA i, bO_some, bO_some, s_run hn lB hB cB i, bO_some]
   simp only [Bool.not_true, br_false, bO_some, l_apart_j4]
   have hle : i ≤ 16 := by omega
   have hlen : ∀ (K : Nat) (F : Nat → Amp) (x : List DQ), decide (((List.range i).map fun j => vc (2 ^ n.toNat) K (F j)).length + [x].length ≤ 16777216) = true := fun K F x => decide_eq_true (by simp; omega)
   rw [hlen, gd_true, hlen, gd_true, w64s (n := 17) (by omega) (by omega)]
   have := ih (i + 1) (by omega) (by omega)
   rw [cl_snoc (F := fun j => gzs A (dl j)), cl_snoc (F := fun j => gzs B (dl j))] at this
   exact this
/-- 'apart': do two rows of gates the same, up to a phase? -/
theorem l_ap {n : Int} (hn : 1 ≤ n ∧ n ≤ 4) {A B : List GQ} (lA : A.length ≤ 4000000) (lB : B.length ≤ 4000000) (hA : ∀ q ∈ A, ivg q.1 q.2.1 q.2.2.1 q.2.2.2 n = true) (hB : ∀ q ∈ B, ivg q.1 q.2.1 q.2.2.1 q.2.2.2 n = true) (cA : hc A ≤ 24) (cB : hc B ≤ 24) :
  ∃ r, l_apart A B n = some r ∧ (r.2 = true ↔ Sim n.toNat A B) := by
 have h16 : 2 ^ n.toNat ≤ 16 := by rcases four hn with rfl | rfl | rfl | rfl <;> decide
 obtain ⟨r, h1, h2⟩ := ap_loop hn lA lB hA hB cA cB FU 0 (Nat.zero_le _) (by rw [FU_eq]; omega)
 refine ⟨r, h1, h2.trans ⟨?_, ?_⟩⟩
 ·rintro ⟨k, _, hk⟩
  exact ⟨k, simK_of (fun q hq => ivg_gok (hA q hq)) (fun q hq => ivg_gok (hB q hq)) hk⟩
 ·rintro ⟨k, hk⟩
  refine ⟨k % 8, by omega, fun c r _ hr => ?_⟩
  have := hk (dl c) r hr
  rw [oz_mod] at this
  exact this
end Go.Proofs.YtfjopjalhllplaaGreat
