/- Texts joined by a program (short names, no comments): Pv Pvc Pvd Psm Psn Ge Pzc Pvx Pve Pok Px Pd Db Pso Psi Psj Psk Mip Mit Mir Pxa Pxb Pxc Pzq Mio Mu Mwa Mwg Mwv Mwn Mwt. -/
import Derived.Test.YtbfmljdablopjaaGreatK4
namespace Go.Proofs.YtbfmljdablopjaaGreat
open Go.RowKit
set_option maxRecDepth 100000
set_option linter.unusedVariables false
set_option linter.unusedSimpArgs false
set_option linter.defProp false
set_option maxHeartbeats 4000000
theorem wU (k : Int) : jj k = some (dR k) := by
 unfold jj dR
 simp only [bx, aC]
 by_cases h1 : 1 ≤ k ∧ k ≤ 8
 ·simp only [h1, and_self, decide_true, aS, if_true]
 ·by_cases h2 : 9 ≤ k ∧ k ≤ 11
  ·simp only [h1, h2, and_self, decide_true, decide_false, aS, aF, if_true, if_false, aC]
  ·by_cases h3 : k = 12
   ·subst h3; rfl
   ·have : (k == 12) = false := by simpa using h3
    simp only [h1, h2, h3, this, decide_false, aF, if_false, aC]
theorem ar4 (k : Int) : dR k = 0 ∨ dR k = 1 ∨ dR k = 2 ∨ dR k = 3 := by unfold dR; (repeat' split) <;> simp
theorem Kh (k a b c : Int) : fy k a b c = some ([a, b, c].take (dR k).toNat) := by
 unfold fy
 rw [wU, aC]
 rcases ar4 k with h | h | h | h <;> rw [h] <;> rfl
theorem I2 (a : Int) : ∀ l : List Int, l.length ≤ 3 → lX l a = some (l.contains a)
 | [], _ => rfl
 | [x], _ => by
  show br (x == a) (some true) (some false) = _
  rw [List.contains_cons, BEq.comm]
  cases (a == x) <;> rfl
 | [x, y], _ => by
  show br (x == a) (some true) (br (y == a) (some true) (some false)) = _
  rw [List.contains_cons, List.contains_cons, BEq.comm (a := x), BEq.comm (a := y)]
  cases (a == x) <;> cases (a == y) <;> rfl
 | [x, y, z], _ => by
  show br (x == a) (some true) (br (y == a) (some true) (br (z == a) (some true) (some false))) = _
  rw [List.contains_cons, List.contains_cons, List.contains_cons, BEq.comm (a := x), BEq.comm (a := y), BEq.comm (a := z)]
  cases (a == x) <;> cases (a == y) <;> cases (a == z) <;> rfl
 | _ :: _ :: _ :: _ :: _, h => by simp at h
theorem g0 (a b c : Int) : ak [a, b, c] 0 = some a := rfl
theorem g1 (a b c : Int) : ak [a, b, c] 1 = some b := rfl
theorem g2 (a b c : Int) : ak [a, b, c] 2 = some c := rfl
theorem u1 : IntKind.wrap .i64 (0 + 1) = 1 := rfl
theorem u2 : IntKind.wrap .i64 (1 + 1) = 2 := rfl
theorem u3 : IntKind.wrap .i64 (2 + 1) = 3 := rfl
theorem nf (n : Int) (x1 l : List Int) (m : Nat) (v q : Int) (hv : 0 ≤ v ∧ v < 3) (hg : ak l v = some q) (hx : x1.length ≤ 3) (f : Bool)
  (h1 : (x1.length : Int) ≤ v → f = (q != 0)) (h2 : v < (x1.length : Int) → f = (!(decide (0 ≤ q ∧ q ≤ IntKind.wrap .i64 (n - 1))) || (x1.take v.toNat).contains q)) :
  b7 n x1 (m + 1) l v = br f (some false) (b7 n x1 m l (IntKind.wrap .i64 (v + 1))) := by
 rw [b7, hg]
 simp only [decide_eq_true hv.2, aS, aC]
 by_cases hl : (x1.length : Int) ≤ v
 ·have hl2 : ¬ v < (x1.length : Int) := by omega
  rw [h1 hl]
  simp only [hl, hl2, decide_true, decide_false, aS, aF, aC, eQ]
  cases (q != 0) <;> rfl
 ·have hl2 : v < (x1.length : Int) := by omega
  rw [h2 hl2]
  have hs : slc x1 0 v = some (x1.take v.toNat) := by
   have := HJ (l := x1) (k := v.toNat) (by omega)
   rwa [Int.toNat_of_nonneg hv.1] at this
  simp only [hl, hl2, decide_true, decide_false, aS, aF, aC, eQ, bx, hs, I2 q (x1.take v.toNat) (by simp; omega)]
  cases decide (0 ≤ q ∧ q ≤ IntKind.wrap .i64 (n - 1)) <;> cases (x1.take v.toNat).contains q <;> rfl
theorem DB (k a b c n : Int) : du k a b c n = some (ivg k a b c n) := by
 unfold du
 rw [Kh, aC, show FU = 4194300 + 1 + 1 + 1 + 1 from rfl]
 rcases ar4 k with h | h | h | h
 ·rw [h, show ([a, b, c].take (Int.toNat 0)) = [] from rfl, nf n _ _ _ 0 a (by omega) rfl (by simp) (a != 0) (fun _ => rfl) (fun hh => by simp at hh), u1, nf n _ _ _ 1 b (by omega) rfl (by simp) (b != 0) (fun _ => rfl) (fun hh => by simp at hh), u2, nf n _ _ _ 2 c (by omega) rfl (by simp) (c != 0) (fun _ => rfl) (fun hh => by simp at hh), u3, b7]
  unfold ivg
  rw [h]
  by_cases hn : 1 ≤ n ∧ n ≤ 4
  ·rw [w64 (x := n - 1) (by omega) (by omega)]
   simp only [okQ, hn, and_self, bY, bX, bx, aC, br, bO]
   simp
   try grind
  ·simp only [hn, bY, bX, bx, aC, decide_false, Bool.false_and]
   simp [br, bO]
   (repeat' split) <;> rfl
 ·rw [h, show ([a, b, c].take (Int.toNat 1)) = [a] from rfl, nf n _ _ _ 0 a (by omega) rfl (by simp) (!(decide (0 ≤ a ∧ a ≤ IntKind.wrap .i64 (n - 1))) || ([] : List Int).contains a) (fun hh => by simp at hh) (fun _ => rfl), u1, nf n _ _ _ 1 b (by omega) rfl (by simp) (b != 0) (fun _ => rfl) (fun hh => by simp at hh), u2, nf n _ _ _ 2 c (by omega) rfl (by simp) (c != 0) (fun _ => rfl) (fun hh => by simp at hh), u3, b7]
  unfold ivg
  rw [h]
  by_cases hn : 1 ≤ n ∧ n ≤ 4
  ·rw [w64 (x := n - 1) (by omega) (by omega)]
   simp only [okQ, hn, and_self, bY, bX, bx, aC, br, bO]
   simp
   try grind
  ·simp only [hn, bY, bX, bx, aC, decide_false, Bool.false_and]
   simp [br, bO]
   (repeat' split) <;> rfl
 ·rw [h, show ([a, b, c].take (Int.toNat 2)) = [a, b] from rfl, nf n _ _ _ 0 a (by omega) rfl (by simp) (!(decide (0 ≤ a ∧ a ≤ IntKind.wrap .i64 (n - 1))) || ([] : List Int).contains a) (fun hh => by simp at hh) (fun _ => rfl), u1, nf n _ _ _ 1 b (by omega) rfl (by simp) (!(decide (0 ≤ b ∧ b ≤ IntKind.wrap .i64 (n - 1))) || [a].contains b) (fun hh => by simp at hh) (fun _ => rfl), u2, nf n _ _ _ 2 c (by omega) rfl (by simp) (c != 0) (fun _ => rfl) (fun hh => by simp at hh), u3, b7]
  unfold ivg
  rw [h]
  by_cases hn : 1 ≤ n ∧ n ≤ 4
  ·rw [w64 (x := n - 1) (by omega) (by omega)]
   simp only [okQ, hn, and_self, bY, bX, bx, aC, br, bO]
   simp
   try grind
  ·simp only [hn, bY, bX, bx, aC, decide_false, Bool.false_and]
   simp [br, bO]
   (repeat' split) <;> rfl
 ·rw [h, show ([a, b, c].take (Int.toNat 3)) = [a, b, c] from rfl, nf n _ _ _ 0 a (by omega) rfl (by simp) (!(decide (0 ≤ a ∧ a ≤ IntKind.wrap .i64 (n - 1))) || ([] : List Int).contains a) (fun hh => by simp at hh) (fun _ => rfl), u1, nf n _ _ _ 1 b (by omega) rfl (by simp) (!(decide (0 ≤ b ∧ b ≤ IntKind.wrap .i64 (n - 1))) || [a].contains b) (fun hh => by simp at hh) (fun _ => rfl), u2, nf n _ _ _ 2 c (by omega) rfl (by simp) (!(decide (0 ≤ c ∧ c ≤ IntKind.wrap .i64 (n - 1))) || [a, b].contains c) (fun hh => by simp at hh) (fun _ => rfl), u3, b7]
  unfold ivg
  rw [h]
  by_cases hn : 1 ≤ n ∧ n ≤ 4
  ·rw [w64 (x := n - 1) (by omega) (by omega)]
   simp only [okQ, hn, and_self, bY, bX, bx, aC, br, bO]
   simp
   try grind
  ·simp only [hn, bY, bX, bx, aC, decide_false, Bool.false_and]
   simp [br, bO]
   (repeat' split) <;> rfl
def vc (D K : Nat) (f : Amp) : List DQ := (List.range D).map fun i => dq K (f i)
theorem dX (D K : Nat) (f : Amp) : (vc D K f).length = D := by simp [vc]
theorem uB {D K : Nat} {f : Amp} {i : Nat} (h : i < D) : (vc D K f)[i]? = some (dq K (f i)) := by unfold vc; rw [List.getElem?_map, List.getElem?_range h]; rfl
theorem mE {D K : Nat} {f : Amp} {i : Nat} (h : i < D) : ak (vc D K f) (i : Int) = some (dq K (f i)) := kL (uB h)
theorem dk {D K : Nat} {f g : Amp} (h : ∀ i, i < D → f i = g i) : vc D K f = vc D K g := by
 unfold vc
 exact List.map_congr_left fun i hi => by rw [h i (List.mem_range.1 hi)]
theorem uC {D K : Nat} {f : Amp} {t : Nat} (ht : t < D) (m : Z4) : (vc D K f).set t (dq K m) = vc D K (fun r => if r = t then m else f r) := by
 refine List.ext_getElem? fun i => ?_
 by_cases hi : i < D
 ·rw [List.getElem?_set, uB hi]
  by_cases e : t = i
  ·subst e
   rw [if_pos rfl, if_pos (by rw [dX]; exact ht), uB ht, if_pos rfl]
  ·rw [if_neg e, uB hi, if_neg (fun h => e h.symm)]
 ·rw [List.getElem?_eq_none (by simp [vc]; omega), List.getElem?_eq_none (by simp [vc]; omega)]
theorem xO {D K : Nat} {f : Amp} (hD : 0 < qcF D) (hK : K ≤ 60) (hf : bdv 1073741824 f) : stB (vc D K f) = true := by
 unfold stB
 rw [Bool.and_eq_true, List.all_eq_true, decide_eq_true_eq, dX]
 refine ⟨fun x hx => ?_, hD⟩
 obtain ⟨i, _, rfl⟩ := List.mem_map.1 hx
 exact mu hK (hf i)
def smz (g : Nat → Z4) : Nat → Z4
 | 0 => (0, 0, 0, 0)
 | k + 1 => adz (smz g k) (g k)
theorem qA {g : Nat → Z4} : ∀ {k : Nat}, (∀ j, j < k → g j = (0, 0, 0, 0)) → smz g k = (0, 0, 0, 0)
 | 0, _ => rfl
 | k + 1, h => by rw [smz, qA (fun j hj => h j (by omega)), h k (by omega)]; rfl
theorem nU {g : Nat → Z4} {c : Nat} : ∀ {k : Nat}, c < k → (∀ j, j < k → j ≠ c → g j = (0, 0, 0, 0)) → smz g k = g c
 | 0, h, _ => by omega
 | k + 1, h, hz => by
  rw [smz]
  by_cases e : c = k
  ·subst e
   rw [qA (fun j hj => hz j (by omega) (by omega)), fM, dM]
  ·rw [nU (by omega) (fun j hj hne => hz j (by omega) hne), hz k (by omega) (fun h => e h.symm), dM]
theorem lE (g h : Nat → Z4) : ∀ k, smz (fun j => adz (g j) (h j)) k = adz (smz g k) (smz h k)
 | 0 => rfl
 | k + 1 => by
  rw [smz, lE g h k, smz, smz, D9]
theorem gG {g h : Nat → Z4} : ∀ {k : Nat}, (∀ j, j < k → g j = h j) → smz g k = smz h k
 | 0, _ => rfl
 | k + 1, e => by rw [smz, smz, gG (fun j hj => e j (by omega)), e k (by omega)]
theorem wV {M : Nat} {g : Nat → Z4} : ∀ {k : Nat}, (∀ j, j < k → bdz M (g j)) → bdz ((k * M : Nat) : Int) (smz g k)
 | 0, _ => by unfold bdz smz; simp
 | k + 1, h => by
  rw [smz, show (((k + 1) * M : Nat) : Int) = ((k * M : Nat) : Int) + M by rw [Nat.add_mul, Nat.one_mul]; omega]
  exact nT (wV fun j hj => h j (by omega)) (h k (by omega))
def loB (i a : Nat) : Nat := if i.testBit a = true then i ^^^ 2 ^ a else i
def hiB (i a : Nat) : Nat := if i.testBit a = true then i else i ^^^ 2 ^ a
def ct (q : GQ) (f : Amp) (r i : Nat) : Z4 :=
 if q.1 = 4 then adz (if r = loB i q.2.1.toNat then f i else (0, 0, 0, 0)) (if r = hiB i q.2.1.toNat then (if i.testBit q.2.1.toNat = true then ngz (f i) else f i) else (0, 0, 0, 0))
 else if r = mvA q i then mlz (oz (mvP q i)) (f i) else (0, 0, 0, 0)
theorem uD (i a : Nat) : i ^^^ 2 ^ a ≠ i := by
 intro h
 have := qq i a
 rw [h] at this
 cases hb : i.testBit a <;> rw [hb] at this <;> cases this
theorem DC {n : Nat} {q : GQ} (h : gok n q) (f : Amp) {r : Nat} (hr : r < 2 ^ n) : smz (ct q f r) (2 ^ n) = gz q f r := by
 by_cases e4 : q.1 = 4
 ·have hx := xlt hr h.1
  unfold gz
  rw [if_pos e4]
  have e : smz (ct q f r) (2 ^ n) = adz (smz (fun i => if r = loB i q.2.1.toNat then f i else (0, 0, 0, 0)) (2 ^ n)) (smz (fun i => if r = hiB i q.2.1.toNat then (if i.testBit q.2.1.toNat = true then ngz (f i) else f i) else (0, 0, 0, 0)) (2 ^ n)) := by
   rw [← lE]
   exact gG fun j _ => by unfold ct; rw [if_pos e4]
  rw [e]
  have ad : ∀ (i : Nat) (x y : Z4), adz (if r = i then x else (0, 0, 0, 0)) y = if r = i then adz x y else y := fun i x y => by split; rfl; rw [fM, dM]
  cases hb : r.testBit q.2.1.toNat with
  | false =>
   -- r lies low
   have hb2 : (r ^^^ 2 ^ q.2.1.toNat).testBit q.2.1.toNat = true := by rw [qq, hb]; rfl
   rw [if_neg (by simp)]
   have z2 : smz (fun i => if r = hiB i q.2.1.toNat then (if i.testBit q.2.1.toNat = true then ngz (f i) else f i) else (0, 0, 0, 0)) (2 ^ n) = (0, 0, 0, 0) := by
    refine qA fun j _ => ?_
    rw [if_neg]
    intro er
    have : (hiB j q.2.1.toNat).testBit q.2.1.toNat = true := by
     unfold hiB; split
     ·assumption
     ·rename_i hj; rw [qq]; simpa using hj
    rw [← er, hb] at this
    cases this
   rw [z2, dM]
   -- two sources
   have z1 : smz (fun i => if r = loB i q.2.1.toNat then f i else (0, 0, 0, 0)) (2 ^ n) = adz (smz (fun i => if i = r then f i else (0, 0, 0, 0)) (2 ^ n)) (smz (fun i => if i = r ^^^ 2 ^ q.2.1.toNat then f i else (0, 0, 0, 0)) (2 ^ n)) := by
    rw [← lE]
    refine gG fun j _ => ?_
    by_cases e1 : j = r
    ·subst e1
     have : ¬ j = j ^^^ 2 ^ q.2.1.toNat := fun h => uD j _ h.symm
     simp only [loB, hb, Bool.false_eq_true, if_false, if_true, if_neg this, dM]
    ·by_cases e2 : j = r ^^^ 2 ^ q.2.1.toNat
     ·subst e2
      have : r = loB (r ^^^ 2 ^ q.2.1.toNat) q.2.1.toNat := by unfold loB; rw [if_pos hb2, xx]
      simp only [if_pos this.symm, ← this, if_true, if_neg e1]
      rw [fM, dM]
     ·have : ¬ r = loB j q.2.1.toNat := by
       unfold loB; split
       ·intro h; apply e2; rw [h, xx]
       ·exact fun h => e1 h.symm
      simp only [if_neg this, if_neg e1, if_neg e2]; rfl
   rw [z1, nU (c := r) hr (fun j _ hj => by rw [if_neg hj]), nU (c := r ^^^ 2 ^ q.2.1.toNat) hx (fun j _ hj => by rw [if_neg hj]), if_pos rfl, if_pos rfl]
  | true =>
   have hb2 : (r ^^^ 2 ^ q.2.1.toNat).testBit q.2.1.toNat = false := by rw [qq, hb]; rfl
   rw [if_pos rfl]
   have z2 : smz (fun i => if r = loB i q.2.1.toNat then f i else (0, 0, 0, 0)) (2 ^ n) = (0, 0, 0, 0) := by
    refine qA fun j _ => ?_
    rw [if_neg]
    intro er
    have : (loB j q.2.1.toNat).testBit q.2.1.toNat = false := by
     unfold loB; split
     ·rename_i hj; rw [qq, hj]; rfl
     ·rename_i hj; simpa using hj
    rw [← er, hb] at this
    cases this
   rw [z2, fM, dM]
   have z1 : smz (fun i => if r = hiB i q.2.1.toNat then (if i.testBit q.2.1.toNat = true then ngz (f i) else f i) else (0, 0, 0, 0)) (2 ^ n) = adz (smz (fun i => if i = r ^^^ 2 ^ q.2.1.toNat then f i else (0, 0, 0, 0)) (2 ^ n)) (smz (fun i => if i = r then ngz (f i) else (0, 0, 0, 0)) (2 ^ n)) := by
    rw [← lE]
    refine gG fun j _ => ?_
    by_cases e1 : j = r
    ·subst e1
     have : ¬ j = j ^^^ 2 ^ q.2.1.toNat := fun h => uD j _ h.symm
     have e3 : hiB j q.2.1.toNat = j := by unfold hiB; rw [if_pos hb]
     simp only [e3, hb, if_true, if_neg this]
     rw [fM, dM]
    ·by_cases e2 : j = r ^^^ 2 ^ q.2.1.toNat
     ·subst e2
      have : hiB (r ^^^ 2 ^ q.2.1.toNat) q.2.1.toNat = r := by unfold hiB; rw [if_neg (by rw [hb2]; simp), xx]
      simp only [this, hb2, if_true, if_neg e1, Bool.false_eq_true, if_false, dM]
     ·have : ¬ r = hiB j q.2.1.toNat := by
       unfold hiB; split
       ·exact fun h => e1 h.symm
       ·intro h; apply e2; rw [h, xx]
      simp only [if_neg this, if_neg e1, if_neg e2]; rfl
   rw [z1, nU (c := r ^^^ 2 ^ q.2.1.toNat) hx (fun j _ hj => by rw [if_neg hj]), nU (c := r) hr (fun j _ hj => by rw [if_neg hj]), if_pos rfl, if_pos rfl]
 ·have hm := sL h hr
  unfold gz
  rw [if_neg e4, nU (c := mvA q r) hm (fun j _ hj => ?_)]
  ·unfold ct
   rw [if_neg e4, if_pos (uA h r).symm]
  ·unfold ct
   rw [if_neg e4, if_neg]
   intro er
   exact hj (by rw [er, uA h])
theorem I3 {M : Int} {f : Amp} (hM : 0 ≤ M) (hf : bdv M f) (q : GQ) (r i : Nat) : bdz (2 * M) (ct q f r i) := by
 have h0 : bdz M (0, 0, 0, 0) := by unfold bdz; simp only; omega
 unfold ct
 split
 ·rw [show 2 * M = M + M by omega]
  refine nT ?_ ?_
  ·split
   ·exact hf i
   ·exact h0
  ·split
   ·split
    ·exact qc (hf i)
    ·exact hf i
   ·exact h0
 ·refine ax (M := M) (by omega) ?_
  split
  ·exact vH _ (hf i)
  ·exact h0
theorem iN {k a b c n : Int} (h : ivg k a b c n = true) : (1 ≤ n ∧ n ≤ 4) ∧ (0 ≤ a ∧ a < n) ∧ (((1 ≤ k ∧ k ≤ 8) ∧ b = 0 ∧ c = 0) ∨ ((9 ≤ k ∧ k ≤ 11) ∧ (0 ≤ b ∧ b < n) ∧ a ≠ b ∧ c = 0) ∨ (k = 12 ∧ ((0 ≤ b ∧ b < n) ∧ (0 ≤ c ∧ c < n)) ∧ a ≠ b ∧ a ≠ c ∧ b ≠ c)) := by
 unfold ivg dR at h
 by_cases h1 : 1 ≤ k ∧ k ≤ 8
 ·rw [if_pos h1] at h
  simp [okQ] at h
  refine ⟨by omega, by omega, Or.inl ⟨h1, by omega, by omega⟩⟩
 ·rw [if_neg h1] at h
  by_cases h2 : 9 ≤ k ∧ k ≤ 11
  ·rw [if_pos h2] at h
   simp [okQ] at h
   refine ⟨by omega, by omega, Or.inr (Or.inl ⟨h2, by omega, by omega, by omega⟩)⟩
  ·rw [if_neg h2] at h
   by_cases h3 : k = 12
   ·rw [if_pos h3] at h
    simp [okQ] at h
    refine ⟨by omega, by omega, Or.inr (Or.inr ⟨h3, by omega, by omega, by omega, by omega⟩)⟩
   ·rw [if_neg h3] at h
    simp at h
theorem rS {k a b c n : Int} (h : ivg k a b c n = true) : gok n.toNat (k, a, b, c) := by
 obtain ⟨h1, h2, h3⟩ := iN h
 unfold gok
 simp only
 rcases h3 with ⟨g1, g2, g3⟩ | ⟨g1, g2, g3, g4⟩ | ⟨g1, g2, g3⟩ <;> refine ⟨by omega, fun e => ⟨by omega, by omega⟩, fun e => ⟨⟨by omega, by omega⟩, by omega, by omega⟩⟩
def goF (q : GQ) (i : Nat) : List (Int × Int × Int × Int × Int × Int) :=
 if q.1 = 4 then [((loB i q.2.1.toNat : Int), hD), ((hiB i q.2.1.toNat : Int), if i.testBit q.2.1.toNat = true then hN else hD)] else [((mvA q i : Int), om (mvP q i))]
def goB (k a b c i : Nat) : Bool := mn (k : Int) (a : Int) (b : Int) (c : Int) (i : Int) == some (goF ((k : Int), (a : Int), (b : Int), (c : Int)) i)
theorem go1 : ∀ k : Fin 8, ∀ a : Fin 4, ∀ i : Fin 16, goB (k.val + 1) a.val 0 0 i.val = true := by decide +kernel
theorem go2 : ∀ k : Fin 3, ∀ a b : Fin 4, ∀ i : Fin 16, goB (k.val + 9) a.val b.val 0 i.val = true := by decide +kernel
theorem go3 : ∀ a b c : Fin 4, ∀ i : Fin 16, goB 12 a.val b.val c.val i.val = true := by decide +kernel
theorem JL {k a b c n : Int} (h : ivg k a b c n = true) {i : Nat} (hi : i < 2 ^ n.toNat) : mn k a b c (i : Int) = some (goF (k, a, b, c) i) := by
 obtain ⟨h1, h2, h3⟩ := iN h
 have h16 : i < 16 := Nat.lt_of_lt_of_le hi (by rcases sa h1 with rfl | rfl | rfl | rfl <;> decide)
 obtain ⟨a', rfl⟩ : ∃ a' : Nat, a = a' := ⟨a.toNat, by omega⟩
 rcases h3 with ⟨g1, rfl, rfl⟩ | ⟨g1, g2, g3, rfl⟩ | ⟨rfl, g2, g3⟩
 ·obtain ⟨k', rfl⟩ : ∃ k' : Nat, k = ((k' + 1 : Nat) : Int) := ⟨(k - 1).toNat, by omega⟩
  exact eq_of_beq (go1 ⟨k', by omega⟩ ⟨a', by omega⟩ ⟨i, h16⟩)
 ·obtain ⟨k', rfl⟩ : ∃ k' : Nat, k = ((k' + 9 : Nat) : Int) := ⟨(k - 9).toNat, by omega⟩
  obtain ⟨b', rfl⟩ : ∃ b' : Nat, b = b' := ⟨b.toNat, by omega⟩
  exact eq_of_beq (go2 ⟨k', by omega⟩ ⟨a', by omega⟩ ⟨b', by omega⟩ ⟨i, h16⟩)
 ·obtain ⟨b', rfl⟩ : ∃ b' : Nat, b = b' := ⟨b.toNat, by omega⟩
  obtain ⟨c', rfl⟩ : ∃ c' : Nat, c = c' := ⟨c.toNat, by omega⟩
  exact eq_of_beq (go3 ⟨a', by omega⟩ ⟨b', by omega⟩ ⟨c', by omega⟩ ⟨i, h16⟩)
theorem DD {q15 z : DQ} {x27 : List (Int × Int × Int × Int × Int × Int)} {v21 : Int} {kl3 : Int → List DQ → Option (List DQ × Bool)} {D K : Nat} {acc : Amp} {j t m0 : Nat} {m : Z4}
  (hK : K ≤ 60) (hj : x27[j]? = some ((t : Int), z)) (hj4 : j < 4) (hx : vd q15 = true) (hz : vd z = true) (hmul : ms q15 z = some (dq K m)) (ht : t < D) (ha : bdz 1073741824 (acc t)) (hm : bdz 1073741824 m) (hs : bdz 1073741824 (adz (acc t) m)) :
  cA v21 kl3 q15 x27 (m0 + 1) (j : Int) (vc D K acc) = cA v21 kl3 q15 x27 m0 ((j + 1 : Nat) : Int) (vc D K (fun r => if r = t then adz (acc t) m else acc r)) := by
 obtain ⟨hjl, _⟩ := List.getElem?_eq_some_iff.1 hj
 have hlt : decide ((j : Int) < (x27.length : Int)) = true := decide_eq_true (by omega)
 rw [cA, hlt, aS, kL hj, aC]
 simp only
 rw [JD q15 z, if_pos ⟨hx, hz⟩, hmul, aC, mE ht, aC]
 simp only [res]
 rw [KW (dq K (acc t)) (dq K m), if_pos ⟨mu hK ha, mu hK hm⟩, wS hK ha hm hs, aC]
 simp only [res, Bool.not_true, aF, aC, gt]
 rw [cn (n := 4) hj4 (by omega), show ((t : Int)).toNat = t by omega, uC ht]
theorem DE {q15 : DQ} {x27 : List (Int × Int × Int × Int × Int × Int)} {v21 : Int} {kl3 : Int → List DQ → Option (List DQ × Bool)} {v : List DQ} {m0 : Nat} :
  cA v21 kl3 q15 x27 (m0 + 1) (x27.length : Int) v = kl3 (IntKind.wrap .i64 (v21 + 1)) v := by
 have hlt : decide ((x27.length : Int) < (x27.length : Int)) = false := decide_eq_false (by omega)
 rw [cA, hlt, aF]
 rfl
theorem I4 (a : Nat) : vd (om a) = true := by rw [I1]; exact mu (by omega) (D6 a)
theorem DF : vd hD = true := by decide
theorem Ki : vd hN = true := by decide
theorem lp (i a : Nat) : loB i a ≠ hiB i a := by
 unfold loB hiB
 split
 ·exact uD i a
 ·exact fun h => uD i a h.symm
theorem I5 {n i a : Nat} (hi : i < 2 ^ n) (ha : a < n) : loB i a < 2 ^ n := by
 unfold loB; split
 ·exact xlt hi ha
 ·exact hi
theorem I6 {n i a : Nat} (hi : i < 2 ^ n) (ha : a < n) : hiB i a < 2 ^ n := by
 unfold hiB; split
 ·exact hi
 ·exact xlt hi ha
theorem HQ {q : GQ} {f : Amp} {i : Nat} (h : f i = (0, 0, 0, 0)) (r : Nat) : ct q f r i = (0, 0, 0, 0) := by
 unfold ct
 rw [h, Cp]
 have : ngz (0, 0, 0, 0) = (0, 0, 0, 0) := rfl
 rw [this]
 simp only [ite_self]
 split <;> rfl
theorem Ls : ∃ m, FU = m + 3 := ⟨4194301, rfl⟩
def kq (k : Int) : Nat := if k = 4 then 1 else 0
theorem HR {k a b c : Int} {n : Int} {K M : Nat} {f : Amp} (hv : ivg k a b c n = true) (hK : K + 1 ≤ 60) (hM : M ≤ 16777216) (hf : bdv M f) : ∀ (m i : Nat), i ≤ 2 ^ n.toNat → 2 ^ n.toNat - i < m →
  bH k a b c (vc (2 ^ n.toNat) K f) m (i : Int) (vc (2 ^ n.toNat) (K + kq k) (fun r => smz (ct (k, a, b, c) f r) i)) = some (vc (2 ^ n.toNat) (K + kq k) (gz (k, a, b, c) f), true) := by
 have hg := rS hv
 obtain ⟨hn, _, _⟩ := iN hv
 have h16 : 2 ^ n.toNat ≤ 16 := by rcases sa hn with rfl | rfl | rfl | rfl <;> decide
 have hf30 : bdv 1073741824 f := fun i => ax (by omega) (hf i)
 have hKq : K + kq k ≤ 60 := by unfold kq; split <;> omega
 have hbd : ∀ r j, j ≤ 2 ^ n.toNat → bdz 536870912 (smz (ct (k, a, b, c) f r) j) := by
  intro r j hj
  have h1 : bdz ((j * (2 * M) : Nat) : Int) (smz (ct (k, a, b, c) f r) j) := wV fun i _ => by
   have := I3 (M := M) (by omega) hf (k, a, b, c) r i
   exact this
  refine ax ?_ h1
  have : j * (2 * M) ≤ 16 * 33554432 := Nat.mul_le_mul (by omega) (by omega)
  omega
 have hadd : ∀ {x y : Z4}, bdz 536870912 x → bdz 33554432 y → bdz 1073741824 (adz x y) := fun hx hy => ax (by omega) (nT hx hy)
 intro m
 induction m with
 | zero => intro i _ h; omega
 | succ m ih =>
  intro i hi hm
  rw [bH, dX]
  by_cases e : i = 2 ^ n.toNat
  ·subst e
   have hlt : decide (((2 ^ n.toNat : Nat) : Int) < ((2 ^ n.toNat : Nat) : Int)) = false := decide_eq_false (by omega)
   rw [hlt, aF]
   unfold iz
   rw [dk (fun r hr => DC hg f hr)]
  ·have hil : i < 2 ^ n.toNat := by omega
   have hlt : decide ((i : Int) < ((2 ^ n.toNat : Nat) : Int)) = true := decide_eq_true (by omega)
   have next := ih (i + 1) (by omega) (by omega)
   rw [hlt, aS, mE hil, aC, D2]
   by_cases hz : f i = (0, 0, 0, 0)
   ·rw [decide_eq_true (rQ.2 hz), aS]
    unfold fJ
    rw [cn hil (by omega), ← next]
    congr 1
    refine dk fun r _ => ?_
    rw [smz, HQ hz, dM]
   ·rw [decide_eq_false (fun h => hz (rQ.1 h)), aF, JL hv hil, aC]
    have hx : vd (dq K (f i)) = true := mu (by omega) (hf30 i)
    obtain ⟨m3, hm3⟩ := Ls
    by_cases h4 : k = 4
    ·subst h4
     have hlo := I5 hil hg.1
     have hhi := I6 hil hg.1
     simp only at hlo hhi
     have hk1 : kq 4 = 1 := rfl
     have e0 : goF (4, a, b, c) i = [((loB i a.toNat : Int), hD), ((hiB i a.toNat : Int), if i.testBit a.toNat = true then hN else hD)] := rfl
     have b1 : ∀ r, bdz 536870912 (smz (ct (4, a, b, c) f r) i) := fun r => hbd r i (by omega)
     have bf : bdz 33554432 (f i) := ax (by omega) (hf i)
     rw [e0]
     rw [hk1] at next ⊢
     have s1 := DD (q15 := dq K (f i)) (z := hD) (x27 := [((loB i a.toNat : Int), hD), ((hiB i a.toNat : Int), if i.testBit a.toNat = true then hN else hD)]) (v21 := (i : Int)) (kl3 := bH 4 a b c (vc (2 ^ n.toNat) K f) m)
      (D := 2 ^ n.toNat) (K := K + 1) (acc := fun r => smz (ct (4, a, b, c) f r) i) (j := 0) (t := loB i a.toNat) (m0 := m3 + 2) (m := f i) hK rfl (by omega) hx DF (wT hK (hf30 i)) hlo (ax (by omega) (b1 _)) (hf30 i) (hadd (b1 _) bf)
     have bz : bdz 33554432 (if i.testBit a.toNat = true then ngz (f i) else f i) := by split; exact qc bf; exact bf
     have s2 := DD (q15 := dq K (f i)) (z := if i.testBit a.toNat = true then hN else hD) (x27 := [((loB i a.toNat : Int), hD), ((hiB i a.toNat : Int), if i.testBit a.toNat = true then hN else hD)]) (v21 := (i : Int)) (kl3 := bH 4 a b c (vc (2 ^ n.toNat) K f) m)
      (D := 2 ^ n.toNat) (K := K + 1) (acc := fun r => if r = loB i a.toNat then adz (smz (ct (4, a, b, c) f (loB i a.toNat)) i) (f i) else smz (ct (4, a, b, c) f r) i) (j := 1) (t := hiB i a.toNat) (m0 := m3 + 1) (m := if i.testBit a.toNat = true then ngz (f i) else f i)
      hK rfl (by omega) hx (by split; exact Ki; exact DF) (by split; exact JI hK (hf30 i); exact wT hK (hf30 i)) hhi (by rw [if_neg (lp i _).symm]; exact ax (by omega) (b1 _)) (ax (by omega) bz) (by rw [if_neg (lp i _).symm]; exact hadd (b1 _) bz)
     rw [hm3]
     refine s1.trans (s2.trans ?_)
     refine (DE (m0 := m3)).trans ?_
     rw [cn hil (by omega), ← next]
     congr 1
     refine dk fun r _ => ?_
     rw [smz]
     unfold ct
     rw [if_pos rfl]
     simp only
     by_cases r1 : r = hiB i a.toNat
     ·have r2 : ¬ r = loB i a.toNat := fun h => lp i a.toNat (h.symm.trans r1)
      rw [if_pos r1, if_pos r1, if_neg r2, if_neg (lp i _).symm, ← r1, fM (0, 0, 0, 0), dM]
     ·rw [if_neg r1, if_neg r1]
      by_cases r2 : r = loB i a.toNat
      ·rw [if_pos r2, if_pos r2, dM, ← r2]
      ·rw [if_neg r2, if_neg r2]
       rw [show adz ((0, 0, 0, 0) : Z4) (0, 0, 0, 0) = (0, 0, 0, 0) from rfl, dM]
    ·have hk0 : kq k = 0 := if_neg h4
     have hmv := sL hg hil
     have e0 : goF (k, a, b, c) i = [((mvA (k, a, b, c) i : Int), om (mvP (k, a, b, c) i))] := if_neg h4
     have b1 : ∀ r, bdz 536870912 (smz (ct (k, a, b, c) f r) i) := fun r => hbd r i (by omega)
     have bz : bdz 33554432 (mlz (oz (mvP (k, a, b, c) i)) (f i)) := vH _ (ax (by omega) (hf i))
     rw [e0]
     rw [hk0, Nat.add_zero] at hKq ⊢
     simp only [hk0, Nat.add_zero] at next
     have s1 := DD (q15 := dq K (f i)) (z := om (mvP (k, a, b, c) i)) (x27 := [((mvA (k, a, b, c) i : Int), om (mvP (k, a, b, c) i))]) (v21 := (i : Int)) (kl3 := bH k a b c (vc (2 ^ n.toNat) K f) m)
      (D := 2 ^ n.toNat) (K := K) (acc := fun r => smz (ct (k, a, b, c) f r) i) (j := 0) (t := mvA (k, a, b, c) i) (m0 := m3 + 2) (m := mlz (oz (mvP (k, a, b, c) i)) (f i)) hKq rfl (by omega) hx (I4 _) (D7 _ hKq (hf30 i)) hmv (ax (by omega) (b1 _)) (ax (by omega) bz) (hadd (b1 _) bz)
     rw [hm3]
     refine s1.trans ?_
     refine (DE (m0 := m3 + 1)).trans ?_
     rw [cn hil (by omega), ← next]
     congr 1
     refine dk fun r _ => ?_
     rw [smz]
     unfold ct
     rw [if_neg h4]
     simp only
     by_cases r1 : r = mvA (k, a, b, c) i
     ·rw [if_pos r1, if_pos r1, ← r1]
     ·rw [if_neg r1, if_neg r1, dM]
theorem sM {n : Int} (hn : 1 ≤ n ∧ n ≤ 4) : qcF (2 ^ n.toNat) = n := by rcases sa hn with rfl | rfl | rfl | rfl <;> decide
theorem Lt {k a b c n : Int} {K M : Nat} {f : Amp} (hv : ivg k a b c n = true) (hK : K + 1 ≤ 60) (hM : M ≤ 16777216) (hf : bdv M f) : iM k a b c (vc (2 ^ n.toNat) K f) = some (vc (2 ^ n.toNat) (K + kq k) (gz (k, a, b, c) f), true) := by
 obtain ⟨hn, _, _⟩ := iN hv
 have h16 : 2 ^ n.toNat ≤ 16 := by rcases sa hn with rfl | rfl | rfl | rfl <;> decide
 have hf30 : bdv 1073741824 f := fun i => ax (by omega) (hf i)
 have hst : stB (vc (2 ^ n.toNat) K f) = true := xO (by rw [sM hn]; omega) (by omega) hf30
 unfold iM
 rw [Lq _ (by rw [dX]; omega), aC, hst]
 simp only [Bool.not_true, aF]
 rw [KZ, dX, sM hn, aC, DB, hv, aC]
 simp only [Bool.not_true, aC, j0, aF]
 have hg : decide (0 ≤ ((2 ^ n.toNat : Nat) : Int) ∧ ((2 ^ n.toNat : Nat) : Int) ≤ 1048576) = true := (fun x hx => decide_eq_true (by omega) : ∀ x : Nat, x ≤ 16 → decide (0 ≤ (x : Int) ∧ (x : Int) ≤ 1048576) = true) _ h16
 rw [dX, hg, bN]
 have e0 : List.replicate (((2 ^ n.toNat : Nat) : Int)).toNat ((0, 0, 0, 0, 0) : Int × Int × Int × Int × Int) = vc (2 ^ n.toNat) (K + kq k) (fun r => smz (ct (k, a, b, c) f r) 0) := by
  unfold vc
  rw [Int.toNat_natCast]
  refine List.ext_getElem? fun i => ?_
  by_cases h : i < 2 ^ n.toNat
  ·rw [List.getElem?_replicate, if_pos h, List.getElem?_map, List.getElem?_range h]
   show some d0 = some (dq _ (0, 0, 0, 0))
   rw [wR]
  ·rw [List.getElem?_eq_none (by simp; omega), List.getElem?_eq_none (by simp; omega)]
 rw [e0]
 exact HR hv hK hM hf FU 0 (Nat.zero_le _) (by rw [bP]; omega)
theorem JM {e : Nat} {f : Amp} (h : bdv ((2 ^ e : Nat) : Int) f) (q : GQ) : bdv ((2 ^ (e + kq q.1) : Nat) : Int) (gz q f) := by
 have := Kf h q
 unfold kq
 split
 ·rename_i h4
  rw [if_pos h4] at this
  rw [Nat.pow_succ]
  intro i
  exact ax (by omega) (this i)
 ·rename_i h4
  rw [if_neg h4] at this
  exact this
theorem DG {e : Nat} (h : e ≤ 24) : 2 ^ e ≤ 16777216 := by
 have := Nat.pow_le_pow_right (n := 2) (by omega) h
 exact this
def bsB (n i : Nat) : Bool := !decide (i < 2 ^ n) || j5 (n : Int) (i : Int) == some (vc (2 ^ n) 0 (dl i))
theorem JN : ∀ n : Fin 4, ∀ i : Fin 16, bsB (n.val + 1) i.val = true := by decide +kernel
theorem Lu {n : Int} (hn : 1 ≤ n ∧ n ≤ 4) {i : Nat} (hi : i < 2 ^ n.toNat) : j5 n (i : Int) = some (vc (2 ^ n.toNat) 0 (dl i)) := by
 have h16 : i < 16 := Nat.lt_of_lt_of_le hi (by rcases sa hn with rfl | rfl | rfl | rfl <;> decide)
 obtain ⟨n', rfl⟩ : ∃ n' : Nat, n = ((n' + 1 : Nat) : Int) := ⟨(n - 1).toNat, by omega⟩
 have := JN ⟨n', by omega⟩ ⟨i, h16⟩
 unfold bsB at this
 simp only [Int.toNat_natCast] at hi ⊢
 rw [decide_eq_true hi, Bool.not_true, Bool.false_or] at this
 exact eq_of_beq this
abbrev OP := Int × Int × Int × Int × Int × Int × Int × Int
def oG (o : OP) : GQ := (o.2.1, o.2.2.1, o.2.2.2.1, o.2.2.2.2.1)
def oQ (o : OP) : Int := o.2.2.2.2.2.1
def oB (o : OP) : Int := o.2.2.2.2.2.2.1
def oI (o : OP) : Int := o.2.2.2.2.2.2.2
def gvB (n : Int) (g : GQ) : Bool := ivg g.1 g.2.1 g.2.2.1 g.2.2.2 n
def g0B (g : GQ) : Bool := g.1 == 0 && (g.2.1 == 0 && (g.2.2.1 == 0 && g.2.2.2 == 0))
def ovB (n bits : Int) (o : OP) : Bool := decide (1 ≤ n ∧ n ≤ 4) && (decide (0 ≤ bits ∧ bits ≤ 3) &&
  (if o.1 = 1 then (oQ o == 0 && oB o == 0) && (gvB n (oG o) && decide (0 ≤ oI o ∧ oI o ≤ bits))
   else if o.1 = 2 then (g0B (oG o) && oI o == 0) && (decide (0 ≤ oQ o ∧ oQ o ≤ n - 1) && decide (0 ≤ oB o ∧ oB o ≤ bits - 1))
   else if o.1 = 3 then (g0B (oG o) && (oB o == 0 && oI o == 0)) && decide (0 ≤ oQ o ∧ oQ o ≤ n - 1) else false))
theorem Lv (n bits : Int) (o : OP) : kI o.1 o.2.1 o.2.2.1 o.2.2.2.1 o.2.2.2.2.1 o.2.2.2.2.2.1 o.2.2.2.2.2.2.1 o.2.2.2.2.2.2.2 n bits = some (ovB n bits o) := by
 obtain ⟨kd, k, a, b, c, q, bt, i⟩ := o
 unfold kI ovB oG oQ oB oI gvB g0B
 rw [bx, aC]
 by_cases hn : 1 ≤ n ∧ n ≤ 4
 ·rw [decide_eq_true hn, Bool.not_true, aF, bx, aC, aC, Bool.true_and]
  by_cases hb : 0 ≤ bits ∧ bits ≤ 3
  ·rw [decide_eq_true hb, Bool.not_true, Bool.true_and]
   unfold iy
   rw [aF]
   have w1 : IntKind.wrap .i64 (n - 1) = n - 1 := w64 (by omega) (by omega)
   have w2 : IntKind.wrap .i64 (bits - 1) = bits - 1 := w64 (by omega) (by omega)
   simp only [DB, bx, aC, beq_self_eq_true, Bool.true_and, Bool.and_true, w1, w2]
   by_cases h1 : kd = 1
   ·subst h1
    rw [if_pos rfl, show ((1 : Int) == 1) = true from rfl, aS]
    cases (q == 0 && bt == 0) <;> cases ivg k a b c n <;> rfl
   ·rw [if_neg h1, beq_eq_false_iff_ne.2 h1, aF]
    by_cases h2 : kd = 2
    ·subst h2
     rw [if_pos rfl, show ((2 : Int) == 2) = true from rfl, aS]
     cases k == 0 <;> cases a == 0 <;> cases b == 0 <;> cases c == 0 <;> cases i == 0 <;> cases decide (0 ≤ q ∧ q ≤ n - 1) <;> rfl
    ·rw [if_neg h2, beq_eq_false_iff_ne.2 h2, aF]
     by_cases h3 : kd = 3
     ·subst h3
      rw [if_pos rfl, show ((3 : Int) == 3) = true from rfl, aS]
      cases k == 0 <;> cases a == 0 <;> cases b == 0 <;> cases c == 0 <;> cases bt == 0 <;> cases i == 0 <;> rfl
     ·rw [if_neg h3, beq_eq_false_iff_ne.2 h3, aF]
  ·rw [decide_eq_false hb, Bool.not_false, Bool.false_and]
   rfl
 ·rw [decide_eq_false hn, Bool.not_false, aS, aC, Bool.false_and]
  rfl
def rvL (n bits : Int) : List OP → Nat → Bool
 | [], kn => (kn : Int) == bits
 | o :: L, kn => (ovB n bits o && decide (oI o ≤ (kn : Int))) && ((o.1 != 2 || oB o == (kn : Int)) && rvL n bits L (if o.1 = 2 then kn + 1 else kn))
def rvB (n inn bits : Int) (L : List OP) : Bool := (decide (1 ≤ n ∧ n ≤ 4) && decide (1 ≤ inn ∧ inn ≤ n)) && ((decide (0 ≤ bits ∧ bits ≤ 3) && decide ((L.length : Int) ≤ 120)) && rvL n bits L 0)
theorem Kj {n bits : Int} {L : List OP} (hL : L.length ≤ 4000000) : ∀ (m i kn : Nat), i ≤ L.length → L.length - i < m → kn ≤ i → bF n bits L m (kn : Int) (i : Int) = some (rvL n bits (L.drop i) kn) := by
 intro m
 induction m with
 | zero => intro i kn _ h; omega
 | succ m ih =>
  intro i kn hi hm hk
  rw [bF]
  by_cases e : i = L.length
  ·rw [decide_eq_false (by omega), aF, List.drop_of_length_le (by omega)]
   rfl
  ·have hil : i < L.length := by omega
   rw [decide_eq_true (by omega), aS, bB hil, aC, Lv, aC, List.drop_eq_getElem_cons hil]
   have ih1 := ih (i + 1) (kn + 1) (by omega) (by omega) (by omega)
   have ih2 := ih (i + 1) kn (by omega) (by omega) (by omega)
   have wk : IntKind.wrap .i64 ((kn : Int) + 1) = ((kn + 1 : Nat) : Int) := by rw [w64 (by omega) (by omega)]; omega
   have wi : IntKind.wrap .i64 ((i : Int) + 1) = ((i + 1 : Nat) : Int) := by rw [w64 (by omega) (by omega)]; omega
   unfold rvL
   generalize L[i] = o
   show bO (br (!(ovB n bits o)) (some true) (some (decide ((kn : Int) < oI o)))) _ = _
   cases hov : ovB n bits o with
   | false => rfl
   | true =>
    rw [Bool.not_true, aF, aC, Bool.true_and]
    by_cases h1 : (kn : Int) < oI o
    ·rw [decide_eq_true h1, decide_eq_false (by omega)]
     rfl
    ·rw [decide_eq_false h1, decide_eq_true (by omega), aF, Bool.true_and]
     by_cases h2 : o.1 = 2
     ·rw [show (o.1 == 2) = true by rw [h2]; rfl, aS, aC, aC, show (o.1 != 2) = false by rw [h2]; rfl, Bool.false_or, if_pos h2]
      show cj (kn : Int) (i : Int) (bF n bits L m) o (oB o != (kn : Int)) = _
      unfold cj
      by_cases h3 : oB o = (kn : Int)
      ·rw [h3, bne_self_eq_false, aF, beq_self_eq_true, Bool.true_and, show (o.1 == 2) = true by rw [h2]; rfl, aS]
       unfold ci
       rw [wk, wi, ih1]
      ·rw [bne_iff_ne.2 h3, aS, beq_eq_false_iff_ne.2 h3]
       rfl
     ·rw [beq_eq_false_iff_ne.2 h2, aF, aC, aC, bne_iff_ne.2 h2, Bool.true_or, Bool.true_and, if_neg h2]
      unfold cj
      rw [aF, beq_eq_false_iff_ne.2 h2, aF]
      unfold ci
      rw [wi, ih2]
theorem Kk {n inn bits : Int} {L : List OP} (hL : L.length ≤ 4000000) : dT n inn bits L = some (rvB n inn bits L) := by
 unfold dT rvB
 have h := Kj (n := n) (bits := bits) hL FU 0 0 (by omega) (by rw [bP]; omega) (by omega)
 rw [List.drop_zero] at h
 rw [bx, aC, bx, aC]
 cases decide (1 ≤ n ∧ n ≤ 4) with
 | false => rfl
 | true =>
  rw [Bool.not_true, aF, aC]
  cases decide (1 ≤ inn ∧ inn ≤ n) with
  | false => rfl
  | true =>
   rw [Bool.not_true, aF, bx, aC, aC]
   cases decide (0 ≤ bits ∧ bits ≤ 3) with
   | false => rfl
   | true =>
    rw [Bool.not_true, aF, aC]
    unfold eK
    by_cases h5 : (120 : Int) < (L.length : Int)
    ·rw [decide_eq_true h5, aS, decide_eq_false (by omega)]; rfl
    ·rw [decide_eq_false h5, aF, decide_eq_true (by omega), Bool.true_and, Bool.true_and, Bool.true_and]
     exact h
abbrev BQ := Int × Nat × (Nat → Amp)
def brC (n inn : Nat) (B : BQ) : Int × List (List DQ) := (B.1, (List.range (2 ^ inn)).map fun i => vc (2 ^ n) B.2.1 (B.2.2 i))
def cnd (bits i : Int) : Bool := decide (0 < i) && bits.toNat / 2 ^ (i - 1).toNat % 2 == 0
def gtF (o : OP) (B : BQ) : BQ := if cnd B.1 (oI o) = true then B else (B.1, B.2.1 + kq (oG o).1, fun i => gz (oG o) (B.2.2 i))
def prA (q : Nat) (one : Bool) (f : Amp) : Amp := fun r => if r.testBit q = one then f r else (0, 0, 0, 0)
def nzB (D : Nat) (f : Amp) : Bool := (List.range D).any fun r => !decide (f r = (0, 0, 0, 0))
def msB (n inn : Nat) (q : Nat) (one : Bool) (F : Nat → Amp) : Bool := (List.range (2 ^ inn)).any fun i => nzB (2 ^ n) (prA q one (F i))
def msF (n inn : Nat) (q : Nat) (bit : Nat) (B : BQ) : List BQ :=
 (if msB n inn q false B.2.2 = true then [(B.1, B.2.1, fun i => prA q false (B.2.2 i))] else []) ++ (if msB n inn q true B.2.2 = true then [(B.1 + 2 ^ bit, B.2.1, fun i => prA q true (B.2.2 i))] else [])
def opF (n inn : Nat) (o : OP) (B : BQ) : List BQ := if o.1 = 1 then [gtF o B] else if o.1 = 2 then msF n inn (oQ o).toNat (oB o).toNat B else [B]
def sN (n inn : Nat) (L : List OP) (l : List BQ) : List BQ := L.foldl (fun l o => l.flatMap (opF n inn o)) l
def in0 : BQ := (0, 0, fun i => dl i)
theorem DH : ∀ x : Fin 16, ∀ v : Fin 4, (bits .and .i64 (Int.fdiv (x.val : Int) (2 ^ min (Int.toNat (IntKind.wrap .u64 (v.val : Int))) (IntKind.bits .i64))) 1 == 1) = (x.val.testBit v.val == true) ∧ (bits .and .i64 (Int.fdiv (x.val : Int) (2 ^ min (Int.toNat (IntKind.wrap .u64 (v.val : Int))) (IntKind.bits .i64))) 1 == 0) = (x.val.testBit v.val == false) := by decide +kernel
theorem HS : ∀ x : Fin 16, ∀ i : Fin 4, br (decide ((0 : Int) < (i.val : Int))) (gd (decide (¬ (IntKind.wrap .u64 (IntKind.wrap .i64 ((i.val : Int) - 1))) < 0)) (some ((bits .and .i64 (Int.fdiv (x.val : Int) (2 ^ min (Int.toNat (IntKind.wrap .u64 (IntKind.wrap .i64 ((i.val : Int) - 1)))) (IntKind.bits .i64))) 1) == 0))) (some false) = some (cnd (x.val : Int) (i.val : Int)) := by decide +kernel
theorem DI : ∀ v : Fin 2, ∀ b : Fin 3, ∀ x : Fin 8, IntKind.wrap .i64 ((x.val : Int) + (IntKind.wrap .i64 ((v.val : Int) * 2 ^ min (Int.toNat (IntKind.wrap .u64 (b.val : Int))) (IntKind.bits .i64)))) = (x.val : Int) + (if v.val = 1 then 2 ^ b.val else 0) := by decide +kernel
theorem p16 {n : Nat} (h : n ≤ 4) : 2 ^ n ≤ 16 := by
 have : n = 0 ∨ n = 1 ∨ n = 2 ∨ n = 3 ∨ n = 4 := by omega
 rcases this with rfl | rfl | rfl | rfl | rfl <;> decide
theorem p8 {n : Nat} (h : n ≤ 3) : 2 ^ n ≤ 8 := by
 have : n = 0 ∨ n = 1 ∨ n = 2 ∨ n = 3 := by omega
 rcases this with rfl | rfl | rfl | rfl <;> decide
theorem lq {α : Type} (f : Nat → α) (k : Nat) : (List.range (k + 1)).map f = (List.range k).map f ++ [f k] := by rw [List.range_succ, List.map_append]; rfl
theorem mv {α : Type} {D : Nat} (f : Nat → α) {k : Nat} (h : k < D) : ak ((List.range D).map f) (k : Int) = some (f k) := kL (by rw [List.getElem?_map, List.getElem?_range h]; rfl)
section
variable {n inn : Nat}
theorem JO (hn : 1 ≤ n ∧ n ≤ 4) (hin : 1 ≤ inn ∧ inn ≤ n) : fK (n : Int) (inn : Int) = some (brC n inn in0) := by
 unfold fK
 rw [bx, aC, decide_eq_true (by omega), Bool.not_true, aF, bx, aC, aC, decide_eq_true (by omega), Bool.not_true]
 unfold ez
 rw [aF]
 have hu : IntKind.wrap .u64 (inn : Int) = (inn : Int) := IntWalk.u64_in _ (by omega)
 have hs : IntKind.wrap .i64 (1 * 2 ^ min (Int.toNat (inn : Int)) (IntKind.bits .i64)) = ((2 ^ inn : Nat) : Int) := by
  have : inn = 1 ∨ inn = 2 ∨ inn = 3 ∨ inn = 4 := by omega
  rcases this with rfl | rfl | rfl | rfl <;> decide
 have hng : decide (¬ (inn : Int) < 0) = true := decide_eq_true (by omega)
 have h16 := p16 (n := inn) (by omega)
 have hle : 2 ^ inn ≤ 2 ^ n := Nat.pow_le_pow_right (by omega) hin.2
 have key : ∀ (m i : Nat), i ≤ 2 ^ inn → 2 ^ inn - i < m → cS (n : Int) (inn : Int) m (i : Int) ((List.range i).map fun j => vc (2 ^ n) 0 (dl j)) = some (brC n inn in0) := by
  intro m
  induction m with
  | zero => intro i _ h; omega
  | succ m ih =>
   intro i hi hm
   rw [cS]
   simp only [hu, hs, hng, bN]
   by_cases e : i = 2 ^ inn
   ·rw [decide_eq_false (by rw [e]; exact Int.lt_irrefl _), aF, e]
    rfl
   ·have hil : i < 2 ^ inn := by omega
    have hd : decide ((i : Int) < ((2 ^ inn : Nat) : Int)) = true := (fun x h => decide_eq_true (by omega) : ∀ x : Nat, i < x → decide ((i : Int) < (x : Int)) = true) _ hil
    have hb := Lu (n := (n : Int)) (by omega) (i := i) (by rw [Int.toNat_natCast]; omega)
    rw [Int.toNat_natCast] at hb
    rw [hd, aS, hb, aC, decide_eq_true (by simp; omega), bN, cn hil (by omega)]
    have := ih (i + 1) (by omega) (by omega)
    rw [lq] at this
    exact this
 exact key FU 0 (Nat.zero_le _) (by rw [bP]; omega)
theorem JP (hn : 1 ≤ n ∧ n ≤ 4) {K : Nat} {f : Amp} {q : Nat} (hq : q < 4) (one : Fin 2) (hK : K ≤ 60) : mo (vc (2 ^ n) K f) (q : Int) (one.val : Int) = some (vc (2 ^ n) K (prA q (one.val == 1) f), nzB (2 ^ n) (prA q (one.val == 1) f)) := by
 have h16 := p16 (n := n) (by omega)
 unfold mo
 rw [dX, (fun x hx => decide_eq_true (by omega) : ∀ x : Nat, x ≤ 16 → decide (0 ≤ (x : Int) ∧ (x : Int) ≤ 1048576) = true) _ h16, bN]
 have hng : decide (¬ IntKind.wrap .u64 (q : Int) < 0) = true := by rw [IntWalk.u64_in _ (by omega)]; exact decide_eq_true (by omega)
 let g : Nat → Amp := fun i r => if r < i then prA q (one.val == 1) f r else (0, 0, 0, 0)
 have key : ∀ (m i : Nat), i ≤ 2 ^ n → 2 ^ n - i < m → d7 (vc (2 ^ n) K f) (q : Int) (one.val : Int) m (nzB i (prA q (one.val == 1) f)) (i : Int) (vc (2 ^ n) K (g i)) = some (vc (2 ^ n) K (prA q (one.val == 1) f), nzB (2 ^ n) (prA q (one.val == 1) f)) := by
  intro m
  induction m with
  | zero => intro i _ h; omega
  | succ m ih =>
   intro i hi hm
   rw [d7, dX]
   by_cases e : i = 2 ^ n
   ·rw [decide_eq_false (by rw [e]; exact Int.lt_irrefl _), aF, e]
    unfold lA
    congr 2
    exact dk fun r hr => if_pos hr
   ·have hil : i < 2 ^ n := by omega
    have hd : decide ((i : Int) < ((2 ^ n : Nat) : Int)) = true := (fun x h => decide_eq_true (by omega) : ∀ x : Nat, i < x → decide ((i : Int) < (x : Int)) = true) _ hil
    have hnz : nzB (i + 1) (prA q (one.val == 1) f) = (nzB i (prA q (one.val == 1) f) || !decide (prA q (one.val == 1) f i = (0, 0, 0, 0))) := by
     unfold nzB; rw [List.range_succ, List.any_append]; simp
    have hg1 : ∀ r, g (i + 1) r = if r = i then prA q (one.val == 1) f i else g i r := fun r => by
     show (if r < i + 1 then _ else _) = _
     by_cases h1 : r = i
     ·subst h1; rw [if_pos (by omega), if_pos rfl]
     ·rw [if_neg h1]
      show _ = if r < i then _ else _
      by_cases h2 : r < i
      ·rw [if_pos h2, if_pos (by omega)]
      ·rw [if_neg h2, if_neg (by omega)]
    have ih' := ih (i + 1) (by omega) (by omega)
    obtain ⟨b1, b0⟩ := DH ⟨i, by omega⟩ ⟨q, hq⟩
    simp only at b1 b0
    have hbit : (bits .and .i64 (Int.fdiv (i : Int) (2 ^ min (Int.toNat (IntKind.wrap .u64 (q : Int))) (IntKind.bits .i64))) 1 == (one.val : Int)) = (i.testBit q == (one.val == 1)) := by
     obtain ⟨o, ho⟩ := one
     have : o = 0 ∨ o = 1 := by omega
     rcases this with rfl | rfl
     ·exact b0
     ·exact b1
    rw [hd, aS, hng, bN, hbit]
    unfold j6
    by_cases ht : (i.testBit q == (one.val == 1)) = true
    ·have hp : prA q (one.val == 1) f i = f i := by unfold prA; rw [if_pos (eq_of_beq ht)]
     rw [ht, aS, mE hil, aC, mE hil, aC, D2]
     have hz : decide (dq K (f i) = d0) = decide (f i = (0, 0, 0, 0)) := decide_eq_decide.2 rQ
     rw [hz, Int.toNat_natCast]
     show bO (br (nzB i _) (some true) (some (!decide (f i = (0, 0, 0, 0))))) (fun x2 => d7 _ _ _ m x2 _ ((vc (2 ^ n) K (g i)).set i (dq K (f i)))) = _
     rw [uC hil, cn hil (by omega)]
     have e1 : vc (2 ^ n) K (fun r => if r = i then f i else g i r) = vc (2 ^ n) K (g (i + 1)) := dk fun r _ => by rw [hg1 r, hp]
     rw [e1]
     rw [hnz, hp] at ih'
     generalize nzB i (prA q (one.val == 1) f) = z at ih' ⊢
     cases z <;> exact ih'
    ·have ht := Bool.eq_false_iff.2 ht
     have hp : prA q (one.val == 1) f i = (0, 0, 0, 0) := by unfold prA; rw [if_neg (by intro h; rw [h, beq_self_eq_true] at ht; cases ht)]
     rw [ht, aF, cn hil (by omega)]
     rw [hnz, hp, decide_eq_true rfl, Bool.not_true, Bool.or_false] at ih'
     have e1 : vc (2 ^ n) K (g (i + 1)) = vc (2 ^ n) K (g i) := dk fun r _ => by
      rw [hg1 r]
      split
      ·rename_i h; subst h; rw [hp]; exact (if_neg (Nat.lt_irrefl _)).symm
      ·rfl
     rw [e1] at ih'
     exact ih'
 have e0 : List.replicate (Int.toNat ((2 ^ n : Nat) : Int)) ((0, 0, 0, 0, 0) : Int × Int × Int × Int × Int) = vc (2 ^ n) K (g 0) := by
  rw [Int.toNat_natCast]
  unfold vc
  refine List.ext_getElem? fun i => ?_
  by_cases h : i < 2 ^ n
  ·rw [List.getElem?_replicate, if_pos h, List.getElem?_map, List.getElem?_range h]
   show some d0 = some (dq K (if i < 0 then _ else (0, 0, 0, 0)))
   rw [if_neg (by omega), wR]
  ·rw [List.getElem?_eq_none (by simp; omega), List.getElem?_eq_none (by simp; omega)]
 rw [e0]
 exact key FU 0 (Nat.zero_le _) (by rw [bP]; omega)
end
def IvB (kn h : Nat) (B : BQ) : Prop := (0 ≤ B.1 ∧ B.1 < 2 ^ kn) ∧ B.2.1 ≤ h ∧ ∀ i, bdv ((2 ^ B.2.1 : Nat) : Int) (B.2.2 i)
section
variable {n inn : Nat}
theorem Lw (hn : 1 ≤ n ∧ n ≤ 4) (hin : 1 ≤ inn ∧ inn ≤ n) {o : OP} (hv : gvB (n : Int) (oG o) = true) (hI : 0 ≤ oI o ∧ oI o ≤ 3) {kn h : Nat} (hkn : kn ≤ 3) (hh : h ≤ 23) {B : BQ} (hB : IvB kn h B) :
  mp (brC n inn B).1 (brC n inn B).2 o.1 o.2.1 o.2.2.1 o.2.2.2.1 o.2.2.2.2.1 o.2.2.2.2.2.1 o.2.2.2.2.2.2.1 o.2.2.2.2.2.2.2 = some ((brC n inn (gtF o B)).1, (brC n inn (gtF o B)).2, true) := by
 obtain ⟨⟨b0, b1⟩, hK, hbd⟩ := hB
 have h8 := p8 hkn
 have b8 : B.1 < 8 := by
  have : ((2 ^ kn : Nat) : Int) ≤ 8 := by exact_mod_cast h8
  have e : (2 : Int) ^ kn = ((2 ^ kn : Nat) : Int) := by simp
  omega
 obtain ⟨x, hx⟩ : ∃ x : Fin 16, B.1 = (x.val : Int) := ⟨⟨B.1.toNat, by omega⟩, by simp only; omega⟩
 obtain ⟨y, hy⟩ : ∃ y : Fin 4, oI o = (y.val : Int) := ⟨⟨(oI o).toNat, by omega⟩, by simp only; omega⟩
 have hc := HS x y
 rw [← hx, ← hy] at hc
 have h16 := p16 (n := inn) (by omega)
 unfold mp
 show bO (br (decide (0 < oI o)) _ _) _ = _
 rw [show (br (decide ((0 : Int) < oI o)) (gd (decide (¬ (IntKind.wrap .u64 (IntKind.wrap .i64 (o.2.2.2.2.2.2.2 - 1))) < 0)) (some ((bits .and .i64 (Int.fdiv (brC n inn B).1 (2 ^ min (Int.toNat (IntKind.wrap .u64 (IntKind.wrap .i64 (o.2.2.2.2.2.2.2 - 1)))) (IntKind.bits .i64))) 1) == 0))) (some false)) = some (cnd B.1 (oI o)) from hc, aC]
 unfold lB gtF
 cases hcn : cnd B.1 (oI o) with
 | true => rw [aS, if_pos rfl]
 | false =>
  rw [aF, if_neg (by simp)]
  have key : ∀ (m i : Nat), i ≤ 2 ^ inn → 2 ^ inn - i < m → f0 B.1 (brC n inn B).2 o.2.1 o.2.2.1 o.2.2.2.1 o.2.2.2.2.1 m (i : Int) ((List.range i).map fun j => vc (2 ^ n) (B.2.1 + kq (oG o).1) (gz (oG o) (B.2.2 j))) = some (B.1, (brC n inn (B.1, B.2.1 + kq (oG o).1, fun i => gz (oG o) (B.2.2 i))).2, true) := by
   intro m
   induction m with
   | zero => intro i _ h; omega
   | succ m ih =>
    intro i hi hm
    rw [f0]
    have hlen : (brC n inn B).2.length = 2 ^ inn := by simp [brC]
    rw [hlen]
    by_cases e : i = 2 ^ inn
    ·rw [decide_eq_false (by rw [e]; exact Int.lt_irrefl _), aF, e]
     rfl
    ·have hil : i < 2 ^ inn := by omega
     have hd : decide ((i : Int) < ((2 ^ inn : Nat) : Int)) = true := (fun x h => decide_eq_true (by omega) : ∀ x : Nat, i < x → decide ((i : Int) < (x : Int)) = true) _ hil
     have hpw := DG (e := B.2.1) (by omega)
     have hag := Lt (K := B.2.1) (M := 2 ^ B.2.1) (f := B.2.2 i) hv (by omega) hpw (hbd i)
     rw [Int.toNat_natCast] at hag
     have hget : ak (brC n inn B).2 (i : Int) = some (vc (2 ^ n) B.2.1 (B.2.2 i)) := mv (fun i => vc (2 ^ n) B.2.1 (B.2.2 i)) hil
     rw [hd, aS, hget, aC]
     show bO (iM (oG o).1 (oG o).2.1 (oG o).2.2.1 (oG o).2.2.2 _) _ = _
     rw [hag, aC]
     simp only [Bool.not_true, aF]
     rw [decide_eq_true (by simp; omega), bN, cn hil (by omega)]
     have := ih (i + 1) (by omega) (by omega)
     rw [lq] at this
     exact this
  exact key FU 0 (Nat.zero_le _) (by rw [bP]; omega)
theorem Lx (hn : 1 ≤ n ∧ n ≤ 4) (hin : 1 ≤ inn ∧ inn ≤ n) {q bit : Nat} (hq : q < 4) (hbit : bit < 3) {kn h : Nat} (hkn : kn ≤ 3) (hh : h ≤ 60) {B : BQ} (hB : IvB kn h B) :
  dg (brC n inn B).1 (brC n inn B).2 (q : Int) (bit : Int) = some ((msF n inn q bit B).map (brC n inn)) := by
 obtain ⟨⟨b0, b1⟩, hK, hbd⟩ := hB
 have h8 := p8 hkn
 have b8 : B.1 < 8 := by
  have : ((2 ^ kn : Nat) : Int) ≤ 8 := by exact_mod_cast h8
  have e : (2 : Int) ^ kn = ((2 ^ kn : Nat) : Int) := by simp
  omega
 obtain ⟨x, hx⟩ : ∃ x : Fin 8, B.1 = (x.val : Int) := ⟨⟨B.1.toNat, by omega⟩, by simp only; omega⟩
 have h16 := p16 (n := inn) (by omega)
 have hlen : (brC n inn B).2.length = 2 ^ inn := by simp [brC]
 have hng : decide (¬ IntKind.wrap .u64 (bit : Int) < 0) = true := by rw [IntWalk.u64_in _ (by omega)]; exact decide_eq_true (by omega)
 unfold dg
 rw [bx, aC, decide_eq_true (by omega), Bool.not_true, aF, bx, aC, aC, decide_eq_true (by omega), Bool.not_true]
 unfold f7
 rw [aF]
 have inner : ∀ (one : Fin 2) (out : (List (Int × List (List DQ)))) (kl : Int → (List (Int × List (List DQ))) → Option (List (Int × List (List DQ)))) (bv : Int), bM (brC n inn B).2 (q : Int) (one.val : Int) out kl FU false 0 bv [] = cT (one.val : Int) out kl (msB n inn q (one.val == 1) B.2.2) bv ((List.range (2 ^ inn)).map fun i => vc (2 ^ n) B.2.1 (prA q (one.val == 1) (B.2.2 i))) := by
  intro one out kl bv
  have key : ∀ (m i : Nat), i ≤ 2 ^ inn → 2 ^ inn - i < m → bM (brC n inn B).2 (q : Int) (one.val : Int) out kl m ((List.range i).any fun j => nzB (2 ^ n) (prA q (one.val == 1) (B.2.2 j))) (i : Int) bv ((List.range i).map fun i => vc (2 ^ n) B.2.1 (prA q (one.val == 1) (B.2.2 i))) = cT (one.val : Int) out kl (msB n inn q (one.val == 1) B.2.2) bv ((List.range (2 ^ inn)).map fun i => vc (2 ^ n) B.2.1 (prA q (one.val == 1) (B.2.2 i))) := by
   intro m
   induction m with
   | zero => intro i _ h; omega
   | succ m ih =>
    intro i hi hm
    rw [bM, hlen]
    by_cases e : i = 2 ^ inn
    ·rw [decide_eq_false (by rw [e]; exact Int.lt_irrefl _), aF, e]
     rfl
    ·have hil : i < 2 ^ inn := by omega
     have hd : decide ((i : Int) < ((2 ^ inn : Nat) : Int)) = true := (fun x h => decide_eq_true (by omega) : ∀ x : Nat, i < x → decide ((i : Int) < (x : Int)) = true) _ hil
     have hget : ak (brC n inn B).2 (i : Int) = some (vc (2 ^ n) B.2.1 (B.2.2 i)) := mv (fun i => vc (2 ^ n) B.2.1 (B.2.2 i)) hil
     rw [hd, aS, hget, aC, JP hn hq one (by omega), aC, decide_eq_true (by simp; omega), bN, cn hil (by omega)]
     have ih' := ih (i + 1) (by omega) (by omega)
     rw [lq, List.range_succ, List.any_append] at ih'
     simp only [List.any_cons, List.any_nil, Bool.or_false] at ih'
     generalize ((List.range i).any fun j => nzB (2 ^ n) (prA q (one.val == 1) (B.2.2 j))) = z at ih' ⊢
     cases z <;> exact ih'
  exact key FU 0 (Nat.zero_le _) (by rw [bP]; omega)
 obtain ⟨m, hm⟩ : ∃ m, FU = ((m + 1) + 1) + 1 := ⟨4194301, rfl⟩
 have pw0 := DI ⟨0, by omega⟩ ⟨bit, hbit⟩ x
 have pw1 := DI ⟨1, by omega⟩ ⟨bit, hbit⟩ x
 rw [← hx] at pw0 pw1
 simp only at pw0 pw1
 have i0 := inner ⟨0, by omega⟩
 have i1 := inner ⟨1, by omega⟩
 simp only at i0 i1
 have key : ∀ FU', FU' = FU → ac (brC n inn B).1 (brC n inn B).2 (q : Int) (bit : Int) FU' 0 [] = some ((msF n inn q bit B).map (brC n inn)) := by
  intro FU' hFU'
  rw [hFU', hm]
  have fin2 : ∀ out : (List (Int × List (List DQ))), ac (brC n inn B).1 (brC n inn B).2 (q : Int) (bit : Int) (m + 1) 2 out = some out := fun out => by
   rw [ac, show decide ((2 : Int) < 2) = false from rfl, aF]
   rfl
  have fin1 : ∀ out : (List (Int × List (List DQ))), out.length ≤ 1000 → ac (brC n inn B).1 (brC n inn B).2 (q : Int) (bit : Int) (m + 1 + 1) 1 out = some (out ++ (if msB n inn q true B.2.2 = true then [brC n inn (B.1 + 2 ^ bit, B.2.1, fun i => prA q true (B.2.2 i))] else [])) := fun out ho => by
   rw [ac, show decide ((1 : Int) < 2) = true from rfl, aS, hng, bN]
   show bM _ _ ((1 : Nat) : Int) _ _ _ _ _ (IntKind.wrap .i64 (B.1 + IntKind.wrap .i64 (((1 : Nat) : Int) * 2 ^ min (Int.toNat (IntKind.wrap .u64 (bit : Int))) (IntKind.bits .i64)))) _ = _
   rw [pw1, i1]
   unfold cT cz
   rw [if_pos trivial, show (((1 : Nat) == 1) : Bool) = true from rfl]
   cases msB n inn q true B.2.2 with
   | true =>
    rw [aS, decide_eq_true (by simp; omega), bN, if_pos rfl]
    show ac _ _ _ _ (m + 1) 2 _ = _
    rw [fin2]
    rfl
   | false =>
    rw [aF, if_neg (by simp), List.append_nil]
    show ac _ _ _ _ (m + 1) 2 _ = _
    rw [fin2]
  rw [ac, show decide ((0 : Int) < 2) = true from rfl, aS, hng, bN]
  show bM _ _ ((0 : Nat) : Int) _ _ _ _ _ (IntKind.wrap .i64 (B.1 + IntKind.wrap .i64 (((0 : Nat) : Int) * 2 ^ min (Int.toNat (IntKind.wrap .u64 (bit : Int))) (IntKind.bits .i64)))) _ = _
  rw [pw0, i0]
  unfold cT cz
  rw [if_neg (by omega), Int.add_zero, show (((0 : Nat) == 1) : Bool) = false from rfl]
  unfold msF
  cases msB n inn q false B.2.2 with
  | true =>
   rw [aS, decide_eq_true (by simp), bN, if_pos rfl]
   show ac _ _ _ _ (m + 1 + 1) 1 _ = _
   rw [fin1 _ (by simp)]
   split <;> rfl
  | false =>
   rw [aF, if_neg (by simp)]
   show ac _ _ _ _ (m + 1 + 1) 1 _ = _
   rw [fin1 _ (by simp)]
   split <;> rfl
 exact key FU rfl
end
section
variable {P : Program}
variable {BR : Nat → Bool} {C : Ctx} {M : Imm} {ρ : Plc} {st : St} {a : Act} {w : World}
end
section
variable {D K L : Nat} {F G : Nat → Amp}
open Classical in
end
def Ok {α : Type} (x : Option α) (Q : α → Prop) : Prop := ∃ r, x = some r ∧ Q r
section
variable {α β : Type} {Q : α → Prop} {R : β → Prop}
theorem Ok.bO {x : Option α} {f : α → Option β} (h : Ok x Q) (k : ∀ r, Q r → Ok (f r) R) : Ok (bO x f) R := by
 obtain ⟨r, rfl, hr⟩ := h
 exact k r hr
theorem Ok.br {b : Bool} {x y : Option β} (h1 : b = true → Ok x R) (h2 : b = false → Ok y R) : Ok (br b x y) R := by
 cases b with
 | true => exact h1 rfl
 | false => exact h2 rfl
theorem Ok.gd {b : Bool} {x : Option β} (h1 : b = true) (h2 : Ok x R) : Ok (gd b x) R := by rw [h1]; exact h2
theorem Ok.some {r : α} (h : Q r) : Ok (some r) Q := ⟨r, rfl, h⟩
theorem Ok.mono {Q' : α → Prop} {x : Option α} (h : Ok x Q) (k : ∀ r, Q r → Q' r) : Ok x Q' := by
 obtain ⟨r, h1, h2⟩ := h; exact ⟨r, h1, k r h2⟩
end
theorem bg {α : Type} {l : List α} {i : Int} (h : 0 ≤ i ∧ i < l.length) : Ok (ak l i) (fun q => q ∈ l) := by
 obtain ⟨k, rfl⟩ : ∃ k : Nat, i = (k : Int) := ⟨i.toNat, by omega⟩
 exact ⟨l[k], bB (by omega), List.getElem_mem _⟩
theorem qB (y : Int) : bits .and .i64 y 255 = y % 256 := by
 have h : ((BitVec.ofInt 64 y) &&& (BitVec.ofInt 64 255)).toNat = ((y % 256).toNat) := by
  rw [BitVec.toNat_and, BitVec.toNat_ofInt, BitVec.toNat_ofInt]
  rw [show (255 % (2 ^ 64 : Nat) : Int).toNat = 2 ^ 8 - 1 from by decide, Nat.and_two_pow_sub_one_eq_mod]
  omega
 show IntKind.i64.wrap ((BitVec.ofInt 64 y &&& BitVec.ofInt 64 255).toNat : Int) = _
 rw [h, IntKind.wrap_i64]
 omega
def cZ (c : List Int × Int × Int) : Prop := c.1.length ≤ 1048576 ∧ 0 ≤ c.2.1 ∧ c.2.1 ≤ c.1.length
theorem JQ {code : List Int} (h : code.length ≤ 1048576) : Ok (pr code) cZ := by
 unfold pr
 have key : ∀ (m k : Nat) (v : Int), k ≤ code.length → code.length - k < m → Ok (fZ code m v (k : Int)) cZ := by
  intro m
  induction m with
  | zero => intro k v _ h; omega
  | succ m ih =>
   intro k v hk hm
   rw [fZ]
   have fin : Ok (nO code v) cZ := ⟨_, rfl, h, by show (0 : Int) ≤ 0; omega, by show (0 : Int) ≤ (code.length : Int); omega⟩
   by_cases e : k < code.length
   ·have hlt : (k : Int) < (code.length : Int) := by omega
    simp only [hlt, decide_true, aS, aC, lY]
    refine Ok.br (fun _ => ?_) (fun _ => fin)
    rw [bB e, aC, cn e (by omega)]
    exact ih (k + 1) _ (by omega) (by omega)
   ·have hlt : ¬ (k : Int) < (code.length : Int) := by omega
    simp only [hlt, decide_false, aF, aC, lY]
    exact fin
 exact key FU 0 _ (by omega) (by rw [bP]; omega)
theorem qC {b : List Int} {i h : Int} (hc : cZ (b, i, h)) : Ok (iZ b i h) (fun r => (0 ≤ r.1 ∧ r.1 < 256) ∧ cZ r.2) := by
 obtain ⟨h1, h2, h3⟩ := hc
 simp only at h1 h2 h3
 unfold iZ
 refine Ok.br (fun e => ?_) (fun e => ?_)
 ·have e := of_decide_eq_true e
  obtain ⟨q, hq, _⟩ := bg (l := b) (i := i) ⟨h2, e⟩
  rw [hq, aC]
  unfold iE
  refine Ok.some ⟨?_, h1, ?_, ?_⟩
  ·simp only [qB]; omega
  ·show 0 ≤ IntKind.wrap .i64 (i + 1); rw [w64 (by omega) (by omega)]; omega
  ·show IntKind.wrap .i64 (i + 1) ≤ (b.length : Int); rw [w64 (by omega) (by omega)]; omega
 ·unfold iE
  refine Ok.some ⟨?_, h1, h2, h3⟩
  simp only [qB]; omega
theorem xP {x n : Int} (hx : 0 ≤ x) (hn : 0 < n) : 0 ≤ Int.tmod x n ∧ Int.tmod x n < n := by
 rw [Int.tmod_eq_emod_of_nonneg hx]
 exact ⟨Int.emod_nonneg _ (by omega), Int.emod_lt_of_pos _ hn⟩
theorem cC {b : List Int} {i h n : Int} (hc : cZ (b, i, h)) : Ok (b9 b i h n) (fun r => (0 ≤ r.1 ∧ (0 < n → r.1 < n) ∧ (n ≤ 0 → r.1 = 0)) ∧ cZ r.2) := by
 unfold b9
 refine Ok.br (fun e => ?_) (fun e => ?_)
 ·have e := of_decide_eq_true e
  exact Ok.some ⟨⟨by simp, fun h => by omega, fun _ => rfl⟩, hc⟩
 ·have e := of_decide_eq_false e
  have hne : decide (n ≠ 0) = true := decide_eq_true (by omega)
  refine Ok.br (fun _ => ?_) (fun _ => ?_)
  ·refine (qC hc).bO fun r hr => Ok.gd hne (Ok.some ⟨?_, hr.2⟩)
   obtain ⟨t1, t2⟩ := xP (n := n) hr.1.1 (by omega)
   exact ⟨t1, fun _ => t2, fun h => by omega⟩
  ·refine (qC hc).bO fun x hx => (qC hx.2).bO fun y hy => (qC hy.2).bO fun z hz => (qC hz.2).bO fun w hw => Ok.gd hne (Ok.some ⟨?_, hw.2⟩)
   have b1 := hx.1; have b2 := hy.1; have b3 := hz.1; have b4 := hw.1
   rw [w64 (x := x.1 * 16777216) (by omega) (by omega), w64 (x := y.1 * 65536) (by omega) (by omega), w64 (x := z.1 * 256) (by omega) (by omega), w64 (x := x.1 * 16777216 + y.1 * 65536) (by omega) (by omega), w64 (x := x.1 * 16777216 + y.1 * 65536 + z.1 * 256) (by omega) (by omega), w64 (by omega) (by omega)]
   obtain ⟨t1, t2⟩ := xP (x := x.1 * 16777216 + y.1 * 65536 + z.1 * 256 + w.1) (n := n) (by omega) (by omega)
   exact ⟨t1, fun _ => t2, fun h => by omega⟩
theorem jq {b : List Int} {i h n : Int} (hc : cZ (b, i, h)) : Ok (dF b i h n) (fun r => cZ r.2) :=
 (cC hc).bO fun r hr => Ok.some hr.2
theorem rT {b l : List Int} {i h : Int} (hc : cZ (b, i, h)) (hl : 0 < l.length) : Ok (fa b i h l) (fun r => r.1 ∈ l ∧ cZ r.2) :=
 (cC hc).bO fun r hr => (bg ⟨hr.1.1, hr.1.2.1 (by omega)⟩).bO fun q hq => Ok.some ⟨hq, hr.2⟩
def tR (n : Nat) (p : List Int) : Prop := p.length = n ∧ (∀ j (hj : j < p.length), 0 ≤ p[j] ∧ p[j] < n) ∧ ∀ i j (hi : i < p.length) (hj : j < p.length), p[i] = p[j] → i = j
theorem HT : ∀ n : Fin 5, (decide (n.val < 1) || (cq n.val == some ((List.range n.val).map Int.ofNat))) = true := by decide +kernel
theorem JR {n : Nat} (h : 1 ≤ n ∧ n ≤ 4) : Ok (cq n) (tR n) := by
 have e := HT ⟨n, by omega⟩
 rw [decide_eq_false (by show ¬ n < 1; omega), Bool.false_or, beq_iff_eq] at e
 refine ⟨_, e, by simp, fun j hj => ?_, fun i j hi hj he => ?_⟩
 ·simp at hj ⊢; omega
 ·simp at he; omega
theorem A7 {n : Nat} {p : List Int} (h : tR n p) {i k : Nat} (hi : i < p.length) (hk : k < p.length) : tR n ((p.set i p[k]).set k p[i]) := by
 obtain ⟨h1, h2, h3⟩ := h
 have g : ∀ j (hj : j < ((p.set i p[k]).set k p[i]).length), ∃ j', ∃ hj' : j' < p.length, ((p.set i p[k]).set k p[i])[j] = p[j'] ∧ j' = if j = k then i else if j = i then k else j := by
  intro j hj
  simp only [List.length_set] at hj
  rw [List.getElem_set, List.getElem_set]
  by_cases e1 : k = j
  ·subst e1; exact ⟨i, hi, by simp, by simp⟩
  ·by_cases e2 : i = j
   ·subst e2; exact ⟨k, hk, by simp [e1], by simp [Ne.symm e1]⟩
   ·exact ⟨j, hj, by simp [e1, e2], by simp [Ne.symm e1, Ne.symm e2]⟩
 refine ⟨by simpa using h1, fun j hj => ?_, fun a b ha hb he => ?_⟩
 ·obtain ⟨j', hj', e, _⟩ := g j hj
  rw [e]; exact h2 j' hj'
 ·obtain ⟨a', ha', ea, ea'⟩ := g a ha
  obtain ⟨b', hb', eb, eb'⟩ := g b hb
  rw [ea, eb] at he
  have := h3 a' b' ha' hb' he
  rw [ea', eb'] at this
  revert this
  repeat' split
  all_goals (intro this; omega)
theorem xQ {b : List Int} {i h : Int} {n : Nat} (hc : cZ (b, i, h)) (hn : 1 ≤ n ∧ n ≤ 4) : Ok (me b i h n) (fun r => tR n r.1 ∧ cZ r.2) := by
 unfold me
 refine (JR hn).bO fun p hp => ?_
 have key : ∀ (m k : Nat) (b : List Int) (i h : Int) (p : List Int), k < n → k < m → cZ (b, i, h) → tR n p → Ok (fb m b i h (k : Int) p) (fun r => tR n r.1 ∧ cZ r.2) := by
  intro m
  induction m with
  | zero => intro k b i h p _ h; omega
  | succ m ih =>
   intro k b i h p hk hm hc hp
   rw [fb]
   refine Ok.br (fun e => ?_) (fun e => Ok.some ⟨hp, hc⟩)
   have e := of_decide_eq_true e
   rw [cn (n := 4) (by omega) (by omega)]
   refine (cC hc).bO fun x hx => ?_
   obtain ⟨j, hj⟩ : ∃ j : Nat, x.1 = (j : Int) := ⟨x.1.toNat, by omega⟩
   have hjk : (j : Int) < ((k + 1 : Nat) : Int) := by have := hx.1.2.1 (by omega); omega
   have hlk : k < p.length := by have := hp.1; omega
   have hlj : j < p.length := by have := hp.1; omega
   rw [hj]
   rw [bB hlk, aC, bB hlj, aC, bB (l := p.set (Int.toNat (k : Int)) p[j]) (by simpa using hlj), aC]
   rw [w64 (by omega) (by omega), show (k : Int) - 1 = ((k - 1 : Nat) : Int) by omega]
   simp only [Int.toNat_natCast]
   exact ih (k - 1) _ _ _ _ (by omega) (by omega) hx.2 (A7 hp hlk hlj)
 have e : IntKind.wrap .i64 ((n : Int) - 1) = ((n - 1 : Nat) : Int) := by rw [w64 (by omega) (by omega)]; omega
 rw [e]
 exact key FU (n - 1) b i h p (by omega) (by rw [bP]; omega) hc hp
theorem I7 (k : Int) : 0 ≤ dR k ∧ dR k ≤ 3 := by rcases ar4 k with h | h | h | h <;> omega
theorem I8 {b : List Int} {i h k : Int} {n : Nat} (hc : cZ (b, i, h)) (hn : 1 ≤ n ∧ n ≤ 4) (hk : dR k ≤ n) : Ok (rp b i h k n) (fun r => (r.1 = k ∧ (1 ≤ k ∧ k ≤ 12 → ivg r.1 r.2.1 r.2.2.1 r.2.2.2.1 n = true)) ∧ cZ r.2.2.2.2) := by
 unfold rp
 refine (xQ hc hn).bO fun p hp => ?_
 obtain ⟨⟨p1, p2, p3⟩, hpc⟩ := hp
 have a1 : dR k = 0 → ¬ (1 ≤ k ∧ k ≤ 12) := fun h hk => by unfold dR at h; (repeat' split at h) <;> omega
 rw [show (0 : Int) = ((0 : Nat) : Int) from rfl, bB (l := p.1) (k := 0) (by omega), aC, wU, aC]
 have q0 := p2 0 (by omega)
 refine Ok.br (fun e => ?_) (fun e => ?_)
 ·have e := of_decide_eq_true e
  rw [show (1 : Int) = ((1 : Nat) : Int) from rfl, bB (l := p.1) (k := 1) (by omega), aC]
  unfold lO
  rw [wU, aC]
  have q1 := p2 1 (by omega)
  have d1 : p.1[0] ≠ p.1[1] := fun h => by have := p3 0 1 (by omega) (by omega) h; omega
  refine Ok.br (fun e => ?_) (fun e => ?_)
  ·have e := of_decide_eq_true e
   rw [show (2 : Int) = ((2 : Nat) : Int) from rfl, bB (l := p.1) (k := 2) (by omega), aC]
   have q2 := p2 2 (by omega)
   have d2 : p.1[0] ≠ p.1[2] := fun h => by have := p3 0 2 (by omega) (by omega) h; omega
   have d3 : p.1[1] ≠ p.1[2] := fun h => by have := p3 1 2 (by omega) (by omega) h; omega
   refine Ok.some ⟨⟨rfl, fun hk => ?_⟩, hpc⟩
   have ha : dR k = 3 := by have := I7 k; omega
   show ivg k p.1[0] p.1[1] p.1[2] n = true
   unfold ivg
   rw [ha]
   simp [okQ]
   grind
  ·have e := of_decide_eq_false e
   refine Ok.some ⟨⟨rfl, fun hk => ?_⟩, hpc⟩
   have ha : dR k = 2 := by omega
   show ivg k p.1[0] p.1[1] 0 n = true
   unfold ivg
   rw [ha]
   simp [okQ]
   grind
 ·have e := of_decide_eq_false e
  unfold lO
  rw [wU, aC]
  have hlt : ¬ 2 < dR k := by omega
  simp only [hlt, decide_false, aF]
  refine Ok.some ⟨⟨rfl, fun hk => ?_⟩, hpc⟩
  have ha : dR k = 1 := by
   have := I7 k
   have : dR k ≠ 0 := fun h => a1 h hk
   omega
  show ivg k p.1[0] 0 0 n = true
  unfold ivg
  rw [ha]
  simp [okQ]
  omega
theorem xR {b : List Int} {i h : Int} {n : Nat} (hc : cZ (b, i, h)) (hn : 1 ≤ n ∧ n ≤ 4) : Ok (mf b i h n) (fun r => ivg r.1 r.2.1 r.2.2.1 r.2.2.2.1 n = true ∧ cZ r.2.2.2.2) := by
 unfold mf
 obtain ⟨mx, e1, e2⟩ : ∃ mx : Int, ak ([0, 8, 11, 12, 12] : List Int) (n : Int) = some mx ∧ (8 ≤ mx ∧ mx ≤ 12) := by
  have : n = 1 ∨ n = 2 ∨ n = 3 ∨ n = 4 := by omega
  rcases this with rfl | rfl | rfl | rfl
  ·exact ⟨8, rfl, by omega⟩
  ·exact ⟨11, rfl, by omega⟩
  ·exact ⟨12, rfl, by omega⟩
  ·exact ⟨12, rfl, by omega⟩
 rw [e1, aC]
 have fin : ∀ (b : List Int) (i h k : Int), cZ (b, i, h) → (1 ≤ k ∧ k ≤ 12) → Ok (iG n b i h k) (fun r => ivg r.1 r.2.1 r.2.2.1 r.2.2.2.1 n = true ∧ cZ r.2.2.2.2) := by
  intro b i h k hc hk
  unfold iG
  rw [wU, aC]
  refine Ok.br (fun e => ?_) (fun e => ?_)
  ·unfold iF
   refine (I8 hc hn (k := 4) (by have : dR 4 = 1 := rfl; omega)).bO fun r hr => Ok.some ⟨hr.1.2 (by omega), hr.2⟩
  ·have e := of_decide_eq_false e
   unfold iF
   refine (I8 hc hn (k := k) (by omega)).bO fun r hr => Ok.some ⟨hr.1.2 hk, hr.2⟩
 refine (cC hc).bO fun x hx => (jq hx.2).bO fun y hy => Ok.br (fun _ => ?_) (fun _ => ?_)
 ·refine (rT hy (by simp)).bO fun q hq => fin _ _ _ _ hq.2 ?_
  have := hq.1
  simp at this
  omega
 ·have := hx.1.2.1 (by omega)
  rw [w64 (by omega) (by omega)]
  exact fin _ _ _ _ hy (by omega)
theorem JS {n : Int} (h : 1 ≤ n ∧ n ≤ 4) : ∃ k : Nat, n = (k : Int) ∧ 1 ≤ k ∧ k ≤ 4 := ⟨n.toNat, by omega, by omega, by omega⟩
section
variable {M : Imm} {g off : Nat} {u old : Value} {x0 x : List DQ}
end
def hx (o : OP) : Nat := if o.1 = 1 then kq (oG o).1 else 0
def hcO : List OP → Nat
 | [] => 0
 | o :: L => hx o + hcO L
theorem uE : ∀ L : List OP, hcO L ≤ L.length
 | [] => Nat.le_refl 0
 | o :: L => by
  have := uE L
  unfold hcO hx kq
  simp only [List.length_cons]
  split <;> (try split) <;> omega
def knx (o : OP) (kn : Nat) : Nat := if o.1 = 2 then kn + 1 else kn
theorem IvB.mono {kn h kn' h' : Nat} {B : BQ} (hB : IvB kn h B) (h1 : kn ≤ kn') (h2 : h ≤ h') : IvB kn' h' B := by
 obtain ⟨⟨b0, b1⟩, hK, hbd⟩ := hB
 refine ⟨⟨b0, ?_⟩, by omega, hbd⟩
 have : (2 : Int) ^ kn ≤ 2 ^ kn' := by
  have := Nat.pow_le_pow_right (n := 2) (by omega) h1
  exact_mod_cast this
 omega
theorem wW : IvB 0 0 in0 := ⟨⟨Int.le_refl _, by decide⟩, Nat.le_refl _, fun i => Kg i⟩
theorem Kl {kn h : Nat} {B : BQ} (hB : IvB kn h B) (o : OP) : IvB kn (h + kq (oG o).1) (gtF o B) := by
 unfold gtF
 split
 ·exact hB.mono (Nat.le_refl _) (by omega)
 ·obtain ⟨b, hK, hbd⟩ := hB
  exact ⟨b, by simp only; omega, fun i => JM (hbd i) (oG o)⟩
theorem DJ {M : Int} {f : Amp} (h : bdv M f) (hM : 0 ≤ M) (q : Nat) (one : Bool) : bdv M (prA q one f) := fun r => by
 unfold prA
 split
 ·exact h r
 ·unfold bdz; simp only; omega
theorem Km {n inn kn h q : Nat} {B : BQ} (hB : IvB kn h B) : ∀ B' ∈ msF n inn q kn B, IvB (kn + 1) h B' := by
 obtain ⟨⟨b0, b1⟩, hK, hbd⟩ := hB
 have e2 : (2 : Int) ^ (kn + 1) = 2 ^ kn + 2 ^ kn := by rw [Int.pow_succ]; omega
 have hpos : (0 : Int) < 2 ^ kn := by
  have := Nat.pow_pos (n := kn) (show 0 < 2 by omega)
  exact_mod_cast this
 intro B' hB'
 unfold msF at hB'
 rcases List.mem_append.1 hB' with h | h
 ·split at h
  ·simp only [List.mem_cons, List.not_mem_nil, or_false] at h
   subst h
   exact ⟨⟨b0, by simp only; omega⟩, hK, fun i => DJ (hbd i) (Int.natCast_nonneg _) q false⟩
  ·simp at h
 ·split at h
  ·simp only [List.mem_cons, List.not_mem_nil, or_false] at h
   subst h
   exact ⟨⟨by simp only; omega, by simp only; omega⟩, hK, fun i => DJ (hbd i) (Int.natCast_nonneg _) q true⟩
  ·simp at h
def okO (n bits : Int) (kn : Nat) (o : OP) : Prop := ovB n bits o = true ∧ oI o ≤ (kn : Int) ∧ (o.1 = 2 → oB o = (kn : Int))
theorem rU {n bits : Int} {o : OP} (h : ovB n bits o = true) (h1 : o.1 = 1) : gvB n (oG o) = true ∧ (0 ≤ oI o ∧ oI o ≤ bits) := by
 unfold ovB at h
 rw [if_pos h1] at h
 simp only [Bool.and_eq_true, decide_eq_true_eq] at h
 exact ⟨h.2.2.2.1, h.2.2.2.2⟩
theorem oa {n bits : Int} {o : OP} (h : ovB n bits o = true) (h1 : o.1 = 2) : (0 ≤ oQ o ∧ oQ o ≤ n - 1) ∧ (0 ≤ oB o ∧ oB o ≤ bits - 1) := by
 unfold ovB at h
 rw [if_neg (by omega), if_pos h1] at h
 simp only [Bool.and_eq_true, decide_eq_true_eq] at h
 exact ⟨h.2.2.2.1, h.2.2.2.2⟩
theorem xS {n bits : Int} {o : OP} (h : ovB n bits o = true) : (o.1 = 1 ∨ o.1 = 2 ∨ o.1 = 3) ∧ (0 ≤ bits ∧ bits ≤ 3) := by
 unfold ovB at h
 simp only [Bool.and_eq_true, decide_eq_true_eq] at h
 refine ⟨?_, h.2.1⟩
 have h2 := h.2.2
 split at h2
 ·exact .inl (by assumption)
 split at h2
 ·exact .inr (.inl (by assumption))
 split at h2
 ·exact .inr (.inr (by assumption))
 ·cases h2
section
variable {n inn : Nat}
theorem DK (q bit : Nat) (B : BQ) : (msF n inn q bit B).length ≤ 2 := by
 unfold msF
 (repeat' split) <;> simp
theorem DL (o : OP) (B : BQ) : (opF n inn o B).length ≤ (if o.1 = 2 then 2 else 1) := by
 unfold opF
 by_cases h1 : o.1 = 1
 ·rw [if_pos h1, if_neg (by omega)]; simp
 ·rw [if_neg h1]
  by_cases h2 : o.1 = 2
  ·rw [if_pos h2, if_pos h2]; exact DK _ _ _
  ·rw [if_neg h2, if_neg h2]; simp
theorem xT {bits : Int} {kn h : Nat} {o : OP} (ho : okO (n : Int) bits kn o) {B : BQ} (hB : IvB kn h B) : ∀ B' ∈ opF n inn o B, IvB (knx o kn) (h + hx o) B' := by
 intro B' hB'
 unfold opF at hB'
 unfold knx hx
 by_cases h1 : o.1 = 1
 ·rw [if_pos h1] at hB'
  simp only [List.mem_cons, List.not_mem_nil, or_false] at hB'
  subst hB'
  rw [if_neg (by omega), if_pos h1]
  exact Kl hB o
 ·rw [if_neg h1] at hB' ⊢
  by_cases h2 : o.1 = 2
  ·rw [if_pos h2] at hB' ⊢
   rw [ho.2.2 h2, Int.toNat_natCast] at hB'
   exact Km hB B' hB'
  ·rw [if_neg h2] at hB' ⊢
   simp only [List.mem_cons, List.not_mem_nil, or_false] at hB'
   subst hB'
   exact hB
theorem JT (hn : 1 ≤ n ∧ n ≤ 4) (hin : 1 ≤ inn ∧ inn ≤ n) {bits : Int} {kn h : Nat} (hkn : kn ≤ 3) (hh : h ≤ 23) {o : OP} (ho : okO (n : Int) bits kn o) {l : List BQ} (hl : l.length ≤ 8) (hB : ∀ B ∈ l, IvB kn h B) :
  oZ (l.map (brC n inn)) o.1 o.2.1 o.2.2.1 o.2.2.2.1 o.2.2.2.2.1 o.2.2.2.2.2.1 o.2.2.2.2.2.2.1 o.2.2.2.2.2.2.2 = some ((l.flatMap (opF n inn o)).map (brC n inn), true) := by
 obtain ⟨hkd, hbits⟩ := xS ho.1
 have key : ∀ (m i : Nat) (out : List (Int × List (List DQ))), i ≤ l.length → l.length - i < m → out.length ≤ 2 * i →
   d8 (l.map (brC n inn)) o.1 o.2.1 o.2.2.1 o.2.2.2.1 o.2.2.2.2.1 o.2.2.2.2.2.1 o.2.2.2.2.2.2.1 o.2.2.2.2.2.2.2 m (i : Int) out = some (out ++ ((l.drop i).flatMap (opF n inn o)).map (brC n inn), true) := by
  intro m
  induction m with
  | zero => intro i out _ h; omega
  | succ m ih =>
   intro i out hi hm ho'
   rw [d8, List.length_map]
   by_cases e : i = l.length
   ·rw [decide_eq_false (by omega), aF, List.drop_of_length_le (by omega)]
    simp [lC]
   ·have hil : i < l.length := by omega
    have hget : ak (l.map (brC n inn)) (i : Int) = some (brC n inn l[i]) := kL (by rw [List.getElem?_map, List.getElem?_eq_getElem hil]; rfl)
    have hBi := hB _ (List.getElem_mem hil)
    rw [decide_eq_true (by omega), aS, List.drop_eq_getElem_cons hil, List.flatMap_cons, List.map_append]
    unfold gD
    rcases hkd with h1 | h1 | h1
    ·obtain ⟨g1, g2⟩ := rU ho.1 h1
     have ef : opF n inn o l[i] = [gtF o l[i]] := by unfold opF; rw [if_pos h1]
     rw [show (o.1 == 1) = true by rw [h1]; rfl, aS, hget, aC, Lw hn hin g1 (by omega) hkn hh hBi, aC]
     simp only [Bool.not_true, aF]
     rw [decide_eq_true (by simp; omega), bN, cn hil (by omega), ih (i + 1) _ (by omega) (by omega) (by simp; omega), ef, List.append_assoc]
     rfl
    ·obtain ⟨g1, g2⟩ := oa ho.1 h1
     have ef : opF n inn o l[i] = msF n inn (oQ o).toNat (oB o).toNat l[i] := by unfold opF; rw [if_neg (by omega), if_pos h1]
     have hms := Lx hn hin (q := (oQ o).toNat) (bit := (oB o).toNat) (by omega) (by omega) hkn (show h ≤ 60 by omega) hBi
     rw [show (((oQ o).toNat : Nat) : Int) = oQ o by omega, show (((oB o).toNat : Nat) : Int) = oB o by omega] at hms
     have hl2 := DK (n := n) (inn := inn) (oQ o).toNat (oB o).toNat l[i]
     rw [show (o.1 == 1) = false by rw [h1]; rfl, aF, show (o.1 == 2) = true by rw [h1]; rfl, aS, hget, aC]
     show bO (dg _ _ (oQ o) (oB o)) _ = _
     rw [hms, aC, decide_eq_true (by simp; omega), bN, cn hil (by omega), ih (i + 1) _ (by omega) (by omega) (by simp; omega), ef, List.append_assoc]
    ·have ef : opF n inn o l[i] = [l[i]] := by unfold opF; rw [if_neg (by omega), if_neg (by omega)]
     rw [show (o.1 == 1) = false by rw [h1]; rfl, aF, show (o.1 == 2) = false by rw [h1]; rfl, aF, hget, aC, decide_eq_true (by simp; omega), bN, cn hil (by omega), ih (i + 1) _ (by omega) (by omega) (by simp; omega), ef, List.append_assoc]
     rfl
 have := key FU 0 [] (by omega) (by rw [bP]; omega) (by simp)
 exact this
theorem qD (o : OP) : ∀ l : List BQ, (l.flatMap (opF n inn o)).length ≤ l.length * (if o.1 = 2 then 2 else 1)
 | [] => by simp
 | B :: l => by
  rw [List.flatMap_cons, List.length_append, List.length_cons, Nat.succ_mul]
  have h1 := DL (n := n) (inn := inn) o B
  have h2 := qD o l
  omega
theorem xU (hn : 1 ≤ n ∧ n ≤ 4) (hin : 1 ≤ inn ∧ inn ≤ n) {bits : Int} (hbits : 0 ≤ bits ∧ bits ≤ 3) : ∀ (L : List OP) (kn h : Nat) (l : List BQ), rvL (n : Int) bits L kn = true → (kn : Int) ≤ bits → l.length ≤ 2 ^ kn → (∀ B ∈ l, IvB kn h B) →
  (sN n inn L l).length ≤ 8 ∧ ∀ B ∈ sN n inn L l, IvB bits.toNat (h + hcO L) B
 | [], kn, h, l, hv, hk, hl, hB => by
  have := p8 (n := kn) (by omega)
  refine ⟨by show l.length ≤ 8; omega, fun B hb => (hB B hb).mono (by omega) (by omega)⟩
 | o :: L, kn, h, l, hv, hk, hl, hB => by
  unfold rvL at hv
  simp only [Bool.and_eq_true, decide_eq_true_eq, Bool.or_eq_true] at hv
  obtain ⟨⟨v1, v2⟩, v3, v4⟩ := hv
  have ho : okO (n : Int) bits kn o := ⟨v1, v2, fun h2 => by
    rcases v3 with v3 | v3
    · rw [h2] at v3; cases v3
    · exact eq_of_beq v3⟩
  have hk' : ((knx o kn : Nat) : Int) ≤ bits := by
   unfold knx
   split
   ·rename_i h2
    have := (oa v1 h2).2
    have := ho.2.2 h2
    omega
   ·exact hk
  have hl' : (l.flatMap (opF n inn o)).length ≤ 2 ^ knx o kn := by
   have h1 := qD (n := n) (inn := inn) o l
   unfold knx
   split at h1
   ·rename_i h2
    rw [if_pos h2, Nat.pow_succ]; omega
   ·rename_i h2
    rw [if_neg h2]; omega
  obtain ⟨r1, r2⟩ := xU hn hin hbits L (knx o kn) (h + hx o) (l.flatMap (opF n inn o)) v4 hk' hl' (fun B' hB' => by
    obtain ⟨B, hb, hb'⟩ := List.mem_flatMap.1 hB'
    exact xT ho (hB B hb) B' hb')
  refine ⟨r1, fun B hb => ?_⟩
  have := r2 B hb
  rw [Nat.add_assoc] at this
  exact this
theorem JU (hn : 1 ≤ n ∧ n ≤ 4) (hin : 1 ≤ inn ∧ inn ≤ n) {bits : Int} (hbits : 0 ≤ bits ∧ bits ≤ 3) {L : List OP} (hL : L.length ≤ 4000000) : ∀ (m i kn h : Nat) (l : List BQ), i ≤ L.length → L.length - i < m → rvL (n : Int) bits (L.drop i) kn = true → (kn : Int) ≤ bits → l.length ≤ 2 ^ kn → (∀ B ∈ l, IvB kn h B) → h + hcO (L.drop i) ≤ 23 →
  bT L (L.length : Int) m (i : Int) (l.map (brC n inn)) = some ((sN n inn (L.drop i) l).map (brC n inn), true) := by
 intro m
 induction m with
 | zero => intro i kn h l _ h1; omega
 | succ m ih =>
  intro i kn h l hi hm hv hk hl hB hh
  rw [bT]
  by_cases e : i = L.length
  ·rw [decide_eq_false (by omega), aF, aC, List.drop_of_length_le (by omega)]
   rfl
  ·have hil : i < L.length := by omega
   rw [List.drop_eq_getElem_cons hil] at hv hh ⊢
   rw [decide_eq_true (by omega), aS, aC]
   unfold eL
   rw [aS, bB hil, aC]
   generalize L[i] = o at hv hh ⊢
   unfold hcO at hh
   unfold rvL at hv
   simp only [Bool.and_eq_true, decide_eq_true_eq, Bool.or_eq_true] at hv
   obtain ⟨⟨v1, v2⟩, v3, v4⟩ := hv
   have ho : okO (n : Int) bits kn o := ⟨v1, v2, fun h2 => by
     rcases v3 with v3 | v3
     · rw [h2] at v3; cases v3
     · exact eq_of_beq v3⟩
   have hk' : ((knx o kn : Nat) : Int) ≤ bits := by
    unfold knx
    split
    ·rename_i h2
     have := (oa v1 h2).2
     have := ho.2.2 h2
     omega
    ·exact hk
   have hl' : (l.flatMap (opF n inn o)).length ≤ 2 ^ knx o kn := by
    have h1 := qD (n := n) (inn := inn) o l
    unfold knx
    split at h1
    ·rename_i h2
     rw [if_pos h2, Nat.pow_succ]; omega
    ·rename_i h2
     rw [if_neg h2]; omega
   have h8 := p8 (n := kn) (by omega)
   rw [JT hn hin (by omega) (by omega) ho (by omega) hB, aC]
   simp only [Bool.not_true, aF]
   have wi : IntKind.wrap .i64 ((i : Int) + 1) = ((i + 1 : Nat) : Int) := by rw [w64 (by omega) (by omega)]; omega
   rw [wi]
   exact ih (i + 1) (knx o kn) (h + hx o) _ (by omega) (by omega) v4 hk' hl' (fun B' hB' => by
     obtain ⟨B, hb, hb'⟩ := List.mem_flatMap.1 hB'
     exact xT ho (hB B hb) B' hb') (by omega)
end
theorem Kn {n inn bits : Int} {L : List OP} (hL : L.length ≤ 4000000) (hh : hcO L ≤ 23) : lm n inn bits L = some (if rvB n inn bits L = true then ((sN n.toNat inn.toNat L [in0]).map (brC n.toNat inn.toNat), true) else ([], false)) := by
 unfold lm gE
 rw [Kk hL, aC]
 cases hv : rvB n inn bits L with
 | false => rfl
 | true =>
  rw [Bool.not_true, aF, if_pos rfl]
  unfold rvB at hv
  simp only [Bool.and_eq_true, decide_eq_true_eq] at hv
  obtain ⟨⟨h1, h2⟩, ⟨h3, h4⟩, h5⟩ := hv
  obtain ⟨n', rfl⟩ : ∃ n' : Nat, n = (n' : Int) := ⟨n.toNat, by omega⟩
  obtain ⟨i', rfl⟩ : ∃ i' : Nat, inn = (i' : Int) := ⟨inn.toNat, by omega⟩
  have hn : 1 ≤ n' ∧ n' ≤ 4 := by omega
  have hin : 1 ≤ i' ∧ i' ≤ n' := by omega
  rw [JO hn hin, aC]
  have := JU hn hin h3 hL FU 0 0 0 [in0] (by omega) (by rw [bP]; omega) (by rw [List.drop_zero]; exact h5) (by omega) (by simp) (fun B hb => by
    simp only [List.mem_cons, List.not_mem_nil, or_false] at hb
    subst hb
    exact wW) (by rw [List.drop_zero]; omega)
  rw [List.drop_zero] at this
  show bO (bT L (L.length : Int) FU ((0 : Nat) : Int) ([in0].map (brC n' i'))) _ = _
  rw [this, aC, Int.toNat_natCast, Int.toNat_natCast]
theorem Ly (n bits : Int) (o : OP) : kH o.1 o.2.1 o.2.2.1 o.2.2.2.1 o.2.2.2.2.1 o.2.2.2.2.2.1 o.2.2.2.2.2.2.1 o.2.2.2.2.2.2.2 n bits = some (ovB n bits o) := by
 obtain ⟨kd, k, a, b, c, q, bt, i⟩ := o
 unfold kH ovB oG oQ oB oI gvB g0B
 rw [jA, aC]
 have e1 : ∀ k a b c n, gi k a b c n = some (ivg k a b c n) := fun _ _ _ _ _ => rfl
 by_cases hn : 1 ≤ n ∧ n ≤ 4
 ·rw [decide_eq_true hn, Bool.not_true, aF, jA, aC, aC, Bool.true_and]
  by_cases hb : 0 ≤ bits ∧ bits ≤ 3
  ·rw [decide_eq_true hb, Bool.not_true, Bool.true_and]
   unfold iw
   rw [aF]
   have w1 : IntKind.wrap .i64 (n - 1) = n - 1 := w64 (by omega) (by omega)
   have w2 : IntKind.wrap .i64 (bits - 1) = bits - 1 := w64 (by omega) (by omega)
   simp only [e1, jA, aC, beq_self_eq_true, Bool.true_and, Bool.and_true, w1, w2]
   by_cases h1 : kd = 1
   ·subst h1
    rw [if_pos rfl, show ((1 : Int) == 1) = true from rfl, aS]
    cases (q == 0 && bt == 0) <;> cases ivg k a b c n <;> rfl
   ·rw [if_neg h1, beq_eq_false_iff_ne.2 h1, aF]
    by_cases h2 : kd = 2
    ·subst h2
     rw [if_pos rfl, show ((2 : Int) == 2) = true from rfl, aS]
     cases k == 0 <;> cases a == 0 <;> cases b == 0 <;> cases c == 0 <;> cases i == 0 <;> cases decide (0 ≤ q ∧ q ≤ n - 1) <;> rfl
    ·rw [if_neg h2, beq_eq_false_iff_ne.2 h2, aF]
     by_cases h3 : kd = 3
     ·subst h3
      rw [if_pos rfl, show ((3 : Int) == 3) = true from rfl, aS]
      cases k == 0 <;> cases a == 0 <;> cases b == 0 <;> cases c == 0 <;> cases bt == 0 <;> cases i == 0 <;> rfl
     ·rw [if_neg h3, beq_eq_false_iff_ne.2 h3, aF]
  ·rw [decide_eq_false hb, Bool.not_false, Bool.false_and]
   rfl
 ·rw [decide_eq_false hn, Bool.not_false, aS, aC, Bool.false_and]
  rfl
theorem Ko {n bits : Int} {L : List OP} (hL : L.length ≤ 4000000) : ∀ (m i kn : Nat), i ≤ L.length → L.length - i < m → kn ≤ i → bE n bits L m (kn : Int) (L.length : Int) (i : Int) = some (rvL n bits (L.drop i) kn) := by
 intro m
 induction m with
 | zero => intro i kn _ h; omega
 | succ m ih =>
  intro i kn hi hm hk
  rw [bE]
  by_cases e : i = L.length
  ·rw [decide_eq_false (by omega), aF, List.drop_of_length_le (by omega)]
   rfl
  ·have hil : i < L.length := by omega
   rw [decide_eq_true (by omega), aS, bB hil, aC, Ly, aC, List.drop_eq_getElem_cons hil]
   have ih1 := ih (i + 1) (kn + 1) (by omega) (by omega) (by omega)
   have ih2 := ih (i + 1) kn (by omega) (by omega) (by omega)
   have wk : IntKind.wrap .i64 ((kn : Int) + 1) = ((kn + 1 : Nat) : Int) := by rw [w64 (by omega) (by omega)]; omega
   have wi : IntKind.wrap .i64 ((i : Int) + 1) = ((i + 1 : Nat) : Int) := by rw [w64 (by omega) (by omega)]; omega
   unfold rvL
   generalize L[i] = o
   show bO (br (!(ovB n bits o)) (some true) (bO (br (o.1 == 2) (some (oB o != (kn : Int))) (some false)) fun x25 => some x25)) (fun x26 => bO (br x26 (some true) (some (decide ((kn : Int) < oI o)))) fun x27 => cM (kn : Int) (L.length : Int) (i : Int) (bE n bits L m) o x27) = _
   cases hov : ovB n bits o with
   | false => rfl
   | true =>
    rw [Bool.not_true, aF, Bool.true_and]
    by_cases h2 : o.1 = 2
    ·rw [show (o.1 == 2) = true by rw [h2]; rfl, aS, aC, aC, show (o.1 != 2) = false by rw [h2]; rfl, Bool.false_or, if_pos h2]
     by_cases h3 : oB o = (kn : Int)
     ·rw [h3, bne_self_eq_false, aF, aC, beq_self_eq_true, Bool.true_and]
      unfold cM
      by_cases h1 : (kn : Int) < oI o
      ·rw [decide_eq_true h1, aS, decide_eq_false (by omega), Bool.false_and]
      ·rw [decide_eq_false h1, aF, decide_eq_true (by omega), Bool.true_and, show (o.1 == 2) = true by rw [h2]; rfl, aS]
       unfold ch
       rw [wk, wi, ih1]
     ·rw [bne_iff_ne.2 h3, aS, aC, beq_eq_false_iff_ne.2 h3, Bool.false_and, Bool.and_false]
      unfold cM
      rw [aS]
    ·rw [beq_eq_false_iff_ne.2 h2, aF, aC, aC, aF, aC, bne_iff_ne.2 h2, Bool.true_or, Bool.true_and, if_neg h2]
     unfold cM
     by_cases h1 : (kn : Int) < oI o
     ·rw [decide_eq_true h1, aS, decide_eq_false (by omega), Bool.false_and]
     ·rw [decide_eq_false h1, aF, decide_eq_true (by omega), Bool.true_and, beq_eq_false_iff_ne.2 h2, aF]
      unfold ch
      rw [wi, ih2]
theorem Lz {n inn bits : Int} {L : List OP} (hL : L.length ≤ 4000000) : eU n inn bits L = some (rvB n inn bits L) := by
 unfold eU rvB
 have h := Ko (n := n) (bits := bits) hL FU 0 0 (by omega) (by rw [bP]; omega) (by omega)
 rw [List.drop_zero] at h
 rw [jA, aC, jA, aC]
 cases decide (1 ≤ n ∧ n ≤ 4) with
 | false => rfl
 | true =>
  rw [Bool.not_true, aF, aC]
  cases decide (1 ≤ inn ∧ inn ≤ n) with
  | false => rfl
  | true =>
   rw [Bool.not_true, aF, jA, aC, aC]
   cases decide (0 ≤ bits ∧ bits ≤ 3) with
   | false => rfl
   | true =>
    rw [Bool.not_true, aF, aC]
    unfold eH
    by_cases h5 : (120 : Int) < (L.length : Int)
    ·rw [decide_eq_true h5, aS, decide_eq_false (by omega)]; rfl
    ·rw [decide_eq_false h5, aF, decide_eq_true (by omega), Bool.true_and, Bool.true_and, Bool.true_and]
     exact h
theorem M3 (b : Int) {l : List (List DQ)} (hl : l.length ≤ 1000) (hq : ∀ q ∈ l, q.length ≤ 1000) : kv b l = some (b, l) := by
 have key : ∀ (m i : Nat), i ≤ l.length → l.length - i < m → dE b l m (l.length : Int) (i : Int) (l.take i) = some (b, l) := by
  intro m
  induction m with
  | zero => intro i _ h; omega
  | succ m ih =>
   intro i hi hm
   rw [dE]
   by_cases e : i = l.length
   ·rw [decide_eq_false (by omega), aF, List.take_of_length_le (by omega)]
    rfl
   ·have hil : i < l.length := by omega
    have h1 := hq l[i] (List.getElem_mem hil)
    rw [decide_eq_true (by omega), aS, bB hil, aC, decide_eq_true (by simp; omega), bN, decide_eq_true (by simp; omega), bN, cn hil (by omega)]
    have := ih (i + 1) (by omega) (by omega)
    rw [List.take_succ_eq_append_getElem hil] at this
    exact this
 exact key FU 0 (Nat.zero_le _) (by rw [bP]; omega)
def bsJ (n i : Nat) : Bool := !decide (i < 2 ^ n) || ix (n : Int) (i : Int) == some (vc (2 ^ n) 0 (dl i))
theorem HU : ∀ n : Fin 4, ∀ i : Fin 16, bsJ (n.val + 1) i.val = true := by decide +kernel
theorem Kp {n : Nat} (hn : 1 ≤ n ∧ n ≤ 4) {i : Nat} (hi : i < 2 ^ n) : ix (n : Int) (i : Int) = some (vc (2 ^ n) 0 (dl i)) := by
 have h16 : i < 16 := Nat.lt_of_lt_of_le hi (p16 hn.2)
 obtain ⟨n', rfl⟩ : ∃ n' : Nat, n = n' + 1 := ⟨n - 1, by omega⟩
 have := HU ⟨n', by omega⟩ ⟨i, h16⟩
 unfold bsJ at this
 rw [decide_eq_true hi, Bool.not_true, Bool.false_or] at this
 exact eq_of_beq this
theorem JV {n inn : Nat} (hn : 1 ≤ n ∧ n ≤ 4) (hin : 1 ≤ inn ∧ inn ≤ n) : fI (n : Int) (inn : Int) = some (brC n inn in0) := by
 unfold fI
 rw [decide_eq_false (by omega), aF, decide_eq_false (by omega), aC, aF, decide_eq_false (by omega), aC, aF, decide_eq_false (by omega), aC]
 unfold ew
 rw [aF]
 have hs : IntKind.wrap .i64 (1 * 2 ^ min (Int.toNat (inn : Int)) (IntKind.bits .i64)) = ((2 ^ inn : Nat) : Int) := by
  have : inn = 1 ∨ inn = 2 ∨ inn = 3 ∨ inn = 4 := by omega
  rcases this with rfl | rfl | rfl | rfl <;> decide
 have hng : decide (¬ (inn : Int) < 0) = true := decide_eq_true (by omega)
 have h16 := p16 (n := inn) (by omega)
 have hle : 2 ^ inn ≤ 2 ^ n := Nat.pow_le_pow_right (by omega) hin.2
 have key : ∀ (m i : Nat), i ≤ 2 ^ inn → 2 ^ inn - i < m → cR (n : Int) (inn : Int) m (i : Int) ((List.range i).map fun j => vc (2 ^ n) 0 (dl j)) = some (brC n inn in0) := by
  intro m
  induction m with
  | zero => intro i _ h; omega
  | succ m ih =>
   intro i hi hm
   rw [cR]
   simp only [hs, hng, bN]
   by_cases e : i = 2 ^ inn
   ·rw [decide_eq_false (by rw [e]; exact Int.lt_irrefl _), aF, e]
    rfl
   ·have hil : i < 2 ^ inn := by omega
    have hd : decide ((i : Int) < ((2 ^ inn : Nat) : Int)) = true := (fun x h => decide_eq_true (by omega) : ∀ x : Nat, i < x → decide ((i : Int) < (x : Int)) = true) _ hil
    rw [hd, aS, Kp hn (by omega), aC, decide_eq_true (by simp; omega), bN, cn hil (by omega)]
    have := ih (i + 1) (by omega) (by omega)
    rw [lq] at this
    exact this
 exact key FU 0 (Nat.zero_le _) (by rw [bP]; omega)
theorem DM : ∀ x : Fin 16, ∀ v : Fin 4, ∀ o : Fin 2, ((bits .and .i64 (Int.fdiv (x.val : Int) (2 ^ min (Int.toNat (v.val : Int)) (IntKind.bits .i64))) 1) != (o.val : Int)) = !(x.val.testBit v.val == (o.val == 1)) := by decide +kernel
theorem JW {n K q : Nat} (hn : 1 ≤ n ∧ n ≤ 4) (hq : q < 4) (one : Fin 2) {f : Amp} {w x y : Int} {l : List (List DQ)} {kl : Int → Int → Int → List (List DQ) → Option (List (Int × List (List DQ)))} :
  bD (q : Int) (one.val : Int) w x y l kl FU ((2 ^ n : Nat) : Int) 0 (vc (2 ^ n) K f) = cf w x y kl (l.set (Int.toNat x) (vc (2 ^ n) K (prA q (one.val == 1) f))) := by
 have h16 := p16 (n := n) (by omega)
 have hng : decide (¬ (q : Int) < 0) = true := decide_eq_true (by omega)
 let g : Nat → Amp := fun i r => if r < i then prA q (one.val == 1) f r else f r
 have key : ∀ (m i : Nat), i ≤ 2 ^ n → 2 ^ n - i < m → bD (q : Int) (one.val : Int) w x y l kl m ((2 ^ n : Nat) : Int) (i : Int) (vc (2 ^ n) K (g i)) = cf w x y kl (l.set (Int.toNat x) (vc (2 ^ n) K (prA q (one.val == 1) f))) := by
  intro m
  induction m with
  | zero => intro i _ h; omega
  | succ m ih =>
   intro i hi hm
   rw [bD]
   by_cases e : i = 2 ^ n
   ·rw [decide_eq_false (by rw [e]; exact Int.lt_irrefl _), aF, e]
    rw [dk (g := prA q (one.val == 1) f) fun r hr => if_pos hr]
   ·have hil : i < 2 ^ n := by omega
    have hd : decide ((i : Int) < ((2 ^ n : Nat) : Int)) = true := (fun x h => decide_eq_true (by omega) : ∀ x : Nat, i < x → decide ((i : Int) < (x : Int)) = true) _ hil
    have hg1 : ∀ r, g (i + 1) r = if r = i then prA q (one.val == 1) f i else g i r := fun r => by
     show (if r < i + 1 then _ else _) = _
     by_cases h1 : r = i
     ·subst h1; rw [if_pos (by omega), if_pos rfl]
     ·rw [if_neg h1]
      show _ = if r < i then _ else _
      by_cases h2 : r < i
      ·rw [if_pos h2, if_pos (by omega)]
      ·rw [if_neg h2, if_neg (by omega)]
    have ih' := ih (i + 1) (by omega) (by omega)
    have hbit := DM ⟨i, by omega⟩ ⟨q, hq⟩ one
    simp only at hbit
    rw [hd, aS, hng, bN, hbit]
    unfold dG
    by_cases ht : (i.testBit q == (one.val == 1)) = true
    ·have hp : prA q (one.val == 1) f i = f i := by unfold prA; rw [if_pos (eq_of_beq ht)]
     rw [ht, Bool.not_true, aF, cn hil (by omega)]
     have e1 : vc (2 ^ n) K (g (i + 1)) = vc (2 ^ n) K (g i) := dk fun r _ => by
      rw [hg1 r]
      split
      ·rename_i h; subst h; rw [hp]; exact (if_neg (Nat.lt_irrefl _)).symm
      ·rfl
     rw [e1] at ih'
     exact ih'
    ·have ht := Bool.eq_false_iff.2 ht
     have hp : prA q (one.val == 1) f i = (0, 0, 0, 0) := by unfold prA; rw [if_neg (by intro h; rw [h, beq_self_eq_true] at ht; cases ht)]
     rw [ht, Bool.not_false, aS, mE hil, aC, cn hil (by omega), Int.toNat_natCast]
     have e1 : (vc (2 ^ n) K (g i)).set i (0, 0, 0, 0, 0) = vc (2 ^ n) K (g (i + 1)) := by
      have := uC (K := K) (f := g i) hil (0, 0, 0, 0)
      rw [wR] at this
      refine Eq.trans this (dk fun r _ => ?_)
      rw [hg1 r, hp]
     rw [e1]
     exact ih'
 have := key FU 0 (Nat.zero_le _) (by rw [bP]; omega)
 rwa [show vc (2 ^ n) K (g 0) = vc (2 ^ n) K f from dk fun r _ => if_neg (Nat.not_lt_zero _)] at this
theorem sb {α : Type} {N i : Nat} {h : Nat → α} {z : α} : ((List.range N).map h).set i z = (List.range N).map fun j => if j = i then z else h j := by
 refine List.ext_getElem? fun j => ?_
 by_cases hj : j < N
 ·rw [List.getElem?_map, List.getElem?_range hj, List.getElem?_set]
  by_cases e : i = j
  ·subst e
   rw [if_pos rfl, if_pos (by simpa using hj)]
   simp
  ·rw [if_neg e, List.getElem?_map, List.getElem?_range hj]
   simp [Ne.symm e]
 ·rw [List.getElem?_eq_none (by simp; omega), List.getElem?_eq_none (by simp; omega)]
theorem JX {n inn K q : Nat} (hn : 1 ≤ n ∧ n ≤ 4) (hin : 1 ≤ inn ∧ inn ≤ n) (hq : q < 4) (one : Fin 2) {F : Nat → Amp} {b : Int} {l : List (Int × List (List DQ))} {kl : Int → List (Int × List (List DQ)) → Option (List (Int × List (List DQ)))} :
  az (q : Int) (one.val : Int) l kl FU ((2 ^ inn : Nat) : Int) 0 b ((List.range (2 ^ inn)).map fun i => vc (2 ^ n) K (F i)) = cg (one.val : Int) l kl b ((List.range (2 ^ inn)).map fun i => vc (2 ^ n) K (prA q (one.val == 1) (F i))) := by
 have h16 := p16 (n := inn) (by omega)
 let g : Nat → List DQ := fun j => vc (2 ^ n) K (prA q (one.val == 1) (F j))
 let h : Nat → List DQ := fun j => vc (2 ^ n) K (F j)
 have key : ∀ (m i : Nat), i ≤ 2 ^ inn → 2 ^ inn - i < m → az (q : Int) (one.val : Int) l kl m ((2 ^ inn : Nat) : Int) (i : Int) b ((List.range (2 ^ inn)).map fun j => if j < i then g j else h j) = cg (one.val : Int) l kl b ((List.range (2 ^ inn)).map g) := by
  intro m
  induction m with
  | zero => intro i _ h; omega
  | succ m ih =>
   intro i hi hm
   rw [az]
   by_cases e : i = 2 ^ inn
   ·rw [decide_eq_false (by rw [e]; exact Int.lt_irrefl _), aF]
    rw [List.map_congr_left (g := g) fun j hj => if_pos (by rw [e]; exact List.mem_range.1 hj)]
   ·have hil : i < 2 ^ inn := by omega
    have hd : decide ((i : Int) < ((2 ^ inn : Nat) : Int)) = true := (fun x h => decide_eq_true (by omega) : ∀ x : Nat, i < x → decide ((i : Int) < (x : Int)) = true) _ hil
    rw [hd, aS, mv _ hil, aC, if_neg (Nat.lt_irrefl _), dX, JW hn hq one]
    unfold cf
    rw [cn hil (by omega), Int.toNat_natCast, sb]
    have ih' := ih (i + 1) (by omega) (by omega)
    have e1 : (fun j => if j < i + 1 then g j else h j) = (fun j => if j = i then vc (2 ^ n) K (prA q (one.val == 1) (F i)) else if j < i then g j else h j) := by
     funext j
     by_cases h1 : j = i
     ·subst h1; rw [if_pos (by omega), if_pos rfl]
     ·rw [if_neg h1]
      by_cases h2 : j < i
      ·rw [if_pos h2, if_pos (by omega)]
      ·rw [if_neg h2, if_neg (by omega)]
    rw [e1] at ih'
    exact ih'
 have := key FU 0 (Nat.zero_le _) (by rw [bP]; omega)
 simp only [Nat.not_lt_zero, if_false] at this
 exact this
theorem Kq {D K : Nat} (hD : D ≤ 16) {f : Amp} {x y : Int} {kl : Int → Int → Option Bool} : ed x y kl (vc D K f) FU (D : Int) 0 = if nzB D f = true then some false else kl x (IntKind.wrap .i64 (y + 1)) := by
 have key : ∀ (m i : Nat), i ≤ D → D - i < m → (∀ r, r < i → f r = (0, 0, 0, 0)) → ed x y kl (vc D K f) m (D : Int) (i : Int) = if nzB D f = true then some false else kl x (IntKind.wrap .i64 (y + 1)) := by
  intro m
  induction m with
  | zero => intro i _ h; omega
  | succ m ih =>
   intro i hi hm h0
   rw [ed]
   by_cases e : i = D
   ·rw [decide_eq_false (by omega), aF, if_neg]
    ·rfl
    ·intro h
     obtain ⟨r, hr, hz⟩ := List.any_eq_true.1 h
     rw [h0 r (by rw [e]; exact List.mem_range.1 hr)] at hz
     exact absurd hz (by decide)
   ·have hil : i < D := by omega
    rw [decide_eq_true (by omega), aS, mE hil, aC, D2, show decide (dq K (f i) = d0) = decide (f i = (0, 0, 0, 0)) from decide_eq_decide.2 rQ, cn hil (by omega)]
    by_cases hz : f i = (0, 0, 0, 0)
    ·rw [decide_eq_true hz, Bool.not_true, aF]
     exact ih (i + 1) (by omega) (by omega) fun r hr => by
      by_cases h1 : r = i
      ·rw [h1]; exact hz
      ·exact h0 r (by omega)
    ·rw [decide_eq_false hz, Bool.not_false, aS, if_pos]
     exact List.any_eq_true.2 ⟨i, List.mem_range.2 hil, by rw [decide_eq_false hz]; rfl⟩
 exact key FU 0 (Nat.zero_le _) (by rw [bP]; omega) fun r hr => absurd hr (Nat.not_lt_zero _)
theorem M4 {D K N : Nat} (hD : D ≤ 16) (hN : N ≤ 16) {F : Nat → Amp} (b : Int) : o6 b ((List.range N).map fun i => vc D K (F i)) = some (!((List.range N).any fun i => nzB D (F i))) := by
 unfold o6
 rw [List.length_map, List.length_range]
 have key : ∀ (m i : Nat), i ≤ N → N - i < m → (∀ r, r < i → nzB D (F r) = false) → dj ((List.range N).map fun i => vc D K (F i)) m (N : Int) (i : Int) = some (!((List.range N).any fun i => nzB D (F i))) := by
  intro m
  induction m with
  | zero => intro i _ h; omega
  | succ m ih =>
   intro i hi hm h0
   rw [dj]
   by_cases e : i = N
   ·rw [decide_eq_false (by omega), aF, show ((List.range N).any fun i => nzB D (F i)) = false from ?_]
    ·rfl
    ·refine Bool.eq_false_iff.2 fun h => ?_
     obtain ⟨r, hr, hz⟩ := List.any_eq_true.1 h
     rw [h0 r (by rw [e]; exact List.mem_range.1 hr)] at hz
     exact absurd hz (by decide)
   ·have hil : i < N := by omega
    rw [decide_eq_true (by omega), aS, mv _ hil, aC, dX, Kq hD, cn hil (by omega)]
    by_cases hz : nzB D (F i) = true
    ·rw [if_pos hz, show ((List.range N).any fun i => nzB D (F i)) = true from List.any_eq_true.2 ⟨i, List.mem_range.2 hil, hz⟩]
     rfl
    ·rw [if_neg hz]
     exact ih (i + 1) (by omega) (by omega) fun r hr => by
      by_cases h1 : r = i
      ·rw [h1]; exact Bool.eq_false_iff.2 hz
      ·exact h0 r (by omega)
 exact key FU 0 (Nat.zero_le _) (by rw [bP]; omega) fun r hr => absurd hr (Nat.not_lt_zero _)
theorem HV : ∀ v : Fin 2, ∀ b : Fin 3, ∀ x : Fin 8, IntKind.wrap .i64 ((x.val : Int) + (IntKind.wrap .i64 ((v.val : Int) * 2 ^ min (Int.toNat (b.val : Int)) (IntKind.bits .i64)))) = (x.val : Int) + (if v.val = 1 then 2 ^ b.val else 0) := by decide +kernel
theorem I9 {n inn K q bit b m : Nat} (hn : 1 ≤ n ∧ n ≤ 4) (hin : 1 ≤ inn ∧ inn ≤ n) (hq : q < 4) (hbit : bit < 3) (hb : b < 8) (one : Fin 2) {F : Nat → Amp} {o : List (Int × List (List DQ))} (ho : o.length ≤ 100) :
  am (b : Int) ((List.range (2 ^ inn)).map fun i => vc (2 ^ n) K (F i)) (q : Int) (bit : Int) (m + 1) (one.val : Int) o = am (b : Int) ((List.range (2 ^ inn)).map fun i => vc (2 ^ n) K (F i)) (q : Int) (bit : Int) m ((one.val + 1 : Nat) : Int)
   (o ++ if msB n inn q (one.val == 1) F = true then [((b : Int) + (if one.val = 1 then 2 ^ bit else 0), (List.range (2 ^ inn)).map fun i => vc (2 ^ n) K (prA q (one.val == 1) (F i)))] else []) := by
 have h16 := p16 (n := n) (by omega)
 have h16' := p16 (n := inn) (by omega)
 have h1 := one.isLt
 have hpw := HV one ⟨bit, hbit⟩ ⟨b, hb⟩
 simp only at hpw
 rw [am, decide_eq_true (by omega), aS, M3 (b : Int) (by simp; omega) (fun x hx => by
   obtain ⟨i, _, rfl⟩ := List.mem_map.1 hx
   rw [dX]; omega), aC, decide_eq_true (by omega), bN]
 simp only [List.length_map, List.length_range]
 rw [hpw, JX hn hin hq one]
 unfold cg
 rw [M4 h16 h16', aC, Bool.not_not]
 unfold dH
 rw [cn h1 (by omega)]
 show br (msB n inn q (one.val == 1) F) _ _ = _
 cases msB n inn q (one.val == 1) F with
 | true => rw [aS, decide_eq_true (by simp; omega), bN, if_pos rfl]
 | false => rw [aF, if_neg (by decide), List.append_nil]
theorem M5 {n inn q bit : Nat} (hn : 1 ≤ n ∧ n ≤ 4) (hin : 1 ≤ inn ∧ inn ≤ n) (hq : q < 4) (hbit : bit < 3) {B : BQ} (hB : 0 ≤ B.1 ∧ B.1 < 8) :
  de (brC n inn B).1 (brC n inn B).2 (q : Int) (bit : Int) = some ((msF n inn q bit B).map (brC n inn)) := by
 obtain ⟨b, K, F⟩ := B
 obtain ⟨b, rfl⟩ : ∃ b' : Nat, b = (b' : Int) := ⟨b.toNat, by simp only at hB; omega⟩
 have hb : b < 8 := by simp only at hB; omega
 unfold de
 rw [jA, aC, decide_eq_true (by omega), Bool.not_true, aF, jA, aC, aC, decide_eq_true (by omega), Bool.not_true]
 unfold eu
 rw [aF]
 obtain ⟨m, hm⟩ : ∃ m, FU = m + 1 + 1 + 1 := ⟨4194301, bP⟩
 rw [hm]
 unfold brC
 have e0 := I9 (m := m + 1 + 1) (K := K) hn hin hq hbit hb 0 (F := F) (o := []) (by simp)
 have e1 := fun o ho => I9 (m := m + 1) (K := K) hn hin hq hbit hb 1 (F := F) (o := o) ho
 refine Eq.trans e0 ?_
 refine Eq.trans (e1 _ (by simp; split <;> simp)) ?_
 rw [am]
 unfold et msF
 show br (decide (((1 + 1 : Nat) : Int) < 2)) _ (some _) = _
 rw [show decide (((1 + 1 : Nat) : Int) < 2) = false from rfl, aF, List.map_append, List.nil_append]
 simp only [show (((0 : Fin 2).val == 1) = false) from rfl, show (((1 : Fin 2).val == 1) = true) from rfl]
 cases msB n inn q false F <;> cases msB n inn q true F <;> simp
theorem JY {D K t : Nat} {acc : Amp} {m : Z4} (hK : K ≤ 60) (ht : t < D) (ha : bdz 1073741824 (acc t)) (hm : bdz 1073741824 m) (hs : bdz 1073741824 (adz (acc t) m)) :
  nP (vc D K acc) (t : Int) (dq K m).1 (dq K m).2.1 (dq K m).2.2.1 (dq K m).2.2.2.1 (dq K m).2.2.2.2 = some (true, vc D K (fun r => if r = t then adz (acc t) m else acc r)) := by
 unfold nP
 rw [mE ht, aC]
 rw [Cy (dq K (acc t)) (dq K m), if_pos ⟨mu hK ha, mu hK hm⟩, wS hK ha hm hs, aC]
 simp only [res]
 rw [show ((t : Int)).toNat = t by omega, uC ht]
def mvJ (k a b c i : Int) : Option (Int × DQ) := bO (rP k a b c i) fun x => bO (jn x.2) fun y => some (x.1, y)
def mvK (k a b c i : Nat) : Bool := k == 4 || mvJ (k : Int) (a : Int) (b : Int) (c : Int) (i : Int) == some ((mvA ((k : Int), (a : Int), (b : Int), (c : Int)) i : Int), om (mvP ((k : Int), (a : Int), (b : Int), (c : Int)) i))
theorem M6 : ∀ k : Fin 8, ∀ a : Fin 4, ∀ i : Fin 16, mvK (k.val + 1) a.val 0 0 i.val = true := by decide +kernel
theorem M7 : ∀ k : Fin 3, ∀ a b : Fin 4, ∀ i : Fin 16, mvK (k.val + 9) a.val b.val 0 i.val = true := by decide +kernel
theorem M8 : ∀ a b c : Fin 4, ∀ i : Fin 16, mvK 12 a.val b.val c.val i.val = true := by decide +kernel
theorem M9 {k a b c n : Int} (h : ivg k a b c n = true) (h4 : k ≠ 4) {i : Nat} (hi : i < 2 ^ n.toNat) : mvJ k a b c (i : Int) = some ((mvA (k, a, b, c) i : Int), om (mvP (k, a, b, c) i)) := by
 obtain ⟨h1, h2, h3⟩ := iN h
 have h16 : i < 16 := Nat.lt_of_lt_of_le hi (by rcases sa h1 with rfl | rfl | rfl | rfl <;> decide)
 obtain ⟨a', rfl⟩ : ∃ a' : Nat, a = a' := ⟨a.toNat, by omega⟩
 rcases h3 with ⟨g1, rfl, rfl⟩ | ⟨g1, g2, g3, rfl⟩ | ⟨rfl, g2, g3⟩
 ·obtain ⟨k', rfl⟩ : ∃ k' : Nat, k = ((k' + 1 : Nat) : Int) := ⟨(k - 1).toNat, by omega⟩
  have := M6 ⟨k', by omega⟩ ⟨a', by omega⟩ ⟨i, h16⟩
  unfold mvK at this
  rw [beq_eq_false_iff_ne.2 (show k' + 1 ≠ 4 by omega), Bool.false_or] at this
  exact eq_of_beq this
 ·obtain ⟨k', rfl⟩ : ∃ k' : Nat, k = ((k' + 9 : Nat) : Int) := ⟨(k - 9).toNat, by omega⟩
  obtain ⟨b', rfl⟩ : ∃ b' : Nat, b = b' := ⟨b.toNat, by omega⟩
  have := M7 ⟨k', by omega⟩ ⟨a', by omega⟩ ⟨b', by omega⟩ ⟨i, h16⟩
  unfold mvK at this
  rw [beq_eq_false_iff_ne.2 (show k' + 9 ≠ 4 by omega), Bool.false_or] at this
  exact eq_of_beq this
 ·obtain ⟨b', rfl⟩ : ∃ b' : Nat, b = b' := ⟨b.toNat, by omega⟩
  obtain ⟨c', rfl⟩ : ∃ c' : Nat, c = c' := ⟨c.toNat, by omega⟩
  have := M8 ⟨a', by omega⟩ ⟨b', by omega⟩ ⟨c', by omega⟩ ⟨i, h16⟩
  unfold mvK at this
  rw [beq_eq_false_iff_ne.2 (show 12 ≠ 4 by decide), Bool.false_or] at this
  exact eq_of_beq this
theorem MA {N : Nat} (hN : N ≤ 16) {k a b c bits : Int} {h g : Nat → List DQ} (hag : ∀ j, j < N → iL k a b c (h j) = some (g j, true)) :
  mi k a b c bits ((List.range N).map h) = some (bits, (List.range N).map g, true) := by
 unfold mi
 rw [List.length_map, List.length_range]
 have key : ∀ (m i : Nat), i ≤ N → N - i < m → fj k a b c bits ((List.range N).map h) m (N : Int) (i : Int) ((List.range i).map g) = some (bits, (List.range N).map g, true) := by
  intro m
  induction m with
  | zero => intro i _ h; omega
  | succ m ih =>
   intro i hi hm
   rw [fj]
   by_cases e : i = N
   ·rw [decide_eq_false (by omega), aF, e]
    rfl
   ·have hil : i < N := by omega
    rw [decide_eq_true (by omega), aS, mv _ hil, aC, hag i hil, aC, Bool.not_true, aF, decide_eq_true (by simp; omega), bN, cn hil (by omega)]
    have := ih (i + 1) (by omega) (by omega)
    rw [lq] at this
    exact this
 exact key FU 0 (Nat.zero_le _) (by rw [bP]; omega)
theorem DN (x : Z4) : rt (ngz x) = ngz (rt x) := by unfold rt ngz; apply fL <;> simp only <;> omega
theorem uF : ∀ (k : Nat) (x : Z4), rtn k (ngz x) = ngz (rtn k x)
 | 0, _ => rfl
 | k + 1, x => by show rt (rtn k (ngz x)) = ngz (rt (rtn k x)); rw [uF k x, DN]
theorem HW (x : Z4) : dvb (ngz x) = dvb x := by
 unfold dvb
 rw [DN]
 apply Bool.eq_iff_iff.2
 rw [lD, lD]
 unfold ngz
 simp only
 omega
theorem Kr {K : Nat} {n : Z4} (hK : K ≤ 60) (hn : bdz 1073741824 n) : kF (dq K n).1 (dq K n).2.1 (dq K n).2.2.1 (dq K n).2.2.2.1 (dq K n).2.2.2.2 = some (dq K (ngz n)) := by
 have hv := mu hK hn
 obtain ⟨v1, v2, v3⟩ := (dy _).1 hv
 obtain ⟨e1, e2, e3⟩ := pz K n
 have hb := (bp _).1 v1
 have key : (ngz (znm (dq K n))).1 = -(dq K n).1 := rfl
 have hres : (((-(dq K n).1, -(dq K n).2.1, -(dq K n).2.2.1, -(dq K n).2.2.2.1, (dq K n).2.2.2.2) : DQ)) = dq K (ngz n) := by
  refine vJ ((dy _).2 ⟨?_, v2, v3.imp id fun h => ?_⟩) ?_
  ·exact (bp _).2 (qc hb)
  ·exact (HW _).trans h
  ·show rtn K (ngz (znm (dq K n))) = rtn (ae (dq K n)) (ngz n)
   rw [uF, uF, D5]
 rw [← hres]
 unfold kF mB
 rw [vE, hv, aC]
 simp only [Bool.not_true, aF]
 have hz : ay (dq K n).1 (dq K n).2.1 (dq K n).2.2.1 (dq K n).2.2.2.1 = some true := by
  have := sG (znm (dq K n))
  rw [v1] at this
  exact this
 unfold bdz znm at hb
 simp only at hb
 rw [hz, aC]
 simp only [Bool.not_true, aF, aC]
 rw [w64 (by omega) (by omega), w64 (by omega) (by omega), w64 (by omega) (by omega), w64 (by omega) (by omega)]
 simp only [Int.zero_sub]
theorem Ks : gp 1 = some hD := by decide +kernel
theorem HX : ∀ i : Fin 16, ∀ a : Fin 4, bits .andNot .i64 (i.val : Int) (IntKind.wrap .i64 (1 * 2 ^ min (Int.toNat (a.val : Int)) (IntKind.bits .i64))) = (loB i.val a.val : Int) ∧ bits .or .i64 (i.val : Int) (IntKind.wrap .i64 (1 * 2 ^ min (Int.toNat (a.val : Int)) (IntKind.bits .i64))) = (hiB i.val a.val : Int) ∧
  ((bits .and .i64 (Int.fdiv (i.val : Int) (2 ^ min (Int.toNat (a.val : Int)) (IntKind.bits .i64))) 1) == 1) = i.val.testBit a.val := by decide +kernel
theorem Kt {k a b c : Int} {n : Int} {K M : Nat} {f : Amp} (hv : ivg k a b c n = true) (hK : K + 1 ≤ 60) (hM : M ≤ 16777216) (hf : bdv M f) : ∀ (m i : Nat), i ≤ 2 ^ n.toNat → 2 ^ n.toNat - i < m →
  bZ k a b c (vc (2 ^ n.toNat) K f) m ((2 ^ n.toNat : Nat) : Int) (i : Int) (vc (2 ^ n.toNat) (K + kq k) (fun r => smz (ct (k, a, b, c) f r) i)) = some (vc (2 ^ n.toNat) (K + kq k) (gz (k, a, b, c) f), true) := by
 have hg := rS hv
 obtain ⟨hn, ha0, _⟩ := iN hv
 have h16 : 2 ^ n.toNat ≤ 16 := by rcases sa hn with rfl | rfl | rfl | rfl <;> decide
 have hf30 : bdv 1073741824 f := fun i => ax (by omega) (hf i)
 have hKq : K + kq k ≤ 60 := by unfold kq; split <;> omega
 have hbd : ∀ r j, j ≤ 2 ^ n.toNat → bdz 536870912 (smz (ct (k, a, b, c) f r) j) := by
  intro r j hj
  have h1 : bdz ((j * (2 * M) : Nat) : Int) (smz (ct (k, a, b, c) f r) j) := wV fun i _ => by
   have := I3 (M := M) (by omega) hf (k, a, b, c) r i
   exact this
  refine ax ?_ h1
  have : j * (2 * M) ≤ 16 * 33554432 := Nat.mul_le_mul (by omega) (by omega)
  omega
 have hadd : ∀ {x y : Z4}, bdz 536870912 x → bdz 33554432 y → bdz 1073741824 (adz x y) := fun hx hy => ax (by omega) (nT hx hy)
 intro m
 induction m with
 | zero => intro i _ h; omega
 | succ m ih =>
  intro i hi hm
  rw [bZ]
  by_cases e : i = 2 ^ n.toNat
  ·subst e
   have hlt : decide (((2 ^ n.toNat : Nat) : Int) < ((2 ^ n.toNat : Nat) : Int)) = false := decide_eq_false (by omega)
   rw [hlt, aF]
   unfold ir
   rw [dk (fun r hr => DC hg f hr)]
  ·have hil : i < 2 ^ n.toNat := by omega
   have hlt : decide ((i : Int) < ((2 ^ n.toNat : Nat) : Int)) = true := (fun x h => decide_eq_true (by omega) : ∀ x : Nat, i < x → decide ((i : Int) < (x : Int)) = true) _ hil
   have next := ih (i + 1) (by omega) (by omega)
   have hx := mu (K := K) (by omega) (hf30 i)
   rw [hlt, aS, mE hil, aC]
   by_cases h4 : k = 4
   ·subst h4
    have hlo := I5 hil hg.1
    have hhi := I6 hil hg.1
    simp only at hlo hhi
    have hk1 : kq 4 = 1 := rfl
    have b1 : ∀ r, bdz 536870912 (smz (ct (4, a, b, c) f r) i) := fun r => hbd r i (by omega)
    have bf : bdz 33554432 (f i) := ax (by omega) (hf i)
    have bz : bdz 33554432 (if i.testBit a.toNat = true then ngz (f i) else f i) := by split; exact qc bf; exact bf
    rw [hk1] at next ⊢
    have ha4 : 0 ≤ a ∧ a.toNat < 4 := by
     have h1 := ha0.1
     have h2 := ha0.2
     exact ⟨by omega, by omega⟩
    obtain ⟨f1, f2, f3⟩ := HX ⟨i, by omega⟩ ⟨a.toNat, ha4.2⟩
    simp only [Int.toNat_of_nonneg ha4.1] at f1 f2 f3
    have hng : decide (¬ a < 0) = true := decide_eq_true (by omega)
    rw [show ((4 : Int) != 4) = false from rfl, aF, Ks, aC, wP (dq K (f i)) hD, if_pos ⟨hx, DF⟩, wT hK (hf30 i), aC]
    simp only [res, Bool.not_true, aF]
    rw [hng, bN, f1, JY (by omega) hlo (ax (by omega) (b1 _)) (hf30 i) (hadd (b1 _) bf), aC]
    simp only
    rw [decide_eq_true (by rw [dX, dX]), bN]
    simp only [Bool.not_true, aC]
    unfold gr
    rw [aF, hng, bN, f3]
    have hacc : bdz 536870912 (if hiB i a.toNat = loB i a.toNat then adz (smz (ct (4, a, b, c) f (loB i a.toNat)) i) (f i) else smz (ct (4, a, b, c) f (hiB i a.toNat)) i) := by rw [if_neg (lp i _).symm]; exact b1 _
    have fin : ∀ z : DQ, z = dq (K + 1) (if i.testBit a.toNat = true then ngz (f i) else f i) → dc a ((2 ^ n.toNat : Nat) : Int) (i : Int) (bZ 4 a b c (vc (2 ^ n.toNat) K f) m) (vc (2 ^ n.toNat) (K + 1) (fun r => if r = loB i a.toNat then adz (smz (ct (4, a, b, c) f (loB i a.toNat)) i) (f i) else smz (ct (4, a, b, c) f r) i)) z.1 z.2.1 z.2.2.1 z.2.2.2.1 z.2.2.2.2 = some (vc (2 ^ n.toNat) (K + 1) (gz (4, a, b, c) f), true) := by
     rintro z rfl
     unfold dc
     rw [hng, bN, f2, JY (by omega) hhi (ax (by omega) hacc) (ax (by omega) bz) (hadd hacc bz), aC]
     simp only
     rw [decide_eq_true (by rw [dX, dX]), bN]
     simp only [Bool.not_true, aF]
     unfold db
     rw [cn hil (by omega), ← next]
     congr 1
     refine dk fun r _ => ?_
     rw [smz]
     unfold ct
     rw [if_pos rfl]
     simp only
     by_cases r1 : r = hiB i a.toNat
     ·have r2 : ¬ r = loB i a.toNat := fun h => lp i a.toNat (h.symm.trans r1)
      rw [if_pos r1, if_pos r1, if_neg r2, if_neg (lp i _).symm, ← r1, fM (0, 0, 0, 0), dM]
     ·rw [if_neg r1, if_neg r1]
      by_cases r2 : r = loB i a.toNat
      ·rw [if_pos r2, if_pos r2, dM, ← r2]
      ·rw [if_neg r2, if_neg r2]
       rw [show adz ((0, 0, 0, 0) : Z4) (0, 0, 0, 0) = (0, 0, 0, 0) from rfl, dM]
    by_cases ht : i.testBit a.toNat = true
    ·rw [ht, aS, Kr (by omega) (hf30 i), aC]
     exact fin _ (by rw [if_pos ht])
    ·have ht' : i.testBit a.toNat = false := by simpa using ht
     rw [ht', aF]
     exact fin _ (by rw [if_neg ht])
   ·have hk0 : kq k = 0 := if_neg h4
    have hmv := sL hg hil
    have b1 : ∀ r, bdz 536870912 (smz (ct (k, a, b, c) f r) i) := fun r => hbd r i (by omega)
    have bz : bdz 33554432 (mlz (oz (mvP (k, a, b, c) i)) (f i)) := vH _ (ax (by omega) (hf i))
    rw [hk0, Nat.add_zero] at hKq ⊢
    simp only [hk0, Nat.add_zero] at next
    have hm := M9 hv h4 hil
    unfold mvJ at hm
    obtain ⟨x29, q1, hm⟩ := aA hm
    obtain ⟨x30, q2, hm⟩ := aA hm
    simp only [Option.some.injEq, Prod.mk.injEq] at hm
    obtain ⟨q3, rfl⟩ := hm
    rw [bne_iff_ne.2 h4, aS, q1, aC, q2, aC, wP (dq K (f i)) (om (mvP (k, a, b, c) i)), if_pos ⟨hx, I4 _⟩, D7 _ hKq (hf30 i), aC]
    simp only [res, Bool.not_true, aF]
    rw [q3, JY hKq hmv (ax (by omega) (b1 _)) (ax (by omega) bz) (hadd (b1 _) bz), aC]
    simp only
    rw [decide_eq_true (by rw [dX, dX]), bN]
    simp only [Bool.not_true, aC]
    unfold gq db
    rw [aF, cn hil (by omega), ← next]
    congr 1
    refine dk fun r _ => ?_
    rw [smz]
    unfold ct
    rw [if_neg h4]
    simp only
    by_cases r1 : r = mvA (k, a, b, c) i
    ·rw [if_pos r1, if_pos r1, ← r1]
    ·rw [if_neg r1, if_neg r1, dM]
theorem MB {k a b c n : Int} {K M : Nat} {f : Amp} (hv : ivg k a b c n = true) (hK : K + 1 ≤ 60) (hM : M ≤ 16777216) (hf : bdv M f) : iL k a b c (vc (2 ^ n.toNat) K f) = some (vc (2 ^ n.toNat) (K + kq k) (gz (k, a, b, c) f), true) := by
 obtain ⟨hn, _, _⟩ := iN hv
 have h16 : 2 ^ n.toNat ≤ 16 := by rcases sa hn with rfl | rfl | rfl | rfl <;> decide
 have hf30 : bdv 1073741824 f := fun i => ax (by omega) (hf i)
 have hst : stB (vc (2 ^ n.toNat) K f) = true := xO (by rw [sM hn]; omega) (by omega) hf30
 unfold iL
 rw [JG _ (by rw [dX]; omega), aC, hst]
 simp only [Bool.not_true, aF]
 rw [KY, dX, sM hn, aC, show gi k a b c n = some (ivg k a b c n) from rfl, hv, aC]
 simp only [Bool.not_true, aC, it, aF]
 have hg : decide (0 ≤ ((2 ^ n.toNat : Nat) : Int) ∧ ((2 ^ n.toNat : Nat) : Int) ≤ 1048576) = true := (fun x hx => decide_eq_true (by omega) : ∀ x : Nat, x ≤ 16 → decide (0 ≤ (x : Int) ∧ (x : Int) ≤ 1048576) = true) _ h16
 rw [dX, hg, bN]
 have e0 : List.replicate (((2 ^ n.toNat : Nat) : Int)).toNat ((0, 0, 0, 0, 0) : Int × Int × Int × Int × Int) = vc (2 ^ n.toNat) (K + kq k) (fun r => smz (ct (k, a, b, c) f r) 0) := by
  unfold vc
  rw [Int.toNat_natCast]
  refine List.ext_getElem? fun i => ?_
  by_cases h : i < 2 ^ n.toNat
  ·rw [List.getElem?_replicate, if_pos h, List.getElem?_map, List.getElem?_range h]
   show some d0 = some (dq _ (0, 0, 0, 0))
   rw [wR]
  ·rw [List.getElem?_eq_none (by simp; omega), List.getElem?_eq_none (by simp; omega)]
 rw [e0]
 exact Kt hv hK hM hf FU 0 (Nat.zero_le _) (by rw [bP]; omega)
theorem DO : ∀ x : Fin 16, ∀ i : Fin 4, br (decide ((0 : Int) < (i.val : Int))) (gd (decide (¬ (IntKind.wrap .i64 ((i.val : Int) - 1)) < 0)) (some ((bits .and .i64 (Int.fdiv (x.val : Int) (2 ^ min (Int.toNat (IntKind.wrap .i64 ((i.val : Int) - 1))) (IntKind.bits .i64))) 1) == 0))) (some false) = some (cnd (x.val : Int) (i.val : Int)) := by decide +kernel
section
variable {n inn : Nat}
theorem JZ (hn : 1 ≤ n ∧ n ≤ 4) (hin : 1 ≤ inn ∧ inn ≤ n) {nb : Int} {kn h : Nat} (hkn : kn ≤ 3) (hh : h ≤ 23) {o : OP} (ho : okO (n : Int) nb kn o) {B : BQ} (hB : IvB kn h B) :
  kG o.1 o.2.1 o.2.2.1 o.2.2.2.1 o.2.2.2.2.1 o.2.2.2.2.2.1 o.2.2.2.2.2.2.1 o.2.2.2.2.2.2.2 (brC n inn B).1 (brC n inn B).2 = some ((opF n inn o B).map (brC n inn), true) := by
 obtain ⟨hkd, hbits⟩ := xS ho.1
 have hBB := hB
 obtain ⟨⟨b0, b1⟩, hK, hbd⟩ := hB
 have h8 := p8 hkn
 have b8 : B.1 < 8 := by
  have : ((2 ^ kn : Nat) : Int) ≤ 8 := by exact_mod_cast h8
  have e : (2 : Int) ^ kn = ((2 ^ kn : Nat) : Int) := by simp
  omega
 unfold kG
 rcases hkd with h1 | h1 | h1
 ·obtain ⟨g1, g2⟩ := rU ho.1 h1
  obtain ⟨x, hx⟩ : ∃ x : Fin 16, B.1 = (x.val : Int) := ⟨⟨B.1.toNat, by omega⟩, by simp only; omega⟩
  obtain ⟨y, hy⟩ : ∃ y : Fin 4, oI o = (y.val : Int) := ⟨⟨(oI o).toNat, by omega⟩, by simp only; omega⟩
  have hc := DO x y
  rw [← hx, ← hy] at hc
  have ef : opF n inn o B = [gtF o B] := by unfold opF; rw [if_pos h1]
  rw [ef, show (o.1 == 2) = false by rw [h1]; rfl, aF, show (o.1 == 3) = false by rw [h1]; rfl, aF]
  show bO (bO (br (decide (0 < oI o)) _ _) _) _ = _
  rw [show (br (decide ((0 : Int) < oI o)) (gd (decide (¬ (IntKind.wrap .i64 (o.2.2.2.2.2.2.2 - 1)) < 0)) (some ((bits .and .i64 (Int.fdiv (brC n inn B).1 (2 ^ min (Int.toNat (IntKind.wrap .i64 (o.2.2.2.2.2.2.2 - 1))) (IntKind.bits .i64))) 1) == 0))) (some false)) = some (cnd B.1 (oI o)) from hc, aC, aC]
  unfold iu gtF
  cases hcn : cnd B.1 (oI o) with
  | true => rw [aS, if_pos rfl]; rfl
  | false =>
   rw [aF, if_neg (by simp)]
   have h16 := p16 (n := inn) (by omega)
   have hgo := MA (N := 2 ^ inn) h16 (k := (oG o).1) (a := (oG o).2.1) (b := (oG o).2.2.1) (c := (oG o).2.2.2) (bits := B.1) (h := fun i => vc (2 ^ n) B.2.1 (B.2.2 i)) (g := fun i => vc (2 ^ n) (B.2.1 + kq (oG o).1) (gz (oG o) (B.2.2 i))) (fun j hj => by
     have hpw := DG (e := B.2.1) (by omega)
     have hag := MB (K := B.2.1) (M := 2 ^ B.2.1) (f := B.2.2 j) g1 (by omega) hpw (hbd j)
     rw [Int.toNat_natCast] at hag
     exact hag)
   show bO (mi (oG o).1 (oG o).2.1 (oG o).2.2.1 (oG o).2.2.2 B.1 ((List.range (2 ^ inn)).map fun i => vc (2 ^ n) B.2.1 (B.2.2 i))) _ = _
   rw [hgo, aC]
   rfl
 ·obtain ⟨g1, g2⟩ := oa ho.1 h1
  have ef : opF n inn o B = msF n inn (oQ o).toNat (oB o).toNat B := by unfold opF; rw [if_neg (by omega), if_pos h1]
  have hms := M5 (inn := inn) hn hin (q := (oQ o).toNat) (bit := (oB o).toNat) (by omega) (by omega) (B := B) ⟨b0, b8⟩
  rw [show (((oQ o).toNat : Nat) : Int) = oQ o by omega, show (((oB o).toNat : Nat) : Int) = oB o by omega] at hms
  rw [ef, show (o.1 == 2) = true by rw [h1]; rfl, aS]
  show bO (de _ _ (oQ o) (oB o)) _ = _
  rw [hms, aC]
 ·have ef : opF n inn o B = [B] := by unfold opF; rw [if_neg (by omega), if_neg (by omega)]
  rw [ef, show (o.1 == 2) = false by rw [h1]; rfl, aF, show (o.1 == 3) = true by rw [h1]; rfl, aS, aC]
  rfl
theorem Ja (hn : 1 ≤ n ∧ n ≤ 4) (hin : 1 ≤ inn ∧ inn ≤ n) {bits : Int} {kn h : Nat} (hkn : kn ≤ 3) (hh : h ≤ 23) {L : List OP} {v : Nat} (hv : v < L.length) (ho : okO (n : Int) bits kn L[v]) {l : List BQ} (hl : l.length ≤ 8) (hB : ∀ B ∈ l, IvB kn h B) (kl : Int → List (Int × List (List DQ)) → Option (List (Int × List (List DQ)) × Bool)) :
  bn L (v : Int) (l.map (brC n inn)) kl FU (l.length : Int) 0 [] = kl (IntKind.wrap .i64 ((v : Int) + 1)) ((l.flatMap (opF n inn L[v])).map (brC n inn)) := by
 have key : ∀ (m i : Nat) (out : List (Int × List (List DQ))), i ≤ l.length → l.length - i < m → out.length ≤ 2 * i →
   bn L (v : Int) (l.map (brC n inn)) kl m (l.length : Int) (i : Int) out = kl (IntKind.wrap .i64 ((v : Int) + 1)) (out ++ ((l.drop i).flatMap (opF n inn L[v])).map (brC n inn)) := by
  intro m
  induction m with
  | zero => intro i out _ h; omega
  | succ m ih =>
   intro i out hi hm ho'
   rw [bn]
   by_cases e : i = l.length
   ·rw [decide_eq_false (by omega), aF, List.drop_of_length_le (by omega)]
    simp [eJ, eI]
   ·have hil : i < l.length := by omega
    have hget : ak (l.map (brC n inn)) (i : Int) = some (brC n inn l[i]) := kL (by rw [List.getElem?_map, List.getElem?_eq_getElem hil]; rfl)
    have hBi := hB _ (List.getElem_mem hil)
    have hlen := DL (n := n) (inn := inn) L[v] l[i]
    have hlen2 : (opF n inn L[v] l[i]).length ≤ 2 := by split at hlen <;> omega
    rw [decide_eq_true (by omega), aS, hget, aC, bB hv, aC, JZ hn hin hkn hh ho hBi, aC]
    simp only [Bool.not_true, aF]
    rw [decide_eq_true (by simp; omega), bN, cn hil (by omega), ih (i + 1) _ (by omega) (by omega) (by simp; omega), List.drop_eq_getElem_cons hil, List.flatMap_cons, List.map_append, List.append_assoc]
 have := key FU 0 [] (by omega) (by rw [bP]; omega) (by simp)
 exact this
theorem Jb (hn : 1 ≤ n ∧ n ≤ 4) (hin : 1 ≤ inn ∧ inn ≤ n) {bits : Int} (hbits : 0 ≤ bits ∧ bits ≤ 3) {L : List OP} (hL : L.length ≤ 4000000) : ∀ (m i kn h : Nat) (l : List BQ), i ≤ L.length → L.length - i < m → rvL (n : Int) bits (L.drop i) kn = true → (kn : Int) ≤ bits → l.length ≤ 2 ^ kn → (∀ B ∈ l, IvB kn h B) → h + hcO (L.drop i) ≤ 23 →
  b5 L (L.length : Int) m (i : Int) (l.map (brC n inn)) = some ((sN n inn (L.drop i) l).map (brC n inn), true) := by
 intro m
 induction m with
 | zero => intro i kn h l _ h1; omega
 | succ m ih =>
  intro i kn h l hi hm hv hk hl hB hh
  rw [b5, if_neg (by omega)]
  by_cases e : i = L.length
  ·rw [decide_eq_false (by omega), aF, List.drop_of_length_le (by omega)]
   rfl
  ·have hil : i < L.length := by omega
   rw [decide_eq_true (by omega), aS, List.length_map]
   have hd := List.drop_eq_getElem_cons hil
   rw [hd] at hv hh
   unfold hcO at hh
   unfold rvL at hv
   simp only [Bool.and_eq_true, decide_eq_true_eq, Bool.or_eq_true] at hv
   obtain ⟨⟨v1, v2⟩, v3, v4⟩ := hv
   have ho : okO (n : Int) bits kn L[i] := ⟨v1, v2, fun h2 => by
     rcases v3 with v3 | v3
     · rw [h2] at v3; cases v3
     · exact eq_of_beq v3⟩
   have hk' : ((knx L[i] kn : Nat) : Int) ≤ bits := by
    unfold knx
    split
    ·rename_i h2
     have := (oa v1 h2).2
     have := ho.2.2 h2
     omega
    ·exact hk
   have hl' : (l.flatMap (opF n inn L[i])).length ≤ 2 ^ knx L[i] kn := by
    have h1 := qD (n := n) (inn := inn) L[i] l
    unfold knx
    split at h1
    ·rename_i h2
     rw [if_pos h2, Nat.pow_succ]; omega
    ·rename_i h2
     rw [if_neg h2]; omega
   have h8 := p8 (n := kn) (by omega)
   rw [Ja hn hin (by omega) (by omega) hil ho (by omega) hB]
   have wi : IntKind.wrap .i64 ((i : Int) + 1) = ((i + 1 : Nat) : Int) := by rw [w64 (by omega) (by omega)]; omega
   rw [wi, hd]
   exact ih (i + 1) (knx L[i] kn) (h + hx L[i]) _ (by omega) (by omega) v4 hk' hl' (fun B' hB' => by
     obtain ⟨B, hb, hb'⟩ := List.mem_flatMap.1 hB'
     exact xT ho (hB B hb) B' hb') (by omega)
end
theorem Ku {n inn bits : Int} {L : List OP} (hL : L.length ≤ 4000000) (hh : hcO L ≤ 23) : lf n inn bits L = some (if rvB n inn bits L = true then ((sN n.toNat inn.toNat L [in0]).map (brC n.toNat inn.toNat), true) else ([], false)) := by
 unfold lf gC
 rw [Lz hL, aC]
 cases hv : rvB n inn bits L with
 | false => rfl
 | true =>
  rw [Bool.not_true, aF, if_pos rfl]
  unfold rvB at hv
  simp only [Bool.and_eq_true, decide_eq_true_eq] at hv
  obtain ⟨⟨h1, h2⟩, ⟨h3, h4⟩, h5⟩ := hv
  obtain ⟨n', rfl⟩ : ∃ n' : Nat, n = (n' : Int) := ⟨n.toNat, by omega⟩
  obtain ⟨i', rfl⟩ : ∃ i' : Nat, inn = (i' : Int) := ⟨inn.toNat, by omega⟩
  have hn : 1 ≤ n' ∧ n' ≤ 4 := by omega
  have hin : 1 ≤ i' ∧ i' ≤ n' := by omega
  rw [JV hn hin, aC]
  have := Jb hn hin h3 hL FU 0 0 0 [in0] (by omega) (by rw [bP]; omega) (by rw [List.drop_zero]; exact h5) (by omega) (by simp) (fun B hb => by
    simp only [List.mem_cons, List.not_mem_nil, or_false] at hb
    subst hb
    exact wW) (by rw [List.drop_zero]; omega)
  rw [List.drop_zero] at this
  show bO (b5 L (L.length : Int) FU ((0 : Nat) : Int) ([in0].map (brC n' i'))) _ = _
  rw [this, aC, Int.toNat_natCast, Int.toNat_natCast]
def lF (a1 a2 a3 a4 : Int) : Option (Int × Int × Int × Int) :=
  bO (ay a1 a2 a3 a4) fun x1 => br (!x1) (some (0, 0, 0, 0)) (some (a1, IntKind.wrap .i64 (0 - a4), IntKind.wrap .i64 (0 - a3), IntKind.wrap .i64 (0 - a2)))
theorem qy {a1 a2 a3 a4 : Int} {r : Int × Int × Int × Int} (h : lF a1 a2 a3 a4 = some r) :
    aU Tryz.prog 69 [.agg [.int .i64 a1, .int .i64 a2, .int .i64 a3, .int .i64 a4]] [] (.agg [.int .i64 r.1, .int .i64 r.2.1, .int .i64 r.2.2.1, .int .i64 r.2.2.2]) [] := by
 unfold lF at h; refine SO Tryz.func69 rfl Tryz.ntmps69 fun C hN hρ => ?_; simp only [st0, aW, Nat.zero_add, Nat.reduceAdd]; refine AN hN ?_; refine aH ?_; obtain ⟨x1, h1, h⟩ := aA h; refine AP hN (bL h1) ?_; refine AB h (fun hc1 h => ?_) fun hc1 h => ?_
 ·refine AN hN ?_; injection h with h; subst h; exact AX (b' := 64) [(2, .ptr 32 0)] [(32, .box 34 [.int .i64 0, .int .i64 0, .int .i64 0, .int .i64 0])] [(32, some 80)] [] hρ (EQ [])
 ·refine aE (AK ?_); refine AN hN ?_; injection h with h; subst h; exact AX (b' := 64) [(2, .ptr 32 0)] [(32, .box 34 [.int .i64 a1, .int .i64 (IntKind.wrap .i64 (0 - a4)), .int .i64 (IntKind.wrap .i64 (0 - a3)), .int .i64 (IntKind.wrap .i64 (0 - a2))])] [(32, some 80)] [] hρ (EQ [])
def jB (a1 a2 a3 a4 a5 : Int) : Option (Int × Int × Int × Int × Int) :=
  bO (bU a1 a2 a3 a4 a5) fun x1 => br (!x1) (some (0, 0, 0, 0, 0)) (bO (lF a1 a2 a3 a4) fun x2 => some (x2.1, x2.2.1, x2.2.2.1, x2.2.2.2, a5))
theorem qz {a1 a2 a3 a4 a5 : Int} {r : Int × Int × Int × Int × Int} (h : jB a1 a2 a3 a4 a5 = some r) :
    aU Tryz.prog 45 [.agg [.int .i64 a1, .int .i64 a2, .int .i64 a3, .int .i64 a4, .int .i64 a5]] [] (.agg [.int .i64 r.1, .int .i64 r.2.1, .int .i64 r.2.2.1, .int .i64 r.2.2.2.1, .int .i64 r.2.2.2.2]) [] := by
 unfold jB at h; refine SO Tryz.func45 rfl Tryz.ntmps45 fun C hN hρ => ?_; simp only [st0, aW, Nat.zero_add, Nat.reduceAdd]; refine AN hN ?_; refine aH ?_; obtain ⟨x1, h1, h⟩ := aA h; refine AP hN (c9 h1) ?_; refine AB h (fun hc1 h => ?_) fun hc1 h => ?_
 ·refine AN hN ?_; injection h with h; subst h; exact AX (b' := 64) [(2, .ptr 32 0)] [(32, .box 36 [.int .i64 0, .int .i64 0, .int .i64 0, .int .i64 0, .int .i64 0])] [(32, some 80)] [] hρ (EQ [])
 ·refine aE (AK ?_); obtain ⟨x2, h2, h⟩ := aA h; refine AP hN (qy h2) ?_; injection h with h; subst h; exact AX (b' := 64) [(2, .ptr 32 0)] [(32, .box 36 [.int .i64 x2.1, .int .i64 x2.2.1, .int .i64 x2.2.2.1, .int .i64 x2.2.2.2, .int .i64 a5])] [(32, some 80)] [] hρ (EQ [])
def dm (a2 : LF) (v10 : LF) : Option (Int × Int × Int × Int × Int × Bool) :=
  bO (vC v10 a2) fun x11 => some (x11.1, x11.2.1, x11.2.2.1, x11.2.2.2.1, x11.2.2.2.2.1, x11.2.2.2.2.2)
def cb (a1 : LF) (a2 : LF) : Nat → Int → Int → (LF) → Option (Int × Int × Int × Int × Int × Bool)
  | 0, _, _, _ => none
  | n1 + 1, v7, v8, v9 =>
  br (decide (v8 < v7)) (bO (ak a1 v8) fun q3 => bO (jB q3.1 q3.2.1 q3.2.2.1 q3.2.2.2.1 q3.2.2.2.2) fun x10 => gd (decide (v9.length + ([(x10.1, x10.2.1, x10.2.2.1, x10.2.2.2.1, x10.2.2.2.2)]).length ≤ 16777216)) ((cb a1 a2 n1) v7 (IntKind.wrap .i64 (v8 + 1)) (v9 ++ ([(x10.1, x10.2.1, x10.2.2.1, x10.2.2.2.1, x10.2.2.2.2)])))) (dm a2 v9)
def fW (a1 : LF) (a2 : LF) (v1 : Bool) : Option (Int × Int × Int × Int × Int × Bool) :=
  br v1 (some (0, 0, 0, 0, 0, false)) (cb a1 a2 FU ((a1.length : Int)) 0 ([] : LF))
def eV (a1 : LF) (a2 : LF) : Option (Int × Int × Int × Int × Int × Bool) :=
  bO (dW a1) fun x1 => bO (br (!x1) (some true) (bO (dW a2) fun x2 => some (!x2))) fun x3 => bO (br x3 (some true) (some (((a1.length : Int)) != ((a2.length : Int))))) fun x4 => fW a1 a2 x4
theorem qE {a1 : LF} {a2 : LF} {r : Int × Int × Int × Int × Int × Bool} (h : eV a1 a2 = some r) :
    aU Tryz.prog 24 [.sl (aB aT a1) a1.length, .sl (aB aT a2) a2.length] [] (.tup [.agg [.int .i64 r.1, .int .i64 r.2.1, .int .i64 r.2.2.1, .int .i64 r.2.2.2.1, .int .i64 r.2.2.2.2.1], .bool r.2.2.2.2.2]) [] := by
 unfold eV at h; refine SO Tryz.func24 rfl Tryz.ntmps24 fun C hN hρ => ?_; simp only [st0, aW, Nat.zero_add, Nat.reduceAdd]; refine AN hN ?_; refine aH ?_; refine AJ (fun S => ∃ (v1 : Bool), S = ⟨mkT [(0, .sl (aB aT a1) a1.length), (1, .sl (aB aT a2) a2.length), (4, .ptr 32 0), (25, .bool v1)], mkR [(32, .box 36 [.int .i64 0, .int .i64 0, .int .i64 0, .int .i64 0, .int .i64 0])], 64⟩ ∧ fW a1 a2 v1 = some r) hN ?_ ?_
 ·intro K hK; obtain ⟨x1, h1, h⟩ := aA h; simp only [EV, seval]; refine CP (iq h1) ?_; obtain ⟨x3, hv1, h⟩ := aA h; rcases aR hv1 with ⟨hc1, hv1⟩ | ⟨hc1, hv1⟩
  ·cases hv1; obtain ⟨x5, hv3, h⟩ := aA h; replace hv3 := iX hv3; cases hv3; (try dsimp only at h); simp only [EV, seval, hc1]; refine hK _ _ _ (show aM _ _ _ from aP ⟨_, rfl, h⟩ (aD [(32, some 64)] [] hρ (by kernel_rfl) ?_ ?_)) <;> simp only [AL, EV, seval, hc1]
  ·obtain ⟨x6, h3, hv1⟩ := aA hv1; simp only [EV, seval, hc1]; refine aj (iq h3) (by simp only [AL, EV, seval, hc1]) (aN rfl) (ab rfl) ?_; cases hv1; obtain ⟨x7, hv4, h⟩ := aA h; rcases aR hv4 with ⟨hc3, hv4⟩ | ⟨hc3, hv4⟩
   ·cases hv4; simp only [EV, seval, hc1, hc3]; refine hK _ _ _ (show aM _ _ _ from aP ⟨_, rfl, h⟩ (aD [(32, some 64)] [] hρ (by kernel_rfl) ?_ ?_)) <;> simp only [AL, EV, seval, hc1, hc3]
   ·cases hv4; simp only [EV, seval, hc1, hc3]; refine hK _ _ _ (show aM _ _ _ from aP ⟨_, rfl, h⟩ (aD [(32, some 64)] [] hρ (by kernel_rfl) ?_ ?_)) <;> simp only [AL, EV, seval, hc1, hc3]
 ·rintro S ⟨v1, rfl, h⟩; unfold fW at h; refine AB h (fun hc4 h => ?_) fun hc4 h => ?_
  ·refine AN hN ?_; injection h with h; subst h; exact AX (b' := 64) [(4, .ptr 32 0), (5, .bool false)] [(32, .box 36 [.int .i64 0, .int .i64 0, .int .i64 0, .int .i64 0, .int .i64 0])] [(32, some 32)] [] hρ (EQ [])
  ·refine aE (AK ?_); refine AN hN ?_; refine aQ (fun S => ∃ (v10 : LF), S = ⟨mkT [(1, .sl (aB aT a2) a2.length), (4, .ptr 32 0), (6, .own 33 v10.length)], mkR [(32, .box 36 [.int .i64 0, .int .i64 0, .int .i64 0, .int .i64 0, .int .i64 0]), (33, .row 36 5 (aB aT v10))], 64⟩ ∧ dm a2 v10 = some r) ?_ ?_
   ·refine AN hN ?_; refine aJ ?_; refine aX (fun n S => ∃ (v7 v8 : Int) (v9 : LF), S = ⟨mkT [(1, .sl (aB aT a2) a2.length), (4, .ptr 32 0), (6, .own 33 v9.length), (28, .sl (aB aT a1) a1.length), (29, .int .i64 v7), (30, .int .i64 v8)], mkR [(32, .box 36 [.int .i64 0, .int .i64 0, .int .i64 0, .int .i64 0, .int .i64 0]), (33, .row 36 5 (aB aT v9))], 64⟩ ∧ cb a1 a2 n v7 v8 v9 = some r) FU ?_ ?_ ?_
    ·exact AC ⟨_, _, _, rfl, h⟩ [(32, some 32), (33, some 64)] [] hρ
    ·rintro S ⟨_, _, _, _, h⟩; rw [cb] at h; cases h
    ·rintro n1 S ⟨v7, v8, v9, rfl, h⟩; rw [cb] at h; refine AN hN ?_; refine aH ?_; refine AB h (fun hc7 h => ?_) fun hc7 h => ?_
     ·refine aE (AK ?_); refine aH ?_; refine aJ ?_; refine AR hN fun K hK => ?_; obtain ⟨q3, h12, h⟩ := aA h; obtain ⟨⟨h13a, h13b⟩, h13c⟩ := aY co h12; (try simp only [EV, seval] at h13c); simp only [EV, seval, h13a, h13b, h13c]; apply hK; clear hK K; refine AS hN fun K hK => ?_; obtain ⟨x10, h14, h⟩ := aA h; simp only [EV, seval]; refine CP (qz h14) ?_; obtain ⟨h15, h⟩ := gdI h; (try simp only [EV, seval] at h15); simp only [EV, seval, h15]; refine hK _ _ _ (show AW _ _ _ _ _ from ?_); refine AS hN fun K hK => ?_; simp only [EV, seval]; exact hK _ _ _ (AC ⟨_, _, _, rfl, h⟩ [(32, some 32), (33, some 2176)] [] hρ)
     ·exact aa (AC ⟨_, rfl, h⟩ [(32, some 32), (33, some 33)] [] hρ)
   ·rintro S ⟨v10, rfl, h⟩; unfold dm at h; refine AR hN fun K hK => ?_; obtain ⟨x11, h16, h⟩ := aA h; simp only [EV, seval]; refine nJ (Cm h16) (by simp only [AL, EV, seval]) (by simp only [AL, EF, and_self]) (aN rfl) (ab rfl) ?_; simp only [EV, seval]; apply hK; clear hK K; refine AN hN ?_; injection h with h; subst h; exact AX (b' := 64) [(4, .ptr 32 0), (5, .bool x11.2.2.2.2.2)] [(32, .box 36 [.int .i64 x11.1, .int .i64 x11.2.1, .int .i64 x11.2.2.1, .int .i64 x11.2.2.2.1, .int .i64 x11.2.2.2.2.1])] [(32, some 32)] [] hρ (EQ [])
def dN (a2 : List (LF)) (a3 : Int) (v1 : Bool) : Option (Int × Int × Int × Int × Int × Bool) :=
  br v1 (some (0, 0, 0, 0, 0, false)) (bO (ak a2 a3) fun q1 => bO (eV q1 q1) fun x2 => some (x2.1, x2.2.1, x2.2.2.1, x2.2.2.2.1, x2.2.2.2.2.1, x2.2.2.2.2.2))
def ck (a1 : Int) (a2 : List (LF)) (a3 : Int) : Option (Int × Int × Int × Int × Int × Bool) :=
  bO (br (decide (a3 < 0)) (some true) (some (decide (((a2.length : Int)) ≤ a3)))) fun x1 => dN a2 a3 x1
theorem nW {a1 : Int} {a2 : List (LF)} {a3 : Int} {r : Int × Int × Int × Int × Int × Bool} (h : ck a1 a2 a3 = some r) :
    aU Tryz.prog 15 [.agg [.int .i64 a1, .sl (aB aV a2) a2.length], .int .i64 a3] [] (.tup [.agg [.int .i64 r.1, .int .i64 r.2.1, .int .i64 r.2.2.1, .int .i64 r.2.2.2.1, .int .i64 r.2.2.2.2.1], .bool r.2.2.2.2.2]) [] := by
 unfold ck at h; refine SO Tryz.func15 rfl Tryz.ntmps15 fun C hN hρ => ?_; simp only [st0, aW, Nat.zero_add, Nat.reduceAdd]; refine AN hN ?_; refine aH ?_; refine AJ (fun S => ∃ (v1 : Bool), S = ⟨mkT [(1, .int .i64 a3), (2, .ptr 32 0), (4, .ptr 33 0), (16, .bool v1)], mkR [(32, .box 46 [.int .i64 a1, .sl (aB aV a2) a2.length]), (33, .box 36 [.int .i64 0, .int .i64 0, .int .i64 0, .int .i64 0, .int .i64 0])], 64⟩ ∧ dN a2 a3 v1 = some r) hN ?_ ?_
 ·intro K hK; obtain ⟨x1, hv1, h⟩ := aA h; rcases aR hv1 with ⟨hc1, hv1⟩ | ⟨hc1, hv1⟩
  ·cases hv1; simp only [EV, seval, hc1]; refine hK _ _ _ (show aM _ _ _ from aP ⟨_, rfl, h⟩ (aD [(32, some 64), (33, some 80)] [] hρ (by kernel_rfl) ?_ ?_)) <;> simp only [AL, EV, seval, hc1]
  ·cases hv1; simp only [EV, seval, hc1]; refine hK _ _ _ (show aM _ _ _ from aP ⟨_, rfl, h⟩ (aD [(32, some 64), (33, some 80)] [] hρ (by kernel_rfl) ?_ ?_)) <;> simp only [AL, EV, seval, hc1]
 ·rintro S ⟨v1, rfl, h⟩; unfold dN at h; refine AB h (fun hc2 h => ?_) fun hc2 h => ?_
  ·refine AN hN ?_; injection h with h; subst h; exact AX (b' := 64) [(4, .ptr 32 0), (5, .bool false)] [(32, .box 36 [.int .i64 0, .int .i64 0, .int .i64 0, .int .i64 0, .int .i64 0])] [(32, some 33)] [] hρ (EQ [])
  ·refine aE (AK ?_); refine AR hN fun K hK => ?_; obtain ⟨q1, h1, h⟩ := aA h; obtain ⟨⟨h2a, h2b⟩, h2c⟩ := aY lN h1; (try simp only [EV, seval] at h2c); obtain ⟨x2, h3, h⟩ := aA h; simp only [EV, seval, h2a, h2b, h2c]; refine aj (qE h3) (by simp only [AL, EV, seval, h2a, h2b, h2c]) (aN rfl) (ab rfl) ?_; simp only [EV, seval, h2a, h2b, h2c]; apply hK; clear hK K; refine AN hN ?_; injection h with h; subst h; exact AX (b' := 64) [(4, .ptr 32 0), (5, .bool x2.2.2.2.2.2)] [(32, .box 36 [.int .i64 x2.1, .int .i64 x2.2.1, .int .i64 x2.2.2.1, .int .i64 x2.2.2.2.1, .int .i64 x2.2.2.2.2.1])] [(32, some 33)] [] hρ (EQ [])
def mF (v1 : Bool) : Option Bool :=
  some v1
def oH (a1 a2 a3 a4 a5 : Int) : Option Bool :=
  bO (bU a1 a2 a3 a4 a5) fun x1 => bO (br x1 (some (a3 == 0)) (some false)) fun x2 => bO (br x2 (some (a4 == (IntKind.wrap .i64 (0 - a2)))) (some false)) fun x3 => mF x3
theorem vM {a1 a2 a3 a4 a5 : Int} {r : Bool} (h : oH a1 a2 a3 a4 a5 = some r) :
    aU Tryz.prog 25 [.agg [.int .i64 a1, .int .i64 a2, .int .i64 a3, .int .i64 a4, .int .i64 a5]] [] (.bool r) [] := by
 unfold oH at h; refine SO Tryz.func25 rfl Tryz.ntmps25 fun C hN hρ => ?_; simp only [st0, aW, Nat.zero_add, Nat.reduceAdd]; refine AN hN ?_; refine AJ (fun S => ∃ (v1 : Bool), S = ⟨mkT [(2, .bool v1)], mkR [], 64⟩ ∧ mF v1 = some r) hN ?_ ?_
 ·intro K hK; obtain ⟨x1, h1, h⟩ := aA h; simp only [EV, seval]; refine CP (c9 h1) ?_; obtain ⟨x2, hv1, h⟩ := aA h; rcases aR hv1 with ⟨hc1, hv1⟩ | ⟨hc1, hv1⟩
  ·cases hv1; obtain ⟨x4, hv3, h⟩ := aA h; rcases aR hv3 with ⟨hc3, hv3⟩ | ⟨hc3, hv3⟩
   ·cases hv3; simp only [EV, seval, hc1, hc3]; refine hK _ _ _ (show aM _ _ _ from aP ⟨_, rfl, h⟩ (aD [] [] hρ (by kernel_rfl) ?_ ?_)) <;> simp only [AL, EV, seval, hc1, hc3]
   ·cases hv3; simp only [EV, seval, hc1, hc3]; refine hK _ _ _ (show aM _ _ _ from aP ⟨_, rfl, h⟩ (aD [] [] hρ (by kernel_rfl) ?_ ?_)) <;> simp only [AL, EV, seval, hc1, hc3]
  ·cases hv1; obtain ⟨x5, hv4, h⟩ := aA h; replace hv4 := kU hv4; cases hv4; (try dsimp only at h); simp only [EV, seval, hc1]; refine hK _ _ _ (show aM _ _ _ from aP ⟨_, rfl, h⟩ (aD [] [] hρ (by kernel_rfl) ?_ ?_)) <;> simp only [AL, EV, seval, hc1]
 ·rintro S ⟨v1, rfl, h⟩; unfold mF at h; injection h with h; subst h; exact AX (b' := 64) [(2, .bool v1)] [] [] [] hρ (EQ [])
def jr (a1 a2 : Int) (v3 : Bool) : Option Int :=
  br v3 (some (-1)) (br ((decide ((IntKind.wrap .i64 ((IntKind.wrap .i64 (2 * a2)) * a2)) < (IntKind.wrap .i64 (a1 * a1)))) == (decide (0 < a1))) (some 1) (some (-1)))
def js (a1 a2 : Int) (v2 : Bool) : Option Int :=
  br v2 (some 1) (bO (br (decide (a1 ≤ 0)) (some (decide (a2 ≤ 0))) (some false)) fun x4 => jr a1 a2 x4)
def jt (a1 a2 : Int) (v1 : Bool) : Option Int :=
  br v1 (some 0) (bO (br (decide (0 ≤ a1)) (some (decide (0 ≤ a2))) (some false)) fun x3 => js a1 a2 x3)
def fm (a1 a2 a3 a4 a5 : Int) : Option Int :=
  bO (oH a1 a2 a3 a4 a5) fun x1 => br (!x1) (some 0) (bO (br (a1 == 0) (some (a2 == 0)) (some false)) fun x2 => jt a1 a2 x2)
theorem p6 {a1 a2 a3 a4 a5 r : Int} (h : fm a1 a2 a3 a4 a5 = some r) :
    aU Tryz.prog 16 [.agg [.int .i64 a1, .int .i64 a2, .int .i64 a3, .int .i64 a4, .int .i64 a5]] [] (.int .i64 r) [] := by
 unfold fm at h; refine SO Tryz.func16 rfl Tryz.ntmps16 fun C hN hρ => ?_; simp only [st0, aW, Nat.zero_add, Nat.reduceAdd]; refine AN hN ?_; refine aH ?_; obtain ⟨x1, h1, h⟩ := aA h; refine AP hN (vM h1) ?_; refine AB h (fun hc1 h => ?_) fun hc1 h => ?_
 ·refine AN hN ?_; injection h with h; subst h; exact AX (b' := 64) [(2, .int .i64 0)] [] [] [] hρ (EQ [])
 ·refine aE (AK ?_); refine AN hN ?_; refine AN hN ?_; refine aH ?_; refine aJ ?_; refine AJ (fun S => ∃ (v1 : Bool), S = ⟨mkT [(3, .int .i64 a1), (4, .int .i64 a2), (14, .bool v1)], mkR [], 64⟩ ∧ jt a1 a2 v1 = some r) hN ?_ ?_
  ·intro K hK; obtain ⟨x2, hv1, h⟩ := aA h; rcases aR hv1 with ⟨hc2, hv1⟩ | ⟨hc2, hv1⟩
   ·cases hv1; simp only [EV, seval, hc2]; refine hK _ _ _ (show aM _ _ _ from aP ⟨_, rfl, h⟩ (aD [] [] hρ (by kernel_rfl) ?_ ?_)) <;> simp only [AL, EV, seval, hc2]
   ·cases hv1; simp only [EV, seval, hc2]; refine hK _ _ _ (show aM _ _ _ from aP ⟨_, rfl, h⟩ (aD [] [] hρ (by kernel_rfl) ?_ ?_)) <;> simp only [AL, EV, seval, hc2]
  ·rintro S ⟨v1, rfl, h⟩; unfold jt at h; refine AB h (fun hc3 h => ?_) fun hc3 h => ?_
   ·refine AN hN ?_; injection h with h; subst h; exact AX (b' := 64) [(2, .int .i64 0)] [] [] [] hρ (EQ [])
   ·refine AJ (fun S => ∃ (v2 : Bool), S = ⟨mkT [(3, .int .i64 a1), (4, .int .i64 a2), (21, .bool v2)], mkR [], 64⟩ ∧ js a1 a2 v2 = some r) hN ?_ ?_
    ·intro K hK; obtain ⟨x3, hv2, h⟩ := aA h; rcases aR hv2 with ⟨hc4, hv2⟩ | ⟨hc4, hv2⟩
     ·cases hv2; simp only [EV, seval, hc4]; refine hK _ _ _ (show aM _ _ _ from aP ⟨_, rfl, h⟩ (aD [] [] hρ (by kernel_rfl) ?_ ?_)) <;> simp only [AL, EV, seval, hc4]
     ·cases hv2; simp only [EV, seval, hc4]; refine hK _ _ _ (show aM _ _ _ from aP ⟨_, rfl, h⟩ (aD [] [] hρ (by kernel_rfl) ?_ ?_)) <;> simp only [AL, EV, seval, hc4]
    ·rintro S ⟨v2, rfl, h⟩; unfold js at h; refine AB h (fun hc5 h => ?_) fun hc5 h => ?_
     ·refine AN hN ?_; injection h with h; subst h; exact AX (b' := 64) [(2, .int .i64 1)] [] [] [] hρ (EQ [])
     ·refine AJ (fun S => ∃ (v3 : Bool), S = ⟨mkT [(3, .int .i64 a1), (4, .int .i64 a2), (28, .bool v3)], mkR [], 64⟩ ∧ jr a1 a2 v3 = some r) hN ?_ ?_
      ·intro K hK; obtain ⟨x4, hv3, h⟩ := aA h; rcases aR hv3 with ⟨hc6, hv3⟩ | ⟨hc6, hv3⟩
       ·cases hv3; simp only [EV, seval, hc6]; refine hK _ _ _ (show aM _ _ _ from aP ⟨_, rfl, h⟩ (aD [] [] hρ (by kernel_rfl) ?_ ?_)) <;> simp only [AL, EV, seval, hc6]
       ·cases hv3; simp only [EV, seval, hc6]; refine hK _ _ _ (show aM _ _ _ from aP ⟨_, rfl, h⟩ (aD [] [] hρ (by kernel_rfl) ?_ ?_)) <;> simp only [AL, EV, seval, hc6]
      ·rintro S ⟨v3, rfl, h⟩; unfold jr at h; refine AB h (fun hc7 h => ?_) fun hc7 h => ?_
       ·refine AN hN ?_; injection h with h; subst h; exact AX (b' := 64) [(2, .int .i64 (-1))] [] [] [] hρ (EQ [])
       ·refine AN hN ?_; refine AB h (fun hc8 h => ?_) fun hc8 h => ?_
        ·refine AN hN ?_; injection h with h; subst h; exact AX (b' := 64) [(2, .int .i64 1)] [] [] [] hρ (EQ [])
        ·refine aE (AK ?_); refine AN hN ?_; injection h with h; subst h; exact AX (b' := 64) [(2, .int .i64 (-1))] [] [] [] hρ (EQ [])
def cjz (x : Z4) : Z4 := (x.1, -x.2.2.2, -x.2.2.1, -x.2.1)
theorem HY (x y : Z4) : cjz (mlz x y) = mlz (cjz x) (cjz y) := by
 unfold cjz mlz
 apply fL <;> simp only <;> grind
theorem Jc (x : Z4) : cjz (rt x) = rt (cjz x) := by unfold cjz rt; apply fL <;> simp only <;> omega
theorem xV (k : Nat) (x : Z4) : cjz (rtn k x) = rtn k (cjz x) := by
 induction k with
 | zero => rfl
 | succ k ih => show cjz (rt (rtn k x)) = rt (rtn k (cjz x)); rw [Jc, ih]
theorem wX {M : Int} {x : Z4} (h : bdz M x) : bdz M (cjz x) := by unfold bdz cjz at *; simp only; omega
theorem Jd (k : Nat) : mlz (cjz (oz k)) (oz k) = (1, 0, 0, 0) := by
 rcases sJ k with ((e | e) | (e | e)) | ((e | e) | (e | e)) <;> rw [e] <;> decide
def ipz (D : Nat) (f g : Amp) : Z4 := smz (fun j => mlz (cjz (f j)) (g j)) D
theorem xW {a b : Nat → Z4} {j : Nat} : ∀ {D : Nat}, j < D → (∀ i, i < D → i ≠ j → a i = b i) → adz (smz a D) (b j) = adz (smz b D) (a j)
 | 0, h, _ => by omega
 | D + 1, h, hn => by
  rw [smz, smz]
  by_cases e : j = D
  ·subst e
   rw [gG (g := a) (h := b) fun i hi => hn i (by omega) (by omega), jc, fM (a j), ← jc]
  ·have ih := xW (a := a) (b := b) (j := j) (D := D) (by omega) (fun i hi hne => hn i (by omega) hne)
   rw [hn D (by omega) (fun h => e h.symm), jc, fM (b D), ← jc, ih, jc, fM (a j), ← jc]
theorem qF : ∀ (D : Nat) (σ : Nat → Nat), (∀ i, i < D → σ i < D) → (∀ i, i < D → σ (σ i) = i) → ∀ g : Nat → Z4, smz (fun i => g (σ i)) D = smz g D
 | 0, _, _, _, _ => rfl
 | D + 1, σ, h1, h2, g => by
  by_cases e : σ D = D
  ·rw [smz, smz, e]
   congr 1
   refine qF D σ (fun i hi => ?_) (fun i hi => h2 i (by omega)) g
   have k1 := h1 i (by omega)
   have k2 := h2 i (by omega)
   by_cases e2 : σ i = D
   ·rw [e2, e] at k2; omega
   ·omega
  ·have hj : σ D < D := by have := h1 D (by omega); omega
   have hjj := h2 D (by omega)
   have key := qF D (fun i => if i = σ D then σ D else σ i) (fun i hi => by
     (try simp only)
     split
     · exact hj
     · rename_i hne
       have k1 := h1 i (by omega)
       have k2 := h2 i (by omega)
       by_cases e2 : σ i = D
       · rw [e2] at k2; omega
       · omega) (fun i hi => by
     (try simp only)
     by_cases ei : i = σ D
     · rw [if_pos ei, if_pos rfl, ei]
     · rw [if_neg ei]
       have k2 := h2 i (by omega)
       by_cases e2 : σ i = σ D
       · rw [e2, hjj] at k2; omega
       · rw [if_neg e2, k2]) g
   rw [smz, smz, ← key]
   have hu := xW (a := fun i => g (σ i)) (b := fun i => g (if i = σ D then σ D else σ i)) (j := σ D) (D := D) hj (fun i hi hne => by rw [if_neg hne])
   simp only [if_true, hjj] at hu
   exact hu
theorem HZ {x y : Z4} (h : adz x x = adz y y) : x = y := by
 unfold adz at h
 simp only [Prod.mk.injEq] at h
 apply fL <;> omega
theorem Kv (x : Z4) : rtn 2 x = adz x x := KN x
theorem xX {n : Nat} {q : GQ} (h : gok n q) (f g : Amp) : ipz (2 ^ n) (gz q f) (gz q g) = rtn (2 * kq q.1) (ipz (2 ^ n) f g) := by
 by_cases h4 : q.1 = 4
 ·have ek : kq q.1 = 1 := if_pos h4
  rw [ek]
  show _ = rtn 2 _
  have T : ∀ r, adz (mlz (cjz (gz q f r)) (gz q g r)) (mlz (cjz (gz q f (r ^^^ 2 ^ q.2.1.toNat))) (gz q g (r ^^^ 2 ^ q.2.1.toNat))) =
    adz (adz (mlz (cjz (f r)) (g r)) (mlz (cjz (f r)) (g r))) (adz (mlz (cjz (f (r ^^^ 2 ^ q.2.1.toNat))) (g (r ^^^ 2 ^ q.2.1.toNat))) (mlz (cjz (f (r ^^^ 2 ^ q.2.1.toNat))) (g (r ^^^ 2 ^ q.2.1.toNat)))) := by
   intro r
   unfold gz
   rw [if_pos h4, if_pos h4, if_pos h4, if_pos h4, qq, xx]
   generalize f r = x; generalize f (r ^^^ 2 ^ q.2.1.toNat) = y; generalize g r = u; generalize g (r ^^^ 2 ^ q.2.1.toNat) = v
   cases r.testBit q.2.1.toNat
   ·simp only [Bool.false_eq_true, if_false, Bool.not_false, if_true]
    obtain ⟨x0, x1, x2, x3⟩ := x; obtain ⟨y0, y1, y2, y3⟩ := y; obtain ⟨u0, u1, u2, u3⟩ := u; obtain ⟨v0, v1, v2, v3⟩ := v
    unfold cjz mlz adz ngz
    apply fL <;> simp only <;> grind
   ·simp only [if_true, Bool.not_true, Bool.false_eq_true, if_false]
    obtain ⟨x0, x1, x2, x3⟩ := x; obtain ⟨y0, y1, y2, y3⟩ := y; obtain ⟨u0, u1, u2, u3⟩ := u; obtain ⟨v0, v1, v2, v3⟩ := v
    unfold cjz mlz adz ngz
    apply fL <;> simp only <;> grind
  have hp := fun F : Nat → Z4 => qF (2 ^ n) (fun r => r ^^^ 2 ^ q.2.1.toNat) (fun i hi => xlt hi h.1) (fun i _ => xx ..) F
  refine HZ ?_
  unfold ipz
  have e1 := lE (fun r => mlz (cjz (gz q f r)) (gz q g r)) (fun r => mlz (cjz (gz q f (r ^^^ 2 ^ q.2.1.toNat))) (gz q g (r ^^^ 2 ^ q.2.1.toNat))) (2 ^ n)
  rw [hp (fun r => mlz (cjz (gz q f r)) (gz q g r))] at e1
  rw [← e1, gG (fun j _ => T j), lE, lE, lE, hp (fun r => mlz (cjz (f r)) (g r)), Kv]
 ·have ek : kq q.1 = 0 := if_neg h4
  rw [ek]
  show _ = ipz (2 ^ n) f g
  unfold ipz
  rw [← qF (2 ^ n) (mvA q) (fun i hi => sL h hi) (fun i _ => uA h i) (fun j => mlz (cjz (f j)) (g j))]
  refine gG fun j _ => ?_
  unfold gz
  rw [if_neg h4, if_neg h4, HY, gF, vL (cjz (f _)), ← gF, Jd, wO]
theorem Kw {D c : Nat} (hc : c < D) : ipz D (dl c) (dl c) = (1, 0, 0, 0) := by
 unfold ipz
 rw [nU (c := c) hc (fun j _ hj => by unfold dl; rw [if_neg hj]; exact Cp _)]
 unfold dl; rw [if_pos rfl]; decide
def nrm (x : Z4) : Z4 := mlz (cjz x) x
theorem DR (x : Z4) : (nrm x).1 = x.1 * x.1 + x.2.1 * x.2.1 + x.2.2.1 * x.2.2.1 + x.2.2.2 * x.2.2.2 := by unfold nrm cjz mlz; simp only; grind
theorem Kx (x : Z4) : (nrm x).2.1 = x.1 * x.2.1 + x.2.1 * x.2.2.1 + x.2.2.1 * x.2.2.2 - x.1 * x.2.2.2 := by unfold nrm cjz mlz; simp only; grind
theorem uG {g : Nat → Z4} (h : ∀ j, 0 ≤ (g j).1) : ∀ (D : Nat), 0 ≤ (smz g D).1 ∧ ∀ r, r < D → (g r).1 ≤ (smz g D).1
 | 0 => ⟨Int.le_refl _, fun r hr => by omega⟩
 | D + 1 => by
  obtain ⟨h1, h2⟩ := uG h D
  have hD := h D
  have e : (smz g (D + 1)).1 = (smz g D).1 + (g D).1 := rfl
  refine ⟨by omega, fun r hr => ?_⟩
  by_cases er : r = D
  ·subst er; omega
  ·have := h2 r (by omega); omega
theorem ko (a : Int) : 0 ≤ a * a := by
 rcases Int.le_total 0 a with h | h
 ·exact Int.mul_nonneg h h
 ·exact Int.mul_nonneg_of_nonpos_of_nonpos h h
theorem wY (x : Z4) : 0 ≤ (nrm x).1 := by
 rw [DR]
 have := ko x.1; have := ko x.2.1; have := ko x.2.2.1; have := ko x.2.2.2
 omega
theorem qr {a B : Int} (hB : 0 ≤ B) (h : a * a ≤ B * B) : -B ≤ a ∧ a ≤ B := by
 constructor
 ·rcases Int.lt_or_le a (-B) with h' | h'
  ·have : (B + 1) * (B + 1) ≤ (-a) * (-a) := Int.mul_le_mul (by omega) (by omega) (by omega) (by omega)
   rw [Int.neg_mul_neg] at this
   have e : (B + 1) * (B + 1) = B * B + 2 * B + 1 := by grind
   omega
  ·exact h'
 ·rcases Int.lt_or_le B a with h' | h'
  ·have : (B + 1) * (B + 1) ≤ a * a := Int.mul_le_mul (by omega) (by omega) (by omega) (by omega)
   have e : (B + 1) * (B + 1) = B * B + 2 * B + 1 := by grind
   omega
  ·exact h'
theorem Je {x : Z4} {B : Int} (hB : 0 ≤ B) (h : (nrm x).1 ≤ B * B) : bdz B x := by
 rw [DR] at h
 have h1 := ko x.1; have h2 := ko x.2.1; have h3 := ko x.2.2.1; have h4 := ko x.2.2.2
 exact ⟨qr hB (by omega), qr hB (by omega), qr hB (by omega), qr hB (by omega)⟩
theorem Ha {D : Nat} {f : Amp} (h : ipz D f f = (0, 0, 0, 0)) {r : Nat} (hr : r < D) : f r = (0, 0, 0, 0) := by
 have hs := (uG (g := fun j => mlz (cjz (f j)) (f j)) (fun j => wY _) D).2 r hr
 have e : (smz (fun j => mlz (cjz (f j)) (f j)) D).1 = 0 := congrArg (fun x : Z4 => x.1) h
 rw [e] at hs
 obtain ⟨h1, h2, h3, h4⟩ := Je (x := f r) (B := 0) (by omega) hs
 apply fL <;> simp only <;> omega
theorem xY (x : Z4) : dvb (cjz x) = dvb x := by
 rw [Bool.eq_iff_iff]
 unfold dvb
 rw [lD, lD]
 unfold cjz rt
 simp only
 omega
def cD (x : DQ) : DQ := (x.1, -x.2.2.2.1, -x.2.2.1, -x.2.1, x.2.2.2.2)
theorem Ky {K : Nat} {n : Z4} (hK : K ≤ 60) (hn : bdz 1073741824 n) : cD (dq K n) = dq K (cjz n) := by
 have hv := mu hK hn
 have e := D5 K n
 generalize dq K n = x at *
 have e1 : znm (cD x) = cjz (znm x) := rfl
 have e2 : ae (cD x) = ae x := rfl
 have e3 : zex (cD x) = zex x := rfl
 refine vJ ?_ ?_
 ·obtain ⟨a, b, c⟩ := (dy x).1 hv
  refine (dy _).2 ⟨?_, ?_, ?_⟩
  ·rw [e1, bp]; exact wX ((bp _).1 a)
  ·rw [e3]; exact b
  ·rw [e1, e2, xY]; exact c
 ·rw [e1, e2, ← xV, ← xV, e]
theorem Kz {x : DQ} (h : vd x = true) : vd (cD x) = true := by
 obtain ⟨a, b, c⟩ := (dy x).1 h
 refine (dy _).2 ⟨(bp _).2 (wX ((bp _).1 a)), b, ?_⟩
 rcases c with c | c
 ·exact .inl c
 ·exact .inr ((xY (znm x)).trans c)
theorem MC (x : DQ) (hv : vd x = true) : jB x.1 x.2.1 x.2.2.1 x.2.2.2.1 x.2.2.2.2 = some (cD x) := by
 obtain ⟨a, b, c⟩ := (dy x).1 hv
 obtain ⟨⟨_, _⟩, ⟨_, _⟩, ⟨_, _⟩, _, _⟩ := (bp _).1 a
 have hz := sG (znm x)
 unfold znm at hz
 simp only at hz
 unfold jB lF
 rw [vE, hv, aC]
 simp only [Bool.not_true, aF]
 unfold znm at a
 rw [hz, a, aC]
 simp only [Bool.not_true, aF, aC]
 unfold znm at *
 simp only at *
 rw [w64 (x := 0 - x.2.2.2.1) (by omega) (by omega), w64 (x := 0 - x.2.2.1) (by omega) (by omega), w64 (x := 0 - x.2.1) (by omega) (by omega)]
 unfold cD
 simp only [Int.zero_sub]
def ipM (u v : List DQ) : Option DQ := if (stB u = true ∧ stB v = true) ∧ u.length = v.length then wN d0 (u.map cD) v else none
theorem L0 (u v : List DQ) (hu : u.length ≤ 1048576) (hv : v.length ≤ 1048576) : eV u v = some (res (ipM u v)) := by
 unfold eV ipM
 rw [JG u (by omega), aC]
 cases hsu : stB u with
 | false => rfl
 | true =>
  rw [JG v (by omega), aC]
  cases hsv : stB v with
  | false => rfl
  | true =>
   simp only [Bool.not_true, aF, aC, true_and]
   by_cases hl : u.length = v.length
   ·have hne : (((u.length : Int)) != ((v.length : Int))) = false := by simp [hl]
    rw [hne, if_pos hl]
    unfold fW
    rw [aF]
    have key : ∀ (m k : Nat), k ≤ u.length → u.length - k < m → cb u v m (u.length : Int) (k : Int) ((u.take k).map cD) = dm v (u.map cD) := by
     intro m
     induction m with
     | zero => intro k _ h; omega
     | succ m ih =>
      intro k hk hm
      rw [cb]
      by_cases e : k = u.length
      ·subst e
       rw [decide_eq_false (by omega), aF, List.take_length]
      ·have hkl : k < u.length := by omega
       rw [decide_eq_true (by omega), aS, bB hkl, aC, MC _ ((wQ hsu).1 _ (List.getElem_mem hkl)), aC, decide_eq_true (by simp; omega), bN, cn hkl (by omega)]
       have := ih (k + 1) (by omega) (by omega)
       rw [List.take_succ_eq_append_getElem hkl, List.map_append] at this
       exact this
    have := key FU 0 (Nat.zero_le _) (by rw [bP]; omega)
    rw [List.take_zero] at this
    refine Eq.trans this ?_
    unfold dm
    rw [D3 (u.map cD) v (by simp; omega) (by simpa using hl) (fun x hx => ?_) (wQ hsv).1, aC]
    obtain ⟨y, hy, rfl⟩ := List.mem_map.1 hx
    exact Kz ((wQ hsu).1 y hy)
   ·have hne : (((u.length : Int)) != ((v.length : Int))) = true := by rw [bne_iff_ne]; omega
    rw [hne, if_neg hl]
    rfl
theorem L3 (x : Z4) : (nrm x).2.2.1 = 0 := by unfold nrm cjz mlz; simp only; grind
theorem L4 (x : Z4) : (nrm x).2.2.2 = -(nrm x).2.1 := by unfold nrm cjz mlz; simp only; grind
def Tp (z : Z4) : Prop := (z.2.2.1 = 0 ∧ z.2.2.2 = -z.2.1) ∧ (0 ≤ z.1 ∧ 2 * (z.2.1 * z.2.1) ≤ z.1 * z.1)
theorem L5 {x y : Int} (hy : 0 ≤ y) (h : x * x ≤ y * y) : x ≤ y := (qr hy h).2
theorem DS {x y : Z4} (hx : Tp x) (hy : Tp y) : Tp (adz x y) := by
 obtain ⟨⟨a1, a2⟩, a3, a4⟩ := hx
 obtain ⟨⟨b1, b2⟩, b3, b4⟩ := hy
 refine ⟨⟨by unfold adz; simp only; omega, by unfold adz; simp only; omega⟩, by unfold adz; simp only; omega, ?_⟩
 unfold adz
 simp only
 have h1 : (2 * (x.2.1 * y.2.1)) * (2 * (x.2.1 * y.2.1)) ≤ (x.1 * y.1) * (x.1 * y.1) := by
  have := Int.mul_le_mul a4 b4 (by have := ko y.2.1; omega) (ko x.1)
  have e1 : (2 * (x.2.1 * y.2.1)) * (2 * (x.2.1 * y.2.1)) = 2 * (x.2.1 * x.2.1) * (2 * (y.2.1 * y.2.1)) := by grind
  have e2 : (x.1 * y.1) * (x.1 * y.1) = x.1 * x.1 * (y.1 * y.1) := by grind
  omega
 have h2 := L5 (Int.mul_nonneg a3 b3) h1
 have e1 : 2 * ((x.2.1 + y.2.1) * (x.2.1 + y.2.1)) = 2 * (x.2.1 * x.2.1) + 2 * (2 * (x.2.1 * y.2.1)) + 2 * (y.2.1 * y.2.1) := by grind
 have e2 : (x.1 + y.1) * (x.1 + y.1) = x.1 * x.1 + 2 * (x.1 * y.1) + y.1 * y.1 := by grind
 omega
theorem wZ (x : Z4) : Tp (nrm x) := by
 refine ⟨⟨L3 x, L4 x⟩, wY x, ?_⟩
 rw [DR, Kx]
 obtain ⟨a, b, c, d⟩ := x
 simp only
 have h1 := ko (a * a - c * c + 2 * (b * d))
 have h2 := ko (b * b - d * d - 2 * (a * c))
 have e : (a * a + b * b + c * c + d * d) * (a * a + b * b + c * c + d * d) - 2 * ((a * b + b * c + c * d - a * d) * (a * b + b * c + c * d - a * d)) = (a * a - c * c + 2 * (b * d)) * (a * a - c * c + 2 * (b * d)) + (b * b - d * d - 2 * (a * c)) * (b * b - d * d - 2 * (a * c)) := by grind
 omega
theorem xZ : Tp (0, 0, 0, 0) := ⟨⟨rfl, rfl⟩, Int.le_refl _, Int.le_refl _⟩
theorem wb {g : Nat → Z4} (h : ∀ j, Tp (g j)) : ∀ k, Tp (smz g k)
 | 0 => xZ
 | k + 1 => DS (wb h k) (h k)
theorem xa (D : Nat) (f : Amp) : Tp (ipz D f f) := wb (fun j => wZ (f j)) D
theorem xb {z : Z4} (h : Tp z) : bdz z.1 z := by
 obtain ⟨⟨h1, h2⟩, h3, h4⟩ := h
 have := ko z.2.1
 have h5 := qr (a := z.2.1) (B := z.1) h3 (by omega)
 unfold bdz
 omega
theorem vN {g : Nat → Z4} (h : ∀ j, 0 ≤ (g j).1) : ∀ {D k : Nat}, k ≤ D → (smz g k).1 ≤ (smz g D).1
 | 0, k, hk => by rw [show k = 0 by omega]; exact Int.le_refl _
 | D + 1, k, hk => by
  by_cases e : k = D + 1
  ·rw [e]; exact Int.le_refl _
  ·have := vN h (D := D) (k := k) (by omega)
   have hD := h D
   have e : (smz g (D + 1)).1 = (smz g D).1 + (g D).1 := rfl
   omega
theorem DT {D K : Nat} {f : Amp} (hK : K + K ≤ 60) (hf : ∀ i, i < D → bdz 1073741824 (f i)) (hb : (ipz D f f).1 ≤ 1073741824) : ∀ (m k : Nat), k + m = D →
  wN (dq (K + K) (smz (fun j => nrm (f j)) k)) ((List.range' k m).map fun r => dq K (cjz (f r))) ((List.range' k m).map fun r => dq K (f r)) = some (dq (K + K) (ipz D f f))
 | 0, k, h => by rw [show k = D by omega]; rfl
 | m + 1, k, h => by
  have hnn : ∀ j, 0 ≤ (nrm (f j)).1 := fun j => wY _
  have b1 : ∀ i, i ≤ D → bdz 1073741824 (smz (fun j => nrm (f j)) i) := fun i hi => ax (by have := vN hnn hi; have e : ipz D f f = smz (fun j => nrm (f j)) D := rfl; rw [← e] at this; omega) (xb (wb (fun j => wZ (f j)) i))
  have b2 : bdz 1073741824 (nrm (f k)) := ax (by have := (uG hnn D).2 k (by omega); have e : ipz D f f = smz (fun j => nrm (f j)) D := rfl; rw [← e] at this; omega) (xb (wZ (f k)))
  have hfk := hf k (by omega)
  rw [List.range'_succ, List.map_cons, List.map_cons]
  unfold wN
  rw [u7 hK (wX hfk) hfk b2, Option.bind_some]
  show (oE (dq (K + K) (smz (fun j => nrm (f j)) k)) (dq (K + K) (nrm (f k)))).bind _ = _
  rw [wS hK (b1 k (by omega)) b2 (b1 (k + 1) (by omega)), Option.bind_some]
  exact DT hK hf hb m (k + 1) (by omega)
theorem L6 {D K : Nat} {f : Amp} (hD : D ≤ 16) (hq : 0 < qcF D) (hK : K + K ≤ 60) (hf : bdv 1073741824 f) (hb : (ipz D f f).1 ≤ 1073741824) : eV (vc D K f) (vc D K f) = some (res (some (dq (K + K) (ipz D f f)))) := by
 rw [L0 _ _ (by rw [dX]; omega) (by rw [dX]; omega)]
 unfold ipM
 rw [if_pos ⟨⟨xO hq (by omega) hf, xO hq (by omega) hf⟩, rfl⟩]
 have e1 : (vc D K f).map cD = (List.range' 0 D).map fun r => dq K (cjz (f r)) := by
  unfold vc
  rw [List.map_map, List.range_eq_range']
  exact List.map_congr_left fun r _ => Ky (by omega) (hf r)
 have e2 : vc D K f = (List.range' 0 D).map fun r => dq K (f r) := by unfold vc; rw [List.range_eq_range']
 have := DT (D := D) hK (fun i _ => hf i) hb D 0 (by omega)
 rw [show smz (fun j => nrm (f j)) 0 = (0, 0, 0, 0) from rfl, wR] at this
 rw [e1, e2, this]
theorem L7 : ∀ (m a b : Nat), a ≤ m → a * a = 2 * (b * b) → a = 0
 | 0, a, b, h, _ => by omega
 | m + 1, a, b, h, e => by
  have ha : a % 2 = 0 := by
   rcases Nat.mod_two_eq_zero_or_one a with h1 | h1
   ·exact h1
   ·have : (a * a) % 2 = 1 := by rw [Nat.mul_mod, h1]
    omega
  obtain ⟨c, rfl⟩ : ∃ c, a = 2 * c := ⟨a / 2, by omega⟩
  have e2 : b * b = 2 * (c * c) := by
   have : 2 * c * (2 * c) = 4 * (c * c) := by grind
   omega
  by_cases hc : c = 0
  ·omega
  ·have hb : b ≤ m := by
    rcases Nat.lt_or_ge b (2 * c) with h' | h'
    ·omega
    ·have : (2 * c) * (2 * c) ≤ b * b := Nat.mul_le_mul h' h'
     have e3 : 2 * c * (2 * c) = 4 * (c * c) := by grind
     have : 0 < c * c := Nat.mul_pos (by omega) (by omega)
     omega
   have := L7 m b c hb e2
   subst this
   have : 0 < c * c := Nat.mul_pos (by omega) (by omega)
   omega
theorem sq2 {a b : Int} (h : a * a = 2 * (b * b)) : a = 0 := by
 have e : a.natAbs * a.natAbs = 2 * (b.natAbs * b.natAbs) := by
  have h1 := Int.natAbs_mul_self (a := a)
  have h2 := Int.natAbs_mul_self (a := b)
  omega
 have := L7 a.natAbs a.natAbs b.natAbs (Nat.le_refl _) e
 omega
def sgF (a b : Int) : Int := if a = 0 ∧ b = 0 then 0 else if 0 ≤ a ∧ 0 ≤ b then 1 else if a ≤ 0 ∧ b ≤ 0 then -1 else if decide (2 * (b * b) < a * a) = decide (0 < a) then 1 else -1
theorem L8 (a b : Int) : sgF (2 * b) a = sgF a b := by
 unfold sgF
 by_cases h0 : a = 0 ∧ b = 0
 ·obtain ⟨rfl, rfl⟩ := h0; rfl
 rw [if_neg h0, if_neg (by omega)]
 by_cases h1 : 0 ≤ a ∧ 0 ≤ b
 ·rw [if_pos h1, if_pos (by omega)]
 rw [if_neg h1, if_neg (by omega)]
 by_cases h2 : a ≤ 0 ∧ b ≤ 0
 ·rw [if_pos h2, if_pos (by omega)]
 rw [if_neg h2, if_neg (by omega)]
 have hne : a * a ≠ 2 * (b * b) := fun h => by have := sq2 h; omega
 have e : 2 * b * (2 * b) = 4 * (b * b) := by grind
 rw [e]
 have k : decide (2 * (a * a) < 4 * (b * b)) = !decide (2 * (b * b) < a * a) := by
  by_cases h : 2 * (b * b) < a * a
  ·rw [decide_eq_true h, decide_eq_false (by omega)]; rfl
  ·rw [decide_eq_false h, decide_eq_true (by omega)]; rfl
 have k2 : decide (0 < 2 * b) = !decide (0 < a) := by
  by_cases h : 0 < a
  ·rw [decide_eq_true h, decide_eq_false (by omega)]; rfl
  ·rw [decide_eq_false h, decide_eq_true (by omega)]; rfl
 rw [k, k2]
 cases decide (2 * (b * b) < a * a) <;> cases decide (0 < a) <;> rfl
def Rr (z : Z4) : Prop := z.2.2.1 = 0 ∧ z.2.2.2 = -z.2.1
theorem xc : ∀ (k : Nat) {w : Z4}, Rr (rtn k w) → Rr w ∧ sgF (rtn k w).1 (rtn k w).2.1 = sgF w.1 w.2.1
 | 0, w, h => ⟨h, rfl⟩
 | k + 1, w, h => by
  have h1 : Rr (rtn k w) := by
   have h : Rr (rt (rtn k w)) := h
   unfold Rr rt at h
   simp only at h
   unfold Rr
   omega
  obtain ⟨h2, h3⟩ := xc k h1
  refine ⟨h2, ?_⟩
  show sgF (rt (rtn k w)).1 (rt (rtn k w)).2.1 = _
  have e1 : (rt (rtn k w)).1 = 2 * (rtn k w).2.1 := by
   unfold rt; simp only; unfold Rr at h1; omega
  have e2 : (rt (rtn k w)).2.1 = (rtn k w).1 := by
   unfold rt; simp only; unfold Rr at h1; omega
  rw [e1, e2, L8, h3]
theorem L9 {z : Z4} (h : Tp z) : sgF z.1 z.2.1 = if z.1 = 0 then 0 else 1 := by
 obtain ⟨_, h3, h4⟩ := h
 unfold sgF
 have hb := ko z.2.1
 by_cases h0 : z.1 = 0
 ·have : z.2.1 = 0 := by
   rw [h0] at h4
   have := qr (a := z.2.1) (B := 0) (by omega) (by omega)
   omega
  rw [if_pos ⟨h0, this⟩, if_pos h0]
 rw [if_neg (by omega), if_neg h0]
 by_cases h1 : 0 ≤ z.2.1
 ·rw [if_pos ⟨h3, h1⟩]
 ·have hne : z.1 * z.1 ≠ 2 * (z.2.1 * z.2.1) := fun h => h0 (sq2 h)
  rw [if_neg (by omega), if_neg (by omega), decide_eq_true (show 2 * (z.2.1 * z.2.1) < z.1 * z.1 by omega), decide_eq_true (show 0 < z.1 by omega), if_pos rfl]
theorem IA {a b M : Int} (hM : 0 ≤ M) (ha : -M ≤ a ∧ a ≤ M) (hb : -M ≤ b ∧ b ≤ M) : -(M * M) ≤ a * b ∧ a * b ≤ M * M := by
 have h1 : (a * b) * (a * b) ≤ (M * M) * (M * M) := by
  have e1 : a * a ≤ M * M := by
   rcases Int.le_total 0 a with h | h
   ·exact Int.mul_le_mul ha.2 ha.2 h hM
   ·have := Int.mul_le_mul (a := -a) (b := -a) (c := M) (d := M) (by omega) (by omega) (by omega) hM
    rw [Int.neg_mul_neg] at this; exact this
  have e2 : b * b ≤ M * M := by
   rcases Int.le_total 0 b with h | h
   ·exact Int.mul_le_mul hb.2 hb.2 h hM
   ·have := Int.mul_le_mul (a := -b) (b := -b) (c := M) (d := M) (by omega) (by omega) (by omega) hM
    rw [Int.neg_mul_neg] at this; exact this
  have := Int.mul_le_mul e1 e2 (ko b) (Int.mul_nonneg hM hM)
  have e3 : a * b * (a * b) = a * a * (b * b) := by grind
  omega
 exact qr (Int.mul_nonneg hM hM) h1
theorem MD {x : DQ} (hv : vd x = true) (hr : Rr (znm x)) : fm x.1 x.2.1 x.2.2.1 x.2.2.2.1 x.2.2.2.2 = some (sgF x.1 x.2.1) := by
 obtain ⟨v1, _, _⟩ := (dy _).1 hv
 have hb := (bp _).1 v1
 unfold bdz znm at hb
 simp only at hb
 obtain ⟨r1, r2⟩ := hr
 unfold znm at r1 r2
 simp only at r1 r2
 have hreal : oH x.1 x.2.1 x.2.2.1 x.2.2.2.1 x.2.2.2.2 = some true := by
  unfold oH mF
  rw [vE, hv, aC, aS, aC, r1]
  show bO (br ((0 : Int) == 0) _ _) _ = _
  rw [show ((0 : Int) == 0) = true from rfl, aS, aC, w64 (by omega) (by omega), r2, Int.zero_sub, beq_self_eq_true]
 unfold fm
 rw [hreal, aC]
 simp only [Bool.not_true, aF]
 unfold jt js jr sgF
 have m1 := IA (M := 1073741824) (by omega) hb.1 hb.1
 have m2 := IA (M := 1073741824) (by omega) hb.2.1 hb.2.1
 have w1 : IntKind.wrap .i64 (2 * x.2.1) = 2 * x.2.1 := w64 (by omega) (by omega)
 have e1 : 2 * x.2.1 * x.2.1 = 2 * (x.2.1 * x.2.1) := by grind
 have w2 : IntKind.wrap .i64 (2 * x.2.1 * x.2.1) = 2 * (x.2.1 * x.2.1) := by rw [e1]; exact w64 (by omega) (by omega)
 have w3 : IntKind.wrap .i64 (x.1 * x.1) = x.1 * x.1 := w64 (by omega) (by omega)
 rw [w1, w2, w3]
 generalize x.1 * x.1 = A
 generalize x.2.1 * x.2.1 = B
 generalize x.1 = a
 generalize x.2.1 = b
 by_cases h0 : a = 0 ∧ b = 0
 ·obtain ⟨rfl, rfl⟩ := h0
  rw [if_pos ⟨rfl, rfl⟩]; rfl
 ·rw [if_neg h0]
  have c0 : br (a == 0) (some (b == 0)) (some false) = some false := by
   by_cases ha : a = 0
   ·rw [beq_iff_eq.2 ha, aS, beq_eq_false_iff_ne.2 (by omega)]
   ·rw [beq_eq_false_iff_ne.2 ha, aF]
  rw [c0, aC, aF]
  by_cases h1 : 0 ≤ a ∧ 0 ≤ b
  ·rw [if_pos h1, decide_eq_true h1.1, aS, aC, decide_eq_true h1.2, aS]
  ·have c1 : br (decide (0 ≤ a)) (some (decide (0 ≤ b))) (some false) = some false := by
    by_cases ha : 0 ≤ a
    ·rw [decide_eq_true ha, aS, decide_eq_false (by omega)]
    ·rw [decide_eq_false ha, aF]
   rw [if_neg h1, c1, aC, aF]
   by_cases h2 : a ≤ 0 ∧ b ≤ 0
   ·rw [if_pos h2, decide_eq_true h2.1, aS, aC, decide_eq_true h2.2, aS]
   ·have c2 : br (decide (a ≤ 0)) (some (decide (b ≤ 0))) (some false) = some false := by
     by_cases ha : a ≤ 0
     ·rw [decide_eq_true ha, aS, decide_eq_false (by omega)]
     ·rw [decide_eq_false ha, aF]
    rw [if_neg h2, c2, aC, aF]
    cases decide (2 * B < A) <;> cases decide (0 < a) <;> rfl
theorem LA {L : Nat} {z : Z4} (hL : L ≤ 60) (hz : Tp z) (hb : z.1 ≤ 1073741824) : fm (dq L z).1 (dq L z).2.1 (dq L z).2.2.1 (dq L z).2.2.2.1 (dq L z).2.2.2.2 = some (if z.1 = 0 then 0 else 1) := by
 have hbd : bdz 1073741824 z := ax hb (xb hz)
 have hback := mD L z
 have hr : Rr (rtn (L - ae (dq L z)) (znm (dq L z))) := by rw [hback]; exact hz.1
 obtain ⟨h1, h2⟩ := xc _ hr
 rw [MD (mu hL hbd) h1]
 rw [hback, L9 hz] at h2
 rw [h2]
 rfl
section
variable {n inn : Nat}
theorem ME (hn : 1 ≤ n ∧ n ≤ 4) {B : BQ} (hK : B.2.1 ≤ 30) (hbd : ∀ i, bdv 1073741824 (B.2.2 i)) {i : Nat} (hi : i < 2 ^ inn) (hinn : inn ≤ 4) (hb : (ipz (2 ^ n) (B.2.2 i) (B.2.2 i)).1 ≤ 1073741824) :
  ck (brC n inn B).1 (brC n inn B).2 (i : Int) = some (res (some (dq (B.2.1 + B.2.1) (ipz (2 ^ n) (B.2.2 i) (B.2.2 i))))) := by
 have h16 := p16 (n := n) (by omega)
 have h16' := p16 (n := inn) (by omega)
 unfold ck
 have hlen : (brC n inn B).2.length = 2 ^ inn := by simp [brC]
 rw [decide_eq_false (show ¬ ((i : Nat) : Int) < 0 by omega), aF, aC, hlen]
 have hd : decide (((2 ^ inn : Nat) : Int) ≤ (i : Int)) = false := (fun x h => decide_eq_false (by omega) : ∀ x : Nat, i < x → decide ((x : Int) ≤ (i : Int)) = false) _ hi
 rw [hd]
 unfold dN
 have hget : ak (brC n inn B).2 (i : Int) = some (vc (2 ^ n) B.2.1 (B.2.2 i)) := mv (fun i => vc (2 ^ n) B.2.1 (B.2.2 i)) hi
 have hq := sM (n := (n : Int)) (by omega)
 rw [Int.toNat_natCast] at hq
 rw [aF, hget, aC, L6 h16 (by rw [hq]; omega) (by omega) (hbd i) hb, aC]
end
theorem qG : ∀ (j : Nat) (x : Z4), rtn (2 * j) x = ((2 ^ j : Nat) * x.1, (2 ^ j : Nat) * x.2.1, (2 ^ j : Nat) * x.2.2.1, (2 ^ j : Nat) * x.2.2.2)
 | 0, x => by simp [rtn]
 | j + 1, x => by
  rw [show 2 * (j + 1) = 2 + 2 * j by omega, ← cp, qG j x, Kv]
  unfold adz
  simp only
  have : ((2 ^ (j + 1) : Nat) : Int) = ((2 ^ j : Nat) : Int) + ((2 ^ j : Nat) : Int) := by rw [Nat.pow_succ]; omega
  rw [this]
  apply fL <;> simp only <;> rw [Int.add_mul]
def wgt (n H i : Nat) (B : BQ) : Z4 := rtn (2 * (H - B.2.1)) (ipz (2 ^ n) (B.2.2 i) (B.2.2 i))
def oj (n H i : Nat) : List BQ → Z4
 | [] => (0, 0, 0, 0)
 | B :: l => adz (wgt n H i B) (oj n H i l)
theorem xd (x : Z4) : adz (0, 0, 0, 0) x = x := by rw [fM, dM]
theorem uH (n H i : Nat) : ∀ l l' : List BQ, oj n H i (l ++ l') = adz (oj n H i l) (oj n H i l')
 | [], l' => (xd _).symm
 | B :: l, l' => by show adz _ (oj n H i (l ++ l')) = adz (adz _ _) _; rw [uH n H i l l', jc]
theorem DU (D q : Nat) (f : Amp) : ipz D f f = adz (ipz D (prA q false f) (prA q false f)) (ipz D (prA q true f) (prA q true f)) := by
 unfold ipz
 rw [← lE]
 refine gG fun j _ => ?_
 have z0 : mlz (cjz ((0, 0, 0, 0) : Z4)) (0, 0, 0, 0) = (0, 0, 0, 0) := by decide
 unfold prA
 cases j.testBit q with
 | false => rw [if_pos rfl, if_neg (by simp), z0, dM]
 | true => rw [if_neg (by simp), if_pos rfl, z0, xd]
theorem Hb {D : Nat} {f : Amp} (h : nzB D f = false) : ipz D f f = (0, 0, 0, 0) := by
 unfold ipz
 have hz : ∀ j, j < D → f j = (0, 0, 0, 0) := fun j hj => by
  unfold nzB at h
  rw [List.any_eq_false] at h
  have := h j (List.mem_range.2 hj)
  simpa using this
 rw [gG (h := fun _ => (0, 0, 0, 0)) fun j hj => by rw [hz j hj]; decide]
 clear h hz
 induction D with
 | zero => rfl
 | succ D ih => rw [smz, ih]; rfl
theorem Hc {D : Nat} {f : Amp} (h : nzB D f = true) : ipz D f f ≠ (0, 0, 0, 0) := fun e => by
 unfold nzB at h
 obtain ⟨j, hj, h⟩ := List.any_eq_true.1 h
 have := Ha e (List.mem_range.1 hj)
 rw [this] at h
 simp at h
section
variable {n inn : Nat}
theorem vO {H i q : Nat} (hi : i < 2 ^ inn) (one : Bool) (b : Int) (K : Nat) (F : Nat → Amp) : oj n H i (if msB n inn q one F = true then [(b, K, fun i => prA q one (F i))] else []) = rtn (2 * (H - K)) (ipz (2 ^ n) (prA q one (F i)) (prA q one (F i))) := by
 cases h : msB n inn q one F with
 | true => rw [if_pos rfl]; show adz (wgt n H i _) (0, 0, 0, 0) = _; rw [dM]; rfl
 | false =>
  rw [if_neg (by simp)]
  unfold msB at h
  rw [List.any_eq_false] at h
  have := h i (List.mem_range.2 hi)
  rw [Hb (by simpa using this), mt]
  rfl
theorem Jf {bits : Int} {kn h H i : Nat} (hi : i < 2 ^ inn) {o : OP} (ho : okO (n : Int) bits kn o) {B : BQ} (hB : IvB kn h B) (hH : h + hx o ≤ H) : oj n H i (opF n inn o B) = wgt n H i B := by
 have hK := hB.2.1
 unfold opF
 by_cases h1 : o.1 = 1
 ·rw [if_pos h1]
  show adz _ (0, 0, 0, 0) = _
  rw [dM]
  unfold gtF
  split
  ·rfl
  ·have hg := rS (rU ho.1 h1).1
   rw [Int.toNat_natCast] at hg
   unfold wgt
   simp only
   rw [xX hg, cp]
   unfold hx at hH
   rw [if_pos h1] at hH
   congr 1
   show 2 * (H - (B.2.1 + kq (oG o).1)) + 2 * kq (oG o).1 = _
   omega
 ·rw [if_neg h1]
  by_cases h2 : o.1 = 2
  ·rw [if_pos h2]
   unfold msF
   rw [uH, vO hi, vO hi, ← tt, ← DU]
   rfl
  ·rw [if_neg h2]
   show adz _ (0, 0, 0, 0) = _
   rw [dM]
theorem vQ {bits : Int} {kn h H i : Nat} (hi : i < 2 ^ inn) {o : OP} (ho : okO (n : Int) bits kn o) (hH : h + hx o ≤ H) : ∀ l : List BQ, (∀ B ∈ l, IvB kn h B) → oj n H i (l.flatMap (opF n inn o)) = oj n H i l
 | [], _ => rfl
 | B :: l, hB => by
  rw [List.flatMap_cons, uH, Jf hi ho (hB B (List.mem_cons_self ..)) hH, vQ hi ho hH l fun B' h => hB B' (List.mem_cons_of_mem _ h)]
  rfl
def NZ (n inn : Nat) (B : BQ) : Prop := ∃ i, i < 2 ^ inn ∧ ipz (2 ^ n) (B.2.2 i) (B.2.2 i) ≠ (0, 0, 0, 0)
theorem LB {q bit : Nat} {B : BQ} : ∀ B' ∈ msF n inn q bit B, NZ n inn B' := by
 have side : ∀ (one : Bool) (b : Int) (K : Nat) (F : Nat → Amp), ∀ B' ∈ (if msB n inn q one F = true then [((b, K, fun i => prA q one (F i)) : BQ)] else []), NZ n inn B' := fun one b K F B' hB' => by
  split at hB'
  ·rename_i h
   simp only [List.mem_cons, List.not_mem_nil, or_false] at hB'
   subst hB'
   unfold msB at h
   obtain ⟨i, hi, h⟩ := List.any_eq_true.1 h
   exact ⟨i, List.mem_range.1 hi, Hc h⟩
  ·simp at hB'
 intro B' hB'
 unfold msF at hB'
 rcases List.mem_append.1 hB' with h | h
 ·exact side _ _ _ _ _ h
 ·exact side _ _ _ _ _ h
theorem LC {bits : Int} {kn : Nat} {o : OP} (ho : okO (n : Int) bits kn o) {B : BQ} (hB : NZ n inn B) : ∀ B' ∈ opF n inn o B, NZ n inn B' := by
 intro B' hB'
 unfold opF at hB'
 by_cases h1 : o.1 = 1
 ·rw [if_pos h1] at hB'
  simp only [List.mem_cons, List.not_mem_nil, or_false] at hB'
  subst hB'
  unfold gtF
  split
  ·exact hB
  ·obtain ⟨i, hi, h⟩ := hB
   refine ⟨i, hi, fun e => h ?_⟩
   have hg := rS (rU ho.1 h1).1
   rw [Int.toNat_natCast] at hg
   simp only at e
   rw [xX hg] at e
   exact px _ (e.trans (mt _).symm)
 ·rw [if_neg h1] at hB'
  by_cases h2 : o.1 = 2
  ·rw [if_pos h2] at hB'
   exact LB B' hB'
  ·rw [if_neg h2] at hB'
   simp only [List.mem_cons, List.not_mem_nil, or_false] at hB'
   subst hB'
   exact hB
theorem xe (o : OP) (B : BQ) : ∀ B' ∈ opF n inn o B, B'.1 = B.1 ∨ o.1 = 2 ∧ B'.1 = B.1 + 2 ^ (oB o).toNat := by
 intro B' hB'
 unfold opF at hB'
 by_cases h1 : o.1 = 1
 ·rw [if_pos h1] at hB'
  simp only [List.mem_cons, List.not_mem_nil, or_false] at hB'
  subst hB'
  unfold gtF
  split <;> exact .inl rfl
 ·rw [if_neg h1] at hB'
  by_cases h2 : o.1 = 2
  ·rw [if_pos h2] at hB'
   unfold msF at hB'
   rcases List.mem_append.1 hB' with h | h
   ·split at h
    ·simp only [List.mem_cons, List.not_mem_nil, or_false] at h
     subst h; exact .inl rfl
    ·simp at h
   ·split at h
    ·simp only [List.mem_cons, List.not_mem_nil, or_false] at h
     subst h; exact .inr ⟨h2, rfl⟩
    ·simp at h
  ·rw [if_neg h2] at hB'
   simp only [List.mem_cons, List.not_mem_nil, or_false] at hB'
   subst hB'; exact .inl rfl
theorem LD (o : OP) (B : BQ) : ((opF n inn o B).map (·.1)).Nodup := by
 unfold opF
 split
 ·simp
 ·split
  ·unfold msF
   have hp : (0 : Int) < 2 ^ (oB o).toNat := by
    have := Nat.pow_pos (n := (oB o).toNat) (show 0 < 2 by omega)
    exact_mod_cast this
   (repeat' split) <;> simp
   omega
  ·simp
theorem xf {bits : Int} {kn h : Nat} {o : OP} (ho : okO (n : Int) bits kn o) : ∀ l : List BQ, (∀ B ∈ l, IvB kn h B) → (l.map (·.1)).Nodup → ((l.flatMap (opF n inn o)).map (·.1)).Nodup
 | [], _, _ => by simp
 | B :: l, hB, hn => by
  rw [List.map_cons, List.nodup_cons] at hn
  rw [List.flatMap_cons, List.map_append, List.nodup_append]
  refine ⟨LD o B, xf ho l (fun B' h => hB B' (List.mem_cons_of_mem _ h)) hn.2, fun x hx y hy e => ?_⟩
  subst e
  obtain ⟨B1, h1, rfl⟩ := List.mem_map.1 hx
  obtain ⟨B2, h2, e⟩ := List.mem_map.1 hy
  obtain ⟨B3, h3, h4⟩ := List.mem_flatMap.1 h2
  have hne : B3.1 ≠ B.1 := fun e => hn.1 (e ▸ List.mem_map.2 ⟨B3, h3, rfl⟩)
  have r1 := xe o B B1 h1
  have r2 := xe o B3 B2 h4
  have iv1 := (hB B (List.mem_cons_self ..)).1
  have iv2 := (hB B3 (List.mem_cons_of_mem _ h3)).1
  by_cases h2' : o.1 = 2
  ·have hb := ho.2.2 h2'
   rw [hb, Int.toNat_natCast] at r1 r2
   rcases r1 with r1 | ⟨_, r1⟩ <;> rcases r2 with r2 | ⟨_, r2⟩ <;> omega
  ·rcases r1 with r1 | ⟨r1, _⟩
   ·rcases r2 with r2 | ⟨r2, _⟩
    ·omega
    ·exact h2' r2
   ·exact h2' r1
theorem vR (hn : 1 ≤ n ∧ n ≤ 4) (hin : 1 ≤ inn ∧ inn ≤ n) {bits : Int} (hbits : 0 ≤ bits ∧ bits ≤ 3) {H : Nat} : ∀ (L : List OP) (kn h : Nat) (l : List BQ), rvL (n : Int) bits L kn = true → (kn : Int) ≤ bits → (∀ B ∈ l, IvB kn h B) → h + hcO L ≤ H →
  (∀ B ∈ l, NZ n inn B) → (l.map (·.1)).Nodup → (∀ i, i < 2 ^ inn → oj n H i (sN n inn L l) = oj n H i l) ∧ (∀ B ∈ sN n inn L l, NZ n inn B) ∧ ((sN n inn L l).map (·.1)).Nodup
 | [], kn, h, l, _, _, _, _, hz, hd => ⟨fun _ _ => rfl, hz, hd⟩
 | o :: L, kn, h, l, hv, hk, hB, hH, hz, hd => by
  unfold rvL at hv
  simp only [Bool.and_eq_true, decide_eq_true_eq, Bool.or_eq_true] at hv
  obtain ⟨⟨v1, v2⟩, v3, v4⟩ := hv
  have ho : okO (n : Int) bits kn o := ⟨v1, v2, fun h2 => by
    rcases v3 with v3 | v3
    · rw [h2] at v3; cases v3
    · exact eq_of_beq v3⟩
  have hk' : ((knx o kn : Nat) : Int) ≤ bits := by
   unfold knx
   split
   ·rename_i h2
    have := (oa v1 h2).2
    have := ho.2.2 h2
    omega
   ·exact hk
  unfold hcO at hH
  obtain ⟨r1, r2, r3⟩ := vR hn hin hbits (H := H) L (knx o kn) (h + hx o) (l.flatMap (opF n inn o)) v4 hk' (fun B' hB' => by
    obtain ⟨B, hb, hb'⟩ := List.mem_flatMap.1 hB'
    exact xT ho (hB B hb) B' hb') (by omega) (fun B' hB' => by
    obtain ⟨B, hb, hb'⟩ := List.mem_flatMap.1 hB'
    exact LC ho (hz B hb) B' hb') (xf ho l hB hd)
  exact ⟨fun i hi => (r1 i hi).trans (vQ hi ho (by omega) l hB), r2, r3⟩
structure SimR (n inn : Nat) (bits : Int) (l : List BQ) : Prop where
 len : l.length ≤ 8
 iv : ∀ B ∈ l, IvB bits.toNat 23 B
 tot : ∀ i, i < 2 ^ inn → oj n 23 i l = rtn 46 (1, 0, 0, 0)
 nz : ∀ B ∈ l, NZ n inn B
 nd : (l.map (·.1)).Nodup
end
theorem LE {n inn bits : Int} {L : List OP} (hh : hcO L ≤ 23) (hv : rvB n inn bits L = true) : ((1 ≤ n ∧ n ≤ 4) ∧ (1 ≤ inn ∧ inn ≤ n) ∧ (0 ≤ bits ∧ bits ≤ 3)) ∧ SimR n.toNat inn.toNat bits (sN n.toNat inn.toNat L [in0]) := by
 unfold rvB at hv
 simp only [Bool.and_eq_true, decide_eq_true_eq] at hv
 obtain ⟨⟨h1, h2⟩, ⟨h3, h4⟩, h5⟩ := hv
 have hv' : rvL ((n.toNat : Nat) : Int) bits L 0 = true := by rw [show ((n.toNat : Nat) : Int) = n by omega]; exact h5
 have iv0 : ∀ B ∈ [in0], IvB 0 0 B := fun B hb => by
  simp only [List.mem_cons, List.not_mem_nil, or_false] at hb
  subst hb
  exact wW
 have hp0 : 0 < 2 ^ inn.toNat := Nat.pow_pos (by omega)
 have hle : 2 ^ inn.toNat ≤ 2 ^ n.toNat := Nat.pow_le_pow_right (by omega) (by omega)
 have ip0 : ∀ i, i < 2 ^ inn.toNat → ipz (2 ^ n.toNat) (dl i) (dl i) = (1, 0, 0, 0) := fun i hi => Kw (Nat.lt_of_lt_of_le hi hle)
 obtain ⟨r1, r2⟩ := xU (n := n.toNat) (inn := inn.toNat) (by omega) (by omega) h3 L 0 0 [in0] hv' (by omega) (by simp) iv0
 obtain ⟨k1, k2, k3⟩ := vR (n := n.toNat) (inn := inn.toNat) (H := 23) (by omega) (by omega) h3 L 0 0 [in0] hv' (by omega) iv0 (by omega) (fun B hb => by
   simp only [List.mem_cons, List.not_mem_nil, or_false] at hb
   subst hb
   refine ⟨0, hp0, ?_⟩
   show ipz _ (dl 0) (dl 0) ≠ _
   rw [ip0 0 hp0]
   decide) (by simp)
 refine ⟨⟨h1, h2, h3⟩, r1, fun B hB => (r2 B hB).mono (Nat.le_refl _) (by omega), fun i hi => ?_, k2, k3⟩
 rw [k1 i hi]
 show adz (wgt _ 23 i in0) (0, 0, 0, 0) = _
 rw [dM]
 show rtn (2 * (23 - 0)) (ipz _ (dl i) (dl i)) = _
 rw [ip0 i hi]
theorem Jg {k : Nat} {z : Z4} (h : Tp z) : Tp (rtn (2 * k) z) := by
 rw [qG]
 obtain ⟨⟨h1, h2⟩, h3, h4⟩ := h
 generalize hP : ((2 ^ k : Nat) : Int) = P
 have hp : 0 ≤ P := by rw [← hP]; exact Int.natCast_nonneg _
 refine ⟨⟨?_, ?_⟩, Int.mul_nonneg hp h3, ?_⟩
 ·simp only; rw [h1, Int.mul_zero]
 ·simp only; rw [h2, Int.mul_neg]
 ·simp only
  have := Int.mul_le_mul_of_nonneg_left h4 (ko P)
  have e1 : P * P * (2 * (z.2.1 * z.2.1)) = 2 * (P * z.2.1 * (P * z.2.1)) := by grind
  have e2 : P * P * (z.1 * z.1) = P * z.1 * (P * z.1) := by grind
  omega
theorem DV (n H i : Nat) (B : BQ) : Tp (wgt n H i B) := Jg (xa _ _)
theorem DW (n H i : Nat) : ∀ l : List BQ, Tp (oj n H i l)
 | [] => xZ
 | B :: l => DS (DV n H i B) (DW n H i l)
theorem DX (n H i : Nat) : ∀ {l : List BQ} {B : BQ}, B ∈ l → (wgt n H i B).1 ≤ (oj n H i l).1
 | B0 :: l, B, hB => by
  have e : (oj n H i (B0 :: l)).1 = (wgt n H i B0).1 + (oj n H i l).1 := rfl
  have t1 := (DV n H i B0).2.1
  have t2 := (DW n H i l).2.1
  rcases List.mem_cons.1 hB with rfl | hB
  ·omega
  ·have := DX n H i hB
   omega
theorem Jh (n i : Nat) {B : BQ} : (ipz (2 ^ n) (B.2.2 i) (B.2.2 i)).1 ≤ (wgt n 23 i B).1 := by
 unfold wgt
 rw [qG]
 simp only
 have h := (xa (2 ^ n) (B.2.2 i)).2.1
 have : (1 : Int) ≤ ((2 ^ (23 - B.2.1) : Nat) : Int) := by
  have := Nat.pow_pos (n := 23 - B.2.1) (show 0 < 2 by omega)
  omega
 have := Int.mul_le_mul_of_nonneg_right this h
 omega
theorem LG : rtn 46 ((1, 0, 0, 0) : Z4) = (8388608, 0, 0, 0) := by rw [show (46 : Nat) = 2 * 23 from rfl, qG]; simp
section
variable {n inn : Nat} {bits : Int} {l : List BQ}
theorem LH (hR : SimR n inn bits l) {i : Nat} (hi : i < 2 ^ inn) {B : BQ} (hB : B ∈ l) : (ipz (2 ^ n) (B.2.2 i) (B.2.2 i)).1 ≤ 8388608 := by
 have h1 := DX n 23 i hB
 rw [hR.tot i hi, LG] at h1
 have := Jh n i (B := B)
 simp only at h1
 omega
theorem IB (hR : SimR n inn bits l) {B : BQ} (hB : B ∈ l) : B.2.1 ≤ 30 ∧ ∀ i, bdv 1073741824 (B.2.2 i) := by
 obtain ⟨_, hK, hbd⟩ := hR.iv B hB
 have hpw := DG (e := B.2.1) (by omega)
 exact ⟨by omega, fun i r => ax (by omega) (hbd i r)⟩
theorem MF (hR : SimR n inn bits l) (hn : 1 ≤ n ∧ n ≤ 4) (hin : inn ≤ 4) {i : Nat} (hi : i < 2 ^ inn) {B : BQ} (hB : B ∈ l) :
  ck (brC n inn B).1 (brC n inn B).2 (i : Int) = some (res (some (dq (B.2.1 + B.2.1) (ipz (2 ^ n) (B.2.2 i) (B.2.2 i))))) := by
 obtain ⟨hK, hbd⟩ := IB hR hB
 exact ME hn hK hbd hi hin (by have := LH hR hi hB; omega)
theorem IC (hR : SimR n inn bits l) {i : Nat} (hi : i < 2 ^ inn) {B : BQ} (hB : B ∈ l) : fm (dq (B.2.1 + B.2.1) (ipz (2 ^ n) (B.2.2 i) (B.2.2 i))).1 (dq (B.2.1 + B.2.1) (ipz (2 ^ n) (B.2.2 i) (B.2.2 i))).2.1 (dq (B.2.1 + B.2.1) (ipz (2 ^ n) (B.2.2 i) (B.2.2 i))).2.2.1 (dq (B.2.1 + B.2.1) (ipz (2 ^ n) (B.2.2 i) (B.2.2 i))).2.2.2.1 (dq (B.2.1 + B.2.1) (ipz (2 ^ n) (B.2.2 i) (B.2.2 i))).2.2.2.2 = some (if (ipz (2 ^ n) (B.2.2 i) (B.2.2 i)).1 = 0 then 0 else 1) := by
 have hK := (IB hR hB).1
 exact LA (by omega) (xa _ _) (by have := LH hR hi hB; omega)
theorem LI {z : Z4} (h : Tp z) (h0 : z.1 = 0) : z = (0, 0, 0, 0) := by
 have hb := xb h
 rw [h0] at hb
 unfold bdz at hb
 apply fL <;> simp only <;> omega
theorem LJ (hR : SimR n inn bits l) {B : BQ} (hB : B ∈ l) : ∃ i, i < 2 ^ inn ∧ (ipz (2 ^ n) (B.2.2 i) (B.2.2 i)).1 ≠ 0 := by
 obtain ⟨i, hi, h⟩ := hR.nz B hB
 exact ⟨i, hi, fun e => h (LI (xa _ _) e)⟩
end
def mO (v9 : List Int) : Option (List Int) :=
  some v9
def dz (a1 : LZ) : Nat → Int → Int → (List Int) → Option (List Int)
  | 0, _, _, _ => none
  | n1 + 1, v6, v7, v8 =>
  br (decide (v7 < v6)) (bO (ak a1 v7) fun q3 => gd (decide (v8.length + ([q3.1]).length ≤ 16777216)) ((dz a1 n1) v6 (IntKind.wrap .i64 (v7 + 1)) (v8 ++ ([q3.1])))) (mO v8)
def ls (a1 : LZ) : Option (List Int) :=
  dz a1 FU ((a1.length : Int)) 0 ([] : List Int)
theorem sc {a1 : LZ} {r : List Int} (h : ls a1 = some r) :
    aU Tryz.prog 13 [.sl (aB aL a1) a1.length] [] (.own 0 r.length) [.row 3 1 (aB EI r)] := by
 unfold ls at h; refine SO Tryz.func13 rfl Tryz.ntmps13 fun C hN hρ => ?_; simp only [st0, aW, Nat.zero_add, Nat.reduceAdd]; refine AN hN ?_; refine AN hN ?_; refine aQ (fun S => ∃ (v9 : List Int), S = ⟨mkT [(3, .own 32 v9.length)], mkR [(32, .row 3 1 (aB EI v9))], 64⟩ ∧ mO v9 = some r) ?_ ?_
 ·refine AN hN ?_; refine aJ ?_; refine aX (fun n S => ∃ (v6 v7 : Int) (v8 : List Int), S = ⟨mkT [(3, .own 32 v8.length), (7, .sl (aB aL a1) a1.length), (8, .int .i64 v6), (9, .int .i64 v7)], mkR [(32, .row 3 1 (aB EI v8))], 64⟩ ∧ dz a1 n v6 v7 v8 = some r) FU ?_ ?_ ?_
  ·exact AC ⟨_, _, _, rfl, h⟩ [(32, some 1088)] [] hρ
  ·rintro S ⟨_, _, _, _, h⟩; rw [dz] at h; cases h
  ·rintro n1 S ⟨v6, v7, v8, rfl, h⟩; rw [dz] at h; refine AN hN ?_; refine aH ?_; refine AB h (fun hc3 h => ?_) fun hc3 h => ?_
   ·refine aE (AK ?_); refine aH ?_; refine aJ ?_; refine AR hN fun K hK => ?_; obtain ⟨q3, h7, h⟩ := aA h; obtain ⟨⟨h8a, h8b⟩, h8c⟩ := aY fx h7; (try simp only [EV, seval] at h8c); simp only [EV, seval, h8a, h8b, h8c]; apply hK; clear hK K; refine AS hN fun K hK => ?_; obtain ⟨h9, h⟩ := gdI h; (try simp only [EV, seval] at h9); simp only [EV, seval, h9]; refine hK _ _ _ (show AW _ _ _ _ _ from ?_); refine AS hN fun K hK => ?_; simp only [EV, seval]; exact hK _ _ _ (AC ⟨_, _, _, rfl, h⟩ [(32, some 2176)] [] hρ)
   ·exact aa (AC ⟨_, rfl, h⟩ [(32, some 32)] [] hρ)
 ·rintro S ⟨v9, rfl, h⟩; unfold mO at h; refine AN hN ?_; injection h with h; subst h; exact AX (b' := 64) [(2, .own 32 v9.length)] [(32, .row 3 1 (aB EI v9))] [(32, some 32)] [] hρ (EQ [32])
def lu (v6 : Int) (kl1 : Int → Int → Option Int) (v7 : Int) : Option Int :=
  kl1 v7 (IntKind.wrap .i64 (v6 + 1))
def pb (v8 : Int) : Option Int :=
  some v8
def f8 (a1 : List Int) (a2 : Int) : Nat → Int → Int → Option Int
  | 0, _, _ => none
  | n1 + 1, v5, v6 =>
  br (decide (v6 < ((a1.length : Int)))) (bO (ak a1 v6) fun q3 => br (q3 == a2) (lu v6 (f8 a1 a2 n1) (IntKind.wrap .i64 (v5 + 1))) (lu v6 (f8 a1 a2 n1) v5)) (pb v5)
def qH (a1 : List Int) (a2 : Int) : Option Int :=
  f8 a1 a2 FU 0 0
theorem we {a1 : List Int} {a2 r : Int} (h : qH a1 a2 = some r) :
    aU Tryz.prog 14 [.sl (aB EI a1) a1.length, .int .i64 a2] [] (.int .i64 r) [] := by
 unfold qH at h; refine SO Tryz.func14 rfl Tryz.ntmps14 fun C hN hρ => ?_; simp only [st0, aW, Nat.zero_add, Nat.reduceAdd]; refine AN hN ?_; refine AN hN ?_; refine aQ (fun S => ∃ (v8 : Int), S = ⟨mkT [(5, .int .i64 v8)], mkR [], 64⟩ ∧ pb v8 = some r) ?_ ?_
 ·refine AN hN ?_; refine aJ ?_; refine aX (fun n S => ∃ (v5 v6 : Int), S = ⟨mkT [(0, .sl (aB EI a1) a1.length), (1, .int .i64 a2), (5, .int .i64 v5), (6, .int .i64 v6)], mkR [], 64⟩ ∧ f8 a1 a2 n v5 v6 = some r) FU ?_ ?_ ?_
  ·exact AC ⟨_, _, rfl, h⟩ [] [] hρ
  ·rintro S ⟨_, _, _, h⟩; rw [f8] at h; cases h
  ·rintro n1 S ⟨v5, v6, rfl, h⟩; rw [f8] at h; refine aH ?_; refine AN hN ?_; refine AB h (fun hc5 h => ?_) fun hc5 h => ?_
   ·refine aE (AK ?_); refine aQ (fun S => ∃ (v7 : Int), S = ⟨mkT [(0, .sl (aB EI a1) a1.length), (1, .int .i64 a2), (5, .int .i64 v7), (6, .int .i64 v6)], mkR [], 64⟩ ∧ lu v6 (f8 a1 a2 n1) v7 = some r) ?_ ?_
    ·refine aJ ?_; refine AR hN fun K hK => ?_; obtain ⟨q3, h5, h⟩ := aA h; obtain ⟨⟨h6a, h6b⟩, h6c⟩ := aY EIl h5; (try simp only [EV, seval] at h6c); simp only [EV, seval, h6a, h6b, h6c]; apply hK; clear hK K; refine ah (a := .bool (q3 == a2)) (by simp only [EV, seval, h6a, h6b, h6c]) (brK h (fun hc6 h => ?_) (fun hc6 h => ?_))
     ·refine AS hN fun K hK => ?_; simp only [EV, seval]; exact hK _ _ _ (AC ⟨_, rfl, h⟩ [] [] hρ)
     ·refine aE (show aM _ _ _ from aP ⟨_, rfl, h⟩ (aD [] [] hρ (by kernel_rfl) ?_ ?_)) <;> simp only [AL, EV, seval, h6a, h6b, h6c]
    ·rintro S ⟨v7, rfl, h⟩; unfold lu at h; refine AS hN fun K hK => ?_; simp only [EV, seval]; exact hK _ _ _ (AC ⟨_, _, rfl, h⟩ [] [] hρ)
   ·exact aa (AC ⟨_, rfl, h⟩ [] [] hρ)
 ·rintro S ⟨v8, rfl, h⟩; unfold pb at h; refine AN hN ?_; injection h with h; subst h; exact AX (b' := 64) [(4, .int .i64 v8)] [] [] [] hρ (EQ [])
def cc (a1 a2 : Int) : Option (Int × Int × Int × Int) :=
  some (a1, a2, 0, 0)
theorem bo {a1 a2 : Int} {r : Int × Int × Int × Int} (h : cc a1 a2 = some r) :
    aU Tryz.prog 145 [.int .i64 a1, .int .i64 a2] [] (.agg [.int .i64 r.1, .int .i64 r.2.1, .int .i64 r.2.2.1, .int .i64 r.2.2.2]) [] := by
 unfold cc at h; refine SO Tryz.func145 rfl Tryz.ntmps145 fun C hN hρ => ?_; simp only [st0, aW, Nat.zero_add, Nat.reduceAdd]; refine AN hN ?_; refine AN hN ?_; injection h with h; subst h; exact AX (b' := 64) [(4, .ptr 32 0)] [(32, .box 73 [.int .i64 a1, .int .i64 a2, .int .i64 0, .int .i64 0])] [(32, some 64)] [] hρ (EQ [])
def vS (a1 : List Int) : Option Bool :=
  some (decide (1048576 < ((a1.length : Int))))
theorem DY {a1 : List Int} {r : Bool} (h : vS a1 = some r) :
    aU Tryz.prog 5 [.sl (aB EB a1) a1.length] [] (.bool r) [] := by
 unfold vS at h; refine SO Tryz.func5 rfl Tryz.ntmps5 fun C hN hρ => ?_; simp only [st0, aW, Nat.zero_add, Nat.reduceAdd]; refine AN hN ?_; refine AN hN ?_; injection h with h; subst h; exact AX (b' := 64) [(2, .bool (decide (1048576 < ((a1.length : Int)))))] [] [] [] hρ (EQ [])
def cU (a2 a3 a4 v1 : Int) : Option (Int × Int × Int × Int) :=
  some (v1, a2, a3, a4)
def gj (a1 a2 a3 a4 : Int) : Option (Int × Int × Int × Int) :=
  br (a1 == 5) (cU a2 a3 a4 6) (br (a1 == 6) (cU a2 a3 a4 5) (br (a1 == 7) (cU a2 a3 a4 8) (br (a1 == 8) (cU a2 a3 a4 7) (cU a2 a3 a4 a1))))
theorem qd {a1 a2 a3 a4 : Int} {r : Int × Int × Int × Int} (h : gj a1 a2 a3 a4 = some r) :
    aU Tryz.prog 128 [.agg [.int .i64 a1, .int .i64 a2, .int .i64 a3, .int .i64 a4]] [] (.agg [.int .i64 r.1, .int .i64 r.2.1, .int .i64 r.2.2.1, .int .i64 r.2.2.2]) [] := by
 unfold gj at h; refine SO Tryz.func128 rfl Tryz.ntmps128 fun C hN hρ => ?_; simp only [st0, aW, Nat.zero_add, Nat.reduceAdd]; refine AN hN ?_; refine aQ (fun S => ∃ (v1 : Int), S = ⟨mkT [(1, .ptr 32 0), (2, .ptr 33 0)], mkR [(32, .box 73 [.int .i64 v1, .int .i64 a2, .int .i64 a3, .int .i64 a4]), (33, .box 73 [.int .i64 0, .int .i64 0, .int .i64 0, .int .i64 0])], 64⟩ ∧ cU a2 a3 a4 v1 = some r) ?_ ?_
 ·refine AN hN ?_; refine aJ ?_; refine AN hN ?_; refine AB h (fun hc1 h => ?_) fun hc1 h => ?_
  ·refine AS hN fun K hK => ?_; simp only [EV, seval]; exact hK _ _ _ (AC ⟨_, rfl, h⟩ [(32, some 64), (33, some 80)] [] hρ)
  ·refine AN hN ?_; refine AB h (fun hc2 h => ?_) fun hc2 h => ?_
   ·refine AS hN fun K hK => ?_; simp only [EV, seval]; exact hK _ _ _ (AC ⟨_, rfl, h⟩ [(32, some 64), (33, some 80)] [] hρ)
   ·refine AN hN ?_; refine AB h (fun hc3 h => ?_) fun hc3 h => ?_
    ·refine AS hN fun K hK => ?_; simp only [EV, seval]; exact hK _ _ _ (AC ⟨_, rfl, h⟩ [(32, some 64), (33, some 80)] [] hρ)
    ·refine AN hN ?_; refine AB h (fun hc4 h => ?_) fun hc4 h => ?_
     ·refine AS hN fun K hK => ?_; simp only [EV, seval]; exact hK _ _ _ (AC ⟨_, rfl, h⟩ [(32, some 64), (33, some 80)] [] hρ)
     ·refine aE (show aM _ _ _ from aP ⟨_, rfl, h⟩ (aD [(32, some 64), (33, some 80)] [] hρ (by kernel_rfl) ?_ ?_)) <;> simp only [AL, EV, seval]
 ·rintro S ⟨v1, rfl, h⟩; unfold cU at h; refine AN hN ?_; injection h with h; subst h; exact AX (b' := 64) [(2, .ptr 32 0)] [(32, .box 73 [.int .i64 v1, .int .i64 a2, .int .i64 a3, .int .i64 a4])] [(32, some 33)] [] hρ (EQ [])
section
variable {D : Type} {eD : D → List AV}
def i6 (a1 : Int) : Option ByteArray :=
  bO (cH a1 1 12) fun x1 => br (!x1) (some (ByteArray.mk #[])) (bO (ak ([ByteArray.mk #[], ByteArray.mk #[120], ByteArray.mk #[121], ByteArray.mk #[122], ByteArray.mk #[104], ByteArray.mk #[115], ByteArray.mk #[115, 100], ByteArray.mk #[116], ByteArray.mk #[116, 100], ByteArray.mk #[99, 120], ByteArray.mk #[99, 122], ByteArray.mk #[115, 119, 97, 112], ByteArray.mk #[99, 99, 120]]) a1) fun q1 => some q1)
theorem p7 {a1 : Int} {r : ByteArray} (h : i6 a1 = some r) :
    aU Tryz.prog 75 [.int .i64 a1] [] (.str r) [] := by
 unfold i6 at h; refine SO Tryz.func75 rfl Tryz.ntmps75 fun C hN hρ => ?_; simp only [st0, aW, Nat.zero_add, Nat.reduceAdd]; refine AN hN ?_; refine aH ?_; obtain ⟨x1, h1, h⟩ := aA h; refine AP hN (av h1) ?_; refine AB h (fun hc1 h => ?_) fun hc1 h => ?_
 ·refine AN hN ?_; injection h with h; subst h; exact AX (b' := 64) [(2, .str (ByteArray.mk #[]))] [] [] [] hρ (EQ [])
 ·refine aE (AK ?_); refine AR hN fun K hK => ?_; obtain ⟨q1, h2, h⟩ := aA h; obtain ⟨⟨h3a, h3b⟩, h3c⟩ := aY ESl h2; (try simp only [EV, seval] at h3c); (try simp only [EV, seval] at h3b); simp only [EV, seval, h3a, h3b, h3c]; apply hK; clear hK K; injection h with h; subst h; refine ba (aD (lt := [(2, .str q1)]) (lr := []) (b' := 64) [] [] hρ (by kernel_rfl) ?_ ?_) (bW (cX [] (.inr rfl) (by kernel_rfl) (by kernel_rfl) ?_))
  ·simp only [AL, EV, seval, h3a, h3b, h3c]
  ·simp only [AL, EV, seval, h3a, h3b, h3c]
  ·simp only [EV, Tryz.results75, seval]
def mP : Option Int :=
  some 0
def e9 (a1 : ByteArray) : Nat → Int → Option Int
  | 0, _ => none
  | n1 + 1, v2 =>
  br (decide (v2 ≤ 12)) (bO (i6 v2) fun x3 => br (uW x3 a1) (some v2) ((e9 a1 n1) (IntKind.wrap .i64 (v2 + 1)))) (mP)
def i7 (a1 : ByteArray) : Option Int :=
  e9 a1 FU 1
theorem mQ {a1 : ByteArray} {r : Int} (h : i7 a1 = some r) :
    aU Tryz.prog 127 [.str a1] [] (.int .i64 r) [] := by
 unfold i7 at h; refine SO Tryz.func127 rfl Tryz.ntmps127 fun C hN hρ => ?_; simp only [st0, aW, Nat.zero_add, Nat.reduceAdd]; refine AN hN ?_; refine aQ (fun S => S = ⟨mkT [], mkR [], 64⟩ ∧ mP = some r) ?_ ?_
 ·refine AN hN ?_; refine aJ ?_; refine aX (fun n S => ∃ (v2 : Int), S = ⟨mkT [(0, .str a1), (3, .int .i64 v2)], mkR [], 64⟩ ∧ e9 a1 n v2 = some r) FU ?_ ?_ ?_
  ·exact AC ⟨_, rfl, h⟩ [] [] hρ
  ·rintro S ⟨_, _, h⟩; rw [e9] at h; cases h
  ·rintro n1 S ⟨v2, rfl, h⟩; rw [e9] at h; refine aH ?_; refine AN hN ?_; refine AB h (fun hc5 h => ?_) fun hc5 h => ?_
   ·refine aE (AK ?_); refine aH ?_; refine aJ ?_; obtain ⟨x3, h3, h⟩ := aA h; refine AP hN (p7 h3) ?_; refine AB h (fun hc6 h => ?_) fun hc6 h => ?_
    ·refine AN hN ?_; injection h with h; subst h; exact AX (b' := 64) [(2, .int .i64 v2)] [] [] [] hρ (EQ [])
    ·refine aE (AK ?_); refine AS hN fun K hK => ?_; simp only [EV, seval]; exact hK _ _ _ (AC ⟨_, rfl, h⟩ [] [] hρ)
   ·exact aa (AC ⟨rfl, h⟩ [] [] hρ)
 ·rintro S ⟨rfl, h⟩; unfold mP at h; refine AN hN ?_; injection h with h; subst h; exact AX (b' := 64) [(2, .int .i64 0)] [] [] [] hρ (EQ [])
def jC (v1 : Bool) : Option Bool :=
  some v1
def kM (a1 : Int) : Option Bool :=
  bO (br (decide (97 ≤ a1)) (some (decide (a1 ≤ 122))) (some false)) fun x1 => bO (br x1 (some true) (bO (br (decide (48 ≤ a1)) (some (decide (a1 ≤ 57))) (some false)) fun x2 => some x2)) fun x3 => jC x3
theorem sO {a1 : Int} {r : Bool} (h : kM a1 = some r) :
    aU Tryz.prog 126 [.int .u8 a1] [] (.bool r) [] := by
 unfold kM at h; refine SO Tryz.func126 rfl Tryz.ntmps126 fun C hN hρ => ?_; simp only [st0, aW, Nat.zero_add, Nat.reduceAdd]; refine AN hN ?_; refine AJ (fun S => ∃ (v1 : Bool), S = ⟨mkT [(2, .bool v1)], mkR [], 64⟩ ∧ jC v1 = some r) hN ?_ ?_
 ·intro K hK; obtain ⟨x1, hv1, h⟩ := aA h; rcases aR hv1 with ⟨hc1, hv1⟩ | ⟨hc1, hv1⟩
  ·cases hv1; obtain ⟨x5, hv4, h⟩ := aA h; rcases aR hv4 with ⟨hc4, hv4⟩ | ⟨hc4, hv4⟩
   ·cases hv4; simp only [EV, seval, hc1, hc4]; refine hK _ _ _ (show aM _ _ _ from aP ⟨_, rfl, h⟩ (aD [] [] hρ (by kernel_rfl) ?_ ?_)) <;> simp only [AL, EV, seval, hc1, hc4]
   ·obtain ⟨x6, hv6, hv4⟩ := aA hv4; rcases aR hv6 with ⟨hc6, hv6⟩ | ⟨hc6, hv6⟩
    ·cases hv6; cases hv4; simp only [EV, seval, hc1, hc4, hc6]; refine hK _ _ _ (show aM _ _ _ from aP ⟨_, rfl, h⟩ (aD [] [] hρ (by kernel_rfl) ?_ ?_)) <;> simp only [AL, EV, seval, hc1, hc4, hc6]
    ·cases hv6; cases hv4; simp only [EV, seval, hc1, hc4, hc6]; refine hK _ _ _ (show aM _ _ _ from aP ⟨_, rfl, h⟩ (aD [] [] hρ (by kernel_rfl) ?_ ?_)) <;> simp only [AL, EV, seval, hc1, hc4, hc6]
  ·cases hv1; obtain ⟨x7, hv7, h⟩ := aA h; replace hv7 := kU hv7; obtain ⟨x8, hv8, hv7⟩ := aA hv7; rcases aR hv8 with ⟨hc7, hv8⟩ | ⟨hc7, hv8⟩
   ·cases hv8; cases hv7; (try dsimp only at h); simp only [EV, seval, hc1, hc7]; refine hK _ _ _ (show aM _ _ _ from aP ⟨_, rfl, h⟩ (aD [] [] hρ (by kernel_rfl) ?_ ?_)) <;> simp only [AL, EV, seval, hc1, hc7]
   ·cases hv8; cases hv7; (try dsimp only at h); simp only [EV, seval, hc1, hc7]; refine hK _ _ _ (show aM _ _ _ from aP ⟨_, rfl, h⟩ (aD [] [] hρ (by kernel_rfl) ?_ ?_)) <;> simp only [AL, EV, seval, hc1, hc7]
 ·rintro S ⟨v1, rfl, h⟩; unfold jC at h; injection h with h; subst h; exact AX (b' := 64) [(2, .bool v1)] [] [] [] hρ (EQ [])
def gH (a1 : ByteArray) : Option Bool :=
  bO (cH ((a1.size : Int)) 1 8) fun x4 => some x4
def d5 (a1 : ByteArray) : Nat → Int → Option Bool
  | 0, _ => none
  | n1 + 1, v2 =>
  br (decide (v2 < ((a1.size : Int)))) (gd (decide (0 ≤ v2 ∧ v2 < (a1.size : Int))) (bO (kM (sgt a1 v2)) fun x3 => br (!x3) (some false) ((d5 a1 n1) (IntKind.wrap .i64 (v2 + 1))))) (gH a1)
def gk (a1 : ByteArray) : Option Bool :=
  d5 a1 FU 0
theorem qe {a1 : ByteArray} {r : Bool} (h : gk a1 = some r) :
    aU Tryz.prog 98 [.str a1] [] (.bool r) [] := by
 unfold gk at h; refine SO Tryz.func98 rfl Tryz.ntmps98 fun C hN hρ => ?_; simp only [st0, aW, Nat.zero_add, Nat.reduceAdd]; refine AN hN ?_; refine aQ (fun S => S = ⟨mkT [(0, .str a1)], mkR [], 64⟩ ∧ gH a1 = some r) ?_ ?_
 ·refine AN hN ?_; refine aJ ?_; refine aX (fun n S => ∃ (v2 : Int), S = ⟨mkT [(0, .str a1), (3, .int .i64 v2)], mkR [], 64⟩ ∧ d5 a1 n v2 = some r) FU ?_ ?_ ?_
  ·exact AC ⟨_, rfl, h⟩ [] [] hρ
  ·rintro S ⟨_, _, h⟩; rw [d5] at h; cases h
  ·rintro n1 S ⟨v2, rfl, h⟩; rw [d5] at h; refine aH ?_; refine AN hN ?_; refine AB h (fun hc5 h => ?_) fun hc5 h => ?_
   ·refine aE (AK ?_); refine aH ?_; refine aJ ?_; refine AR hN fun K hK => ?_; obtain ⟨h5, h⟩ := gdI h; obtain ⟨x3, h6, h⟩ := aA h; simp only [EV, seval, h5]; refine aj (sO h6) (by simp only [AL, EV, seval, h5]) (aN rfl) (ab rfl) ?_; simp only [EV, seval, h5]; apply hK; clear hK K; refine ah (a := .bool (!x3)) (by simp only [EV, seval, h5]) (brK h (fun hc6 h => ?_) (fun hc6 h => ?_))
    ·refine AN hN ?_; injection h with h; subst h; exact AX (b' := 64) [(2, .bool false)] [] [] [] hρ (EQ [])
    ·refine aE (AK ?_); refine AS hN fun K hK => ?_; simp only [EV, seval]; exact hK _ _ _ (AC ⟨_, rfl, h⟩ [] [] hρ)
   ·exact aa (AC ⟨rfl, h⟩ [] [] hρ)
 ·rintro S ⟨rfl, h⟩; unfold gH at h; obtain ⟨x4, h7, h⟩ := aA h; refine AP hN (av h7) ?_; injection h with h; subst h; exact AX (b' := 64) [(2, .bool x4)] [] [] [] hρ (EQ [])
def mR : Option Bool :=
  some true
def eA (a1 : List ByteArray) : Nat → Int → Option Bool
  | 0, _ => none
  | n1 + 1, v2 =>
  br (decide (v2 < ((a1.length : Int)))) (bO (ak a1 v2) fun q3 => bO (gk q3) fun x3 => br (!x3) (some false) ((eA a1 n1) (IntKind.wrap .i64 (v2 + 1)))) (mR)
def jd (a1 : List ByteArray) : Option Bool :=
  eA a1 FU 0
theorem p9 {a1 : List ByteArray} {r : Bool} (h : jd a1 = some r) :
    aU Tryz.prog 82 [.sl (aB ES a1) a1.length] [] (.bool r) [] := by
 unfold jd at h; refine SO Tryz.func82 rfl Tryz.ntmps82 fun C hN hρ => ?_; simp only [st0, aW, Nat.zero_add, Nat.reduceAdd]; refine AN hN ?_; refine aQ (fun S => S = ⟨mkT [], mkR [], 64⟩ ∧ mR = some r) ?_ ?_
 ·refine AN hN ?_; refine aJ ?_; refine aX (fun n S => ∃ (v2 : Int), S = ⟨mkT [(0, .sl (aB ES a1) a1.length), (3, .int .i64 v2)], mkR [], 64⟩ ∧ eA a1 n v2 = some r) FU ?_ ?_ ?_
  ·exact AC ⟨_, rfl, h⟩ [] [] hρ
  ·rintro S ⟨_, _, h⟩; rw [eA] at h; cases h
  ·rintro n1 S ⟨v2, rfl, h⟩; rw [eA] at h; refine aH ?_; refine AN hN ?_; refine AB h (fun hc5 h => ?_) fun hc5 h => ?_
   ·refine aE (AK ?_); refine aH ?_; refine aJ ?_; refine AR hN fun K hK => ?_; obtain ⟨q3, h7, h⟩ := aA h; obtain ⟨⟨h8a, h8b⟩, h8c⟩ := aY ESl h7; (try simp only [EV, seval] at h8c); obtain ⟨x3, h9, h⟩ := aA h; simp only [EV, seval, h8a, h8b, h8c]; refine aj (qe h9) (by simp only [AL, EV, seval, h8a, h8b, h8c]) (aN rfl) (ab rfl) ?_; simp only [EV, seval, h8a, h8b, h8c]; apply hK; clear hK K; refine ah (a := .bool (!x3)) (by simp only [EV, seval, h8a, h8b, h8c]) (brK h (fun hc6 h => ?_) (fun hc6 h => ?_))
    ·refine AN hN ?_; injection h with h; subst h; exact AX (b' := 64) [(2, .bool false)] [] [] [] hρ (EQ [])
    ·refine aE (AK ?_); refine AS hN fun K hK => ?_; simp only [EV, seval]; exact hK _ _ _ (AC ⟨_, rfl, h⟩ [] [] hρ)
   ·exact aa (AC ⟨rfl, h⟩ [] [] hρ)
 ·rintro S ⟨rfl, h⟩; unfold mR at h; refine AN hN ?_; injection h with h; subst h; exact AX (b' := 64) [(2, .bool true)] [] [] [] hρ (EQ [])
def f9 (v2 : Bool) : Option (Int × Bool) :=
  br v2 (some (1, true)) (some (2, false))
def gI (a1 : Int) (v1 : Bool) : Option (Int × Bool) :=
  br v1 (some (0, true)) (br (a1 == 4) (f9 (a1 == 4)) (br (a1 == 5) (f9 (a1 == 5)) (f9 (a1 == 7))))
def je (a1 : Int) (a2 : ByteArray) (a3 : List ByteArray) (a4 : Int) (a5 : List D) : Option (Int × Bool) :=
  br (a1 == 1) (bO (i7 a2) fun x1 => bO (jj x1) fun x2 => some (x2, false)) (br (a1 == 2) (gI a1 (a1 == 2)) (gI a1 (a1 == 3)))
theorem nX {a1 : Int} {a2 : ByteArray} {a3 : List ByteArray} {a4 : Int} {a5 : List D} {r : Int × Bool} (h : je a1 a2 a3 a4 a5 = some r) :
    aU Tryz.prog 100 [.agg [.int .i64 a1, .str a2, .sl (aB ES a3) a3.length, .int .i64 a4, .sl (aB eD a5) a5.length]] [] (.tup [.int .i64 r.1, .bool r.2]) [] := by
 unfold je at h; refine SO Tryz.func100 rfl Tryz.ntmps100 fun C hN hρ => ?_; simp only [st0, aW, Nat.zero_add, Nat.reduceAdd]; refine AN hN ?_; refine aH ?_; refine AN hN ?_; refine aJ ?_; refine AN hN ?_; refine AB h (fun hc1 h => ?_) fun hc1 h => ?_
 ·refine AR hN fun K hK => ?_; obtain ⟨x1, h1, h⟩ := aA h; simp only [EV, seval]; refine CP (mQ h1) ?_; obtain ⟨x2, h2, h⟩ := aA h; simp only [EV, seval]; refine CP (jW h2) ?_; simp only [EV, seval]; apply hK; clear hK K; injection h with h; subst h; exact AX (b' := 64) [(2, .int .i64 x2), (3, .bool false)] [] [] [] hρ (EQ [])
 ·refine aQ (fun S => ∃ (v1 : Bool), S = ⟨mkT [(5, .int .i64 a1), (12, .bool v1)], mkR [], 64⟩ ∧ gI a1 v1 = some r) ?_ ?_
  ·refine AN hN ?_; refine AB h (fun hc2 h => ?_) fun hc2 h => ?_
   ·refine aE (show aM _ _ _ from aP ⟨_, rfl, h⟩ (aD [] [] hρ (by kernel_rfl) ?_ ?_)) <;> simp only [AL, EV, seval]
   ·refine AS hN fun K hK => ?_; simp only [EV, seval]; exact hK _ _ _ (AC ⟨_, rfl, h⟩ [] [] hρ)
  ·rintro S ⟨v1, rfl, h⟩; unfold gI at h; refine AB h (fun hc3 h => ?_) fun hc3 h => ?_
   ·refine AN hN ?_; injection h with h; subst h; exact AX (b' := 64) [(2, .int .i64 0), (3, .bool true)] [] [] [] hρ (EQ [])
   ·refine aQ (fun S => ∃ (v2 : Bool), S = ⟨mkT [(15, .bool v2)], mkR [], 64⟩ ∧ f9 v2 = some r) ?_ ?_
    ·refine AN hN ?_; refine AB h (fun hc4 h => ?_) fun hc4 h => ?_
     ·refine aE (show aM _ _ _ from aP ⟨_, rfl, h⟩ (aD [] [] hρ (by kernel_rfl) ?_ ?_)) <;> simp only [AL, EV, seval]
     ·refine AN hN ?_; refine AB h (fun hc5 h => ?_) fun hc5 h => ?_
      ·refine aE (show aM _ _ _ from aP ⟨_, rfl, h⟩ (aD [] [] hρ (by kernel_rfl) ?_ ?_)) <;> simp only [AL, EV, seval]
      ·refine AS hN fun K hK => ?_; simp only [EV, seval]; exact hK _ _ _ (AC ⟨_, rfl, h⟩ [] [] hρ)
    ·rintro S ⟨v2, rfl, h⟩; unfold f9 at h; refine AB h (fun hc6 h => ?_) fun hc6 h => ?_
     ·refine AN hN ?_; injection h with h; subst h; exact AX (b' := 64) [(2, .int .i64 1), (3, .bool true)] [] [] [] hρ (EQ [])
     ·refine aE (AK ?_); refine AN hN ?_; injection h with h; subst h; exact AX (b' := 64) [(2, .int .i64 2), (3, .bool false)] [] [] [] hρ (EQ [])
def pd : Option Bool :=
  some false
def i8 (a1 : List ByteArray) (a2 : ByteArray) : Nat → Int → Option Bool
  | 0, _ => none
  | n1 + 1, v2 =>
  br (decide (v2 < ((a1.length : Int)))) (bO (ak a1 v2) fun q3 => br (uW q3 a2) (some true) ((i8 a1 a2 n1) (IntKind.wrap .i64 (v2 + 1)))) (pd)
def fA (a1 : List ByteArray) (a2 : ByteArray) : Option Bool :=
  i8 a1 a2 FU 0
theorem dY {a1 : List ByteArray} {a2 : ByteArray} {r : Bool} (h : fA a1 a2 = some r) :
    aU Tryz.prog 79 [.sl (aB ES a1) a1.length, .str a2] [] (.bool r) [] := by
 unfold fA at h; refine SO Tryz.func79 rfl Tryz.ntmps79 fun C hN hρ => ?_; simp only [st0, aW, Nat.zero_add, Nat.reduceAdd]; refine AN hN ?_; refine aQ (fun S => S = ⟨mkT [], mkR [], 64⟩ ∧ pd = some r) ?_ ?_
 ·refine AN hN ?_; refine aJ ?_; refine aX (fun n S => ∃ (v2 : Int), S = ⟨mkT [(0, .sl (aB ES a1) a1.length), (1, .str a2), (5, .int .i64 v2)], mkR [], 64⟩ ∧ i8 a1 a2 n v2 = some r) FU ?_ ?_ ?_
  ·exact AC ⟨_, rfl, h⟩ [] [] hρ
  ·rintro S ⟨_, _, h⟩; rw [i8] at h; cases h
  ·rintro n1 S ⟨v2, rfl, h⟩; rw [i8] at h; refine aH ?_; refine AN hN ?_; refine AB h (fun hc5 h => ?_) fun hc5 h => ?_
   ·refine aE (AK ?_); refine aH ?_; refine aJ ?_; refine AR hN fun K hK => ?_; obtain ⟨q3, h5, h⟩ := aA h; obtain ⟨⟨h6a, h6b⟩, h6c⟩ := aY ESl h5; (try simp only [EV, seval] at h6c); simp only [EV, seval, h6a, h6b, h6c]; apply hK; clear hK K; refine ah (a := .bool (uW q3 a2)) (by simp only [EV, seval, h6a, h6b, h6c]) (brK h (fun hc6 h => ?_) (fun hc6 h => ?_))
    ·refine AN hN ?_; injection h with h; subst h; exact AX (b' := 64) [(4, .bool true)] [] [] [] hρ (EQ [])
    ·refine aE (AK ?_); refine AS hN fun K hK => ?_; simp only [EV, seval]; exact hK _ _ _ (AC ⟨_, rfl, h⟩ [] [] hρ)
   ·exact aa (AC ⟨rfl, h⟩ [] [] hρ)
 ·rintro S ⟨rfl, h⟩; unfold pd at h; refine AN hN ?_; injection h with h; subst h; exact AX (b' := 64) [(4, .bool false)] [] [] [] hρ (EQ [])
def kN (a1 : List Int) (a2 a3 : Int) (a4 : List ByteArray) : Option (ByteArray × List Int × Int × Int) :=
  bO (b9 a1 a2 a3 ((a4.length : Int))) fun x1 => bO (ak a4 x1.1) fun q1 => some (q1, x1.2.1, x1.2.2.1, x1.2.2.2)
theorem mG {a1 : List Int} {a2 a3 : Int} {a4 : List ByteArray} {r : ByteArray × List Int × Int × Int} (h : kN a1 a2 a3 a4 = some r) :
    aU Tryz.prog 78 [.ptr 0 0, .sl (aB ES a4) a4.length] [.box 68 [.sl (aB EB a1) a1.length, .int .i64 a2, .int .i64 a3]] (.str r.1) [.box 68 [.sl (aB EB r.2.1) r.2.1.length, .int .i64 r.2.2.1, .int .i64 r.2.2.2]] := by
 unfold kN at h; refine SO Tryz.func78 rfl Tryz.ntmps78 fun C hN hρ => ?_; simp only [st0, aW, Nat.zero_add, Nat.reduceAdd]; refine AN hN ?_; refine AR hN fun K hK => ?_; obtain ⟨x1, h1, h⟩ := aA h; simp only [EV, seval]; refine cJ [0] (aq h1) (by simp only [AL, EV, seval]) (by simp only [AL, EV, seval]) (by kernel_rfl) (by simp only [EV, aZ, SD, seval]) (aN rfl) (aN rfl) (ab rfl) ?_; obtain ⟨q1, h2, h⟩ := aA h; obtain ⟨⟨h3a, h3b⟩, h3c⟩ := aY ESl h2; (try simp only [EV, seval] at h3c); simp only [EV, seval, h3a, h3b, h3c]; apply hK; clear hK K; injection h with h; subst h; refine ba (aD (lt := [(4, .str q1)]) (lr := [(0, .box 68 [.sl (aB EB x1.2.1) x1.2.1.length, .int .i64 x1.2.2.1, .int .i64 x1.2.2.2])]) (b' := 64) [(0, some 0)] [] hρ (by kernel_rfl) ?_ ?_) (bW (cX [0] (.inr rfl) (by kernel_rfl) (by kernel_rfl) ?_))
 ·simp only [AL, EV, seval, h3a, h3b, h3c]
 ·simp only [AL, EV, seval, h3a, h3b, h3c]
 ·simp only [EV, Tryz.results78, seval]
def cr (v6 : Int) (kl1 : Int → Int → Option Int) (v7 : Int) : Option Int :=
  kl1 v7 (IntKind.wrap .i64 (v6 + 1))
def fT (v8 : Int) : Option Int :=
  some v8
def bC (a4 : LO) : Nat → Int → Int → Option Int
  | 0, _, _ => none
  | n1 + 1, v5, v6 =>
  br (decide (v6 < ((a4.length : Int)))) (bO (ak a4 v6) fun q3 => br (q3.1 == 1) (cr v6 (bC a4 n1) (IntKind.wrap .i64 (v5 + 1))) (cr v6 (bC a4 n1) v5)) (fT v5)
def d6 (a1 a2 a3 : Int) (a4 : LO) : Option Int :=
  bC a4 FU 0 0
theorem jS {a1 a2 a3 : Int} {a4 : LO} {r : Int} (h : d6 a1 a2 a3 a4 = some r) :
    aU Tryz.prog 29 [.agg [.int .i64 a1, .int .i64 a2, .int .i64 a3, .sl (aB aK a4) a4.length]] [] (.int .i64 r) [] := by
 unfold d6 at h; refine SO Tryz.func29 rfl Tryz.ntmps29 fun C hN hρ => ?_; simp only [st0, aW, Nat.zero_add, Nat.reduceAdd]; refine AN hN ?_; refine AN hN ?_; refine aQ (fun S => ∃ (v8 : Int), S = ⟨mkT [(3, .int .i64 v8)], mkR [], 64⟩ ∧ fT v8 = some r) ?_ ?_
 ·refine AN hN ?_; refine aJ ?_; refine aX (fun n S => ∃ (v5 v6 : Int), S = ⟨mkT [(1, .ptr 32 0), (3, .int .i64 v5), (4, .int .i64 v6)], mkR [(32, .box 26 [.int .i64 a1, .int .i64 a2, .int .i64 a3, .sl (aB aK a4) a4.length])], 64⟩ ∧ bC a4 n v5 v6 = some r) FU ?_ ?_ ?_
  ·exact AC ⟨_, _, rfl, h⟩ [(32, some 64)] [] hρ
  ·rintro S ⟨_, _, _, h⟩; rw [bC] at h; cases h
  ·rintro n1 S ⟨v5, v6, rfl, h⟩; rw [bC] at h; refine aH ?_; refine AN hN ?_; refine AB h (fun hc5 h => ?_) fun hc5 h => ?_
   ·refine aE (AK ?_); refine aQ (fun S => ∃ (v7 : Int), S = ⟨mkT [(1, .ptr 32 0), (3, .int .i64 v7), (4, .int .i64 v6)], mkR [(32, .box 26 [.int .i64 a1, .int .i64 a2, .int .i64 a3, .sl (aB aK a4) a4.length])], 64⟩ ∧ cr v6 (bC a4 n1) v7 = some r) ?_ ?_
    ·refine aJ ?_; refine AR hN fun K hK => ?_; obtain ⟨q3, h5, h⟩ := aA h; obtain ⟨⟨h6a, h6b⟩, h6c⟩ := aY eg h5; (try simp only [EV, seval] at h6c); simp only [EV, seval, h6a, h6b, h6c]; apply hK; clear hK K; refine ah (a := .bool (q3.1 == 1)) (by simp only [EV, seval, h6a, h6b, h6c]) (brK h (fun hc6 h => ?_) (fun hc6 h => ?_))
     ·refine AS hN fun K hK => ?_; simp only [EV, seval]; exact hK _ _ _ (AC ⟨_, rfl, h⟩ [(32, some 32)] [] hρ)
     ·refine aE (show aM _ _ _ from aP ⟨_, rfl, h⟩ (aD [(32, some 32)] [] hρ (by kernel_rfl) ?_ ?_)) <;> simp only [AL, EV, seval, h6a, h6b, h6c]
    ·rintro S ⟨v7, rfl, h⟩; unfold cr at h; refine AS hN fun K hK => ?_; simp only [EV, seval]; exact hK _ _ _ (AC ⟨_, _, rfl, h⟩ [(32, some 32)] [] hρ)
   ·exact aa (AC ⟨_, rfl, h⟩ [] [] hρ)
 ·rintro S ⟨v8, rfl, h⟩; unfold fT at h; refine AN hN ?_; injection h with h; subst h; exact AX (b' := 64) [(2, .int .i64 v8)] [] [] [] hρ (EQ [])
end
section
variable {D : Type} {eD : D → List AV}
def lG (x3 : List Int × List Int × Int × Int) (x4 : ByteArray) (v5 : List ByteArray) : Option (Int × ByteArray × Int × List ByteArray × List Int × Int × Int) :=
  some (1, x4, 0, v5, x3.2.1, x3.2.2.1, x3.2.2.2)
def fB (a4 : List ByteArray) (x2 : Int × Int × Int × Int × List Int × Int × Int) (x3 : List Int × List Int × Int × Int) (x4 : ByteArray) : Nat → Int → (List ByteArray) → Option (Int × ByteArray × Int × List ByteArray × List Int × Int × Int)
  | 0, _, _ => none
  | n1 + 1, v3, v4 =>
  bO (jj x2.1) fun x7 => br (decide (v3 < x7)) (bO (ak x3.1 v3) fun q5 => bO (ak a4 q5) fun q6 => gd (decide (v4.length + ([q6]).length ≤ 16777216)) ((fB a4 x2 x3 x4 n1) (IntKind.wrap .i64 (v3 + 1)) (v4 ++ ([q6])))) (lG x3 x4 v4)
def iO (a1 : List Int) (a2 a3 : Int) (a4 : List ByteArray) : Option (Int × ByteArray × Int × List ByteArray × List Int × Int × Int) :=
  bO (rL 3 ((a4.length : Int))) fun x1 => bO (mf a1 a2 a3 x1) fun x2 => bO (me x2.2.2.2.2.1 x2.2.2.2.2.2.1 x2.2.2.2.2.2.2 ((a4.length : Int))) fun x3 => bO (i6 x2.1) fun x4 => fB a4 x2 x3 x4 FU 0 ([] : List ByteArray)
theorem lH {a1 : List Int} {a2 a3 : Int} {a4 : List ByteArray} {r : Int × ByteArray × Int × List ByteArray × List Int × Int × Int} (h : iO a1 a2 a3 a4 = some r) :
    aU Tryz.prog 48 [.ptr 0 0, .sl (aB ES a4) a4.length] [.box 68 [.sl (aB EB a1) a1.length, .int .i64 a2, .int .i64 a3]] (.agg [.int .i64 r.1, .str r.2.1, .own 1 r.2.2.2.1.length, .int .i64 r.2.2.1, .nil]) [.box 68 [.sl (aB EB r.2.2.2.2.1) r.2.2.2.2.1.length, .int .i64 r.2.2.2.2.2.1, .int .i64 r.2.2.2.2.2.2], .row 9 1 (aB ES r.2.2.2.1)] := by
 unfold iO at h; refine SO Tryz.func48 rfl Tryz.ntmps48 fun C hN hρ => ?_; simp only [st0, aW, Nat.zero_add, Nat.reduceAdd]; refine AN hN ?_; refine AR hN fun K hK => ?_; obtain ⟨x1, h1, h⟩ := aA h; simp only [EV, seval]; refine CP (wK h1) ?_; obtain ⟨x2, h2, h⟩ := aA h; simp only [EV, seval]; refine cJ [0] (qo h2) (by simp only [AL, EV, seval]) (by simp only [AL, EV, seval]) (by kernel_rfl) (by simp only [EV, aZ, SD, seval]) (aN rfl) (aN rfl) (ab rfl) ?_; simp only [EV, seval]; apply hK; clear hK K; refine AR hN fun K hK => ?_; obtain ⟨x3, h3, h⟩ := aA h; simp only [EV, seval]; refine cJ [0] (qn h3) (by simp only [AL, EV, seval]) (by simp only [AL, EV, seval]) (by kernel_rfl) (by simp only [EV, aZ, SD, seval]) (aN rfl) (aN rfl) (ao (by simp only [EV, seval])) ?_; simp only [EV, seval]; apply hK; clear hK K; obtain ⟨x4, h4, h⟩ := aA h; refine AP hN (p7 h4) ?_; refine aQ (fun S => ∃ (v5 : List ByteArray), S = ⟨mkT [(4, .ptr 32 0), (7, .ptr 33 0)], mkR [(0, .box 68 [.sl (aB EB x3.2.1) x3.2.1.length, .int .i64 x3.2.2.1, .int .i64 x3.2.2.2]), (32, .box 86 [.int .i64 0, .str (ByteArray.mk #[]), .nil, .int .i64 0, .nil]), (33, .box 86 [.int .i64 1, .str x4, .own 34 v5.length, .int .i64 0, .nil]), (34, .row 9 1 (aB ES v5))], 64⟩ ∧ lG x3 x4 v5 = some r) ?_ ?_
 ·refine AN hN ?_; refine aJ ?_; refine aX (fun n S => ∃ (v3 : Int) (v4 : List ByteArray), S = ⟨mkT [(1, .sl (aB ES a4) a4.length), (4, .ptr 32 0), (5, .ptr 33 0), (6, .own 34 x3.1.length), (7, .ptr 35 0), (8, .int .i64 v3)], mkR [(0, .box 68 [.sl (aB EB x3.2.1) x3.2.1.length, .int .i64 x3.2.2.1, .int .i64 x3.2.2.2]), (32, .box 86 [.int .i64 0, .str (ByteArray.mk #[]), .nil, .int .i64 0, .nil]), (33, .box 73 [.int .i64 x2.1, .int .i64 x2.2.1, .int .i64 x2.2.2.1, .int .i64 x2.2.2.2.1]), (34, .row 3 1 (aB EI x3.1)), (35, .box 86 [.int .i64 1, .str x4, .own 36 v4.length, .int .i64 0, .nil]), (36, .row 9 1 (aB ES v4))], 64⟩ ∧ fB a4 x2 x3 x4 n v3 v4 = some r) FU ?_ ?_ ?_
  ·exact AC ⟨_, _, rfl, h⟩ [(0, some 0), (32, some 64), (33, some 1168), (34, some 2160), (35, some 3200), (36, none)] [] hρ
  ·rintro S ⟨_, _, _, h⟩; rw [fB] at h; cases h
  ·rintro n1 S ⟨v3, v4, rfl, h⟩; rw [fB] at h; refine aH ?_; obtain ⟨x7, h17, h⟩ := aA h; refine AP hN (jW h17) ?_; refine AB h (fun hc3 h => ?_) fun hc3 h => ?_
   ·refine aE (AK ?_); refine aH ?_; refine aJ ?_; refine AS hN fun K hK => ?_; obtain ⟨q5, h18, h⟩ := aA h; obtain ⟨⟨h19a, h19b⟩, h19c⟩ := aY EIl h18; (try simp only [EV, seval] at h19c); obtain ⟨q6, h20, h⟩ := aA h; obtain ⟨⟨h21a, h21b⟩, h21c⟩ := aY ESl h20; (try simp only [EV, seval] at h21c); obtain ⟨h22, h⟩ := gdI h; (try simp only [EV, seval] at h22); simp only [EV, seval, h19a, h19b, h19c, h21a, h21b, h21c, h22]; refine hK _ _ _ (show AW _ _ _ _ _ from ?_); refine AS hN fun K hK => ?_; simp only [EV, seval]; exact hK _ _ _ (AC ⟨_, _, rfl, h⟩ [(0, some 0), (32, some 32), (33, some 33), (34, some 34), (35, some 35), (36, some 1248)] [] hρ)
   ·exact aa (AC ⟨_, rfl, h⟩ [(0, some 0), (32, some 32), (33, some 35), (34, some 36)] [] hρ)
 ·rintro S ⟨v5, rfl, h⟩; unfold lG at h; refine AN hN ?_; injection h with h; subst h; exact AX (b' := 64) [(4, .ptr 32 0)] [(0, .box 68 [.sl (aB EB x3.2.1) x3.2.1.length, .int .i64 x3.2.2.1, .int .i64 x3.2.2.2]), (32, .box 86 [.int .i64 1, .str x4, .own 33 v5.length, .int .i64 0, .nil]), (33, .row 9 1 (aB ES v5))] [(0, some 0), (32, some 32), (33, some 34)] [] hρ (EQ [0, 33])
def jD (v6 : Int) (kl1 : Int → (List ByteArray) → Option (List ByteArray)) (v8 : List ByteArray) : Option (List ByteArray) :=
  kl1 (IntKind.wrap .i64 (v6 + 1)) v8
def lI (v9 : List ByteArray) : Option (List ByteArray) :=
  some v9
def dO (a1 : List ByteArray) (a2 : List ByteArray) : Nat → Int → (List ByteArray) → Option (List ByteArray)
  | 0, _, _ => none
  | n1 + 1, v6, v7 =>
  br (decide (v6 < ((a1.length : Int)))) (bO (ak a1 v6) fun q3 => bO (fA a2 q3) fun x3 => br (!x3) (gd (decide (v7.length + ([q3]).length ≤ 16777216)) (jD v6 (dO a1 a2 n1) (v7 ++ ([q3])))) (jD v6 (dO a1 a2 n1) v7)) (lI v7)
def mw (a1 : List ByteArray) (a2 : List ByteArray) : Option (List ByteArray) :=
  dO a1 a2 FU 0 ([] : List ByteArray)
theorem uI {a1 : List ByteArray} {a2 : List ByteArray} {r : List ByteArray} (h : mw a1 a2 = some r) :
    aU Tryz.prog 77 [.sl (aB ES a1) a1.length, .sl (aB ES a2) a2.length] [] (.own 0 r.length) [.row 9 1 (aB ES r)] := by
 unfold mw at h; refine SO Tryz.func77 rfl Tryz.ntmps77 fun C hN hρ => ?_; simp only [st0, aW, Nat.zero_add, Nat.reduceAdd]; refine AN hN ?_; refine AN hN ?_; refine aQ (fun S => ∃ (v9 : List ByteArray), S = ⟨mkT [(5, .own 32 v9.length)], mkR [(32, .row 9 1 (aB ES v9))], 64⟩ ∧ lI v9 = some r) ?_ ?_
 ·refine AN hN ?_; refine aJ ?_; refine aX (fun n S => ∃ (v6 : Int) (v7 : List ByteArray), S = ⟨mkT [(0, .sl (aB ES a1) a1.length), (1, .sl (aB ES a2) a2.length), (5, .own 32 v7.length), (6, .int .i64 v6)], mkR [(32, .row 9 1 (aB ES v7))], 64⟩ ∧ dO a1 a2 n v6 v7 = some r) FU ?_ ?_ ?_
  ·exact AC ⟨_, _, rfl, h⟩ [(32, some 1088)] [] hρ
  ·rintro S ⟨_, _, _, h⟩; rw [dO] at h; cases h
  ·rintro n1 S ⟨v6, v7, rfl, h⟩; rw [dO] at h; refine aH ?_; refine AN hN ?_; refine AB h (fun hc5 h => ?_) fun hc5 h => ?_
   ·refine aE (AK ?_); refine aQ (fun S => ∃ (v8 : List ByteArray), S = ⟨mkT [(0, .sl (aB ES a1) a1.length), (1, .sl (aB ES a2) a2.length), (5, .own 32 v8.length), (6, .int .i64 v6)], mkR [(32, .row 9 1 (aB ES v8))], 64⟩ ∧ jD v6 (dO a1 a2 n1) v8 = some r) ?_ ?_
    ·refine aJ ?_; refine AR hN fun K hK => ?_; obtain ⟨q3, h9, h⟩ := aA h; obtain ⟨⟨h10a, h10b⟩, h10c⟩ := aY ESl h9; (try simp only [EV, seval] at h10c); obtain ⟨x3, h11, h⟩ := aA h; simp only [EV, seval, h10a, h10b, h10c]; refine aj (dY h11) (by simp only [AL, EV, seval, h10a, h10b, h10c]) (aN rfl) (ab rfl) ?_; simp only [EV, seval, h10a, h10b, h10c]; apply hK; clear hK K; refine ah (a := .bool (!x3)) (by simp only [EV, seval, h10a, h10b, h10c]) (brK h (fun hc6 h => ?_) (fun hc6 h => ?_))
     ·refine AS hN fun K hK => ?_; obtain ⟨h12, h⟩ := gdI h; (try simp only [EV, seval] at h12); simp only [EV, seval, h10a, h10b, h10c, h12]; refine hK _ _ _ (show aM _ _ _ from aP ⟨_, rfl, h⟩ (aD [(32, some 2208)] [] hρ (by kernel_rfl) ?_ ?_)) <;> simp only [AL, EV, seval, h10a, h10b, h10c, h12]
     ·refine aE (show aM _ _ _ from aP ⟨_, rfl, h⟩ (aD [(32, some 32)] [] hρ (by kernel_rfl) ?_ ?_)) <;> simp only [AL, EV, seval, h10a, h10b, h10c]
    ·rintro S ⟨v8, rfl, h⟩; unfold jD at h; refine AS hN fun K hK => ?_; simp only [EV, seval]; exact hK _ _ _ (AC ⟨_, _, rfl, h⟩ [(32, some 32)] [] hρ)
   ·exact aa (AC ⟨_, rfl, h⟩ [(32, some 32)] [] hρ)
 ·rintro S ⟨v9, rfl, h⟩; unfold lI at h; refine AN hN ?_; injection h with h; subst h; exact AX (b' := 64) [(4, .own 32 v9.length)] [(32, .row 9 1 (aB ES v9))] [(32, some 32)] [] hρ (EQ [32])
def lv (a1 : List Int) (a2 a3 : Int) (a4 : List ByteArray) (a5 : ByteArray) : Option (List (StT D) × List Int × Int × Int) :=
  bO (b9 a1 a2 a3 ((a4.length : Int))) fun x1 => bO (ak a4 x1.1) fun q1 => bO (kN x1.2.1 x1.2.2.1 x1.2.2.2 ([ByteArray.mk #[122], ByteArray.mk #[115], ByteArray.mk #[116], ByteArray.mk #[116, 100]])) fun x2 => some (([(1, ByteArray.mk #[99, 120], [q1, a5], 0, []), (1, x2.1, [a5], 0, []), (1, ByteArray.mk #[99, 120], [q1, a5], 0, [])] : List (StT D)), x2.2.1, x2.2.2.1, x2.2.2.2)
theorem sd {a1 : List Int} {a2 a3 : Int} {a4 : List ByteArray} {a5 : ByteArray} {r : List (StT D) × List Int × Int × Int} (h : lv a1 a2 a3 a4 a5 = some r) :
    aU Tryz.prog 80 [.ptr 0 0, .sl (aB ES a4) a4.length, .str a5] [.box 68 [.sl (aB EB a1) a1.length, .int .i64 a2, .int .i64 a3]] (.own 1 r.1.length) [.box 68 [.sl (aB EB r.2.1) r.2.1.length, .int .i64 r.2.2.1, .int .i64 r.2.2.2], .row 86 5 (aB (EZ eD) r.1)] := by
 unfold lv at h; refine SO Tryz.func80 rfl Tryz.ntmps80 fun C hN hρ => ?_; simp only [st0, aW, Nat.zero_add, Nat.reduceAdd]; refine AN hN ?_; refine AR hN fun K hK => ?_; obtain ⟨x1, h1, h⟩ := aA h; simp only [EV, seval]; refine cJ [0] (aq h1) (by simp only [AL, EV, seval]) (by simp only [AL, EV, seval]) (by kernel_rfl) (by simp only [EV, aZ, SD, seval]) (aN rfl) (aN rfl) (ab rfl) ?_; obtain ⟨q1, h2, h⟩ := aA h; obtain ⟨⟨h3a, h3b⟩, h3c⟩ := aY ESl h2; (try simp only [EV, seval] at h3c); simp only [EV, seval, h3a, h3b, h3c]; apply hK; clear hK K; refine AN hN ?_; refine AR hN fun K hK => ?_; obtain ⟨x2, h4, h⟩ := aA h; simp only [EV, seval]; refine cJ [0] (mG h4) (by simp only [AL, EV, seval]) (by simp only [AL, EV, seval]) (by kernel_rfl) (by simp only [EV, aZ, SD, seval]) (aN rfl) (aN rfl) (ab rfl) ?_; simp only [EV, seval]; apply hK; clear hK K; refine AN hN ?_; injection h with h; subst h; exact AX (b' := 64) [(6, .own 32 (([(1, ByteArray.mk #[99, 120], [q1, a5], 0, []), (1, x2.1, [a5], 0, []), (1, ByteArray.mk #[99, 120], [q1, a5], 0, [])] : List (StT D))).length)] [(0, .box 68 [.sl (aB EB x2.2.1) x2.2.1.length, .int .i64 x2.2.2.1, .int .i64 x2.2.2.2]), (32, .row 86 5 (aB (EZ eD) (([(1, ByteArray.mk #[99, 120], [q1, a5], 0, []), (1, x2.1, [a5], 0, []), (1, ByteArray.mk #[99, 120], [q1, a5], 0, [])] : List (StT D)))))] [(0, some 0), (32, some 4208)] [] hρ (EQ [0, 32])
end
section
variable {D : Type} {eD : D → List AV}
def gJ (zV : (List D) → Option Bool) (a5 : List D) (v3 : Bool) : Option Bool :=
  br v3 (some false) (bO (zV a5) fun x32 => some x32)
def gL (zV : (List D) → Option Bool) (a1 a4 : Int) (a5 : List D) (v2 : Bool) : Option Bool :=
  br v2 (some false) (bO (br (a1 == 2) (bO (cH a4 1 9) fun x22 => some (!x22)) (some false)) fun x23 => bO (br x23 (some true) (bO (br (a1 != 2) (some (a4 != 0)) (some false)) fun x24 => some x24)) fun x25 => gJ zV a5 x25)
def gM (zV : (List D) → Option Bool) (a1 : Int) (a2 : ByteArray) (a4 : Int) (a5 : List D) (x1 : Int × Bool) (v1 : Bool) : Option Bool :=
  br v1 (some false) (bO (br ((a1 == 1) != (!uW a2 (ByteArray.mk #[]))) (some true) (bO (br (a1 == 1) (some (x1.1 == 0)) (some false)) fun x19 => some x19)) fun x20 => gL zV a1 a4 a5 x20)
def gl (zV : (List D) → Option Bool) (a1 : Int) (a2 : ByteArray) (a3 : List ByteArray) (a4 : Int) (a5 : List D) : Option Bool :=
  bO (je (D := D) a1 a2 a3 a4 a5) fun x1 => bO (cH a1 1 7) fun x2 => bO (br (!x2) (some true) (some (((a3.length : Int)) != x1.1))) fun x3 => bO (br x3 (some true) (bO (jd a3) fun x4 => some (!x4))) fun x5 => bO (br x5 (some true) (bO (br (!x1.2) (some (decide (0 < ((a5.length : Int))))) (some false)) fun x6 => some x6)) fun x7 => gM zV a1 a2 a4 a5 x1 x7
theorem qf {zV : (List D) → Option Bool} (yV : ∀ {a1 : List D} {r : Bool}, zV a1 = some r → aU Tryz.prog 83 [.sl (aB eD a1) a1.length] [] (.bool r) []) {a1 : Int} {a2 : ByteArray} {a3 : List ByteArray} {a4 : Int} {a5 : List D} {r : Bool} (h : gl zV a1 a2 a3 a4 a5 = some r) :
    aU Tryz.prog 99 [.agg [.int .i64 a1, .str a2, .sl (aB ES a3) a3.length, .int .i64 a4, .sl (aB eD a5) a5.length]] [] (.bool r) [] := by
 unfold gl at h; refine SO Tryz.func99 rfl Tryz.ntmps99 fun C hN hρ => ?_; simp only [st0, aW, Nat.zero_add, Nat.reduceAdd]; refine AN hN ?_; refine AR hN fun K hK => ?_; obtain ⟨x1, h1, h⟩ := aA h; simp only [EV, seval]; refine aj (nX (eD := eD) h1) (by simp only [AL, EV, seval]) (aN rfl) (ab rfl) ?_; simp only [EV, seval]; apply hK; clear hK K; refine aH ?_; refine AJ (fun S => ∃ (v1 : Bool), S = ⟨mkT [(1, .ptr 32 0), (3, .int .i64 x1.1), (36, .bool v1)], mkR [(32, .box 86 [.int .i64 a1, .str a2, .sl (aB ES a3) a3.length, .int .i64 a4, .sl (aB eD a5) a5.length])], 64⟩ ∧ gM zV a1 a2 a4 a5 x1 v1 = some r) hN ?_ ?_
 ·intro K hK; obtain ⟨x2, h2, h⟩ := aA h; simp only [EV, seval]; refine CP (av h2) ?_; obtain ⟨x3, hv1, h⟩ := aA h; rcases aR hv1 with ⟨hc1, hv1⟩ | ⟨hc1, hv1⟩
  ·cases hv1; obtain ⟨x8, hv5, h⟩ := aA h; replace hv5 := iX hv5; cases hv5; (try dsimp only at h); obtain ⟨x9, hv6, h⟩ := aA h; replace hv6 := iX hv6; cases hv6; (try dsimp only at h); simp only [EV, seval, hc1]; refine hK _ _ _ (show aM _ _ _ from aP ⟨_, rfl, h⟩ (aD [(32, some 64)] [] hρ (by kernel_rfl) ?_ ?_)) <;> simp only [AL, EV, seval, hc1]
  ·cases hv1; obtain ⟨x11, hv7, h⟩ := aA h; rcases aR hv7 with ⟨hc5, hv7⟩ | ⟨hc5, hv7⟩
   ·cases hv7; obtain ⟨x14, hv10, h⟩ := aA h; replace hv10 := iX hv10; cases hv10; (try dsimp only at h); simp only [EV, seval, hc1, hc5]; refine hK _ _ _ (show aM _ _ _ from aP ⟨_, rfl, h⟩ (aD [(32, some 64)] [] hρ (by kernel_rfl) ?_ ?_)) <;> simp only [AL, EV, seval, hc1, hc5]
   ·obtain ⟨x15, h5, hv7⟩ := aA hv7; simp only [EV, seval, hc1, hc5]; refine aj (p9 h5) (by simp only [AL, EV, seval, hc1, hc5]) (aN rfl) (ab rfl) ?_; cases hv7; obtain ⟨x17, hv11, h⟩ := aA h; rcases aR hv11 with ⟨hc8, hv11⟩ | ⟨hc8, hv11⟩
    ·cases hv11; simp only [EV, seval, hc1, hc5, hc8]; refine hK _ _ _ (show aM _ _ _ from aP ⟨_, rfl, h⟩ (aD [(32, some 64)] [] hρ (by kernel_rfl) ?_ ?_)) <;> simp only [AL, EV, seval, hc1, hc5, hc8]
    ·obtain ⟨x18, hv13, hv11⟩ := aA hv11; rcases aR hv13 with ⟨hc10, hv13⟩ | ⟨hc10, hv13⟩
     ·cases hv13; cases hv11; simp only [EV, seval, hc1, hc5, hc8, hc10]; refine hK _ _ _ (show aM _ _ _ from aP ⟨_, rfl, h⟩ (aD [(32, some 64)] [] hρ (by kernel_rfl) ?_ ?_)) <;> simp only [AL, EV, seval, hc1, hc5, hc8, hc10]
     ·cases hv13; cases hv11; simp only [EV, seval, hc1, hc5, hc8, hc10]; refine hK _ _ _ (show aM _ _ _ from aP ⟨_, rfl, h⟩ (aD [(32, some 64)] [] hρ (by kernel_rfl) ?_ ?_)) <;> simp only [AL, EV, seval, hc1, hc5, hc8, hc10]
 ·rintro S ⟨v1, rfl, h⟩; unfold gM at h; refine AB h (fun hc11 h => ?_) fun hc11 h => ?_
  ·refine AN hN ?_; injection h with h; subst h; exact AX (b' := 64) [(2, .bool false)] [] [] [] hρ (EQ [])
  ·refine aE (AK ?_); refine aH ?_; refine AJ (fun S => ∃ (v2 : Bool), S = ⟨mkT [(1, .ptr 32 0), (52, .bool v2)], mkR [(32, .box 86 [.int .i64 a1, .str a2, .sl (aB ES a3) a3.length, .int .i64 a4, .sl (aB eD a5) a5.length])], 64⟩ ∧ gL zV a1 a4 a5 v2 = some r) hN ?_ ?_
   ·intro K hK; obtain ⟨x20, hv14, h⟩ := aA h; rcases aR hv14 with ⟨hc12, hv14⟩ | ⟨hc12, hv14⟩
    ·cases hv14; simp only [EV, seval, hc12]; refine hK _ _ _ (show aM _ _ _ from aP ⟨_, rfl, h⟩ (aD [(32, some 32)] [] hρ (by kernel_rfl) ?_ ?_)) <;> simp only [AL, EV, seval, hc12]
    ·obtain ⟨x21, hv16, hv14⟩ := aA hv14; rcases aR hv16 with ⟨hc14, hv16⟩ | ⟨hc14, hv16⟩
     ·simp only [hc14] at hc12; cases hv16; cases hv14; simp only [EV, seval, hc12, hc14]; refine hK _ _ _ (show aM _ _ _ from aP ⟨_, rfl, h⟩ (aD [(32, some 32)] [] hρ (by kernel_rfl) ?_ ?_)) <;> simp only [AL, EV, seval, hc12, hc14]
     ·simp only [hc14] at hc12; cases hv16; cases hv14; simp only [EV, seval, hc12, hc14]; refine hK _ _ _ (show aM _ _ _ from aP ⟨_, rfl, h⟩ (aD [(32, some 32)] [] hρ (by kernel_rfl) ?_ ?_)) <;> simp only [AL, EV, seval, hc12, hc14]
   ·rintro S ⟨v2, rfl, h⟩; unfold gL at h; refine AB h (fun hc15 h => ?_) fun hc15 h => ?_
    ·refine AN hN ?_; injection h with h; subst h; exact AX (b' := 64) [(2, .bool false)] [] [] [] hρ (EQ [])
    ·refine aE (AK ?_); refine aH ?_; refine AJ (fun S => ∃ (v3 : Bool), S = ⟨mkT [(1, .ptr 32 0), (71, .bool v3)], mkR [(32, .box 86 [.int .i64 a1, .str a2, .sl (aB ES a3) a3.length, .int .i64 a4, .sl (aB eD a5) a5.length])], 64⟩ ∧ gJ zV a5 v3 = some r) hN ?_ ?_
     ·intro K hK; obtain ⟨x23, hv17, h⟩ := aA h; rcases aR hv17 with ⟨hc16, hv17⟩ | ⟨hc16, hv17⟩
      ·obtain ⟨x26, h7, hv17⟩ := aA hv17; simp only [EV, seval, hc16]; refine aj (av h7) (by simp only [AL, EV, seval, hc16]) (aN rfl) (ab rfl) ?_; cases hv17; obtain ⟨x28, hv20, h⟩ := aA h; rcases aR hv20 with ⟨hc19, hv20⟩ | ⟨hc19, hv20⟩
       ·cases hv20; simp only [EV, seval, hc16, hc19]; refine hK _ _ _ (show aM _ _ _ from aP ⟨_, rfl, h⟩ (aD [(32, some 32)] [] hρ (by kernel_rfl) ?_ ?_)) <;> simp only [AL, EV, seval, hc16, hc19]
       ·obtain ⟨x29, hv22, hv20⟩ := aA hv20; rcases aR hv22 with ⟨hc21, hv22⟩ | ⟨hc21, hv22⟩
        ·cases hv22; cases hv20; simp only [EV, seval, hc16, hc19, hc21]; refine hK _ _ _ (show aM _ _ _ from aP ⟨_, rfl, h⟩ (aD [(32, some 32)] [] hρ (by kernel_rfl) ?_ ?_)) <;> simp only [AL, EV, seval, hc16, hc19, hc21]
        ·cases hv22; cases hv20; simp only [EV, seval, hc16, hc19, hc21]; refine hK _ _ _ (show aM _ _ _ from aP ⟨_, rfl, h⟩ (aD [(32, some 32)] [] hρ (by kernel_rfl) ?_ ?_)) <;> simp only [AL, EV, seval, hc16, hc19, hc21]
      ·cases hv17; obtain ⟨x30, hv23, h⟩ := aA h; replace hv23 := kU hv23; obtain ⟨x31, hv24, hv23⟩ := aA hv23; rcases aR hv24 with ⟨hc22, hv24⟩ | ⟨hc22, hv24⟩
       ·cases hv24; cases hv23; (try dsimp only at h); simp only [EV, seval, hc16, hc22]; refine hK _ _ _ (show aM _ _ _ from aP ⟨_, rfl, h⟩ (aD [(32, some 32)] [] hρ (by kernel_rfl) ?_ ?_)) <;> simp only [AL, EV, seval, hc16, hc22]
       ·cases hv24; cases hv23; (try dsimp only at h); simp only [EV, seval, hc16, hc22]; refine hK _ _ _ (show aM _ _ _ from aP ⟨_, rfl, h⟩ (aD [(32, some 32)] [] hρ (by kernel_rfl) ?_ ?_)) <;> simp only [AL, EV, seval, hc16, hc22]
     ·rintro S ⟨v3, rfl, h⟩; unfold gJ at h; refine AB h (fun hc23 h => ?_) fun hc23 h => ?_
      ·refine AN hN ?_; injection h with h; subst h; exact AX (b' := 64) [(2, .bool false)] [] [] [] hρ (EQ [])
      ·refine aE (AK ?_); obtain ⟨x32, h8, h⟩ := aA h; refine AP hN (yV h8) ?_; injection h with h; subst h; exact AX (b' := 64) [(2, .bool x32)] [] [] [] hρ (EQ [])
def oJ : Option Bool :=
  some true
def fo (zV : (List D) → Option Bool) (a1 : List (StT D)) : Nat → Int → Option Bool
  | 0, _ => none
  | n1 + 1, v2 =>
  br (decide (v2 < ((a1.length : Int)))) (bO (ak a1 v2) fun q3 => bO (gl (D := D) zV q3.1 q3.2.1 q3.2.2.1 q3.2.2.2.1 q3.2.2.2.2) fun x3 => br (!x3) (some false) ((fo zV a1 n1) (IntKind.wrap .i64 (v2 + 1)))) (oJ)
def jE (zV : (List D) → Option Bool) (a1 : List (StT D)) : Option Bool :=
  fo zV a1 FU 0
theorem kO {zV : (List D) → Option Bool} (yV : ∀ {a1 : List D} {r : Bool}, zV a1 = some r → aU Tryz.prog 83 [.sl (aB eD a1) a1.length] [] (.bool r) []) {a1 : List (StT D)} {r : Bool} (h : jE zV a1 = some r) :
    aU Tryz.prog 83 [.sl (aB (EZ eD) a1) a1.length] [] (.bool r) [] := by
 unfold jE at h; refine SO Tryz.func83 rfl Tryz.ntmps83 fun C hN hρ => ?_; simp only [st0, aW, Nat.zero_add, Nat.reduceAdd]; refine AN hN ?_; refine aQ (fun S => S = ⟨mkT [], mkR [], 64⟩ ∧ oJ = some r) ?_ ?_
 ·refine AN hN ?_; refine aJ ?_; refine aX (fun n S => ∃ (v2 : Int), S = ⟨mkT [(0, .sl (aB (EZ eD) a1) a1.length), (3, .int .i64 v2)], mkR [], 64⟩ ∧ fo zV a1 n v2 = some r) FU ?_ ?_ ?_
  ·exact AC ⟨_, rfl, h⟩ [] [] hρ
  ·rintro S ⟨_, _, h⟩; rw [fo] at h; cases h
  ·rintro n1 S ⟨v2, rfl, h⟩; rw [fo] at h; refine aH ?_; refine AN hN ?_; refine AB h (fun hc5 h => ?_) fun hc5 h => ?_
   ·refine aE (AK ?_); refine aH ?_; refine aJ ?_; refine AR hN fun K hK => ?_; obtain ⟨q3, h7, h⟩ := aA h; obtain ⟨⟨h8a, h8b⟩, h8c⟩ := aY (EZl eD) h7; (try simp only [EV, seval] at h8c); obtain ⟨x3, h9, h⟩ := aA h; simp only [EV, seval, h8a, h8b, h8c]; refine aj (qf (eD := eD) yV h9) (by simp only [AL, EV, seval, h8a, h8b, h8c]) (aN rfl) (ab rfl) ?_; simp only [EV, seval, h8a, h8b, h8c]; apply hK; clear hK K; refine ah (a := .bool (!x3)) (by simp only [EV, seval, h8a, h8b, h8c]) (brK h (fun hc6 h => ?_) (fun hc6 h => ?_))
    ·refine AN hN ?_; injection h with h; subst h; exact AX (b' := 64) [(2, .bool false)] [] [] [] hρ (EQ [])
    ·refine aE (AK ?_); refine AS hN fun K hK => ?_; simp only [EV, seval]; exact hK _ _ _ (AC ⟨_, rfl, h⟩ [] [] hρ)
   ·exact aa (AC ⟨rfl, h⟩ [] [] hρ)
 ·rintro S ⟨rfl, h⟩; unfold oJ at h; refine AN hN ?_; injection h with h; subst h; exact AX (b' := 64) [(2, .bool true)] [] [] [] hρ (EQ [])
end
section
variable {D : Type} {eD : D → List AV}
def dn (v6 : Int) (kl1 : Int → Int → Option Int) (v7 : Int) : Option Int :=
  kl1 v7 (IntKind.wrap .i64 (v6 + 1))
def jF (v8 : Int) : Option Int :=
  some v8
def bu (zN : (List D) → Option Int) (a1 : List (StT D)) : Nat → Int → Int → Option Int
  | 0, _, _ => none
  | n1 + 1, v5, v6 =>
  br (decide (v6 < ((a1.length : Int)))) (bO (ak a1 v6) fun q3 => bO (je (D := D) q3.1 q3.2.1 q3.2.2.1 q3.2.2.2.1 q3.2.2.2.2) fun x7 => br x7.2 (bO (zN q3.2.2.2.2) fun x8 => bO (jk v5 (IntKind.wrap .i64 (1 + x8))) fun x9 => dn v6 (bu zN a1 n1) x9) (dn v6 (bu zN a1 n1) v5)) (jF v5)
def cd (zN : (List D) → Option Int) (a1 : List (StT D)) : Option Int :=
  bu zN a1 FU 0 0
theorem dp {zN : (List D) → Option Int} (yN : ∀ {a1 : List D} {r : Int}, zN a1 = some r → aU Tryz.prog 84 [.sl (aB eD a1) a1.length] [] (.int .i64 r) []) {a1 : List (StT D)} {r : Int} (h : cd zN a1 = some r) :
    aU Tryz.prog 84 [.sl (aB (EZ eD) a1) a1.length] [] (.int .i64 r) [] := by
 unfold cd at h; refine SO Tryz.func84 rfl Tryz.ntmps84 fun C hN hρ => ?_; simp only [st0, aW, Nat.zero_add, Nat.reduceAdd]; refine AN hN ?_; refine AN hN ?_; refine aQ (fun S => ∃ (v8 : Int), S = ⟨mkT [(3, .int .i64 v8)], mkR [], 64⟩ ∧ jF v8 = some r) ?_ ?_
 ·refine AN hN ?_; refine aJ ?_; refine aX (fun n S => ∃ (v5 v6 : Int), S = ⟨mkT [(0, .sl (aB (EZ eD) a1) a1.length), (3, .int .i64 v5), (4, .int .i64 v6)], mkR [], 64⟩ ∧ bu zN a1 n v5 v6 = some r) FU ?_ ?_ ?_
  ·exact AC ⟨_, _, rfl, h⟩ [] [] hρ
  ·rintro S ⟨_, _, _, h⟩; rw [bu] at h; cases h
  ·rintro n1 S ⟨v5, v6, rfl, h⟩; rw [bu] at h; refine aH ?_; refine AN hN ?_; refine AB h (fun hc5 h => ?_) fun hc5 h => ?_
   ·refine aE (AK ?_); refine aQ (fun S => ∃ (v7 : Int), S = ⟨mkT [(0, .sl (aB (EZ eD) a1) a1.length), (3, .int .i64 v7), (4, .int .i64 v6)], mkR [], 64⟩ ∧ dn v6 (bu zN a1 n1) v7 = some r) ?_ ?_
    ·refine aJ ?_; refine AR hN fun K hK => ?_; obtain ⟨q3, h11, h⟩ := aA h; obtain ⟨⟨h12a, h12b⟩, h12c⟩ := aY (EZl eD) h11; (try simp only [EV, seval] at h12c); obtain ⟨x7, h13, h⟩ := aA h; simp only [EV, seval, h12a, h12b, h12c]; refine aj (nX (eD := eD) h13) (by simp only [AL, EV, seval, h12a, h12b, h12c]) (aN rfl) (ab rfl) ?_; simp only [EV, seval, h12a, h12b, h12c]; apply hK; clear hK K; refine AN hN ?_; refine AB h (fun hc6 h => ?_) fun hc6 h => ?_
     ·refine AS hN fun K hK => ?_; obtain ⟨x8, h14, h⟩ := aA h; simp only [EV, seval, h12a, h12b, h12c]; refine aj (yN h14) (by simp only [AL, EV, seval, h12a, h12b, h12c]) (aN rfl) (ab rfl) ?_; obtain ⟨x9, h15, h⟩ := aA h; simp only [EV, seval, h12a, h12b, h12c]; refine aj (pP h15) (by simp only [AL, EV, seval, h12a, h12b, h12c]) (aN rfl) (ab rfl) ?_; simp only [EV, seval, h12a, h12b, h12c]; refine hK _ _ _ (show aM _ _ _ from aP ⟨_, rfl, h⟩ (aD [] [] hρ (by kernel_rfl) ?_ ?_)) <;> simp only [AL, EV, seval, h12a, h12b, h12c]
     ·refine aE (show aM _ _ _ from aP ⟨_, rfl, h⟩ (aD [] [] hρ (by kernel_rfl) ?_ ?_)) <;> simp only [AL, EV, seval]
    ·rintro S ⟨v7, rfl, h⟩; unfold dn at h; refine AS hN fun K hK => ?_; simp only [EV, seval]; exact hK _ _ _ (AC ⟨_, _, rfl, h⟩ [] [] hρ)
   ·exact aa (AC ⟨_, rfl, h⟩ [] [] hρ)
 ·rintro S ⟨v8, rfl, h⟩; unfold jF at h; refine AN hN ?_; injection h with h; subst h; exact AX (b' := 64) [(2, .int .i64 v8)] [] [] [] hρ (EQ [])
end
section
variable {D : Type} {eD : D → List AV}
def dI (v8 : Int) (kl1 : Int → Int → Option Int) (v10 : Int) : Option Int :=
  kl1 v10 (IntKind.wrap .i64 (v8 + 1))
def cl (zK : (List D) → Option Int) (v8 : Int) (kl1 : Int → Int → Option Int) (q3 : StT D) (x5 : Int × Bool) (v9 : Int) : Option Int :=
  br x5.2 (bO (zK q3.2.2.2.2) fun x6 => dI v8 kl1 (IntKind.wrap .i64 ((IntKind.wrap .i64 (v9 + 1)) + x6))) (dI v8 kl1 v9)
def ge (v11 : Int) : Option Int :=
  some v11
def b6 (zK : (List D) → Option Int) (a1 : List (StT D)) : Nat → Int → Int → Option Int
  | 0, _, _ => none
  | n1 + 1, v7, v8 =>
  br (decide (v8 < ((a1.length : Int)))) (bO (ak a1 v8) fun q3 => bO (je (D := D) q3.1 q3.2.1 q3.2.2.1 q3.2.2.2.1 q3.2.2.2.2) fun x5 => br (q3.1 == 2) (cl zK v8 (b6 zK a1 n1) q3 x5 (IntKind.wrap .i64 ((IntKind.wrap .i64 ((IntKind.wrap .i64 (v7 + 2)) + ((q3.2.2.1.length : Int)))) + 1))) (cl zK v8 (b6 zK a1 n1) q3 x5 (IntKind.wrap .i64 ((IntKind.wrap .i64 (v7 + 2)) + ((q3.2.2.1.length : Int)))))) (ge v7)
def cI (zK : (List D) → Option Int) (a1 : List (StT D)) : Option Int :=
  b6 zK a1 FU 0 0
theorem dJ {zK : (List D) → Option Int} (yK : ∀ {a1 : List D} {r : Int}, zK a1 = some r → aU Tryz.prog 85 [.sl (aB eD a1) a1.length] [] (.int .i64 r) []) {a1 : List (StT D)} {r : Int} (h : cI zK a1 = some r) :
    aU Tryz.prog 85 [.sl (aB (EZ eD) a1) a1.length] [] (.int .i64 r) [] := by
 unfold cI at h; refine SO Tryz.func85 rfl Tryz.ntmps85 fun C hN hρ => ?_; simp only [st0, aW, Nat.zero_add, Nat.reduceAdd]; refine AN hN ?_; refine AN hN ?_; refine aQ (fun S => ∃ (v11 : Int), S = ⟨mkT [(3, .int .i64 v11)], mkR [], 64⟩ ∧ ge v11 = some r) ?_ ?_
 ·refine AN hN ?_; refine aJ ?_; refine aX (fun n S => ∃ (v7 v8 : Int), S = ⟨mkT [(0, .sl (aB (EZ eD) a1) a1.length), (3, .int .i64 v7), (4, .int .i64 v8)], mkR [], 64⟩ ∧ b6 zK a1 n v7 v8 = some r) FU ?_ ?_ ?_
  ·exact AC ⟨_, _, rfl, h⟩ [] [] hρ
  ·rintro S ⟨_, _, _, h⟩; rw [b6] at h; cases h
  ·rintro n1 S ⟨v7, v8, rfl, h⟩; rw [b6] at h; refine aH ?_; refine AN hN ?_; refine AB h (fun hc7 h => ?_) fun hc7 h => ?_
   ·refine aE (AK ?_); refine aQ (fun S => ∃ (v10 : Int), S = ⟨mkT [(0, .sl (aB (EZ eD) a1) a1.length), (3, .int .i64 v10), (4, .int .i64 v8)], mkR [], 64⟩ ∧ dI v8 (b6 zK a1 n1) v10 = some r) ?_ ?_
    ·refine aJ ?_; refine AR hN fun K hK => ?_; obtain ⟨q3, h9, h⟩ := aA h; obtain ⟨⟨h10a, h10b⟩, h10c⟩ := aY (EZl eD) h9; (try simp only [EV, seval] at h10c); obtain ⟨x5, h11, h⟩ := aA h; simp only [EV, seval, h10a, h10b, h10c]; refine aj (nX (eD := eD) h11) (by simp only [AL, EV, seval, h10a, h10b, h10c]) (aN rfl) (ab rfl) ?_; simp only [EV, seval, h10a, h10b, h10c]; apply hK; clear hK K; refine AR hN fun K hK => ?_; simp only [EV, seval, h10a, h10b, h10c]; apply hK; clear hK K; refine aQ (fun S => ∃ (v9 : Int), S = ⟨mkT [(0, .sl (aB (EZ eD) a1) a1.length), (3, .int .i64 v9), (4, .int .i64 v8), (6, .bool x5.2)], mkR [], 64⟩ ∧ cl zK v8 (b6 zK a1 n1) q3 x5 v9 = some r) ?_ ?_
     ·refine AR hN fun K hK => ?_; simp only [EV, seval, h10a, h10b, h10c]; apply hK; clear hK K; refine ah (a := .bool (q3.1 == 2)) (by simp only [EV, seval, h10a, h10b, h10c]) (brK h (fun hc8 h => ?_) (fun hc8 h => ?_))
      ·refine AS hN fun K hK => ?_; simp only [EV, seval]; exact hK _ _ _ (AC ⟨_, rfl, h⟩ [] [] hρ)
      ·refine aE (show aM _ _ _ from aP ⟨_, rfl, h⟩ (aD [] [] hρ (by kernel_rfl) ?_ ?_)) <;> simp only [AL, EV, seval, h10a, h10b, h10c]
     ·rintro S ⟨v9, rfl, h⟩; unfold cl at h; refine AN hN ?_; refine AB h (fun hc9 h => ?_) fun hc9 h => ?_
      ·refine AS hN fun K hK => ?_; obtain ⟨x6, h12, h⟩ := aA h; simp only [EV, seval, h10a, h10b, h10c]; refine aj (yK h12) (by simp only [AL, EV, seval, h10a, h10b, h10c]) (aN rfl) (ab rfl) ?_; simp only [EV, seval, h10a, h10b, h10c]; refine hK _ _ _ (show aM _ _ _ from aP ⟨_, rfl, h⟩ (aD [] [] hρ (by kernel_rfl) ?_ ?_)) <;> simp only [AL, EV, seval, h10a, h10b, h10c]
      ·refine aE (show aM _ _ _ from aP ⟨_, rfl, h⟩ (aD [] [] hρ (by kernel_rfl) ?_ ?_)) <;> simp only [AL, EV, seval]
    ·rintro S ⟨v10, rfl, h⟩; unfold dI at h; refine AS hN fun K hK => ?_; simp only [EV, seval]; exact hK _ _ _ (AC ⟨_, _, rfl, h⟩ [] [] hρ)
   ·exact aa (AC ⟨_, rfl, h⟩ [] [] hρ)
 ·rintro S ⟨v11, rfl, h⟩; unfold ge at h; refine AN hN ?_; injection h with h; subst h; exact AX (b' := 64) [(2, .int .i64 v11)] [] [] [] hρ (EQ [])
end
end Go.Proofs.YtbfmljdablopjaaGreat
