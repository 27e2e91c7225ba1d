/- Plain laws: what is drawn. The draws end, and what they give. -/
import Derived.Test.YtfjopjalhllplaaKMk
import Derived.Test.YtfjopjalhllplaaK9
namespace Go.Proofs.Ytfjopjalhllplaa
open Go.RowKit
set_option maxRecDepth 100000
set_option linter.unusedVariables false
set_option linter.unusedSimpArgs false
theorem bits_and_255 (y : Int) : bits .and .i64 y 255 = y % 256 := by
 have h : ((BitVec.ofInt 64 y) &&& (BitVec.ofInt 64 255)).toNat = ((y % 256).toNat) := by
  rw [BitVec.toNat_and, BitVec.toNat_ofInt, BitVec.toNat_ofInt]
  rw [show (255 % (2 ^ 64 : Nat) : Int).toNat = 2 ^ 8 - 1 from by decide, Nat.and_two_pow_sub_one_eq_mod]
  omega
 show IntKind.i64.wrap ((BitVec.ofInt 64 y &&& BitVec.ofInt 64 255).toNat : Int) = _
 rw [h, IntKind.wrap_i64]
 omega
/-- A cursor. -/
def CurP (c : List Int × Int × Int) : Prop := c.1.length ≤ 1048576 ∧ 0 ≤ c.2.1 ∧ c.2.1 ≤ c.1.length
theorem new_ok {code : List Int} (h : code.length ≤ 1048576) : Ok (s_l1New code) CurP := by
 unfold s_l1New
 have key : ∀ (m k : Nat) (v : Int), k ≤ code.length → code.length - k < m → Ok (s_l1New_l1 code m v (k : Int)) CurP := by
  intro m
  induction m with
  | zero => intro k v _ h; omega
  | succ m ih =>
   intro k v hk hm
   rw [s_l1New_l1]
   have fin : Ok (s_l1New_j1 code v) CurP := ⟨_, rfl, h, by show (0 : Int) ≤ 0; omega, by show (0 : Int) ≤ (code.length : Int); omega⟩
   by_cases e : k < code.length
   ·have hlt : (k : Int) < (code.length : Int) := by omega
    simp only [hlt, decide_true, br_true, bO_some, s_l1New_j4]
    refine Ok.br (fun _ => ?_) (fun _ => fin)
    rw [geti_lt e, bO_some, w64s e (by omega)]
    exact ih (k + 1) _ (by omega) (by omega)
   ·have hlt : ¬ (k : Int) < (code.length : Int) := by omega
    simp only [hlt, decide_false, br_false, bO_some, s_l1New_j4]
    exact fin
 exact key FU 0 _ (by omega) (by rw [FU_eq]; omega)
theorem byte_ok {b : List Int} {i h : Int} (hc : CurP (b, i, h)) : Ok (s_l1Byte b i h) (fun r => (0 ≤ r.1 ∧ r.1 < 256) ∧ CurP r.2) := by
 obtain ⟨h1, h2, h3⟩ := hc
 simp only at h1 h2 h3
 unfold s_l1Byte
 refine Ok.br (fun e => ?_) (fun e => ?_)
 ·have e := of_decide_eq_true e
  obtain ⟨q, hq, _⟩ := geti_ok (l := b) (i := i) ⟨h2, e⟩
  rw [hq, bO_some]
  unfold s_l1Byte_j1
  refine Ok.some ⟨?_, h1, ?_, ?_⟩
  ·simp only [bits_and_255]; omega
  ·show 0 ≤ IntKind.wrap .i64 (i + 1); rw [w64 (by omega) (by omega)]; omega
  ·show IntKind.wrap .i64 (i + 1) ≤ (b.length : Int); rw [w64 (by omega) (by omega)]; omega
 ·unfold s_l1Byte_j1
  refine Ok.some ⟨?_, h1, h2, h3⟩
  simp only [bits_and_255]; omega
theorem tmod_bd {x n : Int} (hx : 0 ≤ x) (hn : 0 < n) : 0 ≤ Int.tmod x n ∧ Int.tmod x n < n := by
 rw [Int.tmod_eq_emod_of_nonneg hx]
 exact ⟨Int.emod_nonneg _ (by omega), Int.emod_lt_of_pos _ hn⟩
theorem below_ok {b : List Int} {i h n : Int} (hc : CurP (b, i, h)) : Ok (s_l1Below b i h n) (fun r => (0 ≤ r.1 ∧ (0 < n → r.1 < n) ∧ (n ≤ 0 → r.1 = 0)) ∧ CurP r.2) := by
 unfold s_l1Below
 refine Ok.br (fun e => ?_) (fun e => ?_)
 ·have e := of_decide_eq_true e
  exact Ok.some ⟨⟨by simp, fun h => by omega, fun _ => rfl⟩, hc⟩
 ·have e := of_decide_eq_false e
  have hne : decide (n ≠ 0) = true := decide_eq_true (by omega)
  refine Ok.br (fun _ => ?_) (fun _ => ?_)
  ·refine (byte_ok hc).bO fun r hr => Ok.gd hne (Ok.some ⟨?_, hr.2⟩)
   obtain ⟨t1, t2⟩ := tmod_bd (n := n) hr.1.1 (by omega)
   exact ⟨t1, fun _ => t2, fun h => by omega⟩
  ·refine (byte_ok hc).bO fun x hx => (byte_ok hx.2).bO fun y hy => (byte_ok hy.2).bO fun z hz => (byte_ok hz.2).bO fun w hw => Ok.gd hne (Ok.some ⟨?_, hw.2⟩)
   have b1 := hx.1; have b2 := hy.1; have b3 := hz.1; have b4 := hw.1
   rw [w64 (x := x.1 * 16777216) (by omega) (by omega), w64 (x := y.1 * 65536) (by omega) (by omega), w64 (x := z.1 * 256) (by omega) (by omega), w64 (x := x.1 * 16777216 + y.1 * 65536) (by omega) (by omega), w64 (x := x.1 * 16777216 + y.1 * 65536 + z.1 * 256) (by omega) (by omega), w64 (by omega) (by omega)]
   obtain ⟨t1, t2⟩ := tmod_bd (x := x.1 * 16777216 + y.1 * 65536 + z.1 * 256 + w.1) (n := n) (by omega) (by omega)
   exact ⟨t1, fun _ => t2, fun h => by omega⟩
theorem once_ok {b : List Int} {i h n : Int} (hc : CurP (b, i, h)) : Ok (s_l1Once b i h n) (fun r => CurP r.2) :=
 (below_ok hc).bO fun r hr => Ok.some hr.2
theorem pick_ok {b l : List Int} {i h : Int} (hc : CurP (b, i, h)) (hl : 0 < l.length) : Ok (s_l1PickInt b i h l) (fun r => r.1 ∈ l ∧ CurP r.2) :=
 (below_ok hc).bO fun r hr => (geti_ok ⟨hr.1.1, hr.1.2.1 (by omega)⟩).bO fun q hq => Ok.some ⟨hq, hr.2⟩
/-- A permutation of the first n numbers. -/
def PermP (n : Nat) (p : List Int) : Prop := p.length = n ∧ (∀ j (hj : j < p.length), 0 ≤ p[j] ∧ p[j] < n) ∧ ∀ i j (hi : i < p.length) (hj : j < p.length), p[i] = p[j] → i = j
theorem idp_fin : ∀ n : Fin 5, (decide (n.val < 1) || (s_IdentityPermutation n.val == some ((List.range n.val).map Int.ofNat))) = true := by decide +kernel
theorem idp_ok {n : Nat} (h : 1 ≤ n ∧ n ≤ 4) : Ok (s_IdentityPermutation n) (PermP n) := by
 have e := idp_fin ⟨n, by omega⟩
 rw [decide_eq_false (by show ¬ n < 1; omega), Bool.false_or, beq_iff_eq] at e
 refine ⟨_, e, by simp, fun j hj => ?_, fun i j hi hj he => ?_⟩
 ·simp at hj ⊢; omega
 ·simp at he; omega
theorem swap_perm {n : Nat} {p : List Int} (h : PermP n p) {i k : Nat} (hi : i < p.length) (hk : k < p.length) : PermP n ((p.set i p[k]).set k p[i]) := by
 obtain ⟨h1, h2, h3⟩ := h
 have g : ∀ j (hj : j < ((p.set i p[k]).set k p[i]).length), ∃ j', ∃ hj' : j' < p.length, ((p.set i p[k]).set k p[i])[j] = p[j'] ∧ j' = if j = k then i else if j = i then k else j := by
  intro j hj
  simp only [List.length_set] at hj
  rw [List.getElem_set, List.getElem_set]
  by_cases e1 : k = j
  ·subst e1; exact ⟨i, hi, by simp, by simp⟩
  ·by_cases e2 : i = j
   ·subst e2; exact ⟨k, hk, by simp [e1], by simp [Ne.symm e1]⟩
   ·exact ⟨j, hj, by simp [e1, e2], by simp [Ne.symm e1, Ne.symm e2]⟩
 refine ⟨by simpa using h1, fun j hj => ?_, fun a b ha hb he => ?_⟩
 ·obtain ⟨j', hj', e, _⟩ := g j hj
  rw [e]; exact h2 j' hj'
 ·obtain ⟨a', ha', ea, ea'⟩ := g a ha
  obtain ⟨b', hb', eb, eb'⟩ := g b hb
  rw [ea, eb] at he
  have := h3 a' b' ha' hb' he
  rw [ea', eb'] at this
  revert this
  repeat' split
  all_goals (intro this; omega)
theorem perm_ok {b : List Int} {i h : Int} {n : Nat} (hc : CurP (b, i, h)) (hn : 1 ≤ n ∧ n ≤ 4) : Ok (s_l8Perm b i h n) (fun r => PermP n r.1 ∧ CurP r.2) := by
 unfold s_l8Perm
 refine (idp_ok hn).bO fun p hp => ?_
 have key : ∀ (m k : Nat) (b : List Int) (i h : Int) (p : List Int), k < n → k < m → CurP (b, i, h) → PermP n p → Ok (s_l8Perm_l1 m b i h (k : Int) p) (fun r => PermP n r.1 ∧ CurP r.2) := by
  intro m
  induction m with
  | zero => intro k b i h p _ h; omega
  | succ m ih =>
   intro k b i h p hk hm hc hp
   rw [s_l8Perm_l1]
   refine Ok.br (fun e => ?_) (fun e => Ok.some ⟨hp, hc⟩)
   have e := of_decide_eq_true e
   rw [w64s (n := 4) (by omega) (by omega)]
   refine (below_ok hc).bO fun x hx => ?_
   obtain ⟨j, hj⟩ : ∃ j : Nat, x.1 = (j : Int) := ⟨x.1.toNat, by omega⟩
   have hjk : (j : Int) < ((k + 1 : Nat) : Int) := by have := hx.1.2.1 (by omega); omega
   have hlk : k < p.length := by have := hp.1; omega
   have hlj : j < p.length := by have := hp.1; omega
   rw [hj]
   rw [geti_lt hlk, bO_some, geti_lt hlj, bO_some, geti_lt (l := p.set (Int.toNat (k : Int)) p[j]) (by simpa using hlj), bO_some]
   rw [w64 (by omega) (by omega), show (k : Int) - 1 = ((k - 1 : Nat) : Int) by omega]
   simp only [Int.toNat_natCast]
   exact ih (k - 1) _ _ _ _ (by omega) (by omega) hx.2 (swap_perm hp hlk hlj)
 have e : IntKind.wrap .i64 ((n : Int) - 1) = ((n - 1 : Nat) : Int) := by rw [w64 (by omega) (by omega)]; omega
 rw [e]
 exact key FU (n - 1) b i h p (by omega) (by rw [FU_eq]; omega) hc hp
theorem ar_le (k : Int) : 0 ≤ arity k ∧ arity k ≤ 3 := by rcases ar4 k with h | h | h | h <;> omega
/-- A gate on some qubits. -/
theorem on_ok {b : List Int} {i h k : Int} {n : Nat} (hc : CurP (b, i, h)) (hn : 1 ≤ n ∧ n ≤ 4) (hk : arity k ≤ n) : Ok (s_l9On b i h k n) (fun r => (r.1 = k ∧ (1 ≤ k ∧ k ≤ 12 → ivg r.1 r.2.1 r.2.2.1 r.2.2.2.1 n = true)) ∧ CurP r.2.2.2.2) := by
 unfold s_l9On
 refine (perm_ok hc hn).bO fun p hp => ?_
 obtain ⟨⟨p1, p2, p3⟩, hpc⟩ := hp
 have a1 : arity k = 0 → ¬ (1 ≤ k ∧ k ≤ 12) := fun h hk => by unfold arity at h; (repeat' split at h) <;> omega
 rw [show (0 : Int) = ((0 : Nat) : Int) from rfl, geti_lt (l := p.1) (k := 0) (by omega), bO_some, s_ar, bO_some]
 have q0 := p2 0 (by omega)
 refine Ok.br (fun e => ?_) (fun e => ?_)
 ·have e := of_decide_eq_true e
  rw [show (1 : Int) = ((1 : Nat) : Int) from rfl, geti_lt (l := p.1) (k := 1) (by omega), bO_some]
  unfold s_l9On_j1
  rw [s_ar, bO_some]
  have q1 := p2 1 (by omega)
  have d1 : p.1[0] ≠ p.1[1] := fun h => by have := p3 0 1 (by omega) (by omega) h; omega
  refine Ok.br (fun e => ?_) (fun e => ?_)
  ·have e := of_decide_eq_true e
   rw [show (2 : Int) = ((2 : Nat) : Int) from rfl, geti_lt (l := p.1) (k := 2) (by omega), bO_some]
   have q2 := p2 2 (by omega)
   have d2 : p.1[0] ≠ p.1[2] := fun h => by have := p3 0 2 (by omega) (by omega) h; omega
   have d3 : p.1[1] ≠ p.1[2] := fun h => by have := p3 1 2 (by omega) (by omega) h; omega
   refine Ok.some ⟨⟨rfl, fun hk => ?_⟩, hpc⟩
   have ha : arity k = 3 := by have := ar_le k; omega
   show ivg k p.1[0] p.1[1] p.1[2] n = true
   unfold ivg
   rw [ha]
   simp [okQ]
   grind
  ·have e := of_decide_eq_false e
   refine Ok.some ⟨⟨rfl, fun hk => ?_⟩, hpc⟩
   have ha : arity k = 2 := by omega
   show ivg k p.1[0] p.1[1] 0 n = true
   unfold ivg
   rw [ha]
   simp [okQ]
   grind
 ·have e := of_decide_eq_false e
  unfold s_l9On_j1
  rw [s_ar, bO_some]
  have hlt : ¬ 2 < arity k := by omega
  simp only [hlt, decide_false, br_false]
  refine Ok.some ⟨⟨rfl, fun hk => ?_⟩, hpc⟩
  have ha : arity k = 1 := by
   have := ar_le k
   have : arity k ≠ 0 := fun h => a1 h hk
   omega
  show ivg k p.1[0] 0 0 n = true
  unfold ivg
  rw [ha]
  simp [okQ]
  omega
theorem gate_ok {b : List Int} {i h : Int} {n : Nat} (hc : CurP (b, i, h)) (hn : 1 ≤ n ∧ n ≤ 4) : Ok (s_l9Gate b i h n) (fun r => ivg r.1 r.2.1 r.2.2.1 r.2.2.2.1 n = true ∧ CurP r.2.2.2.2) := by
 unfold s_l9Gate
 obtain ⟨mx, e1, e2⟩ : ∃ mx : Int, geti ([0, 8, 11, 12, 12] : List Int) (n : Int) = some mx ∧ (8 ≤ mx ∧ mx ≤ 12) := by
  have : n = 1 ∨ n = 2 ∨ n = 3 ∨ n = 4 := by omega
  rcases this with rfl | rfl | rfl | rfl
  ·exact ⟨8, rfl, by omega⟩
  ·exact ⟨11, rfl, by omega⟩
  ·exact ⟨12, rfl, by omega⟩
  ·exact ⟨12, rfl, by omega⟩
 rw [e1, bO_some]
 have fin : ∀ (b : List Int) (i h k : Int), CurP (b, i, h) → (1 ≤ k ∧ k ≤ 12) → Ok (s_l9Gate_j1 n b i h k) (fun r => ivg r.1 r.2.1 r.2.2.1 r.2.2.2.1 n = true ∧ CurP r.2.2.2.2) := by
  intro b i h k hc hk
  unfold s_l9Gate_j1
  rw [s_ar, bO_some]
  refine Ok.br (fun e => ?_) (fun e => ?_)
  ·unfold s_l9Gate_j2
   refine (on_ok hc hn (k := 4) (by have : arity 4 = 1 := rfl; omega)).bO fun r hr => Ok.some ⟨hr.1.2 (by omega), hr.2⟩
  ·have e := of_decide_eq_false e
   unfold s_l9Gate_j2
   refine (on_ok hc hn (k := k) (by omega)).bO fun r hr => Ok.some ⟨hr.1.2 hk, hr.2⟩
 refine (below_ok hc).bO fun x hx => (once_ok hx.2).bO fun y hy => Ok.br (fun _ => ?_) (fun _ => ?_)
 ·refine (pick_ok hy (by simp)).bO fun q hq => fin _ _ _ _ hq.2 ?_
  have := hq.1
  simp at this
  omega
 ·have := hx.1.2.1 (by omega)
  rw [w64 (by omega) (by omega)]
  exact fin _ _ _ _ hy (by omega)
theorem nat_of {n : Int} (h : 1 ≤ n ∧ n ≤ 4) : ∃ k : Nat, n = (k : Int) ∧ 1 ≤ k ∧ k ≤ 4 := ⟨n.toNat, by omega, by omega, by omega⟩
end Go.Proofs.Ytfjopjalhllplaa
