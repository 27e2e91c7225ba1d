/- Joined texts: Pd Pid. -/
import Derived.Test.YtfoiedjjhgpcpaaGreatK4
import Derived.Test.YtfoiedjjhgpcpaaGreatK9
import Derived.Test.YtfoiedjjhgpcpaaGreatK11
/- Plain laws: what is drawn. The draws end, and what they give. -/
namespace Go.Proofs.YtfoiedjjhgpcpaaGreat
open Go.RowKit
set_option maxRecDepth 100000
set_option linter.unusedVariables false
set_option linter.unusedSimpArgs false
theorem bits_and_255 (y : Int) : bits .and .i64 y 255 = y % 256 := by
  have h : ((BitVec.ofInt 64 y) &&& (BitVec.ofInt 64 255)).toNat = ((y % 256).toNat) := by
    rw [BitVec.toNat_and, BitVec.toNat_ofInt, BitVec.toNat_ofInt]
    rw [show (255 % (2 ^ 64 : Nat) : Int).toNat = 2 ^ 8 - 1 from by decide, Nat.and_two_pow_sub_one_eq_mod]
    omega
  show IntKind.i64.wrap ((BitVec.ofInt 64 y &&& BitVec.ofInt 64 255).toNat : Int) = _
  rw [h, IntKind.wrap_i64]
  omega
/-- A cursor. -/
def CurP (c : List Int × Int × Int) : Prop := c.1.length ≤ 1048576 ∧ 0 ≤ c.2.1 ∧ c.2.1 ≤ c.1.length
theorem new_ok {code : List Int} (h : code.length ≤ 1048576) : Ok (s_l1New code) CurP := by
  unfold s_l1New
  have key : ∀ (m k : Nat) (v : Int), k ≤ code.length → code.length - k < m → Ok (s_l1New_l1 code m v (k : Int)) CurP := by
    intro m
    induction m with
    | zero => intro k v _ h; omega
    | succ m ih =>
      intro k v hk hm
      rw [s_l1New_l1]
      have fin : Ok (s_l1New_j1 code v) CurP := ⟨_, rfl, h, by show (0 : Int) ≤ 0; omega, by show (0 : Int) ≤ (code.length : Int); omega⟩
      by_cases e : k < code.length
      · have hlt : (k : Int) < (code.length : Int) := by omega
        simp only [hlt, decide_true, br_true, bO_some, s_l1New_j4]
        refine Ok.br (fun _ => ?_) (fun _ => fin)
        rw [geti_lt e, bO_some, w64s e (by omega)]
        exact ih (k + 1) _ (by omega) (by omega)
      · have hlt : ¬ (k : Int) < (code.length : Int) := by omega
        simp only [hlt, decide_false, br_false, bO_some, s_l1New_j4]
        exact fin
  exact key FU 0 _ (by omega) (by rw [FU_eq]; omega)
theorem byte_ok {b : List Int} {i h : Int} (hc : CurP (b, i, h)) : Ok (s_l1Byte b i h) (fun r => (0 ≤ r.1 ∧ r.1 < 256) ∧ CurP r.2) := by
  obtain ⟨h1, h2, h3⟩ := hc
  simp only at h1 h2 h3
  unfold s_l1Byte
  refine Ok.br (fun e => ?_) (fun e => ?_)
  · have e := of_decide_eq_true e
    obtain ⟨q, hq, _⟩ := geti_ok (l := b) (i := i) ⟨h2, e⟩
    rw [hq, bO_some]
    unfold s_l1Byte_j1
    refine Ok.some ⟨?_, h1, ?_, ?_⟩
    · simp only [bits_and_255]; omega
    · show 0 ≤ IntKind.wrap .i64 (i + 1); rw [w64 (by omega) (by omega)]; omega
    · show IntKind.wrap .i64 (i + 1) ≤ (b.length : Int); rw [w64 (by omega) (by omega)]; omega
  · unfold s_l1Byte_j1
    refine Ok.some ⟨?_, h1, h2, h3⟩
    simp only [bits_and_255]; omega
theorem tmod_bd {x n : Int} (hx : 0 ≤ x) (hn : 0 < n) : 0 ≤ Int.tmod x n ∧ Int.tmod x n < n := by
  rw [Int.tmod_eq_emod_of_nonneg hx]
  exact ⟨Int.emod_nonneg _ (by omega), Int.emod_lt_of_pos _ hn⟩
theorem below_ok {b : List Int} {i h n : Int} (hc : CurP (b, i, h)) : Ok (s_l1Below b i h n) (fun r => (0 ≤ r.1 ∧ (0 < n → r.1 < n) ∧ (n ≤ 0 → r.1 = 0)) ∧ CurP r.2) := by
  unfold s_l1Below
  refine Ok.br (fun e => ?_) (fun e => ?_)
  · have e := of_decide_eq_true e
    exact Ok.some ⟨⟨by simp, fun h => by omega, fun _ => rfl⟩, hc⟩
  · have e := of_decide_eq_false e
    have hne : decide (n ≠ 0) = true := decide_eq_true (by omega)
    refine Ok.br (fun _ => ?_) (fun _ => ?_)
    · refine (byte_ok hc).bO fun r hr => Ok.gd hne (Ok.some ⟨?_, hr.2⟩)
      obtain ⟨t1, t2⟩ := tmod_bd (n := n) hr.1.1 (by omega)
      exact ⟨t1, fun _ => t2, fun h => by omega⟩
    · refine (byte_ok hc).bO fun x hx => (byte_ok hx.2).bO fun y hy => (byte_ok hy.2).bO fun z hz => (byte_ok hz.2).bO fun w hw => Ok.gd hne (Ok.some ⟨?_, hw.2⟩)
      have b1 := hx.1; have b2 := hy.1; have b3 := hz.1; have b4 := hw.1
      rw [w64 (x := x.1 * 16777216) (by omega) (by omega), w64 (x := y.1 * 65536) (by omega) (by omega), w64 (x := z.1 * 256) (by omega) (by omega), w64 (x := x.1 * 16777216 + y.1 * 65536) (by omega) (by omega), w64 (x := x.1 * 16777216 + y.1 * 65536 + z.1 * 256) (by omega) (by omega), w64 (by omega) (by omega)]
      obtain ⟨t1, t2⟩ := tmod_bd (x := x.1 * 16777216 + y.1 * 65536 + z.1 * 256 + w.1) (n := n) (by omega) (by omega)
      exact ⟨t1, fun _ => t2, fun h => by omega⟩
theorem once_ok {b : List Int} {i h n : Int} (hc : CurP (b, i, h)) : Ok (s_l1Once b i h n) (fun r => CurP r.2) :=
  (below_ok hc).bO fun r hr => Ok.some hr.2
theorem pick_ok {b l : List Int} {i h : Int} (hc : CurP (b, i, h)) (hl : 0 < l.length) : Ok (s_l1PickInt b i h l) (fun r => r.1 ∈ l ∧ CurP r.2) :=
  (below_ok hc).bO fun r hr => (geti_ok ⟨hr.1.1, hr.1.2.1 (by omega)⟩).bO fun q hq => Ok.some ⟨hq, hr.2⟩
theorem u64_nn (n : Int) : decide (¬ IntKind.wrap .u64 n < 0) = true := decide_eq_true (by rw [IntKind.wrap_u64]; omega)
theorem pauli_ok {b : List Int} {i h n : Int} (hc : CurP (b, i, h)) : Ok (s_l25Pauli b i h n) (fun r => (r.1 = n ∧ ((1 ≤ n ∧ n ≤ 4) → vP (r.1, r.2.1, r.2.2.1, r.2.2.2.1) = true)) ∧ CurP r.2.2.2.2) := by
  unfold s_l25Pauli
  refine Ok.gd (u64_nn n) ((below_ok hc).bO fun x hx => Ok.gd (u64_nn n) ((below_ok hx.2).bO fun z hz => (below_ok (n := 4) hz.2).bO fun p hp => Ok.some ⟨⟨rfl, fun hn => ?_⟩, hp.2⟩))
  have e : IntKind.wrap .i64 (1 * 2 ^ min (Int.toNat (IntKind.wrap .u64 n)) (IntKind.bits .i64)) = 2 ^ n.toNat := by
    rcases four hn with rfl | rfl | rfl | rfl <;> rfl
  have h0 : (0 : Int) < 2 ^ n.toNat := by rcases four hn with rfl | rfl | rfl | rfl <;> decide
  rw [e] at hx hz
  have q1 := hx.1.2.1 h0
  have q2 := hz.1.2.1 h0
  have q3 := hp.1.2.1 (by omega)
  exact vP_iff.2 ⟨hn, ⟨hx.1.1, q1⟩, ⟨hz.1.1, q2⟩, hp.1.1, by show p.1 ≤ 3; omega⟩
theorem bent_ok {b : List Int} {i h : Int} (hc : CurP (b, i, h)) : Ok (s_l25Bent b i h) (fun r => CurP r.2.2.2.2) := by
  unfold s_l25Bent
  refine (below_ok hc).bO fun x hx => (pauli_ok hx.2).bO fun p hp => (below_ok hp.2).bO fun y hy => ?_
  refine Ok.br (fun _ => (pick_ok hy.2 (by simp)).bO fun q hq => Ok.some hq.2) (fun _ => Ok.br (fun _ => (pick_ok hy.2 (by simp)).bO fun q hq => Ok.some hq.2) (fun _ => Ok.br (fun _ => (pick_ok hy.2 (by simp)).bO fun q hq => Ok.some hq.2) (fun _ => Ok.some hy.2)))
/-- A permutation of the first n numbers. -/
def PermP (n : Nat) (p : List Int) : Prop := p.length = n ∧ (∀ j (hj : j < p.length), 0 ≤ p[j] ∧ p[j] < n) ∧ ∀ i j (hi : i < p.length) (hj : j < p.length), p[i] = p[j] → i = j
theorem idp_fin : ∀ n : Fin 5, (decide (n.val < 1) || (s_IdentityPermutation n.val == some ((List.range n.val).map Int.ofNat))) = true := by decide +kernel
theorem idp_ok {n : Nat} (h : 1 ≤ n ∧ n ≤ 4) : Ok (s_IdentityPermutation n) (PermP n) := by
  have e := idp_fin ⟨n, by omega⟩
  rw [decide_eq_false (by show ¬ n < 1; omega), Bool.false_or, beq_iff_eq] at e
  refine ⟨_, e, by simp, fun j hj => ?_, fun i j hi hj he => ?_⟩
  · simp at hj ⊢; omega
  · simp at he; omega
theorem swap_perm {n : Nat} {p : List Int} (h : PermP n p) {i k : Nat} (hi : i < p.length) (hk : k < p.length) : PermP n ((p.set i p[k]).set k p[i]) := by
  obtain ⟨h1, h2, h3⟩ := h
  have g : ∀ j (hj : j < ((p.set i p[k]).set k p[i]).length), ∃ j', ∃ hj' : j' < p.length, ((p.set i p[k]).set k p[i])[j] = p[j'] ∧ j' = if j = k then i else if j = i then k else j := by
    intro j hj
    simp only [List.length_set] at hj
    rw [List.getElem_set, List.getElem_set]
    by_cases e1 : k = j
    · subst e1; exact ⟨i, hi, by simp, by simp⟩
    · by_cases e2 : i = j
      · subst e2; exact ⟨k, hk, by simp [e1], by simp [Ne.symm e1]⟩
      · exact ⟨j, hj, by simp [e1, e2], by simp [Ne.symm e1, Ne.symm e2]⟩
  refine ⟨by simpa using h1, fun j hj => ?_, fun a b ha hb he => ?_⟩
  · obtain ⟨j', hj', e, _⟩ := g j hj
    rw [e]; exact h2 j' hj'
  · obtain ⟨a', ha', ea, ea'⟩ := g a ha
    obtain ⟨b', hb', eb, eb'⟩ := g b hb
    rw [ea, eb] at he
    have := h3 a' b' ha' hb' he
    rw [ea', eb'] at this
    revert this
    repeat' split
    all_goals (intro this; omega)
theorem perm_ok {b : List Int} {i h : Int} {n : Nat} (hc : CurP (b, i, h)) (hn : 1 ≤ n ∧ n ≤ 4) : Ok (s_l8Perm b i h n) (fun r => PermP n r.1 ∧ CurP r.2) := by
  unfold s_l8Perm
  refine (idp_ok hn).bO fun p hp => ?_
  have key : ∀ (m k : Nat) (b : List Int) (i h : Int) (p : List Int), k < n → k < m → CurP (b, i, h) → PermP n p → Ok (s_l8Perm_l1 m b i h (k : Int) p) (fun r => PermP n r.1 ∧ CurP r.2) := by
    intro m
    induction m with
    | zero => intro k b i h p _ h; omega
    | succ m ih =>
      intro k b i h p hk hm hc hp
      rw [s_l8Perm_l1]
      refine Ok.br (fun e => ?_) (fun e => Ok.some ⟨hp, hc⟩)
      have e := of_decide_eq_true e
      rw [w64s (n := 4) (by omega) (by omega)]
      refine (below_ok hc).bO fun x hx => ?_
      obtain ⟨j, hj⟩ : ∃ j : Nat, x.1 = (j : Int) := ⟨x.1.toNat, by omega⟩
      have hjk : (j : Int) < ((k + 1 : Nat) : Int) := by have := hx.1.2.1 (by omega); omega
      have hlk : k < p.length := by have := hp.1; omega
      have hlj : j < p.length := by have := hp.1; omega
      rw [hj]
      rw [geti_lt hlk, bO_some, geti_lt hlj, bO_some, geti_lt (l := p.set (Int.toNat (k : Int)) p[j]) (by simpa using hlj), bO_some]
      rw [w64 (by omega) (by omega), show (k : Int) - 1 = ((k - 1 : Nat) : Int) by omega]
      simp only [Int.toNat_natCast]
      exact ih (k - 1) _ _ _ _ (by omega) (by omega) hx.2 (swap_perm hp hlk hlj)
  have e : IntKind.wrap .i64 ((n : Int) - 1) = ((n - 1 : Nat) : Int) := by rw [w64 (by omega) (by omega)]; omega
  rw [e]
  exact key FU (n - 1) b i h p (by omega) (by rw [FU_eq]; omega) hc hp
theorem ar_le (k : Int) : 0 ≤ arity k ∧ arity k ≤ 3 := by rcases ar4 k with h | h | h | h <;> omega
/-- A gate on some qubits. -/
theorem on_ok {b : List Int} {i h k : Int} {n : Nat} (hc : CurP (b, i, h)) (hn : 1 ≤ n ∧ n ≤ 4) (hk : arity k ≤ n) : Ok (s_l9On b i h k n) (fun r => (r.1 = k ∧ (1 ≤ k ∧ k ≤ 12 → ivg r.1 r.2.1 r.2.2.1 r.2.2.2.1 n = true)) ∧ CurP r.2.2.2.2) := by
  unfold s_l9On
  refine (perm_ok hc hn).bO fun p hp => ?_
  obtain ⟨⟨p1, p2, p3⟩, hpc⟩ := hp
  have a1 : arity k = 0 → ¬ (1 ≤ k ∧ k ≤ 12) := fun h hk => by unfold arity at h; (repeat' split at h) <;> omega
  rw [show (0 : Int) = ((0 : Nat) : Int) from rfl, geti_lt (l := p.1) (k := 0) (by omega), bO_some, s_ar, bO_some]
  have q0 := p2 0 (by omega)
  refine Ok.br (fun e => ?_) (fun e => ?_)
  · have e := of_decide_eq_true e
    rw [show (1 : Int) = ((1 : Nat) : Int) from rfl, geti_lt (l := p.1) (k := 1) (by omega), bO_some]
    unfold s_l9On_j1
    rw [s_ar, bO_some]
    have q1 := p2 1 (by omega)
    have d1 : p.1[0] ≠ p.1[1] := fun h => by have := p3 0 1 (by omega) (by omega) h; omega
    refine Ok.br (fun e => ?_) (fun e => ?_)
    · have e := of_decide_eq_true e
      rw [show (2 : Int) = ((2 : Nat) : Int) from rfl, geti_lt (l := p.1) (k := 2) (by omega), bO_some]
      have q2 := p2 2 (by omega)
      have d2 : p.1[0] ≠ p.1[2] := fun h => by have := p3 0 2 (by omega) (by omega) h; omega
      have d3 : p.1[1] ≠ p.1[2] := fun h => by have := p3 1 2 (by omega) (by omega) h; omega
      refine Ok.some ⟨⟨rfl, fun hk => ?_⟩, hpc⟩
      have ha : arity k = 3 := by have := ar_le k; omega
      show ivg k p.1[0] p.1[1] p.1[2] n = true
      unfold ivg
      rw [ha]
      simp [okQ]
      grind
    · have e := of_decide_eq_false e
      refine Ok.some ⟨⟨rfl, fun hk => ?_⟩, hpc⟩
      have ha : arity k = 2 := by omega
      show ivg k p.1[0] p.1[1] 0 n = true
      unfold ivg
      rw [ha]
      simp [okQ]
      grind
  · have e := of_decide_eq_false e
    unfold s_l9On_j1
    rw [s_ar, bO_some]
    have hlt : ¬ 2 < arity k := by omega
    simp only [hlt, decide_false, br_false]
    refine Ok.some ⟨⟨rfl, fun hk => ?_⟩, hpc⟩
    have ha : arity k = 1 := by
      have := ar_le k
      have : arity k ≠ 0 := fun h => a1 h hk
      omega
    show ivg k p.1[0] 0 0 n = true
    unfold ivg
    rw [ha]
    simp [okQ]
    omega
theorem cliff_ok {b : List Int} {i h : Int} {n : Nat} (hc : CurP (b, i, h)) (hn : 1 ≤ n ∧ n ≤ 4) : Ok (s_l25Cliff b i h n) (fun r => (clif r.1 = true ∧ ivg r.1 r.2.1 r.2.2.1 r.2.2.2.1 n = true) ∧ CurP r.2.2.2.2) := by
  unfold s_l25Cliff
  refine (pick_ok hc (by simp)).bO fun q hq => ?_
  rw [s_ar, bO_some]
  have hk := hq.1
  simp only [List.mem_cons, List.not_mem_nil, or_false] at hk
  refine Ok.br (fun e => ?_) (fun e => ?_)
  · unfold s_l25Cliff_j1
    exact (on_ok hq.2 hn (k := 4) (by have : arity 4 = 1 := rfl; omega)).bO fun r hr => Ok.some ⟨⟨by rw [hr.1.1]; rfl, hr.1.2 (by omega)⟩, hr.2⟩
  · have e := of_decide_eq_false e
    unfold s_l25Cliff_j1
    refine (on_ok hq.2 hn (k := q.1) (by omega)).bO fun r hr => Ok.some ⟨⟨?_, hr.1.2 (by omega)⟩, hr.2⟩
    rw [hr.1.1]
    rcases hk with h | h | h | h | h | h | h | h | h | h | h <;> rw [h] <;> rfl
theorem nat_of {n : Int} (h : 1 ≤ n ∧ n ≤ 4) : ∃ k : Nat, n = (k : Int) ∧ 1 ≤ k ∧ k ≤ 4 := ⟨n.toNat, by omega, by omega, by omega⟩
end Go.Proofs.YtfoiedjjhgpcpaaGreat
/- Plain laws: drawn circuits and tableaux. -/
namespace Go.Proofs.YtfoiedjjhgpcpaaGreat
open Go.RowKit
set_option maxRecDepth 100000
set_option linter.unusedVariables false
set_option linter.unusedSimpArgs false
/-- What is drawn. -/
theorem dcirc_ok {b : List Int} {i h most : Int} {n : Nat} (hc : CurP (b, i, h)) (hn : 1 ≤ n ∧ n ≤ 4) (hm : 0 ≤ most ∧ most ≤ 60) : Ok (s_l26Circ b i h n most) (fun r => (r.1 = n ∧ (∀ g ∈ r.2.1, GateOk n g) ∧ (r.2.1.length : Int) ≤ most) ∧ CurP r.2.2) := by
  unfold s_l26Circ
  refine (below_ok hc).bO fun x hx => ?_
  have hw : IntKind.wrap .i64 (most + 1) = most + 1 := w64 (by omega) (by omega)
  rw [hw] at hx
  have hx1 := hx.1.2.1 (by omega)
  have key : ∀ (m : Nat) (k : Nat) (b : List Int) (i h : Int) (gs : List Q4), (k : Int) ≤ x.1 → x.1 - k < m → gs.length = k → CurP (b, i, h) → (∀ g ∈ gs, GateOk n g) →
      Ok (s_l26Circ_l1 n x m b i h k gs) (fun r => (r.1 = n ∧ (∀ g ∈ r.2.1, GateOk n g) ∧ (r.2.1.length : Int) ≤ most) ∧ CurP r.2.2) := by
    intro m
    induction m with
    | zero => intro k b i h gs h1 h2; omega
    | succ m ih =>
      intro k b i h gs h1 h2 h3 hc hg
      rw [s_l26Circ_l1]
      refine Ok.br (fun e => ?_) (fun e => Ok.some ⟨⟨rfl, hg, by show (gs.length : Int) ≤ most; omega⟩, hc⟩)
      have e := of_decide_eq_true e
      refine (cliff_ok hc hn).bO fun g hg1 => Ok.gd (decide_eq_true (by simp; omega)) ?_
      rw [w64 (by omega) (by omega), show (k : Int) + 1 = ((k + 1 : Nat) : Int) by omega]
      refine ih (k + 1) _ _ _ _ (by omega) (by omega) (by simp; omega) hg1.2 (fun y hy => ?_)
      rcases List.mem_append.1 hy with hy | hy
      · exact hg y hy
      · simp only [List.mem_cons, List.not_mem_nil, or_false] at hy
        subst hy
        exact hg1.1
  exact key FU 0 _ _ _ [] (by omega) (by rw [FU_eq]; omega) rfl hx.2 (by simp)
theorem dtab_ok {b : List Int} {i h : Int} (hc : CurP (b, i, h)) : Ok (s_l26Tab b i h) (fun r => ((1 ≤ r.1 ∧ r.1 ≤ 4) ∧ tB r.1 r.2.1 = true) ∧ CurP r.2.2) := by
  unfold s_l26Tab
  refine (below_ok hc).bO fun x hx => ?_
  have hb := hx.1.2.1 (by omega)
  obtain ⟨n, hn, hn1⟩ := nat_of (n := IntKind.wrap .i64 (1 + x.1)) (by rw [w64 (by omega) (by omega)]; omega)
  rw [hn]
  refine (dcirc_ok hx.2 hn1 (by omega)).bO fun g hg => ?_
  obtain ⟨⟨g1, g2, g3⟩, g4⟩ := hg
  have hN : 1 ≤ (n : Int) ∧ (n : Int) ≤ 4 := by omega
  rw [g1, circ_ok hN g.2.1 (by omega) g2, bO_some]
  exact Ok.some ⟨⟨hN, runG_tB hN _ _ g2 (id_ok hN).2.2.1⟩, g4⟩
theorem dbent_ok {b : List Int} {i h : Int} (hc : CurP (b, i, h)) : Ok (s_l26Bent b i h) (fun r => r.2.1.length ≤ 8 ∧ CurP r.2.2) := by
  unfold s_l26Bent
  refine (dtab_ok hc).bO fun t ht => ?_
  obtain ⟨⟨hN, htB⟩, htc⟩ := ht
  obtain ⟨_, hlen⟩ := tB_len htB
  have h8 : t.2.1.length ≤ 8 := by omega
  refine (below_ok htc).bO fun x hx => ?_
  refine Ok.br (fun _ => (pick_ok hx.2 (by simp)).bO fun q hq => Ok.some ⟨h8, hq.2⟩) (fun _ => Ok.br (fun _ => ?_) (fun _ => Ok.br (fun _ => ?_) (fun _ => Ok.br (fun _ => ?_) (fun _ => Ok.some ⟨h8, hx.2⟩))))
  · refine (below_ok hx.2).bO fun y hy => (bent_ok hy.2).bO fun p hp => ?_
    have := hy.1.2.1 (by omega)
    refine (geti_ok ⟨hy.1.1, this⟩).bO fun q hq => Ok.some ⟨by simpa using h8, hp⟩
  · refine (below_ok hx.2).bO fun y hy => ?_
    have := hy.1.2.1 (by omega)
    obtain ⟨k, hk⟩ : ∃ k : Nat, y.1 = (k : Int) := ⟨y.1.toNat, by have := hy.1.1; omega⟩
    rw [hk, slc_pre (by omega), bO_some]
    exact Ok.some ⟨by simp; omega, hy.2⟩
  · refine (geti_ok (l := t.2.1) (i := 0) ⟨by omega, by omega⟩).bO fun q hq => Ok.some ⟨by simpa using h8, hx.2⟩
end Go.Proofs.YtfoiedjjhgpcpaaGreat
