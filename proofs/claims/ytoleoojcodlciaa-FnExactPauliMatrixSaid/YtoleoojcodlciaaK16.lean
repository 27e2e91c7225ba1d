/- Joined texts: Pza Prc Pzb Pzc. -/
import Derived.Test.YtoleoojcodlciaaK15
import Derived.Test.YtoleoojcodlciaaK8
import Derived.Test.YtoleoojcodlciaaK6
/- Plain laws: the arithmetic of both sides is that of reduced numbers. -/
namespace Go.Proofs.Ytoleoojcodlciaa
open Go.RowKit
set_option maxRecDepth 100000
set_option linter.unusedVariables false
set_option linter.unusedSimpArgs false
theorem tm2 (x : Int) : (Int.tmod x 2 != 0) = !(x % 2 == 0) := by
  have h := Int.tmod_eq_emod (a := x) (b := 2)
  rw [Bool.eq_iff_iff]
  simp only [bne_iff_ne, ne_eq, Bool.not_eq_true', beq_eq_false_iff_ne]
  rw [h]
  split <;> omega
theorem td2 {x : Int} (h : x % 2 = 0) : Int.tdiv x 2 = x / 2 := by
  rw [Int.tdiv_eq_ediv_of_dvd (by omega)]
def dvF (x : Z4) : Int × Int × Int × Int × Bool := if vz x = true ∧ dvb x = true then ((dvh x).1, (dvh x).2.1, (dvh x).2.2.1, (dvh x).2.2.2, true) else (0, 0, 0, 0, false)
/-- What functions with a success flag give back. -/
def res (o : Option DQ) : Int × Int × Int × Int × Int × Bool := match o with
  | some z => (z.1, z.2.1, z.2.2.1, z.2.2.2.1, z.2.2.2.2, true)
  | none => (0, 0, 0, 0, 0, false)
def resz (o : Option Z4) : Int × Int × Int × Int × Bool := match o with
  | some z => (z.1, z.2.1, z.2.2.1, z.2.2.2, true)
  | none => (0, 0, 0, 0, false)
theorem wmm {p q r s : Int} (hp : -((1073741824 * 1073741824 : Nat) : Int) ≤ p ∧ p ≤ ((1073741824 * 1073741824 : Nat) : Int)) (hq : -((1073741824 * 1073741824 : Nat) : Int) ≤ q ∧ q ≤ ((1073741824 * 1073741824 : Nat) : Int)) (hr : -((1073741824 * 1073741824 : Nat) : Int) ≤ r ∧ r ≤ ((1073741824 * 1073741824 : Nat) : Int)) (hs : -((1073741824 * 1073741824 : Nat) : Int) ≤ s ∧ s ≤ ((1073741824 * 1073741824 : Nat) : Int)) :
    IntKind.wrap .i64 ((IntKind.wrap .i64 ((IntKind.wrap .i64 ((IntKind.wrap .i64 p) - (IntKind.wrap .i64 q))) - (IntKind.wrap .i64 r))) - (IntKind.wrap .i64 s)) = p - q - r - s := by
  rw [w64 (x := p) (by omega) (by omega), w64 (x := q) (by omega) (by omega), w64 (x := r) (by omega) (by omega), w64 (x := s) (by omega) (by omega), w64 (x := p - q) (by omega) (by omega), w64 (x := p - q - r) (by omega) (by omega), w64 (by omega) (by omega)]
theorem wpm1 {p q r s : Int} (hp : -((1073741824 * 1073741824 : Nat) : Int) ≤ p ∧ p ≤ ((1073741824 * 1073741824 : Nat) : Int)) (hq : -((1073741824 * 1073741824 : Nat) : Int) ≤ q ∧ q ≤ ((1073741824 * 1073741824 : Nat) : Int)) (hr : -((1073741824 * 1073741824 : Nat) : Int) ≤ r ∧ r ≤ ((1073741824 * 1073741824 : Nat) : Int)) (hs : -((1073741824 * 1073741824 : Nat) : Int) ≤ s ∧ s ≤ ((1073741824 * 1073741824 : Nat) : Int)) :
    IntKind.wrap .i64 ((IntKind.wrap .i64 ((IntKind.wrap .i64 ((IntKind.wrap .i64 p) + (IntKind.wrap .i64 q))) - (IntKind.wrap .i64 r))) - (IntKind.wrap .i64 s)) = p + q - r - s := by
  rw [w64 (x := p) (by omega) (by omega), w64 (x := q) (by omega) (by omega), w64 (x := r) (by omega) (by omega), w64 (x := s) (by omega) (by omega), w64 (x := p + q) (by omega) (by omega), w64 (x := p + q - r) (by omega) (by omega), w64 (by omega) (by omega)]
theorem wpm2 {p q r s : Int} (hp : -((1073741824 * 1073741824 : Nat) : Int) ≤ p ∧ p ≤ ((1073741824 * 1073741824 : Nat) : Int)) (hq : -((1073741824 * 1073741824 : Nat) : Int) ≤ q ∧ q ≤ ((1073741824 * 1073741824 : Nat) : Int)) (hr : -((1073741824 * 1073741824 : Nat) : Int) ≤ r ∧ r ≤ ((1073741824 * 1073741824 : Nat) : Int)) (hs : -((1073741824 * 1073741824 : Nat) : Int) ≤ s ∧ s ≤ ((1073741824 * 1073741824 : Nat) : Int)) :
    IntKind.wrap .i64 ((IntKind.wrap .i64 ((IntKind.wrap .i64 ((IntKind.wrap .i64 p) + (IntKind.wrap .i64 q))) + (IntKind.wrap .i64 r))) - (IntKind.wrap .i64 s)) = p + q + r - s := by
  rw [w64 (x := p) (by omega) (by omega), w64 (x := q) (by omega) (by omega), w64 (x := r) (by omega) (by omega), w64 (x := s) (by omega) (by omega), w64 (x := p + q) (by omega) (by omega), w64 (x := p + q + r) (by omega) (by omega), w64 (by omega) (by omega)]
theorem wpp {p q r s : Int} (hp : -((1073741824 * 1073741824 : Nat) : Int) ≤ p ∧ p ≤ ((1073741824 * 1073741824 : Nat) : Int)) (hq : -((1073741824 * 1073741824 : Nat) : Int) ≤ q ∧ q ≤ ((1073741824 * 1073741824 : Nat) : Int)) (hr : -((1073741824 * 1073741824 : Nat) : Int) ≤ r ∧ r ≤ ((1073741824 * 1073741824 : Nat) : Int)) (hs : -((1073741824 * 1073741824 : Nat) : Int) ≤ s ∧ s ≤ ((1073741824 * 1073741824 : Nat) : Int)) :
    IntKind.wrap .i64 ((IntKind.wrap .i64 ((IntKind.wrap .i64 ((IntKind.wrap .i64 p) + (IntKind.wrap .i64 q))) + (IntKind.wrap .i64 r))) + (IntKind.wrap .i64 s)) = p + q + r + s := by
  rw [w64 (x := p) (by omega) (by omega), w64 (x := q) (by omega) (by omega), w64 (x := r) (by omega) (by omega), w64 (x := s) (by omega) (by omega), w64 (x := p + q) (by omega) (by omega), w64 (x := p + q + r) (by omega) (by omega), w64 (by omega) (by omega)]
theorem mlz_rt (x : Z4) : mlz x (0, 1, 0, -1) = rt x := by unfold mlz rt; apply z_ext <;> simp only <;> omega
theorem rtn_s (k : Nat) (x : Z4) : rtn (k + 1) x = rtn k (rt x) := by rw [show rtn (k + 1) x = rt (rtn k x) from rfl]; exact rtn_swap 1 k x
theorem rt_vz {k : Nat} {x : Z4} (h : vz (rt x) = false) : vz (rtn (k + 1) x) = false := by
  rw [Bool.eq_false_iff]
  intro e
  rw [rtn_s] at e
  have := (vz_iff _).2 (rtn_bd k ((vz_iff _).1 e))
  rw [h] at this
  cases this
/-- n raised by k roots, if it stays small. -/
def upz (n : Z4) (k : Nat) : Option Z4 := if vz (rtn k n) = true then some (rtn k n) else none
theorem zex_n {x : DQ} (h : vd x = true) : x.2.2.2.2 = (zexn x : Int) ∧ zexn x ≤ 60 := by
  obtain ⟨_, h2, _⟩ := (vd_iff x).1 h
  unfold zexn
  unfold zex at *
  omega
end Go.Proofs.Ytoleoojcodlciaa
/- Plain laws: matrices of Pauli operators: what they do to a state, and their products. -/
namespace Go.Proofs.Ytoleoojcodlciaa
open Go.RowKit
set_option maxRecDepth 100000
set_option linter.unusedVariables false
set_option linter.unusedSimpArgs false
/-- The matrix of a Pauli operator. -/
def pe (q : Q4) (c : Nat) : Nat := (q.2.2.2 + 2 * pc (an q.2.2.1 (c : Int))).toNat
def pmE (q : Q4) (r c : Nat) : DQ := if c ^^^ q.2.1.toNat = r then ph4 (pe q c) else d0
def pmR (q : Q4) (r : Nat) : List DQ := (List.range (2 ^ q.1.toNat)).map (pmE q r)
def pmL (q : Q4) : List (List DQ) := (List.range (2 ^ q.1.toNat)).map (pmR q)
def apF : List (List DQ) → List DQ → Option (List DQ)
  | [], _ => some []
  | row :: m, v => (dotF d0 row v).bind fun z => (apF m v).bind fun r => some (z :: r)
theorem apF_map {α : Type} (f : α → List DQ) (g : α → DQ) (v : List DQ) : ∀ (l : List α), (∀ r ∈ l, dotF d0 (f r) v = some (g r)) → apF (l.map f) v = some (l.map g)
  | [], _ => rfl
  | a :: l, h => by
    rw [List.map_cons, apF, h a (List.mem_cons_self ..), Option.bind_some, apF_map f g v l (fun r hr => h r (List.mem_cons_of_mem _ hr))]
    rfl
def pix (q : Q4) (r : Nat) : Nat := r ^^^ q.2.1.toNat
def atp (q : Q4) (v : List DQ) (r : Nat) : DQ := phx (pe q (pix q r)) (v[pix q r]?.getD d0)
/-- A Pauli operator on a state. -/
def apP (q : Q4) (v : List DQ) : List DQ := (List.range (2 ^ q.1.toNat)).map (atp q v)
theorem pix_lt {q : Q4} (hq : vP q = true) {r : Nat} (hr : r < 2 ^ q.1.toNat) : pix q r < 2 ^ q.1.toNat := by
  obtain ⟨n, x, z, p⟩ := q
  obtain ⟨h1, h2, h3, h4⟩ := vP_iff.1 hq
  refine Nat.xor_lt_two_pow hr ?_
  show x.toNat < 2 ^ n.toNat
  have e : ((2 ^ n.toNat : Nat) : Int) = 2 ^ n.toNat := by simp
  omega
theorem pix_pix (q : Q4) (r : Nat) : pix q (pix q r) = r := by unfold pix; rw [Nat.xor_assoc, Nat.xor_self, Nat.xor_zero]
theorem pix_eq {q : Q4} {r c : Nat} : c ^^^ q.2.1.toNat = r ↔ c = pix q r := by
  unfold pix
  constructor
  · rintro rfl; rw [Nat.xor_assoc, Nat.xor_self, Nat.xor_zero]
  · rintro rfl; rw [Nat.xor_assoc, Nat.xor_self, Nat.xor_zero]
theorem dot_pm {q : Q4} (hq : vP q = true) {v : List DQ} (hv : v.length = 2 ^ q.1.toNat) (hd : ∀ x ∈ v, vd x = true) {r : Nat} (hr : r < 2 ^ q.1.toNat) : dotF d0 (pmR q r) v = some (atp q v r) := by
  have hx := pix_lt hq hr
  have hxv : pix q r < v.length := by omega
  have hg : v[pix q r]? = some v[pix q r] := List.getElem?_eq_getElem hxv
  have e : (pmR q r)[pix q r]? = some (ph4 (pe q (pix q r))) := by
    unfold pmR
    rw [List.getElem?_map, List.getElem?_range hx]
    show some (pmE q r (pix q r)) = _
    unfold pmE
    rw [if_pos (pix_eq.2 rfl)]
  rw [dot_single _ v (pix q r) _ _ e hg ?_]
  · rw [ph_mul (hd _ (List.getElem_mem hxv))]
    unfold atp
    rw [hg]; rfl
  · intro i x hi hx
    unfold pmR at hx
    rw [List.getElem?_map] at hx
    by_cases hil : i < 2 ^ q.1.toNat
    · rw [List.getElem?_range hil] at hx
      injection hx with hx
      rw [← hx]
      unfold pmE
      rw [if_neg (fun h => hi (pix_eq.1 h))]
    · rw [List.getElem?_eq_none (by simpa using hil)] at hx
      cases hx
theorem ap_pm {q : Q4} (hq : vP q = true) {v : List DQ} (hv : v.length = 2 ^ q.1.toNat) (hd : ∀ x ∈ v, vd x = true) : apF (pmL q) v = some (apP q v) :=
  apF_map (pmR q) (atp q v) v _ fun r hr => dot_pm hq hv hd (List.mem_range.1 hr)
theorem pm_vd (q : Q4) (r c : Nat) : vd (pmE q r c) = true := by
  unfold pmE; split
  · exact ph_vd4 _
  · exact vd_d0
theorem ap_len (q : Q4) (v : List DQ) : (apP q v).length = 2 ^ q.1.toNat := by simp [apP]
theorem ap_get (q : Q4) (v : List DQ) {r : Nat} (hr : r < 2 ^ q.1.toNat) : (apP q v)[r]? = some (atp q v r) := by
  unfold apP; rw [List.getElem?_map, List.getElem?_range hr]; rfl
theorem ap_vd {q : Q4} {v : List DQ} (hd : ∀ x ∈ v, vd x = true) : ∀ x ∈ apP q v, vd x = true := by
  intro x hx
  obtain ⟨r, _, rfl⟩ := List.mem_map.1 hx
  unfold atp
  refine ph_vd ?_
  cases h : v[pix q r]? with
  | none => exact vd_d0
  | some y => exact hd y (List.mem_of_getElem? h)
theorem pc_xo_fin3 : ∀ a b k : Fin 16, (pc (an (xo (a.val : Int) (b.val : Int)) (k.val : Int)) - pc (an (a.val : Int) (k.val : Int)) - pc (an (b.val : Int) (k.val : Int))) % 2 = 0 := by decide +kernel
/-- The product of two. -/
theorem pm_mul {a b : Q4} (ha : vP a = true) (hb : vP b = true) (hab : a.1 = b.1) {r k : Nat} (hr : r < 2 ^ a.1.toNat) (hk : k < 2 ^ a.1.toNat) : phx (pe a (pix a r)) (pmE b (pix a r) k) = pmE (mulQ a b) r k := by
  obtain ⟨n, x, z, p⟩ := a
  obtain ⟨m, y, w, s⟩ := b
  obtain rfl : n = m := hab
  obtain ⟨sx, sz, hp⟩ := vP_sm ha
  obtain ⟨sy, sw, hs⟩ := vP_sm hb
  have hn := (vP_iff.1 ha).1
  have hk16 : k < 16 := by
    have := pow_le hn
    have e : ((2 ^ n.toNat : Nat) : Int) = 2 ^ n.toNat := by simp
    have hk : k < 2 ^ n.toNat := hk
    omega
  have hk' : Sm (k : Int) := ⟨by omega, by omega⟩
  unfold pmE mulQ
  simp only
  have ex : (xo x y).toNat = x.toNat ^^^ y.toNat := by unfold xo; simp
  have e1 : (k ^^^ y.toNat = pix (n, x, z, p) r) ↔ (k ^^^ (xo x y).toNat = r) := by
    rw [ex]
    unfold pix
    simp only
    constructor
    · intro h
      rw [Nat.xor_comm x.toNat, ← Nat.xor_assoc, h, Nat.xor_assoc, Nat.xor_self, Nat.xor_zero]
    · rintro rfl
      rw [Nat.xor_comm x.toNat, ← Nat.xor_assoc, Nat.xor_assoc, Nat.xor_self, Nat.xor_zero]
  by_cases h : k ^^^ y.toNat = pix (n, x, z, p) r
  · rw [if_pos h, if_pos (e1.1 h), ph_ph4, ← h]
    refine ph4_congr ?_
    unfold pe
    simp only
    have c1 : ((k ^^^ y.toNat : Nat) : Int) = xo (k : Int) y := by unfold xo; simp
    have p1 := pc_xo sz hk' sy
    obtain ⟨fz, rz⟩ := sz.fin
    obtain ⟨fw, rw'⟩ := sw.fin
    have p2 := pc_xo_fin3 fz fw ⟨k, hk16⟩
    rw [← rz, ← rw'] at p2
    simp only at p2
    rw [c1]
    have q1 := pc_bd (an z (xo (k : Int) y))
    have q2 := pc_bd (an w (k : Int))
    have q3 := pc_bd (an (xo z w) (k : Int))
    have q4 := pc_bd (an z y)
    have q5 := pc_bd (an z (k : Int))
    omega
  · rw [if_neg h, if_neg (fun h' => h (e1.2 h')), ph_d0]
end Go.Proofs.Ytoleoojcodlciaa
/- Plain laws: states, matrices and sums of products of both sides. -/
namespace Go.Proofs.Ytoleoojcodlciaa
open Go.RowKit
set_option maxRecDepth 100000
set_option linter.unusedVariables false
set_option linter.unusedSimpArgs false
/-- A valid state. -/
def qcF (n : Nat) : Int := if n = 2 then 1 else if n = 4 then 2 else if n = 8 then 3 else if n = 16 then 4 else 0
def stB (v : List DQ) : Bool := v.all vd && decide (0 < qcF v.length)
theorem qc_pos {n : Nat} (h : 0 < qcF n) : n ≤ 16 := by unfold qcF at h; (repeat' split at h) <;> omega
def gBv {α : Type} (f : α → Bool) (v : List α) (k : Nat) : Bool := match v[k]? with
  | some q => f q
  | none => false
theorem gBv_eq {α : Type} (f : α → Bool) {v : List α} {k : Nat} (h : k < v.length) : gBv f v k = f v[k] := by unfold gBv; rw [List.getElem?_eq_getElem h]
theorem all_get {α : Type} (v : List α) (f : α → Bool) : (List.range v.length).all (gBv f v) = v.all f := by
  rw [Bool.eq_iff_iff, List.all_eq_true, List.all_eq_true]
  constructor
  · intro h q hq
    obtain ⟨i, hi, rfl⟩ := List.getElem_of_mem hq
    have := h i (List.mem_range.2 hi)
    rw [gBv_eq f hi] at this
    exact this
  · intro h k hk
    have hk := List.mem_range.1 hk
    rw [gBv_eq f hk]
    exact h _ (List.getElem_mem hk)
def mtB (m : List (List DQ)) : Bool := m.all (fun row => row.length == m.length && stB row) && decide (0 < (m.length : Int))
def resl (o : Option (List DQ)) : List DQ × Bool := match o with
  | some r => (r, true)
  | none => ([], false)
theorem qcF_5 (n : Nat) : (if (n : Int) = 2 then (1 : Int) else if (n : Int) = 4 then 2 else if (n : Int) = 8 then 3 else if (n : Int) = 16 then 4 else 0) = qcF n := by
  unfold qcF
  by_cases h2 : n = 2
  · subst h2; rfl
  by_cases h4 : n = 4
  · subst h4; rfl
  by_cases h8 : n = 8
  · subst h8; rfl
  by_cases h16 : n = 16
  · subst h16; rfl
  rw [if_neg (by omega), if_neg (by omega), if_neg (by omega), if_neg (by omega), if_neg h2, if_neg h4, if_neg h8, if_neg h16]
theorem d0_eq (q : DQ) : ((q.1 == 0) && ((q.2.1 == 0) && ((q.2.2.1 == 0) && ((q.2.2.2.1 == 0) && (q.2.2.2.2 == 0))))) = decide (q = d0) := by
  obtain ⟨a, b, c, d, e⟩ := q
  rw [Bool.eq_iff_iff]
  simp [d0]
theorem st_inv {v : List DQ} (h : stB v = true) : (∀ x ∈ v, vd x = true) ∧ v.length ≤ 16 := by
  unfold stB at h
  rw [Bool.and_eq_true, List.all_eq_true, decide_eq_true_eq] at h
  exact ⟨h.1, qc_pos h.2⟩
theorem mt_inv {m : List (List DQ)} (h : mtB m = true) : ∀ r ∈ m, r.length = m.length ∧ stB r = true := by
  unfold mtB at h
  rw [Bool.and_eq_true, List.all_eq_true] at h
  intro r hr
  have := h.1 r hr
  simp only [Bool.and_eq_true, beq_iff_eq] at this
  exact this
def apM (m : List (List DQ)) (v : List DQ) : Option (List DQ) := if (mtB m = true ∧ stB v = true) ∧ m.length = v.length then apF m v else none
theorem eqs_step {a b : List DQ} (h : a.length = b.length) : (List.range a.length).all (fun k => a[k]? == b[k]?) = (a == b) := by
  rw [Bool.eq_iff_iff, List.all_eq_true, beq_iff_eq]
  constructor
  · intro hh
    refine List.ext_getElem? fun k => ?_
    by_cases hk : k < a.length
    · exact eq_of_beq (hh k (List.mem_range.2 hk))
    · rw [List.getElem?_eq_none (by omega), List.getElem?_eq_none (by omega)]
  · intro hh k _; rw [hh]; exact beq_self_eq_true _
end Go.Proofs.Ytoleoojcodlciaa
/- Plain laws: the matrices of Pauli operators of both sides. -/
namespace Go.Proofs.Ytoleoojcodlciaa
open Go.RowKit
set_option maxRecDepth 100000
set_option linter.unusedVariables false
set_option linter.unusedSimpArgs false
/-- A table of numbers. -/
def tbF (n : Nat) (g : Nat → Nat → DQ) : List (List DQ) := (List.range n).map fun a => (List.range n).map (g a)
theorem rg_get {α : Type} {n k : Nat} (f : Nat → α) (h : k < n) : geti ((List.range n).map f) (k : Int) = some (f k) := geti_nat (by rw [List.getElem?_map, List.getElem?_range h]; rfl)
theorem tb_get {n k : Nat} (g : Nat → Nat → DQ) (h : k < n) : geti (tbF n g) (k : Int) = some ((List.range n).map (g k)) := rg_get _ h
theorem tb_len (n : Nat) (g : Nat → Nat → DQ) : (tbF n g).length = n := by simp [tbF]
theorem rg_snoc {α : Type} (f : Nat → α) (k : Nat) : (List.range k).map f ++ [f k] = (List.range (k + 1)).map f := by rw [List.range_succ, List.map_append]; rfl
theorem s_col {n k : Nat} (g : Nat → Nat → DQ) (hn : n ≤ 4000) (h : k < n) : s_l7Column (tbF n g) (k : Int) = some ((List.range n).map fun a => g a k) := by
  unfold s_l7Column
  have key : ∀ (m i : Nat), i ≤ n → n - i < m → s_l7Column_l1 (tbF n g) (k : Int) m i ((List.range i).map fun a => g a k) = some ((List.range n).map fun a => g a k) := by
    intro m
    induction m with
    | zero => intro i _ h; omega
    | succ m ih =>
      intro i hi hm
      rw [s_l7Column_l1, tb_len]
      by_cases e : i = n
      · have hlt : decide ((i : Int) < (n : Int)) = false := decide_eq_false (by omega)
        rw [hlt, br_false, e]
        rfl
      · have hil : i < n := by omega
        have hlt : decide ((i : Int) < (n : Int)) = true := decide_eq_true (by omega)
        rw [hlt, br_true, tb_get g hil, bO_some, rg_get (g i) h, bO_some, show decide (((List.range i).map fun a => g a k).length + [(((g i k).1, (g i k).2.1, (g i k).2.2.1, (g i k).2.2.2.1, (g i k).2.2.2.2) : DQ)].length ≤ 16777216) = true from decide_eq_true (by simp; omega), gd_true, w64s hil (by omega)]
        have := ih (i + 1) (by omega) (by omega)
        rw [← rg_snoc] at this
        exact this
  exact key FU 0 (by omega) (by rw [FU_eq]; omega)
theorem s_cols {n : Nat} (g : Nat → Nat → DQ) (hn : n ≤ 4000) : s_l7Columns (tbF n g) = some (tbF n fun a b => g b a) := by
  unfold s_l7Columns
  have key : ∀ (m i : Nat), i ≤ n → n - i < m → s_l7Columns_l1 (tbF n g) m i ((List.range i).map fun a => (List.range n).map fun b => g b a) = some (tbF n fun a b => g b a) := by
    intro m
    induction m with
    | zero => intro i _ h; omega
    | succ m ih =>
      intro i hi hm
      rw [s_l7Columns_l1, tb_len]
      by_cases e : i = n
      · have hlt : decide ((i : Int) < (n : Int)) = false := decide_eq_false (by omega)
        rw [hlt, br_false, e]
        rfl
      · have hil : i < n := by omega
        have hlt : decide ((i : Int) < (n : Int)) = true := decide_eq_true (by omega)
        rw [hlt, br_true, s_col g hn hil, bO_some, show decide (((List.range i).map fun a => (List.range n).map fun b => g b a).length + [(List.range n).map fun a => g a i].length ≤ 16777216) = true from decide_eq_true (by simp; omega), gd_true, w64s hil (by omega)]
        have := ih (i + 1) (by omega) (by omega)
        rw [← rg_snoc] at this
        exact this
  exact key FU 0 (by omega) (by rw [FU_eq]; omega)
theorem i_flip {n : Nat} (g : Nat → Nat → DQ) (hn : n ≤ 4000) : i_flipped (tbF n g) = some (tbF n fun a b => g b a) := by
  unfold i_flipped
  have inner : ∀ (i : Nat) (out : List (List DQ)) (kl : Int → Int → List (List DQ) → Option (List (List DQ))), i < n → out.length ≤ 4000 → ∀ (m j : Nat), j ≤ n → n - j < m →
      i_flipped_l4 (tbF n g) (n : Int) (i : Int) out kl m (n : Int) j ((List.range j).map fun a => g a i) = kl (n : Int) ((i + 1 : Nat) : Int) (out ++ [(List.range n).map fun a => g a i]) := by
    intro i out kl hi ho m
    induction m with
    | zero => intro j _ h; omega
    | succ m ih =>
      intro j hj hm
      rw [i_flipped_l4]
      by_cases e : j = n
      · have hlt : decide ((j : Int) < (n : Int)) = false := decide_eq_false (by omega)
        rw [hlt, br_false, e]
        unfold i_flipped_j7 i_flipped_j6
        rw [show decide (out.length + [(List.range n).map fun a => g a i].length ≤ 16777216) = true from decide_eq_true (by simp; omega), gd_true, w64s hi (by omega)]
      · have hjl : j < n := by omega
        have hlt : decide ((j : Int) < (n : Int)) = true := decide_eq_true (by omega)
        rw [hlt, br_true, tb_get g hjl, bO_some, rg_get (g j) hi, bO_some, show decide (((List.range j).map fun a => g a i).length + [(((g j i).1, (g j i).2.1, (g j i).2.2.1, (g j i).2.2.2.1, (g j i).2.2.2.2) : DQ)].length ≤ 16777216) = true from decide_eq_true (by simp; omega), gd_true, w64s hjl (by omega)]
        have := ih (j + 1) (by omega) (by omega)
        rw [← rg_snoc] at this
        exact this
  have key : ∀ (m i : Nat), i ≤ n → n - i < m → i_flipped_l1 (tbF n g) m (n : Int) i ((List.range i).map fun a => (List.range n).map fun b => g b a) = some (tbF n fun a b => g b a) := by
    intro m
    induction m with
    | zero => intro i _ h; omega
    | succ m ih =>
      intro i hi hm
      rw [i_flipped_l1, tb_len]
      by_cases e : i = n
      · have hlt : decide ((i : Int) < (n : Int)) = false := decide_eq_false (by omega)
        rw [hlt, br_false, e]
        rfl
      · have hil : i < n := by omega
        have hlt : decide ((i : Int) < (n : Int)) = true := decide_eq_true (by omega)
        rw [hlt, br_true]
        have h1 := inner i ((List.range i).map fun a => (List.range n).map fun b => g b a) (i_flipped_l1 (tbF n g) m) hil (by simp; omega) FU 0 (by omega) (by rw [FU_eq]; omega)
        refine Eq.trans h1 ?_
        have := ih (i + 1) (by omega) (by omega)
        rw [← rg_snoc] at this
        exact this
  have := key FU 0 (by omega) (by rw [FU_eq]; omega)
  rw [tb_len]
  exact this
/-- A column as it is made. -/
theorem set_col {n c : Nat} (q : DQ) (hc : c < n) : (List.replicate n ((0, 0, 0, 0, 0) : Int × Int × Int × Int × Int)).set c q = (List.range n).map fun r => if c = r then q else d0 := by
  refine List.ext_getElem? fun r => ?_
  rw [List.getElem?_set, List.getElem?_map]
  by_cases hr : r < n
  · rw [List.getElem?_range hr, List.getElem?_replicate]
    by_cases e : c = r
    · subst e
      rw [if_pos rfl, if_pos (by simpa using hr)]
      show some q = some (if c = c then q else d0)
      rw [if_pos rfl]
    · rw [if_neg e, if_pos hr]
      show some (0, 0, 0, 0, 0) = some (if c = r then q else d0)
      rw [if_neg e]
      rfl
  · rw [if_neg (by omega), List.getElem?_eq_none (by simpa using hr), List.getElem?_eq_none (by simpa using hr)]
    rfl
theorem pf_i : ∀ p : Fin 4, ∀ c : Fin 5, i_PhaseFactor (IntKind.wrap .i64 ((IntKind.wrap .i64 (2 * (p.val : Int))) + (IntKind.wrap .i64 (4 * (c.val : Int))))) = some (ph4 ((p.val : Int) + 2 * (c.val : Int)).toNat) := by decide +kernel
theorem pf_s : ∀ p : Fin 4, ∀ c : Fin 5, s_PhaseFactor (IntKind.wrap .i64 ((IntKind.wrap .i64 (2 * (p.val : Int))) + (IntKind.wrap .i64 (4 * (c.val : Int))))) = some (ph4 ((p.val : Int) + 2 * (c.val : Int)).toNat) := by decide +kernel
theorem pf_i' {p c : Int} (hp : 0 ≤ p ∧ p ≤ 3) (hc : 0 ≤ c ∧ c ≤ 4) : i_PhaseFactor (IntKind.wrap .i64 ((IntKind.wrap .i64 (2 * p)) + (IntKind.wrap .i64 (4 * c)))) = some (ph4 (p + 2 * c).toNat) := by
  obtain ⟨a, rfl⟩ : ∃ a : Fin 4, p = (a.val : Int) := ⟨⟨p.toNat, by omega⟩, by simp; omega⟩
  obtain ⟨b, rfl⟩ : ∃ b : Fin 5, c = (b.val : Int) := ⟨⟨c.toNat, by omega⟩, by simp; omega⟩
  exact pf_i a b
theorem pf_s' {p c : Int} (hp : 0 ≤ p ∧ p ≤ 3) (hc : 0 ≤ c ∧ c ≤ 4) : s_PhaseFactor (IntKind.wrap .i64 ((IntKind.wrap .i64 (2 * p)) + (IntKind.wrap .i64 (4 * c)))) = some (ph4 (p + 2 * c).toNat) := by
  obtain ⟨a, rfl⟩ : ∃ a : Fin 4, p = (a.val : Int) := ⟨⟨p.toNat, by omega⟩, by simp; omega⟩
  obtain ⟨b, rfl⟩ : ∃ b : Fin 5, c = (b.val : Int) := ⟨⟨c.toNat, by omega⟩, by simp; omega⟩
  exact pf_s a b
theorem sh_i {n : Int} (h : 1 ≤ n ∧ n ≤ 4) : IntKind.wrap .i64 (1 * 2 ^ min (Int.toNat n) (IntKind.bits .i64)) = ((2 ^ n.toNat : Nat) : Int) := by
  rcases four h with rfl | rfl | rfl | rfl <;> rfl
theorem u64_4 {n : Int} (h : 1 ≤ n ∧ n ≤ 4) : IntKind.wrap .u64 n = n := by
  rcases four h with rfl | rfl | rfl | rfl <;> rfl
theorem pw16 {n : Int} (h : 1 ≤ n ∧ n ≤ 4) : 2 ^ n.toNat ≤ 16 := by
  rcases four h with rfl | rfl | rfl | rfl <;> decide
theorem pm_tb (q : Q4) : pmL q = tbF (2 ^ q.1.toNat) (fun r c => pmE q r c) := rfl
/-- What is needed of one column. -/
theorem col_facts {n x z p : Int} (hv : vP (n, x, z, p) = true) {i : Nat} (hi : i < 2 ^ n.toNat) : Sm (i : Int) ∧ (bits .xor .i64 (i : Int) x = (((i ^^^ x.toNat : Nat)) : Int) ∧ i ^^^ x.toNat < 2 ^ n.toNat) ∧ (0 ≤ pc (an z (i : Int)) ∧ pc (an z (i : Int)) ≤ 4) := by
  obtain ⟨h1, h2, h3, h4⟩ := vP_iff.1 hv
  obtain ⟨sx, sz, sp⟩ := vP_sm hv
  have := pw16 h1
  have si : Sm (i : Int) := ⟨by omega, by omega⟩
  refine ⟨si, ⟨?_, ?_⟩, pc_bd _⟩
  · rw [xor_eq si sx]
    unfold xo
    simp
  · refine Nat.xor_lt_two_pow hi ?_
    have e : ((2 ^ n.toNat : Nat) : Int) = 2 ^ n.toNat := by simp
    exact (Int.toNat_lt h2.1).2 (by rw [e]; exact h2.2)
theorem i_pm {n x z p : Int} (hv : vP (n, x, z, p) = true) : i_PauliMatrix n x z p = some (pmL (n, x, z, p)) := by
  obtain ⟨h1, h2, h3, h4⟩ := vP_iff.1 hv
  obtain ⟨sx, sz, sp⟩ := vP_sm hv
  have h16 := pw16 h1
  unfold i_PauliMatrix
  rw [i_valid, bO_some, hv]
  simp only [Bool.not_true, br_false]
  have hn0 : decide (¬ n < 0) = true := decide_eq_true (by omega)
  have key : ∀ (m i : Nat), i ≤ 2 ^ n.toNat → 2 ^ n.toNat - i < m → i_PauliMatrix_l1 n x z p m i ((List.range i).map fun c => (List.range (2 ^ n.toNat)).map fun r => pmE (n, x, z, p) r c) = some (pmL (n, x, z, p)) := by
    intro m
    induction m with
    | zero => intro i _ h; omega
    | succ m ih =>
      intro i hi hm
      rw [i_PauliMatrix_l1, hn0, gd_true, sh_i h1]
      by_cases e : i = 2 ^ n.toNat
      · have hlt : decide ((i : Int) < ((2 ^ n.toNat : Nat) : Int)) = false := decide_eq_false (by omega)
        rw [hlt, br_false, e]
        unfold i_PauliMatrix_j1
        have hf := i_flip (n := 2 ^ n.toNat) (fun c r => pmE (n, x, z, p) r c) (by omega)
        unfold tbF at hf
        rw [hf, bO_some]
        rfl
      · have hil : i < 2 ^ n.toNat := by omega
        have hlt : decide ((i : Int) < ((2 ^ n.toNat : Nat) : Int)) = true := decide_eq_true (by omega)
        obtain ⟨si, ⟨c1, c2⟩, c3⟩ := col_facts hv hil
        have hb : decide (0 ≤ ((2 ^ n.toNat : Nat) : Int) ∧ ((2 ^ n.toNat : Nat) : Int) ≤ 1048576) = true := decide_eq_true (by omega)
        rw [hlt, br_true, gd_true, hb, gd_true, and_eq sz si, i_ones_eq (an_sm sz si), bO_some, pf_i' sp c3, bO_some, c1, Int.toNat_natCast]
        have hg : geti (List.replicate (2 ^ n.toNat) ((0, 0, 0, 0, 0) : Int × Int × Int × Int × Int)) ((i ^^^ x.toNat : Nat) : Int) = some (0, 0, 0, 0, 0) := geti_nat (by rw [List.getElem?_replicate, if_pos c2])
        rw [hg, bO_some, Int.toNat_natCast, set_col _ c2, w64s hil (by omega)]
        rw [show decide (((List.range i).map fun c => (List.range (2 ^ n.toNat)).map fun r => pmE (n, x, z, p) r c).length + [(List.range (2 ^ n.toNat)).map fun r => if i ^^^ x.toNat = r then ((ph4 (p + 2 * pc (an z (i : Int))).toNat).1, (ph4 (p + 2 * pc (an z (i : Int))).toNat).2.1, (ph4 (p + 2 * pc (an z (i : Int))).toNat).2.2.1, (ph4 (p + 2 * pc (an z (i : Int))).toNat).2.2.2.1, (ph4 (p + 2 * pc (an z (i : Int))).toNat).2.2.2.2) else d0].length ≤ 16777216) = true from decide_eq_true (by simp; omega), gd_true]
        have := ih (i + 1) (by omega) (by omega)
        rw [← rg_snoc] at this
        exact this
  exact key FU 0 (Nat.zero_le _) (by rw [FU_eq]; omega)
theorem i_pm_no {n x z p : Int} (hv : vP (n, x, z, p) = false) : i_PauliMatrix n x z p = some [] := by
  unfold i_PauliMatrix
  rw [i_valid, bO_some, hv]
  rfl
theorem s_pm {n x z p : Int} (hv : vP (n, x, z, p) = true) : s_PauliMatrix n x z p = some (pmL (n, x, z, p)) := by
  obtain ⟨h1, h2, h3, h4⟩ := vP_iff.1 hv
  obtain ⟨sx, sz, sp⟩ := vP_sm hv
  have h16 := pw16 h1
  unfold s_PauliMatrix
  have hn0 : decide (¬ n < 0) = true := decide_eq_true (by omega)
  have key : ∀ (m i : Nat), i ≤ 2 ^ n.toNat → 2 ^ n.toNat - i < m → s_PauliMatrix_l1 n x z p m i ((List.range i).map fun c => (List.range (2 ^ n.toNat)).map fun r => pmE (n, x, z, p) r c) = some (pmL (n, x, z, p)) := by
    intro m
    induction m with
    | zero => intro i _ h; omega
    | succ m ih =>
      intro i hi hm
      rw [s_PauliMatrix_l1, s_valid, bO_some, hv, br_true, u64_4 h1, hn0, gd_true, bO_some, sh_i h1]
      unfold s_PauliMatrix_j4
      by_cases e : i = 2 ^ n.toNat
      · have hlt : decide ((i : Int) < ((2 ^ n.toNat : Nat) : Int)) = false := decide_eq_false (by omega)
        rw [hlt, br_false, e]
        unfold s_PauliMatrix_j1
        have hf := s_cols (n := 2 ^ n.toNat) (fun c r => pmE (n, x, z, p) r c) (by omega)
        unfold tbF at hf
        rw [hf, bO_some]
        rfl
      · have hil : i < 2 ^ n.toNat := by omega
        have hlt : decide ((i : Int) < ((2 ^ n.toNat : Nat) : Int)) = true := decide_eq_true (by omega)
        obtain ⟨si, ⟨c1, c2⟩, c3⟩ := col_facts hv hil
        have hb : decide (0 ≤ ((2 ^ n.toNat : Nat) : Int) ∧ ((2 ^ n.toNat : Nat) : Int) ≤ 1048576) = true := decide_eq_true (by omega)
        have ha : an (i : Int) z = an z (i : Int) := by unfold an; rw [Nat.and_comm]
        rw [hlt, br_true, u64_4 h1, hn0, gd_true, sh_i h1, hb, gd_true, and_eq si sz, ha, s_ones_eq (an_sm sz si), bO_some, pf_s' sp c3, bO_some, c1, Int.toNat_natCast]
        have hg : geti (List.replicate (2 ^ n.toNat) ((0, 0, 0, 0, 0) : Int × Int × Int × Int × Int)) ((i ^^^ x.toNat : Nat) : Int) = some (0, 0, 0, 0, 0) := geti_nat (by rw [List.getElem?_replicate, if_pos c2])
        rw [hg, bO_some, Int.toNat_natCast, set_col _ c2, w64s hil (by omega)]
        rw [show decide (((List.range i).map fun c => (List.range (2 ^ n.toNat)).map fun r => pmE (n, x, z, p) r c).length + [(List.range (2 ^ n.toNat)).map fun r => if i ^^^ x.toNat = r then ((ph4 (p + 2 * pc (an z (i : Int))).toNat).1, (ph4 (p + 2 * pc (an z (i : Int))).toNat).2.1, (ph4 (p + 2 * pc (an z (i : Int))).toNat).2.2.1, (ph4 (p + 2 * pc (an z (i : Int))).toNat).2.2.2.1, (ph4 (p + 2 * pc (an z (i : Int))).toNat).2.2.2.2) else d0].length ≤ 16777216) = true from decide_eq_true (by simp; omega), gd_true]
        have := ih (i + 1) (by omega) (by omega)
        rw [← rg_snoc] at this
        exact this
  exact key FU 0 (Nat.zero_le _) (by rw [FU_eq]; omega)
theorem s_pm_no {n x z p : Int} (hv : vP (n, x, z, p) = false) : s_PauliMatrix n x z p = some [] := by
  unfold s_PauliMatrix
  obtain ⟨k, hk⟩ : ∃ k, FU = k + 1 := ⟨4194303, rfl⟩
  rw [hk, s_PauliMatrix_l1, s_valid, bO_some, hv]
  unfold s_PauliMatrix_j4 s_PauliMatrix_j1
  simp only [br_false, bO_some]
  have := s_cols (n := 0) (fun _ _ => d0) (by omega)
  have e : s_l7Columns [] = some [] := this
  rw [e, bO_some]
/-- The matrix of any four numbers: of both sides. -/
theorem pm_both (n x z p : Int) : ∃ m, i_PauliMatrix n x z p = some m ∧ s_PauliMatrix n x z p = some m ∧ m.length ≤ 16 ∧ ∀ r ∈ m, r.length ≤ 16 := by
  cases hv : vP (n, x, z, p) with
  | false => exact ⟨[], i_pm_no hv, s_pm_no hv, by simp, by simp⟩
  | true =>
    have h16 := pw16 (vP_iff.1 hv).1
    refine ⟨_, i_pm hv, s_pm hv, by rw [pm_tb, tb_len]; exact h16, fun r hr => ?_⟩
    obtain ⟨a, _, rfl⟩ := List.mem_map.1 hr
    show (pmR _ _).length ≤ 16
    unfold pmR
    simp
    exact h16
end Go.Proofs.Ytoleoojcodlciaa
