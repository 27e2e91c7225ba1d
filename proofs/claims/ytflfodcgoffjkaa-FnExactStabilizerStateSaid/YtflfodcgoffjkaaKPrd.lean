/- Plain laws: the reduction leads to the identity. -/
import Derived.Test.YtflfodcgoffjkaaKPe
namespace Go.Proofs.Ytflfodcgoffjkaa
open Go.RowKit
set_option maxRecDepth 100000
set_option linter.unusedVariables false
set_option linter.unusedSimpArgs false
/-- A gate's map, reckoned. -/
def gq (N k a b : Int) (q : Q4) : Q4 := let r := prdQ N (fun v => iQ N k a b v false) (fun v => iQ N k a b v true) q.2.1 q.2.2.1 N.toNat; (r.1, r.2.1, r.2.2.1, (r.2.2.2 + q.2.2.2) % 4)
theorem gmap_gq {N k a b c : Int} (h : 1 ≤ N ∧ N ≤ 4) (h1 : clif k = true) (h2 : ivg k a b c N = true) {q : Q4} (hv : vP q = true) (hn : q.1 = N) : gmap h k a b q = gq N k a b q := by
  unfold gmap led gq
  rw [Gp.ph_q, prd_q, toG_q h hv hn, prdQ_congr N _ _ _ (fun j hj => ⟨(img_g h h1 h2 hj).2.2.1, (img_g h h1 h2 hj).2.2.2⟩)]
def gg1 (N : Nat) (k : Nat) (r : Q4) : Q4 := if bt r.2.1 k && bt r.2.2.1 k then gq N 5 k 0 r else if bt r.2.2.1 k then gq N 4 k 0 r else r
def gfind (r : Q4) : Nat → Nat → Nat
  | 0, k => k
  | c + 1, k => if bt r.2.1 k then k else gfind r c (k + 1)
def gg2 (N q : Nat) (r : Q4) : Q4 := let k := gfind r (N - 1 - q) q; if k = q then r else gq N 11 q k r
def gg3 (N q : Nat) (k : Nat) (r : Q4) : Q4 := if bt r.2.1 k then gq N 9 q k r else r
def firstG (N q : Nat) (r : Q4) : Q4 := iterN (gg3 N q) (q + 1) (N - 1 - q) (gg2 N q (iterN (gg1 N) q (N - q) r))
abbrev PP := Q4 × Q4
def mm2 (N : Nat) (k a b : Int) (p : PP) : PP := (gq N k a b p.1, gq N k a b p.2)
def gg4 (N : Nat) (k : Nat) (p : PP) : PP := if bt p.2.2.1 k && bt p.2.2.2.1 k then mm2 N 4 k 0 (mm2 N 5 k 0 p) else if bt p.2.2.1 k then mm2 N 4 k 0 p else p
def gg5 (N q : Nat) (k : Nat) (p : PP) : PP := if bt p.2.2.2.1 k then mm2 N 9 k q p else p
def gg6 (N q : Nat) (p : PP) : PP := if bt p.2.2.1 q then mm2 N 4 q 0 (mm2 N 5 q 0 (mm2 N 4 q 0 p)) else p
def gg7 (N q : Nat) (p : PP) : PP := if p.1.2.2.2 == 2 then mm2 N 3 q 0 p else p
def gg8 (N q : Nat) (p : PP) : PP := if p.2.2.2.2 == 2 then mm2 N 1 q 0 p else p
def secondG (N q : Nat) (p : PP) : PP := gg8 N q (gg7 N q (gg6 N q (iterN (gg5 N q) (q + 1) (N - 1 - q) (iterN (gg4 N) (q + 1) (N - 1 - q) p))))
/-- What is drawn up by the kernel. -/
def low (q x : Nat) : Bool := x % 2 ^ q == 0
def ck1 (N q x z p : Nat) : Bool := !(decide (q < N) && (decide (x < 2 ^ N) && (decide (z < 2 ^ N) && (low q x && (low q z && (!(x == 0 && z == 0) && hP ((N : Int), (x : Int), (z : Int), (p : Int)))))))) ||
  (let r := firstG N q ((N : Int), (x : Int), (z : Int), (p : Int)); r.2.1 == (2 ^ q : Nat) && r.2.2.1 == 0)
theorem ck1_fin : ∀ N : Fin 5, ∀ q : Fin 4, ∀ x z : Fin 16, ∀ p : Fin 4, ck1 N.val q.val x.val z.val p.val = true := by decide +kernel
def ck2 (N q x z p : Nat) : Bool := !(decide (q < N) && (decide (x < 2 ^ N) && (decide (z < 2 ^ N) && (low q x && (low q z && (z.testBit q && hP ((N : Int), (x : Int), (z : Int), (p : Int)))))))) ||
  ([0, 2].all fun (s : Nat) => secondG N q (((N : Int), ((2 ^ q : Nat) : Int), 0, (s : Int)), ((N : Int), (x : Int), (z : Int), (p : Int))) == (((N : Int), ((2 ^ q : Nat) : Int), 0, 0), ((N : Int), 0, ((2 ^ q : Nat) : Int), 0)))
theorem ck2_fin : ∀ N : Fin 5, ∀ q : Fin 4, ∀ x z : Fin 16, ∀ p : Fin 4, ck2 N.val q.val x.val z.val p.val = true := by decide +kernel
/-- X and Z of a qubit that a gate does not touch. -/
def ck3 (N k a b j : Nat) : Bool := !(clif k && ivg k a b 0 N && (decide (j < N) && (!(j == a) && (decide (arity k < 2) || !(j == b))))) || (gq N k a b (eX N j) == eX N j && gq N k a b (eZ N j) == eZ N j)
theorem ck3_fin : ∀ N : Fin 5, ∀ k : Fin 12, ∀ a b j : Fin 4, ck3 N.val k.val a.val b.val j.val = true := by decide +kernel
/-- What holds on the way: valid; the rows of the qubits done; what led here. -/
structure JS {N : Int} (h : 1 ≤ N ∧ N ≤ 4) (l0 : List Q4) (q : Nat) (s : RS) : Prop where
  ht : tB N s.1 = true
  fx : ∀ j, j < q → s.1[j]? = some (eX N j) ∧ s.1[N.toNat + j]? = some (eZ N j)
  run : s.1 = runG h s.2 l0
  gs : ∀ g ∈ s.2, GateOk N g
section
variable {N : Int} {h : 1 ≤ N ∧ N ≤ 4} {l0 : List Q4} {q : Nat} {s : RS}
theorem n_cast (h : 1 ≤ N ∧ N ≤ 4) : ((N.toNat : Nat) : Int) = N := by omega
theorem JS.row (J : JS h l0 q s) {j : Nat} {r : Q4} (hr : s.1[j]? = some r) : vP r = true ∧ r.1 = N := mem_row J.ht (List.mem_of_getElem? hr)
theorem JS.at (J : JS h l0 q s) {kd a b : Nat} (h1 : clif (kd : Int) = true) (h2 : ivg (kd : Int) (a : Int) (b : Int) 0 N = true) {j : Nat} {r : Q4} (hr : s.1[j]? = some r) : (dg h s kd a b).1[j]? = some (gq (N.toNat : Nat) kd a b r) := by
  show (s.1.map _)[j]? = _
  rw [List.getElem?_map, hr, n_cast h, ← gmap_gq h h1 h2 (J.row hr).1 (J.row hr).2]
  rfl
theorem JS.dg (J : JS h l0 q s) {kd a b : Nat} (h1 : clif (kd : Int) = true) (h2 : ivg (kd : Int) (a : Int) (b : Int) 0 N = true) (hq : q ≤ N.toNat) (ha : q ≤ a) (hb : arity (kd : Int) < 2 ∨ q ≤ b) : JS h l0 q (Go.Proofs.Ytflfodcgoffjkaa.dg h s kd a b) := by
  obtain ⟨_, d1, d2, d3, _⟩ := gate_dom h1 h2
  refine ⟨gmap_tB h h1 h2 J.ht, fun j hj => ?_, ?_, fun g hg => ?_⟩
  · have e := ck3_fin ⟨N.toNat, by omega⟩ ⟨kd, by omega⟩ ⟨a, by omega⟩ ⟨b, by omega⟩ ⟨j, by omega⟩
    unfold ck3 at e
    have c1 : decide (j < N.toNat) = true := decide_eq_true (by omega)
    have c2 : (j == a) = false := by rw [beq_eq_false_iff_ne]; omega
    have c3 : (decide (arity (kd : Int) < 2) || !(j == b)) = true := by
      rcases hb with hb | hb
      · rw [decide_eq_true hb, Bool.true_or]
      · have : (j == b) = false := by rw [beq_eq_false_iff_ne]; omega
        rw [this, Bool.not_false, Bool.or_true]
    simp only [n_cast h, h1, h2, c1, c2, c3, Bool.not_false, Bool.not_true, Bool.and_self, Bool.and_true, Bool.true_and, Bool.false_or, Bool.and_eq_true, beq_iff_eq] at e
    obtain ⟨f1, f2⟩ := J.fx j hj
    refine ⟨?_, ?_⟩
    · rw [J.at h1 h2 f1, n_cast h, e.1]
    · rw [J.at h1 h2 f2, n_cast h, e.2]
  · show s.1.map _ = runG h (s.2 ++ [_]) l0
    rw [runG_app, ← J.run]
    rfl
  · rcases List.mem_append.1 hg with hg | hg
    · exact J.gs g hg
    · simp only [List.mem_cons, List.not_mem_nil, or_false] at hg
      subst hg
      exact ⟨h1, h2⟩
theorem rX {j k : Nat} {r : Q4} (hr : s.1[j]? = some r) : rwX s j k = bt r.2.1 k := by unfold rwX; rw [hr]
theorem rZ {j k : Nat} {r : Q4} (hr : s.1[j]? = some r) : rwZ s j k = bt r.2.2.1 k := by unfold rwZ; rw [hr]
theorem rP {j : Nat} {r : Q4} (hr : s.1[j]? = some r) : rwP s j = (r.2.2.2 == 2) := by unfold rwP; rw [hr]
theorem ar1 {kd : Nat} (h1 : 1 ≤ kd ∧ kd ≤ 6) : arity (kd : Int) < 2 := by
  unfold arity; rw [if_pos (by omega)]; decide
theorem j1 (J : JS h l0 q s) {k : Nat} (hqk : q ≤ k) (hk : k < N.toNat) {r : Q4} (hr : s.1[q]? = some r) : JS h l0 q (f1 h q k s) ∧ (f1 h q k s).1[q]? = some (gg1 N.toNat k r) := by
  have o5 := one_ok h (kd := 5) (by omega) hk
  have o4 := one_ok h (kd := 4) (by omega) hk
  unfold f1 gg1
  rw [rX hr, rZ hr]
  split
  · exact ⟨J.dg (b := 0) o5.1 o5.2 (by omega) hqk (.inl (ar1 (kd := 5) (by omega))), J.at (b := 0) o5.1 o5.2 hr⟩
  · split
    · exact ⟨J.dg (b := 0) o4.1 o4.2 (by omega) hqk (.inl (ar1 (kd := 4) (by omega))), J.at (b := 0) o4.1 o4.2 hr⟩
    · exact ⟨J, hr⟩
theorem j1s : ∀ (c k : Nat) (s : RS) (r : Q4), q ≤ k → k + c ≤ N.toNat → JS h l0 q s → s.1[q]? = some r → JS h l0 q (iterN (f1 h q) k c s) ∧ (iterN (f1 h q) k c s).1[q]? = some (iterN (gg1 N.toNat) k c r)
  | 0, k, s, r, _, _, J, hr => ⟨J, hr⟩
  | c + 1, k, s, r, h1, h2, J, hr => by
    obtain ⟨J', hr'⟩ := j1 J h1 (by omega) hr
    exact j1s c (k + 1) _ _ (by omega) (by omega) J' hr'
theorem jfind {r : Q4} (hr : s.1[q]? = some r) : ∀ c k, findK s q c k = gfind r c k
  | 0, k => rfl
  | c + 1, k => by
    unfold findK gfind
    rw [rX hr, jfind hr c (k + 1)]
theorem j2 (J : JS h l0 q s) (hq : q < N.toNat) {r : Q4} (hr : s.1[q]? = some r) : JS h l0 q (f2 h q s) ∧ (f2 h q s).1[q]? = some (gg2 N.toNat q r) := by
  obtain ⟨b1, b2⟩ := find_bd s q (N.toNat - 1 - q) q
  unfold f2 gg2
  rw [jfind hr] at *
  simp only
  split
  · exact ⟨J, hr⟩
  · rename_i hne
    have o := two_ok h (a := q) (b := gfind r (N.toNat - 1 - q) q) hq (by omega) (fun e => hne e.symm)
    exact ⟨J.dg (kd := 11) o.2.1 o.2.2 (by omega) (by omega) (.inr b1), J.at (kd := 11) o.2.1 o.2.2 hr⟩
theorem j3 (J : JS h l0 q s) (hq : q < N.toNat) {k : Nat} (hqk : q < k) (hk : k < N.toNat) {r : Q4} (hr : s.1[q]? = some r) : JS h l0 q (f3 h q k s) ∧ (f3 h q k s).1[q]? = some (gg3 N.toNat q k r) := by
  have o := two_ok h (a := q) (b := k) hq hk (by omega)
  unfold f3 gg3
  rw [rX hr]
  split
  · exact ⟨J.dg (kd := 9) o.1.1 o.1.2 (by omega) (by omega) (.inr (by omega)), J.at (kd := 9) o.1.1 o.1.2 hr⟩
  · exact ⟨J, hr⟩
theorem j3s (hq : q < N.toNat) : ∀ (c k : Nat) (s : RS) (r : Q4), q < k → k + c ≤ N.toNat → JS h l0 q s → s.1[q]? = some r → JS h l0 q (iterN (f3 h q) k c s) ∧ (iterN (f3 h q) k c s).1[q]? = some (iterN (gg3 N.toNat q) k c r)
  | 0, k, s, r, _, _, J, hr => ⟨J, hr⟩
  | c + 1, k, s, r, h1, h2, J, hr => by
    obtain ⟨J', hr'⟩ := j3 J hq h1 (by omega) hr
    exact j3s hq c (k + 1) _ _ (by omega) (by omega) J' hr'
theorem jfirst (J : JS h l0 q s) (hq : q < N.toNat) {r : Q4} (hr : s.1[q]? = some r) : JS h l0 q (firstP h q s) ∧ (firstP h q s).1[q]? = some (firstG N.toNat q r) := by
  obtain ⟨J1, r1⟩ := j1s (N.toNat - q) q s r (by omega) (by omega) J hr
  obtain ⟨J2, r2⟩ := j2 J1 hq r1
  exact j3s hq (N.toNat - 1 - q) (q + 1) _ _ (by omega) (by omega) J2 r2
/-- Both rows of the qubit. -/
def Two (N : Int) (q : Nat) (s : RS) (p : PP) : Prop := s.1[q]? = some p.1 ∧ s.1[N.toNat + q]? = some p.2
theorem Two.dg (J : JS h l0 q s) {p : PP} (t : Two N q s p) {kd a b : Nat} (h1 : clif (kd : Int) = true) (h2 : ivg (kd : Int) (a : Int) (b : Int) 0 N = true) : Two N q (Go.Proofs.Ytflfodcgoffjkaa.dg h s kd a b) (mm2 N.toNat kd a b p) := ⟨J.at h1 h2 t.1, J.at h1 h2 t.2⟩
theorem j4 (J : JS h l0 q s) {k : Nat} (hqk : q ≤ k) (hk : k < N.toNat) {p : PP} (t : Two N q s p) : JS h l0 q (f4 h (N.toNat + q) k s) ∧ Two N q (f4 h (N.toNat + q) k s) (gg4 N.toNat k p) := by
  have o5 := one_ok h (kd := 5) (by omega) hk
  have o4 := one_ok h (kd := 4) (by omega) hk
  unfold f4 gg4
  rw [rX t.2, rZ t.2]
  split
  · have J' := J.dg (b := 0) o5.1 o5.2 (by omega) hqk (.inl (ar1 (kd := 5) (by omega)))
    have t' := Two.dg J t (b := 0) o5.1 o5.2
    exact ⟨J'.dg (b := 0) o4.1 o4.2 (by omega) hqk (.inl (ar1 (kd := 4) (by omega))), Two.dg J' t' (b := 0) o4.1 o4.2⟩
  · split
    · exact ⟨J.dg (b := 0) o4.1 o4.2 (by omega) hqk (.inl (ar1 (kd := 4) (by omega))), Two.dg J t (b := 0) o4.1 o4.2⟩
    · exact ⟨J, t⟩
theorem j4s : ∀ (c k : Nat) (s : RS) (p : PP), q ≤ k → k + c ≤ N.toNat → JS h l0 q s → Two N q s p → JS h l0 q (iterN (f4 h (N.toNat + q)) k c s) ∧ Two N q (iterN (f4 h (N.toNat + q)) k c s) (iterN (gg4 N.toNat) k c p)
  | 0, k, s, p, _, _, J, t => ⟨J, t⟩
  | c + 1, k, s, p, h1, h2, J, t => by
    obtain ⟨J', t'⟩ := j4 J h1 (by omega) t
    exact j4s c (k + 1) _ _ (by omega) (by omega) J' t'
theorem j5 (J : JS h l0 q s) (hq : q < N.toNat) {k : Nat} (hqk : q < k) (hk : k < N.toNat) {p : PP} (t : Two N q s p) : JS h l0 q (f5 h (N.toNat + q) q k s) ∧ Two N q (f5 h (N.toNat + q) q k s) (gg5 N.toNat q k p) := by
  have o := two_ok h (a := k) (b := q) hk hq (by omega)
  unfold f5 gg5
  rw [rZ t.2]
  split
  · exact ⟨J.dg (kd := 9) o.1.1 o.1.2 (by omega) (by omega) (.inr (by omega)), Two.dg J t (kd := 9) o.1.1 o.1.2⟩
  · exact ⟨J, t⟩
theorem j5s (hq : q < N.toNat) : ∀ (c k : Nat) (s : RS) (p : PP), q < k → k + c ≤ N.toNat → JS h l0 q s → Two N q s p → JS h l0 q (iterN (f5 h (N.toNat + q) q) k c s) ∧ Two N q (iterN (f5 h (N.toNat + q) q) k c s) (iterN (gg5 N.toNat q) k c p)
  | 0, k, s, p, _, _, J, t => ⟨J, t⟩
  | c + 1, k, s, p, h1, h2, J, t => by
    obtain ⟨J', t'⟩ := j5 J hq h1 (by omega) t
    exact j5s hq c (k + 1) _ _ (by omega) (by omega) J' t'
theorem j6 (J : JS h l0 q s) (hq : q < N.toNat) {p : PP} (t : Two N q s p) : JS h l0 q (f6 h (N.toNat + q) q s) ∧ Two N q (f6 h (N.toNat + q) q s) (gg6 N.toNat q p) := by
  have o5 := one_ok h (kd := 5) (by omega) hq
  have o4 := one_ok h (kd := 4) (by omega) hq
  unfold f6 gg6
  rw [rX t.2]
  split
  · have J1 := J.dg (b := 0) o4.1 o4.2 (by omega) (Nat.le_refl _) (.inl (ar1 (kd := 4) (by omega)))
    have t1 := Two.dg J t (b := 0) o4.1 o4.2
    have J2 := J1.dg (b := 0) o5.1 o5.2 (by omega) (Nat.le_refl _) (.inl (ar1 (kd := 5) (by omega)))
    have t2 := Two.dg J1 t1 (b := 0) o5.1 o5.2
    exact ⟨J2.dg (b := 0) o4.1 o4.2 (by omega) (Nat.le_refl _) (.inl (ar1 (kd := 4) (by omega))), Two.dg J2 t2 (b := 0) o4.1 o4.2⟩
  · exact ⟨J, t⟩
theorem j7 (J : JS h l0 q s) (hq : q < N.toNat) {p : PP} (t : Two N q s p) : JS h l0 q (f7 h q s) ∧ Two N q (f7 h q s) (gg7 N.toNat q p) := by
  have o := one_ok h (kd := 3) (by omega) hq
  unfold f7 gg7
  rw [rP t.1]
  split
  · exact ⟨J.dg (b := 0) o.1 o.2 (by omega) (Nat.le_refl _) (.inl (ar1 (kd := 3) (by omega))), Two.dg J t (b := 0) o.1 o.2⟩
  · exact ⟨J, t⟩
theorem j8 (J : JS h l0 q s) (hq : q < N.toNat) {p : PP} (t : Two N q s p) : JS h l0 q (f8 h (N.toNat + q) q s) ∧ Two N q (f8 h (N.toNat + q) q s) (gg8 N.toNat q p) := by
  have o := one_ok h (kd := 1) (by omega) hq
  unfold f8 gg8
  rw [rP t.2]
  split
  · exact ⟨J.dg (b := 0) o.1 o.2 (by omega) (Nat.le_refl _) (.inl (ar1 (kd := 1) (by omega))), Two.dg J t (b := 0) o.1 o.2⟩
  · exact ⟨J, t⟩
theorem jsecond (J : JS h l0 q s) (hq : q < N.toNat) {p : PP} (t : Two N q s p) : JS h l0 q (secondP h q s) ∧ Two N q (secondP h q s) (secondG N.toNat q p) := by
  obtain ⟨J4, t4⟩ := j4s (N.toNat - 1 - q) (q + 1) s p (by omega) (by omega) J t
  obtain ⟨J5, t5⟩ := j5s hq (N.toNat - 1 - q) (q + 1) _ _ (by omega) (by omega) J4 t4
  obtain ⟨J6, t6⟩ := j6 J5 hq t5
  obtain ⟨J7, t7⟩ := j7 J6 hq t6
  exact j8 J7 hq t7
/-- Rows that commute with X and Z of the qubits done. -/
theorem pcb_fin : ∀ x : Fin 16, ∀ j : Fin 4, pc (an ((2 ^ j.val : Nat) : Int) (x.val : Int)) = (if bt (x.val : Int) j.val then 1 else 0) := by decide +kernel
theorem low_fin : ∀ x : Fin 16, ∀ q : Fin 5, (!((List.range q.val).all fun j => !(x.val.testBit j)) || low q.val x.val) = true := by decide +kernel
theorem pcb {x : Int} (hx : Sm x) {j : Nat} (hj : j < 4) : pc (an ((2 : Int) ^ j) x) = (if bt x j then 1 else 0) := by
  obtain ⟨k, rfl⟩ := hx.fin
  have := pcb_fin k ⟨j, hj⟩
  rw [show ((2 ^ j : Nat) : Int) = 2 ^ j by simp] at this
  exact this
theorem bits0 {r : Q4} (hv : vP r = true) {j : Nat} (hj : j < 4) (h1 : cP (eX N j) r = true) (h2 : cP (eZ N j) r = true) : bt r.2.1 j = false ∧ bt r.2.2.1 j = false := by
  obtain ⟨a, b, _⟩ := vP_sm (n := r.1) (x := r.2.1) (z := r.2.2.1) (p := r.2.2.2) hv
  have h1 := of_decide_eq_true h1
  have h2 := of_decide_eq_true h2
  simp only [eX, eZ, zero_an, pc_zero, pcb a hj, pcb b hj, Int.add_zero, Int.zero_add] at h1 h2
  constructor
  · cases hb : bt r.2.1 j with
    | false => rfl
    | true => rw [hb] at h2; simp at h2
  · cases hb : bt r.2.2.1 j with
    | false => rfl
    | true => rw [hb] at h1; simp at h1
theorem low_of {x : Int} (hx : Sm x) {q : Nat} (hq : q ≤ 4) (hb : ∀ j, j < q → bt x j = false) : low q x.toNat = true := by
  obtain ⟨k, rfl⟩ := hx.fin
  have e := low_fin k ⟨q, by omega⟩
  have ha : ((List.range q).all fun j => !(k.val.testBit j)) = true := by
    rw [List.all_eq_true]
    intro j hj
    have := hb j (List.mem_range.1 hj)
    unfold bt at this
    rw [Int.toNat_natCast] at this
    rw [this]; rfl
  rw [ha, Bool.not_true, Bool.false_or] at e
  simpa using e
theorem JS.lows (J : JS h l0 q s) (hq : q < N.toNat) {i : Nat} {r : Q4} (hi : i = q ∨ i = N.toNat + q) (hr : s.1[i]? = some r) : low q r.2.1.toNat = true ∧ low q r.2.2.1.toNat = true := by
  obtain ⟨hv, hn⟩ := J.row hr
  have hlen := (tB_len J.ht).2
  obtain ⟨a, b, _⟩ := vP_sm (n := r.1) (x := r.2.1) (z := r.2.2.1) (p := r.2.2.2) hv
  have key : ∀ j, j < q → bt r.2.1 j = false ∧ bt r.2.2.1 j = false := fun j hj => by
    obtain ⟨fX, fZ⟩ := J.fx j hj
    refine bits0 (N := N) hv (by omega) ?_ ?_
    · rw [row_cP J.ht fX hr (by omega) (by omega)]
      have : decide ((i : Int) = (j : Int) + N) = false := decide_eq_false (by omega)
      rw [this]; rfl
    · rcases Nat.lt_or_ge (N.toNat + j) i with hlt | hge
      · rw [row_cP J.ht fZ hr hlt (by omega)]
        have : decide ((i : Int) = ((N.toNat + j : Nat) : Int) + N) = false := decide_eq_false (by omega)
        rw [this]; rfl
      · rw [cP_symm, row_cP J.ht hr fZ (by omega) (by omega)]
        have : decide (((N.toNat + j : Nat) : Int) = (i : Int) + N) = false := decide_eq_false (by omega)
        rw [this]; rfl
  exact ⟨low_of a (by omega) fun j hj => (key j hj).1, low_of b (by omega) fun j hj => (key j hj).2⟩
theorem JS.herm (J : JS h l0 q s) {j : Nat} {r : Q4} (hr : s.1[j]? = some r) : hP r = true := by
  have hj : j < s.1.length := by
    rcases Nat.lt_or_ge j s.1.length with h' | h'
    · exact h'
    · rw [List.getElem?_eq_none h'] at hr; cases hr
  exact (rowB_herm ((tB_inv2 J.ht).2.2 j hj) hr).2
theorem JS.anti (J : JS h l0 q s) (hq : q < N.toNat) {p : PP} (t : Two N q s p) : cP p.1 p.2 = false := by
  have hlen := (tB_len J.ht).2
  rw [row_cP J.ht t.1 t.2 (by omega) (by omega)]
  have : decide (((N.toNat + q : Nat) : Int) = (q : Int) + N) = true := decide_eq_true (by omega)
  rw [this]; rfl
theorem q4_cast {r : Q4} (hv : vP r = true) (hn : r.1 = N) (h : 1 ≤ N ∧ N ≤ 4) : r = (((N.toNat : Nat) : Int), ((r.2.1.toNat : Nat) : Int), ((r.2.2.1.toNat : Nat) : Int), ((r.2.2.2.toNat : Nat) : Int)) := by
  obtain ⟨a, b, c⟩ := vP_sm (n := r.1) (x := r.2.1) (z := r.2.2.1) (p := r.2.2.2) hv
  have := a.1; have := b.1
  exact q4_ext (by simp only; omega) (by simp only; omega) (by simp only; omega) (by simp only; omega)
theorem lt_of {r : Q4} (hv : vP r = true) (hn : r.1 = N) : r.2.1.toNat < 2 ^ N.toNat ∧ r.2.2.1.toNat < 2 ^ N.toNat ∧ r.2.1.toNat < 16 ∧ r.2.2.1.toNat < 16 ∧ r.2.2.2.toNat < 4 := by
  obtain ⟨h1, h2, h3, h4⟩ := vP_iff.1 (show vP (r.1, r.2.1, r.2.2.1, r.2.2.2) = true from hv)
  obtain ⟨a, b, c⟩ := vP_sm (n := r.1) (x := r.2.1) (z := r.2.2.1) (p := r.2.2.2) hv
  rw [hn] at h2 h3
  have e : ((2 ^ N.toNat : Nat) : Int) = 2 ^ N.toNat := by simp
  have := a.2; have := b.2
  omega
theorem first_end (J : JS h l0 q s) (hq : q < N.toNat) {p : PP} (t : Two N q s p) : (firstG N.toNat q p.1).2.1 = ((2 ^ q : Nat) : Int) ∧ (firstG N.toNat q p.1).2.2.1 = 0 := by
  obtain ⟨hv, hn⟩ := J.row t.1
  obtain ⟨b1, b2, b3, b4, b5⟩ := lt_of hv hn
  obtain ⟨w1, w2⟩ := J.lows hq (.inl rfl) t.1
  have hh := J.herm t.1
  have ha := J.anti hq t
  have e := ck1_fin ⟨N.toNat, by omega⟩ ⟨q, by omega⟩ ⟨p.1.2.1.toNat, b3⟩ ⟨p.1.2.2.1.toNat, b4⟩ ⟨p.1.2.2.2.toNat, b5⟩
  have hc := q4_cast hv hn h
  unfold ck1 at e
  simp only at e
  rw [← hc] at e
  have c1 : decide (q < N.toNat) = true := decide_eq_true hq
  have c2 : decide (p.1.2.1.toNat < 2 ^ N.toNat) = true := decide_eq_true b1
  have c3 : decide (p.1.2.2.1.toNat < 2 ^ N.toNat) = true := decide_eq_true b2
  have c4 : (p.1.2.1.toNat == 0 && p.1.2.2.1.toNat == 0) = false := by
    rw [Bool.eq_false_iff]
    intro hz
    simp only [Bool.and_eq_true, beq_iff_eq] at hz
    obtain ⟨a, b, _⟩ := vP_sm (n := p.1.1) (x := p.1.2.1) (z := p.1.2.2.1) (p := p.1.2.2.2) hv
    have := a.1; have := b.1
    have z1 : p.1.2.1 = 0 := by omega
    have z2 : p.1.2.2.1 = 0 := by omega
    unfold cP at ha
    rw [z1, z2, zero_an, zero_an] at ha
    simp [pc_zero] at ha
  rw [c1, c2, c3, w1, w2, c4, hh] at e
  simp only [Bool.not_false, Bool.not_true, Bool.and_self, Bool.and_true, Bool.false_or, Bool.and_eq_true, beq_iff_eq] at e
  exact e
theorem second_end (J : JS h l0 q s) (hq : q < N.toNat) {p : PP} (t : Two N q s p) (hx : p.1.2.1 = ((2 ^ q : Nat) : Int)) (hz : p.1.2.2.1 = 0) : secondG N.toNat q p = (eX N q, eZ N q) := by
  obtain ⟨hv, hn⟩ := J.row t.1
  obtain ⟨hv2, hn2⟩ := J.row t.2
  obtain ⟨b1, b2, b3, b4, b5⟩ := lt_of hv2 hn2
  obtain ⟨w1, w2⟩ := J.lows hq (.inr rfl) t.2
  have hh := J.herm t.1
  have hh2 := J.herm t.2
  have ha := J.anti hq t
  obtain ⟨a, b, c⟩ := vP_sm (n := p.1.1) (x := p.1.2.1) (z := p.1.2.2.1) (p := p.1.2.2.2) hv
  obtain ⟨a2, b2', c2'⟩ := vP_sm (n := p.2.1) (x := p.2.2.1) (z := p.2.2.2.1) (p := p.2.2.2.2) hv2
  have hp : p.1.2.2.2 = 0 ∨ p.1.2.2.2 = 2 := by
    unfold hP at hh
    simp only [Bool.and_eq_true, decide_eq_true_eq] at hh
    have := hh.2
    rw [hz, an_zero, pc_zero] at this
    omega
  have hbit : p.2.2.2.1.toNat.testBit q = true := by
    unfold cP at ha
    have ha := of_decide_eq_false ha
    rw [hx, hz, zero_an, pc_zero, show ((2 ^ q : Nat) : Int) = 2 ^ q by simp, pcb b2' (by omega)] at ha
    cases hb : bt p.2.2.2.1 q with
    | true => exact hb
    | false => rw [hb] at ha; simp at ha
  have e := ck2_fin ⟨N.toNat, by omega⟩ ⟨q, by omega⟩ ⟨p.2.2.1.toNat, b3⟩ ⟨p.2.2.2.1.toNat, b4⟩ ⟨p.2.2.2.2.toNat, b5⟩
  have hc := q4_cast hv2 hn2 h
  unfold ck2 at e
  simp only at e
  rw [← hc] at e
  have c1 : decide (q < N.toNat) = true := decide_eq_true hq
  have c2 : decide (p.2.2.1.toNat < 2 ^ N.toNat) = true := decide_eq_true b1
  have c3 : decide (p.2.2.2.1.toNat < 2 ^ N.toNat) = true := decide_eq_true b2
  rw [c1, c2, c3, w1, w2, hbit, hh2] at e
  simp only [Bool.not_true, Bool.and_self, Bool.and_true, Bool.false_or, List.all_cons, List.all_nil, Bool.and_eq_true, beq_iff_eq] at e
  have hp1 : p.1 = (((N.toNat : Nat) : Int), ((2 ^ q : Nat) : Int), 0, p.1.2.2.2) := q4_ext (by simp only; omega) hx hz rfl
  have fin : secondG N.toNat q p = ((((N.toNat : Nat) : Int), ((2 ^ q : Nat) : Int), 0, 0), (((N.toNat : Nat) : Int), 0, ((2 ^ q : Nat) : Int), 0)) := by
    have hpp : p = (p.1, p.2) := rfl
    rw [hpp, hp1]
    rcases hp with hp | hp <;> rw [hp]
    · exact e.1
    · exact e.2
  rw [fin, n_cast h]
  unfold eX eZ
  rw [show ((2 ^ q : Nat) : Int) = 2 ^ q by simp]
theorem qubit_end (J : JS h l0 q s) (hq : q < N.toNat) : JS h l0 (q + 1) (secondP h q (firstP h q s)) := by
  have hlen := (tB_len J.ht).2
  have r1 := List.getElem?_eq_getElem (l := s.1) (i := q) (by omega)
  have r2 := List.getElem?_eq_getElem (l := s.1) (i := N.toNat + q) (by omega)
  have t0 : Two N q s (s.1[q], s.1[N.toNat + q]) := ⟨r1, r2⟩
  obtain ⟨J1, k1⟩ := jfirst J hq r1
  obtain ⟨fx, fz⟩ := first_end J hq t0
  have hlen1 := (tB_len J1.ht).2
  have k2 := List.getElem?_eq_getElem (l := (firstP h q s).1) (i := N.toNat + q) (by omega)
  have t1 : Two N q (firstP h q s) (firstG N.toNat q s.1[q], (firstP h q s).1[N.toNat + q]) := ⟨k1, k2⟩
  obtain ⟨J2, t2⟩ := jsecond J1 hq t1
  rw [second_end J1 hq t1 fx fz] at t2
  refine ⟨J2.ht, fun j hj => ?_, J2.run, J2.gs⟩
  by_cases e : j = q
  · subst e; exact t2
  · exact J2.fx j (by omega)
theorem red_end {l : List Q4} (ht : tB N l = true) : JS h l N.toNat (redP h l) := by
  have key : ∀ (c k : Nat) (s : RS), k + c = N.toNat → JS h l k s → JS h l N.toNat (iterN (fun q s => secondP h q (firstP h q s)) k c s) := by
    intro c
    induction c with
    | zero => intro k s hk J; have : k = N.toNat := by omega
              subst this; exact J
    | succ c ih => intro k s hk J; exact ih (k + 1) _ (by omega) (qubit_end J (by omega))
  exact key N.toNat 0 (l, []) (by omega) ⟨ht, fun j hj => by omega, rfl, fun g hg => by cases hg⟩
def idOk2 (N : Nat) : Bool := (List.range N).all fun j => (idT N)[j]? == some (eX N j) && (idT N)[N + j]? == some (eZ N j)
theorem id2_fin : ∀ N : Fin 5, (decide (N.val < 1) || idOk2 N.val) = true := by decide +kernel
theorem red_id {l : List Q4} (ht : tB N l = true) : (redP h l).1 = idT N := by
  have J := red_end (h := h) ht
  have hlen := (tB_len J.ht).2
  have hid := (id_ok h).2.2.2
  have e := id2_fin ⟨N.toNat, by omega⟩
  rw [decide_eq_false (by show ¬ N.toNat < 1; omega), Bool.false_or] at e
  unfold idOk2 at e
  simp only [n_cast h, List.all_eq_true, List.mem_range, Bool.and_eq_true, beq_iff_eq] at e
  refine List.ext_getElem? fun i => ?_
  rcases Nat.lt_or_ge i N.toNat with hi | hi
  · rw [(J.fx i hi).1, (e i hi).1]
  · rcases Nat.lt_or_ge i (2 * N.toNat) with h2 | h2
    · have e2 := (J.fx (i - N.toNat) (by omega)).2
      have e3 := (e (i - N.toNat) (by omega)).2
      rw [show N.toNat + (i - N.toNat) = i by omega] at e2 e3
      rw [e2, e3]
    · rw [List.getElem?_eq_none (by omega), List.getElem?_eq_none (by omega)]
end
end Go.Proofs.Ytflfodcgoffjkaa
