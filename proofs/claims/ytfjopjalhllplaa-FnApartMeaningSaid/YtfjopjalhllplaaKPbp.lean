/- Plain law: branches equal up to phases: both sides, symmetric. -/
import Derived.Test.YtfjopjalhllplaaKDb
import Derived.Test.YtfjopjalhllplaaKMbk
import Derived.Test.YtfjopjalhllplaaKMbu
import Derived.Test.YtfjopjalhllplaaKMsi
namespace Go.Proofs.Ytfjopjalhllplaa
open Go.RowKit
set_option maxRecDepth 100000
set_option linter.unusedVariables false
set_option linter.unusedSimpArgs false
def ox (k : Nat) (x : DQ) : DQ := dq (zexn x) (mlz (oz k) (znm x))
theorem dq_self {x : DQ} (hx : vd x = true) : x = dq (zexn x) (znm x) := dq_eq hx rfl
theorem vd_bd {x : DQ} (hx : vd x = true) : zexn x ≤ 60 ∧ bdz 1073741824 (znm x) := by
 obtain ⟨h1, h2, _⟩ := (vd_iff x).1 hx
 exact ⟨by unfold zexn; omega, (vz_iff _).1 h1⟩
theorem ox_mul {x : DQ} (hx : vd x = true) (k : Nat) : mulF x (om k) = some (ox k x) := by
 have h := om_mul k (vd_bd hx).1 (vd_bd hx).2
 rw [← dq_self hx] at h
 exact h
theorem ox_mul' {x : DQ} (hx : vd x = true) (k : Nat) : mulF (om k) x = some (ox k x) := by
 rw [← ox_mul hx k]
 unfold mulF
 rw [mlz_comm, Nat.add_comm]
theorem ox_flip {x y : DQ} (hx : vd x = true) (hy : vd y = true) {j k : Nat} (h : (j + k) % 8 = 0) (e : y = ox k x) : x = ox j y := by
 have e1 := dq_self hy
 have e2 : dq (zexn y) (znm y) = dq (zexn x) (mlz (oz k) (znm x)) := e1.symm.trans e
 have e3 := dq_eq2.1 e2
 unfold ox
 refine dq_eq hx ?_
 rw [rtn_mlz', e3, ← rtn_mlz', ← mlz_assoc, oz_mul, oz_congr (a := j + k) (b := 0) (by omega), oz_0]
theorem ox_0 {x : DQ} (hx : vd x = true) : ox 0 x = x := by unfold ox; rw [oz_0]; exact (dq_self hx).symm
def TK (k : Nat) (A B : List (List DQ)) : Bool := A == B.map fun v => v.map (ox k)
def fk (A B : List (List DQ)) : Option Nat := (List.range' 0 8).find? fun k => TK k A B
def apB (x y : Int × List (List DQ)) : Option Nat := if x.1 = y.1 then fk x.2 y.2 else none
def bpL : LB → LB → Option (List Int)
 | [], [] => some []
 | x :: a, y :: b => match apB x y with
  | some k => (bpL a b).map ((k : Int) :: ·)
  | none => none
 | _, _ => none
def bpR : Option (List Int) → List Int × Bool
 | some l => (l, true)
 | none => ([], false)
theorem v_flip {j k : Nat} (h : (j + k) % 8 = 0) : ∀ {u v : List DQ}, (∀ z ∈ u, vd z = true) → (∀ z ∈ v, vd z = true) → u = v.map (ox k) → v = u.map (ox j)
 | [], [], _, _, _ => rfl
 | [], y :: v, _, _, e => by simp at e
 | x :: u, [], _, _, e => by simp at e
 | x :: u, y :: v, hu, hv, e => by
  simp only [List.map_cons, List.cons.injEq] at e ⊢
  exact ⟨ox_flip (hv y (List.mem_cons_self ..)) (hu x (List.mem_cons_self ..)) h e.1, v_flip h (fun z hz => hu z (List.mem_cons_of_mem _ hz)) (fun z hz => hv z (List.mem_cons_of_mem _ hz)) e.2⟩
theorem s_flip {j k : Nat} (h : (j + k) % 8 = 0) : ∀ {A B : List (List DQ)}, (∀ v ∈ A, ∀ z ∈ v, vd z = true) → (∀ v ∈ B, ∀ z ∈ v, vd z = true) → (A = B.map fun v => v.map (ox k)) → B = A.map fun v => v.map (ox j)
 | [], [], _, _, _ => rfl
 | [], y :: v, _, _, e => by simp at e
 | x :: u, [], _, _, e => by simp at e
 | x :: u, y :: v, hu, hv, e => by
  simp only [List.map_cons, List.cons.injEq] at e ⊢
  exact ⟨v_flip h (hu x (List.mem_cons_self ..)) (hv y (List.mem_cons_self ..)) e.1, s_flip h (fun z hz => hu z (List.mem_cons_of_mem _ hz)) (fun z hz => hv z (List.mem_cons_of_mem _ hz)) e.2⟩
def VS (A : List (List DQ)) : Prop := ∀ v ∈ A, ∀ z ∈ v, vd z = true
theorem fk_some {A B : List (List DQ)} : (fk A B).isSome = true ↔ ∃ k, k < 8 ∧ A = B.map fun v => v.map (ox k) := by
 unfold fk
 rw [List.find?_isSome]
 constructor
 ·rintro ⟨k, hk, h⟩
  exact ⟨k, by simp [List.mem_range'_1] at hk; omega, eq_of_beq h⟩
 ·rintro ⟨k, hk, h⟩
  exact ⟨k, by simp [List.mem_range'_1]; omega, by unfold TK; rw [← h]; exact beq_self_eq_true _⟩
theorem fk_sym {A B : List (List DQ)} (hA : VS A) (hB : VS B) (h : (fk A B).isSome = true) : (fk B A).isSome = true := by
 obtain ⟨k, hk, e⟩ := fk_some.1 h
 refine fk_some.2 ⟨(8 - k) % 8, by omega, ?_⟩
 exact s_flip (by omega) hA hB e
theorem v_self : ∀ {u : List DQ}, (∀ z ∈ u, vd z = true) → u = u.map (ox 0)
 | [], _ => rfl
 | x :: u, h => by
  simp only [List.map_cons, List.cons.injEq]
  exact ⟨(ox_0 (h x (List.mem_cons_self ..))).symm, v_self fun z hz => h z (List.mem_cons_of_mem _ hz)⟩
theorem s_self : ∀ {A : List (List DQ)}, VS A → A = A.map fun v => v.map (ox 0)
 | [], _ => rfl
 | x :: u, h => by
  simp only [List.map_cons, List.cons.injEq]
  exact ⟨v_self (h x (List.mem_cons_self ..)), s_self fun z hz => h z (List.mem_cons_of_mem _ hz)⟩
def GS (L : LB) : Prop := ∀ b ∈ L, VS b.2
theorem bp_sym : ∀ {a b : LB}, GS a → GS b → (bpL a b).isSome = true → (bpL b a).isSome = true
 | [], [], _, _, _ => rfl
 | [], y :: b, _, _, h => by simp [bpL] at h
 | x :: a, [], _, _, h => by simp [bpL] at h
 | x :: a, y :: b, ha, hb, h => by
  unfold bpL at h ⊢
  cases hx : apB x y with
  | none => rw [hx] at h; cases h
  | some k =>
   rw [hx] at h
   have h2 : (bpL a b).isSome = true := by
    cases e : bpL a b with
    | none => simp only [e] at h; cases h
    | some l => rfl
   have h3 := bp_sym (fun z hz => ha z (List.mem_cons_of_mem _ hz)) (fun z hz => hb z (List.mem_cons_of_mem _ hz)) h2
   unfold apB at hx
   split at hx
   ·rename_i e
    have h4 := fk_sym (ha x (List.mem_cons_self ..)) (hb y (List.mem_cons_self ..)) (by rw [hx]; rfl)
    obtain ⟨k', hk'⟩ := Option.isSome_iff_exists.1 h4
    obtain ⟨l', hl'⟩ := Option.isSome_iff_exists.1 h3
    unfold apB
    rw [if_pos e.symm, hk', hl']
    rfl
   ·cases hx
theorem bp_self : ∀ {a : LB}, GS a → (bpL a a).isSome = true
 | [], _ => rfl
 | x :: a, h => by
  obtain ⟨l', hl'⟩ := Option.isSome_iff_exists.1 (bp_self (a := a) fun z hz => h z (List.mem_cons_of_mem _ hz))
  obtain ⟨k', hk'⟩ := Option.isSome_iff_exists.1 (fk_some.2 ⟨0, by omega, s_self (h x (List.mem_cons_self ..))⟩)
  unfold bpL apB
  rw [if_pos rfl, hk', hl']
  rfl
theorem pf_ifin : ∀ k : Fin 8, i_PhaseFactor (k.val : Int) = some (om k.val) := by decide +kernel
theorem cons_beq (x y : DQ) (u v : List DQ) : (x :: u == y :: v) = (x == y && u == v) := rfl
theorem i_t_in {B : List (List DQ)} {k : Nat} (hk : k < 8) (x20 : Int) (i : Nat) (kl3 : Int → Int → Option Bool) {u v : List DQ} (hB : B[i]? = some v) (hv : ∀ z ∈ v, vd z = true) (hl : u.length = v.length) (hu : u.length ≤ 1000) : ∀ (m j : Nat), j ≤ u.length → u.length - j < m →
  i_isTimes_l4 B (k : Int) x20 (i : Int) kl3 u m (u.length : Int) (j : Int) = if (u.drop j == (v.drop j).map (ox k)) = true then i_isTimes_j10 x20 (i : Int) kl3 else some false := by
 intro m
 induction m with
 | zero => intro j _ h; omega
 | succ m ih =>
  intro j hj hm
  rw [i_isTimes_l4]
  by_cases e : j = u.length
  ·rw [decide_eq_false (by omega), br_false, List.drop_of_length_le (by omega), List.drop_of_length_le (by omega)]
   rfl
  ·have hju : j < u.length := by omega
   have hjv : j < v.length := by omega
   have hd := hv _ (List.getElem_mem hjv)
   rw [decide_eq_true (by omega), br_true, geti_nat hB, bO_some, geti_lt hjv, bO_some, pf_ifin ⟨k, hk⟩, bO_some, i_mul' v[j] (om k), if_pos ⟨hd, om_vd k⟩, ox_mul hd, bO_some]
   simp only [res, Bool.not_true, br_false]
   rw [geti_lt hju, bO_some, bO_some, List.drop_eq_getElem_cons hju, List.drop_eq_getElem_cons hjv, List.map_cons, cons_beq]
   have ec : ((ox k v[j]).1 == u[j].1 && ((ox k v[j]).2.1 == u[j].2.1 && ((ox k v[j]).2.2.1 == u[j].2.2.1 && ((ox k v[j]).2.2.2.1 == u[j].2.2.2.1 && (ox k v[j]).2.2.2.2 == u[j].2.2.2.2)))) = (ox k v[j] == u[j]) := rfl
   unfold i_isTimes_j13
   rw [ec]
   by_cases h : ox k v[j] = u[j]
   ·rw [h, beq_self_eq_true, Bool.not_true, br_false, Bool.true_and, w64s hju (by omega)]
    exact ih (j + 1) (by omega) (by omega)
   ·rw [beq_eq_false_iff_ne.2 h, Bool.not_false, br_true, beq_eq_false_iff_ne.2 (fun e => h e.symm), Bool.false_and, if_neg (by simp)]
theorem i_t_out {A B : List (List DQ)} {k : Nat} (hk : k < 8) (hB : VS B) (hl : A.map List.length = B.map List.length) (hA : ∀ v ∈ A, v.length ≤ 1000) (hAl : A.length ≤ 1000) : ∀ (m i : Nat), i ≤ A.length → A.length - i < m →
  i_isTimes_l1 A B (k : Int) m (A.length : Int) (i : Int) = some (A.drop i == (B.drop i).map fun v => v.map (ox k)) := by
 have hAB : A.length = B.length := by have := congrArg List.length hl; simpa using this
 intro m
 induction m with
 | zero => intro i _ h; omega
 | succ m ih =>
  intro i hi hm
  rw [i_isTimes_l1]
  by_cases e : i = A.length
  ·rw [decide_eq_false (by omega), br_false, List.drop_of_length_le (by omega), List.drop_of_length_le (by omega)]
   rfl
  ·have hiA : i < A.length := by omega
   have hiB : i < B.length := by omega
   have hle : A[i].length = B[i].length := by
    have := congrArg (fun l => l[i]?) hl
    simpa [List.getElem?_eq_getElem hiA, List.getElem?_eq_getElem hiB] using this
   rw [decide_eq_true (by omega), br_true, geti_lt hiA, bO_some]
   have := i_t_in hk (A.length : Int) i (i_isTimes_l1 A B (k : Int) m) (u := A[i]) (List.getElem?_eq_getElem hiB) (hB _ (List.getElem_mem hiB)) hle (hA _ (List.getElem_mem hiA)) FU 0 (by omega) (by have := hA _ (List.getElem_mem hiA); rw [FU_eq]; omega)
   rw [List.drop_zero, List.drop_zero] at this
   rw [show (0 : Int) = ((0 : Nat) : Int) from rfl, this, List.drop_eq_getElem_cons hiA, List.drop_eq_getElem_cons hiB, List.map_cons]
   have ec : (A[i] :: A.drop (i + 1) == (B[i].map (ox k)) :: (B.drop (i + 1)).map fun v => v.map (ox k)) = (A[i] == B[i].map (ox k) && A.drop (i + 1) == (B.drop (i + 1)).map fun v => v.map (ox k)) := rfl
   rw [ec]
   by_cases h : (A[i] == B[i].map (ox k)) = true
   ·rw [if_pos h, h, Bool.true_and]
    unfold i_isTimes_j10
    rw [w64s hiA (by omega)]
    exact ih (i + 1) (by omega) (by omega)
   ·rw [if_neg h, Bool.eq_false_iff.2 h, Bool.false_and]
theorem i_times {a1 a3 : Int} {A B : List (List DQ)} {k : Nat} (hk : k < 8) (hB : VS B) (hl : A.map List.length = B.map List.length) (hA : ∀ v ∈ A, v.length ≤ 1000) (hAl : A.length ≤ 1000) : i_isTimes a1 A a3 B (k : Int) = some (TK k A B) := by
 have := i_t_out hk hB hl hA hAl FU 0 (by omega) (by rw [FU_eq]; omega)
 rw [List.drop_zero, List.drop_zero] at this
 exact this
theorem i_sizes {a1 a3 : Int} {A B : List (List DQ)} (hAl : A.length ≤ 1000) : i_sameSizes a1 A a3 B = some (a1 == a3 && A.map List.length == B.map List.length) := by
 unfold i_sameSizes
 by_cases h1 : a1 = a3
 ·subst h1
  rw [bne_self_eq_false, br_false, bO_some, beq_self_eq_true, Bool.true_and]
  unfold i_sameSizes_j1
  by_cases hl : A.length = B.length
  ·rw [show ((A.length : Int) != (B.length : Int)) = false by rw [hl]; exact bne_self_eq_false _, br_false]
   have key : ∀ (m i : Nat), i ≤ A.length → A.length - i < m → i_sameSizes_l1 A B m (A.length : Int) (i : Int) = some ((A.drop i).map List.length == (B.drop i).map List.length) := by
    intro m
    induction m with
    | zero => intro i _ h; omega
    | succ m ih =>
     intro i hi hm
     rw [i_sameSizes_l1]
     by_cases e : i = A.length
     ·rw [decide_eq_false (by omega), br_false, List.drop_of_length_le (by omega), List.drop_of_length_le (by omega)]
      rfl
     ·have hiA : i < A.length := by omega
      have hiB : i < B.length := by omega
      rw [decide_eq_true (by omega), br_true, geti_lt hiA, bO_some, geti_lt hiB, bO_some, List.drop_eq_getElem_cons hiA, List.drop_eq_getElem_cons hiB, List.map_cons, List.map_cons]
      have ec : (A[i].length :: (A.drop (i + 1)).map List.length == B[i].length :: (B.drop (i + 1)).map List.length) = (A[i].length == B[i].length && (A.drop (i + 1)).map List.length == (B.drop (i + 1)).map List.length) := rfl
      rw [ec]
      by_cases h : A[i].length = B[i].length
      ·rw [h, bne_self_eq_false, br_false, beq_self_eq_true, Bool.true_and, w64s hiA (by omega)]
       exact ih (i + 1) (by omega) (by omega)
      ·rw [show ((A[i].length : Int) != (B[i].length : Int)) = true by rw [bne_iff_ne]; omega, br_true, beq_eq_false_iff_ne.2 h, Bool.false_and]
   have := key FU 0 (by omega) (by rw [FU_eq]; omega)
   rw [List.drop_zero, List.drop_zero] at this
   exact this
  ·rw [show ((A.length : Int) != (B.length : Int)) = true by rw [bne_iff_ne]; omega, br_true]
   have : (A.map List.length == B.map List.length) = false := by
    rw [beq_eq_false_iff_ne]
    intro h
    have := congrArg List.length h
    simp at this
    exact hl this
   rw [this]
 ·rw [show (a1 != a3) = true by rw [bne_iff_ne]; exact h1, br_true, bO_some, beq_eq_false_iff_ne.2 h1, Bool.false_and]
  rfl
def szB (x y : Int × List (List DQ)) : Bool := x.1 == y.1 && x.2.map List.length == y.2.map List.length
theorem ap_size {x y : Int × List (List DQ)} (h : szB x y = false) : apB x y = none := by
 unfold apB
 by_cases e : x.1 = y.1
 ·rw [if_pos e]
  unfold szB at h
  rw [e, beq_self_eq_true, Bool.true_and, beq_eq_false_iff_ne] at h
  cases hf : fk x.2 y.2 with
  | none => rfl
  | some k =>
   exfalso
   obtain ⟨k, _, e2⟩ := fk_some.1 (show (fk x.2 y.2).isSome = true by rw [hf]; rfl)
   apply h
   rw [e2, List.map_map]
   exact List.map_congr_left fun v _ => by simp
 ·rw [if_neg e]
theorem i_find {a b : LB} {x y : Int × List (List DQ)} {i : Nat} (ha : a[i]? = some x) (hb : b[i]? = some y) (hB : VS y.2) (hs : szB x y = true) (hA : ∀ v ∈ x.2, v.length ≤ 1000) (hAl : x.2.length ≤ 1000) (v25 : Int) (out : List Int) (ho : out.length ≤ 1000) (kl : Int → Int → List Int → Option (List Int × Bool)) : ∀ (m k c : Nat), k + c = 8 → c < m →
  i_BranchPhases_l5 a b v25 (i : Int) out kl m (k : Int) = match (List.range' k c).find? (fun k => TK k x.2 y.2) with
   | some k' => kl v25 (IntKind.wrap .i64 ((i : Int) + 1)) (out ++ [(k' : Int)])
   | none => some ([], false) := by
 unfold szB at hs
 rw [Bool.and_eq_true, beq_iff_eq, beq_iff_eq] at hs
 intro m
 induction m with
 | zero => intro k c _ h; omega
 | succ m ih =>
  intro k c hkc hm
  rw [i_BranchPhases_l5]
  cases c with
  | zero =>
   have hk : k = 8 := by omega
   subst hk
   rw [decide_eq_false (by omega), br_false, bO_some]
   rfl
  | succ c =>
   have hk : k < 8 := by omega
   rw [decide_eq_true (by omega), br_true, geti_nat ha, bO_some, geti_nat hb, bO_some, i_times hk hB hs.2 hA hAl, bO_some, bO_some, List.range'_succ, List.find?_cons]
   unfold i_BranchPhases_j17
   cases hT : TK k x.2 y.2 with
   | true =>
    rw [Bool.not_true, br_false]
    unfold i_BranchPhases_j14
    rw [show ((k : Int) == 8) = false by rw [beq_eq_false_iff_ne]; omega, br_false, decide_eq_true (by simp; omega), gd_true]
    rfl
   | false =>
    rw [Bool.not_false, br_true, w64s hk (by omega)]
    exact ih (k + 1) c (by omega) (by omega)
theorem i_bp2 {a b : LB} (hab : a.length = b.length) (hl : a.length ≤ 1000) (hA : ∀ x ∈ a, x.2.length ≤ 1000 ∧ ∀ v ∈ x.2, v.length ≤ 1000) (hB : GS b) (hs : ∀ (i : Nat) (x y : Int × List (List DQ)), a[i]? = some x → b[i]? = some y → szB x y = true) : ∀ (m i : Nat) (out : List Int), i ≤ a.length → a.length - i < m → out.length = i →
  i_BranchPhases_l2 a b m (a.length : Int) (i : Int) out = some (bpR ((bpL (a.drop i) (b.drop i)).map (out ++ ·))) := by
 intro m
 induction m with
 | zero => intro i out _ h; omega
 | succ m ih =>
  intro i out hi hm ho
  rw [i_BranchPhases_l2]
  by_cases e : i = a.length
  ·rw [decide_eq_false (by omega), br_false, List.drop_of_length_le (by omega), List.drop_of_length_le (by omega)]
   simp [bpL, bpR, i_BranchPhases_j2]
  ·have hia : i < a.length := by omega
   have hib : i < b.length := by omega
   have ea := List.getElem?_eq_getElem hia
   have eb := List.getElem?_eq_getElem hib
   obtain ⟨k1, k2⟩ := hA _ (List.getElem_mem hia)
   have hsz := hs i _ _ ea eb
   have hf := i_find ea eb (hB _ (List.getElem_mem hib)) hsz k2 k1 (a.length : Int) out (by omega) (i_BranchPhases_l2 a b m) FU 0 8 rfl (by rw [FU_eq]; omega)
   rw [decide_eq_true (by omega), br_true, show (0 : Int) = ((0 : Nat) : Int) from rfl, hf, List.drop_eq_getElem_cons hia, List.drop_eq_getElem_cons hib]
   unfold bpL apB
   unfold szB at hsz
   rw [Bool.and_eq_true, beq_iff_eq] at hsz
   rw [if_pos hsz.1]
   unfold fk
   cases hq : (List.range' 0 8).find? fun k => TK k a[i].2 b[i].2 with
   | none => rfl
   | some k =>
    simp only []
    rw [w64s hia (by omega), ih (i + 1) _ (by omega) (by omega) (by simp [ho])]
    cases bpL (a.drop (i + 1)) (b.drop (i + 1)) with
    | none => rfl
    | some l => simp [bpR]
theorem bp_none : ∀ {a b : LB} (i : Nat) (x y : Int × List (List DQ)), a[i]? = some x → b[i]? = some y → szB x y = false → bpL a b = none
 | [], _, i, x, y, h, _, _ => by simp at h
 | _ :: _, [], i, x, y, _, h, _ => by simp at h
 | u :: a, v :: b, 0, x, y, h1, h2, h => by
  simp only [List.getElem?_cons_zero, Option.some.injEq] at h1 h2
  subst h1 h2
  unfold bpL
  rw [ap_size h]
 | u :: a, v :: b, i + 1, x, y, h1, h2, h => by
  have := bp_none (a := a) (b := b) i x y (by simpa using h1) (by simpa using h2) h
  unfold bpL
  rw [this]
  cases apB u v <;> rfl
theorem i_bp1 {a b : LB} (hab : a.length = b.length) (hl : a.length ≤ 1000) (hA : ∀ x ∈ a, x.2.length ≤ 1000 ∧ ∀ v ∈ x.2, v.length ≤ 1000) (hB : GS b) : ∀ (m i : Nat), i ≤ a.length → a.length - i < m → (∀ (j : Nat) (x y : Int × List (List DQ)), j < i → a[j]? = some x → b[j]? = some y → szB x y = true) →
  i_BranchPhases_l1 a b m (a.length : Int) (i : Int) = some (bpR (bpL a b)) := by
 intro m
 induction m with
 | zero => intro i _ h; omega
 | succ m ih =>
  intro i hi hm hs
  rw [i_BranchPhases_l1]
  by_cases e : i = a.length
  ·rw [decide_eq_false (by omega), br_false]
   unfold i_BranchPhases_j1
   have := i_bp2 hab hl hA hB (fun j x y h1 h2 => hs j x y (by
     rcases Nat.lt_or_ge j a.length with h' | h'
     · omega
     · rw [List.getElem?_eq_none h'] at h1; cases h1) h1 h2) FU 0 [] (by omega) (by rw [FU_eq]; omega) rfl
   rw [List.drop_zero, List.drop_zero] at this
   rw [show (0 : Int) = ((0 : Nat) : Int) from rfl, this]
   cases bpL a b <;> simp [bpR]
  ·have hia : i < a.length := by omega
   have hib : i < b.length := by omega
   have ea := List.getElem?_eq_getElem hia
   have eb := List.getElem?_eq_getElem hib
   rw [decide_eq_true (by omega), br_true, geti_lt hia, bO_some, geti_lt hib, bO_some, i_sizes (hA _ (List.getElem_mem hia)).1, bO_some]
   show br (!(szB a[i] b[i])) _ _ = _
   cases hz : szB a[i] b[i] with
   | false => rw [Bool.not_false, br_true, bp_none i _ _ ea eb hz]; rfl
   | true =>
    rw [Bool.not_true, br_false, w64s hia (by omega)]
    refine ih (i + 1) (by omega) (by omega) fun j x y hj h1 h2 => ?_
    by_cases ej : j = i
    ·subst ej
     rw [ea] at h1; rw [eb] at h2
     injection h1 with h1; injection h2 with h2
     subst h1 h2
     exact hz
    ·exact hs j x y (by omega) h1 h2
theorem bp_len : ∀ {a b : LB}, a.length ≠ b.length → bpL a b = none
 | [], [], h => absurd rfl h
 | [], y :: b, _ => rfl
 | x :: a, [], _ => rfl
 | x :: a, y :: b, h => by
  have := bp_len (a := a) (b := b) (fun e => h (by simp [e]))
  unfold bpL
  rw [this]
  cases apB x y <;> rfl
theorem gl_gs {L : LB} (h : GL L) : GS L := fun b hb v hv => ((h.2 b hb).2 v hv).2.2
theorem gl_bd {L : LB} (h : GL L) : ∀ x ∈ L, x.2.length ≤ 1000 ∧ ∀ v ∈ x.2, v.length ≤ 1000 := fun b hb => ⟨(h.2 b hb).1, fun v hv => ((h.2 b hb).2 v hv).2.1⟩
theorem i_bp {a b : LB} (ha : GL a) (hb : GL b) : i_BranchPhases a b = some (bpR (bpL a b)) := by
 have hl := ha.1
 unfold i_BranchPhases
 by_cases h : a.length = b.length
 ·rw [show ((a.length : Int) != (b.length : Int)) = false by rw [h]; exact bne_self_eq_false _, br_false]
  exact i_bp1 h ha.1 (gl_bd ha) (gl_gs hb) FU 0 (by omega) (by rw [FU_eq]; omega) (fun j x y hj => by omega)
 ·rw [show ((a.length : Int) != (b.length : Int)) = true by rw [bne_iff_ne]; omega, br_true, bp_len h]
  rfl
theorem s_t_in {k : Nat} (hk : k < 8) (i : Nat) (kl3 : Int → Option Bool) {u v : List DQ} (hv : ∀ z ∈ v, vd z = true) (hl : u.length = v.length) (hu : u.length ≤ 1000) : ∀ (m j : Nat), j ≤ u.length → u.length - j < m →
  s_l24Cols_l4 (k : Int) (i : Int) kl3 u v m (j : Int) = if (u.drop j == (v.drop j).map (ox k)) = true then s_l24Cols_j10 (i : Int) kl3 else some false := by
 intro m
 induction m with
 | zero => intro j _ h; omega
 | succ m ih =>
  intro j hj hm
  rw [s_l24Cols_l4]
  by_cases e : j = u.length
  ·rw [decide_eq_false (by omega), br_false, List.drop_of_length_le (by omega), List.drop_of_length_le (by omega)]
   rfl
  ·have hju : j < u.length := by omega
   have hjv : j < v.length := by omega
   have hd := hv _ (List.getElem_mem hjv)
   rw [decide_eq_true (by omega), br_true, pf_fin ⟨k, hk⟩, bO_some, geti_lt hjv, bO_some, s_mul' (om k) v[j], if_pos ⟨om_vd k, hd⟩, ox_mul' hd, bO_some]
   simp only [res, Bool.not_true, br_false]
   rw [geti_lt hju, bO_some, bO_some, List.drop_eq_getElem_cons hju, List.drop_eq_getElem_cons hjv, List.map_cons, cons_beq]
   have ec : ((ox k v[j]).1 == u[j].1 && ((ox k v[j]).2.1 == u[j].2.1 && ((ox k v[j]).2.2.1 == u[j].2.2.1 && ((ox k v[j]).2.2.2.1 == u[j].2.2.2.1 && (ox k v[j]).2.2.2.2 == u[j].2.2.2.2)))) = (ox k v[j] == u[j]) := rfl
   unfold s_l24Cols_j13
   rw [ec]
   by_cases h : ox k v[j] = u[j]
   ·rw [h, beq_self_eq_true, Bool.not_true, br_false, Bool.true_and, w64s hju (by omega)]
    exact ih (j + 1) (by omega) (by omega)
   ·rw [beq_eq_false_iff_ne.2 h, Bool.not_false, br_true, beq_eq_false_iff_ne.2 (fun e => h e.symm), Bool.false_and, if_neg (by simp)]
theorem s_cols {A B : List (List DQ)} {k : Nat} (hk : k < 8) (hB : VS B) (hA : ∀ v ∈ A, v.length ≤ 1000) (hAl : A.length ≤ 1000) : s_l24Cols A B (k : Int) = some (TK k A B) := by
 unfold s_l24Cols
 by_cases hAB : A.length = B.length
 ·rw [show ((A.length : Int) != (B.length : Int)) = false by rw [hAB]; exact bne_self_eq_false _, br_false]
  have key : ∀ (m i : Nat), i ≤ A.length → A.length - i < m → s_l24Cols_l1 A B (k : Int) m (i : Int) = some (A.drop i == (B.drop i).map fun v => v.map (ox k)) := by
   intro m
   induction m with
   | zero => intro i _ h; omega
   | succ m ih =>
    intro i hi hm
    rw [s_l24Cols_l1]
    by_cases e : i = A.length
    ·rw [decide_eq_false (by omega), br_false, List.drop_of_length_le (by omega), List.drop_of_length_le (by omega)]
     rfl
    ·have hiA : i < A.length := by omega
     have hiB : i < B.length := by omega
     rw [decide_eq_true (by omega), br_true, geti_lt hiA, bO_some, geti_lt hiB, bO_some, List.drop_eq_getElem_cons hiA, List.drop_eq_getElem_cons hiB, List.map_cons]
     have ec : (A[i] :: A.drop (i + 1) == (B[i].map (ox k)) :: (B.drop (i + 1)).map fun v => v.map (ox k)) = (A[i] == B[i].map (ox k) && A.drop (i + 1) == (B.drop (i + 1)).map fun v => v.map (ox k)) := rfl
     rw [ec]
     by_cases hle : A[i].length = B[i].length
     ·rw [show ((A[i].length : Int) != (B[i].length : Int)) = false by rw [hle]; exact bne_self_eq_false _, br_false]
      have := s_t_in hk i (s_l24Cols_l1 A B (k : Int) m) (u := A[i]) (hB _ (List.getElem_mem hiB)) hle (hA _ (List.getElem_mem hiA)) FU 0 (by omega) (by have := hA _ (List.getElem_mem hiA); rw [FU_eq]; omega)
      rw [List.drop_zero, List.drop_zero] at this
      rw [show (0 : Int) = ((0 : Nat) : Int) from rfl, this]
      by_cases h : (A[i] == B[i].map (ox k)) = true
      ·rw [if_pos h, h, Bool.true_and]
       unfold s_l24Cols_j10
       rw [w64s hiA (by omega)]
       exact ih (i + 1) (by omega) (by omega)
      ·rw [if_neg h, Bool.eq_false_iff.2 h, Bool.false_and]
     ·have hne : (A[i] == B[i].map (ox k)) = false := by
       rw [beq_eq_false_iff_ne]
       intro h
       have := congrArg List.length h
       simp at this
       exact hle this
      rw [show ((A[i].length : Int) != (B[i].length : Int)) = true by rw [bne_iff_ne]; omega, br_true, hne, Bool.false_and]
  have := key FU 0 (by omega) (by rw [FU_eq]; omega)
  rw [List.drop_zero, List.drop_zero] at this
  exact this
 ·have hne : TK k A B = false := by
   unfold TK
   rw [beq_eq_false_iff_ne]
   intro h
   have := congrArg List.length h
   simp at this
   exact hAB this
  rw [show ((A.length : Int) != (B.length : Int)) = true by rw [bne_iff_ne]; omega, br_true, hne]
theorem s_apart {x y : Int × List (List DQ)} (hB : VS y.2) (hA : ∀ v ∈ x.2, v.length ≤ 1000) (hAl : x.2.length ≤ 1000) : s_l24Apart x.1 x.2 y.1 y.2 = some (match apB x y with | some k => ((k : Int), true) | none => (0, false)) := by
 unfold s_l24Apart
 have key : ∀ (m k c : Nat), k + c = 8 → c < m → s_l24Apart_l1 x.1 x.2 y.1 y.2 m (k : Int) = some (match (if x.1 = y.1 then (List.range' k c).find? (fun k => TK k x.2 y.2) else none) with | some k => ((k : Int), true) | none => (0, false)) := by
  intro m
  induction m with
  | zero => intro k c _ h; omega
  | succ m ih =>
   intro k c hkc hm
   rw [s_l24Apart_l1]
   cases c with
   | zero =>
    rw [decide_eq_false (by omega), br_false, bO_some]
    by_cases e : x.1 = y.1
    ·rw [if_pos e]; rfl
    ·rw [if_neg e]; rfl
   | succ c =>
    have hk : k < 8 := by omega
    rw [decide_eq_true (by omega), br_true, bO_some]
    unfold s_l24Apart_j4
    by_cases e : x.1 = y.1
    ·rw [if_pos e, show (x.1 == y.1) = true by rw [e]; exact beq_self_eq_true _, br_true, s_cols hk hB hA hAl, bO_some, List.range'_succ, List.find?_cons]
     cases hT : TK k x.2 y.2 with
     | true => rfl
     | false =>
      rw [br_false, w64s hk (by omega)]
      have := ih (k + 1) c (by omega) (by omega)
      rw [if_pos e] at this
      exact this
    ·rw [if_neg e, beq_eq_false_iff_ne.2 e, br_false]; rfl
 have := key FU 0 8 rfl (by rw [FU_eq]; omega)
 exact this
theorem s_bp {a b : LB} (ha : GL a) (hb : GL b) : s_BranchPhases a b = some (bpR (bpL a b)) := by
 have hl := ha.1
 have hA := gl_bd ha
 have hB := gl_gs hb
 unfold s_BranchPhases
 by_cases h : a.length = b.length
 ·rw [show ((a.length : Int) != (b.length : Int)) = false by rw [h]; exact bne_self_eq_false _, br_false]
  have key : ∀ (m i : Nat) (out : List Int), i ≤ a.length → a.length - i < m → out.length = i → s_BranchPhases_l1 a b m (i : Int) out = some (bpR ((bpL (a.drop i) (b.drop i)).map (out ++ ·))) := by
   intro m
   induction m with
   | zero => intro i out _ h; omega
   | succ m ih =>
    intro i out hi hm ho
    rw [s_BranchPhases_l1]
    by_cases e : i = a.length
    ·rw [decide_eq_false (by omega), br_false, List.drop_of_length_le (by omega), List.drop_of_length_le (by omega)]
     simp [bpL, bpR, s_BranchPhases_j1]
    ·have hia : i < a.length := by omega
     have hib : i < b.length := by omega
     obtain ⟨k1, k2⟩ := hA _ (List.getElem_mem hia)
     rw [decide_eq_true (by omega), br_true, geti_lt hia, bO_some, geti_lt hib, bO_some, s_apart (hB _ (List.getElem_mem hib)) k2 k1, bO_some, List.drop_eq_getElem_cons hia, List.drop_eq_getElem_cons hib]
     unfold bpL
     cases apB a[i] b[i] with
     | none => rfl
     | some k =>
      simp only [Bool.not_true, br_false]
      rw [decide_eq_true (by simp; omega), gd_true, w64s hia (by omega), ih (i + 1) _ (by omega) (by omega) (by simp [ho])]
      cases bpL (a.drop (i + 1)) (b.drop (i + 1)) with
      | none => rfl
      | some l => simp [bpR]
  have := key FU 0 [] (by omega) (by rw [FU_eq]; omega) rfl
  rw [List.drop_zero, List.drop_zero] at this
  rw [show (0 : Int) = ((0 : Nat) : Int) from rfl, this]
  cases bpL a b <;> simp [bpR]
 ·rw [show ((a.length : Int) != (b.length : Int)) = true by rw [bne_iff_ne]; omega, br_true, bp_len h]
  rfl
theorem sameI (l : List Int) (hl : l.length ≤ 4000000) : l_sameInts l l = some true := by
 unfold l_sameInts
 simp only [bne_self_eq_false, br_false]
 rw [loop_all0 (l_sameInts_l1 l l) l.length (fun _ => true) (by omega) (fun m k hk => ?_) (some true) (fun m => ?_), all_true]
 ·rfl
 ·have hlt : (k : Int) < (l.length : Int) := by omega
  rw [l_sameInts_l1, geti_lt hk, w64s hk (by omega)]
  simp only [hlt, decide_true, br_true, bO_some, bne_self_eq_false, br_false]
 ·have hlt : ¬ (l.length : Int) < (l.length : Int) := by omega
  rw [l_sameInts_l1]
  simp only [hlt, decide_false, br_false, l_sameInts_j1]
theorem bp_ln : ∀ {a b : LB} {l : List Int}, bpL a b = some l → l.length = a.length
 | [], [], l, h => by unfold bpL at h; injection h with h; subst h; rfl
 | [], y :: b, l, h => by cases h
 | x :: a, [], l, h => by cases h
 | x :: a, y :: b, l, h => by
  unfold bpL at h
  cases hx : apB x y with
  | none => rw [hx] at h; cases h
  | some k =>
   rw [hx] at h
   cases e : bpL a b with
   | none => simp only [e] at h; cases h
   | some l' =>
    simp only [e, Option.map_some, Option.some.injEq] at h
    subst h
    rw [List.length_cons, List.length_cons, bp_ln e]
end Go.Proofs.Ytfjopjalhllplaa
