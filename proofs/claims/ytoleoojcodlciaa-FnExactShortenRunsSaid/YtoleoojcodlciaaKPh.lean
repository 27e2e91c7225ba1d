/- Plain laws: a gate on a tableau. -/
import Derived.Test.YtoleoojcodlciaaK5
import Derived.Test.YtoleoojcodlciaaK9
import Derived.Test.YtoleoojcodlciaaK10
namespace Go.Proofs.Ytoleoojcodlciaa
open Go.RowKit
set_option maxRecDepth 100000
set_option linter.unusedVariables false
set_option linter.unusedSimpArgs false
def gmap {N : Int} (h : 1 ≤ N ∧ N ≤ 4) (k a b : Int) (q : Q4) : Q4 := (led h (gA h k a b) (gB h k a b) (toG h q)).q
theorem conj_gmap {N k a b c : Int} (h : 1 ≤ N ∧ N ≤ 4) (h1 : clif k = true) (h2 : ivg k a b c N = true) {q : Q4} (hv : vP q = true) (hn : q.1 = N) :
    s_ConjugatePauli q.1 q.2.1 q.2.2.1 q.2.2.2 k a b c = some ((gmap h k a b q).1, (gmap h k a b q).2.1, (gmap h k a b q).2.2.1, (gmap h k a b q).2.2.2, true) := by
  obtain ⟨q0, q1, q2, q3⟩ := q
  simp only at hn
  subst hn
  have e : toG h (q0, q1, q2, q3) = ⟨(q0, q1, q2, q3), hv, rfl⟩ := Gp.ext (toG_q h hv rfl)
  have := conj_s h1 h2 hv h
  unfold gmap
  rw [e]
  exact this
theorem mem_row {N : Int} {l : List Q4} (ht : tB N l = true) {q : Q4} (hq : q ∈ l) : vP q = true ∧ q.1 = N := by
  obtain ⟨j, hj, rfl⟩ := List.mem_iff_getElem.1 hq
  obtain ⟨e, g⟩ := row_vP ht (List.getElem?_eq_getElem hj)
  exact ⟨g, e⟩
/-- A map that keeps what is Hermitian and what commutes keeps valid tableaux. -/
theorem tB_map {N : Int} {l : List Q4} (ht : tB N l = true) (f : Q4 → Q4) (h1 : ∀ q ∈ l, (f q).1 = N) (h2 : ∀ q ∈ l, hP (f q) = hP q) (h3 : ∀ q ∈ l, ∀ r ∈ l, cP (f q) (f r) = cP q r) : tB N (l.map f) = true := by
  obtain ⟨hN, hlen, hr⟩ := tB_inv2 ht
  unfold tB
  simp only [Bool.and_eq_true, decide_eq_true_eq, List.all_eq_true, List.mem_range, List.length_map]
  refine ⟨hN, hlen, fun k hk => ?_⟩
  have hq := List.getElem?_eq_getElem hk
  have hmem := List.getElem_mem hk
  have := hr k hk
  rw [rowB_eq hq] at this
  have hq' : (l.map f)[k]? = some (f l[k]) := by rw [List.getElem?_map, hq]; rfl
  rw [rowB_eq hq']
  simp only [Bool.and_eq_true, beq_iff_eq, List.all_eq_true, List.mem_range] at this ⊢
  refine ⟨h1 _ hmem, (h2 _ hmem).trans this.2.1, fun i hi => ?_⟩
  have hil : i < l.length := by omega
  have hc := this.2.2 i hi
  unfold cell4 at hc ⊢
  have hi' : (l.map f)[i]? = some (f l[i]) := by rw [List.getElem?_map, List.getElem?_eq_getElem hil]; rfl
  rw [List.getElem?_eq_getElem hil] at hc
  rw [hi']
  simp only at hc ⊢
  rw [h3 _ (List.getElem_mem hil) _ hmem]
  exact hc
theorem gmap_tB {N k a b c : Int} (h : 1 ≤ N ∧ N ≤ 4) (h1 : clif k = true) (h2 : ivg k a b c N = true) {l : List Q4} (ht : tB N l = true) : tB N (l.map (gmap h k a b)) = true := by
  have F := gate_fam h h1 h2
  refine tB_map ht _ (fun q hq => (led h _ _ _).n) (fun q hq => ?_) (fun q hq r hr => ?_)
  · unfold gmap
    rw [led_herm F, toG_q h (mem_row ht hq).1 (mem_row ht hq).2]
  · unfold gmap
    rw [led_comm F, toG_q h (mem_row ht hq).1 (mem_row ht hq).2, toG_q h (mem_row ht hr).1 (mem_row ht hr).2]
theorem tg_ok {N k a b c : Int} {l : List Q4} (hl : l.length ≤ 1048576) (h : 1 ≤ N ∧ N ≤ 4) (h1 : clif k = true) (h2 : ivg k a b c N = true) (ht : tB N l = true) :
    s_TableauApplyGate N l k a b c = some (N, l.map (gmap h k a b), true) := by
  unfold s_TableauApplyGate
  rw [s_tab N l hl, ht, bO_some]
  simp only [Bool.not_true, br_false]
  have key : ∀ m (j : Nat), j ≤ l.length → l.length - j < m → s_TableauApplyGate_l1 N l k a b c m (j : Int) ((l.take j).map (gmap h k a b)) = some (N, l.map (gmap h k a b), true) := by
    intro m
    induction m with
    | zero => intro j _ h; omega
    | succ m ih =>
      intro j hj hm
      rw [s_TableauApplyGate_l1]
      by_cases e : j = l.length
      · have hlt : ¬ (j : Int) < (l.length : Int) := by omega
        simp only [hlt, decide_false, br_false, s_TableauApplyGate_j1]
        rw [e, List.take_length]
      · have hjl : j < l.length := by omega
        have hlt : (j : Int) < (l.length : Int) := by omega
        obtain ⟨hv, hn⟩ := mem_row ht (List.getElem_mem hjl)
        have hg : decide ((List.map (gmap h k a b) (List.take j l)).length + [((gmap h k a b l[j]).1, (gmap h k a b l[j]).2.1, (gmap h k a b l[j]).2.2.1, (gmap h k a b l[j]).2.2.2)].length ≤ 16777216) = true := decide_eq_true (by simp; omega)
        simp only [hlt, decide_true, br_true, geti_lt hjl, bO_some, conj_gmap h h1 h2 hv hn, Bool.not_true, br_false, hg, gd_true, w64s hjl (by omega : l.length ≤ 4194304)]
        have := ih (j + 1) (by omega) (by omega)
        rw [List.take_succ_eq_append_getElem hjl, List.map_append] at this
        exact this
  exact key FU 0 (by omega) (by rw [FU_eq]; omega)
theorem tg_no {N k a b c : Int} {l : List Q4} (hl : l.length ≤ 1048576) (hb : (clif k && ivg k a b c N) = false ∨ tB N l = false) : s_TableauApplyGate N l k a b c = some (0, [], false) := by
  unfold s_TableauApplyGate
  rw [s_tab N l hl, bO_some]
  rcases Bool.eq_false_or_eq_true (tB N l) with ht | ht
  · have hb : (clif k && ivg k a b c N) = false := by
      rcases hb with h | h
      · exact h
      · rw [ht] at h; cases h
    obtain ⟨hN, hlen, _⟩ := tB_inv2 ht
    simp only [ht, Bool.not_true, br_false]
    rw [show FU = 4194303 + 1 from rfl, s_TableauApplyGate_l1]
    have hjl : 0 < l.length := by omega
    have hlt : (0 : Int) < (l.length : Int) := by omega
    obtain ⟨hv, hn⟩ := mem_row ht (List.getElem_mem hjl)
    have hc : s_ConjugatePauli l[0].1 l[0].2.1 l[0].2.2.1 l[0].2.2.2 k a b c = some (0, 0, 0, 0, false) := by
      rcases conj_all l[0].1 l[0].2.1 l[0].2.2.1 l[0].2.2.2 k a b c with ⟨_, _, h1, h2, _⟩ | hc
      · rw [hn] at h2; rw [h1, h2] at hb; cases hb
      · exact hc
    have hg : geti l 0 = some l[0] := geti_lt hjl
    simp only [hlt, decide_true, br_true, hg, bO_some, hc, Bool.not_false]
  · simp only [ht, Bool.not_false, br_true]
/-- Equal tableaux. -/
theorem s_eqT (N : Int) (l : List Q4) (M : Int) (r : List Q4) (hl : l.length ≤ 1048576) : s_EqualTableau N l M r = some (N == M && l == r) := by
  unfold s_EqualTableau
  by_cases hN : N = M
  · subst hN
    simp only [bne_self_eq_false, br_false, bO_some, s_EqualTableau_j1, beq_self_eq_true, Bool.true_and]
    by_cases hlen : l.length = r.length
    · have : ((l.length : Int) != (r.length : Int)) = false := by simp [hlen]
      simp only [this, br_false]
      rw [loop_all0 (s_EqualTableau_l1 l r) l.length (fun k => l[k]? == r[k]?) (by omega) (fun m k hk => ?_) (some true) (fun m => ?_)]
      · have e : (List.range l.length).all (fun k => l[k]? == r[k]?) = (l == r) := by
          rw [Bool.eq_iff_iff, List.all_eq_true, beq_iff_eq]
          constructor
          · intro hh
            refine List.ext_getElem? fun k => ?_
            by_cases hk : k < l.length
            · exact eq_of_beq (hh k (List.mem_range.2 hk))
            · rw [List.getElem?_eq_none (by omega), List.getElem?_eq_none (by omega)]
          · intro hh k _; rw [hh]; exact beq_self_eq_true _
        rw [e]
        cases (l == r) <;> rfl
      · have hk' : k < r.length := by omega
        have hlt : (k : Int) < (l.length : Int) := by omega
        rw [s_EqualTableau_l1, geti_lt hk, geti_lt hk', w64s hk (by omega)]
        simp only [hlt, decide_true, br_true, bO_some, List.getElem?_eq_getElem hk, List.getElem?_eq_getElem hk']
        have e : (l[k].1 == r[k].1 && (l[k].2.1 == r[k].2.1 && (l[k].2.2.1 == r[k].2.2.1 && l[k].2.2.2 == r[k].2.2.2))) = (some l[k] == some r[k]) := rfl
        rw [e]
        cases (some l[k] == some r[k]) <;> rfl
      · have hlt : ¬ (l.length : Int) < (l.length : Int) := by omega
        rw [s_EqualTableau_l1]
        simp only [hlt, decide_false, br_false, s_EqualTableau_j2]
    · have : ((l.length : Int) != (r.length : Int)) = true := by rw [bne_iff_ne]; intro hh; exact hlen (by omega)
      have e : (l == r) = false := by
        rw [beq_eq_false_iff_ne]; intro hh; exact hlen (by rw [hh])
      simp only [this, br_true, e]
  · have : (N != M) = true := by simpa using hN
    have e : (N == M) = false := by simpa using hN
    simp only [this, br_true, bO_some, s_EqualTableau_j1, e, Bool.false_and]
/-- The inverse of a gate. -/
def invK (k : Int) : Int := if k = 5 then 6 else if k = 6 then 5 else if k = 7 then 8 else if k = 8 then 7 else k
theorem i_inv (k a b c : Int) : i_InverseGate k a b c = some (invK k, a, b, c) := by
  unfold i_InverseGate invK
  by_cases h5 : k = 5
  · subst h5; rfl
  by_cases h6 : k = 6
  · subst h6; rfl
  by_cases h7 : k = 7
  · subst h7; rfl
  by_cases h8 : k = 8
  · subst h8; rfl
  have e5 : (k == 5) = false := by simpa using h5
  have e6 : (k == 6) = false := by simpa using h6
  have e7 : (k == 7) = false := by simpa using h7
  have e8 : (k == 8) = false := by simpa using h8
  simp only [e5, e6, e7, e8, br_false, i_InverseGate_j1, h5, h6, h7, h8, if_false]
theorem inv_ar (k : Int) : arity (invK k) = arity k := by unfold invK; (repeat' split) <;> first | rfl | (subst_vars; rfl)
theorem inv_clif (k : Int) : clif (invK k) = clif k := by unfold invK; (repeat' split) <;> first | rfl | (subst_vars; rfl)
theorem inv_ivg (k a b c n : Int) : ivg (invK k) a b c n = ivg k a b c n := by unfold ivg; rw [inv_ar]
def invOk (N : Nat) (k a b : Int) : Bool := (List.range N).all fun i => [false, true].all fun z =>
  match s_l25Single (N : Int) (i : Int) z, s_ConjugatePauli (iQ N k a b i z).1 (iQ N k a b i z).2.1 (iQ N k a b i z).2.2.1 (iQ N k a b i z).2.2.2 (invK k) a b 0 with
  | some p, some r => (r.1, r.2.1, r.2.2.1, r.2.2.2.1) == p && p == ((N : Int), (if z then 0 else 2 ^ i), (if z then 2 ^ i else 0), 0)
  | _, _ => false
theorem inv_fin : ∀ k : Fin 12, ∀ a b : Fin 4, ∀ N : Fin 5, (clif k.val && ivg k.val a.val b.val 0 N.val) = true → invOk N.val k.val a.val b.val = true := by decide +kernel
/-- X and Z themselves. -/
def eX (N : Int) (i : Nat) : Q4 := (N, 2 ^ i, 0, 0)
def eZ (N : Int) (i : Nat) : Q4 := (N, 0, 2 ^ i, 0)
def prdQ (N : Int) (A B : Nat → Q4) (x z : Int) : Nat → Q4
  | 0 => (N, 0, 0, 0)
  | k + 1 => let p := prdQ N A B x z k; let p := if bt x k then mulQ p (A k) else p; if bt z k then mulQ p (B k) else p
theorem prd_q {N : Int} (h : 1 ≤ N ∧ N ≤ 4) (A B : Nat → Gp N) (x z : Int) : ∀ k, (prd h A B x z k).q = prdQ N (fun j => (A j).q) (fun j => (B j).q) x z k
  | 0 => rfl
  | k + 1 => by
    simp only [prd, prdQ]
    rw [← prd_q h A B x z k]
    unfold Gp.pw
    cases bt x k <;> cases bt z k <;> rfl
theorem prdQ_congr (N : Int) {A B C D : Nat → Q4} (x z : Int) : ∀ k, (∀ j, j < k → A j = C j ∧ B j = D j) → prdQ N A B x z k = prdQ N C D x z k
  | 0, _ => rfl
  | k + 1, hj => by
    simp only [prdQ]
    rw [prdQ_congr N x z k (fun j hj' => hj j (by omega)), (hj k (by omega)).1, (hj k (by omega)).2]
theorem std_fin : ∀ N : Fin 5, ∀ x z : Fin 16, (decide (N.val < 1) || (decide (2 ^ N.val ≤ x.val) || (decide (2 ^ N.val ≤ z.val) || prdQ N.val (eX N.val) (eZ N.val) x.val z.val N.val == ((N.val : Int), (x.val : Int), (z.val : Int), 0)))) = true := by decide +kernel
theorem led_std {N : Int} (h : 1 ≤ N ∧ N ≤ 4) {A B : Nat → Gp N} (hA : ∀ j, j < N.toNat → (A j).q = eX N j) (hB : ∀ j, j < N.toNat → (B j).q = eZ N j) (p : Gp N) : led h A B p = p := by
  obtain ⟨h1, h2, h3, h4⟩ := vP_iff.1 (show vP (p.q.1, p.q.2.1, p.q.2.2.1, p.q.2.2.2) = true from p.v)
  rw [p.n] at h1 h2 h3
  obtain ⟨x, hx⟩ := p.sm.1.fin
  obtain ⟨z, hz⟩ := p.sm.2.1.fin
  obtain ⟨n, hn⟩ := fin_of' (n := 5) (x := N) (by omega)
  have e := std_fin n x z
  have b1 : decide (n.val < 1) = false := decide_eq_false (by omega)
  have e2 : ((2 ^ n.val : Nat) : Int) = 2 ^ N.toNat := by rw [hn]; simp
  have b2 : decide (2 ^ n.val ≤ x.val) = false := decide_eq_false (by omega)
  have b3 : decide (2 ^ n.val ≤ z.val) = false := decide_eq_false (by omega)
  rw [b1, b2, b3, Bool.false_or, Bool.false_or, Bool.false_or, beq_iff_eq] at e
  have q : (prd h A B p.q.2.1 p.q.2.2.1 N.toNat).q = (N, p.q.2.1, p.q.2.2.1, 0) := by
    rw [prd_q, prdQ_congr N _ _ _ (fun j hj => ⟨hA j hj, hB j hj⟩), hx, hz, hn]
    simpa using e
  refine Gp.ext ?_
  unfold led
  rw [Gp.ph_q, q]
  refine q4_ext p.n.symm rfl rfl ?_
  show (0 + p.q.2.2.2) % 4 = _
  omega
theorem gmap_inv {N k a b c : Int} (h : 1 ≤ N ∧ N ≤ 4) (h1 : clif k = true) (h2 : ivg k a b c N = true) {q : Q4} (hv : vP q = true) (hn : q.1 = N) : gmap h (invK k) a b (gmap h k a b q) = q := by
  have h1' : clif (invK k) = true := by rw [inv_clif]; exact h1
  have h2' : ivg (invK k) a b c N = true := by rw [inv_ivg]; exact h2
  have F' := gate_fam h h1' h2'
  obtain ⟨rfl, d1, d2, d3, _⟩ := gate_dom h1 h2
  have hf : invOk N.toNat k a b = true := by
    obtain ⟨k, rfl⟩ := fin_of' (n := 12) d1
    obtain ⟨a, rfl⟩ := fin_of' (n := 4) d2
    obtain ⟨b, rfl⟩ := fin_of' (n := 4) d3
    obtain ⟨N, rfl⟩ := fin_of' (n := 5) (x := N) (by omega)
    exact inv_fin k a b N (by rw [h1, h2]; rfl)
  have hN : ((N.toNat : Nat) : Int) = N := by omega
  unfold invOk at hf
  simp only [hN, List.all_eq_true, List.mem_range] at hf
  unfold gmap
  rw [toG_id, led_led F']
  have key : ∀ i, i < N.toNat → ∀ z : Bool, ((led h (gA h (invK k) a b) (gB h (invK k) a b) (if z then gB h k a b i else gA h k a b i))).q = (N, (if z then 0 else 2 ^ i), (if z then 2 ^ i else 0), 0) := by
    intro i hi z
    have e := hf i hi z (by cases z <;> simp)
    obtain ⟨_, _, qA, qB⟩ := img_g h h1 h2 hi
    have qz : (if z then gB h k a b i else gA h k a b i).q = iQ N k a b i z := by cases z <;> simp [qA, qB]
    generalize hR : (if z then gB h k a b i else gA h k a b i) = R at qz ⊢
    have hc := conj_gmap h h1' h2' R.v R.n
    rw [qz] at hc
    split at e
    · rename_i p r hp hr
      rw [hr] at hc
      injection hc with hc
      simp only [Bool.and_eq_true, beq_iff_eq] at e
      rw [hc] at e
      have e1 : gmap h (invK k) a b (iQ N k a b i z) = p := e.1
      rw [← qz] at e1
      unfold gmap at e1
      rw [toG_id] at e1
      rw [e1]; exact e.2
    · cases e
  rw [led_std h (fun j hj => by have := key j hj false; simpa [eX] using this) (fun j hj => by have := key j hj true; simpa [eZ] using this), toG_q h hv hn]
end Go.Proofs.Ytoleoojcodlciaa
