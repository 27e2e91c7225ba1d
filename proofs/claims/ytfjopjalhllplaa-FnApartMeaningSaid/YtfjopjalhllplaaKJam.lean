/- Plain law and its bridge: ApartMeaning. -/
import Derived.Test.YtfjopjalhllplaaKDl
import Derived.Test.YtfjopjalhllplaaKPbp
import Derived.Test.YtfjopjalhllplaaKPso
import Derived.Test.YtfjopjalhllplaaKMlr
namespace Go.Proofs.Ytfjopjalhllplaa
open Go.RowKit
set_option maxRecDepth 100000
set_option linter.unusedVariables false
set_option linter.unusedSimpArgs false
theorem am_law {a b : LB} (ha : GL a) (hb : GL b) : amB (a, b) = some true := by
 have hs := bp_sym (gl_gs ha) (gl_gs hb)
 have hs' := bp_sym (gl_gs hb) (gl_gs ha)
 have hr := bp_self (gl_gs ha)
 have hab : (bpR (bpL b a)).2 = (bpR (bpL a b)).2 := by
  cases h1 : bpL a b with
  | none =>
   cases h2 : bpL b a with
   | none => rfl
   | some l => rw [h2] at hs'; have := hs' rfl; rw [h1] at this; cases this
  | some l =>
   rw [h1] at hs
   obtain ⟨l', hl'⟩ := Option.isSome_iff_exists.1 (hs rfl)
   rw [hl']
   rfl
 have haa : (bpR (bpL a a)).2 = true := by
  obtain ⟨l', hl'⟩ := Option.isSome_iff_exists.1 hr
  rw [hl']
  rfl
 have hlen : (bpR (bpL a b)).1.length ≤ 4000000 := by
  cases h1 : bpL a b with
  | none => simp [bpR]
  | some l =>
   have := bp_ln h1
   have := ha.1
   show l.length ≤ 4000000
   omega
 unfold amB amJ i_EqualUpToPhases
 simp only [i_bp ha hb, i_bp hb ha, i_bp ha ha, s_bp ha hb, bO_some, bne_self_eq_false, br_false, sameI _ hlen, Bool.not_true, hab, haa, beq_self_eq_true, br_true]
theorem right21_ok {b : List Int} {i h most : Int} (hcu : CurP (b, i, h)) (hm : 0 ≤ most ∧ most ≤ 20) : Ok (s_l21Right b i h most) (fun r => (r.2.2.2.1.length : Int) ≤ most ∧ CurP r.2.2.2.2) := by
 unfold s_l21Right
 refine (below_ok hcu).bO fun x hx => ?_
 have hb := hx.1.2.1 (by omega)
 obtain ⟨n, hn, hn1⟩ := nat_of (n := IntKind.wrap .i64 (1 + x.1)) (by rw [w64 (by omega) (by omega)]; omega)
 rw [hn]
 have core : ∀ (v8 : List Int) (v9 v10 v12 v13 : Int), CurP (v8, v9, v10) → Ok (s_l21Right_j1 most v8 v9 v10 (n : Int) v12 v13) (fun r => (r.2.2.2.1.length : Int) ≤ most ∧ CurP r.2.2.2.2) := by
  intro v8 v9 v10 v12 v13 hc
  unfold s_l21Right_j1
  refine (once_ok hc).bO fun x5 h5 => (below_ok h5).bO fun x6 h6 => ?_
  have hw : IntKind.wrap .i64 (most + 1) = most + 1 := w64 (by omega) (by omega)
  rw [hw] at h6
  have h6b := h6.1.2.1 (by omega)
  have key : ∀ (m : Nat) (k : Nat) (b : List Int) (i h bt : Int) (gs : List OP), (k : Int) ≤ x6.1 → x6.1 - k < m → gs.length = k → CurP (b, i, h) →
    Ok (s_l21Right_l1 (n : Int) v12 v13 x5 x6 m b i h (k : Int) bt gs) (fun r => (r.2.2.2.1.length : Int) ≤ most ∧ CurP r.2.2.2.2) := by
   intro m
   induction m with
   | zero => intro k b i h bt gs h1 h2; omega
   | succ m ih =>
    intro k b i h bt gs h1 h2 h3 hc
    rw [s_l21Right_l1]
    refine Ok.br (fun e => ?_) (fun e => Ok.some ⟨by show (gs.length : Int) ≤ most; omega, hc⟩)
    have e := of_decide_eq_true e
    have wk : IntKind.wrap .i64 ((k : Int) + 1) = ((k + 1 : Nat) : Int) := by rw [w64 (by omega) (by omega)]; omega
    have go : ∀ (b : List Int) (i h bt : Int) (g : OP), CurP (b, i, h) → Ok (gd (decide (gs.length + [g].length ≤ 16777216)) (s_l21Right_j12 (k : Int) (s_l21Right_l1 (n : Int) v12 v13 x5 x6 m) b i h bt (gs ++ [g]))) (fun r => (r.2.2.2.1.length : Int) ≤ most ∧ CurP r.2.2.2.2) := by
     intro b i h bt g hc
     refine Ok.gd (decide_eq_true (by simp; omega)) ?_
     unfold s_l21Right_j12
     rw [wk]
     exact ih (k + 1) _ _ _ _ _ (by omega) (by omega) (by simp; omega) hc
    have fl : ∃ z, br x5.1 (some (decide (bt < 2))) (some false) = some z := by cases x5.1 <;> exact ⟨_, rfl⟩
    obtain ⟨z, hz⟩ := fl
    rw [hz, bO_some]
    have s2 : Ok (br z (bO (s_l1Once b i h 4) fun x24 => some (x24.1, x24.2.1, x24.2.2.1, x24.2.2.2)) (some (false, b, i, h))) (fun y => CurP y.2) :=
     Ok.br (fun _ => (once_ok hc).bO fun y hy => Ok.some hy) (fun _ => Ok.some hc)
    refine s2.bO fun y hy => ?_
    unfold s_l21Right_j13
    refine Ok.br (fun _ => (below_ok hy).bO fun x30 h30 => go _ _ _ _ _ h30.2) (fun _ => (gate_ok hy hn1).bO fun x31 h31 => ?_)
    have s3 : Ok (br (decide (0 < bt)) (bO (s_l1Once x31.2.2.2.2.1 x31.2.2.2.2.2.1 x31.2.2.2.2.2.2 2) fun x32 => some (x32.1, x32.2.1, x32.2.2.1, x32.2.2.2)) (some (false, x31.2.2.2.2.1, x31.2.2.2.2.2.1, x31.2.2.2.2.2.2))) (fun y => CurP y.2) :=
     Ok.br (fun _ => (once_ok h31.2).bO fun y hy => Ok.some hy) (fun _ => Ok.some h31.2)
    refine s3.bO fun u hu => ?_
    unfold s_l21Right_j15 s_l21Right_j14
    exact Ok.br (fun _ => (below_ok hu).bO fun x35 h35 => go _ _ _ _ _ h35.2) (fun _ => go _ _ _ _ _ hu)
  exact key FU 0 _ _ _ 0 [] (by omega) (by rw [FU_eq]; omega) rfl h6.2
 have s1 : Ok (br (decide (1 < (n : Int))) (bO (s_l1Once x.2.1 x.2.2.1 x.2.2.2 4) fun x2 => some (x2.1, x2.2.1, x2.2.2.1, x2.2.2.2)) (some (false, x.2.1, x.2.2.1, x.2.2.2))) (fun y => CurP y.2) :=
  Ok.br (fun _ => (once_ok hx.2).bO fun y hy => Ok.some hy) (fun _ => Ok.some hx.2)
 refine s1.bO fun y hy => ?_
 unfold s_l21Right_j2
 exact Ok.br (fun _ => core _ _ _ _ _ hy) (fun _ => core _ _ _ _ _ hy)
theorem gl_nil : GL [] := ⟨by simp, fun b hb => by simp at hb⟩
theorem sim_ok {n inn bits : Int} {L : List OP} (hL : L.length ≤ 20) : ∃ r, s_Simulate n inn bits L = some r ∧ GL r.1 := by
 have hh := hcO_le L
 refine ⟨_, s_sim (by omega) (by omega), ?_⟩
 split
 ·rename_i hv
  exact sim_GL (by omega) hv
 ·exact gl_nil
theorem l7_copy (a : List (List DQ)) (hl : a.length ≤ 1000) (hv : ∀ v ∈ a, v.length ≤ 1000) : s_l7Copy a = some a := by
 unfold s_l7Copy
 have key : ∀ (m i : Nat), i ≤ a.length → a.length - i < m → s_l7Copy_l1 a m (i : Int) (a.take i) = some a := by
  intro m
  induction m with
  | zero => intro i _ h; omega
  | succ m ih =>
   intro i hi hm
   rw [s_l7Copy_l1]
   by_cases e : i = a.length
   ·rw [decide_eq_false (by omega), br_false, List.take_of_length_le (by omega)]
    rfl
   ·have hil : i < a.length := by omega
    have hvl := hv _ (List.getElem_mem hil)
    have ec : s_l6Copy a[i] = some a[i] := by
     unfold s_l6Copy
     rw [decide_eq_true (by simp; omega), gd_true]
     try rfl
    rw [decide_eq_true (by omega), br_true, geti_lt hil, bO_some, ec, bO_some, decide_eq_true (by simp; omega), gd_true, w64s hil (by omega)]
    have := ih (i + 1) (by omega) (by omega)
    rw [List.take_add_one, List.getElem?_eq_getElem hil] at this
    exact this
 exact key FU 0 (by omega) (by rw [FU_eq]; omega)
theorem deb_ok {code : List Int} (h : code.length ≤ 1048576) : ∃ r, s_DrawEqualBranches code = some r ∧ GL r.1 ∧ GL r.2 := by
 unfold s_DrawEqualBranches
 refine (new_ok h).bO fun c hc => (right21_ok hc (by omega)).bO fun x2 h2 => ?_
 obtain ⟨x3, e3, g3⟩ := sim_ok (n := x2.1) (inn := x2.2.1) (bits := x2.2.2.1) (L := x2.2.2.2.1) (by have := h2.1; omega)
 rw [e3, bO_some]
 refine (once_ok h2.2).bO fun x4 h4 => Ok.br (fun _ => (right21_ok h4 (by omega)).bO fun x5 h5 => ?_) (fun _ => ?_)
 ·obtain ⟨x6, e6, g6⟩ := sim_ok (n := x5.1) (inn := x5.2.1) (bits := x5.2.2.1) (L := x5.2.2.2.1) (by have := h5.1; omega)
  rw [e6, bO_some]
  exact Ok.some ⟨g3, g6⟩
 ·obtain ⟨L3, b3⟩ := x3
  simp only at g3
  have hl := g3.1
  have key : ∀ (m i : Nat), i ≤ L3.length → L3.length - i < m → s_DrawEqualBranches_l1 (L3, b3) m (i : Int) (L3.take i) = some (L3, L3) := by
   intro m
   induction m with
   | zero => intro i _ h; omega
   | succ m ih =>
    intro i hi hm
    rw [s_DrawEqualBranches_l1]
    simp only []
    by_cases e : i = L3.length
    ·rw [decide_eq_false (by omega), br_false, List.take_of_length_le (by omega)]
     rfl
    ·have hil : i < L3.length := by omega
     obtain ⟨k1, k2⟩ := g3.2 _ (List.getElem_mem hil)
     rw [decide_eq_true (by omega), br_true, geti_lt hil, bO_some, l7_copy L3[i].2 k1 (fun v hv => (k2 v hv).2.1), bO_some, decide_eq_true (by simp; omega), gd_true, w64s hil (by omega)]
     have := ih (i + 1) (by omega) (by omega)
     rw [List.take_add_one, List.getElem?_eq_getElem hil] at this
     exact this
  exact ⟨(L3, L3), key FU 0 (by omega) (by rw [FU_eq]; omega), g3, g3⟩
theorem law_am (A : Option Addr) (n c : Nat) (l : List Int) (w : World) (wa : IsBytesC w A n c l) :
  Calls Try.prog 3 #[.slice A n c] w fun e w' => e = .returned (.bool true) ∧ Below w.heap.size w w' :=
 spec_calls (am_ok (fun hl => dbp_E hl (deb_ok hl)) (fun a b ha hb => am_law ha hb)) rfl (args1 (.plain (pv_bytes wa)))
end Go.Proofs.Ytfjopjalhllplaa
