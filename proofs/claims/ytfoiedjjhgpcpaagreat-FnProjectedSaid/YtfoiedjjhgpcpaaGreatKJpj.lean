/- Plain law and its bridge: Projected. -/
import Derived.Test.YtfoiedjjhgpcpaaGreatKMLpj
import Derived.Test.YtfoiedjjhgpcpaaGreatKPdq
import Derived.Test.YtfoiedjjhgpcpaaGreatKPvw
import Derived.Test.YtfoiedjjhgpcpaaGreatKPiq
import Derived.Test.YtfoiedjjhgpcpaaGreatK17
import Derived.Test.YtfoiedjjhgpcpaaGreatK12
import Derived.Test.YtfoiedjjhgpcpaaGreatK1
namespace Go.Proofs.YtfoiedjjhgpcpaaGreat
open Go.RowKit
set_option maxRecDepth 100000
set_option linter.unusedVariables false
set_option linter.unusedSimpArgs false
theorem dps_ok {code : List Int} (h : code.length ≤ 1048576) : Ok (s_DrawProjectState code) (fun r => r.2.2.2.2.length ≤ 16) := by
  unfold s_DrawProjectState
  suffices H : Ok (s_DrawIsStabilizedBy code) (fun r => r.2.2.2.2.length ≤ 16) by
    exact H.bO fun x hx => Ok.some hx
  unfold s_DrawIsStabilizedBy
  refine (new_ok h).bO fun c hcu => (below_ok hcu).bO fun x hx => ?_
  have hb := hx.1.2.1 (by omega)
  obtain ⟨n, hn, hn1⟩ := nat_of (n := IntKind.wrap .i64 (1 + x.1)) (by rw [w64 (by omega) (by omega)]; omega)
  rw [hn]
  have hN : 1 ≤ (n : Int) ∧ (n : Int) ≤ 4 := by omega
  have h16 : 2 ^ n ≤ 16 := Nat.pow_le_pow_right (i := n) (j := 4) (by omega : 0 < 2) hn1.2
  refine (dcirc_ok hx.2 hn1 (by omega)).bO fun g hg => ?_
  obtain ⟨⟨g1, g2, g3⟩, g4⟩ := hg
  have hgl : hc g.2.1 ≤ 24 := by have := hc_le g.2.1; omega
  have e1 := s_bs hN (i := 0) (Nat.two_pow_pos _)
  rw [show ((0 : Nat) : Int) = 0 from rfl] at e1
  rw [e1, bO_some, s_run hN (L := g.2.1) (by omega) (fun q hq => (g2 q hq).2) hgl 0, bO_some, g1, circ_ok hN g.2.1 (by omega) g2, bO_some]
  have fin : ∀ (b : List Int) (i h : Int) (p : Q4), CurP (b, i, h) → Ok (s_DrawIsStabilizedBy_j1 (vc (2 ^ ((n : Int)).toNat) (hc g.2.1) (gzs g.2.1 (dl 0)), true) b i h p.1 p.2.1 p.2.2.1 p.2.2.2) (fun r => r.2.2.2.2.length ≤ 16) := by
    intro b i h p hcu
    unfold s_DrawIsStabilizedBy_j1
    refine (once_ok hcu).bO fun y hy => Ok.br (fun _ => (l6b_ok hy).bO fun v hv => Ok.some hv.1) (fun _ => Ok.some ?_)
    show (vc (2 ^ ((n : Int)).toNat) (hc g.2.1) (gzs g.2.1 (dl 0))).length ≤ 16
    rw [vc_len, Int.toNat_natCast]
    exact h16
  refine (pauli_ok g4).bO fun p hp => (once_ok hp.2).bO fun y hy => Ok.br (fun _ => ?_) (fun _ => fin _ _ _ (p.1, p.2.1, p.2.2.1, p.2.2.2.1) hy)
  refine (below_ok hy).bO fun z hz => ?_
  have hz1 := hz.1.2.1 (by omega)
  have hz0 := hz.1.1
  have hl := (tB_len (runG_tB hN g.2.1 (idT n) g2 (id_ok hN).2.2.1)).2
  rw [w64 (by omega) (by omega)]
  exact (geti_ok (l := runG hN g.2.1 (idT n)) (i := (n : Int) + z.1) ⟨by omega, by omega⟩).bO fun q _ => fin _ _ _ (q.1, q.2.1, q.2.2.1, q.2.2.2) hz.2
theorem law_Projected (code : List Int) : l_FnProjected code = some true := by
  unfold l_FnProjected
  rw [big_eq, bO_some]
  by_cases hb : 1048576 < (code.length : Int)
  · simp only [hb, decide_true, br_true]
  simp only [hb, decide_false, br_false]
  obtain ⟨x2, e2, hv⟩ := dps_ok (code := code) (by omega)
  obtain ⟨n, x, z, p, v⟩ := x2
  simp only at hv
  rw [e2, bO_some]
  have hi := i_prM (n, x, z, p) v (by omega)
  have hs := s_prM (n, x, z, p) v (by omega)
  simp only at hi hs
  simp only []
  rw [hi, bO_some, hs, bO_some]
  cases hr : prM (n, x, z, p) v with
  | none =>
    simp only [resl, bne_self_eq_false, br_false, s_eqs [] [] (by simp), beq_self_eq_true, bO_some, Bool.not_true, Bool.not_false, br_true, l_FnProjected_j1, l_FnProjected_j2]
  | some w =>
    have hw : w.length ≤ 4000000 := by have := prM_len hr; omega
    simp only [resl, bne_self_eq_false, br_false, s_eqs w w hw, beq_self_eq_true, bO_some, Bool.not_true, s_herm]
    cases hh : hP (n, x, z, p) with
    | false => simp only [Bool.not_false, l_FnProjected_j1, br_true, bO_some, l_FnProjected_j2, s_eqs w w hw, beq_self_eq_true]
    | true =>
      have hi2 := i_prM (n, x, z, p) w (by have := prM_len hr; omega)
      have hst := i_stM (n, x, z, p) w (by have := prM_len hr; omega)
      simp only at hi2 hst
      rw [stM_true hh hr] at hst
      simp only [Bool.not_true, l_FnProjected_j1, br_false]
      rw [hi2, bO_some, hst, bO_some]
      cases hr2 : prM (n, x, z, p) w with
      | none => simp only [resl, br_true, Bool.not_false, bO_some, l_FnProjected_j3]
      | some y =>
        have := prM_again hh hr hr2
        subst this
        simp only [resl, br_true, Bool.not_true, br_false, bO_some, s_eqs y y hw, beq_self_eq_true, l_FnProjected_j3]
theorem law_pj (A : Option Addr) (n c : Nat) (l : List Int) (w : World) (wa : IsBytesC w A n c l) :
    Calls Tryz.prog 4 #[.slice A n c] w fun e w' => e = .returned (.bool true) ∧ Below w.heap.size w w' :=
  spec_calls (l_FnProjected_ok (law_Projected l)) rfl (args1 (.plain (pv_bytes wa)))
end Go.Proofs.YtfoiedjjhgpcpaaGreat
