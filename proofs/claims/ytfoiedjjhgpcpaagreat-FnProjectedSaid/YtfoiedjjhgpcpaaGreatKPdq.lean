/- Plain laws: drawn numbers and states end, and are not long. -/
import Derived.Test.YtfoiedjjhgpcpaaGreatK6b
import Derived.Test.YtfoiedjjhgpcpaaGreatK16
import Derived.Test.YtfoiedjjhgpcpaaGreatK12
import Derived.Test.YtfoiedjjhgpcpaaGreatKMLpj
namespace Go.Proofs.YtfoiedjjhgpcpaaGreat
open Go.RowKit
set_option maxRecDepth 100000
set_option linter.unusedVariables false
set_option linter.unusedSimpArgs false
theorem l2s_ok {b : List Int} {i h : Int} (hc : CurP (b, i, h)) : Ok (s_l2Small b i h) (fun r => CurP r.2.2.2.2) := by
  unfold s_l2Small
  exact (below_ok hc).bO fun x1 h1 => (below_ok h1.2).bO fun x2 h2 => (below_ok h2.2).bO fun x3 h3 => (below_ok h3.2).bO fun x4 h4 => Ok.some h4.2
theorem new_tot (n : Z4) (k : Int) (hk : 0 ≤ k ∧ k ≤ 120) : Ok (s_NewDOmega n.1 n.2.1 n.2.2.1 n.2.2.2 k) (fun _ => True) := ⟨_, s_new n k hk, trivial⟩
theorem l3d_ok {b : List Int} {i h : Int} (hc : CurP (b, i, h)) : Ok (s_l3Dw b i h) (fun r => CurP r.2.2.2.2.2) := by
  unfold s_l3Dw
  refine (l2s_ok hc).bO fun x1 h1 => (below_ok h1).bO fun x2 h2 => ?_
  have := h2.1.2.1 (by omega)
  exact (new_tot (x1.1, x1.2.1, x1.2.2.1, x1.2.2.2.1) x2.1 ⟨h2.1.1, by omega⟩).bO fun x3 _ => Ok.some h2.2
theorem l2z_ok {b : List Int} {i h : Int} (hc : CurP (b, i, h)) : Ok (s_l2Zw b i h) (fun r => CurP r.2.2.2.2) := by
  unfold s_l2Zw
  refine (below_ok hc).bO fun x1 h1 => Ok.br (fun _ => (l2s_ok h1.2).bO fun x2 h2 => Ok.some h2) (fun _ => Ok.br (fun _ => ?_) (fun _ => ?_))
  · exact (pick_ok h1.2 (by simp)).bO fun x3 h3 => (pick_ok h3.2 (by simp)).bO fun x4 h4 => (below_ok h4.2).bO fun x5 h5 => Ok.some h5.2
  · exact (below_ok h1.2).bO fun x6 h6 => (below_ok h6.2).bO fun x7 h7 => (below_ok h7.2).bO fun x8 h8 => (below_ok h8.2).bO fun x9 h9 => Ok.some h9.2
theorem l3b_ok {b : List Int} {i h : Int} (hc : CurP (b, i, h)) : Ok (s_l3Bent b i h) (fun r => CurP r.2.2.2.2.2) := by
  unfold s_l3Bent
  refine (below_ok hc).bO fun x1 h1 => Ok.br (fun _ => ?_) (fun _ => Ok.br (fun _ => ?_) (fun _ => (l3d_ok h1.2).bO fun x7 h7 => Ok.some h7))
  · refine (l2z_ok h1.2).bO fun x2 h2 => (pick_ok h2 (by simp)).bO fun x3 h3 => ?_
    have hm := h3.1
    simp only [List.mem_cons, List.not_mem_nil, or_false] at hm
    exact (new_tot (x2.1, x2.2.1, x2.2.2.1, x2.2.2.2.1) x3.1 (by omega)).bO fun x4 _ => Ok.some h3.2
  · exact (l2z_ok h1.2).bO fun x5 h5 => (pick_ok h5 (by simp)).bO fun x6 h6 => Ok.some h6.2
theorem sh_fin : ∀ n : Fin 5, IntKind.wrap .i64 (1 * 2 ^ min (Int.toNat (IntKind.wrap .u64 (n.val : Int))) (IntKind.bits .i64)) = ((2 ^ n.val : Nat) : Int) := by decide
theorem l6v_ok {b : List Int} {i h : Int} (hc : CurP (b, i, h)) {n : Nat} (hn : 1 ≤ n ∧ n ≤ 4) : Ok (s_l6Vec b i h n) (fun r => r.1.length = 2 ^ n ∧ CurP r.2) := by
  unfold s_l6Vec
  have h16 : 2 ^ n ≤ 16 := Nat.pow_le_pow_right (i := n) (j := 4) (by omega : 0 < 2) hn.2
  have key : ∀ (m k : Nat) (b : List Int) (i h : Int) (v : List DQ), k ≤ 2 ^ n → 2 ^ n - k < m → v.length = k → CurP (b, i, h) → Ok (s_l6Vec_l1 n m b i h (k : Int) v) (fun r => r.1.length = 2 ^ n ∧ CurP r.2) := by
    intro m
    induction m with
    | zero => intro k _ _ _ _ _ h; omega
    | succ m ih =>
      intro k b i h v hk hm hv hcu
      rw [s_l6Vec_l1]
      refine Ok.gd (u64_nn _) (Ok.br (fun e => ?_) (fun e => Ok.some ⟨?_, hcu⟩))
      · have e := of_decide_eq_true e
        rw [sh_fin ⟨n, by omega⟩] at e
        simp only at e
        have go : ∀ (b : List Int) (i h : Int) (z : DQ), CurP (b, i, h) → Ok (s_l6Vec_j4 (k : Int) v (s_l6Vec_l1 n m) b i h z.1 z.2.1 z.2.2.1 z.2.2.2.1 z.2.2.2.2) (fun r => r.1.length = 2 ^ n ∧ CurP r.2) := by
          intro b i h z hcu
          unfold s_l6Vec_j4
          refine Ok.gd (decide_eq_true (by simp; omega)) ?_
          rw [w64s (n := 17) (by omega) (by omega)]
          exact ih (k + 1) _ _ _ _ (by omega) (by omega) (by simp; omega) hcu
        refine (once_ok hcu).bO fun x5 h5 => Ok.br (fun _ => (l3d_ok h5).bO fun x6 h6 => ?_) (fun _ => ?_)
        · exact go _ _ _ (x6.1, x6.2.1, x6.2.2.1, x6.2.2.2.1, x6.2.2.2.2.1) h6
        · exact go _ _ _ (0, 0, 0, 0, 0) h5
      · have e := of_decide_eq_false e
        rw [sh_fin ⟨n, by omega⟩] at e
        simp only at e
        show v.length = 2 ^ n
        omega
  exact key FU 0 _ _ _ [] (Nat.zero_le _) (by rw [FU_eq]; omega) rfl hc
theorem l6b_ok {b : List Int} {i h : Int} (hc : CurP (b, i, h)) : Ok (s_l6Bent b i h) (fun r => r.1.length ≤ 16 ∧ CurP r.2) := by
  unfold s_l6Bent
  refine (below_ok hc).bO fun x1 h1 => ?_
  have hb := h1.1.2.1 (by omega)
  obtain ⟨n, hn, hn1⟩ := nat_of (n := IntKind.wrap .i64 (1 + x1.1)) (by rw [w64 (by omega) (by omega)]; omega)
  rw [hn]
  have h16 : 2 ^ n ≤ 16 := Nat.pow_le_pow_right (i := n) (j := 4) (by omega : 0 < 2) hn1.2
  have hpos : 0 < 2 ^ n := Nat.two_pow_pos _
  refine (l6v_ok h1.2 hn1).bO fun x2 h2 => (below_ok h2.2).bO fun x3 h3 => Ok.br (fun _ => ?_) (fun _ => Ok.br (fun _ => ?_) (fun _ => Ok.some ⟨by show x2.1.length ≤ 16; omega, h3.2⟩))
  · refine (below_ok h3.2).bO fun x4 h4 => (l3b_ok h4.2).bO fun x5 h5 => ?_
    have := h4.1.2.1 (by omega)
    exact (geti_ok ⟨h4.1.1, this⟩).bO fun q _ => Ok.some ⟨by show (x2.1.set _ _).length ≤ 16; rw [List.length_set]; omega, h5⟩
  · refine (below_ok h3.2).bO fun x6 h6 => ?_
    have := h6.1.2.1 (by omega)
    obtain ⟨k, hk⟩ : ∃ k : Nat, x6.1 = (k : Int) := ⟨x6.1.toNat, by have := h6.1.1; omega⟩
    rw [hk, slc_pre (by omega), bO_some]
    exact Ok.some ⟨by show (x2.1.take k).length ≤ 16; rw [List.length_take]; omega, h6.2⟩
end Go.Proofs.YtfoiedjjhgpcpaaGreat
