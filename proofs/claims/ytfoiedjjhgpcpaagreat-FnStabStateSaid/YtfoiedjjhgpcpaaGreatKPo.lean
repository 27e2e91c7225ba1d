/- Plain laws: reduction and synthesis, for all arguments. -/
import Derived.Test.YtfoiedjjhgpcpaaGreatKPe
import Derived.Test.YtfoiedjjhgpcpaaGreatKMrs
namespace Go.Proofs.YtfoiedjjhgpcpaaGreat
open Go.RowKit
set_option maxRecDepth 100000
set_option linter.unusedVariables false
set_option linter.unusedSimpArgs false
def invG (g : Q4) : Q4 := (invK g.1, g.2.1, g.2.2.1, g.2.2.2)
theorem s_inv (k a b c : Int) : s_InverseGate k a b c = some (invK k, a, b, c) := by
  unfold s_InverseGate invK
  by_cases h5 : k = 5
  · subst h5; rfl
  by_cases h6 : k = 6
  · subst h6; rfl
  by_cases h7 : k = 7
  · subst h7; rfl
  by_cases h8 : k = 8
  · subst h8; rfl
  have e5 : (k == 5) = false := by simpa using h5
  have e6 : (k == 6) = false := by simpa using h6
  have e7 : (k == 7) = false := by simpa using h7
  have e8 : (k == 8) = false := by simpa using h8
  simp only [e5, e6, e7, e8, br_false, s_InverseGate_j1, h5, h6, h7, h8, if_false]
theorem back_gen (L : Nat → Int → List Q4 → Option (List Q4)) (g : List Q4) (hg : g.length ≤ 1048576)
    (hs : ∀ m (k : Nat) v (hk : k < g.length), v.length ≤ 1048576 → L (m + 1) (k : Int) v = L m ((k : Int) - 1) (v ++ [invG g[k]])) (he : ∀ m v, L (m + 1) (-1) v = some v) :
    ∀ (k m : Nat) (v : List Q4), k ≤ g.length → k < m → v.length + k ≤ 1048576 → L m ((k : Int) - 1) v = some (v ++ ((g.take k).map invG).reverse)
  | 0, m, v, _, hm, _ => by
    obtain ⟨m, rfl⟩ : ∃ m', m = m' + 1 := ⟨m - 1, by omega⟩
    have := he m v
    simpa using this
  | k + 1, m, v, hk, hm, hv => by
    obtain ⟨m, rfl⟩ : ∃ m', m = m' + 1 := ⟨m - 1, by omega⟩
    have e : ((k + 1 : Nat) : Int) - 1 = (k : Int) := by omega
    rw [e, hs m k v (by omega) (by omega), back_gen L g hg hs he k m _ (by omega) (by omega) (by simp; omega), List.take_succ_eq_append_getElem (by omega : k < g.length), List.map_append, List.reverse_append, List.append_assoc]
    rfl
theorem s_back (g : List Q4) (hg : g.length ≤ 1048576) : s_l11Inverse g = some ((g.map invG).reverse) := by
  unfold s_l11Inverse
  have hw : IntKind.wrap .i64 ((g.length : Int) - 1) = (g.length : Int) - 1 := w64 (by omega) (by omega)
  rw [hw]
  have := back_gen (s_l11Inverse_l1 g) g hg (fun m k v hk hv => ?_) (fun m v => ?_) g.length FU [] (by omega) (by rw [FU_eq]; omega) (by simpa using hg)
  · rw [List.take_length, List.nil_append] at this
    exact this
  · rw [s_l11Inverse_l1, geti_lt hk]
    have h0 : (0 : Int) ≤ (k : Int) := by omega
    have hg : decide (v.length + [(invK g[k].1, g[k].2.1, g[k].2.2.1, g[k].2.2.2)].length ≤ 16777216) = true := decide_eq_true (by simp; omega)
    simp only [h0, decide_true, br_true, bO_some, s_inv]
    rw [w64 (x := (k : Int) - 1) (by omega) (by omega)]
    exact congrArg (fun z => gd z _) hg
  · rw [s_l11Inverse_l1]
    have h0 : ¬ (0 : Int) ≤ -1 := by omega
    simp only [h0, decide_false, br_false, s_l11Inverse_j1]
end Go.Proofs.YtfoiedjjhgpcpaaGreat
