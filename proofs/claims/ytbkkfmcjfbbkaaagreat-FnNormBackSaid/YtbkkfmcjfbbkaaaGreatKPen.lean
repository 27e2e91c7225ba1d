/- Plain laws: equality of normal forms on both sides; ComputeNormalForm of any row; counts of T gates; drawn rows. -/
import Derived.Test.YtbkkfmcjfbbkaaaGreatK7
import Derived.Test.YtbkkfmcjfbbkaaaGreatKPnb
namespace Go.Proofs.YtbkkfmcjfbbkaaaGreat
open Go.RowKit
set_option maxRecDepth 100000
set_option linter.unusedVariables false
set_option linter.unusedSimpArgs false
theorem ints_step {a b : List Int} (h : a.length = b.length) : (List.range a.length).all (fun k => a[k]? == b[k]?) = (a == b) := by
  rw [Bool.eq_iff_iff, List.all_eq_true, beq_iff_eq]
  constructor
  · intro hh
    refine List.ext_getElem? fun k => ?_
    by_cases hk : k < a.length
    · exact eq_of_beq (hh k (List.mem_range.2 hk))
    · rw [List.getElem?_eq_none (by omega), List.getElem?_eq_none (by omega)]
  · intro hh k _; rw [hh]; exact beq_self_eq_true _
theorem ints_ne {a b : List Int} (h : ¬ a.length = b.length) : (a == b) = false := by
  rw [Bool.eq_false_iff]; intro e
  rw [beq_iff_eq] at e
  exact h (by rw [e])
theorem s_ints (a b : List Int) (hl : a.length ≤ 4000000) : s_l1Ints a b = some (a == b) := by
  unfold s_l1Ints
  by_cases h : a.length = b.length
  · have : ((a.length : Int) != (b.length : Int)) = false := by rw [h]; simp
    rw [this, br_false, ← ints_step h]
    rw [loop_all0 (fun m k => s_l1Ints_l1 a b m k) a.length (fun k => a[k]? == b[k]?) hl (fun m k hk => ?_) (some true) (fun m => ?_)]
    · cases (List.range a.length).all (fun k => a[k]? == b[k]?) <;> rfl
    · have hk' : k < b.length := by omega
      have hlt : decide ((k : Int) < (a.length : Int)) = true := decide_eq_true (by omega)
      show s_l1Ints_l1 a b (m + 1) (k : Int) = _
      rw [s_l1Ints_l1, hlt, br_true, geti_lt hk, bO_some, geti_lt hk', bO_some, w64s hk (by omega), List.getElem?_eq_getElem hk, List.getElem?_eq_getElem hk']
      have e : (a[k] != b[k]) = !(some a[k] == some b[k]) := rfl
      rw [e]
      cases (some a[k] == some b[k]) <;> rfl
    · have hlt : decide ((a.length : Int) < (a.length : Int)) = false := decide_eq_false (by omega)
      show s_l1Ints_l1 a b (m + 1) (a.length : Int) = _
      rw [s_l1Ints_l1, hlt, br_false]
      rfl
  · have : ((a.length : Int) != (b.length : Int)) = true := by simp; omega
    rw [this, br_true, ints_ne h]
theorem i_ints (a b : List Int) (hl : a.length ≤ 4000000) : i_same_int_ a b = some (a == b) := by
  unfold i_same_int_
  by_cases h : a.length = b.length
  · have : ((a.length : Int) != (b.length : Int)) = false := by rw [h]; simp
    rw [this, br_false, ← ints_step h]
    rw [loop_all0 (fun m k => i_same_int__l1 a b m (a.length : Int) k) a.length (fun k => a[k]? == b[k]?) hl (fun m k hk => ?_) (some true) (fun m => ?_)]
    · cases (List.range a.length).all (fun k => a[k]? == b[k]?) <;> rfl
    · have hk' : k < b.length := by omega
      have hlt : decide ((k : Int) < (a.length : Int)) = true := decide_eq_true (by omega)
      show i_same_int__l1 a b (m + 1) (a.length : Int) (k : Int) = _
      rw [i_same_int__l1, hlt, br_true, geti_lt hk, bO_some, geti_lt hk', bO_some, w64s hk (by omega), List.getElem?_eq_getElem hk, List.getElem?_eq_getElem hk']
      have e : (a[k] != b[k]) = !(some a[k] == some b[k]) := rfl
      rw [e]
      cases (some a[k] == some b[k]) <;> rfl
    · have hlt : decide ((a.length : Int) < (a.length : Int)) = false := decide_eq_false (by omega)
      show i_same_int__l1 a b (m + 1) (a.length : Int) (a.length : Int) = _
      rw [i_same_int__l1, hlt, br_false]
      rfl
  · have : ((a.length : Int) != (b.length : Int)) = true := by simp; omega
    rw [this, br_true, ints_ne h]
def nfE (y : List Int) (N : Int) (l : List Q4) (z : List Int) (M : Int) (r : List Q4) : Bool := (y == z) && (N == M && l == r)
theorem s_enf (y : List Int) (N : Int) (l : List Q4) (z : List Int) (M : Int) (r : List Q4) (hy : y.length ≤ 1048576) (hl : l.length ≤ 1048576) : s_EqualNormalForm y N l z M r = some (nfE y N l z M r) := by
  unfold s_EqualNormalForm nfE
  rw [s_ints y z (by omega), bO_some]
  cases (y == z)
  · rfl
  · rw [br_true, s_eqT N l M r hl]; rfl
theorem i_enf (y : List Int) (N : Int) (l : List Q4) (z : List Int) (M : Int) (r : List Q4) (hy : y.length ≤ 1048576) (hl : l.length ≤ 1048576) : i_EqualNormalForm y N l z M r = some (nfE y N l z M r) := by
  unfold i_EqualNormalForm nfE
  rw [i_ints y z (by omega), bO_some]
  cases (y == z)
  · rfl
  · rw [br_true, i_eqT N l M r hl]; rfl
theorem nfE_self (y : List Int) (N : Int) (l : List Q4) : nfE y N l y N l = true := by unfold nfE; simp
/-- A row with a gate that does not fit. -/
theorem cnf_no {g : List Q4} (hg : g.length ≤ 1048576) (hn : ¬ ∀ q ∈ g, G1 q) : s_ComputeNormalForm g = some (0, [], [], false) ∧ i_ComputeNormalForm g = some (0, [], [], false) := by
  have key : ∀ (m j : Nat) (y : List Int) (l : List Q4), j ≤ g.length → g.length - j < m → y.length ≤ j → SV y → tB 1 l = true → (∀ q ∈ g.take j, G1 q) →
      s_ComputeNormalForm_l1 g m j 1 y l = some (0, [], [], false) ∧ i_ComputeNormalForm_l1 g m (g.length : Int) j 1 y l = some (0, [], [], false) := by
    intro m
    induction m with
    | zero => intro j y l _ h; omega
    | succ m ih =>
      intro j y l hj hm hy hv ht hp
      by_cases e : j = g.length
      · rw [e, List.take_length] at hp
        exact absurd hp hn
      · have hjl : j < g.length := by omega
        have hlt : decide ((j : Int) < (g.length : Int)) = true := decide_eq_true (by omega)
        rw [s_ComputeNormalForm_l1, i_ComputeNormalForm_l1, hlt, br_true, br_true, geti_lt hjl, bO_some, bO_some]
        by_cases hq : G1 g[j]
        · obtain ⟨h1, h2, h3, h4, h5, _⟩ := na_ok (k := g[j].1) (a := g[j].2.1) (b := g[j].2.2.1) (c := g[j].2.2.2) (by omega) hv ht hq
          rw [h1, h2, bO_some, bO_some]
          simp only [Bool.not_true, br_false]
          rw [w64s (n := g.length) hjl (by omega)]
          refine ih (j + 1) _ _ (by omega) (by omega) (by omega) h3 h4 (fun x hx => ?_)
          rw [List.take_succ_eq_append_getElem hjl] at hx
          rcases List.mem_append.1 hx with hx | hx
          · exact hp x hx
          · simp only [List.mem_cons, List.not_mem_nil, or_false] at hx
            rw [hx]; exact hq
        · have hf : (NV 1 y l && ivg g[j].1 g[j].2.1 g[j].2.2.1 g[j].2.2.2 1) = false := by
            have : ivg g[j].1 g[j].2.1 g[j].2.2.1 g[j].2.2.2 1 = false := by
              cases h : ivg g[j].1 g[j].2.1 g[j].2.2.1 g[j].2.2.2 1 with
              | false => rfl
              | true => exact absurd h hq
            rw [this, Bool.and_false]
          have hl2 := (tB_inv ht).2.1
          obtain ⟨h1, h2⟩ := na_no y 1 l g[j].1 g[j].2.1 g[j].2.2.1 g[j].2.2.2 (by omega) (by omega) hf
          rw [h1, h2, bO_some, bO_some]
          exact ⟨rfl, rfl⟩
  obtain ⟨i1, i2, i3, i4⟩ := id_ok (N := 1) (by omega)
  obtain ⟨k1, k2⟩ := key FU 0 [] (idT 1) (by omega) (by rw [FU_eq]; omega) (by simp) sv_nil i3 (by simp)
  constructor
  · unfold s_ComputeNormalForm s_IdentityNormalForm
    rw [i1, bO_some, bO_some]
    exact k1
  · unfold i_ComputeNormalForm i_IdentityNormalForm
    rw [i2, bO_some, bO_some]
    exact k2
end Go.Proofs.YtbkkfmcjfbbkaaaGreat
