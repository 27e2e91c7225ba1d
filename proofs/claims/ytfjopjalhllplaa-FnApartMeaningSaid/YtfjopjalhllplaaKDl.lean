/- The walk of FnApartMeaning, for each of the lists that its draw may give. -/
import Derived.Test.YtfjopjalhllplaaKDc
import Derived.Test.YtfjopjalhllplaaKMu
import Derived.Test.YtfjopjalhllplaaKMbk
import Derived.Test.YtfjopjalhllplaaKMbu
import Derived.Test.YtfjopjalhllplaaKMsi
import Derived.Test.YtfjopjalhllplaaK1
namespace Go.Proofs.Ytfjopjalhllplaa
open Go.RowKit
set_option maxRecDepth 100000
set_option linter.unusedVariables false
set_option linter.unusedSimpArgs false
set_option linter.defProp false
set_option maxHeartbeats 4000000
def amJ (x2 : LB × LB) (x3 : List Int × Bool) (v1 : Bool) : Option Bool :=
  br v1 (some false) (bO (i_EqualUpToPhases x2.2 x2.1) fun x14 => bO (br (x14 == x3.2) (bO (i_EqualUpToPhases x2.1 x2.1) fun x15 => some x15) (some false)) fun x16 => some x16)
/-- What the statement says of the drawn lists. -/
def amB (x2 : LB × LB) : Option Bool :=
  bO (i_BranchPhases x2.1 x2.2) fun x3 => bO (s_BranchPhases x2.1 x2.2) fun x4 => bO (br (x3.2 != x4.2) (some true) (bO (l_sameInts x3.1 x4.1) fun x5 => some (!x5))) fun x6 => bO (br x6 (some true) (bO (i_EqualUpToPhases x2.1 x2.2) fun x7 => some (x7 != x4.2))) fun x8 => amJ x2 x3 x8
theorem am_ok {a1 : List Int} (hE : a1.length ≤ 1048576 → SpecE Try.prog 5 [.sl (encL EB a1) a1.length] (fun rets => ∃ a b, (GL a ∧ GL b) ∧ rets = [.sl (encL EILLIIIIIEE a) a.length, .sl (encL EILLIIIIIEE b) b.length]))
    (hB : ∀ a b, GL a → GL b → amB (a, b) = some true) : Spec Try.prog 3 [.sl (encL EB a1) a1.length] [] (.bool true) [] := by
  refine SO Try.func3 rfl Try.ntmps3 fun C hN hρ => ?_
  simp only [st0, tmps0, Nat.zero_add, Nat.reduceAdd]
  refine AN hN ?_
  refine AW_seq ?_
  have h1 : l_big a1 = some (decide (1048576 < (a1.length : Int))) := rfl
  refine AP hN (l_big_ok h1) ?_
  refine AW_cond (b := decide (1048576 < (a1.length : Int))) (by simp only [EV, seval]) (fun hc1 => ?_) (fun hc1 => ?_)
  · refine AN hN ?_
    exact AX (b' := 64) [(2, .bool true)] [] [] [] hρ (EQ [] (by simp only [EV, Try.results3, seval]))
  · have hl : a1.length ≤ 1048576 := by have := of_decide_eq_false hc1; omega
    have hE := hE hl
    refine AW_skip (AK ?_)
    refine AW_le (S := ⟨mkT [(0, .sl (encL EB a1) a1.length)], mkR [], 64⟩) (Le_can [] [] hρ (by kernel_rfl) (by simp only [AL, EV, seval]) (by simp only [AL, EV, seval])) ?_
    refine AW_seq ?_
    refine AW_mid (BR := BR) [_] _ [_, _, _, _, _] 2 rfl rfl rfl (by rw [hN]; kernel_rfl)
      (fun st => st.tmps 12 = .sl (encL EB a1) a1.length ∧ st.rows = mkR [])
      (fun st => ∃ a b : LB, (GL a ∧ GL b) ∧ st.tmps 13 = .tup [.sl (encL EILLIIIIIEE a) a.length, .sl (encL EILLIIIIIEE b) b.length] ∧ st.rows = mkR []) ?_ ?_ ?_
    · simp only [EV, seval]
    · intro M ρ st act w hz hR next Q hK
      obtain ⟨e12, er⟩ := hz
      refine callE_ok (args := [.sl (encL EB a1) a1.length]) rfl rfl (by show [st.tmps 12] = _; rw [e12]) (fun c hc => by simp only [List.mem_cons, List.not_mem_nil, or_false] at hc; subst hc; rfl) hR hE (fun k hk => ?_) (fun rets M' a' w' hr hRel => ?_)
      · injection hk with hk; subst hk; rw [hN]; decide
      · obtain ⟨a, b, hab, rfl⟩ := hr
        exact hK (st.put (some 13) _) M' ρ _ w' ⟨a, b, hab, rfl, er⟩ hRel
    · rintro ⟨T1, R1, b1⟩ ⟨a, b, hab, e13, er⟩
      simp only at e13 er
      subst er
      simp only [EV, seval, e13]
      have h := hB a b hab.1 hab.2
      generalize hx : ((a, b) : LB × LB) = x2 at h
      obtain rfl : a = x2.1 := by rw [← hx]
      obtain rfl : b = x2.2 := by rw [← hx]
      clear hx hab e13 hB
      show AW _ _ _ _ _
      refine AW_le (S := ⟨mkT [(3, .sl (encL EILLIIIIIEE x2.1) x2.1.length), (4, .sl (encL EILLIIIIIEE x2.2) x2.2.length)], mkR [], 64⟩) (Le_can [] [] hρ (by kernel_rfl) (by simp only [AL, EV, seval]) (by simp only [AL, EV, seval])) ?_
      unfold amB at h
      refine AR hN fun K hK => ?_; obtain ⟨x3, h3, h⟩ := bO_inv h; simp only [EV, seval]; refine rC_p (i_BranchPhases_ok h3) (by simp only [AL, EV, seval]) (le_d rfl) (site_1 (by simp only [EV, seval])) ?_; simp only [EV, seval]; refine hK _ _ _ ?_; clear hK K
      refine AR hN fun K hK => ?_; obtain ⟨x4, h4, h⟩ := bO_inv h; simp only [EV, seval]; refine rC_p (s_BranchPhases_ok h4) (by simp only [AL, EV, seval]) (le_d rfl) (site_1 (by simp only [EV, seval])) ?_; simp only [EV, seval]; refine hK _ _ _ ?_; clear hK K
      refine AW_seq ?_
      refine AJ (fun S => ∃ (v1 : Bool), S = ⟨mkT [(3, .sl (encL EILLIIIIIEE x2.1) x2.1.length), (4, .sl (encL EILLIIIIIEE x2.2) x2.2.length), (6, .bool x3.2), (43, .bool v1)], mkR [], 64⟩ ∧ amJ x2 x3 v1 = some true) hN ?_ ?_
      · intro K hK; obtain ⟨x6, hv1, h⟩ := bO_inv h; rcases br_inv hv1 with ⟨hc2, hv1⟩ | ⟨hc2, hv1⟩
        · cases hv1; obtain ⟨x9, hv3, h⟩ := bO_inv h; replace hv3 := br_t hv3; cases hv3; (try dsimp only at h); simp only [EV, seval, hc2]; refine hK _ _ _ (show cutK _ _ _ from cutL ⟨_, rfl, h⟩ (Le_can [] [] hρ (by kernel_rfl) ?_ ?_))
          · simp only [AL, EV, seval, hc2]
          · simp only [AL, EV, seval, hc2]
        · obtain ⟨x10, h7, hv1⟩ := bO_inv hv1; simp only [EV, seval, hc2]; refine rC_l (l_sameInts_ok h7) (by simp only [AL, EV, seval, hc2]) (by simp only [AL, EF, and_self]) (le_d rfl) (no_j rfl) ?_; cases hv1; obtain ⟨x12, hv4, h⟩ := bO_inv h; rcases br_inv hv4 with ⟨hc4, hv4⟩ | ⟨hc4, hv4⟩
          · cases hv4; simp only [EV, seval, hc2, hc4]; refine hK _ _ _ (show cutK _ _ _ from cutL ⟨_, rfl, h⟩ (Le_can [] [] hρ (by kernel_rfl) ?_ ?_))
            · simp only [AL, EV, seval, hc2, hc4]
            · simp only [AL, EV, seval, hc2, hc4]
          · obtain ⟨x13, h9, hv4⟩ := bO_inv hv4; simp only [EV, seval, hc2, hc4]; refine rC_p (i_EqualUpToPhases_ok h9) (by simp only [AL, EV, seval, hc2, hc4]) (le_d rfl) (no_j rfl) ?_; cases hv4; simp only [EV, seval, hc2, hc4]; refine hK _ _ _ (show cutK _ _ _ from cutL ⟨_, rfl, h⟩ (Le_can [] [] hρ (by kernel_rfl) ?_ ?_))
            · simp only [AL, EV, seval, hc2, hc4]
            · simp only [AL, EV, seval, hc2, hc4]
      · rintro S ⟨v1, rfl, h⟩; unfold amJ at h; refine AB h (fun hc5 h => ?_) fun hc5 h => ?_
        · cases h
        · refine AW_skip (AK ?_); refine AJ (fun S => S = ⟨mkT [(2, .bool true)], mkR [], 64⟩) hN ?_ ?_
          · intro K hK; obtain ⟨x14, h10, h⟩ := bO_inv h; simp only [EV, seval]; refine rC_p (i_EqualUpToPhases_ok h10) (by simp only [AL, EV, seval]) (le_d rfl) (no_j rfl) ?_; obtain ⟨x16, hv5, h⟩ := bO_inv h; injection h with h; subst h; rcases br_inv hv5 with ⟨hc6, hv5⟩ | ⟨hc6, hv5⟩
            · obtain ⟨x17, h12, hv5⟩ := bO_inv hv5; simp only [EV, seval, hc6]; refine rC_p (i_EqualUpToPhases_ok h12) (by simp only [AL, EV, seval, hc6]) (le_d rfl) (no_j rfl) ?_; cases hv5; simp only [EV, seval, hc6]; refine hK _ _ _ (show cutK _ _ _ from cutL rfl (Le_can [] [] hρ (by kernel_rfl) ?_ ?_))
              · simp only [AL, EV, seval, hc6]
              · simp only [AL, EV, seval, hc6]
            · cases hv5
          · rintro S rfl; exact AX (b' := 64) [(2, .bool true)] [] [] [] hρ (EQ [] (by simp only [EV, Try.results3, seval]))
end Go.Proofs.Ytfjopjalhllplaa
