/- Models of functions, and that the functions do what the models say; printed by a program. -/
import Derived.Test.YtcclapenpaediaaGn
import Derived.Test.YtcclapenpaediaaMLwo
import Derived.Test.YtcclapenpaediaaMu
import Derived.Test.YtcclapenpaediaaMc
import Derived.Test.YtcclapenpaediaaMnw
import Derived.Test.YtcclapenpaediaaMj
namespace Go.Proofs.Ytcclapenpaediaa
open Go.RowKit
set_option maxRecDepth 100000
set_option linter.unusedVariables false
set_option linter.unusedSimpArgs false
set_option linter.defProp false
/- spec.DrawCosetIndex -/
def s_DrawCosetIndex (a1 : List Int) : Option (Int × LQ) :=
  bO (s_DrawCliffordWord a1) fun x1 => some (x1.1, x1.2)
set_option maxHeartbeats 4000000 in
theorem s_DrawCosetIndex_ok {a1 : List Int} {r : Int × LQ} (h : s_DrawCosetIndex a1 = some r) :
    Spec Try.prog 33 [.sl (encL EB a1) a1.length] [] (.agg [.int .i64 r.1, .sl (encL EIIII r.2) r.2.length]) [] := by
  unfold s_DrawCosetIndex at h
  refine spec_of Try.func33 rfl (by kernel_rfl) (by simp only [Try.ntmps33, List.length_cons, List.length_nil, Nat.reduceAdd, Nat.reduceLeDiff]) ?_
  intro C hN hρ
  rw [Try.ntmps33] at hN
  unfold st0
  simp only [tmps0, Nat.zero_add, Nat.reduceAdd]
  refine AW_rs (BR := BR) FM (by rw [hN]; kernel_rfl) (by kernel_rfl) ?_
  intro K hK
  simp only [EV, seval]
  refine hK _ _ _ ?_
  clear hK K
  refine AW_rs (BR := BR) FM (by rw [hN]; kernel_rfl) (by kernel_rfl) ?_
  intro K hK
  obtain ⟨x1, h1, h⟩ := bO_inv h
  simp only [EV, seval]
  refine rC_p (s_DrawCliffordWord_ok h1) (by simp only [AL, EV, seval]) (le_d rfl) (no_j rfl) ?_
  simp only [EV, seval]
  refine hK _ _ _ ?_
  clear hK K
  injection h with h
  subst h
  refine AW_le (Le_can (lt := [(2, .ptr 32 0)]) (lr := [(32, .box 31 [.int .i64 x1.1, .sl (encL EIIII x1.2) x1.2.length])]) (b' := 64) [(32, some 64)] [] hρ (by kernel_rfl) ?_ ?_) (AW_ret (end_q [] (.inr rfl) (by kernel_rfl) (by kernel_rfl) ?_))
  · simp only [AL, EV, seval]
  · simp only [AL, EV, seval]
  · simp only [EV, Try.results33, seval]
/- laws.FnCoset -/
def l_FnCoset_j3 (v7 : Bool) : Option Bool :=
  some v7
def l_FnCoset_j2 (x3 : Int) (x8 : Int × LQ × Bool) (x9 : LQ × Bool) (v6 : LQ) : Option Bool :=
  gd (decide (v6.length + x9.1.length ≤ 16777216)) (bO (i_WordTableau (v6 ++ x9.1)) fun x12 => bO (br x8.2.2 (some x9.2) (some false)) fun x13 => bO (br x13 (some x12.2.2) (some false)) fun x14 => bO (br x14 (bO (i_CosetIndex x8.1 x8.2.1) fun x15 => some (x15 == x3)) (some false)) fun x16 => bO (br x16 (bO (i_CosetIndex x12.1 x12.2.1) fun x17 => some (x17 == 0)) (some false)) fun x18 => l_FnCoset_j3 x18)
def l_FnCoset_l1 (x3 : Int) (x7 : LQ) (x8 : Int × LQ × Bool) (x9 : LQ × Bool) : Nat → Int → (LQ) → Option Bool
  | 0, _, _ => none
  | n1 + 1, v4, v5 =>
  br (decide (0 ≤ v4)) (bO (geti x7 v4) fun q2 => bO (i_InverseGate q2.1 q2.2.1 q2.2.2.1 q2.2.2.2) fun x11 => gd (decide (v5.length + ([(x11.1, x11.2.1, x11.2.2.1, x11.2.2.2)]).length ≤ 16777216)) ((l_FnCoset_l1 x3 x7 x8 x9 n1) (IntKind.wrap .i64 (v4 - 1)) (v5 ++ ([(x11.1, x11.2.1, x11.2.2.1, x11.2.2.2)])))) (l_FnCoset_j2 x3 x8 x9 v5)
def l_FnCoset_j1 (x2 : Int × LQ) (x3 : Int) (v1 : Bool) : Option Bool :=
  br v1 (bO (s_CosetIndex x2.1 x2.2) fun x6 => some (x3 == x6)) (bO (i_CosetRepresentative x3) fun x7 => bO (i_WordTableau x7) fun x8 => bO (i_CliffordWord x2.1 x2.2) fun x9 => l_FnCoset_l1 x3 x7 x8 x9 FU (IntKind.wrap .i64 (((x7.length : Int)) - 1)) ([] : LQ))
def l_FnCoset (a1 : List Int) : Option Bool :=
  bO (l_big a1) fun x1 => br x1 (some true) (bO (s_DrawCosetIndex a1) fun x2 => bO (i_CosetIndex x2.1 x2.2) fun x3 => bO (s_CosetIndex x2.1 x2.2) fun x4 => bO (br (x3 != x4) (some true) (some (decide (x3 < 0)))) fun x5 => l_FnCoset_j1 x2 x3 x5)
set_option maxHeartbeats 4000000 in
theorem l_FnCoset_ok {a1 : List Int} {r : Bool} (h : l_FnCoset a1 = some r) :
    Spec Try.prog 6 [.sl (encL EB a1) a1.length] [] (.bool r) [] := by
  unfold l_FnCoset at h
  refine spec_of Try.func6 rfl (by kernel_rfl) (by simp only [Try.ntmps6, List.length_cons, List.length_nil, Nat.reduceAdd, Nat.reduceLeDiff]) ?_
  intro C hN hρ
  rw [Try.ntmps6] at hN
  unfold st0
  simp only [tmps0, Nat.zero_add, Nat.reduceAdd]
  refine AW_rs (BR := BR) FM (by rw [hN]; kernel_rfl) (by kernel_rfl) ?_
  intro K hK
  simp only [EV, seval]
  refine hK _ _ _ ?_
  clear hK K
  refine AW_seq ?_
  refine AW_rs (BR := BR) FM (by rw [hN]; kernel_rfl) (by kernel_rfl) ?_
  intro K hK
  obtain ⟨x1, h1, h⟩ := bO_inv h
  simp only [EV, seval]
  refine rC_p (l_big_ok h1) (by simp only [AL, EV, seval]) (le_d rfl) (no_j rfl) ?_
  simp only [EV, seval]
  refine hK _ _ _ ?_
  clear hK K
  refine AW_condK (a := .bool x1) (by simp only [EV, seval]) (brK h (fun hc1 h => ?_) (fun hc1 h => ?_))
  · refine AW_rs (BR := BR) FM (by rw [hN]; kernel_rfl) (by kernel_rfl) ?_
    intro K hK
    simp only [EV, seval]
    refine hK _ _ _ ?_
    clear hK K
    injection h with h
    subst h
    refine AW_le (Le_can (lt := [(2, .bool true)]) (lr := []) (b' := 64) [] [] hρ (by kernel_rfl) ?_ ?_) (AW_ret (end_q [] (.inr rfl) (by kernel_rfl) (by kernel_rfl) ?_))
    · simp only [AL, EV, seval]
    · simp only [AL, EV, seval]
    · simp only [EV, Try.results6, seval]
  · refine AW_skip (show AW _ _ _ _ _ from ?_)
    refine AW_rs (BR := BR) FM (by rw [hN]; kernel_rfl) (by kernel_rfl) ?_
    intro K hK
    obtain ⟨x2, h2, h⟩ := bO_inv h
    simp only [EV, seval]
    refine rC_p (s_DrawCosetIndex_ok h2) (by simp only [AL, EV, seval]) (le_d rfl) (no_j rfl) ?_
    simp only [EV, seval]
    refine hK _ _ _ ?_
    clear hK K
    refine AW_rs (BR := BR) FM (by rw [hN]; kernel_rfl) (by kernel_rfl) ?_
    intro K hK
    obtain ⟨x3, h3, h⟩ := bO_inv h
    simp only [EV, seval]
    refine rC_p (i_CosetIndex_ok h3) (by simp only [AL, EV, seval]) (le_d rfl) (no_j rfl) ?_
    simp only [EV, seval]
    refine hK _ _ _ ?_
    clear hK K
    refine AW_seq ?_
    refine AW_rsJ (BR := BR) (fun S => ∃ (v1 : Bool), S = ⟨mkT [(3, .ptr 32 0), (4, .int .i64 x3), (27, .bool v1)], mkR [(32, .box 31 [.int .i64 x2.1, .sl (encL EIIII x2.2) x2.2.length])], 64⟩ ∧ l_FnCoset_j1 x2 x3 v1 = some r) FM (by rw [hN]; kernel_rfl) (by kernel_rfl) ?_ ?_
    · intro K hK
      obtain ⟨x4, h4, h⟩ := bO_inv h
      simp only [EV, seval]
      refine rC_p (s_CosetIndex_ok h4) (by simp only [AL, EV, seval]) (le_d rfl) (no_j rfl) ?_
      obtain ⟨x5, hv1, h⟩ := bO_inv h
      rcases br_inv hv1 with ⟨hc2, hv1⟩ | ⟨hc2, hv1⟩
      · cases hv1
        simp only [EV, seval, hc2]
        refine hK _ _ _ (show cutK _ _ _ from cutL ⟨_, rfl, h⟩ (Le_can [(32, some 2144)] [] hρ (by kernel_rfl) ?_ ?_))
        · simp only [AL, EV, seval, hc2]
        · simp only [AL, EV, seval, hc2]
      · cases hv1
        simp only [EV, seval, hc2]
        refine hK _ _ _ (show cutK _ _ _ from cutL ⟨_, rfl, h⟩ (Le_can [(32, some 2144)] [] hρ (by kernel_rfl) ?_ ?_))
        · simp only [AL, EV, seval, hc2]
        · simp only [AL, EV, seval, hc2]
    · rintro S ⟨v1, rfl, h⟩
      unfold l_FnCoset_j1 at h
      refine AW_condK (a := .bool v1) (by simp only [EV, seval]) (brK h (fun hc3 h => ?_) (fun hc3 h => ?_))
      · refine AW_rs (BR := BR) FM (by rw [hN]; kernel_rfl) (by kernel_rfl) ?_
        intro K hK
        obtain ⟨x6, h5, h⟩ := bO_inv h
        simp only [EV, seval]
        refine rC_p (s_CosetIndex_ok h5) (by simp only [AL, EV, seval]) (le_d rfl) (no_j rfl) ?_
        simp only [EV, seval]
        refine hK _ _ _ ?_
        clear hK K
        injection h with h
        subst h
        refine AW_le (Le_can (lt := [(2, .bool (x3 == x6))]) (lr := []) (b' := 64) [] [] hρ (by kernel_rfl) ?_ ?_) (AW_ret (end_q [] (.inr rfl) (by kernel_rfl) (by kernel_rfl) ?_))
        · simp only [AL, EV, seval]
        · simp only [AL, EV, seval]
        · simp only [EV, Try.results6, seval]
      · refine AW_skip (show AW _ _ _ _ _ from ?_)
        refine AW_rs (BR := BR) FM (by rw [hN]; kernel_rfl) (by kernel_rfl) ?_
        intro K hK
        obtain ⟨x7, h6, h⟩ := bO_inv h
        simp only [EV, seval]
        refine rC_p (i_CosetRepresentative_ok h6) (by simp only [AL, EV, seval]) (le_d rfl) (site_1 (by simp only [EV, seval])) ?_
        simp only [EV, seval]
        refine hK _ _ _ ?_
        clear hK K
        refine AW_rs (BR := BR) FM (by rw [hN]; kernel_rfl) (by kernel_rfl) ?_
        intro K hK
        obtain ⟨x8, h7, h⟩ := bO_inv h
        simp only [EV, seval]
        refine rC_l (i_WordTableau_ok h7) (by simp only [AL, EV, seval]) (by simp only [AL, EF, and_self]) (le_d rfl) (site_1 (by simp only [EV, seval])) ?_
        simp only [EV, seval]
        refine hK _ _ _ ?_
        clear hK K
        refine AW_rs (BR := BR) FM (by rw [hN]; kernel_rfl) (by kernel_rfl) ?_
        intro K hK
        obtain ⟨x9, h8, h⟩ := bO_inv h
        simp only [EV, seval]
        refine rC_p (i_CliffordWord_ok h8) (by simp only [AL, EV, seval]) (le_d rfl) (no_j rfl) ?_
        simp only [EV, seval]
        refine hK _ _ _ ?_
        clear hK K
        refine AW_rs (BR := BR) FM (by rw [hN]; kernel_rfl) (by kernel_rfl) ?_
        intro K hK
        simp only [EV, seval]
        refine hK _ _ _ ?_
        clear hK K
        refine AW_cutK (fun S => ∃ (v6 : LQ), S = ⟨mkT [(4, .int .i64 x3), (6, .ptr 32 0), (7, .bool x8.2.2), (8, .sl (encL EIIII x9.1) x9.1.length), (9, .bool x9.2), (10, .own 33 v6.length)], mkR [(32, .box 31 [.int .i64 x8.1, .own 34 x8.2.1.length]), (33, .row 49 4 (encL EIIII v6)), (34, .row 113 4 (encL EIIII x8.2.1))], 64⟩ ∧ l_FnCoset_j2 x3 x8 x9 v6 = some r) ?_ ?_
        · refine AW_rs (BR := BR) FM (by rw [hN]; kernel_rfl) (by kernel_rfl) ?_
          intro K hK
          simp only [EV, seval]
          refine hK _ _ _ ?_
          clear hK K
          refine AW_block ?_
          refine AW_loopF (fun n S => ∃ (v4 : Int) (v5 : LQ), S = ⟨mkT [(4, .int .i64 x3), (5, .own 32 x7.length), (6, .ptr 33 0), (7, .bool x8.2.2), (8, .sl (encL EIIII x9.1) x9.1.length), (9, .bool x9.2), (10, .own 34 v5.length), (11, .int .i64 v4)], mkR [(32, .row 49 4 (encL EIIII x7)), (33, .box 31 [.int .i64 x8.1, .own 35 x8.2.1.length]), (34, .row 49 4 (encL EIIII v5)), (35, .row 113 4 (encL EIIII x8.2.1))], 64⟩ ∧ l_FnCoset_l1 x3 x7 x8 x9 n v4 v5 = some r) FU ?_ ?_ ?_
          · refine cutL ⟨_, _, rfl, h⟩ (Le_can [(32, some 80), (33, some 1168), (34, some 3136), (35, some 1104)] [] hρ (by kernel_rfl) ?_ ?_)
            · simp only [AL, EV, seval]
            · simp only [AL, EV, seval]
          · rintro S ⟨_, _, _, h⟩; rw [l_FnCoset_l1] at h; cases h
          · rintro n1 S ⟨v4, v5, rfl, h⟩
            rw [l_FnCoset_l1] at h
            refine AW_seq ?_
            refine AW_rs (BR := BR) FM (by rw [hN]; kernel_rfl) (by kernel_rfl) ?_
            intro K hK
            simp only [EV, seval]
            refine hK _ _ _ ?_
            clear hK K
            refine AW_condK (a := .bool (decide (0 ≤ v4))) (by simp only [EV, seval]) (brK h (fun hc5 h => ?_) (fun hc5 h => ?_))
            · refine AW_skip (show AW _ _ _ _ _ from ?_)
              refine AW_seq ?_
              refine AW_block ?_
              refine AW_re (BR := BR) FM (by rw [hN]; kernel_rfl) (by kernel_rfl) ?_
              intro K hK
              obtain ⟨q2, h13, h⟩ := bO_inv h
              obtain ⟨⟨h14a, h14b⟩, h14c⟩ := geti_E EIIIIl h13
              try simp only [EV, seval] at h14c
              obtain ⟨x11, h15, h⟩ := bO_inv h
              simp only [EV, seval, h14a, h14b, h14c]
              refine rC_p (i_InverseGate_ok h15) (by simp only [AL, EV, seval, h14a, h14b, h14c]) (le_d rfl) (no_j rfl) ?_
              obtain ⟨h16, h⟩ := gd_inv h
              replace h16 := of_decide_eq_true h16
              try simp only [EV, seval] at h16
              simp only [EV, seval, h14a, h14b, h14c, h16]
              refine hK _ _ _ (show AW _ _ _ _ _ from ?_)
              refine AW_re (BR := BR) FM (by rw [hN]; kernel_rfl) (by kernel_rfl) ?_
              intro K hK
              simp only [EV, seval]
              refine hK _ _ _ (show cutK _ _ _ from cutL ⟨_, _, rfl, h⟩ (Le_can [(32, some 32), (33, some 33), (34, some 1200), (35, some 35)] [] hρ (by kernel_rfl) ?_ ?_))
              · simp only [AL, EV, seval]
              · simp only [AL, EV, seval]
            · refine AW_exit (show cutK _ _ _ from cutL ⟨_, rfl, h⟩ (Le_can [(32, some 33), (33, some 34), (34, some 35)] [] hρ (by kernel_rfl) ?_ ?_))
              · simp only [AL, EV, seval]
              · simp only [AL, EV, seval]
        · rintro S ⟨v6, rfl, h⟩
          unfold l_FnCoset_j2 at h
          refine AW_rs (BR := BR) FM (by rw [hN]; kernel_rfl) (by kernel_rfl) ?_
          intro K hK
          obtain ⟨h17, h⟩ := gd_inv h
          replace h17 := of_decide_eq_true h17
          try simp only [EV, seval] at h17
          have h18 := encL_len EIIIIl x9.1
          obtain ⟨x12, h19, h⟩ := bO_inv h
          simp only [EV, seval, h17, h18]
          refine rC_l (i_WordTableau_ok h19) (by simp only [AL, EV, seval, h17, h18]) (by simp only [AL, EF, and_self]) (le_d rfl) (site_1 (by simp only [EV, seval])) ?_
          simp only [EV, seval, h17, h18]
          refine hK _ _ _ ?_
          clear hK K
          refine AW_rsJ (BR := BR) (fun S => ∃ (v7 : Bool), S = ⟨mkT [(2, .bool v7)], mkR [], 64⟩ ∧ l_FnCoset_j3 v7 = some r) FM (by rw [hN]; kernel_rfl) (by kernel_rfl) ?_ ?_
          · intro K hK
            obtain ⟨x13, hv2, h⟩ := bO_inv h
            rcases br_inv hv2 with ⟨hc6, hv2⟩ | ⟨hc6, hv2⟩
            · cases hv2
              obtain ⟨x19, hv6, h⟩ := bO_inv h
              rcases br_inv hv6 with ⟨hc10, hv6⟩ | ⟨hc10, hv6⟩
              · cases hv6
                obtain ⟨x25, hv9, h⟩ := bO_inv h
                rcases br_inv hv9 with ⟨hc13, hv9⟩ | ⟨hc13, hv9⟩
                · obtain ⟨x28, h26, hv9⟩ := bO_inv hv9
                  simp only [EV, seval, hc6, hc10, hc13]
                  refine rC_l (i_CosetIndex_ok h26) (by simp only [AL, EV, seval, hc6, hc10, hc13]) (by simp only [AL, EF, and_self]) (le_d rfl) (no_j rfl) ?_
                  cases hv9
                  obtain ⟨x30, hv11, h⟩ := bO_inv h
                  rcases br_inv hv11 with ⟨hc15, hv11⟩ | ⟨hc15, hv11⟩
                  · obtain ⟨x31, h28, hv11⟩ := bO_inv hv11
                    simp only [EV, seval, hc6, hc10, hc13, hc15]
                    refine rC_l (i_CosetIndex_ok h28) (by simp only [AL, EV, seval, hc6, hc10, hc13, hc15]) (by simp only [AL, EF, and_self]) (le_d rfl) (no_j rfl) ?_
                    cases hv11
                    simp only [EV, seval, hc6, hc10, hc13, hc15]
                    refine hK _ _ _ (show cutK _ _ _ from cutL ⟨_, rfl, h⟩ (Le_can [] [] hρ (by kernel_rfl) ?_ ?_))
                    · simp only [AL, EV, seval, hc6, hc10, hc13, hc15]
                    · simp only [AL, EV, seval, hc6, hc10, hc13, hc15]
                  · cases hv11
                    simp only [EV, seval, hc6, hc10, hc13, hc15]
                    refine hK _ _ _ (show cutK _ _ _ from cutL ⟨_, rfl, h⟩ (Le_can [] [] hρ (by kernel_rfl) ?_ ?_))
                    · simp only [AL, EV, seval, hc6, hc10, hc13, hc15]
                    · simp only [AL, EV, seval, hc6, hc10, hc13, hc15]
                · cases hv9
                  obtain ⟨x32, hv12, h⟩ := bO_inv h
                  replace hv12 := br_f hv12
                  cases hv12
                  try dsimp only at h
                  simp only [EV, seval, hc6, hc10, hc13]
                  refine hK _ _ _ (show cutK _ _ _ from cutL ⟨_, rfl, h⟩ (Le_can [] [] hρ (by kernel_rfl) ?_ ?_))
                  · simp only [AL, EV, seval, hc6, hc10, hc13]
                  · simp only [AL, EV, seval, hc6, hc10, hc13]
              · cases hv6
                obtain ⟨x33, hv13, h⟩ := bO_inv h
                replace hv13 := br_f hv13
                cases hv13
                try dsimp only at h
                obtain ⟨x34, hv14, h⟩ := bO_inv h
                replace hv14 := br_f hv14
                cases hv14
                try dsimp only at h
                simp only [EV, seval, hc6, hc10]
                refine hK _ _ _ (show cutK _ _ _ from cutL ⟨_, rfl, h⟩ (Le_can [] [] hρ (by kernel_rfl) ?_ ?_))
                · simp only [AL, EV, seval, hc6, hc10]
                · simp only [AL, EV, seval, hc6, hc10]
            · cases hv2
              obtain ⟨x35, hv15, h⟩ := bO_inv h
              replace hv15 := br_f hv15
              cases hv15
              try dsimp only at h
              obtain ⟨x36, hv16, h⟩ := bO_inv h
              replace hv16 := br_f hv16
              cases hv16
              try dsimp only at h
              obtain ⟨x37, hv17, h⟩ := bO_inv h
              replace hv17 := br_f hv17
              cases hv17
              try dsimp only at h
              simp only [EV, seval, hc6]
              refine hK _ _ _ (show cutK _ _ _ from cutL ⟨_, rfl, h⟩ (Le_can [] [] hρ (by kernel_rfl) ?_ ?_))
              · simp only [AL, EV, seval, hc6]
              · simp only [AL, EV, seval, hc6]
          · rintro S ⟨v7, rfl, h⟩
            unfold l_FnCoset_j3 at h
            injection h with h
            subst h
            refine AW_le (Le_can (lt := [(2, .bool v7)]) (lr := []) (b' := 64) [] [] hρ (by kernel_rfl) ?_ ?_) (AW_ret (end_q [] (.inr rfl) (by kernel_rfl) (by kernel_rfl) ?_))
            · simp only [AL, EV, seval, h17, h18]
            · simp only [AL, EV, seval, h17, h18]
            · simp only [EV, Try.results6, seval]
end Go.Proofs.Ytcclapenpaediaa
