/- Models of functions, and that the functions do what the models say; printed by a program. -/
import Derived.Test.YtcclapenpaediaaGn
import Derived.Test.YtcclapenpaediaaMi
import Derived.Test.YtcclapenpaediaaMu
import Derived.Test.YtcclapenpaediaaMh
namespace Go.Proofs.Ytcclapenpaediaa
open Go.RowKit
set_option maxRecDepth 100000
set_option linter.unusedVariables false
set_option linter.unusedSimpArgs false
set_option linter.defProp false
/- impl.copyGates -/
def i_copyGates (a1 : LQ) : Option (LQ) :=
  gd (decide (([] : LQ).length + a1.length ≤ 16777216)) (some a1)
set_option maxHeartbeats 4000000 in
theorem i_copyGates_ok {a1 : LQ} {r : LQ} (h : i_copyGates a1 = some r) :
    Spec Try.prog 91 [.sl (encL EIIII a1) a1.length] [] (.own 0 r.length) [.row 49 4 (encL EIIII r)] := by
  unfold i_copyGates at h
  refine spec_of Try.func91 rfl (by kernel_rfl) (by simp only [Try.ntmps91, List.length_cons, List.length_nil, Nat.reduceAdd, Nat.reduceLeDiff]) ?_
  intro C hN hρ
  rw [Try.ntmps91] at hN
  unfold st0
  simp only [tmps0, Nat.zero_add, Nat.reduceAdd]
  refine AW_rs (BR := BR) FM (by rw [hN]; kernel_rfl) (by kernel_rfl) ?_
  intro K hK
  simp only [EV, seval]
  refine hK _ _ _ ?_
  clear hK K
  refine AW_rs (BR := BR) FM (by rw [hN]; kernel_rfl) (by kernel_rfl) ?_
  intro K hK
  obtain ⟨h1, h⟩ := gd_inv h
  replace h1 := of_decide_eq_true h1
  try simp only [EV, seval] at h1
  have h2 := encL_len EIIIIl a1
  simp only [EV, seval, h1, h2]
  refine hK _ _ _ ?_
  clear hK K
  injection h with h
  subst h
  refine AW_le (Le_can (lt := [(2, .own 32 a1.length)]) (lr := [(32, .row 49 4 (encL EIIII a1))]) (b' := 64) [(32, some 1120)] [] hρ (by kernel_rfl) ?_ ?_) (AW_ret (end_q [32] (.inr rfl) (by kernel_rfl) (by kernel_rfl) ?_))
  · simp only [AL, EV, seval, h1, h2]
  · simp only [AL, EV, seval, h1, h2]
  · simp only [EV, Try.results91, seval]
/- impl.AllCliffordWords -/
def i_AllCliffordWords_j21 (v108 : Int) (kl12 : Int → (List (LQ)) → (List (Int × LQ)) → Option (List (LQ))) (v119 : List (LQ)) (v120 : List (Int × LQ)) : Option (List (LQ)) :=
  kl12 (IntKind.wrap .i64 (v108 + 1)) v119 v120
def i_AllCliffordWords_j22 (v82 : Int) (v108 : Int) (v109 : List (LQ)) (v110 : List (Int × LQ)) (kl12 : Int → (List (LQ)) → (List (Int × LQ)) → Option (List (LQ))) (x75 : Int × LQ × Bool) (v118 : Bool) : Option (List (LQ)) :=
  br (!v118) (bO (geti v109 v82) fun q42 => bO (i_copyGates q42) fun x82 => bO (i_one v108 0) fun x83 => gd (decide (x82.length + ([(x83.1, x83.2.1, x83.2.2.1, x83.2.2.2)]).length ≤ 16777216)) (gd (decide (v109.length + ([x82 ++ ([(x83.1, x83.2.1, x83.2.2.1, x83.2.2.2)])]).length ≤ 16777216)) (gd (decide (v110.length + ([(x75.1, x75.2.1)]).length ≤ 16777216)) (i_AllCliffordWords_j21 v108 kl12 (v109 ++ ([x82 ++ ([(x83.1, x83.2.1, x83.2.2.1, x83.2.2.2)])])) (v110 ++ ([(x75.1, x75.2.1)])))))) (i_AllCliffordWords_j21 v108 kl12 v109 v110)
def i_AllCliffordWords_l13 (v82 : Int) (v108 : Int) (v109 : List (LQ)) (v110 : List (Int × LQ)) (kl12 : Int → (List (LQ)) → (List (Int × LQ)) → Option (List (LQ))) (x75 : Int × LQ × Bool) : Nat → Bool → Int → Int → Option (List (LQ))
  | 0, _, _, _ => none
  | n13 + 1, v115, v116, v117 =>
  br (decide (v117 < v116)) (bO (geti v110 v117) fun q41 => bO (br v115 (some true) (bO (i_EqualTableau q41.1 q41.2 x75.1 x75.2.1) fun x79 => some x79)) fun x80 => (i_AllCliffordWords_l13 v82 v108 v109 v110 kl12 x75 n13) x80 v116 (IntKind.wrap .i64 (v117 + 1))) (i_AllCliffordWords_j22 v82 v108 v109 v110 kl12 x75 v115)
def i_AllCliffordWords_j16 (v82 : Int) (kl9 : Int → (List (LQ)) → (List (Int × LQ)) → Option (List (LQ))) (v121 : List (LQ)) (v122 : List (Int × LQ)) : Option (List (LQ)) :=
  kl9 (IntKind.wrap .i64 (v82 + 1)) v121 v122
def i_AllCliffordWords_l10 (v82 : Int) (kl9 : Int → (List (LQ)) → (List (Int × LQ)) → Option (List (LQ))) : Nat → Int → (List (LQ)) → (List (Int × LQ)) → Option (List (LQ))
  | 0, _, _, _ => none
  | n12 + 1, v108, v109, v110 =>
  br (decide (v108 ≤ 6)) (bO (geti v110 v82) fun q38 => bO (i_one v108 0) fun x74 => bO (i_TableauApplyGate q38.1 q38.2 x74.1 x74.2.1 x74.2.2.1 x74.2.2.2) fun x75 => i_AllCliffordWords_l13 v82 v108 v109 v110 (i_AllCliffordWords_l10 v82 kl9 n12) x75 FU false ((v110.length : Int)) 0) (i_AllCliffordWords_j16 v82 kl9 v109 v110)
def i_AllCliffordWords_j1 (v123 : List (LQ)) : Option (List (LQ)) :=
  some v123
def i_AllCliffordWords_l1 : Nat → Int → (List (LQ)) → (List (Int × LQ)) → Option (List (LQ))
  | 0, _, _, _ => none
  | n9 + 1, v82, v83, v84 =>
  br (decide (v82 < ((v83.length : Int)))) (i_AllCliffordWords_l10 v82 (i_AllCliffordWords_l1 n9) FU 1 v83 v84) (i_AllCliffordWords_j1 v83)
def i_AllCliffordWords : Option (List (LQ)) :=
  bO (i_IdentityTableau 1) fun x1 => i_AllCliffordWords_l1 FU 0 ([[]]) ([(x1.1, x1.2)])
set_option maxHeartbeats 4000000 in
theorem i_AllCliffordWords_ok {r : List (LQ)} (h : i_AllCliffordWords = some r) :
    Spec Try.prog 32 [] [] (.own 0 r.length) [.row 26 1 (encL ELIIIIE r)] := by
  unfold i_AllCliffordWords at h
  refine spec_of Try.func32 rfl (by kernel_rfl) (by simp only [Try.ntmps32, List.length_cons, List.length_nil, Nat.reduceAdd, Nat.reduceLeDiff]) ?_
  intro C hN hρ
  rw [Try.ntmps32] at hN
  unfold st0
  simp only [tmps0, Nat.zero_add, Nat.reduceAdd]
  refine AW_rs (BR := BR) FM (by rw [hN]; kernel_rfl) (by kernel_rfl) ?_
  intro K hK
  simp only [EV, seval]
  refine hK _ _ _ ?_
  clear hK K
  refine AW_rs (BR := (BRx BR [1001088])) FM (by rw [hN]; kernel_rfl) (by kernel_rfl) ?_
  intro K hK
  simp only [EV, seval]
  refine hK _ _ _ ?_
  clear hK K
  refine AW_rs (BR := BR) FM (by rw [hN]; kernel_rfl) (by kernel_rfl) ?_
  intro K hK
  obtain ⟨x1, h1, h⟩ := bO_inv h
  simp only [EV, seval]
  refine rC_p (Spec.can (ret2 := .agg [.int .i64 x1.1, .sl (encL EIIII x1.2) x1.2.length]) (mem2 := []) (i_IdentityTableau_ok h1) [] [0] (by kernel_rfl) (by simp only [AL, EV, seval]) (by simp only [AL, EV, seval])) (by simp only [AL, EV, seval]) (le_d rfl) (no_j rfl) ?_
  simp only [EV, seval]
  refine hK _ _ _ ?_
  clear hK K
  refine AW_cutK (fun S => ∃ (v123 : List (LQ)), S = ⟨mkT [(1, .own 32 v123.length)], mkR [(32, .row 26 1 (encL ELIIIIE v123))], 64⟩ ∧ i_AllCliffordWords_j1 v123 = some r) ?_ ?_
  · refine AW_rs (BR := BR) FM (by rw [hN]; kernel_rfl) (by kernel_rfl) ?_
    intro K hK
    simp only [EV, seval]
    refine hK _ _ _ ?_
    clear hK K
    refine AW_block ?_
    refine AW_loopF (fun n S => ∃ (v82 : Int) (v83 : List (LQ)) (v84 : List (Int × LQ)), S = ⟨mkT [(1, .own 32 v83.length), (2, .own 33 v84.length), (3, .int .i64 v82)], mkR [(32, .row 26 1 (encL ELIIIIE v83)), (33, .row 31 2 (encL EILIIIIE v84))], 64⟩ ∧ i_AllCliffordWords_l1 n v82 v83 v84 = some r) FU ?_ ?_ ?_
    · refine cutL ⟨_, _, _, rfl, h⟩ (Le_can [(32, some 1104), (33, some 2128)] [] hρ (by kernel_rfl) ?_ ?_)
      · simp only [AL, EV, seval]
      · simp only [AL, EV, seval]
    · rintro S ⟨_, _, _, _, h⟩; rw [i_AllCliffordWords_l1] at h; cases h
    · rintro n9 S ⟨v82, v83, v84, rfl, h⟩
      rw [i_AllCliffordWords_l1] at h
      refine AW_seq ?_
      refine AW_rs (BR := BR) FM (by rw [hN]; kernel_rfl) (by kernel_rfl) ?_
      intro K hK
      simp only [EV, seval]
      refine hK _ _ _ ?_
      clear hK K
      refine AW_condK (a := .bool (decide (v82 < ((v83.length : Int))))) (by simp only [EV, seval]) (brK h (fun hc45 h => ?_) (fun hc45 h => ?_))
      · refine AW_skip (show AW _ _ _ _ _ from ?_)
        refine AW_cutK (fun S => ∃ (v121 : List (LQ)) (v122 : List (Int × LQ)), S = ⟨mkT [(1, .own 32 v121.length), (2, .own 33 v122.length), (3, .int .i64 v82)], mkR [(32, .row 26 1 (encL ELIIIIE v121)), (33, .row 31 2 (encL EILIIIIE v122))], 64⟩ ∧ i_AllCliffordWords_j16 v82 (i_AllCliffordWords_l1 n9) v121 v122 = some r) ?_ ?_
        · refine AW_block ?_
          refine AW_rs (BR := BR) FM (by rw [hN]; kernel_rfl) (by kernel_rfl) ?_
          intro K hK
          simp only [EV, seval]
          refine hK _ _ _ ?_
          clear hK K
          refine AW_block ?_
          refine AW_loopF (fun n S => ∃ (v108 : Int) (v109 : List (LQ)) (v110 : List (Int × LQ)), S = ⟨mkT [(1, .own 32 v109.length), (2, .own 33 v110.length), (3, .int .i64 v82), (4, .int .i64 v108)], mkR [(32, .row 26 1 (encL ELIIIIE v109)), (33, .row 31 2 (encL EILIIIIE v110))], 64⟩ ∧ i_AllCliffordWords_l10 v82 (i_AllCliffordWords_l1 n9) n v108 v109 v110 = some r) FU ?_ ?_ ?_
          · refine cutL ⟨_, _, _, rfl, h⟩ (Le_can [(32, some 32), (33, some 33)] [] hρ (by kernel_rfl) ?_ ?_)
            · simp only [AL, EV, seval]
            · simp only [AL, EV, seval]
          · rintro S ⟨_, _, _, _, h⟩; rw [i_AllCliffordWords_l10] at h; cases h
          · rintro n12 S ⟨v108, v109, v110, rfl, h⟩
            rw [i_AllCliffordWords_l10] at h
            refine AW_seq ?_
            refine AW_rs (BR := BR) FM (by rw [hN]; kernel_rfl) (by kernel_rfl) ?_
            intro K hK
            simp only [EV, seval]
            refine hK _ _ _ ?_
            clear hK K
            refine AW_condK (a := .bool (decide (v108 ≤ 6))) (by simp only [EV, seval]) (brK h (fun hc60 h => ?_) (fun hc60 h => ?_))
            · refine AW_skip (show AW _ _ _ _ _ from ?_)
              refine AW_cutK (fun S => ∃ (v119 : List (LQ)) (v120 : List (Int × LQ)), S = ⟨mkT [(1, .own 32 v119.length), (2, .own 33 v120.length), (3, .int .i64 v82), (4, .int .i64 v108)], mkR [(32, .row 26 1 (encL ELIIIIE v119)), (33, .row 31 2 (encL EILIIIIE v120))], 64⟩ ∧ i_AllCliffordWords_j21 v108 (i_AllCliffordWords_l10 v82 (i_AllCliffordWords_l1 n9) n12) v119 v120 = some r) ?_ ?_
              · refine AW_block ?_
                refine AW_rs (BR := BR) FM (by rw [hN]; kernel_rfl) (by kernel_rfl) ?_
                intro K hK
                obtain ⟨q38, h156, h⟩ := bO_inv h
                obtain ⟨⟨h157a, h157b⟩, h157c⟩ := geti_E EILIIIIEl h156
                try simp only [EV, seval] at h157c
                obtain ⟨x74, h158, h⟩ := bO_inv h
                simp only [EV, seval, h157a, h157b, h157c]
                refine rC_p (i_one_ok h158) (by simp only [AL, EV, seval, h157a, h157b, h157c]) (le_d rfl) (no_j rfl) ?_
                obtain ⟨x75, h159, h⟩ := bO_inv h
                simp only [EV, seval, h157a, h157b, h157c]
                refine rC_p (i_TableauApplyGate_ok h159) (by simp only [AL, EV, seval, h157a, h157b, h157c]) (le_d rfl) (site_1 (by simp only [EV, seval])) ?_
                simp only [EV, seval, h157a, h157b, h157c]
                refine hK _ _ _ ?_
                clear hK K
                refine AW_rs (BR := BR) FM (by rw [hN]; kernel_rfl) (by kernel_rfl) ?_
                intro K hK
                simp only [EV, seval]
                refine hK _ _ _ ?_
                clear hK K
                refine AW_cutK (fun S => ∃ (v118 : Bool), S = ⟨mkT [(1, .own 32 v109.length), (2, .own 33 v110.length), (3, .int .i64 v82), (4, .int .i64 v108), (5, .ptr 34 0), (7, .bool v118)], mkR [(32, .row 26 1 (encL ELIIIIE v109)), (33, .row 31 2 (encL EILIIIIE v110)), (34, .box 31 [.int .i64 x75.1, .own 35 x75.2.1.length]), (35, .row 113 4 (encL EIIII x75.2.1))], 64⟩ ∧ i_AllCliffordWords_j22 v82 v108 v109 v110 (i_AllCliffordWords_l10 v82 (i_AllCliffordWords_l1 n9) n12) x75 v118 = some r) ?_ ?_
                · refine AW_rs (BR := BR) FM (by rw [hN]; kernel_rfl) (by kernel_rfl) ?_
                  intro K hK
                  simp only [EV, seval]
                  refine hK _ _ _ ?_
                  clear hK K
                  refine AW_block ?_
                  refine AW_loopF (fun n S => ∃ (v115 : Bool) (v116 : Int) (v117 : Int), S = ⟨mkT [(1, .own 32 v109.length), (2, .own 33 v110.length), (3, .int .i64 v82), (4, .int .i64 v108), (5, .ptr 34 0), (7, .bool v115), (34, .own 33 v110.length), (35, .int .i64 v116), (36, .int .i64 v117)], mkR [(32, .row 26 1 (encL ELIIIIE v109)), (33, .row 31 2 (encL EILIIIIE v110)), (34, .box 31 [.int .i64 x75.1, .own 35 x75.2.1.length]), (35, .row 113 4 (encL EIIII x75.2.1))], 64⟩ ∧ i_AllCliffordWords_l13 v82 v108 v109 v110 (i_AllCliffordWords_l10 v82 (i_AllCliffordWords_l1 n9) n12) x75 n v115 v116 v117 = some r) FU ?_ ?_ ?_
                  · refine cutL ⟨_, _, _, rfl, h⟩ (Le_can [(32, some 32), (33, some 33), (34, some 1248), (35, some 1184)] [] hρ (by kernel_rfl) ?_ ?_)
                    · simp only [AL, EV, seval]
                    · simp only [AL, EV, seval]
                  · rintro S ⟨_, _, _, _, h⟩; rw [i_AllCliffordWords_l13] at h; cases h
                  · rintro n13 S ⟨v115, v116, v117, rfl, h⟩
                    rw [i_AllCliffordWords_l13] at h
                    refine AW_rs (BR := BR) FM (by rw [hN]; kernel_rfl) (by kernel_rfl) ?_
                    intro K hK
                    simp only [EV, seval]
                    refine hK _ _ _ ?_
                    clear hK K
                    refine AW_seq ?_
                    refine AW_condK (a := .bool (decide (v117 < v116))) (by simp only [EV, seval]) (brK h (fun hc64 h => ?_) (fun hc64 h => ?_))
                    · refine AW_skip (show AW _ _ _ _ _ from ?_)
                      refine AW_seq ?_
                      refine AW_block ?_
                      refine AW_rs (BR := BR) FM (by rw [hN]; kernel_rfl) (by kernel_rfl) ?_
                      intro K hK
                      obtain ⟨q41, h166, h⟩ := bO_inv h
                      obtain ⟨⟨h167a, h167b⟩, h167c⟩ := geti_E EILIIIIEl h166
                      try simp only [EV, seval] at h167c
                      simp only [EV, seval, h167a, h167b, h167c]
                      refine hK _ _ _ ?_
                      clear hK K
                      refine AW_re (BR := BR) FM (by rw [hN]; kernel_rfl) (by kernel_rfl) ?_
                      intro K hK
                      obtain ⟨x80, hv18, h⟩ := bO_inv h
                      rcases br_inv hv18 with ⟨hc65, hv18⟩ | ⟨hc65, hv18⟩
                      · cases hv18
                        simp only [EV, seval, hc65]
                        refine hK _ _ _ (show AW _ _ _ _ _ from ?_)
                        refine AW_re (BR := BR) FM (by rw [hN]; kernel_rfl) (by kernel_rfl) ?_
                        intro K hK
                        simp only [EV, seval]
                        refine hK _ _ _ (show cutK _ _ _ from cutL ⟨_, _, _, rfl, h⟩ (Le_can [(32, some 32), (33, some 33), (34, some 34), (35, some 35)] [] hρ (by kernel_rfl) ?_ ?_))
                        · simp only [AL, EV, seval]
                        · simp only [AL, EV, seval]
                      · obtain ⟨x81, h169, hv18⟩ := bO_inv hv18
                        simp only [EV, seval, hc65]
                        refine rC_l (i_EqualTableau_ok h169) (by simp only [AL, EV, seval, hc65]) (by simp only [AL, EF, and_self]) (le_d rfl) (no_j rfl) ?_
                        cases hv18
                        simp only [EV, seval, hc65]
                        refine hK _ _ _ (show AW _ _ _ _ _ from ?_)
                        refine AW_re (BR := BR) FM (by rw [hN]; kernel_rfl) (by kernel_rfl) ?_
                        intro K hK
                        simp only [EV, seval]
                        refine hK _ _ _ (show cutK _ _ _ from cutL ⟨_, _, _, rfl, h⟩ (Le_can [(32, some 32), (33, some 33), (34, some 34), (35, some 35)] [] hρ (by kernel_rfl) ?_ ?_))
                        · simp only [AL, EV, seval]
                        · simp only [AL, EV, seval]
                    · refine AW_exit (show cutK _ _ _ from cutL ⟨_, rfl, h⟩ (Le_can [(32, some 32), (33, some 33), (34, some 34), (35, some 35)] [] hρ (by kernel_rfl) ?_ ?_))
                      · simp only [AL, EV, seval]
                      · simp only [AL, EV, seval]
                · rintro S ⟨v118, rfl, h⟩
                  unfold i_AllCliffordWords_j22 at h
                  refine AW_rs (BR := BR) FM (by rw [hN]; kernel_rfl) (by kernel_rfl) ?_
                  intro K hK
                  simp only [EV, seval]
                  refine hK _ _ _ ?_
                  clear hK K
                  refine AW_condK (a := .bool (!v118)) (by simp only [EV, seval]) (brK h (fun hc66 h => ?_) (fun hc66 h => ?_))
                  · refine AW_rs (BR := (BRx BR [1001232])) FM (by rw [hN]; kernel_rfl) (by kernel_rfl) ?_
                    intro K hK
                    obtain ⟨q42, h170, h⟩ := bO_inv h
                    obtain ⟨⟨h171a, h171b⟩, h171c⟩ := geti_E ELIIIIEl h170
                    try simp only [EV, seval] at h171c
                    obtain ⟨x82, h172, h⟩ := bO_inv h
                    simp only [EV, seval, h171a, h171b, h171c]
                    refine rC_p (i_copyGates_ok h172) (by simp only [AL, EV, seval, h171a, h171b, h171c]) (le_d rfl) (site_1 (by simp only [EV, seval])) ?_
                    obtain ⟨x83, h173, h⟩ := bO_inv h
                    simp only [EV, seval, h171a, h171b, h171c]
                    refine rC_p (i_one_ok h173) (by simp only [AL, EV, seval, h171a, h171b, h171c]) (le_d rfl) (no_j rfl) ?_
                    obtain ⟨h174, h⟩ := gd_inv h
                    replace h174 := of_decide_eq_true h174
                    try simp only [EV, seval] at h174
                    obtain ⟨h175, h⟩ := gd_inv h
                    replace h175 := of_decide_eq_true h175
                    try simp only [EV, seval] at h175
                    simp only [EV, seval, h171a, h171b, h171c, h174, h175]
                    refine hK _ _ _ ?_
                    clear hK K
                    refine AW_le (Le_can (lt := [(1, .own 1264 (v109 ++ ([x82 ++ ([(x83.1, x83.2.1, x83.2.2.1, x83.2.2.2)])])).length), (2, .own 33 v110.length), (3, .int .i64 v82), (4, .int .i64 v108), (5, .ptr 34 0)]) (lr := [(33, .row 31 2 (encL EILIIIIE v110)), (34, .box 31 [.int .i64 x75.1, .sl (encL EIIII x75.2.1) x75.2.1.length]), (1264, .row 26 1 (encL ELIIIIE (v109 ++ ([x82 ++ ([(x83.1, x83.2.1, x83.2.2.1, x83.2.2.2)])]))))]) (b' := 2128) [(1264, some 1264), (33, some 33), (34, some 34)] [35] hρ (by kernel_rfl) ?_ ?_) ?_
                    · simp only [AL, EV, seval]
                    · simp only [AL, EV, seval]
                    refine AW_re (BR := BR) FM (by rw [hN]; kernel_rfl) (by kernel_rfl) ?_
                    intro K hK
                    obtain ⟨h176, h⟩ := gd_inv h
                    replace h176 := of_decide_eq_true h176
                    try simp only [EV, seval] at h176
                    simp only [EV, seval, h176]
                    refine hK _ _ _ (show cutK _ _ _ from cutL ⟨_, _, rfl, h⟩ (Le_can [(32, some 1264), (33, some 2176)] [] hρ (by kernel_rfl) ?_ ?_))
                    · simp only [AL, EV, seval, h176]
                    · simp only [AL, EV, seval, h176]
                  · refine AW_skip (show cutK _ _ _ from cutL ⟨_, _, rfl, h⟩ (Le_can [(32, some 32), (33, some 33)] [] hρ (by kernel_rfl) ?_ ?_))
                    · simp only [AL, EV, seval]
                    · simp only [AL, EV, seval]
              · rintro S ⟨v119, v120, rfl, h⟩
                unfold i_AllCliffordWords_j21 at h
                refine AW_re (BR := BR) FM (by rw [hN]; kernel_rfl) (by kernel_rfl) ?_
                intro K hK
                simp only [EV, seval]
                refine hK _ _ _ (show cutK _ _ _ from cutL ⟨_, _, _, rfl, h⟩ (Le_can [(32, some 32), (33, some 33)] [] hρ (by kernel_rfl) ?_ ?_))
                · simp only [AL, EV, seval]
                · simp only [AL, EV, seval]
            · refine AW_exit (show cutK _ _ _ from cutL ⟨_, _, rfl, h⟩ (Le_can [(32, some 32), (33, some 33)] [] hρ (by kernel_rfl) ?_ ?_))
              · simp only [AL, EV, seval]
              · simp only [AL, EV, seval]
        · rintro S ⟨v121, v122, rfl, h⟩
          unfold i_AllCliffordWords_j16 at h
          refine AW_re (BR := BR) FM (by rw [hN]; kernel_rfl) (by kernel_rfl) ?_
          intro K hK
          simp only [EV, seval]
          refine hK _ _ _ (show cutK _ _ _ from cutL ⟨_, _, _, rfl, h⟩ (Le_can [(32, some 32), (33, some 33)] [] hρ (by kernel_rfl) ?_ ?_))
          · simp only [AL, EV, seval]
          · simp only [AL, EV, seval]
      · refine AW_exit (show cutK _ _ _ from cutL ⟨_, rfl, h⟩ (Le_can [(32, some 32)] [] hρ (by kernel_rfl) ?_ ?_))
        · simp only [AL, EV, seval]
        · simp only [AL, EV, seval]
  · rintro S ⟨v123, rfl, h⟩
    unfold i_AllCliffordWords_j1 at h
    refine AW_rs (BR := BR) FM (by rw [hN]; kernel_rfl) (by kernel_rfl) ?_
    intro K hK
    simp only [EV, seval]
    refine hK _ _ _ ?_
    clear hK K
    injection h with h
    subst h
    refine AW_le (Le_can (lt := [(0, .own 32 v123.length)]) (lr := [(32, .row 26 1 (encL ELIIIIE v123))]) (b' := 64) [(32, some 32)] [] hρ (by kernel_rfl) ?_ ?_) (AW_ret (end_q [32] (.inr rfl) (by kernel_rfl) (by kernel_rfl) ?_))
    · simp only [AL, EV, seval]
    · simp only [AL, EV, seval]
    · simp only [EV, Try.results32, seval]
end Go.Proofs.Ytcclapenpaediaa
