/- Models of functions, and that the functions do what the models say; printed by a program. -/
import Derived.Test.YtcclapenpaediaaGn
import Derived.Test.YtcclapenpaediaaMu
import Derived.Test.YtcclapenpaediaaMi
import Derived.Test.YtcclapenpaediaaMh
import Derived.Test.YtcclapenpaediaaMb
import Derived.Test.YtcclapenpaediaaMn
import Derived.Test.YtcclapenpaediaaMj
namespace Go.Proofs.Ytcclapenpaediaa
open Go.RowKit
set_option maxRecDepth 100000
set_option linter.unusedVariables false
set_option linter.unusedSimpArgs false
set_option linter.defProp false
/- spec.l29Find -/
def s_l29Find_j1 : Option Int :=
  some (-1)
def s_l29Find_l1 (a1 : List (Int × LQ)) (a2 : Int) (a3 : LQ) : Nat → Int → Option Int
  | 0, _ => none
  | n1 + 1, v2 =>
  br (decide (v2 < ((a1.length : Int)))) (bO (geti a1 v2) fun q3 => bO (s_EqualTableau q3.1 q3.2 a2 a3) fun x3 => br x3 (some v2) ((s_l29Find_l1 a1 a2 a3 n1) (IntKind.wrap .i64 (v2 + 1)))) (s_l29Find_j1)
def s_l29Find (a1 : List (Int × LQ)) (a2 : Int) (a3 : LQ) : Option Int :=
  s_l29Find_l1 a1 a2 a3 FU 0
set_option maxHeartbeats 4000000 in
theorem s_l29Find_ok {a1 : List (Int × LQ)} {a2 : Int} {a3 : LQ} {r : Int} (h : s_l29Find a1 a2 a3 = some r) :
    Spec Try.prog 70 [.sl (encL EILIIIIE a1) a1.length, .agg [.int .i64 a2, .sl (encL EIIII a3) a3.length]] [] (.int .i64 r) [] := by
  unfold s_l29Find at h
  refine spec_of Try.func70 rfl (by kernel_rfl) (by simp only [Try.ntmps70, List.length_cons, List.length_nil, Nat.reduceAdd, Nat.reduceLeDiff]) ?_
  intro C hN hρ
  rw [Try.ntmps70] at hN
  unfold st0
  simp only [tmps0, Nat.zero_add, Nat.reduceAdd]
  refine AW_rs (BR := BR) FM (by rw [hN]; kernel_rfl) (by kernel_rfl) ?_
  intro K hK
  simp only [EV, seval]
  refine hK _ _ _ ?_
  clear hK K
  refine AW_cutK (fun S => S = ⟨mkT [], mkR [], 64⟩ ∧ s_l29Find_j1 = some r) ?_ ?_
  · refine AW_rs (BR := BR) FM (by rw [hN]; kernel_rfl) (by kernel_rfl) ?_
    intro K hK
    simp only [EV, seval]
    refine hK _ _ _ ?_
    clear hK K
    refine AW_block ?_
    refine AW_loopF (fun n S => ∃ (v2 : Int), S = ⟨mkT [(0, .sl (encL EILIIIIE a1) a1.length), (3, .ptr 32 0), (5, .int .i64 v2)], mkR [(32, .box 31 [.int .i64 a2, .sl (encL EIIII a3) a3.length])], 64⟩ ∧ s_l29Find_l1 a1 a2 a3 n v2 = some r) FU ?_ ?_ ?_
    · refine cutL ⟨_, rfl, h⟩ (Le_can [(32, some 64)] [] hρ (by kernel_rfl) ?_ ?_)
      · simp only [AL, EV, seval]
      · simp only [AL, EV, seval]
    · rintro S ⟨_, _, h⟩; rw [s_l29Find_l1] at h; cases h
    · rintro n1 S ⟨v2, rfl, h⟩
      rw [s_l29Find_l1] at h
      refine AW_seq ?_
      refine AW_rs (BR := BR) FM (by rw [hN]; kernel_rfl) (by kernel_rfl) ?_
      intro K hK
      simp only [EV, seval]
      refine hK _ _ _ ?_
      clear hK K
      refine AW_condK (a := .bool (decide (v2 < ((a1.length : Int))))) (by simp only [EV, seval]) (brK h (fun hc5 h => ?_) (fun hc5 h => ?_))
      · refine AW_skip (show AW _ _ _ _ _ from ?_)
        refine AW_seq ?_
        refine AW_block ?_
        refine AW_rs (BR := BR) FM (by rw [hN]; kernel_rfl) (by kernel_rfl) ?_
        intro K hK
        obtain ⟨q3, h7, h⟩ := bO_inv h
        obtain ⟨⟨h8a, h8b⟩, h8c⟩ := geti_E EILIIIIEl h7
        try simp only [EV, seval] at h8c
        obtain ⟨x3, h9, h⟩ := bO_inv h
        simp only [EV, seval, h8a, h8b, h8c]
        refine rC_p (s_EqualTableau_ok h9) (by simp only [AL, EV, seval, h8a, h8b, h8c]) (le_d rfl) (no_j rfl) ?_
        simp only [EV, seval, h8a, h8b, h8c]
        refine hK _ _ _ ?_
        clear hK K
        refine AW_condK (a := .bool x3) (by simp only [EV, seval, h8a, h8b, h8c]) (brK h (fun hc6 h => ?_) (fun hc6 h => ?_))
        · refine AW_rs (BR := BR) FM (by rw [hN]; kernel_rfl) (by kernel_rfl) ?_
          intro K hK
          simp only [EV, seval]
          refine hK _ _ _ ?_
          clear hK K
          injection h with h
          subst h
          refine AW_le (Le_can (lt := [(4, .int .i64 v2)]) (lr := []) (b' := 64) [] [] hρ (by kernel_rfl) ?_ ?_) (AW_ret (end_q [] (.inr rfl) (by kernel_rfl) (by kernel_rfl) ?_))
          · simp only [AL, EV, seval]
          · simp only [AL, EV, seval]
          · simp only [EV, Try.results70, seval]
        · refine AW_skip (show AW _ _ _ _ _ from ?_)
          refine AW_re (BR := BR) FM (by rw [hN]; kernel_rfl) (by kernel_rfl) ?_
          intro K hK
          simp only [EV, seval]
          refine hK _ _ _ (show cutK _ _ _ from cutL ⟨_, rfl, h⟩ (Le_can [(32, some 32)] [] hρ (by kernel_rfl) ?_ ?_))
          · simp only [AL, EV, seval]
          · simp only [AL, EV, seval]
      · refine AW_exit (show cutK _ _ _ from cutL ⟨rfl, h⟩ (Le_can [] [] hρ (by kernel_rfl) ?_ ?_))
        · simp only [AL, EV, seval]
        · simp only [AL, EV, seval]
  · rintro S ⟨rfl, h⟩
    unfold s_l29Find_j1 at h
    refine AW_rs (BR := BR) FM (by rw [hN]; kernel_rfl) (by kernel_rfl) ?_
    intro K hK
    simp only [EV, seval]
    refine hK _ _ _ ?_
    clear hK K
    injection h with h
    subst h
    refine AW_le (Le_can (lt := [(4, .int .i64 (-1))]) (lr := []) (b' := 64) [] [] hρ (by kernel_rfl) ?_ ?_) (AW_ret (end_q [] (.inr rfl) (by kernel_rfl) (by kernel_rfl) ?_))
    · simp only [AL, EV, seval]
    · simp only [AL, EV, seval]
    · simp only [EV, Try.results70, seval]
/- spec.l29All -/
def s_l29All_j16 (v50 : Int) (kl4 : Int → (List (LQ)) → (List (Int × LQ)) → Option (List (LQ) × List (Int × LQ))) (v53 : List (LQ)) (v54 : List (Int × LQ)) : Option (List (LQ) × List (Int × LQ)) :=
  kl4 (IntKind.wrap .i64 (v50 + 1)) v53 v54
def s_l29All_j13 (v38 : List Int) (v39 : Int) (kl3 : (List Int) → Int → (List (LQ)) → (List (Int × LQ)) → Option (List (LQ) × List (Int × LQ))) (v55 : List (LQ)) (v56 : List (Int × LQ)) : Option (List (LQ) × List (Int × LQ)) :=
  kl3 v38 (IntKind.wrap .i64 (v39 + 1)) v55 v56
def s_l29All_l4 (v38 : List Int) (v39 : Int) (kl3 : (List Int) → Int → (List (LQ)) → (List (Int × LQ)) → Option (List (LQ) × List (Int × LQ))) : Nat → Int → (List (LQ)) → (List (Int × LQ)) → Option (List (LQ) × List (Int × LQ))
  | 0, _, _, _ => none
  | n4 + 1, v50, v51, v52 =>
  br (decide (v50 < ((v38.length : Int)))) (bO (geti v52 v39) fun q25 => bO (geti v38 v50) fun q26 => bO (s_l14One q26 0) fun x41 => bO (s_TableauApplyGate q25.1 q25.2 x41.1 x41.2.1 x41.2.2.1 x41.2.2.2) fun x42 => bO (s_l29Find v52 x42.1 x42.2.1) fun x43 => br (decide (0 ≤ x43)) (s_l29All_j16 v50 (s_l29All_l4 v38 v39 kl3 n4) v51 v52) (gd (decide (v52.length + ([(x42.1, x42.2.1)]).length ≤ 16777216)) (bO (geti v51 v39) fun q27 => gd (decide (([] : LQ).length + q27.length ≤ 16777216)) (bO (s_l14One q26 0) fun x44 => gd (decide (q27.length + ([(x44.1, x44.2.1, x44.2.2.1, x44.2.2.2)]).length ≤ 16777216)) (gd (decide (v51.length + ([q27 ++ ([(x44.1, x44.2.1, x44.2.2.1, x44.2.2.2)])]).length ≤ 16777216)) (s_l29All_j16 v50 (s_l29All_l4 v38 v39 kl3 n4) (v51 ++ ([q27 ++ ([(x44.1, x44.2.1, x44.2.2.1, x44.2.2.2)])])) (v52 ++ ([(x42.1, x42.2.1)])))))))) (s_l29All_j13 v38 v39 kl3 v51 v52)
def s_l29All_j1 (v57 : List (LQ)) (v58 : List (Int × LQ)) : Option (List (LQ) × List (Int × LQ)) :=
  some (v57, v58)
def s_l29All_j12 (v38 : List Int) (v39 : Int) (v40 : List (LQ)) (v41 : List (Int × LQ)) (kl3 : (List Int) → Int → (List (LQ)) → (List (Int × LQ)) → Option (List (LQ) × List (Int × LQ))) (v42 : Bool) : Option (List (LQ) × List (Int × LQ)) :=
  br v42 (s_l29All_l4 v38 v39 kl3 FU 0 v40 v41) (s_l29All_j1 v40 v41)
def s_l29All_l1 (a1 : Int) (a2 : LQ) : Nat → (List Int) → Int → (List (LQ)) → (List (Int × LQ)) → Option (List (LQ) × List (Int × LQ))
  | 0, _, _, _, _ => none
  | n3 + 1, v38, v39, v40, v41 =>
  bO (br (decide (v39 < ((v40.length : Int)))) (bO (s_l29Find v41 a1 a2) fun x30 => some (decide (x30 < 0))) (some false)) fun x31 => s_l29All_j12 v38 v39 v40 v41 (s_l29All_l1 a1 a2 n3) x31
def s_l29All (a1 : Int) (a2 : LQ) : Option (List (LQ) × List (Int × LQ)) :=
  bO (s_IdentityTableau 1) fun x1 => s_l29All_l1 a1 a2 FU ([1, 2, 3, 4, 5, 6]) 0 ([[]]) ([(x1.1, x1.2)])
set_option maxHeartbeats 4000000 in
theorem s_l29All_ok {a1 : Int} {a2 : LQ} {r : List (LQ) × List (Int × LQ)} (h : s_l29All a1 a2 = some r) :
    Spec Try.prog 69 [.agg [.int .i64 a1, .sl (encL EIIII a2) a2.length]] [] (.tup [.own 0 r.1.length, .own 1 r.2.length]) [.row 26 1 (encL ELIIIIE r.1), .row 31 2 (encL EILIIIIE r.2)] := by
  unfold s_l29All at h
  refine spec_of Try.func69 rfl (by kernel_rfl) (by simp only [Try.ntmps69, List.length_cons, List.length_nil, Nat.reduceAdd, Nat.reduceLeDiff]) ?_
  intro C hN hρ
  rw [Try.ntmps69] at hN
  unfold st0
  simp only [tmps0, Nat.zero_add, Nat.reduceAdd]
  refine AW_rs (BR := BR) FM (by rw [hN]; kernel_rfl) (by kernel_rfl) ?_
  intro K hK
  simp only [EV, seval]
  refine hK _ _ _ ?_
  clear hK K
  refine AW_rs (BR := (BRx BR [1001088])) FM (by rw [hN]; kernel_rfl) (by kernel_rfl) ?_
  intro K hK
  simp only [EV, seval]
  refine hK _ _ _ ?_
  clear hK K
  refine AW_rs (BR := BR) FM (by rw [hN]; kernel_rfl) (by kernel_rfl) ?_
  intro K hK
  obtain ⟨x1, h1, h⟩ := bO_inv h
  simp only [EV, seval]
  refine rC_p (Spec.can (ret2 := .agg [.int .i64 x1.1, .sl (encL EIIII x1.2) x1.2.length]) (mem2 := []) (s_IdentityTableau_ok h1) [] [0] (by kernel_rfl) (by simp only [AL, EV, seval]) (by simp only [AL, EV, seval])) (by simp only [AL, EV, seval]) (le_d rfl) (no_j rfl) ?_
  simp only [EV, seval]
  refine hK _ _ _ ?_
  clear hK K
  refine AW_rs (BR := BR) FM (by rw [hN]; kernel_rfl) (by kernel_rfl) ?_
  intro K hK
  simp only [EV, seval]
  refine hK _ _ _ ?_
  clear hK K
  refine AW_cutK (fun S => ∃ (v57 : List (LQ)) (v58 : List (Int × LQ)), S = ⟨mkT [(4, .own 32 v57.length), (5, .own 33 v58.length)], mkR [(32, .row 26 1 (encL ELIIIIE v57)), (33, .row 31 2 (encL EILIIIIE v58))], 64⟩ ∧ s_l29All_j1 v57 v58 = some r) ?_ ?_
  · refine AW_rs (BR := BR) FM (by rw [hN]; kernel_rfl) (by kernel_rfl) ?_
    intro K hK
    simp only [EV, seval]
    refine hK _ _ _ ?_
    clear hK K
    refine AW_block ?_
    refine AW_loopF (fun n S => ∃ (v38 : List Int) (v39 : Int) (v40 : List (LQ)) (v41 : List (Int × LQ)), S = ⟨mkT [(1, .ptr 32 0), (4, .own 33 v40.length), (5, .own 34 v41.length), (6, .sl (encL EI v38) v38.length), (7, .int .i64 v39)], mkR [(32, .box 31 [.int .i64 a1, .sl (encL EIIII a2) a2.length]), (33, .row 26 1 (encL ELIIIIE v40)), (34, .row 31 2 (encL EILIIIIE v41))], 64⟩ ∧ s_l29All_l1 a1 a2 n v38 v39 v40 v41 = some r) FU ?_ ?_ ?_
    · refine cutL ⟨_, _, _, _, rfl, h⟩ (Le_can [(32, some 64), (33, some 1104), (34, some 2128)] [] hρ (by kernel_rfl) ?_ ?_)
      · simp only [AL, EV, seval]
      · simp only [AL, EV, seval]
    · rintro S ⟨_, _, _, _, _, h⟩; rw [s_l29All_l1] at h; cases h
    · rintro n3 S ⟨v38, v39, v40, v41, rfl, h⟩
      rw [s_l29All_l1] at h
      refine AW_seq ?_
      refine AW_rsJ (BR := BR) (fun S => ∃ (v42 : Bool), S = ⟨mkT [(1, .ptr 32 0), (4, .own 33 v40.length), (5, .own 34 v41.length), (6, .sl (encL EI v38) v38.length), (7, .int .i64 v39), (25, .bool v42)], mkR [(32, .box 31 [.int .i64 a1, .sl (encL EIIII a2) a2.length]), (33, .row 26 1 (encL ELIIIIE v40)), (34, .row 31 2 (encL EILIIIIE v41))], 64⟩ ∧ s_l29All_j12 v38 v39 v40 v41 (s_l29All_l1 a1 a2 n3) v42 = some r) FM (by rw [hN]; kernel_rfl) (by kernel_rfl) ?_ ?_
      · intro K hK
        obtain ⟨x31, hv3, h⟩ := bO_inv h
        rcases br_inv hv3 with ⟨hc17, hv3⟩ | ⟨hc17, hv3⟩
        · obtain ⟨x32, h95, hv3⟩ := bO_inv hv3
          simp only [EV, seval, hc17]
          refine rC_l (s_l29Find_ok h95) (by simp only [AL, EV, seval, hc17]) (by simp only [AL, EF, and_self]) (le_d rfl) (no_j rfl) ?_
          cases hv3
          simp only [EV, seval, hc17]
          refine hK _ _ _ (show cutK _ _ _ from cutL ⟨_, rfl, h⟩ (Le_can [(32, some 32), (33, some 33), (34, some 34)] [] hρ (by kernel_rfl) ?_ ?_))
          · simp only [AL, EV, seval, hc17]
          · simp only [AL, EV, seval, hc17]
        · cases hv3
          simp only [EV, seval, hc17]
          refine hK _ _ _ (show cutK _ _ _ from cutL ⟨_, rfl, h⟩ (Le_can [(32, some 32), (33, some 33), (34, some 34)] [] hρ (by kernel_rfl) ?_ ?_))
          · simp only [AL, EV, seval, hc17]
          · simp only [AL, EV, seval, hc17]
      · rintro S ⟨v42, rfl, h⟩
        unfold s_l29All_j12 at h
        refine AW_condK (a := .bool v42) (by simp only [EV, seval]) (brK h (fun hc18 h => ?_) (fun hc18 h => ?_))
        · refine AW_skip (show AW _ _ _ _ _ from ?_)
          refine AW_cutK (fun S => ∃ (v55 : List (LQ)) (v56 : List (Int × LQ)), S = ⟨mkT [(1, .ptr 32 0), (4, .own 33 v55.length), (5, .own 34 v56.length), (6, .sl (encL EI v38) v38.length), (7, .int .i64 v39)], mkR [(32, .box 31 [.int .i64 a1, .sl (encL EIIII a2) a2.length]), (33, .row 26 1 (encL ELIIIIE v55)), (34, .row 31 2 (encL EILIIIIE v56))], 64⟩ ∧ s_l29All_j13 v38 v39 (s_l29All_l1 a1 a2 n3) v55 v56 = some r) ?_ ?_
          · refine AW_block ?_
            refine AW_rs (BR := BR) FM (by rw [hN]; kernel_rfl) (by kernel_rfl) ?_
            intro K hK
            simp only [EV, seval]
            refine hK _ _ _ ?_
            clear hK K
            refine AW_block ?_
            refine AW_loopF (fun n S => ∃ (v50 : Int) (v51 : List (LQ)) (v52 : List (Int × LQ)), S = ⟨mkT [(1, .ptr 32 0), (4, .own 33 v51.length), (5, .own 34 v52.length), (6, .sl (encL EI v38) v38.length), (7, .int .i64 v39), (8, .int .i64 v50)], mkR [(32, .box 31 [.int .i64 a1, .sl (encL EIIII a2) a2.length]), (33, .row 26 1 (encL ELIIIIE v51)), (34, .row 31 2 (encL EILIIIIE v52))], 64⟩ ∧ s_l29All_l4 v38 v39 (s_l29All_l1 a1 a2 n3) n v50 v51 v52 = some r) FU ?_ ?_ ?_
            · refine cutL ⟨_, _, _, rfl, h⟩ (Le_can [(32, some 32), (33, some 33), (34, some 34)] [] hρ (by kernel_rfl) ?_ ?_)
              · simp only [AL, EV, seval]
              · simp only [AL, EV, seval]
            · rintro S ⟨_, _, _, _, h⟩; rw [s_l29All_l4] at h; cases h
            · rintro n4 S ⟨v50, v51, v52, rfl, h⟩
              rw [s_l29All_l4] at h
              refine AW_seq ?_
              refine AW_rs (BR := BR) FM (by rw [hN]; kernel_rfl) (by kernel_rfl) ?_
              intro K hK
              simp only [EV, seval]
              refine hK _ _ _ ?_
              clear hK K
              refine AW_condK (a := .bool (decide (v50 < ((v38.length : Int))))) (by simp only [EV, seval]) (brK h (fun hc23 h => ?_) (fun hc23 h => ?_))
              · refine AW_skip (show AW _ _ _ _ _ from ?_)
                refine AW_cutK (fun S => ∃ (v53 : List (LQ)) (v54 : List (Int × LQ)), S = ⟨mkT [(1, .ptr 32 0), (4, .own 33 v53.length), (5, .own 34 v54.length), (6, .sl (encL EI v38) v38.length), (7, .int .i64 v39), (8, .int .i64 v50)], mkR [(32, .box 31 [.int .i64 a1, .sl (encL EIIII a2) a2.length]), (33, .row 26 1 (encL ELIIIIE v53)), (34, .row 31 2 (encL EILIIIIE v54))], 64⟩ ∧ s_l29All_j16 v50 (s_l29All_l4 v38 v39 (s_l29All_l1 a1 a2 n3) n4) v53 v54 = some r) ?_ ?_
                · refine AW_block ?_
                  refine AW_rs (BR := BR) FM (by rw [hN]; kernel_rfl) (by kernel_rfl) ?_
                  intro K hK
                  obtain ⟨q25, h126, h⟩ := bO_inv h
                  obtain ⟨⟨h127a, h127b⟩, h127c⟩ := geti_E EILIIIIEl h126
                  try simp only [EV, seval] at h127c
                  obtain ⟨q26, h128, h⟩ := bO_inv h
                  obtain ⟨⟨h129a, h129b⟩, h129c⟩ := geti_E EIl h128
                  try simp only [EV, seval] at h129c
                  obtain ⟨x41, h130, h⟩ := bO_inv h
                  simp only [EV, seval, h127a, h127b, h127c, h129a, h129b, h129c]
                  refine rC_p (s_l14One_ok h130) (by simp only [AL, EV, seval, h127a, h127b, h127c, h129a, h129b, h129c]) (le_d rfl) (no_j rfl) ?_
                  obtain ⟨x42, h131, h⟩ := bO_inv h
                  simp only [EV, seval, h127a, h127b, h127c, h129a, h129b, h129c]
                  refine rC_p (s_TableauApplyGate_ok h131) (by simp only [AL, EV, seval, h127a, h127b, h127c, h129a, h129b, h129c]) (le_d rfl) (site_1 (by simp only [EV, seval])) ?_
                  simp only [EV, seval, h127a, h127b, h127c, h129a, h129b, h129c]
                  refine hK _ _ _ ?_
                  clear hK K
                  refine AW_seq ?_
                  refine AW_rs (BR := BR) FM (by rw [hN]; kernel_rfl) (by kernel_rfl) ?_
                  intro K hK
                  obtain ⟨x43, h132, h⟩ := bO_inv h
                  simp only [EV, seval]
                  refine rC_l (s_l29Find_ok h132) (by simp only [AL, EV, seval]) (by simp only [AL, EF, and_self]) (le_d rfl) (no_j rfl) ?_
                  simp only [EV, seval]
                  refine hK _ _ _ ?_
                  clear hK K
                  refine AW_condK (a := .bool (decide (0 ≤ x43))) (by simp only [EV, seval]) (brK h (fun hc24 h => ?_) (fun hc24 h => ?_))
                  · refine AW_exit (show cutK _ _ _ from cutL ⟨_, _, rfl, h⟩ (Le_can [(32, some 32), (33, some 33), (34, some 34)] [] hρ (by kernel_rfl) ?_ ?_))
                    · simp only [AL, EV, seval]
                    · simp only [AL, EV, seval]
                  · refine AW_skip (show AW _ _ _ _ _ from ?_)
                    refine AW_le (Le_can (lt := [(1, .ptr 32 0), (4, .own 33 v51.length), (5, .own 34 v52.length), (6, .sl (encL EI v38) v38.length), (7, .int .i64 v39), (8, .int .i64 v50), (9, .ptr 1296 0)]) (lr := [(32, .box 31 [.int .i64 a1, .sl (encL EIIII a2) a2.length]), (33, .row 26 1 (encL ELIIIIE v51)), (34, .row 31 2 (encL EILIIIIE v52)), (1296, .box 31 [.int .i64 x42.1, .sl (encL EIIII x42.2.1) x42.2.1.length])]) (b' := 3152) [(32, some 32), (33, some 33), (34, some 34), (1296, some 1296)] [1232] hρ (by kernel_rfl) ?_ ?_) ?_
                    · simp only [AL, EV, seval]
                    · simp only [AL, EV, seval]
                    refine AW_rs (BR := BR) FM (by rw [hN]; kernel_rfl) (by kernel_rfl) ?_
                    intro K hK
                    obtain ⟨h133, h⟩ := gd_inv h
                    replace h133 := of_decide_eq_true h133
                    try simp only [EV, seval] at h133
                    simp only [EV, seval, h133]
                    refine hK _ _ _ ?_
                    clear hK K
                    refine AW_reT (BR := (BRx BR [1004384])) [(6, [4192, 4272]), (10, [9999999])] (by kernel_rfl) FM (by rw [hN]; kernel_rfl) (by kernel_rfl) ?_
                    intro K hK
                    obtain ⟨q27, h134, h⟩ := bO_inv h
                    obtain ⟨⟨h135a, h135b⟩, h135c⟩ := geti_E ELIIIIEl h134
                    try simp only [EV, seval] at h135c
                    obtain ⟨h136, h⟩ := gd_inv h
                    replace h136 := of_decide_eq_true h136
                    try simp only [EV, seval] at h136
                    have h137 := encL_len EIIIIl q27
                    obtain ⟨x44, h138, h⟩ := bO_inv h
                    simp only [AE, AT, TY, EN, seval, h135a, h135b, h135c, h136, h137, h129a, h129b, h129c]
                    refine rCT_p _ (s_l14One_ok h138) (by simp only [AL, EV, seval, h135a, h135b, h135c, h136, h137, h129a, h129b, h129c]) (le_d rfl) (no_j rfl) ?_
                    obtain ⟨h139, h⟩ := gd_inv h
                    replace h139 := of_decide_eq_true h139
                    try simp only [EV, seval] at h139
                    obtain ⟨h140, h⟩ := gd_inv h
                    replace h140 := of_decide_eq_true h140
                    try simp only [EV, seval] at h140
                    simp only [AE, AT, TY, EN, seval, h135a, h135b, h135c, h136, h137, h129a, h129b, h129c, h139, h140]
                    refine hK _ _ _ (show cutK _ _ _ from cutL ⟨_, _, rfl, h⟩ (Le_can [(32, some 32), (33, some 4416), (34, some 3200)] [] hρ (by kernel_rfl) ?_ ?_))
                    · simp only [AL, EV, seval, h135a, h135b, h135c, h136, h137, h129a, h129b, h129c, h139, h140]
                    · simp only [AL, EV, seval, h135a, h135b, h135c, h136, h137, h129a, h129b, h129c, h139, h140]
                · rintro S ⟨v53, v54, rfl, h⟩
                  unfold s_l29All_j16 at h
                  refine AW_re (BR := BR) FM (by rw [hN]; kernel_rfl) (by kernel_rfl) ?_
                  intro K hK
                  simp only [EV, seval]
                  refine hK _ _ _ (show cutK _ _ _ from cutL ⟨_, _, _, rfl, h⟩ (Le_can [(32, some 32), (33, some 33), (34, some 34)] [] hρ (by kernel_rfl) ?_ ?_))
                  · simp only [AL, EV, seval]
                  · simp only [AL, EV, seval]
              · refine AW_exit (show cutK _ _ _ from cutL ⟨_, _, rfl, h⟩ (Le_can [(32, some 32), (33, some 33), (34, some 34)] [] hρ (by kernel_rfl) ?_ ?_))
                · simp only [AL, EV, seval]
                · simp only [AL, EV, seval]
          · rintro S ⟨v55, v56, rfl, h⟩
            unfold s_l29All_j13 at h
            refine AW_re (BR := BR) FM (by rw [hN]; kernel_rfl) (by kernel_rfl) ?_
            intro K hK
            simp only [EV, seval]
            refine hK _ _ _ (show cutK _ _ _ from cutL ⟨_, _, _, _, rfl, h⟩ (Le_can [(32, some 32), (33, some 33), (34, some 34)] [] hρ (by kernel_rfl) ?_ ?_))
            · simp only [AL, EV, seval]
            · simp only [AL, EV, seval]
        · refine AW_exit (show cutK _ _ _ from cutL ⟨_, _, rfl, h⟩ (Le_can [(32, some 33), (33, some 34)] [] hρ (by kernel_rfl) ?_ ?_))
          · simp only [AL, EV, seval]
          · simp only [AL, EV, seval]
  · rintro S ⟨v57, v58, rfl, h⟩
    unfold s_l29All_j1 at h
    refine AW_rs (BR := BR) FM (by rw [hN]; kernel_rfl) (by kernel_rfl) ?_
    intro K hK
    simp only [EV, seval]
    refine hK _ _ _ ?_
    clear hK K
    injection h with h
    subst h
    refine AW_le (Le_can (lt := [(2, .own 32 v57.length), (3, .own 33 v58.length)]) (lr := [(32, .row 26 1 (encL ELIIIIE v57)), (33, .row 31 2 (encL EILIIIIE v58))]) (b' := 64) [(32, some 32), (33, some 33)] [] hρ (by kernel_rfl) ?_ ?_) (AW_ret (end_q [32, 33] (.inr rfl) (by kernel_rfl) (by kernel_rfl) ?_))
    · simp only [AL, EV, seval]
    · simp only [AL, EV, seval]
    · simp only [EV, Try.results69, seval]
/- spec.CliffordWord -/
def s_CliffordWord_j1 (a1 : Int) (a2 : LQ) (v1 : Bool) : Option (LQ × Bool) :=
  br v1 (some ([], false)) (bO (s_l29All a1 a2) fun x3 => bO (s_l29Find x3.2 a1 a2) fun x4 => br (decide (x4 < 0)) (some ([], false)) (bO (geti x3.1 x4) fun q1 => gd (decide (([] : LQ).length + q1.length ≤ 16777216)) (some (q1, true))))
def s_CliffordWord (a1 : Int) (a2 : LQ) : Option (LQ × Bool) :=
  bO (s_IsValidTableau a1 a2) fun x1 => bO (br (!x1) (some true) (some (a1 != 1))) fun x2 => s_CliffordWord_j1 a1 a2 x2
set_option maxHeartbeats 4000000 in
theorem s_CliffordWord_ok {a1 : Int} {a2 : LQ} {r : LQ × Bool} (h : s_CliffordWord a1 a2 = some r) :
    Spec Try.prog 16 [.agg [.int .i64 a1, .sl (encL EIIII a2) a2.length]] [] (.tup [.own 0 r.1.length, .bool r.2]) [.row 49 4 (encL EIIII r.1)] := by
  unfold s_CliffordWord at h
  refine spec_of Try.func16 rfl (by kernel_rfl) (by simp only [Try.ntmps16, List.length_cons, List.length_nil, Nat.reduceAdd, Nat.reduceLeDiff]) ?_
  intro C hN hρ
  rw [Try.ntmps16] at hN
  unfold st0
  simp only [tmps0, Nat.zero_add, Nat.reduceAdd]
  refine AW_rs (BR := BR) FM (by rw [hN]; kernel_rfl) (by kernel_rfl) ?_
  intro K hK
  simp only [EV, seval]
  refine hK _ _ _ ?_
  clear hK K
  refine AW_seq ?_
  refine AW_rsJ (BR := BR) (fun S => ∃ (v1 : Bool), S = ⟨mkT [(1, .ptr 32 0), (14, .bool v1)], mkR [(32, .box 31 [.int .i64 a1, .sl (encL EIIII a2) a2.length])], 64⟩ ∧ s_CliffordWord_j1 a1 a2 v1 = some r) FM (by rw [hN]; kernel_rfl) (by kernel_rfl) ?_ ?_
  · intro K hK
    obtain ⟨x1, h1, h⟩ := bO_inv h
    simp only [EV, seval]
    refine rC_p (s_IsValidTableau_ok h1) (by simp only [AL, EV, seval]) (le_d rfl) (no_j rfl) ?_
    obtain ⟨x2, hv1, h⟩ := bO_inv h
    rcases br_inv hv1 with ⟨hc1, hv1⟩ | ⟨hc1, hv1⟩
    · cases hv1
      simp only [EV, seval, hc1]
      refine hK _ _ _ (show cutK _ _ _ from cutL ⟨_, rfl, h⟩ (Le_can [(32, some 64)] [] hρ (by kernel_rfl) ?_ ?_))
      · simp only [AL, EV, seval, hc1]
      · simp only [AL, EV, seval, hc1]
    · cases hv1
      simp only [EV, seval, hc1]
      refine hK _ _ _ (show cutK _ _ _ from cutL ⟨_, rfl, h⟩ (Le_can [(32, some 64)] [] hρ (by kernel_rfl) ?_ ?_))
      · simp only [AL, EV, seval, hc1]
      · simp only [AL, EV, seval, hc1]
  · rintro S ⟨v1, rfl, h⟩
    unfold s_CliffordWord_j1 at h
    refine AW_condK (a := .bool v1) (by simp only [EV, seval]) (brK h (fun hc2 h => ?_) (fun hc2 h => ?_))
    · refine AW_rs (BR := BR) FM (by rw [hN]; kernel_rfl) (by kernel_rfl) ?_
      intro K hK
      simp only [EV, seval]
      refine hK _ _ _ ?_
      clear hK K
      injection h with h
      subst h
      refine AW_le (Le_can (lt := [(2, .own 32 0), (3, .bool false)]) (lr := [(32, .row 49 4 (encL EIIII ([])))]) (b' := 64) [(32, some 64)] [] hρ (by kernel_rfl) ?_ ?_) (AW_ret (end_q [32] (.inr rfl) (by kernel_rfl) (by kernel_rfl) ?_))
      · simp only [AL, EV, seval]
      · simp only [AL, EV, seval]
      · simp only [EV, Try.results16, seval]
    · refine AW_skip (show AW _ _ _ _ _ from ?_)
      refine AW_rs (BR := BR) FM (by rw [hN]; kernel_rfl) (by kernel_rfl) ?_
      intro K hK
      obtain ⟨x3, h2, h⟩ := bO_inv h
      simp only [EV, seval]
      refine rC_p (s_l29All_ok h2) (by simp only [AL, EV, seval]) (le_d rfl) (site_2 (by simp only [EV, seval])) ?_
      simp only [EV, seval]
      refine hK _ _ _ ?_
      clear hK K
      refine AW_rs (BR := BR) FM (by rw [hN]; kernel_rfl) (by kernel_rfl) ?_
      intro K hK
      obtain ⟨x4, h3, h⟩ := bO_inv h
      simp only [EV, seval]
      refine rC_l (s_l29Find_ok h3) (by simp only [AL, EV, seval]) (by simp only [AL, EF, and_self]) (le_d rfl) (no_j rfl) ?_
      simp only [EV, seval]
      refine hK _ _ _ ?_
      clear hK K
      refine AW_seq ?_
      refine AW_rs (BR := BR) FM (by rw [hN]; kernel_rfl) (by kernel_rfl) ?_
      intro K hK
      simp only [EV, seval]
      refine hK _ _ _ ?_
      clear hK K
      refine AW_condK (a := .bool (decide (x4 < 0))) (by simp only [EV, seval]) (brK h (fun hc3 h => ?_) (fun hc3 h => ?_))
      · refine AW_rs (BR := BR) FM (by rw [hN]; kernel_rfl) (by kernel_rfl) ?_
        intro K hK
        simp only [EV, seval]
        refine hK _ _ _ ?_
        clear hK K
        injection h with h
        subst h
        refine AW_le (Le_can (lt := [(2, .own 32 0), (3, .bool false)]) (lr := [(32, .row 49 4 (encL EIIII ([])))]) (b' := 64) [(32, some 3136)] [] hρ (by kernel_rfl) ?_ ?_) (AW_ret (end_q [32] (.inr rfl) (by kernel_rfl) (by kernel_rfl) ?_))
        · simp only [AL, EV, seval]
        · simp only [AL, EV, seval]
        · simp only [EV, Try.results16, seval]
      · refine AW_skip (show AW _ _ _ _ _ from ?_)
        refine AW_rs (BR := BR) FM (by rw [hN]; kernel_rfl) (by kernel_rfl) ?_
        intro K hK
        obtain ⟨q1, h4, h⟩ := bO_inv h
        obtain ⟨⟨h5a, h5b⟩, h5c⟩ := geti_E ELIIIIEl h4
        try simp only [EV, seval] at h5c
        obtain ⟨h6, h⟩ := gd_inv h
        replace h6 := of_decide_eq_true h6
        try simp only [EV, seval] at h6
        have h7 := encL_len EIIIIl q1
        simp only [EV, seval, h5a, h5b, h5c, h6, h7]
        refine hK _ _ _ ?_
        clear hK K
        injection h with h
        subst h
        refine AW_le (Le_can (lt := [(2, .own 32 q1.length), (3, .bool true)]) (lr := [(32, .row 49 4 (encL EIIII q1))]) (b' := 64) [(32, some 3216)] [] hρ (by kernel_rfl) ?_ ?_) (AW_ret (end_q [32] (.inr rfl) (by kernel_rfl) (by kernel_rfl) ?_))
        · simp only [AL, EV, seval, h5a, h5b, h5c, h6, h7]
        · simp only [AL, EV, seval, h5a, h5b, h5c, h6, h7]
        · simp only [EV, Try.results16, seval]
/- impl.CliffordWord -/
def i_CliffordWord_j4 (v6 : Int) (v7 : Int) (kl1 : Int → Int → Option (LQ × Bool)) (q3 : LQ) (v8 : Bool) : Option (LQ × Bool) :=
  br v8 (some (q3, true)) (kl1 v6 (IntKind.wrap .i64 (v7 + 1)))
def i_CliffordWord_j1 : Option (LQ × Bool) :=
  some ([], false)
def i_CliffordWord_l1 (a1 : Int) (a2 : LQ) (x1 : List (LQ)) : Nat → Int → Int → Option (LQ × Bool)
  | 0, _, _ => none
  | n1 + 1, v6, v7 =>
  br (decide (v7 < v6)) (bO (geti x1 v7) fun q3 => bO (i_WordTableau q3) fun x8 => bO (br x8.2.2 (bO (i_EqualTableau x8.1 x8.2.1 a1 a2) fun x9 => some x9) (some false)) fun x10 => i_CliffordWord_j4 v6 v7 (i_CliffordWord_l1 a1 a2 x1 n1) q3 x10) (i_CliffordWord_j1)
def i_CliffordWord (a1 : Int) (a2 : LQ) : Option (LQ × Bool) :=
  bO (i_AllCliffordWords) fun x1 => i_CliffordWord_l1 a1 a2 x1 FU ((x1.length : Int)) 0
set_option maxHeartbeats 4000000 in
theorem i_CliffordWord_ok {a1 : Int} {a2 : LQ} {r : LQ × Bool} (h : i_CliffordWord a1 a2 = some r) :
    Spec Try.prog 18 [.agg [.int .i64 a1, .sl (encL EIIII a2) a2.length]] [] (.tup [.sl (encL EIIII r.1) r.1.length, .bool r.2]) [] := by
  unfold i_CliffordWord at h
  refine spec_of Try.func18 rfl (by kernel_rfl) (by simp only [Try.ntmps18, List.length_cons, List.length_nil, Nat.reduceAdd, Nat.reduceLeDiff]) ?_
  intro C hN hρ
  rw [Try.ntmps18] at hN
  unfold st0
  simp only [tmps0, Nat.zero_add, Nat.reduceAdd]
  refine AW_rs (BR := BR) FM (by rw [hN]; kernel_rfl) (by kernel_rfl) ?_
  intro K hK
  simp only [EV, seval]
  refine hK _ _ _ ?_
  clear hK K
  refine AW_cutK (fun S => S = ⟨mkT [], mkR [], 64⟩ ∧ i_CliffordWord_j1 = some r) ?_ ?_
  · refine AW_rs (BR := BR) FM (by rw [hN]; kernel_rfl) (by kernel_rfl) ?_
    intro K hK
    obtain ⟨x1, h1, h⟩ := bO_inv h
    simp only [EV, seval]
    refine rC_p (i_AllCliffordWords_ok h1) (by simp only [AL, EV, seval]) (le_d rfl) (site_1 (by simp only [EV, seval])) ?_
    simp only [EV, seval]
    refine hK _ _ _ ?_
    clear hK K
    refine AW_block ?_
    refine AW_loopF (fun n S => ∃ (v6 : Int) (v7 : Int), S = ⟨mkT [(1, .ptr 32 0), (8, .own 33 x1.length), (9, .int .i64 v6), (10, .int .i64 v7)], mkR [(32, .box 31 [.int .i64 a1, .sl (encL EIIII a2) a2.length]), (33, .row 26 1 (encL ELIIIIE x1))], 64⟩ ∧ i_CliffordWord_l1 a1 a2 x1 n v6 v7 = some r) FU ?_ ?_ ?_
    · refine cutL ⟨_, _, rfl, h⟩ (Le_can [(32, some 64), (33, some 1088)] [] hρ (by kernel_rfl) ?_ ?_)
      · simp only [AL, EV, seval]
      · simp only [AL, EV, seval]
    · rintro S ⟨_, _, _, h⟩; rw [i_CliffordWord_l1] at h; cases h
    · rintro n1 S ⟨v6, v7, rfl, h⟩
      rw [i_CliffordWord_l1] at h
      refine AW_rs (BR := BR) FM (by rw [hN]; kernel_rfl) (by kernel_rfl) ?_
      intro K hK
      simp only [EV, seval]
      refine hK _ _ _ ?_
      clear hK K
      refine AW_seq ?_
      refine AW_condK (a := .bool (decide (v7 < v6))) (by simp only [EV, seval]) (brK h (fun hc7 h => ?_) (fun hc7 h => ?_))
      · refine AW_skip (show AW _ _ _ _ _ from ?_)
        refine AW_seq ?_
        refine AW_block ?_
        refine AW_rs (BR := BR) FM (by rw [hN]; kernel_rfl) (by kernel_rfl) ?_
        intro K hK
        obtain ⟨q3, h10, h⟩ := bO_inv h
        obtain ⟨⟨h11a, h11b⟩, h11c⟩ := geti_E ELIIIIEl h10
        try simp only [EV, seval] at h11c
        simp only [EV, seval, h11a, h11b, h11c]
        refine hK _ _ _ ?_
        clear hK K
        refine AW_rs (BR := BR) FM (by rw [hN]; kernel_rfl) (by kernel_rfl) ?_
        intro K hK
        obtain ⟨x8, h12, h⟩ := bO_inv h
        simp only [EV, seval]
        refine rC_p (i_WordTableau_ok h12) (by simp only [AL, EV, seval]) (le_d rfl) (site_1 (by simp only [EV, seval])) ?_
        simp only [EV, seval]
        refine hK _ _ _ ?_
        clear hK K
        refine AW_rsJ (BR := BR) (fun S => ∃ (v8 : Bool), S = ⟨mkT [(1, .ptr 32 0), (5, .sl (encL EIIII q3) q3.length), (8, .own 33 x1.length), (9, .int .i64 v6), (10, .int .i64 v7), (24, .bool v8)], mkR [(32, .box 31 [.int .i64 a1, .sl (encL EIIII a2) a2.length]), (33, .row 26 1 (encL ELIIIIE x1))], 64⟩ ∧ i_CliffordWord_j4 v6 v7 (i_CliffordWord_l1 a1 a2 x1 n1) q3 v8 = some r) FM (by rw [hN]; kernel_rfl) (by kernel_rfl) ?_ ?_
        · intro K hK
          obtain ⟨x10, hv3, h⟩ := bO_inv h
          rcases br_inv hv3 with ⟨hc8, hv3⟩ | ⟨hc8, hv3⟩
          · obtain ⟨x11, h14, hv3⟩ := bO_inv hv3
            simp only [EV, seval, hc8]
            refine rC_l (i_EqualTableau_ok h14) (by simp only [AL, EV, seval, hc8]) (by simp only [AL, EF, and_self]) (le_d rfl) (no_j rfl) ?_
            cases hv3
            simp only [EV, seval, hc8]
            refine hK _ _ _ (show cutK _ _ _ from cutL ⟨_, rfl, h⟩ (Le_can [(32, some 32), (33, some 33)] [] hρ (by kernel_rfl) ?_ ?_))
            · simp only [AL, EV, seval, hc8]
            · simp only [AL, EV, seval, hc8]
          · cases hv3
            simp only [EV, seval, hc8]
            refine hK _ _ _ (show cutK _ _ _ from cutL ⟨_, rfl, h⟩ (Le_can [(32, some 32), (33, some 33)] [] hρ (by kernel_rfl) ?_ ?_))
            · simp only [AL, EV, seval, hc8]
            · simp only [AL, EV, seval, hc8]
        · rintro S ⟨v8, rfl, h⟩
          unfold i_CliffordWord_j4 at h
          refine AW_condK (a := .bool v8) (by simp only [EV, seval]) (brK h (fun hc9 h => ?_) (fun hc9 h => ?_))
          · refine AW_rs (BR := BR) FM (by rw [hN]; kernel_rfl) (by kernel_rfl) ?_
            intro K hK
            simp only [EV, seval]
            refine hK _ _ _ ?_
            clear hK K
            injection h with h
            subst h
            refine AW_le (Le_can (lt := [(2, .sl (encL EIIII q3) q3.length), (3, .bool true)]) (lr := []) (b' := 64) [] [] hρ (by kernel_rfl) ?_ ?_) (AW_ret (end_q [] (.inr rfl) (by kernel_rfl) (by kernel_rfl) ?_))
            · simp only [AL, EV, seval]
            · simp only [AL, EV, seval]
            · simp only [EV, Try.results18, seval]
          · refine AW_skip (show AW _ _ _ _ _ from ?_)
            refine AW_re (BR := BR) FM (by rw [hN]; kernel_rfl) (by kernel_rfl) ?_
            intro K hK
            simp only [EV, seval]
            refine hK _ _ _ (show cutK _ _ _ from cutL ⟨_, _, rfl, h⟩ (Le_can [(32, some 32), (33, some 33)] [] hρ (by kernel_rfl) ?_ ?_))
            · simp only [AL, EV, seval]
            · simp only [AL, EV, seval]
      · refine AW_exit (show cutK _ _ _ from cutL ⟨rfl, h⟩ (Le_can [] [] hρ (by kernel_rfl) ?_ ?_))
        · simp only [AL, EV, seval]
        · simp only [AL, EV, seval]
  · rintro S ⟨rfl, h⟩
    unfold i_CliffordWord_j1 at h
    refine AW_rs (BR := BR) FM (by rw [hN]; kernel_rfl) (by kernel_rfl) ?_
    intro K hK
    simp only [EV, seval]
    refine hK _ _ _ ?_
    clear hK K
    injection h with h
    subst h
    refine AW_le (Le_can (lt := [(2, .sl (encL EIIII ([])) 0), (3, .bool false)]) (lr := []) (b' := 64) [] [] hρ (by kernel_rfl) ?_ ?_) (AW_ret (end_q [] (.inr rfl) (by kernel_rfl) (by kernel_rfl) ?_))
    · simp only [AL, EV, seval]
    · simp only [AL, EV, seval]
    · simp only [EV, Try.results18, seval]
/- impl.CosetRepresentative -/
def i_CosetRepresentative (a1 : Int) : Option (LQ) :=
  br (a1 == 1) (bO (i_one 4 0) fun x1 => some ([(x1.1, x1.2.1, x1.2.2.1, x1.2.2.2)])) (br (a1 == 2) (bO (i_one 6 0) fun x2 => bO (i_one 4 0) fun x3 => some ([(x2.1, x2.2.1, x2.2.2.1, x2.2.2.2), (x3.1, x3.2.1, x3.2.2.1, x3.2.2.2)])) (some ([])))
set_option maxHeartbeats 4000000 in
theorem i_CosetRepresentative_ok {a1 : Int} {r : LQ} (h : i_CosetRepresentative a1 = some r) :
    Spec Try.prog 36 [.int .i64 a1] [] (.own 0 r.length) [.row 49 4 (encL EIIII r)] := by
  unfold i_CosetRepresentative at h
  refine spec_of Try.func36 rfl (by kernel_rfl) (by simp only [Try.ntmps36, List.length_cons, List.length_nil, Nat.reduceAdd, Nat.reduceLeDiff]) ?_
  intro C hN hρ
  rw [Try.ntmps36] at hN
  unfold st0
  simp only [tmps0, Nat.zero_add, Nat.reduceAdd]
  refine AW_rs (BR := BR) FM (by rw [hN]; kernel_rfl) (by kernel_rfl) ?_
  intro K hK
  simp only [EV, seval]
  refine hK _ _ _ ?_
  clear hK K
  refine AW_seq ?_
  refine AW_rs (BR := BR) FM (by rw [hN]; kernel_rfl) (by kernel_rfl) ?_
  intro K hK
  simp only [EV, seval]
  refine hK _ _ _ ?_
  clear hK K
  refine AW_block ?_
  refine AW_rs (BR := BR) FM (by rw [hN]; kernel_rfl) (by kernel_rfl) ?_
  intro K hK
  simp only [EV, seval]
  refine hK _ _ _ ?_
  clear hK K
  refine AW_condK (a := .bool (a1 == 1)) (by simp only [EV, seval]) (brK h (fun hc1 h => ?_) (fun hc1 h => ?_))
  · refine AW_rs (BR := BR) FM (by rw [hN]; kernel_rfl) (by kernel_rfl) ?_
    intro K hK
    obtain ⟨x1, h1, h⟩ := bO_inv h
    simp only [EV, seval]
    refine rC_p (i_one_ok h1) (by simp only [AL, EV, seval]) (le_d rfl) (no_j rfl) ?_
    simp only [EV, seval]
    refine hK _ _ _ ?_
    clear hK K
    injection h with h
    subst h
    refine AW_le (Le_can (lt := [(2, .own 32 ([(x1.1, x1.2.1, x1.2.2.1, x1.2.2.2)]).length)]) (lr := [(32, .row 49 4 (encL EIIII ([(x1.1, x1.2.1, x1.2.2.1, x1.2.2.2)])))]) (b' := 64) [(32, some 3152)] [] hρ (by kernel_rfl) ?_ ?_) (AW_ret (end_q [32] (.inr rfl) (by kernel_rfl) (by kernel_rfl) ?_))
    · simp only [AL, EV, seval]
    · simp only [AL, EV, seval]
    · simp only [EV, Try.results36, seval]
  · refine AW_rs (BR := BR) FM (by rw [hN]; kernel_rfl) (by kernel_rfl) ?_
    intro K hK
    simp only [EV, seval]
    refine hK _ _ _ ?_
    clear hK K
    refine AW_condK (a := .bool (a1 == 2)) (by simp only [EV, seval]) (brK h (fun hc2 h => ?_) (fun hc2 h => ?_))
    · refine AW_rs (BR := BR) FM (by rw [hN]; kernel_rfl) (by kernel_rfl) ?_
      intro K hK
      obtain ⟨x2, h2, h⟩ := bO_inv h
      simp only [EV, seval]
      refine rC_p (i_one_ok h2) (by simp only [AL, EV, seval]) (le_d rfl) (no_j rfl) ?_
      obtain ⟨x3, h3, h⟩ := bO_inv h
      simp only [EV, seval]
      refine rC_p (i_one_ok h3) (by simp only [AL, EV, seval]) (le_d rfl) (no_j rfl) ?_
      simp only [EV, seval]
      refine hK _ _ _ ?_
      clear hK K
      injection h with h
      subst h
      refine AW_le (Le_can (lt := [(2, .own 32 ([(x2.1, x2.2.1, x2.2.2.1, x2.2.2.2), (x3.1, x3.2.1, x3.2.2.1, x3.2.2.2)]).length)]) (lr := [(32, .row 49 4 (encL EIIII ([(x2.1, x2.2.1, x2.2.2.1, x2.2.2.2), (x3.1, x3.2.1, x3.2.2.1, x3.2.2.2)])))]) (b' := 64) [(32, some 4192)] [] hρ (by kernel_rfl) ?_ ?_) (AW_ret (end_q [32] (.inr rfl) (by kernel_rfl) (by kernel_rfl) ?_))
      · simp only [AL, EV, seval]
      · simp only [AL, EV, seval]
      · simp only [EV, Try.results36, seval]
    · refine AW_skip (show AW _ _ _ _ _ from ?_)
      refine AW_rs (BR := BR) FM (by rw [hN]; kernel_rfl) (by kernel_rfl) ?_
      intro K hK
      simp only [EV, seval]
      refine hK _ _ _ ?_
      clear hK K
      injection h with h
      subst h
      refine AW_le (Le_can (lt := [(2, .own 32 0)]) (lr := [(32, .row 49 4 (encL EIIII ([])))]) (b' := 64) [(32, none)] [] hρ (by kernel_rfl) ?_ ?_) (AW_ret (end_q [32] (.inr rfl) (by kernel_rfl) (by kernel_rfl) ?_))
      · simp only [AL, EV, seval]
      · simp only [AL, EV, seval]
      · simp only [EV, Try.results36, seval]
end Go.Proofs.Ytcclapenpaediaa
