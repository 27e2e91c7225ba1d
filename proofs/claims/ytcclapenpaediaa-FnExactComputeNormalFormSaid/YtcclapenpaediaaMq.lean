/- Models of functions, and that the functions do what the models say; printed by a program. -/
import Derived.Test.YtcclapenpaediaaGn
namespace Go.Proofs.Ytcclapenpaediaa
open Go.RowKit
set_option maxRecDepth 100000
set_option linter.unusedVariables false
set_option linter.unusedSimpArgs false
set_option linter.defProp false
/- laws.markPauliS -/
def l_markPauliS_j1 (v7 : LQ) (v8 : Int) : Option (Int × LQ) :=
  some (v8, v7)
def l_markPauliS_l1 : Nat → (LQ) → Int → Int → Option (Int × LQ)
  | 0, _, _, _ => none
  | n1 + 1, v4, v5, v6 =>
  br (decide (v6 < ((v4.length : Int)))) (bO (geti v4 v6) fun q9 => bO (geti (v4.set (Int.toNat v6) ((v5, q9.2.1, q9.2.2.1, q9.2.2.2))) v6) fun q10 => bO (geti ((v4.set (Int.toNat v6) ((v5, q9.2.1, q9.2.2.1, q9.2.2.2))).set (Int.toNat v6) ((q10.1, IntKind.wrap .i64 (v5 + 1), q10.2.2.1, q10.2.2.2))) v6) fun q11 => bO (geti (((v4.set (Int.toNat v6) ((v5, q9.2.1, q9.2.2.1, q9.2.2.2))).set (Int.toNat v6) ((q10.1, IntKind.wrap .i64 (v5 + 1), q10.2.2.1, q10.2.2.2))).set (Int.toNat v6) ((q11.1, q11.2.1, IntKind.wrap .i64 ((IntKind.wrap .i64 (v5 + 1)) + 1), q11.2.2.2))) v6) fun q12 => (l_markPauliS_l1 n1) ((((v4.set (Int.toNat v6) ((v5, q9.2.1, q9.2.2.1, q9.2.2.2))).set (Int.toNat v6) ((q10.1, IntKind.wrap .i64 (v5 + 1), q10.2.2.1, q10.2.2.2))).set (Int.toNat v6) ((q11.1, q11.2.1, IntKind.wrap .i64 ((IntKind.wrap .i64 (v5 + 1)) + 1), q11.2.2.2))).set (Int.toNat v6) ((q12.1, q12.2.1, q12.2.2.1, IntKind.wrap .i64 ((IntKind.wrap .i64 ((IntKind.wrap .i64 (v5 + 1)) + 1)) + 1)))) (IntKind.wrap .i64 ((IntKind.wrap .i64 ((IntKind.wrap .i64 ((IntKind.wrap .i64 (v5 + 1)) + 1)) + 1)) + 1)) (IntKind.wrap .i64 (v6 + 1))) (l_markPauliS_j1 v4 v5)
def l_markPauliS (a1 : LQ) (a2 : Int) : Option (Int × LQ) :=
  l_markPauliS_l1 FU a1 a2 0
set_option maxHeartbeats 4000000 in
theorem l_markPauliS_ok {a1 : LQ} {a2 : Int} {r : Int × LQ} (h : l_markPauliS a1 a2 = some r) :
    Spec Try.prog 75 [.own 0 a1.length, .int .i64 a2] [.row 113 4 (encL EIIII a1)] (.int .i64 r.1) [.row 113 4 (encL EIIII r.2)] := by
  unfold l_markPauliS at h
  refine spec_of Try.func75 rfl (by kernel_rfl) (by simp only [Try.ntmps75, List.length_cons, List.length_nil, Nat.reduceAdd, Nat.reduceLeDiff]) ?_
  intro C hN hρ
  rw [Try.ntmps75] at hN
  unfold st0
  simp only [tmps0, Nat.zero_add, Nat.reduceAdd]
  refine AW_rs (BR := BR) FM (by rw [hN]; kernel_rfl) (by kernel_rfl) ?_
  intro K hK
  simp only [EV, seval]
  refine hK _ _ _ ?_
  clear hK K
  refine AW_cutK (fun S => ∃ (v7 : LQ) (v8 : Int), S = ⟨mkT [(1, .int .i64 v8)], mkR [(0, .row 113 4 (encL EIIII v7))], 64⟩ ∧ l_markPauliS_j1 v7 v8 = some r) ?_ ?_
  · refine AW_rs (BR := BR) FM (by rw [hN]; kernel_rfl) (by kernel_rfl) ?_
    intro K hK
    simp only [EV, seval]
    refine hK _ _ _ ?_
    clear hK K
    refine AW_block ?_
    refine AW_loopF (fun n S => ∃ (v4 : LQ) (v5 : Int) (v6 : Int), S = ⟨mkT [(0, .own 0 v4.length), (1, .int .i64 v5), (5, .int .i64 v6)], mkR [(0, .row 113 4 (encL EIIII v4))], 64⟩ ∧ l_markPauliS_l1 n v4 v5 v6 = some r) FU ?_ ?_ ?_
    · refine cutL ⟨_, _, _, rfl, h⟩ (Le_can [(0, some 0)] [] hρ (by kernel_rfl) ?_ ?_)
      · simp only [AL, EV, seval]
      · simp only [AL, EV, seval]
    · rintro S ⟨_, _, _, _, h⟩; rw [l_markPauliS_l1] at h; cases h
    · rintro n1 S ⟨v4, v5, v6, rfl, h⟩
      rw [l_markPauliS_l1] at h
      refine AW_seq ?_
      refine AW_rs (BR := BR) FM (by rw [hN]; kernel_rfl) (by kernel_rfl) ?_
      intro K hK
      simp only [EV, seval]
      refine hK _ _ _ ?_
      clear hK K
      refine AW_condK (a := .bool (decide (v6 < ((v4.length : Int))))) (by simp only [EV, seval]) (brK h (fun hc3 h => ?_) (fun hc3 h => ?_))
      · refine AW_skip (show AW _ _ _ _ _ from ?_)
        refine AW_seq ?_
        refine AW_block ?_
        refine AW_rs (BR := BR) FM (by rw [hN]; kernel_rfl) (by kernel_rfl) ?_
        intro K hK
        obtain ⟨q9, h25, h⟩ := bO_inv h
        obtain ⟨⟨h26a, h26b⟩, h26c⟩ := geti_E EIIIIl h25
        try simp only [EV, seval] at h26c
        have h27 := set_E EIIIIl ((v5, q9.2.1, q9.2.2.1, q9.2.2.2)) 0 [.int .i64 v5] h25 (Nat.le_of_ble_eq_true rfl) rfl
        obtain ⟨h27a, h27b⟩ := h27
        try simp only [EV, seval] at h27a
        try simp only [EV, seval] at h27b
        simp only [EV, seval, h26a, h26b, h26c, h27a, h27b]
        refine hK _ _ _ ?_
        clear hK K
        refine AW_rs (BR := BR) FM (by rw [hN]; kernel_rfl) (by kernel_rfl) ?_
        intro K hK
        simp only [EV, seval]
        refine hK _ _ _ ?_
        clear hK K
        refine AW_rs (BR := BR) FM (by rw [hN]; kernel_rfl) (by kernel_rfl) ?_
        intro K hK
        obtain ⟨q10, h28, h⟩ := bO_inv h
        obtain ⟨⟨h29a, h29b⟩, h29c⟩ := geti_E EIIIIl h28
        try simp only [EV, seval] at h29c
        try simp only [EV, seval] at h29b
        have h30 := set_E EIIIIl ((q10.1, IntKind.wrap .i64 (v5 + 1), q10.2.2.1, q10.2.2.2)) 1 [.int .i64 (IntKind.wrap .i64 (v5 + 1))] h28 (Nat.le_of_ble_eq_true rfl) rfl
        obtain ⟨h30a, h30b⟩ := h30
        try simp only [EV, seval] at h30a
        try simp only [EV, seval] at h30b
        simp only [EV, seval, h29a, h29b, h29c, h30a, h30b]
        refine hK _ _ _ ?_
        clear hK K
        refine AW_rs (BR := BR) FM (by rw [hN]; kernel_rfl) (by kernel_rfl) ?_
        intro K hK
        simp only [EV, seval]
        refine hK _ _ _ ?_
        clear hK K
        refine AW_rs (BR := BR) FM (by rw [hN]; kernel_rfl) (by kernel_rfl) ?_
        intro K hK
        obtain ⟨q11, h31, h⟩ := bO_inv h
        obtain ⟨⟨h32a, h32b⟩, h32c⟩ := geti_E EIIIIl h31
        try simp only [EV, seval] at h32c
        try simp only [EV, seval] at h32b
        have h33 := set_E EIIIIl ((q11.1, q11.2.1, IntKind.wrap .i64 ((IntKind.wrap .i64 (v5 + 1)) + 1), q11.2.2.2)) 2 [.int .i64 (IntKind.wrap .i64 ((IntKind.wrap .i64 (v5 + 1)) + 1))] h31 (Nat.le_of_ble_eq_true rfl) rfl
        obtain ⟨h33a, h33b⟩ := h33
        try simp only [EV, seval] at h33a
        try simp only [EV, seval] at h33b
        simp only [EV, seval, h32a, h32b, h32c, h33a, h33b]
        refine hK _ _ _ ?_
        clear hK K
        refine AW_rs (BR := BR) FM (by rw [hN]; kernel_rfl) (by kernel_rfl) ?_
        intro K hK
        simp only [EV, seval]
        refine hK _ _ _ ?_
        clear hK K
        refine AW_rs (BR := BR) FM (by rw [hN]; kernel_rfl) (by kernel_rfl) ?_
        intro K hK
        obtain ⟨q12, h34, h⟩ := bO_inv h
        obtain ⟨⟨h35a, h35b⟩, h35c⟩ := geti_E EIIIIl h34
        try simp only [EV, seval] at h35c
        try simp only [EV, seval] at h35b
        have h36 := set_E EIIIIl ((q12.1, q12.2.1, q12.2.2.1, IntKind.wrap .i64 ((IntKind.wrap .i64 ((IntKind.wrap .i64 (v5 + 1)) + 1)) + 1))) 3 [.int .i64 (IntKind.wrap .i64 ((IntKind.wrap .i64 ((IntKind.wrap .i64 (v5 + 1)) + 1)) + 1))] h34 (Nat.le_of_ble_eq_true rfl) rfl
        obtain ⟨h36a, h36b⟩ := h36
        try simp only [EV, seval] at h36a
        try simp only [EV, seval] at h36b
        simp only [EV, seval, h35a, h35b, h35c, h36a, h36b]
        refine hK _ _ _ ?_
        clear hK K
        refine AW_re (BR := BR) FM (by rw [hN]; kernel_rfl) (by kernel_rfl) ?_
        intro K hK
        simp only [EV, seval]
        refine hK _ _ _ (show AW _ _ _ _ _ from ?_)
        refine AW_re (BR := BR) FM (by rw [hN]; kernel_rfl) (by kernel_rfl) ?_
        intro K hK
        simp only [EV, seval]
        refine hK _ _ _ (show cutK _ _ _ from cutL ⟨_, _, _, rfl, h⟩ (Le_can [(0, some 0)] [] hρ (by kernel_rfl) ?_ ?_))
        · simp only [AL, EV, seval]
        · simp only [AL, EV, seval]
      · refine AW_exit (show cutK _ _ _ from cutL ⟨_, _, rfl, h⟩ (Le_can [(0, some 0)] [] hρ (by kernel_rfl) ?_ ?_))
        · simp only [AL, EV, seval]
        · simp only [AL, EV, seval]
  · rintro S ⟨v7, v8, rfl, h⟩
    unfold l_markPauliS_j1 at h
    refine AW_rs (BR := BR) FM (by rw [hN]; kernel_rfl) (by kernel_rfl) ?_
    intro K hK
    simp only [EV, seval]
    refine hK _ _ _ ?_
    clear hK K
    injection h with h
    subst h
    refine AW_le (Le_can (lt := [(4, .int .i64 v8)]) (lr := [(0, .row 113 4 (encL EIIII v7))]) (b' := 64) [(0, some 0)] [] hρ (by kernel_rfl) ?_ ?_) (AW_ret (end_q [0] (.inr rfl) (by kernel_rfl) (by kernel_rfl) ?_))
    · simp only [AL, EV, seval]
    · simp only [AL, EV, seval]
    · simp only [EV, Try.results75, seval]
/- laws.heldPauliS -/
def l_heldPauliS_j1 (v5 : Int) : Option Int :=
  some v5
def l_heldPauliS_l1 (a1 : LQ) : Nat → Int → Int → Option Int
  | 0, _, _ => none
  | n1 + 1, v3, v4 =>
  br (decide (v4 < ((a1.length : Int)))) (bO (geti a1 v4) fun q3 => br (q3.1 != v3) (some (-1)) (br (q3.2.1 != (IntKind.wrap .i64 (v3 + 1))) (some (-1)) (br (q3.2.2.1 != (IntKind.wrap .i64 ((IntKind.wrap .i64 (v3 + 1)) + 1))) (some (-1)) (br (q3.2.2.2 != (IntKind.wrap .i64 ((IntKind.wrap .i64 ((IntKind.wrap .i64 (v3 + 1)) + 1)) + 1))) (some (-1)) ((l_heldPauliS_l1 a1 n1) (IntKind.wrap .i64 ((IntKind.wrap .i64 ((IntKind.wrap .i64 ((IntKind.wrap .i64 (v3 + 1)) + 1)) + 1)) + 1)) (IntKind.wrap .i64 (v4 + 1))))))) (l_heldPauliS_j1 v3)
def l_heldPauliS (a1 : LQ) (a2 : Int) : Option Int :=
  l_heldPauliS_l1 a1 FU a2 0
set_option maxHeartbeats 4000000 in
theorem l_heldPauliS_ok {a1 : LQ} {a2 : Int} {r : Int} (h : l_heldPauliS a1 a2 = some r) :
    Spec Try.prog 153 [.sl (encL EIIII a1) a1.length, .int .i64 a2] [] (.int .i64 r) [] := by
  unfold l_heldPauliS at h
  refine spec_of Try.func153 rfl (by kernel_rfl) (by simp only [Try.ntmps153, List.length_cons, List.length_nil, Nat.reduceAdd, Nat.reduceLeDiff]) ?_
  intro C hN hρ
  rw [Try.ntmps153] at hN
  unfold st0
  simp only [tmps0, Nat.zero_add, Nat.reduceAdd]
  refine AW_rs (BR := BR) FM (by rw [hN]; kernel_rfl) (by kernel_rfl) ?_
  intro K hK
  simp only [EV, seval]
  refine hK _ _ _ ?_
  clear hK K
  refine AW_cutK (fun S => ∃ (v5 : Int), S = ⟨mkT [(1, .int .i64 v5)], mkR [], 64⟩ ∧ l_heldPauliS_j1 v5 = some r) ?_ ?_
  · refine AW_rs (BR := BR) FM (by rw [hN]; kernel_rfl) (by kernel_rfl) ?_
    intro K hK
    simp only [EV, seval]
    refine hK _ _ _ ?_
    clear hK K
    refine AW_block ?_
    refine AW_loopF (fun n S => ∃ (v3 : Int) (v4 : Int), S = ⟨mkT [(0, .sl (encL EIIII a1) a1.length), (1, .int .i64 v3), (5, .int .i64 v4)], mkR [], 64⟩ ∧ l_heldPauliS_l1 a1 n v3 v4 = some r) FU ?_ ?_ ?_
    · refine cutL ⟨_, _, rfl, h⟩ (Le_can [] [] hρ (by kernel_rfl) ?_ ?_)
      · simp only [AL, EV, seval]
      · simp only [AL, EV, seval]
    · rintro S ⟨_, _, _, h⟩; rw [l_heldPauliS_l1] at h; cases h
    · rintro n1 S ⟨v3, v4, rfl, h⟩
      rw [l_heldPauliS_l1] at h
      refine AW_seq ?_
      refine AW_rs (BR := BR) FM (by rw [hN]; kernel_rfl) (by kernel_rfl) ?_
      intro K hK
      simp only [EV, seval]
      refine hK _ _ _ ?_
      clear hK K
      refine AW_condK (a := .bool (decide (v4 < ((a1.length : Int))))) (by simp only [EV, seval]) (brK h (fun hc11 h => ?_) (fun hc11 h => ?_))
      · refine AW_skip (show AW _ _ _ _ _ from ?_)
        refine AW_seq ?_
        refine AW_block ?_
        refine AW_seq ?_
        refine AW_rs (BR := BR) FM (by rw [hN]; kernel_rfl) (by kernel_rfl) ?_
        intro K hK
        obtain ⟨q3, h5, h⟩ := bO_inv h
        obtain ⟨⟨h6a, h6b⟩, h6c⟩ := geti_E EIIIIl h5
        try simp only [EV, seval] at h6c
        simp only [EV, seval, h6a, h6b, h6c]
        refine hK _ _ _ ?_
        clear hK K
        refine AW_condK (a := .bool (q3.1 != v3)) (by simp only [EV, seval, h6a, h6b, h6c]) (brK h (fun hc12 h => ?_) (fun hc12 h => ?_))
        · refine AW_rs (BR := BR) FM (by rw [hN]; kernel_rfl) (by kernel_rfl) ?_
          intro K hK
          simp only [EV, seval]
          refine hK _ _ _ ?_
          clear hK K
          injection h with h
          subst h
          refine AW_le (Le_can (lt := [(4, .int .i64 (-1))]) (lr := []) (b' := 64) [] [] hρ (by kernel_rfl) ?_ ?_) (AW_ret (end_q [] (.inr rfl) (by kernel_rfl) (by kernel_rfl) ?_))
          · simp only [AL, EV, seval]
          · simp only [AL, EV, seval]
          · simp only [EV, Try.results153, seval]
        · refine AW_skip (show AW _ _ _ _ _ from ?_)
          refine AW_rs (BR := BR) FM (by rw [hN]; kernel_rfl) (by kernel_rfl) ?_
          intro K hK
          simp only [EV, seval]
          refine hK _ _ _ ?_
          clear hK K
          refine AW_seq ?_
          refine AW_rs (BR := BR) FM (by rw [hN]; kernel_rfl) (by kernel_rfl) ?_
          intro K hK
          simp only [EV, seval, h6a, h6b, h6c]
          refine hK _ _ _ ?_
          clear hK K
          refine AW_condK (a := .bool (q3.2.1 != (IntKind.wrap .i64 (v3 + 1)))) (by simp only [EV, seval, h6a, h6b, h6c]) (brK h (fun hc13 h => ?_) (fun hc13 h => ?_))
          · refine AW_rs (BR := BR) FM (by rw [hN]; kernel_rfl) (by kernel_rfl) ?_
            intro K hK
            simp only [EV, seval]
            refine hK _ _ _ ?_
            clear hK K
            injection h with h
            subst h
            refine AW_le (Le_can (lt := [(4, .int .i64 (-1))]) (lr := []) (b' := 64) [] [] hρ (by kernel_rfl) ?_ ?_) (AW_ret (end_q [] (.inr rfl) (by kernel_rfl) (by kernel_rfl) ?_))
            · simp only [AL, EV, seval]
            · simp only [AL, EV, seval]
            · simp only [EV, Try.results153, seval]
          · refine AW_skip (show AW _ _ _ _ _ from ?_)
            refine AW_rs (BR := BR) FM (by rw [hN]; kernel_rfl) (by kernel_rfl) ?_
            intro K hK
            simp only [EV, seval]
            refine hK _ _ _ ?_
            clear hK K
            refine AW_seq ?_
            refine AW_rs (BR := BR) FM (by rw [hN]; kernel_rfl) (by kernel_rfl) ?_
            intro K hK
            simp only [EV, seval, h6a, h6b, h6c]
            refine hK _ _ _ ?_
            clear hK K
            refine AW_condK (a := .bool (q3.2.2.1 != (IntKind.wrap .i64 ((IntKind.wrap .i64 (v3 + 1)) + 1)))) (by simp only [EV, seval, h6a, h6b, h6c]) (brK h (fun hc14 h => ?_) (fun hc14 h => ?_))
            · refine AW_rs (BR := BR) FM (by rw [hN]; kernel_rfl) (by kernel_rfl) ?_
              intro K hK
              simp only [EV, seval]
              refine hK _ _ _ ?_
              clear hK K
              injection h with h
              subst h
              refine AW_le (Le_can (lt := [(4, .int .i64 (-1))]) (lr := []) (b' := 64) [] [] hρ (by kernel_rfl) ?_ ?_) (AW_ret (end_q [] (.inr rfl) (by kernel_rfl) (by kernel_rfl) ?_))
              · simp only [AL, EV, seval]
              · simp only [AL, EV, seval]
              · simp only [EV, Try.results153, seval]
            · refine AW_skip (show AW _ _ _ _ _ from ?_)
              refine AW_rs (BR := BR) FM (by rw [hN]; kernel_rfl) (by kernel_rfl) ?_
              intro K hK
              simp only [EV, seval]
              refine hK _ _ _ ?_
              clear hK K
              refine AW_seq ?_
              refine AW_rs (BR := BR) FM (by rw [hN]; kernel_rfl) (by kernel_rfl) ?_
              intro K hK
              simp only [EV, seval, h6a, h6b, h6c]
              refine hK _ _ _ ?_
              clear hK K
              refine AW_condK (a := .bool (q3.2.2.2 != (IntKind.wrap .i64 ((IntKind.wrap .i64 ((IntKind.wrap .i64 (v3 + 1)) + 1)) + 1)))) (by simp only [EV, seval, h6a, h6b, h6c]) (brK h (fun hc15 h => ?_) (fun hc15 h => ?_))
              · refine AW_rs (BR := BR) FM (by rw [hN]; kernel_rfl) (by kernel_rfl) ?_
                intro K hK
                simp only [EV, seval]
                refine hK _ _ _ ?_
                clear hK K
                injection h with h
                subst h
                refine AW_le (Le_can (lt := [(4, .int .i64 (-1))]) (lr := []) (b' := 64) [] [] hρ (by kernel_rfl) ?_ ?_) (AW_ret (end_q [] (.inr rfl) (by kernel_rfl) (by kernel_rfl) ?_))
                · simp only [AL, EV, seval]
                · simp only [AL, EV, seval]
                · simp only [EV, Try.results153, seval]
              · refine AW_skip (show AW _ _ _ _ _ from ?_)
                refine AW_re (BR := BR) FM (by rw [hN]; kernel_rfl) (by kernel_rfl) ?_
                intro K hK
                simp only [EV, seval]
                refine hK _ _ _ (show AW _ _ _ _ _ from ?_)
                refine AW_re (BR := BR) FM (by rw [hN]; kernel_rfl) (by kernel_rfl) ?_
                intro K hK
                simp only [EV, seval]
                refine hK _ _ _ (show cutK _ _ _ from cutL ⟨_, _, rfl, h⟩ (Le_can [] [] hρ (by kernel_rfl) ?_ ?_))
                · simp only [AL, EV, seval]
                · simp only [AL, EV, seval]
      · refine AW_exit (show cutK _ _ _ from cutL ⟨_, rfl, h⟩ (Le_can [] [] hρ (by kernel_rfl) ?_ ?_))
        · simp only [AL, EV, seval]
        · simp only [AL, EV, seval]
  · rintro S ⟨v5, rfl, h⟩
    unfold l_heldPauliS_j1 at h
    refine AW_rs (BR := BR) FM (by rw [hN]; kernel_rfl) (by kernel_rfl) ?_
    intro K hK
    simp only [EV, seval]
    refine hK _ _ _ ?_
    clear hK K
    injection h with h
    subst h
    refine AW_le (Le_can (lt := [(4, .int .i64 v5)]) (lr := []) (b' := 64) [] [] hρ (by kernel_rfl) ?_ ?_) (AW_ret (end_q [] (.inr rfl) (by kernel_rfl) (by kernel_rfl) ?_))
    · simp only [AL, EV, seval]
    · simp only [AL, EV, seval]
    · simp only [EV, Try.results153, seval]
/- laws.markTableau -/
def l_markTableau (a1 : Int) (a2 : LQ) (a3 : Int) : Option (Int × LQ) :=
  bO (l_markPauliS a2 a3) fun x1 => gd (decide (x1.2.length = a2.length)) (some (x1.1, x1.2))
set_option maxHeartbeats 4000000 in
theorem l_markTableau_ok {a1 : Int} {a2 : LQ} {a3 : Int} {r : Int × LQ} (h : l_markTableau a1 a2 a3 = some r) :
    Spec Try.prog 21 [.agg [.int .i64 a1, .own 0 a2.length], .int .i64 a3] [.row 113 4 (encL EIIII a2)] (.int .i64 r.1) [.row 113 4 (encL EIIII r.2)] := by
  unfold l_markTableau at h
  refine spec_of Try.func21 rfl (by kernel_rfl) (by simp only [Try.ntmps21, List.length_cons, List.length_nil, Nat.reduceAdd, Nat.reduceLeDiff]) ?_
  intro C hN hρ
  rw [Try.ntmps21] at hN
  unfold st0
  simp only [tmps0, Nat.zero_add, Nat.reduceAdd]
  refine AW_rs (BR := BR) FM (by rw [hN]; kernel_rfl) (by kernel_rfl) ?_
  intro K hK
  simp only [EV, seval]
  refine hK _ _ _ ?_
  clear hK K
  refine AW_rs (BR := BR) FM (by rw [hN]; kernel_rfl) (by kernel_rfl) ?_
  intro K hK
  obtain ⟨x1, h1, h⟩ := bO_inv h
  simp only [EV, seval]
  obtain ⟨h2, h⟩ := gd_inv h
  replace h2 := of_decide_eq_true h2
  refine rR_p [0] (l_markPauliS_ok h1) (by simp only [AL, EV, seval, h2]) (by simp only [AL, EV, seval, h2]) (by kernel_rfl) (by simp only [EV, solidO, List.mem_cons, List.not_mem_nil, or_false, forall_eq_or_imp, forall_eq, seval]) (le_d rfl) (le_d rfl) (no_j rfl) ?_
  simp only [EV, seval, h2]
  refine hK _ _ _ ?_
  clear hK K
  refine AW_rs (BR := BR) FM (by rw [hN]; kernel_rfl) (by kernel_rfl) ?_
  intro K hK
  simp only [EV, seval, h2]
  refine hK _ _ _ ?_
  clear hK K
  injection h with h
  subst h
  refine AW_le (Le_can (lt := [(4, .int .i64 x1.1)]) (lr := [(0, .row 113 4 (encL EIIII x1.2))]) (b' := 64) [(0, some 0)] [] hρ (by kernel_rfl) ?_ ?_) (AW_ret (end_q [0] (.inr rfl) (by kernel_rfl) (by kernel_rfl) ?_))
  · simp only [AL, EV, seval, h2]
  · simp only [AL, EV, seval, h2]
  · simp only [EV, Try.results21, seval]
/- laws.heldTableau -/
def l_heldTableau (a1 : Int) (a2 : LQ) (a3 : Int) : Option Int :=
  bO (l_heldPauliS a2 a3) fun x1 => br (decide (x1 < 0)) (some (-1)) (some x1)
set_option maxHeartbeats 4000000 in
theorem l_heldTableau_ok {a1 : Int} {a2 : LQ} {a3 : Int} {r : Int} (h : l_heldTableau a1 a2 a3 = some r) :
    Spec Try.prog 115 [.agg [.int .i64 a1, .sl (encL EIIII a2) a2.length], .int .i64 a3] [] (.int .i64 r) [] := by
  unfold l_heldTableau at h
  refine spec_of Try.func115 rfl (by kernel_rfl) (by simp only [Try.ntmps115, List.length_cons, List.length_nil, Nat.reduceAdd, Nat.reduceLeDiff]) ?_
  intro C hN hρ
  rw [Try.ntmps115] at hN
  unfold st0
  simp only [tmps0, Nat.zero_add, Nat.reduceAdd]
  refine AW_rs (BR := BR) FM (by rw [hN]; kernel_rfl) (by kernel_rfl) ?_
  intro K hK
  simp only [EV, seval]
  refine hK _ _ _ ?_
  clear hK K
  refine AW_rs (BR := BR) FM (by rw [hN]; kernel_rfl) (by kernel_rfl) ?_
  intro K hK
  obtain ⟨x1, h1, h⟩ := bO_inv h
  simp only [EV, seval]
  refine rC_p (l_heldPauliS_ok h1) (by simp only [AL, EV, seval]) (le_d rfl) (no_j rfl) ?_
  simp only [EV, seval]
  refine hK _ _ _ ?_
  clear hK K
  refine AW_seq ?_
  refine AW_rs (BR := BR) FM (by rw [hN]; kernel_rfl) (by kernel_rfl) ?_
  intro K hK
  simp only [EV, seval]
  refine hK _ _ _ ?_
  clear hK K
  refine AW_condK (a := .bool (decide (x1 < 0))) (by simp only [EV, seval]) (brK h (fun hc1 h => ?_) (fun hc1 h => ?_))
  · refine AW_rs (BR := BR) FM (by rw [hN]; kernel_rfl) (by kernel_rfl) ?_
    intro K hK
    simp only [EV, seval]
    refine hK _ _ _ ?_
    clear hK K
    injection h with h
    subst h
    refine AW_le (Le_can (lt := [(4, .int .i64 (-1))]) (lr := []) (b' := 64) [] [] hρ (by kernel_rfl) ?_ ?_) (AW_ret (end_q [] (.inr rfl) (by kernel_rfl) (by kernel_rfl) ?_))
    · simp only [AL, EV, seval]
    · simp only [AL, EV, seval]
    · simp only [EV, Try.results115, seval]
  · refine AW_skip (show AW _ _ _ _ _ from ?_)
    refine AW_rs (BR := BR) FM (by rw [hN]; kernel_rfl) (by kernel_rfl) ?_
    intro K hK
    simp only [EV, seval]
    refine hK _ _ _ ?_
    clear hK K
    injection h with h
    subst h
    refine AW_le (Le_can (lt := [(4, .int .i64 x1)]) (lr := []) (b' := 64) [] [] hρ (by kernel_rfl) ?_ ?_) (AW_ret (end_q [] (.inr rfl) (by kernel_rfl) (by kernel_rfl) ?_))
    · simp only [AL, EV, seval]
    · simp only [AL, EV, seval]
    · simp only [EV, Try.results115, seval]
/- laws.markGateS -/
def l_markGateS_j1 (v7 : LQ) (v8 : Int) : Option (Int × LQ) :=
  some (v8, v7)
def l_markGateS_l1 : Nat → (LQ) → Int → Int → Option (Int × LQ)
  | 0, _, _, _ => none
  | n1 + 1, v4, v5, v6 =>
  br (decide (v6 < ((v4.length : Int)))) (bO (geti v4 v6) fun q9 => bO (geti (v4.set (Int.toNat v6) ((v5, q9.2.1, q9.2.2.1, q9.2.2.2))) v6) fun q10 => bO (geti ((v4.set (Int.toNat v6) ((v5, q9.2.1, q9.2.2.1, q9.2.2.2))).set (Int.toNat v6) ((q10.1, IntKind.wrap .i64 (v5 + 1), q10.2.2.1, q10.2.2.2))) v6) fun q11 => bO (geti (((v4.set (Int.toNat v6) ((v5, q9.2.1, q9.2.2.1, q9.2.2.2))).set (Int.toNat v6) ((q10.1, IntKind.wrap .i64 (v5 + 1), q10.2.2.1, q10.2.2.2))).set (Int.toNat v6) ((q11.1, q11.2.1, IntKind.wrap .i64 ((IntKind.wrap .i64 (v5 + 1)) + 1), q11.2.2.2))) v6) fun q12 => (l_markGateS_l1 n1) ((((v4.set (Int.toNat v6) ((v5, q9.2.1, q9.2.2.1, q9.2.2.2))).set (Int.toNat v6) ((q10.1, IntKind.wrap .i64 (v5 + 1), q10.2.2.1, q10.2.2.2))).set (Int.toNat v6) ((q11.1, q11.2.1, IntKind.wrap .i64 ((IntKind.wrap .i64 (v5 + 1)) + 1), q11.2.2.2))).set (Int.toNat v6) ((q12.1, q12.2.1, q12.2.2.1, IntKind.wrap .i64 ((IntKind.wrap .i64 ((IntKind.wrap .i64 (v5 + 1)) + 1)) + 1)))) (IntKind.wrap .i64 ((IntKind.wrap .i64 ((IntKind.wrap .i64 ((IntKind.wrap .i64 (v5 + 1)) + 1)) + 1)) + 1)) (IntKind.wrap .i64 (v6 + 1))) (l_markGateS_j1 v4 v5)
def l_markGateS (a1 : LQ) (a2 : Int) : Option (Int × LQ) :=
  l_markGateS_l1 FU a1 a2 0
set_option maxHeartbeats 4000000 in
theorem l_markGateS_ok {a1 : LQ} {a2 : Int} {r : Int × LQ} (h : l_markGateS a1 a2 = some r) :
    Spec Try.prog 22 [.own 0 a1.length, .int .i64 a2] [.row 49 4 (encL EIIII a1)] (.int .i64 r.1) [.row 49 4 (encL EIIII r.2)] := by
  unfold l_markGateS at h
  refine spec_of Try.func22 rfl (by kernel_rfl) (by simp only [Try.ntmps22, List.length_cons, List.length_nil, Nat.reduceAdd, Nat.reduceLeDiff]) ?_
  intro C hN hρ
  rw [Try.ntmps22] at hN
  unfold st0
  simp only [tmps0, Nat.zero_add, Nat.reduceAdd]
  refine AW_rs (BR := BR) FM (by rw [hN]; kernel_rfl) (by kernel_rfl) ?_
  intro K hK
  simp only [EV, seval]
  refine hK _ _ _ ?_
  clear hK K
  refine AW_cutK (fun S => ∃ (v7 : LQ) (v8 : Int), S = ⟨mkT [(1, .int .i64 v8)], mkR [(0, .row 49 4 (encL EIIII v7))], 64⟩ ∧ l_markGateS_j1 v7 v8 = some r) ?_ ?_
  · refine AW_rs (BR := BR) FM (by rw [hN]; kernel_rfl) (by kernel_rfl) ?_
    intro K hK
    simp only [EV, seval]
    refine hK _ _ _ ?_
    clear hK K
    refine AW_block ?_
    refine AW_loopF (fun n S => ∃ (v4 : LQ) (v5 : Int) (v6 : Int), S = ⟨mkT [(0, .own 0 v4.length), (1, .int .i64 v5), (5, .int .i64 v6)], mkR [(0, .row 49 4 (encL EIIII v4))], 64⟩ ∧ l_markGateS_l1 n v4 v5 v6 = some r) FU ?_ ?_ ?_
    · refine cutL ⟨_, _, _, rfl, h⟩ (Le_can [(0, some 0)] [] hρ (by kernel_rfl) ?_ ?_)
      · simp only [AL, EV, seval]
      · simp only [AL, EV, seval]
    · rintro S ⟨_, _, _, _, h⟩; rw [l_markGateS_l1] at h; cases h
    · rintro n1 S ⟨v4, v5, v6, rfl, h⟩
      rw [l_markGateS_l1] at h
      refine AW_seq ?_
      refine AW_rs (BR := BR) FM (by rw [hN]; kernel_rfl) (by kernel_rfl) ?_
      intro K hK
      simp only [EV, seval]
      refine hK _ _ _ ?_
      clear hK K
      refine AW_condK (a := .bool (decide (v6 < ((v4.length : Int))))) (by simp only [EV, seval]) (brK h (fun hc3 h => ?_) (fun hc3 h => ?_))
      · refine AW_skip (show AW _ _ _ _ _ from ?_)
        refine AW_seq ?_
        refine AW_block ?_
        refine AW_rs (BR := BR) FM (by rw [hN]; kernel_rfl) (by kernel_rfl) ?_
        intro K hK
        obtain ⟨q9, h25, h⟩ := bO_inv h
        obtain ⟨⟨h26a, h26b⟩, h26c⟩ := geti_E EIIIIl h25
        try simp only [EV, seval] at h26c
        have h27 := set_E EIIIIl ((v5, q9.2.1, q9.2.2.1, q9.2.2.2)) 0 [.int .i64 v5] h25 (Nat.le_of_ble_eq_true rfl) rfl
        obtain ⟨h27a, h27b⟩ := h27
        try simp only [EV, seval] at h27a
        try simp only [EV, seval] at h27b
        simp only [EV, seval, h26a, h26b, h26c, h27a, h27b]
        refine hK _ _ _ ?_
        clear hK K
        refine AW_rs (BR := BR) FM (by rw [hN]; kernel_rfl) (by kernel_rfl) ?_
        intro K hK
        simp only [EV, seval]
        refine hK _ _ _ ?_
        clear hK K
        refine AW_rs (BR := BR) FM (by rw [hN]; kernel_rfl) (by kernel_rfl) ?_
        intro K hK
        obtain ⟨q10, h28, h⟩ := bO_inv h
        obtain ⟨⟨h29a, h29b⟩, h29c⟩ := geti_E EIIIIl h28
        try simp only [EV, seval] at h29c
        try simp only [EV, seval] at h29b
        have h30 := set_E EIIIIl ((q10.1, IntKind.wrap .i64 (v5 + 1), q10.2.2.1, q10.2.2.2)) 1 [.int .i64 (IntKind.wrap .i64 (v5 + 1))] h28 (Nat.le_of_ble_eq_true rfl) rfl
        obtain ⟨h30a, h30b⟩ := h30
        try simp only [EV, seval] at h30a
        try simp only [EV, seval] at h30b
        simp only [EV, seval, h29a, h29b, h29c, h30a, h30b]
        refine hK _ _ _ ?_
        clear hK K
        refine AW_rs (BR := BR) FM (by rw [hN]; kernel_rfl) (by kernel_rfl) ?_
        intro K hK
        simp only [EV, seval]
        refine hK _ _ _ ?_
        clear hK K
        refine AW_rs (BR := BR) FM (by rw [hN]; kernel_rfl) (by kernel_rfl) ?_
        intro K hK
        obtain ⟨q11, h31, h⟩ := bO_inv h
        obtain ⟨⟨h32a, h32b⟩, h32c⟩ := geti_E EIIIIl h31
        try simp only [EV, seval] at h32c
        try simp only [EV, seval] at h32b
        have h33 := set_E EIIIIl ((q11.1, q11.2.1, IntKind.wrap .i64 ((IntKind.wrap .i64 (v5 + 1)) + 1), q11.2.2.2)) 2 [.int .i64 (IntKind.wrap .i64 ((IntKind.wrap .i64 (v5 + 1)) + 1))] h31 (Nat.le_of_ble_eq_true rfl) rfl
        obtain ⟨h33a, h33b⟩ := h33
        try simp only [EV, seval] at h33a
        try simp only [EV, seval] at h33b
        simp only [EV, seval, h32a, h32b, h32c, h33a, h33b]
        refine hK _ _ _ ?_
        clear hK K
        refine AW_rs (BR := BR) FM (by rw [hN]; kernel_rfl) (by kernel_rfl) ?_
        intro K hK
        simp only [EV, seval]
        refine hK _ _ _ ?_
        clear hK K
        refine AW_rs (BR := BR) FM (by rw [hN]; kernel_rfl) (by kernel_rfl) ?_
        intro K hK
        obtain ⟨q12, h34, h⟩ := bO_inv h
        obtain ⟨⟨h35a, h35b⟩, h35c⟩ := geti_E EIIIIl h34
        try simp only [EV, seval] at h35c
        try simp only [EV, seval] at h35b
        have h36 := set_E EIIIIl ((q12.1, q12.2.1, q12.2.2.1, IntKind.wrap .i64 ((IntKind.wrap .i64 ((IntKind.wrap .i64 (v5 + 1)) + 1)) + 1))) 3 [.int .i64 (IntKind.wrap .i64 ((IntKind.wrap .i64 ((IntKind.wrap .i64 (v5 + 1)) + 1)) + 1))] h34 (Nat.le_of_ble_eq_true rfl) rfl
        obtain ⟨h36a, h36b⟩ := h36
        try simp only [EV, seval] at h36a
        try simp only [EV, seval] at h36b
        simp only [EV, seval, h35a, h35b, h35c, h36a, h36b]
        refine hK _ _ _ ?_
        clear hK K
        refine AW_re (BR := BR) FM (by rw [hN]; kernel_rfl) (by kernel_rfl) ?_
        intro K hK
        simp only [EV, seval]
        refine hK _ _ _ (show AW _ _ _ _ _ from ?_)
        refine AW_re (BR := BR) FM (by rw [hN]; kernel_rfl) (by kernel_rfl) ?_
        intro K hK
        simp only [EV, seval]
        refine hK _ _ _ (show cutK _ _ _ from cutL ⟨_, _, _, rfl, h⟩ (Le_can [(0, some 0)] [] hρ (by kernel_rfl) ?_ ?_))
        · simp only [AL, EV, seval]
        · simp only [AL, EV, seval]
      · refine AW_exit (show cutK _ _ _ from cutL ⟨_, _, rfl, h⟩ (Le_can [(0, some 0)] [] hρ (by kernel_rfl) ?_ ?_))
        · simp only [AL, EV, seval]
        · simp only [AL, EV, seval]
  · rintro S ⟨v7, v8, rfl, h⟩
    unfold l_markGateS_j1 at h
    refine AW_rs (BR := BR) FM (by rw [hN]; kernel_rfl) (by kernel_rfl) ?_
    intro K hK
    simp only [EV, seval]
    refine hK _ _ _ ?_
    clear hK K
    injection h with h
    subst h
    refine AW_le (Le_can (lt := [(4, .int .i64 v8)]) (lr := [(0, .row 49 4 (encL EIIII v7))]) (b' := 64) [(0, some 0)] [] hρ (by kernel_rfl) ?_ ?_) (AW_ret (end_q [0] (.inr rfl) (by kernel_rfl) (by kernel_rfl) ?_))
    · simp only [AL, EV, seval]
    · simp only [AL, EV, seval]
    · simp only [EV, Try.results22, seval]
/- laws.heldGateS -/
def l_heldGateS_j1 (v5 : Int) : Option Int :=
  some v5
def l_heldGateS_l1 (a1 : LQ) : Nat → Int → Int → Option Int
  | 0, _, _ => none
  | n1 + 1, v3, v4 =>
  br (decide (v4 < ((a1.length : Int)))) (bO (geti a1 v4) fun q3 => br (q3.1 != v3) (some (-1)) (br (q3.2.1 != (IntKind.wrap .i64 (v3 + 1))) (some (-1)) (br (q3.2.2.1 != (IntKind.wrap .i64 ((IntKind.wrap .i64 (v3 + 1)) + 1))) (some (-1)) (br (q3.2.2.2 != (IntKind.wrap .i64 ((IntKind.wrap .i64 ((IntKind.wrap .i64 (v3 + 1)) + 1)) + 1))) (some (-1)) ((l_heldGateS_l1 a1 n1) (IntKind.wrap .i64 ((IntKind.wrap .i64 ((IntKind.wrap .i64 ((IntKind.wrap .i64 (v3 + 1)) + 1)) + 1)) + 1)) (IntKind.wrap .i64 (v4 + 1))))))) (l_heldGateS_j1 v3)
def l_heldGateS (a1 : LQ) (a2 : Int) : Option Int :=
  l_heldGateS_l1 a1 FU a2 0
set_option maxHeartbeats 4000000 in
theorem l_heldGateS_ok {a1 : LQ} {a2 : Int} {r : Int} (h : l_heldGateS a1 a2 = some r) :
    Spec Try.prog 23 [.sl (encL EIIII a1) a1.length, .int .i64 a2] [] (.int .i64 r) [] := by
  unfold l_heldGateS at h
  refine spec_of Try.func23 rfl (by kernel_rfl) (by simp only [Try.ntmps23, List.length_cons, List.length_nil, Nat.reduceAdd, Nat.reduceLeDiff]) ?_
  intro C hN hρ
  rw [Try.ntmps23] at hN
  unfold st0
  simp only [tmps0, Nat.zero_add, Nat.reduceAdd]
  refine AW_rs (BR := BR) FM (by rw [hN]; kernel_rfl) (by kernel_rfl) ?_
  intro K hK
  simp only [EV, seval]
  refine hK _ _ _ ?_
  clear hK K
  refine AW_cutK (fun S => ∃ (v5 : Int), S = ⟨mkT [(1, .int .i64 v5)], mkR [], 64⟩ ∧ l_heldGateS_j1 v5 = some r) ?_ ?_
  · refine AW_rs (BR := BR) FM (by rw [hN]; kernel_rfl) (by kernel_rfl) ?_
    intro K hK
    simp only [EV, seval]
    refine hK _ _ _ ?_
    clear hK K
    refine AW_block ?_
    refine AW_loopF (fun n S => ∃ (v3 : Int) (v4 : Int), S = ⟨mkT [(0, .sl (encL EIIII a1) a1.length), (1, .int .i64 v3), (5, .int .i64 v4)], mkR [], 64⟩ ∧ l_heldGateS_l1 a1 n v3 v4 = some r) FU ?_ ?_ ?_
    · refine cutL ⟨_, _, rfl, h⟩ (Le_can [] [] hρ (by kernel_rfl) ?_ ?_)
      · simp only [AL, EV, seval]
      · simp only [AL, EV, seval]
    · rintro S ⟨_, _, _, h⟩; rw [l_heldGateS_l1] at h; cases h
    · rintro n1 S ⟨v3, v4, rfl, h⟩
      rw [l_heldGateS_l1] at h
      refine AW_seq ?_
      refine AW_rs (BR := BR) FM (by rw [hN]; kernel_rfl) (by kernel_rfl) ?_
      intro K hK
      simp only [EV, seval]
      refine hK _ _ _ ?_
      clear hK K
      refine AW_condK (a := .bool (decide (v4 < ((a1.length : Int))))) (by simp only [EV, seval]) (brK h (fun hc11 h => ?_) (fun hc11 h => ?_))
      · refine AW_skip (show AW _ _ _ _ _ from ?_)
        refine AW_seq ?_
        refine AW_block ?_
        refine AW_seq ?_
        refine AW_rs (BR := BR) FM (by rw [hN]; kernel_rfl) (by kernel_rfl) ?_
        intro K hK
        obtain ⟨q3, h5, h⟩ := bO_inv h
        obtain ⟨⟨h6a, h6b⟩, h6c⟩ := geti_E EIIIIl h5
        try simp only [EV, seval] at h6c
        simp only [EV, seval, h6a, h6b, h6c]
        refine hK _ _ _ ?_
        clear hK K
        refine AW_condK (a := .bool (q3.1 != v3)) (by simp only [EV, seval, h6a, h6b, h6c]) (brK h (fun hc12 h => ?_) (fun hc12 h => ?_))
        · refine AW_rs (BR := BR) FM (by rw [hN]; kernel_rfl) (by kernel_rfl) ?_
          intro K hK
          simp only [EV, seval]
          refine hK _ _ _ ?_
          clear hK K
          injection h with h
          subst h
          refine AW_le (Le_can (lt := [(4, .int .i64 (-1))]) (lr := []) (b' := 64) [] [] hρ (by kernel_rfl) ?_ ?_) (AW_ret (end_q [] (.inr rfl) (by kernel_rfl) (by kernel_rfl) ?_))
          · simp only [AL, EV, seval]
          · simp only [AL, EV, seval]
          · simp only [EV, Try.results23, seval]
        · refine AW_skip (show AW _ _ _ _ _ from ?_)
          refine AW_rs (BR := BR) FM (by rw [hN]; kernel_rfl) (by kernel_rfl) ?_
          intro K hK
          simp only [EV, seval]
          refine hK _ _ _ ?_
          clear hK K
          refine AW_seq ?_
          refine AW_rs (BR := BR) FM (by rw [hN]; kernel_rfl) (by kernel_rfl) ?_
          intro K hK
          simp only [EV, seval, h6a, h6b, h6c]
          refine hK _ _ _ ?_
          clear hK K
          refine AW_condK (a := .bool (q3.2.1 != (IntKind.wrap .i64 (v3 + 1)))) (by simp only [EV, seval, h6a, h6b, h6c]) (brK h (fun hc13 h => ?_) (fun hc13 h => ?_))
          · refine AW_rs (BR := BR) FM (by rw [hN]; kernel_rfl) (by kernel_rfl) ?_
            intro K hK
            simp only [EV, seval]
            refine hK _ _ _ ?_
            clear hK K
            injection h with h
            subst h
            refine AW_le (Le_can (lt := [(4, .int .i64 (-1))]) (lr := []) (b' := 64) [] [] hρ (by kernel_rfl) ?_ ?_) (AW_ret (end_q [] (.inr rfl) (by kernel_rfl) (by kernel_rfl) ?_))
            · simp only [AL, EV, seval]
            · simp only [AL, EV, seval]
            · simp only [EV, Try.results23, seval]
          · refine AW_skip (show AW _ _ _ _ _ from ?_)
            refine AW_rs (BR := BR) FM (by rw [hN]; kernel_rfl) (by kernel_rfl) ?_
            intro K hK
            simp only [EV, seval]
            refine hK _ _ _ ?_
            clear hK K
            refine AW_seq ?_
            refine AW_rs (BR := BR) FM (by rw [hN]; kernel_rfl) (by kernel_rfl) ?_
            intro K hK
            simp only [EV, seval, h6a, h6b, h6c]
            refine hK _ _ _ ?_
            clear hK K
            refine AW_condK (a := .bool (q3.2.2.1 != (IntKind.wrap .i64 ((IntKind.wrap .i64 (v3 + 1)) + 1)))) (by simp only [EV, seval, h6a, h6b, h6c]) (brK h (fun hc14 h => ?_) (fun hc14 h => ?_))
            · refine AW_rs (BR := BR) FM (by rw [hN]; kernel_rfl) (by kernel_rfl) ?_
              intro K hK
              simp only [EV, seval]
              refine hK _ _ _ ?_
              clear hK K
              injection h with h
              subst h
              refine AW_le (Le_can (lt := [(4, .int .i64 (-1))]) (lr := []) (b' := 64) [] [] hρ (by kernel_rfl) ?_ ?_) (AW_ret (end_q [] (.inr rfl) (by kernel_rfl) (by kernel_rfl) ?_))
              · simp only [AL, EV, seval]
              · simp only [AL, EV, seval]
              · simp only [EV, Try.results23, seval]
            · refine AW_skip (show AW _ _ _ _ _ from ?_)
              refine AW_rs (BR := BR) FM (by rw [hN]; kernel_rfl) (by kernel_rfl) ?_
              intro K hK
              simp only [EV, seval]
              refine hK _ _ _ ?_
              clear hK K
              refine AW_seq ?_
              refine AW_rs (BR := BR) FM (by rw [hN]; kernel_rfl) (by kernel_rfl) ?_
              intro K hK
              simp only [EV, seval, h6a, h6b, h6c]
              refine hK _ _ _ ?_
              clear hK K
              refine AW_condK (a := .bool (q3.2.2.2 != (IntKind.wrap .i64 ((IntKind.wrap .i64 ((IntKind.wrap .i64 (v3 + 1)) + 1)) + 1)))) (by simp only [EV, seval, h6a, h6b, h6c]) (brK h (fun hc15 h => ?_) (fun hc15 h => ?_))
              · refine AW_rs (BR := BR) FM (by rw [hN]; kernel_rfl) (by kernel_rfl) ?_
                intro K hK
                simp only [EV, seval]
                refine hK _ _ _ ?_
                clear hK K
                injection h with h
                subst h
                refine AW_le (Le_can (lt := [(4, .int .i64 (-1))]) (lr := []) (b' := 64) [] [] hρ (by kernel_rfl) ?_ ?_) (AW_ret (end_q [] (.inr rfl) (by kernel_rfl) (by kernel_rfl) ?_))
                · simp only [AL, EV, seval]
                · simp only [AL, EV, seval]
                · simp only [EV, Try.results23, seval]
              · refine AW_skip (show AW _ _ _ _ _ from ?_)
                refine AW_re (BR := BR) FM (by rw [hN]; kernel_rfl) (by kernel_rfl) ?_
                intro K hK
                simp only [EV, seval]
                refine hK _ _ _ (show AW _ _ _ _ _ from ?_)
                refine AW_re (BR := BR) FM (by rw [hN]; kernel_rfl) (by kernel_rfl) ?_
                intro K hK
                simp only [EV, seval]
                refine hK _ _ _ (show cutK _ _ _ from cutL ⟨_, _, rfl, h⟩ (Le_can [] [] hρ (by kernel_rfl) ?_ ?_))
                · simp only [AL, EV, seval]
                · simp only [AL, EV, seval]
      · refine AW_exit (show cutK _ _ _ from cutL ⟨_, rfl, h⟩ (Le_can [] [] hρ (by kernel_rfl) ?_ ?_))
        · simp only [AL, EV, seval]
        · simp only [AL, EV, seval]
  · rintro S ⟨v5, rfl, h⟩
    unfold l_heldGateS_j1 at h
    refine AW_rs (BR := BR) FM (by rw [hN]; kernel_rfl) (by kernel_rfl) ?_
    intro K hK
    simp only [EV, seval]
    refine hK _ _ _ ?_
    clear hK K
    injection h with h
    subst h
    refine AW_le (Le_can (lt := [(4, .int .i64 v5)]) (lr := []) (b' := 64) [] [] hρ (by kernel_rfl) ?_ ?_) (AW_ret (end_q [] (.inr rfl) (by kernel_rfl) (by kernel_rfl) ?_))
    · simp only [AL, EV, seval]
    · simp only [AL, EV, seval]
    · simp only [EV, Try.results23, seval]
/- laws.markCircuit -/
def l_markCircuit (a1 : Int) (a2 : LQ) (a3 : Int) : Option (Int × LQ) :=
  bO (l_markGateS a2 a3) fun x1 => gd (decide (x1.2.length = a2.length)) (some (x1.1, x1.2))
set_option maxHeartbeats 4000000 in
theorem l_markCircuit_ok {a1 : Int} {a2 : LQ} {a3 : Int} {r : Int × LQ} (h : l_markCircuit a1 a2 a3 = some r) :
    Spec Try.prog 50 [.agg [.int .i64 a1, .own 0 a2.length], .int .i64 a3] [.row 49 4 (encL EIIII a2)] (.int .i64 r.1) [.row 49 4 (encL EIIII r.2)] := by
  unfold l_markCircuit at h
  refine spec_of Try.func50 rfl (by kernel_rfl) (by simp only [Try.ntmps50, List.length_cons, List.length_nil, Nat.reduceAdd, Nat.reduceLeDiff]) ?_
  intro C hN hρ
  rw [Try.ntmps50] at hN
  unfold st0
  simp only [tmps0, Nat.zero_add, Nat.reduceAdd]
  refine AW_rs (BR := BR) FM (by rw [hN]; kernel_rfl) (by kernel_rfl) ?_
  intro K hK
  simp only [EV, seval]
  refine hK _ _ _ ?_
  clear hK K
  refine AW_rs (BR := BR) FM (by rw [hN]; kernel_rfl) (by kernel_rfl) ?_
  intro K hK
  obtain ⟨x1, h1, h⟩ := bO_inv h
  simp only [EV, seval]
  obtain ⟨h2, h⟩ := gd_inv h
  replace h2 := of_decide_eq_true h2
  refine rR_p [0] (l_markGateS_ok h1) (by simp only [AL, EV, seval, h2]) (by simp only [AL, EV, seval, h2]) (by kernel_rfl) (by simp only [EV, solidO, List.mem_cons, List.not_mem_nil, or_false, forall_eq_or_imp, forall_eq, seval]) (le_d rfl) (le_d rfl) (no_j rfl) ?_
  simp only [EV, seval, h2]
  refine hK _ _ _ ?_
  clear hK K
  refine AW_rs (BR := BR) FM (by rw [hN]; kernel_rfl) (by kernel_rfl) ?_
  intro K hK
  simp only [EV, seval, h2]
  refine hK _ _ _ ?_
  clear hK K
  injection h with h
  subst h
  refine AW_le (Le_can (lt := [(4, .int .i64 x1.1)]) (lr := [(0, .row 49 4 (encL EIIII x1.2))]) (b' := 64) [(0, some 0)] [] hρ (by kernel_rfl) ?_ ?_) (AW_ret (end_q [0] (.inr rfl) (by kernel_rfl) (by kernel_rfl) ?_))
  · simp only [AL, EV, seval, h2]
  · simp only [AL, EV, seval, h2]
  · simp only [EV, Try.results50, seval]
/- laws.markIntS -/
def l_markIntS_j1 (v7 : List Int) (v8 : Int) : Option (Int × List Int) :=
  some (v8, v7)
def l_markIntS_l1 : Nat → (List Int) → Int → Int → Option (Int × List Int)
  | 0, _, _, _ => none
  | n1 + 1, v4, v5, v6 =>
  br (decide (v6 < ((v4.length : Int)))) (bO (geti v4 v6) fun q3 => (l_markIntS_l1 n1) (v4.set (Int.toNat v6) v5) (IntKind.wrap .i64 (v5 + 1)) (IntKind.wrap .i64 (v6 + 1))) (l_markIntS_j1 v4 v5)
def l_markIntS (a1 : List Int) (a2 : Int) : Option (Int × List Int) :=
  l_markIntS_l1 FU a1 a2 0
set_option maxHeartbeats 4000000 in
theorem l_markIntS_ok {a1 : List Int} {a2 : Int} {r : Int × List Int} (h : l_markIntS a1 a2 = some r) :
    Spec Try.prog 107 [.own 0 a1.length, .int .i64 a2] [.row 3 1 (encL EI a1)] (.int .i64 r.1) [.row 3 1 (encL EI r.2)] := by
  unfold l_markIntS at h
  refine spec_of Try.func107 rfl (by kernel_rfl) (by simp only [Try.ntmps107, List.length_cons, List.length_nil, Nat.reduceAdd, Nat.reduceLeDiff]) ?_
  intro C hN hρ
  rw [Try.ntmps107] at hN
  unfold st0
  simp only [tmps0, Nat.zero_add, Nat.reduceAdd]
  refine AW_rs (BR := BR) FM (by rw [hN]; kernel_rfl) (by kernel_rfl) ?_
  intro K hK
  simp only [EV, seval]
  refine hK _ _ _ ?_
  clear hK K
  refine AW_cutK (fun S => ∃ (v7 : List Int) (v8 : Int), S = ⟨mkT [(1, .int .i64 v8)], mkR [(0, .row 3 1 (encL EI v7))], 64⟩ ∧ l_markIntS_j1 v7 v8 = some r) ?_ ?_
  · refine AW_rs (BR := BR) FM (by rw [hN]; kernel_rfl) (by kernel_rfl) ?_
    intro K hK
    simp only [EV, seval]
    refine hK _ _ _ ?_
    clear hK K
    refine AW_block ?_
    refine AW_loopF (fun n S => ∃ (v4 : List Int) (v5 : Int) (v6 : Int), S = ⟨mkT [(0, .own 0 v4.length), (1, .int .i64 v5), (5, .int .i64 v6)], mkR [(0, .row 3 1 (encL EI v4))], 64⟩ ∧ l_markIntS_l1 n v4 v5 v6 = some r) FU ?_ ?_ ?_
    · refine cutL ⟨_, _, _, rfl, h⟩ (Le_can [(0, some 0)] [] hρ (by kernel_rfl) ?_ ?_)
      · simp only [AL, EV, seval]
      · simp only [AL, EV, seval]
    · rintro S ⟨_, _, _, _, h⟩; rw [l_markIntS_l1] at h; cases h
    · rintro n1 S ⟨v4, v5, v6, rfl, h⟩
      rw [l_markIntS_l1] at h
      refine AW_seq ?_
      refine AW_rs (BR := BR) FM (by rw [hN]; kernel_rfl) (by kernel_rfl) ?_
      intro K hK
      simp only [EV, seval]
      refine hK _ _ _ ?_
      clear hK K
      refine AW_condK (a := .bool (decide (v6 < ((v4.length : Int))))) (by simp only [EV, seval]) (brK h (fun hc3 h => ?_) (fun hc3 h => ?_))
      · refine AW_skip (show AW _ _ _ _ _ from ?_)
        refine AW_seq ?_
        refine AW_block ?_
        refine AW_rs (BR := BR) FM (by rw [hN]; kernel_rfl) (by kernel_rfl) ?_
        intro K hK
        obtain ⟨q3, h7, h⟩ := bO_inv h
        obtain ⟨⟨h8a, h8b⟩, h8c⟩ := geti_E EIl h7
        try simp only [EV, seval] at h8c
        have h9 := set_E EIl v5 0 [.int .i64 v5] h7 (Nat.le_of_ble_eq_true rfl) rfl
        obtain ⟨h9a, h9b⟩ := h9
        try simp only [EV, seval] at h9a
        try simp only [EV, seval] at h9b
        simp only [EV, seval, h8a, h8b, h8c, h9a, h9b]
        refine hK _ _ _ ?_
        clear hK K
        refine AW_re (BR := BR) FM (by rw [hN]; kernel_rfl) (by kernel_rfl) ?_
        intro K hK
        simp only [EV, seval]
        refine hK _ _ _ (show AW _ _ _ _ _ from ?_)
        refine AW_re (BR := BR) FM (by rw [hN]; kernel_rfl) (by kernel_rfl) ?_
        intro K hK
        simp only [EV, seval]
        refine hK _ _ _ (show cutK _ _ _ from cutL ⟨_, _, _, rfl, h⟩ (Le_can [(0, some 0)] [] hρ (by kernel_rfl) ?_ ?_))
        · simp only [AL, EV, seval]
        · simp only [AL, EV, seval]
      · refine AW_exit (show cutK _ _ _ from cutL ⟨_, _, rfl, h⟩ (Le_can [(0, some 0)] [] hρ (by kernel_rfl) ?_ ?_))
        · simp only [AL, EV, seval]
        · simp only [AL, EV, seval]
  · rintro S ⟨v7, v8, rfl, h⟩
    unfold l_markIntS_j1 at h
    refine AW_rs (BR := BR) FM (by rw [hN]; kernel_rfl) (by kernel_rfl) ?_
    intro K hK
    simp only [EV, seval]
    refine hK _ _ _ ?_
    clear hK K
    injection h with h
    subst h
    refine AW_le (Le_can (lt := [(4, .int .i64 v8)]) (lr := [(0, .row 3 1 (encL EI v7))]) (b' := 64) [(0, some 0)] [] hρ (by kernel_rfl) ?_ ?_) (AW_ret (end_q [0] (.inr rfl) (by kernel_rfl) (by kernel_rfl) ?_))
    · simp only [AL, EV, seval]
    · simp only [AL, EV, seval]
    · simp only [EV, Try.results107, seval]
/- laws.heldIntS -/
def l_heldIntS_j1 (v5 : Int) : Option Int :=
  some v5
def l_heldIntS_l1 (a1 : List Int) : Nat → Int → Int → Option Int
  | 0, _, _ => none
  | n1 + 1, v3, v4 =>
  br (decide (v4 < ((a1.length : Int)))) (bO (geti a1 v4) fun q3 => br (q3 != v3) (some (-1)) ((l_heldIntS_l1 a1 n1) (IntKind.wrap .i64 (v3 + 1)) (IntKind.wrap .i64 (v4 + 1)))) (l_heldIntS_j1 v3)
def l_heldIntS (a1 : List Int) (a2 : Int) : Option Int :=
  l_heldIntS_l1 a1 FU a2 0
set_option maxHeartbeats 4000000 in
theorem l_heldIntS_ok {a1 : List Int} {a2 : Int} {r : Int} (h : l_heldIntS a1 a2 = some r) :
    Spec Try.prog 114 [.sl (encL EI a1) a1.length, .int .i64 a2] [] (.int .i64 r) [] := by
  unfold l_heldIntS at h
  refine spec_of Try.func114 rfl (by kernel_rfl) (by simp only [Try.ntmps114, List.length_cons, List.length_nil, Nat.reduceAdd, Nat.reduceLeDiff]) ?_
  intro C hN hρ
  rw [Try.ntmps114] at hN
  unfold st0
  simp only [tmps0, Nat.zero_add, Nat.reduceAdd]
  refine AW_rs (BR := BR) FM (by rw [hN]; kernel_rfl) (by kernel_rfl) ?_
  intro K hK
  simp only [EV, seval]
  refine hK _ _ _ ?_
  clear hK K
  refine AW_cutK (fun S => ∃ (v5 : Int), S = ⟨mkT [(1, .int .i64 v5)], mkR [], 64⟩ ∧ l_heldIntS_j1 v5 = some r) ?_ ?_
  · refine AW_rs (BR := BR) FM (by rw [hN]; kernel_rfl) (by kernel_rfl) ?_
    intro K hK
    simp only [EV, seval]
    refine hK _ _ _ ?_
    clear hK K
    refine AW_block ?_
    refine AW_loopF (fun n S => ∃ (v3 : Int) (v4 : Int), S = ⟨mkT [(0, .sl (encL EI a1) a1.length), (1, .int .i64 v3), (5, .int .i64 v4)], mkR [], 64⟩ ∧ l_heldIntS_l1 a1 n v3 v4 = some r) FU ?_ ?_ ?_
    · refine cutL ⟨_, _, rfl, h⟩ (Le_can [] [] hρ (by kernel_rfl) ?_ ?_)
      · simp only [AL, EV, seval]
      · simp only [AL, EV, seval]
    · rintro S ⟨_, _, _, h⟩; rw [l_heldIntS_l1] at h; cases h
    · rintro n1 S ⟨v3, v4, rfl, h⟩
      rw [l_heldIntS_l1] at h
      refine AW_seq ?_
      refine AW_rs (BR := BR) FM (by rw [hN]; kernel_rfl) (by kernel_rfl) ?_
      intro K hK
      simp only [EV, seval]
      refine hK _ _ _ ?_
      clear hK K
      refine AW_condK (a := .bool (decide (v4 < ((a1.length : Int))))) (by simp only [EV, seval]) (brK h (fun hc5 h => ?_) (fun hc5 h => ?_))
      · refine AW_skip (show AW _ _ _ _ _ from ?_)
        refine AW_seq ?_
        refine AW_block ?_
        refine AW_seq ?_
        refine AW_rs (BR := BR) FM (by rw [hN]; kernel_rfl) (by kernel_rfl) ?_
        intro K hK
        obtain ⟨q3, h5, h⟩ := bO_inv h
        obtain ⟨⟨h6a, h6b⟩, h6c⟩ := geti_E EIl h5
        try simp only [EV, seval] at h6c
        simp only [EV, seval, h6a, h6b, h6c]
        refine hK _ _ _ ?_
        clear hK K
        refine AW_condK (a := .bool (q3 != v3)) (by simp only [EV, seval, h6a, h6b, h6c]) (brK h (fun hc6 h => ?_) (fun hc6 h => ?_))
        · refine AW_rs (BR := BR) FM (by rw [hN]; kernel_rfl) (by kernel_rfl) ?_
          intro K hK
          simp only [EV, seval]
          refine hK _ _ _ ?_
          clear hK K
          injection h with h
          subst h
          refine AW_le (Le_can (lt := [(4, .int .i64 (-1))]) (lr := []) (b' := 64) [] [] hρ (by kernel_rfl) ?_ ?_) (AW_ret (end_q [] (.inr rfl) (by kernel_rfl) (by kernel_rfl) ?_))
          · simp only [AL, EV, seval]
          · simp only [AL, EV, seval]
          · simp only [EV, Try.results114, seval]
        · refine AW_skip (show AW _ _ _ _ _ from ?_)
          refine AW_re (BR := BR) FM (by rw [hN]; kernel_rfl) (by kernel_rfl) ?_
          intro K hK
          simp only [EV, seval]
          refine hK _ _ _ (show AW _ _ _ _ _ from ?_)
          refine AW_re (BR := BR) FM (by rw [hN]; kernel_rfl) (by kernel_rfl) ?_
          intro K hK
          simp only [EV, seval]
          refine hK _ _ _ (show cutK _ _ _ from cutL ⟨_, _, rfl, h⟩ (Le_can [] [] hρ (by kernel_rfl) ?_ ?_))
          · simp only [AL, EV, seval]
          · simp only [AL, EV, seval]
      · refine AW_exit (show cutK _ _ _ from cutL ⟨_, rfl, h⟩ (Le_can [] [] hρ (by kernel_rfl) ?_ ?_))
        · simp only [AL, EV, seval]
        · simp only [AL, EV, seval]
  · rintro S ⟨v5, rfl, h⟩
    unfold l_heldIntS_j1 at h
    refine AW_rs (BR := BR) FM (by rw [hN]; kernel_rfl) (by kernel_rfl) ?_
    intro K hK
    simp only [EV, seval]
    refine hK _ _ _ ?_
    clear hK K
    injection h with h
    subst h
    refine AW_le (Le_can (lt := [(4, .int .i64 v5)]) (lr := []) (b' := 64) [] [] hρ (by kernel_rfl) ?_ ?_) (AW_ret (end_q [] (.inr rfl) (by kernel_rfl) (by kernel_rfl) ?_))
    · simp only [AL, EV, seval]
    · simp only [AL, EV, seval]
    · simp only [EV, Try.results114, seval]
/- laws.markNormalForm -/
def l_markNormalForm (a1 : List Int) (a2 : Int) (a3 : LQ) (a4 : Int) : Option (Int × List Int × LQ) :=
  bO (l_markIntS a1 a4) fun x1 => gd (decide (x1.2.length = a1.length)) (bO (l_markTableau a2 a3 x1.1) fun x2 => gd (decide (x2.2.length = a3.length)) (some (x2.1, x1.2, x2.2)))
set_option maxHeartbeats 4000000 in
theorem l_markNormalForm_ok {a1 : List Int} {a2 : Int} {a3 : LQ} {a4 : Int} {r : Int × List Int × LQ} (h : l_markNormalForm a1 a2 a3 a4 = some r) :
    Spec Try.prog 57 [.agg [.own 0 a1.length, .int .i64 a2, .own 1 a3.length], .int .i64 a4] [.row 3 1 (encL EI a1), .row 113 4 (encL EIIII a3)] (.int .i64 r.1) [.row 3 1 (encL EI r.2.1), .row 113 4 (encL EIIII r.2.2)] := by
  unfold l_markNormalForm at h
  refine spec_of Try.func57 rfl (by kernel_rfl) (by simp only [Try.ntmps57, List.length_cons, List.length_nil, Nat.reduceAdd, Nat.reduceLeDiff]) ?_
  intro C hN hρ
  rw [Try.ntmps57] at hN
  unfold st0
  simp only [tmps0, Nat.zero_add, Nat.reduceAdd]
  refine AW_rs (BR := BR) FM (by rw [hN]; kernel_rfl) (by kernel_rfl) ?_
  intro K hK
  simp only [EV, seval]
  refine hK _ _ _ ?_
  clear hK K
  refine AW_rs (BR := BR) FM (by rw [hN]; kernel_rfl) (by kernel_rfl) ?_
  intro K hK
  obtain ⟨x1, h1, h⟩ := bO_inv h
  simp only [EV, seval]
  obtain ⟨h2, h⟩ := gd_inv h
  replace h2 := of_decide_eq_true h2
  refine rR_p [0] (l_markIntS_ok h1) (by simp only [AL, EV, seval, h2]) (by simp only [AL, EV, seval, h2]) (by kernel_rfl) (by simp only [EV, solidO, List.mem_cons, List.not_mem_nil, or_false, forall_eq_or_imp, forall_eq, seval]) (le_d rfl) (le_d rfl) (no_j rfl) ?_
  simp only [EV, seval, h2]
  refine hK _ _ _ ?_
  clear hK K
  refine AW_rs (BR := BR) FM (by rw [hN]; kernel_rfl) (by kernel_rfl) ?_
  intro K hK
  obtain ⟨x2, h3, h⟩ := bO_inv h
  simp only [EV, seval, h2]
  obtain ⟨h4, h⟩ := gd_inv h
  replace h4 := of_decide_eq_true h4
  refine rR_p [1] (l_markTableau_ok h3) (by simp only [AL, EV, seval, h2, h4]) (by simp only [AL, EV, seval, h2, h4]) (by kernel_rfl) (by simp only [EV, solidO, List.mem_cons, List.not_mem_nil, or_false, forall_eq_or_imp, forall_eq, seval]) (le_d rfl) (le_d rfl) (no_j rfl) ?_
  simp only [EV, seval, h2, h4]
  refine hK _ _ _ ?_
  clear hK K
  refine AW_rs (BR := BR) FM (by rw [hN]; kernel_rfl) (by kernel_rfl) ?_
  intro K hK
  simp only [EV, seval, h2, h4]
  refine hK _ _ _ ?_
  clear hK K
  injection h with h
  subst h
  refine AW_le (Le_can (lt := [(4, .int .i64 x2.1)]) (lr := [(0, .row 3 1 (encL EI x1.2)), (1, .row 113 4 (encL EIIII x2.2))]) (b' := 64) [(0, some 0), (1, some 1)] [] hρ (by kernel_rfl) ?_ ?_) (AW_ret (end_q [0, 1] (.inr rfl) (by kernel_rfl) (by kernel_rfl) ?_))
  · simp only [AL, EV, seval, h2, h4]
  · simp only [AL, EV, seval, h2, h4]
  · simp only [EV, Try.results57, seval]
/- laws.heldNormalForm -/
def l_heldNormalForm (a1 : List Int) (a2 : Int) (a3 : LQ) (a4 : Int) : Option Int :=
  bO (l_heldIntS a1 a4) fun x1 => br (decide (x1 < 0)) (some (-1)) (bO (l_heldTableau a2 a3 x1) fun x2 => br (decide (x2 < 0)) (some (-1)) (some x2))
set_option maxHeartbeats 4000000 in
theorem l_heldNormalForm_ok {a1 : List Int} {a2 : Int} {a3 : LQ} {a4 : Int} {r : Int} (h : l_heldNormalForm a1 a2 a3 a4 = some r) :
    Spec Try.prog 61 [.agg [.sl (encL EI a1) a1.length, .int .i64 a2, .sl (encL EIIII a3) a3.length], .int .i64 a4] [] (.int .i64 r) [] := by
  unfold l_heldNormalForm at h
  refine spec_of Try.func61 rfl (by kernel_rfl) (by simp only [Try.ntmps61, List.length_cons, List.length_nil, Nat.reduceAdd, Nat.reduceLeDiff]) ?_
  intro C hN hρ
  rw [Try.ntmps61] at hN
  unfold st0
  simp only [tmps0, Nat.zero_add, Nat.reduceAdd]
  refine AW_rs (BR := BR) FM (by rw [hN]; kernel_rfl) (by kernel_rfl) ?_
  intro K hK
  simp only [EV, seval]
  refine hK _ _ _ ?_
  clear hK K
  refine AW_rs (BR := BR) FM (by rw [hN]; kernel_rfl) (by kernel_rfl) ?_
  intro K hK
  obtain ⟨x1, h1, h⟩ := bO_inv h
  simp only [EV, seval]
  refine rC_p (l_heldIntS_ok h1) (by simp only [AL, EV, seval]) (le_d rfl) (no_j rfl) ?_
  simp only [EV, seval]
  refine hK _ _ _ ?_
  clear hK K
  refine AW_seq ?_
  refine AW_rs (BR := BR) FM (by rw [hN]; kernel_rfl) (by kernel_rfl) ?_
  intro K hK
  simp only [EV, seval]
  refine hK _ _ _ ?_
  clear hK K
  refine AW_condK (a := .bool (decide (x1 < 0))) (by simp only [EV, seval]) (brK h (fun hc1 h => ?_) (fun hc1 h => ?_))
  · refine AW_rs (BR := BR) FM (by rw [hN]; kernel_rfl) (by kernel_rfl) ?_
    intro K hK
    simp only [EV, seval]
    refine hK _ _ _ ?_
    clear hK K
    injection h with h
    subst h
    refine AW_le (Le_can (lt := [(4, .int .i64 (-1))]) (lr := []) (b' := 64) [] [] hρ (by kernel_rfl) ?_ ?_) (AW_ret (end_q [] (.inr rfl) (by kernel_rfl) (by kernel_rfl) ?_))
    · simp only [AL, EV, seval]
    · simp only [AL, EV, seval]
    · simp only [EV, Try.results61, seval]
  · refine AW_skip (show AW _ _ _ _ _ from ?_)
    refine AW_rs (BR := BR) FM (by rw [hN]; kernel_rfl) (by kernel_rfl) ?_
    intro K hK
    obtain ⟨x2, h2, h⟩ := bO_inv h
    simp only [EV, seval]
    refine rC_p (l_heldTableau_ok h2) (by simp only [AL, EV, seval]) (le_d rfl) (no_j rfl) ?_
    simp only [EV, seval]
    refine hK _ _ _ ?_
    clear hK K
    refine AW_seq ?_
    refine AW_rs (BR := BR) FM (by rw [hN]; kernel_rfl) (by kernel_rfl) ?_
    intro K hK
    simp only [EV, seval]
    refine hK _ _ _ ?_
    clear hK K
    refine AW_condK (a := .bool (decide (x2 < 0))) (by simp only [EV, seval]) (brK h (fun hc2 h => ?_) (fun hc2 h => ?_))
    · refine AW_rs (BR := BR) FM (by rw [hN]; kernel_rfl) (by kernel_rfl) ?_
      intro K hK
      simp only [EV, seval]
      refine hK _ _ _ ?_
      clear hK K
      injection h with h
      subst h
      refine AW_le (Le_can (lt := [(4, .int .i64 (-1))]) (lr := []) (b' := 64) [] [] hρ (by kernel_rfl) ?_ ?_) (AW_ret (end_q [] (.inr rfl) (by kernel_rfl) (by kernel_rfl) ?_))
      · simp only [AL, EV, seval]
      · simp only [AL, EV, seval]
      · simp only [EV, Try.results61, seval]
    · refine AW_skip (show AW _ _ _ _ _ from ?_)
      refine AW_rs (BR := BR) FM (by rw [hN]; kernel_rfl) (by kernel_rfl) ?_
      intro K hK
      simp only [EV, seval]
      refine hK _ _ _ ?_
      clear hK K
      injection h with h
      subst h
      refine AW_le (Le_can (lt := [(4, .int .i64 x2)]) (lr := []) (b' := 64) [] [] hρ (by kernel_rfl) ?_ ?_) (AW_ret (end_q [] (.inr rfl) (by kernel_rfl) (by kernel_rfl) ?_))
      · simp only [AL, EV, seval]
      · simp only [AL, EV, seval]
      · simp only [EV, Try.results61, seval]
end Go.Proofs.Ytcclapenpaediaa
