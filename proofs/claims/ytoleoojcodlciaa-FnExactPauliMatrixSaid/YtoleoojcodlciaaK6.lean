/- Joined texts: Mzb Mzc. -/
import Derived.Test.YtoleoojcodlciaaK1
import Derived.Test.YtoleoojcodlciaaKMa
/- Models of functions, and that the functions do what the models say; printed by a program. -/
namespace Go.Proofs.Ytoleoojcodlciaa
open Go.RowKit
set_option maxRecDepth 100000
set_option linter.unusedVariables false
set_option linter.unusedSimpArgs false
set_option linter.defProp false
set_option maxHeartbeats 4000000
/- impl.PhaseFactor -/
def i_PhaseFactor_j2 (v3 v4 v5 v6 : Int) : Option (Int × Int × Int × Int × Int) :=
  some (v3, v4, v5, v6, 0)
def i_PhaseFactor_j1 (v1 v2 : Int) : Option (Int × Int × Int × Int × Int) :=
  br ((Int.tmod v1 4) == 0) (i_PhaseFactor_j2 v2 0 0 0) (br ((Int.tmod v1 4) == 1) (i_PhaseFactor_j2 0 v2 0 0) (br ((Int.tmod v1 4) == 2) (i_PhaseFactor_j2 0 0 v2 0) (br ((Int.tmod v1 4) == 3) (i_PhaseFactor_j2 0 0 0 v2) (i_PhaseFactor_j2 0 0 0 0))))
def i_PhaseFactor (a1 : Int) : Option (Int × Int × Int × Int × Int) :=
  br (decide (4 ≤ (Int.tmod (IntKind.wrap .i64 ((Int.tmod a1 8) + 8)) 8))) (i_PhaseFactor_j1 (Int.tmod (IntKind.wrap .i64 ((Int.tmod a1 8) + 8)) 8) (-1)) (i_PhaseFactor_j1 (Int.tmod (IntKind.wrap .i64 ((Int.tmod a1 8) + 8)) 8) 1)
theorem i_PhaseFactor_ok {a1 : Int} {r : Int × Int × Int × Int × Int} (h : i_PhaseFactor a1 = some r) :
    Spec Try.prog 43 [.int .i64 a1] [] (.agg [.int .i64 r.1, .int .i64 r.2.1, .int .i64 r.2.2.1, .int .i64 r.2.2.2.1, .int .i64 r.2.2.2.2]) [] := by
 unfold i_PhaseFactor at h; refine SO Try.func43 rfl Try.ntmps43 fun C hN hρ => ?_; simp only [st0, tmps0, Nat.zero_add, Nat.reduceAdd]; refine AN hN ?_; refine AN hN ?_; refine AN hN ?_; refine AW_cutK (fun S => ∃ (v1 v2 : Int), S = ⟨mkT [(2, .ptr 32 0), (3, .int .i64 v1), (4, .int .i64 v2)], mkR [(32, .box 73 [.int .i64 0, .int .i64 0, .int .i64 0, .int .i64 0, .int .i64 0])], 64⟩ ∧ i_PhaseFactor_j1 v1 v2 = some r) ?_ ?_
 ·refine AN hN ?_; refine AB h (fun hc1 h => ?_) fun hc1 h => ?_
  ·refine AS hN fun K hK => ?_; simp only [EV, seval]; exact hK _ _ _ (AC ⟨_, _, rfl, h⟩ [(32, some 64)] [] hρ)
  ·refine AW_skip (show cutK _ _ _ from cutL ⟨_, _, rfl, h⟩ (Le_can [(32, some 64)] [] hρ (by kernel_rfl) ?_ ?_))
   ·simp only [AL, EV, seval]
   ·simp only [AL, EV, seval]
 ·rintro S ⟨v1, v2, rfl, h⟩; unfold i_PhaseFactor_j1 at h; refine AN hN ?_; refine AW_cutK (fun S => ∃ (v3 v4 v5 v6 : Int), S = ⟨mkT [(2, .ptr 32 0), (5, .ptr 33 0)], mkR [(32, .box 73 [.int .i64 0, .int .i64 0, .int .i64 0, .int .i64 0, .int .i64 0]), (33, .box 71 [.int .i64 v3, .int .i64 v4, .int .i64 v5, .int .i64 v6])], 64⟩ ∧ i_PhaseFactor_j2 v3 v4 v5 v6 = some r) ?_ ?_
  ·refine AN hN ?_; refine AW_block ?_; refine AN hN ?_; refine AB h (fun hc2 h => ?_) fun hc2 h => ?_
   ·refine AS hN fun K hK => ?_; simp only [EV, seval]; exact hK _ _ _ (AC ⟨_, _, _, _, rfl, h⟩ [(32, some 32), (33, some 80)] [] hρ)
   ·refine AN hN ?_; refine AB h (fun hc3 h => ?_) fun hc3 h => ?_
    ·refine AS hN fun K hK => ?_; simp only [EV, seval]; exact hK _ _ _ (AC ⟨_, _, _, _, rfl, h⟩ [(32, some 32), (33, some 80)] [] hρ)
    ·refine AN hN ?_; refine AB h (fun hc4 h => ?_) fun hc4 h => ?_
     ·refine AS hN fun K hK => ?_; simp only [EV, seval]; exact hK _ _ _ (AC ⟨_, _, _, _, rfl, h⟩ [(32, some 32), (33, some 80)] [] hρ)
     ·refine AN hN ?_; refine AB h (fun hc5 h => ?_) fun hc5 h => ?_
      ·refine AS hN fun K hK => ?_; simp only [EV, seval]; exact hK _ _ _ (AC ⟨_, _, _, _, rfl, h⟩ [(32, some 32), (33, some 80)] [] hρ)
      ·refine AW_skip (show cutK _ _ _ from cutL ⟨_, _, _, _, rfl, h⟩ (Le_can [(32, some 32), (33, some 80)] [] hρ (by kernel_rfl) ?_ ?_))
       ·simp only [AL, EV, seval]
       ·simp only [AL, EV, seval]
  ·rintro S ⟨v3, v4, v5, v6, rfl, h⟩; unfold i_PhaseFactor_j2 at h; refine AN hN ?_; injection h with h; subst h; exact AX (b' := 64) [(2, .ptr 32 0)] [(32, .box 73 [.int .i64 v3, .int .i64 v4, .int .i64 v5, .int .i64 v6, .int .i64 0])] [(32, some 32)] [] hρ (EQ [])
/- spec.PhaseFactor -/
def s_PhaseFactor_j1 (v1 : Int) : Option (Int × Int × Int × Int × Int) :=
  bO (geti ([(1, 0, 0, 0), (0, 1, 0, 0), (0, 0, 1, 0), (0, 0, 0, 1), (-1, 0, 0, 0), (0, -1, 0, 0), (0, 0, -1, 0), (0, 0, 0, -1)]) v1) fun q1 => some (q1.1, q1.2.1, q1.2.2.1, q1.2.2.2, 0)
def s_PhaseFactor (a1 : Int) : Option (Int × Int × Int × Int × Int) :=
  br (decide ((Int.tmod a1 8) < 0)) (s_PhaseFactor_j1 (IntKind.wrap .i64 ((Int.tmod a1 8) + 8))) (s_PhaseFactor_j1 (Int.tmod a1 8))
theorem s_PhaseFactor_ok {a1 : Int} {r : Int × Int × Int × Int × Int} (h : s_PhaseFactor a1 = some r) :
    Spec Try.prog 39 [.int .i64 a1] [] (.agg [.int .i64 r.1, .int .i64 r.2.1, .int .i64 r.2.2.1, .int .i64 r.2.2.2.1, .int .i64 r.2.2.2.2]) [] := by
 unfold s_PhaseFactor at h; refine SO Try.func39 rfl Try.ntmps39 fun C hN hρ => ?_; simp only [st0, tmps0, Nat.zero_add, Nat.reduceAdd]; refine AN hN ?_; refine AN hN ?_; refine AW_cutK (fun S => ∃ (v1 : Int), S = ⟨mkT [(0, .int .i64 v1), (2, .ptr 32 0)], mkR [(32, .box 73 [.int .i64 0, .int .i64 0, .int .i64 0, .int .i64 0, .int .i64 0])], 64⟩ ∧ s_PhaseFactor_j1 v1 = some r) ?_ ?_
 ·refine AN hN ?_; refine AB h (fun hc1 h => ?_) fun hc1 h => ?_
  ·refine AS hN fun K hK => ?_; simp only [EV, seval]; exact hK _ _ _ (AC ⟨_, rfl, h⟩ [(32, some 64)] [] hρ)
  ·refine AW_skip (show cutK _ _ _ from cutL ⟨_, rfl, h⟩ (Le_can [(32, some 64)] [] hρ (by kernel_rfl) ?_ ?_))
   ·simp only [AL, EV, seval]
   ·simp only [AL, EV, seval]
 ·rintro S ⟨v1, rfl, h⟩; unfold s_PhaseFactor_j1 at h; refine AN hN ?_; refine AR hN fun K hK => ?_; obtain ⟨q1, h1, h⟩ := bO_inv h; obtain ⟨⟨h2a, h2b⟩, h2c⟩ := geti_E EIIIIl h1; (try simp only [EV, seval] at h2c); (try simp only [EV, seval] at h2b); simp only [EV, seval, h2a, h2b, h2c]; refine hK _ _ _ ?_; clear hK K; injection h with h; subst h; refine AW_le (Le_can (lt := [(2, .ptr 32 0)]) (lr := [(32, .box 73 [.int .i64 q1.1, .int .i64 q1.2.1, .int .i64 q1.2.2.1, .int .i64 q1.2.2.2, .int .i64 0])]) (b' := 64) [(32, some 32)] [] hρ (by kernel_rfl) ?_ ?_) (AW_ret (end_q [] (.inr rfl) (by kernel_rfl) (by kernel_rfl) ?_))
  ·simp only [AL, EV, seval, h2a, h2b, h2c]
  ·simp only [AL, EV, seval, h2a, h2b, h2c]
  ·simp only [EV, Try.results39, seval]
end Go.Proofs.Ytoleoojcodlciaa
/- Models of functions, and that the functions do what the models say; printed by a program. -/
namespace Go.Proofs.Ytoleoojcodlciaa
open Go.RowKit
set_option maxRecDepth 100000
set_option linter.unusedVariables false
set_option linter.unusedSimpArgs false
set_option linter.defProp false
set_option maxHeartbeats 4000000
/- impl.flipped -/
def i_flipped_j6 (v26 v27 : Int) (kl3 : Int → Int → (List (LF)) → Option (List (LF))) (v38 : List (LF)) : Option (List (LF)) :=
  kl3 v26 (IntKind.wrap .i64 (v27 + 1)) v38
def i_flipped_j7 (v26 v27 : Int) (v28 : List (LF)) (kl3 : Int → Int → (List (LF)) → Option (List (LF))) (v37 : LF) : Option (List (LF)) :=
  gd (decide (v28.length + ([v37]).length ≤ 16777216)) (i_flipped_j6 v26 v27 kl3 (v28 ++ ([v37])))
def i_flipped_l4 (a1 : List (LF)) (v26 v27 : Int) (v28 : List (LF)) (kl3 : Int → Int → (List (LF)) → Option (List (LF))) : Nat → Int → Int → (LF) → Option (List (LF))
  | 0, _, _, _ => none
  | n4 + 1, v34, v35, v36 =>
  br (decide (v35 < v34)) (bO (geti a1 v35) fun q17 => bO (geti q17 v27) fun q18 => gd (decide (v36.length + ([(q18.1, q18.2.1, q18.2.2.1, q18.2.2.2.1, q18.2.2.2.2)]).length ≤ 16777216)) ((i_flipped_l4 a1 v26 v27 v28 kl3 n4) v34 (IntKind.wrap .i64 (v35 + 1)) (v36 ++ ([(q18.1, q18.2.1, q18.2.2.1, q18.2.2.2.1, q18.2.2.2.2)])))) (i_flipped_j7 v26 v27 v28 kl3 v36)
def i_flipped_j1 (v39 : List (LF)) : Option (List (LF)) :=
  some v39
def i_flipped_l1 (a1 : List (LF)) : Nat → Int → Int → (List (LF)) → Option (List (LF))
  | 0, _, _, _ => none
  | n3 + 1, v26, v27, v28 =>
  br (decide (v27 < v26)) (i_flipped_l4 a1 v26 v27 v28 (i_flipped_l1 a1 n3) FU ((a1.length : Int)) 0 ([] : LF)) (i_flipped_j1 v28)
def i_flipped (a1 : List (LF)) : Option (List (LF)) :=
  i_flipped_l1 a1 FU ((a1.length : Int)) 0 ([] : List (LF))
theorem i_flipped_ok {a1 : List (LF)} {r : List (LF)} (h : i_flipped a1 = some r) :
    Spec Try.prog 45 [.sl (encL ELIIIIIE a1) a1.length] [] (.own 0 r.length) (.tab 69 1 (ownF 1 r) :: rowsL 73 5 EIIIII r) := by
 unfold i_flipped at h; refine SO Try.func45 rfl Try.ntmps45 fun C hN hρ => ?_; simp only [st0, tmps0, Nat.zero_add, Nat.reduceAdd]; refine AN hN ?_; refine AN hN ?_; refine AW_cutK (fun S => ∃ (v39 : List (LF)), S = ⟨mkT [(3, .own 32 v39.length)], addRows (mkR [(32, .tab 69 1 (ownF 1099511627776 v39))]) 1099511627776 (rowsL 73 5 EIIIII v39), 64⟩ ∧ i_flipped_j1 v39 = some r) ?_ ?_
 ·refine AN hN ?_; refine AW_block ?_; refine AW_loopF (fun n S => ∃ (v26 v27 : Int) (v28 : List (LF)), S = ⟨mkT [(0, .sl (encL ELIIIIIE a1) a1.length), (3, .own 32 v28.length), (10, .int .i64 v26), (11, .int .i64 v27)], addRows (mkR [(32, .tab 69 1 (ownF 1099511627776 v28))]) 1099511627776 (rowsL 73 5 EIIIII v28), 64⟩ ∧ i_flipped_l1 a1 n v26 v27 v28 = some r) FU ?_ ?_ ?_
  ·refine cutL ⟨_, _, _, rfl, h⟩ (Le_famK (E := 73) (sz := 5) (e := EIIIII) 1099511627776 [(32, some 1088)] [] hρ (by kernel_rfl) (by kernel_rfl) (by kernel_rfl) (by kernel_rfl) ?_ ?_ (by simp only [EV, seval]))
   ·simp only [AL, EV, seval]
   ·simp only [AL, EV, seval]
  ·rintro S ⟨_, _, _, _, h⟩; rw [i_flipped_l1] at h; cases h
  ·rintro n3 S ⟨v26, v27, v28, rfl, h⟩; rw [i_flipped_l1] at h; refine AN hN ?_; refine AW_seq ?_; refine AB h (fun hc9 h => ?_) fun hc9 h => ?_
   ·refine AW_skip (AK ?_); refine AW_cutK (fun S => ∃ (v38 : List (LF)), S = ⟨mkT [(0, .sl (encL ELIIIIIE a1) a1.length), (3, .own 32 v38.length), (10, .int .i64 v26), (11, .int .i64 v27)], addRows (mkR [(32, .tab 69 1 (ownF 1099511627776 v38))]) 1099511627776 (rowsL 73 5 EIIIII v38), 64⟩ ∧ i_flipped_j6 v26 v27 (i_flipped_l1 a1 n3) v38 = some r) ?_ ?_
    ·refine AW_block ?_; refine AN hN ?_; refine AN hN ?_; refine AW_cutK (fun S => ∃ (v37 : LF), S = ⟨mkT [(0, .sl (encL ELIIIIIE a1) a1.length), (3, .own 32 v28.length), (5, .own 33 v37.length), (10, .int .i64 v26), (11, .int .i64 v27)], addRows (mkR [(32, .tab 69 1 (ownF 1099511627776 v28)), (33, .row 73 5 (encL EIIIII v37))]) 1099511627776 (rowsL 73 5 EIIIII v28), 64⟩ ∧ i_flipped_j7 v26 v27 v28 (i_flipped_l1 a1 n3) v37 = some r) ?_ ?_
     ·refine AN hN ?_; refine AW_block ?_; refine AW_loopF (fun n S => ∃ (v34 v35 : Int) (v36 : LF), S = ⟨mkT [(0, .sl (encL ELIIIIIE a1) a1.length), (3, .own 32 v28.length), (4, .int .i64 v27), (5, .own 33 v36.length), (10, .int .i64 v26), (11, .int .i64 v27), (15, .sl (encL ELIIIIIE a1) a1.length), (16, .int .i64 v34), (17, .int .i64 v35)], addRows (mkR [(32, .tab 69 1 (ownF 1099511627776 v28)), (33, .row 73 5 (encL EIIIII v36))]) 1099511627776 (rowsL 73 5 EIIIII v28), 64⟩ ∧ i_flipped_l4 a1 v26 v27 v28 (i_flipped_l1 a1 n3) n v34 v35 v36 = some r) FU ?_ ?_ ?_
      ·refine cutL ⟨_, _, _, rfl, h⟩ (Le_famK (E := 73) (sz := 5) (e := EIIIII) 1099511627776 [(32, some 32), (33, some 2112)] [] hρ (by kernel_rfl) (by kernel_rfl) (by kernel_rfl) (by kernel_rfl) ?_ ?_ (by simp only [EV, seval]))
       ·simp only [AL, EV, seval]
       ·simp only [AL, EV, seval]
      ·rintro S ⟨_, _, _, _, h⟩; rw [i_flipped_l4] at h; cases h
      ·rintro n4 S ⟨v34, v35, v36, rfl, h⟩; rw [i_flipped_l4] at h; refine AN hN ?_; refine AW_seq ?_; refine AB h (fun hc12 h => ?_) fun hc12 h => ?_
       ·refine AW_skip (AK ?_); refine AW_seq ?_; refine AW_block ?_; refine AR hN fun K hK => ?_; obtain ⟨q17, h43, h⟩ := bO_inv h; obtain ⟨⟨h44a, h44b⟩, h44c⟩ := geti_E ELIIIIIEl h43; (try simp only [EV, seval] at h44c); simp only [EV, seval, h44a, h44b, h44c]; refine hK _ _ _ ?_; clear hK K; refine AS hN fun K hK => ?_; obtain ⟨q18, h45, h⟩ := bO_inv h; obtain ⟨⟨h46a, h46b⟩, h46c⟩ := geti_E EIIIIIl h45; (try simp only [EV, seval] at h46c); obtain ⟨h47, h⟩ := gd_inv h; replace h47 := of_decide_eq_true h47; (try simp only [EV, seval] at h47); simp only [EV, seval, h46a, h46b, h46c, h47]; refine hK _ _ _ (show AW _ _ _ _ _ from ?_); refine AS hN fun K hK => ?_; simp only [EV, seval]; refine hK _ _ _ (show cutK _ _ _ from cutL ⟨_, _, _, rfl, h⟩ (Le_famK (E := 73) (sz := 5) (e := EIIIII) 1099511627776 [(32, some 32), (33, some 2208)] [] hρ (by kernel_rfl) (by kernel_rfl) (by kernel_rfl) (by kernel_rfl) ?_ ?_ (by simp only [EV, seval])))
        ·simp only [AL, EV, seval]
        ·simp only [AL, EV, seval]
       ·refine AW_exit (show cutK _ _ _ from cutL ⟨_, rfl, h⟩ (Le_famK (E := 73) (sz := 5) (e := EIIIII) 1099511627776 [(32, some 32), (33, some 33)] [] hρ (by kernel_rfl) (by kernel_rfl) (by kernel_rfl) (by kernel_rfl) ?_ ?_ (by simp only [EV, seval])))
        ·simp only [AL, EV, seval]
        ·simp only [AL, EV, seval]
     ·rintro S ⟨v37, rfl, h⟩; unfold i_flipped_j7 at h; refine AS hN fun K hK => ?_; obtain ⟨h48, h⟩ := gd_inv h; replace h48 := of_decide_eq_true h48; (try simp only [EV, seval] at h48); simp only [EV, seval, h48]; refine hK _ _ _ (show cutK _ _ _ from cutL ⟨_, rfl, h⟩ (Le_famP (E := 73) (sz := 5) (e := EIIIII) (le := v28) (x := v37) 33 [(32, some 112)] [] hρ (by kernel_rfl) (by kernel_rfl) (by kernel_rfl) (by kernel_rfl) ?_ ?_ (by simp only [EV, seval]) (by simp only [EV, seval])))
      ·simp only [AL, EV, seval, h48]
      ·simp only [AL, EV, seval, h48]
    ·rintro S ⟨v38, rfl, h⟩; unfold i_flipped_j6 at h; refine AS hN fun K hK => ?_; simp only [EV, seval]; refine hK _ _ _ (show cutK _ _ _ from cutL ⟨_, _, _, rfl, h⟩ (Le_famK (E := 73) (sz := 5) (e := EIIIII) 1099511627776 [(32, some 32)] [] hρ (by kernel_rfl) (by kernel_rfl) (by kernel_rfl) (by kernel_rfl) ?_ ?_ (by simp only [EV, seval])))
     ·simp only [AL, EV, seval]
     ·simp only [AL, EV, seval]
   ·refine AW_exit (show cutK _ _ _ from cutL ⟨_, rfl, h⟩ (Le_famK (E := 73) (sz := 5) (e := EIIIII) 1099511627776 [(32, some 32)] [] hρ (by kernel_rfl) (by kernel_rfl) (by kernel_rfl) (by kernel_rfl) ?_ ?_ (by simp only [EV, seval])))
    ·simp only [AL, EV, seval]
    ·simp only [AL, EV, seval]
 ·rintro S ⟨v39, rfl, h⟩; unfold i_flipped_j1 at h; refine AN hN ?_; injection h with h; subst h; refine AW_le (Le_famK (E := 73) (sz := 5) (e := EIIIII) 1099511627776 (lt := [(2, .own 32 v39.length)]) (lr := [(32, .tab 69 1 (ownF 1099511627776 v39))]) (b' := 64) (le := v39) [(32, some 32)] [] hρ (by kernel_rfl) (by kernel_rfl) (by kernel_rfl) (by kernel_rfl) ?_ ?_ (by simp only [EV, seval])) (AW_ret (end_fam (cid := 32) (by simp only [EV, Try.results45, seval]) (by simp only [EV, seval]) (by kernel_rfl)))
  ·simp only [AL, EV, seval]
  ·simp only [AL, EV, seval]
  skip
/- spec.l7Column -/
def s_l7Column_j1 (v6 : LF) : Option (LF) :=
  some v6
def s_l7Column_l1 (a1 : List (LF)) (a2 : Int) : Nat → Int → (LF) → Option (LF)
  | 0, _, _ => none
  | n1 + 1, v4, v5 =>
  br (decide (v4 < ((a1.length : Int)))) (bO (geti a1 v4) fun q5 => bO (geti q5 a2) fun q6 => gd (decide (v5.length + ([(q6.1, q6.2.1, q6.2.2.1, q6.2.2.2.1, q6.2.2.2.2)]).length ≤ 16777216)) ((s_l7Column_l1 a1 a2 n1) (IntKind.wrap .i64 (v4 + 1)) (v5 ++ ([(q6.1, q6.2.1, q6.2.2.1, q6.2.2.2.1, q6.2.2.2.2)])))) (s_l7Column_j1 v5)
def s_l7Column (a1 : List (LF)) (a2 : Int) : Option (LF) :=
  s_l7Column_l1 a1 a2 FU 0 ([] : LF)
theorem s_l7Column_ok {a1 : List (LF)} {a2 : Int} {r : LF} (h : s_l7Column a1 a2 = some r) :
    Spec Try.prog 82 [.sl (encL ELIIIIIE a1) a1.length, .int .i64 a2] [] (.own 0 r.length) [.row 73 5 (encL EIIIII r)] := by
 unfold s_l7Column at h; refine SO Try.func82 rfl Try.ntmps82 fun C hN hρ => ?_; simp only [st0, tmps0, Nat.zero_add, Nat.reduceAdd]; refine AN hN ?_; refine AN hN ?_; refine AW_cutK (fun S => ∃ (v6 : LF), S = ⟨mkT [(5, .own 32 v6.length)], mkR [(32, .row 73 5 (encL EIIIII v6))], 64⟩ ∧ s_l7Column_j1 v6 = some r) ?_ ?_
 ·refine AN hN ?_; refine AW_block ?_; refine AW_loopF (fun n S => ∃ (v4 : Int) (v5 : LF), S = ⟨mkT [(0, .sl (encL ELIIIIIE a1) a1.length), (1, .int .i64 a2), (5, .own 32 v5.length), (6, .int .i64 v4)], mkR [(32, .row 73 5 (encL EIIIII v5))], 64⟩ ∧ s_l7Column_l1 a1 a2 n v4 v5 = some r) FU ?_ ?_ ?_
  ·exact AC ⟨_, _, rfl, h⟩ [(32, some 1088)] [] hρ
  ·rintro S ⟨_, _, _, h⟩; rw [s_l7Column_l1] at h; cases h
  ·rintro n1 S ⟨v4, v5, rfl, h⟩; rw [s_l7Column_l1] at h; refine AW_seq ?_; refine AN hN ?_; refine AB h (fun hc3 h => ?_) fun hc3 h => ?_
   ·refine AW_skip (AK ?_); refine AW_seq ?_; refine AW_block ?_; refine AS hN fun K hK => ?_; obtain ⟨q5, h11, h⟩ := bO_inv h; obtain ⟨⟨h12a, h12b⟩, h12c⟩ := geti_E ELIIIIIEl h11; (try simp only [EV, seval] at h12c); obtain ⟨q6, h13, h⟩ := bO_inv h; obtain ⟨⟨h14a, h14b⟩, h14c⟩ := geti_E EIIIIIl h13; (try simp only [EV, seval] at h14c); obtain ⟨h15, h⟩ := gd_inv h; replace h15 := of_decide_eq_true h15; (try simp only [EV, seval] at h15); simp only [EV, seval, h12a, h12b, h12c, h14a, h14b, h14c, h15]; refine hK _ _ _ (show AW _ _ _ _ _ from ?_); refine AS hN fun K hK => ?_; simp only [EV, seval]; exact hK _ _ _ (AC ⟨_, _, rfl, h⟩ [(32, some 1232)] [] hρ)
   ·exact AW_exit (AC ⟨_, rfl, h⟩ [(32, some 32)] [] hρ)
 ·rintro S ⟨v6, rfl, h⟩; unfold s_l7Column_j1 at h; refine AN hN ?_; injection h with h; subst h; exact AX (b' := 64) [(4, .own 32 v6.length)] [(32, .row 73 5 (encL EIIIII v6))] [(32, some 32)] [] hρ (EQ [32])
/- spec.l7Columns -/
def s_l7Columns_j1 (v6 : List (LF)) : Option (List (LF)) :=
  some v6
def s_l7Columns_l1 (a1 : List (LF)) : Nat → Int → (List (LF)) → Option (List (LF))
  | 0, _, _ => none
  | n1 + 1, v4, v5 =>
  br (decide (v4 < ((a1.length : Int)))) (bO (s_l7Column a1 v4) fun x3 => gd (decide (v5.length + ([x3]).length ≤ 16777216)) ((s_l7Columns_l1 a1 n1) (IntKind.wrap .i64 (v4 + 1)) (v5 ++ ([x3])))) (s_l7Columns_j1 v5)
def s_l7Columns (a1 : List (LF)) : Option (List (LF)) :=
  s_l7Columns_l1 a1 FU 0 ([] : List (LF))
theorem s_l7Columns_ok {a1 : List (LF)} {r : List (LF)} (h : s_l7Columns a1 = some r) :
    Spec Try.prog 41 [.sl (encL ELIIIIIE a1) a1.length] [] (.own 0 r.length) [.row 69 1 (encL ELIIIIIE r)] := by
 unfold s_l7Columns at h; refine SO Try.func41 rfl Try.ntmps41 fun C hN hρ => ?_; simp only [st0, tmps0, Nat.zero_add, Nat.reduceAdd]; refine AN hN ?_; refine AN hN ?_; refine AW_cutK (fun S => ∃ (v6 : List (LF)), S = ⟨mkT [(3, .own 32 v6.length)], mkR [(32, .row 69 1 (encL ELIIIIIE v6))], 64⟩ ∧ s_l7Columns_j1 v6 = some r) ?_ ?_
 ·refine AN hN ?_; refine AW_block ?_; refine AW_loopF (fun n S => ∃ (v4 : Int) (v5 : List (LF)), S = ⟨mkT [(0, .sl (encL ELIIIIIE a1) a1.length), (3, .own 32 v5.length), (4, .int .i64 v4)], mkR [(32, .row 69 1 (encL ELIIIIIE v5))], 64⟩ ∧ s_l7Columns_l1 a1 n v4 v5 = some r) FU ?_ ?_ ?_
  ·exact AC ⟨_, _, rfl, h⟩ [(32, some 1088)] [] hρ
  ·rintro S ⟨_, _, _, h⟩; rw [s_l7Columns_l1] at h; cases h
  ·rintro n1 S ⟨v4, v5, rfl, h⟩; rw [s_l7Columns_l1] at h; refine AW_seq ?_; refine AN hN ?_; refine AB h (fun hc3 h => ?_) fun hc3 h => ?_
   ·refine AW_skip (AK ?_); refine AW_seq ?_; refine AW_block ?_; refine AS hN fun K hK => ?_; obtain ⟨x3, h5, h⟩ := bO_inv h; simp only [EV, seval]; refine rC_p (Spec.can (ret2 := .sl (encL EIIIII x3) x3.length) (mem2 := []) (s_l7Column_ok h5) [] [0] (by kernel_rfl) (by simp only [AL, EV, seval]) (by simp only [AL, EV, seval])) (by simp only [AL, EV, seval]) (le_d rfl) (no_j rfl) ?_; obtain ⟨h6, h⟩ := gd_inv h; replace h6 := of_decide_eq_true h6; (try simp only [EV, seval] at h6); simp only [EV, seval, h6]; refine hK _ _ _ (show AW _ _ _ _ _ from ?_); refine AS hN fun K hK => ?_; simp only [EV, seval]; exact hK _ _ _ (AC ⟨_, _, rfl, h⟩ [(32, some 1168)] [] hρ)
   ·exact AW_exit (AC ⟨_, rfl, h⟩ [(32, some 32)] [] hρ)
 ·rintro S ⟨v6, rfl, h⟩; unfold s_l7Columns_j1 at h; refine AN hN ?_; injection h with h; subst h; exact AX (b' := 64) [(2, .own 32 v6.length)] [(32, .row 69 1 (encL ELIIIIIE v6))] [(32, some 32)] [] hρ (EQ [32])
/- impl.PauliMatrix -/
def i_PauliMatrix_j1 (v6 : List (LF)) : Option (List (LF)) :=
  bO (i_flipped v6) fun x8 => some x8
def i_PauliMatrix_l1 (a1 a2 a3 a4 : Int) : Nat → Int → (List (LF)) → Option (List (LF))
  | 0, _, _ => none
  | n1 + 1, v4, v5 =>
  gd (decide (¬ a1 < 0)) (br (decide (v4 < (IntKind.wrap .i64 (1 * 2 ^ min (Int.toNat a1) (IntKind.bits .i64))))) (gd (decide (¬ a1 < 0)) (gd (decide (0 ≤ IntKind.wrap .i64 (1 * 2 ^ min (Int.toNat a1) (IntKind.bits .i64)) ∧ IntKind.wrap .i64 (1 * 2 ^ min (Int.toNat a1) (IntKind.bits .i64)) ≤ 1048576)) (bO (i_ones (bits .and .i64 a3 v4)) fun x6 => bO (i_PhaseFactor (IntKind.wrap .i64 ((IntKind.wrap .i64 (2 * a4)) + (IntKind.wrap .i64 (4 * x6))))) fun x7 => bO (geti (List.replicate (Int.toNat (IntKind.wrap .i64 (1 * 2 ^ min (Int.toNat a1) (IntKind.bits .i64)))) ((0, 0, 0, 0, 0) : Int × Int × Int × Int × Int)) (bits .xor .i64 v4 a2)) fun q3 => gd (decide (v5.length + ([(List.replicate (Int.toNat (IntKind.wrap .i64 (1 * 2 ^ min (Int.toNat a1) (IntKind.bits .i64)))) ((0, 0, 0, 0, 0) : Int × Int × Int × Int × Int)).set (Int.toNat (bits .xor .i64 v4 a2)) ((x7.1, x7.2.1, x7.2.2.1, x7.2.2.2.1, x7.2.2.2.2))]).length ≤ 16777216)) ((i_PauliMatrix_l1 a1 a2 a3 a4 n1) (IntKind.wrap .i64 (v4 + 1)) (v5 ++ ([(List.replicate (Int.toNat (IntKind.wrap .i64 (1 * 2 ^ min (Int.toNat a1) (IntKind.bits .i64)))) ((0, 0, 0, 0, 0) : Int × Int × Int × Int × Int)).set (Int.toNat (bits .xor .i64 v4 a2)) ((x7.1, x7.2.1, x7.2.2.1, x7.2.2.2.1, x7.2.2.2.2))])))))) (i_PauliMatrix_j1 v5))
def i_PauliMatrix (a1 a2 a3 a4 : Int) : Option (List (LF)) :=
  bO (i_IsValidPauli a1 a2 a3 a4) fun x1 => br (!x1) (some ([])) (i_PauliMatrix_l1 a1 a2 a3 a4 FU 0 ([] : List (LF)))
theorem i_PauliMatrix_ok {a1 a2 a3 a4 : Int} {r : List (LF)} (h : i_PauliMatrix a1 a2 a3 a4 = some r) :
    Spec Try.prog 10 [.agg [.int .i64 a1, .int .i64 a2, .int .i64 a3, .int .i64 a4]] [] (.own 0 r.length) (.tab 69 1 (ownF 1 r) :: rowsL 73 5 EIIIII r) := by
 unfold i_PauliMatrix at h; refine SO Try.func10 rfl Try.ntmps10 fun C hN hρ => ?_; simp only [st0, tmps0, Nat.zero_add, Nat.reduceAdd]; refine AN hN ?_; refine AW_seq ?_; obtain ⟨x1, h1, h⟩ := bO_inv h; refine AP hN (i_IsValidPauli_ok h1) ?_; refine AB h (fun hc1 h => ?_) fun hc1 h => ?_
 ·refine AN hN ?_; injection h with h; subst h; refine AW_le (Le_famK (E := 73) (sz := 5) (e := EIIIII) 1099511627776 (lt := [(2, .own 32 0)]) (lr := [(32, .tab 69 1 (ownF 1099511627776 ([] : List (LF))))]) (b' := 64) (le := ([] : List (LF))) [(32, none)] [] hρ (by kernel_rfl) (by kernel_rfl) (by kernel_rfl) (by kernel_rfl) ?_ ?_ (by simp only [EV, seval])) (AW_ret (end_fam (cid := 32) (by simp only [EV, Try.results10, seval]) (by simp only [EV, seval]) (by kernel_rfl)))
  ·simp only [AL, EV, seval]
  ·simp only [AL, EV, seval]
  skip
 ·refine AW_skip (AK ?_); refine AN hN ?_; refine AW_cutK (fun S => ∃ (v6 : List (LF)), S = ⟨mkT [(3, .own 32 v6.length)], mkR [(32, .row 69 1 (encL ELIIIIIE v6))], 64⟩ ∧ i_PauliMatrix_j1 v6 = some r) ?_ ?_
  ·refine AN hN ?_; refine AW_block ?_; refine AW_loopF (fun n S => ∃ (v4 : Int) (v5 : List (LF)), S = ⟨mkT [(1, .ptr 32 0), (3, .own 33 v5.length), (4, .int .i64 v4)], mkR [(32, .box 26 [.int .i64 a1, .int .i64 a2, .int .i64 a3, .int .i64 a4]), (33, .row 69 1 (encL ELIIIIIE v5))], 64⟩ ∧ i_PauliMatrix_l1 a1 a2 a3 a4 n v4 v5 = some r) FU ?_ ?_ ?_
   ·exact AC ⟨_, _, rfl, h⟩ [(32, some 64), (33, some 2112)] [] hρ
   ·rintro S ⟨_, _, _, h⟩; rw [i_PauliMatrix_l1] at h; cases h
   ·rintro n1 S ⟨v4, v5, rfl, h⟩; rw [i_PauliMatrix_l1] at h; refine AW_seq ?_; refine AR hN fun K hK => ?_; obtain ⟨h24, h⟩ := gd_inv h; replace h24 := of_decide_eq_true h24; simp only [EV, seval, h24]; refine hK _ _ _ ?_; clear hK K; refine AW_condK (a := .bool (decide (v4 < (IntKind.wrap .i64 (1 * 2 ^ min (Int.toNat a1) (IntKind.bits .i64)))))) (by simp only [EV, seval, h24]) (brK h (fun hc4 h => ?_) (fun hc4 h => ?_))
    ·refine AW_skip (AK ?_); refine AW_seq ?_; refine AW_block ?_; refine AR hN fun K hK => ?_; obtain ⟨h25, h⟩ := gd_inv h; replace h25 := of_decide_eq_true h25; obtain ⟨h26, h⟩ := gd_inv h; replace h26 := of_decide_eq_true h26; have h27 := zrow_enc (e := EIIIII) ((0, 0, 0, 0, 0)) (Int.toNat (IntKind.wrap .i64 (1 * 2 ^ min (Int.toNat a1) (IntKind.bits .i64)))); simp only [EN] at h27; have h28 : (List.replicate (Int.toNat (IntKind.wrap .i64 (1 * 2 ^ min (Int.toNat a1) (IntKind.bits .i64)))) ((0, 0, 0, 0, 0) : Int × Int × Int × Int × Int)).length = Int.toNat (IntKind.wrap .i64 (1 * 2 ^ min (Int.toNat a1) (IntKind.bits .i64))) := List.length_replicate; simp only [EV, seval, h25, h26, h27, h28]; refine hK _ _ _ ?_; clear hK K; refine AR hN fun K hK => ?_; obtain ⟨x6, h29, h⟩ := bO_inv h; simp only [EV, seval]; refine CP (i_ones_ok h29) ?_; obtain ⟨x7, h30, h⟩ := bO_inv h; simp only [EV, seval]; refine CP (i_PhaseFactor_ok h30) ?_; obtain ⟨q3, h31, h⟩ := bO_inv h; obtain ⟨⟨h32a, h32b⟩, h32c⟩ := geti_E EIIIIIl h31; (try simp only [EV, seval] at h32c); (try simp only [EV, seval] at h32b); have h33 := set_E EIIIIIl ((x7.1, x7.2.1, x7.2.2.1, x7.2.2.2.1, x7.2.2.2.2)) 0 [.int .i64 x7.1, .int .i64 x7.2.1, .int .i64 x7.2.2.1, .int .i64 x7.2.2.2.1, .int .i64 x7.2.2.2.2] h31 (Nat.le_of_ble_eq_true rfl) rfl; obtain ⟨h33a, h33b⟩ := h33; (try simp only [EV, seval] at h33a); (try simp only [EV, seval] at h33b); simp only [EV, seval, h32a, h32b, h32c, h33a, h33b]; refine hK _ _ _ ?_; clear hK K; refine AW_le (Le_can (lt := [(1, .ptr 32 0), (3, .own 33 v5.length), (4, .int .i64 v4), (5, .sl (encL EIIIII ((List.replicate (Int.toNat (IntKind.wrap .i64 (1 * 2 ^ min (Int.toNat a1) (IntKind.bits .i64)))) ((0, 0, 0, 0, 0) : Int × Int × Int × Int × Int)).set (Int.toNat (bits .xor .i64 v4 a2)) ((x7.1, x7.2.1, x7.2.2.1, x7.2.2.2.1, x7.2.2.2.2)))) ((List.replicate (Int.toNat (IntKind.wrap .i64 (1 * 2 ^ min (Int.toNat a1) (IntKind.bits .i64)))) ((0, 0, 0, 0, 0) : Int × Int × Int × Int × Int)).set (Int.toNat (bits .xor .i64 v4 a2)) ((x7.1, x7.2.1, x7.2.2.1, x7.2.2.2.1, x7.2.2.2.2))).length)]) (lr := [(32, .box 26 [.int .i64 a1, .int .i64 a2, .int .i64 a3, .int .i64 a4]), (33, .row 69 1 (encL ELIIIIIE v5))]) (b' := 3152) [(32, some 32), (33, some 33)] [1136] hρ (by kernel_rfl) ?_ ?_) ?_
     ·simp only [AL, EV, seval]
     ·simp only [AL, EV, seval]
     refine AS hN fun K hK => ?_; obtain ⟨h34, h⟩ := gd_inv h; replace h34 := of_decide_eq_true h34; (try simp only [EV, seval] at h34); simp only [EV, seval, h34]; refine hK _ _ _ (show AW _ _ _ _ _ from ?_); refine AS hN fun K hK => ?_; simp only [EV, seval]; exact hK _ _ _ (AC ⟨_, _, rfl, h⟩ [(32, some 32), (33, some 3200)] [] hρ)
    ·refine AW_exit (show cutK _ _ _ from cutL ⟨_, rfl, h⟩ (Le_can [(32, some 33)] [] hρ (by kernel_rfl) ?_ ?_))
     ·simp only [AL, EV, seval, h24]
     ·simp only [AL, EV, seval, h24]
  ·rintro S ⟨v6, rfl, h⟩; unfold i_PauliMatrix_j1 at h; refine AW_le (Le_can (lt := [(3, .sl (encL ELIIIIIE v6) v6.length)]) (lr := []) (b' := 80) [] [32] hρ (by kernel_rfl) ?_ ?_) ?_
   ·simp only [AL, EV, seval]
   ·simp only [AL, EV, seval]
   refine AR hN fun K hK => ?_; obtain ⟨x8, h35, h⟩ := bO_inv h; simp only [EV, seval]; refine rR_t (i_flipped_ok h35) (by simp only [AL, EV, seval]) (by simp only [EV, seval]) ?_; simp only [EV, seval]; refine hK _ _ _ ?_; clear hK K; injection h with h; subst h; refine AW_le (Le_famK (E := 73) (sz := 5) (e := EIIIII) 97 (lt := [(2, .own 32 x8.length)]) (lr := [(32, .tab 69 1 (ownF 1099511627776 x8))]) (b' := 64) (le := x8) [(32, some 96)] [] hρ (by kernel_rfl) (by kernel_rfl) (by kernel_rfl) (by kernel_rfl) ?_ ?_ (by simp only [EV, seval])) (AW_ret (end_fam (cid := 32) (by simp only [EV, Try.results10, seval]) (by simp only [EV, seval]) (by kernel_rfl)))
   ·simp only [AL, EV, seval]
   ·simp only [AL, EV, seval]
   skip
/- spec.PauliMatrix -/
def s_PauliMatrix_j1 (v9 : List (LF)) : Option (List (LF)) :=
  bO (s_l7Columns v9) fun x13 => some x13
def s_PauliMatrix_j4 (a1 a2 a3 a4 v6 : Int) (v7 : List (LF)) (kl1 : Int → (List (LF)) → Option (List (LF))) (v8 : Bool) : Option (List (LF)) :=
  br v8 (gd (decide (¬ (IntKind.wrap .u64 a1) < 0)) (gd (decide (0 ≤ IntKind.wrap .i64 (1 * 2 ^ min (Int.toNat (IntKind.wrap .u64 a1)) (IntKind.bits .i64)) ∧ IntKind.wrap .i64 (1 * 2 ^ min (Int.toNat (IntKind.wrap .u64 a1)) (IntKind.bits .i64)) ≤ 1048576)) (bO (s_l25Ones (bits .and .i64 v6 a3)) fun x11 => bO (s_PhaseFactor (IntKind.wrap .i64 ((IntKind.wrap .i64 (2 * a4)) + (IntKind.wrap .i64 (4 * x11))))) fun x12 => bO (geti (List.replicate (Int.toNat (IntKind.wrap .i64 (1 * 2 ^ min (Int.toNat (IntKind.wrap .u64 a1)) (IntKind.bits .i64)))) ((0, 0, 0, 0, 0) : Int × Int × Int × Int × Int)) (bits .xor .i64 v6 a2)) fun q3 => gd (decide (v7.length + ([(List.replicate (Int.toNat (IntKind.wrap .i64 (1 * 2 ^ min (Int.toNat (IntKind.wrap .u64 a1)) (IntKind.bits .i64)))) ((0, 0, 0, 0, 0) : Int × Int × Int × Int × Int)).set (Int.toNat (bits .xor .i64 v6 a2)) ((x12.1, x12.2.1, x12.2.2.1, x12.2.2.2.1, x12.2.2.2.2))]).length ≤ 16777216)) (kl1 (IntKind.wrap .i64 (v6 + 1)) (v7 ++ ([(List.replicate (Int.toNat (IntKind.wrap .i64 (1 * 2 ^ min (Int.toNat (IntKind.wrap .u64 a1)) (IntKind.bits .i64)))) ((0, 0, 0, 0, 0) : Int × Int × Int × Int × Int)).set (Int.toNat (bits .xor .i64 v6 a2)) ((x12.1, x12.2.1, x12.2.2.1, x12.2.2.2.1, x12.2.2.2.2))])))))) (s_PauliMatrix_j1 v7)
def s_PauliMatrix_l1 (a1 a2 a3 a4 : Int) : Nat → Int → (List (LF)) → Option (List (LF))
  | 0, _, _ => none
  | n1 + 1, v6, v7 =>
  bO (s_IsValidPauli a1 a2 a3 a4) fun x9 => bO (br x9 (gd (decide (¬ (IntKind.wrap .u64 a1) < 0)) (some (decide (v6 < (IntKind.wrap .i64 (1 * 2 ^ min (Int.toNat (IntKind.wrap .u64 a1)) (IntKind.bits .i64))))))) (some false)) fun x10 => s_PauliMatrix_j4 a1 a2 a3 a4 v6 v7 (s_PauliMatrix_l1 a1 a2 a3 a4 n1) x10
def s_PauliMatrix (a1 a2 a3 a4 : Int) : Option (List (LF)) :=
  s_PauliMatrix_l1 a1 a2 a3 a4 FU 0 ([] : List (LF))
theorem s_PauliMatrix_ok {a1 a2 a3 a4 : Int} {r : List (LF)} (h : s_PauliMatrix a1 a2 a3 a4 = some r) :
    Spec Try.prog 8 [.agg [.int .i64 a1, .int .i64 a2, .int .i64 a3, .int .i64 a4]] [] (.own 0 r.length) [.row 69 1 (encL ELIIIIIE r)] := by
 unfold s_PauliMatrix at h; refine SO Try.func8 rfl Try.ntmps8 fun C hN hρ => ?_; simp only [st0, tmps0, Nat.zero_add, Nat.reduceAdd]; refine AN hN ?_; refine AN hN ?_; refine AW_cutK (fun S => ∃ (v9 : List (LF)), S = ⟨mkT [(3, .own 32 v9.length)], mkR [(32, .row 69 1 (encL ELIIIIIE v9))], 64⟩ ∧ s_PauliMatrix_j1 v9 = some r) ?_ ?_
 ·refine AN hN ?_; refine AW_block ?_; refine AW_loopF (fun n S => ∃ (v6 : Int) (v7 : List (LF)), S = ⟨mkT [(1, .ptr 32 0), (3, .own 33 v7.length), (4, .int .i64 v6)], mkR [(32, .box 26 [.int .i64 a1, .int .i64 a2, .int .i64 a3, .int .i64 a4]), (33, .row 69 1 (encL ELIIIIIE v7))], 64⟩ ∧ s_PauliMatrix_l1 a1 a2 a3 a4 n v6 v7 = some r) FU ?_ ?_ ?_
  ·exact AC ⟨_, _, rfl, h⟩ [(32, some 64), (33, some 1088)] [] hρ
  ·rintro S ⟨_, _, _, h⟩; rw [s_PauliMatrix_l1] at h; cases h
  ·rintro n1 S ⟨v6, v7, rfl, h⟩; rw [s_PauliMatrix_l1] at h; refine AW_seq ?_; refine AJ (fun S => ∃ (v8 : Bool), S = ⟨mkT [(1, .ptr 32 0), (3, .own 33 v7.length), (4, .int .i64 v6), (16, .bool v8)], mkR [(32, .box 26 [.int .i64 a1, .int .i64 a2, .int .i64 a3, .int .i64 a4]), (33, .row 69 1 (encL ELIIIIIE v7))], 64⟩ ∧ s_PauliMatrix_j4 a1 a2 a3 a4 v6 v7 (s_PauliMatrix_l1 a1 a2 a3 a4 n1) v8 = some r) hN ?_ ?_
   ·intro K hK; obtain ⟨x9, h25, h⟩ := bO_inv h; simp only [EV, seval]; refine CP (s_IsValidPauli_ok h25) ?_; obtain ⟨x10, hv3, h⟩ := bO_inv h; rcases br_inv hv3 with ⟨hc5, hv3⟩ | ⟨hc5, hv3⟩
    ·obtain ⟨h27, hv3⟩ := gd_inv hv3; replace h27 := of_decide_eq_true h27; cases hv3; simp only [EV, seval, hc5, h27]; refine hK _ _ _ (show cutK _ _ _ from cutL ⟨_, rfl, h⟩ (Le_can [(32, some 32), (33, some 33)] [] hρ (by kernel_rfl) ?_ ?_))
     ·simp only [AL, EV, seval, hc5, h27]
     ·simp only [AL, EV, seval, hc5, h27]
    ·cases hv3; simp only [EV, seval, hc5]; refine hK _ _ _ (show cutK _ _ _ from cutL ⟨_, rfl, h⟩ (Le_can [(32, some 32), (33, some 33)] [] hρ (by kernel_rfl) ?_ ?_))
     ·simp only [AL, EV, seval, hc5]
     ·simp only [AL, EV, seval, hc5]
   ·rintro S ⟨v8, rfl, h⟩; unfold s_PauliMatrix_j4 at h; refine AB h (fun hc6 h => ?_) fun hc6 h => ?_
    ·refine AW_skip (AK ?_); refine AW_seq ?_; refine AW_block ?_; refine AR hN fun K hK => ?_; obtain ⟨h28, h⟩ := gd_inv h; replace h28 := of_decide_eq_true h28; obtain ⟨h29, h⟩ := gd_inv h; replace h29 := of_decide_eq_true h29; have h30 := zrow_enc (e := EIIIII) ((0, 0, 0, 0, 0)) (Int.toNat (IntKind.wrap .i64 (1 * 2 ^ min (Int.toNat (IntKind.wrap .u64 a1)) (IntKind.bits .i64)))); simp only [EN] at h30; have h31 : (List.replicate (Int.toNat (IntKind.wrap .i64 (1 * 2 ^ min (Int.toNat (IntKind.wrap .u64 a1)) (IntKind.bits .i64)))) ((0, 0, 0, 0, 0) : Int × Int × Int × Int × Int)).length = Int.toNat (IntKind.wrap .i64 (1 * 2 ^ min (Int.toNat (IntKind.wrap .u64 a1)) (IntKind.bits .i64))) := List.length_replicate; simp only [EV, seval, h28, h29, h30, h31]; refine hK _ _ _ ?_; clear hK K; refine AR hN fun K hK => ?_; obtain ⟨x11, h32, h⟩ := bO_inv h; simp only [EV, seval]; refine CP (s_l25Ones_ok h32) ?_; obtain ⟨x12, h33, h⟩ := bO_inv h; simp only [EV, seval]; refine CP (s_PhaseFactor_ok h33) ?_; obtain ⟨q3, h34, h⟩ := bO_inv h; obtain ⟨⟨h35a, h35b⟩, h35c⟩ := geti_E EIIIIIl h34; (try simp only [EV, seval] at h35c); (try simp only [EV, seval] at h35b); have h36 := set_E EIIIIIl ((x12.1, x12.2.1, x12.2.2.1, x12.2.2.2.1, x12.2.2.2.2)) 0 [.int .i64 x12.1, .int .i64 x12.2.1, .int .i64 x12.2.2.1, .int .i64 x12.2.2.2.1, .int .i64 x12.2.2.2.2] h34 (Nat.le_of_ble_eq_true rfl) rfl; obtain ⟨h36a, h36b⟩ := h36; (try simp only [EV, seval] at h36a); (try simp only [EV, seval] at h36b); simp only [EV, seval, h35a, h35b, h35c, h36a, h36b]; refine hK _ _ _ ?_; clear hK K; refine AW_le (Le_can (lt := [(1, .ptr 32 0), (3, .own 33 v7.length), (4, .int .i64 v6), (5, .sl (encL EIIIII ((List.replicate (Int.toNat (IntKind.wrap .i64 (1 * 2 ^ min (Int.toNat (IntKind.wrap .u64 a1)) (IntKind.bits .i64)))) ((0, 0, 0, 0, 0) : Int × Int × Int × Int × Int)).set (Int.toNat (bits .xor .i64 v6 a2)) ((x12.1, x12.2.1, x12.2.2.1, x12.2.2.2.1, x12.2.2.2.2)))) ((List.replicate (Int.toNat (IntKind.wrap .i64 (1 * 2 ^ min (Int.toNat (IntKind.wrap .u64 a1)) (IntKind.bits .i64)))) ((0, 0, 0, 0, 0) : Int × Int × Int × Int × Int)).set (Int.toNat (bits .xor .i64 v6 a2)) ((x12.1, x12.2.1, x12.2.2.1, x12.2.2.2.1, x12.2.2.2.2))).length)]) (lr := [(32, .box 26 [.int .i64 a1, .int .i64 a2, .int .i64 a3, .int .i64 a4]), (33, .row 69 1 (encL ELIIIIIE v7))]) (b' := 2128) [(32, some 32), (33, some 33)] [128] hρ (by kernel_rfl) ?_ ?_) ?_
     ·simp only [AL, EV, seval]
     ·simp only [AL, EV, seval]
     refine AS hN fun K hK => ?_; obtain ⟨h37, h⟩ := gd_inv h; replace h37 := of_decide_eq_true h37; (try simp only [EV, seval] at h37); simp only [EV, seval, h37]; refine hK _ _ _ (show AW _ _ _ _ _ from ?_); refine AS hN fun K hK => ?_; simp only [EV, seval]; exact hK _ _ _ (AC ⟨_, _, rfl, h⟩ [(32, some 32), (33, some 2176)] [] hρ)
    ·exact AW_exit (AC ⟨_, rfl, h⟩ [(32, some 33)] [] hρ)
 ·rintro S ⟨v9, rfl, h⟩; unfold s_PauliMatrix_j1 at h; refine AW_le (Le_can (lt := [(3, .sl (encL ELIIIIIE v9) v9.length)]) (lr := []) (b' := 80) [] [32] hρ (by kernel_rfl) ?_ ?_) ?_
  ·simp only [AL, EV, seval]
  ·simp only [AL, EV, seval]
  refine AR hN fun K hK => ?_; obtain ⟨x13, h38, h⟩ := bO_inv h; simp only [EV, seval]; refine rC_p (s_l7Columns_ok h38) (by simp only [AL, EV, seval]) (le_d rfl) (site_1 (by simp only [EV, seval])) ?_; simp only [EV, seval]; refine hK _ _ _ ?_; clear hK K; injection h with h; subst h; exact AX (b' := 64) [(2, .own 32 x13.length)] [(32, .row 69 1 (encL ELIIIIIE x13))] [(32, some 96)] [] hρ (EQ [32])
end Go.Proofs.Ytoleoojcodlciaa
