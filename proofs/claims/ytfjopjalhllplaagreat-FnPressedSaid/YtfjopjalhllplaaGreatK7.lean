/- Joined texts: Msr Msg Mpt Mtc. -/
import Derived.Test.YtfjopjalhllplaaGreatK1
import Derived.Test.YtfjopjalhllplaaGreatK5
import Derived.Test.YtfjopjalhllplaaGreatKMf
import Derived.Test.YtfjopjalhllplaaGreatK2
import Derived.Test.YtfjopjalhllplaaGreatKMp
import Derived.Test.YtfjopjalhllplaaGreatK6
/- Models of functions, and that the functions do what the models say; printed by a program. -/
namespace Go.Proofs.YtfjopjalhllplaaGreat
open Go.RowKit
set_option maxRecDepth 100000
set_option linter.unusedVariables false
set_option linter.unusedSimpArgs false
set_option linter.defProp false
set_option maxHeartbeats 4000000
/- impl.RunCost -/
def i_RunCost_j6 (v10 v11 : Int) (kl1 : Int → Int → Int → Option Int) (v13 : Int) : Option Int :=
  kl1 v13 v10 (IntKind.wrap .i64 (v11 + 1))
def i_RunCost_j7 (v9 v10 v11 : Int) (kl1 : Int → Int → Int → Option Int) (v12 : Bool) : Option Int :=
  br v12 (i_RunCost_j6 v10 v11 kl1 (IntKind.wrap .i64 (v9 + 100))) (i_RunCost_j6 v10 v11 kl1 (IntKind.wrap .i64 (v9 + 1)))
def i_RunCost_j1 (v14 : Int) : Option Int :=
  some v14
def i_RunCost_l1 (a1 : LQ) : Nat → Int → Int → Int → Option Int
  | 0, _, _, _ => none
  | n1 + 1, v9, v10, v11 =>
  br (decide (v11 < v10)) (bO (geti a1 v11) fun q3 => bO (br (q3.1 == 7) (some true) (some (q3.1 == 8))) fun x3 => i_RunCost_j7 v9 v10 v11 (i_RunCost_l1 a1 n1) x3) (i_RunCost_j1 v9)
def i_RunCost (a1 : LQ) : Option Int :=
  i_RunCost_l1 a1 FU 0 ((a1.length : Int)) 0
theorem i_RunCost_ok {a1 : LQ} {r : Int} (h : i_RunCost a1 = some r) :
    Spec Tryz.prog 18 [.sl (encL EIIII a1) a1.length] [] (.int .i64 r) [] := by
 unfold i_RunCost at h; refine SO Tryz.func18 rfl Tryz.ntmps18 fun C hN hρ => ?_; simp only [st0, tmps0, Nat.zero_add, Nat.reduceAdd]; refine AN hN ?_; refine AN hN ?_; refine AW_cutK (fun S => ∃ (v14 : Int), S = ⟨mkT [(3, .int .i64 v14)], mkR [], 64⟩ ∧ i_RunCost_j1 v14 = some r) ?_ ?_
 ·refine AN hN ?_; refine AW_block ?_; refine AW_loopF (fun n S => ∃ (v9 v10 v11 : Int), S = ⟨mkT [(3, .int .i64 v9), (6, .sl (encL EIIII a1) a1.length), (7, .int .i64 v10), (8, .int .i64 v11)], mkR [], 64⟩ ∧ i_RunCost_l1 a1 n v9 v10 v11 = some r) FU ?_ ?_ ?_
  ·exact AC ⟨_, _, _, rfl, h⟩ [] [] hρ
  ·rintro S ⟨_, _, _, _, h⟩; rw [i_RunCost_l1] at h; cases h
  ·rintro n1 S ⟨v9, v10, v11, rfl, h⟩; rw [i_RunCost_l1] at h; refine AN hN ?_; refine AW_seq ?_; refine AB h (fun hc7 h => ?_) fun hc7 h => ?_
   ·refine AW_skip (AK ?_); refine AW_cutK (fun S => ∃ (v13 : Int), S = ⟨mkT [(3, .int .i64 v13), (6, .sl (encL EIIII a1) a1.length), (7, .int .i64 v10), (8, .int .i64 v11)], mkR [], 64⟩ ∧ i_RunCost_j6 v10 v11 (i_RunCost_l1 a1 n1) v13 = some r) ?_ ?_
    ·refine AW_block ?_; refine AR hN fun K hK => ?_; obtain ⟨q3, h5, h⟩ := bO_inv h; obtain ⟨⟨h6a, h6b⟩, h6c⟩ := geti_E EIIIIl h5; (try simp only [EV, seval] at h6c); simp only [EV, seval, h6a, h6b, h6c]; refine hK _ _ _ ?_; clear hK K; refine AJ (fun S => ∃ (v12 : Bool), S = ⟨mkT [(3, .int .i64 v9), (6, .sl (encL EIIII a1) a1.length), (7, .int .i64 v10), (8, .int .i64 v11), (19, .bool v12)], mkR [], 64⟩ ∧ i_RunCost_j7 v9 v10 v11 (i_RunCost_l1 a1 n1) v12 = some r) hN ?_ ?_
     ·intro K hK; obtain ⟨x3, hv3, h⟩ := bO_inv h; rcases br_inv hv3 with ⟨hc8, hv3⟩ | ⟨hc8, hv3⟩
      ·cases hv3; simp only [EV, seval, hc8]; refine hK _ _ _ (show cutK _ _ _ from cutL ⟨_, rfl, h⟩ (Le_can [] [] hρ (by kernel_rfl) ?_ ?_))
       ·simp only [AL, EV, seval, hc8]
       ·simp only [AL, EV, seval, hc8]
      ·cases hv3; simp only [EV, seval, hc8]; refine hK _ _ _ (show cutK _ _ _ from cutL ⟨_, rfl, h⟩ (Le_can [] [] hρ (by kernel_rfl) ?_ ?_))
       ·simp only [AL, EV, seval, hc8]
       ·simp only [AL, EV, seval, hc8]
     ·rintro S ⟨v12, rfl, h⟩; unfold i_RunCost_j7 at h; refine AW_condK (a := .bool v12) (by simp only [EV, seval, h6a, h6b, h6c]) (brK h (fun hc9 h => ?_) (fun hc9 h => ?_))
      ·refine AS hN fun K hK => ?_; simp only [EV, seval]; exact hK _ _ _ (AC ⟨_, rfl, h⟩ [] [] hρ)
      ·refine AS hN fun K hK => ?_; simp only [EV, seval]; exact hK _ _ _ (AC ⟨_, rfl, h⟩ [] [] hρ)
    ·rintro S ⟨v13, rfl, h⟩; unfold i_RunCost_j6 at h; refine AS hN fun K hK => ?_; simp only [EV, seval]; exact hK _ _ _ (AC ⟨_, _, _, rfl, h⟩ [] [] hρ)
   ·exact AW_exit (AC ⟨_, rfl, h⟩ [] [] hρ)
 ·rintro S ⟨v14, rfl, h⟩; unfold i_RunCost_j1 at h; refine AN hN ?_; injection h with h; subst h; exact AX (b' := 64) [(2, .int .i64 v14)] [] [] [] hρ (EQ [])
/- spec.RunCost -/
def s_RunCost_j6 (v8 : Int) (kl1 : Int → Int → Option Int) (v10 : Int) : Option Int :=
  kl1 v10 (IntKind.wrap .i64 (v8 + 1))
def s_RunCost_j7 (v7 v8 : Int) (kl1 : Int → Int → Option Int) (v9 : Bool) : Option Int :=
  br v9 (s_RunCost_j6 v8 kl1 (IntKind.wrap .i64 (v7 + 100))) (s_RunCost_j6 v8 kl1 (IntKind.wrap .i64 (v7 + 1)))
def s_RunCost_j1 (v11 : Int) : Option Int :=
  some v11
def s_RunCost_l1 (a1 : LQ) : Nat → Int → Int → Option Int
  | 0, _, _ => none
  | n1 + 1, v7, v8 =>
  br (decide (v8 < ((a1.length : Int)))) (bO (geti a1 v8) fun q3 => bO (br (q3.1 == 7) (some true) (some (q3.1 == 8))) fun x3 => s_RunCost_j7 v7 v8 (s_RunCost_l1 a1 n1) x3) (s_RunCost_j1 v7)
def s_RunCost (a1 : LQ) : Option Int :=
  s_RunCost_l1 a1 FU 0 0
theorem s_RunCost_ok {a1 : LQ} {r : Int} (h : s_RunCost a1 = some r) :
    Spec Tryz.prog 19 [.sl (encL EIIII a1) a1.length] [] (.int .i64 r) [] := by
 unfold s_RunCost at h; refine SO Tryz.func19 rfl Tryz.ntmps19 fun C hN hρ => ?_; simp only [st0, tmps0, Nat.zero_add, Nat.reduceAdd]; refine AN hN ?_; refine AN hN ?_; refine AW_cutK (fun S => ∃ (v11 : Int), S = ⟨mkT [(3, .int .i64 v11)], mkR [], 64⟩ ∧ s_RunCost_j1 v11 = some r) ?_ ?_
 ·refine AN hN ?_; refine AW_block ?_; refine AW_loopF (fun n S => ∃ (v7 v8 : Int), S = ⟨mkT [(0, .sl (encL EIIII a1) a1.length), (3, .int .i64 v7), (4, .int .i64 v8)], mkR [], 64⟩ ∧ s_RunCost_l1 a1 n v7 v8 = some r) FU ?_ ?_ ?_
  ·exact AC ⟨_, _, rfl, h⟩ [] [] hρ
  ·rintro S ⟨_, _, _, h⟩; rw [s_RunCost_l1] at h; cases h
  ·rintro n1 S ⟨v7, v8, rfl, h⟩; rw [s_RunCost_l1] at h; refine AW_seq ?_; refine AN hN ?_; refine AB h (fun hc7 h => ?_) fun hc7 h => ?_
   ·refine AW_skip (AK ?_); refine AW_cutK (fun S => ∃ (v10 : Int), S = ⟨mkT [(0, .sl (encL EIIII a1) a1.length), (3, .int .i64 v10), (4, .int .i64 v8)], mkR [], 64⟩ ∧ s_RunCost_j6 v8 (s_RunCost_l1 a1 n1) v10 = some r) ?_ ?_
    ·refine AW_block ?_; refine AJ (fun S => ∃ (v9 : Bool), S = ⟨mkT [(0, .sl (encL EIIII a1) a1.length), (3, .int .i64 v7), (4, .int .i64 v8), (24, .bool v9)], mkR [], 64⟩ ∧ s_RunCost_j7 v7 v8 (s_RunCost_l1 a1 n1) v9 = some r) hN ?_ ?_
     ·intro K hK; obtain ⟨q3, h5, h⟩ := bO_inv h; obtain ⟨⟨h6a, h6b⟩, h6c⟩ := geti_E EIIIIl h5; (try simp only [EV, seval] at h6c); obtain ⟨x3, hv3, h⟩ := bO_inv h; rcases br_inv hv3 with ⟨hc8, hv3⟩ | ⟨hc8, hv3⟩
      ·cases hv3; simp only [EV, seval, h6a, h6b, h6c, hc8]; refine hK _ _ _ (show cutK _ _ _ from cutL ⟨_, rfl, h⟩ (Le_can [] [] hρ (by kernel_rfl) ?_ ?_))
       ·simp only [AL, EV, seval, h6a, h6b, h6c, hc8]
       ·simp only [AL, EV, seval, h6a, h6b, h6c, hc8]
      ·cases hv3; simp only [EV, seval, h6a, h6b, h6c, hc8]; refine hK _ _ _ (show cutK _ _ _ from cutL ⟨_, rfl, h⟩ (Le_can [] [] hρ (by kernel_rfl) ?_ ?_))
       ·simp only [AL, EV, seval, h6a, h6b, h6c, hc8]
       ·simp only [AL, EV, seval, h6a, h6b, h6c, hc8]
     ·rintro S ⟨v9, rfl, h⟩; unfold s_RunCost_j7 at h; refine AB h (fun hc9 h => ?_) fun hc9 h => ?_
      ·refine AS hN fun K hK => ?_; simp only [EV, seval]; exact hK _ _ _ (AC ⟨_, rfl, h⟩ [] [] hρ)
      ·refine AS hN fun K hK => ?_; simp only [EV, seval]; exact hK _ _ _ (AC ⟨_, rfl, h⟩ [] [] hρ)
    ·rintro S ⟨v10, rfl, h⟩; unfold s_RunCost_j6 at h; refine AS hN fun K hK => ?_; simp only [EV, seval]; exact hK _ _ _ (AC ⟨_, _, rfl, h⟩ [] [] hρ)
   ·exact AW_exit (AC ⟨_, rfl, h⟩ [] [] hρ)
 ·rintro S ⟨v11, rfl, h⟩; unfold s_RunCost_j1 at h; refine AN hN ?_; injection h with h; subst h; exact AX (b' := 64) [(2, .int .i64 v11)] [] [] [] hρ (EQ [])
/- impl.ShortenRun -/
def i_ShortenRun_j4 (x1 : LQ) (v8 v9 : Int) (v10 : LQ) (kl1 : Int → Int → (LQ) → Option (LQ)) (q4 : Int × Int × Int × Int) (v11 : Bool) : Option (LQ) :=
  br v11 (some x1) (bO (i_one q4.1 0) fun x36 => gd (decide (v10.length + ([(x36.1, x36.2.1, x36.2.2.1, x36.2.2.2)]).length ≤ 16777216)) (kl1 v8 (IntKind.wrap .i64 (v9 + 1)) (v10 ++ ([(x36.1, x36.2.1, x36.2.2.1, x36.2.2.2)]))))
def i_ShortenRun_j5 (v20 : LQ) : Option (LQ) :=
  some v20
def i_ShortenRun_l2 (a1 : LQ) : Nat → Int → Int → (LQ) → Option (LQ)
  | 0, _, _, _ => none
  | n2 + 1, v17, v18, v19 =>
  br (decide (v18 < v17)) (bO (geti a1 0) fun q11 => bO (geti v19 v18) fun q12 => (i_ShortenRun_l2 a1 n2) v17 (IntKind.wrap .i64 (v18 + 1)) (v19.set (Int.toNat v18) ((q12.1, q11.2.1, q12.2.2.1, q12.2.2.2)))) (i_ShortenRun_j5 v19)
def i_ShortenRun_j1 (a1 : LQ) (x1 : LQ) (v12 : LQ) : Option (LQ) :=
  bO (i_ComputeNormalForm v12) fun x37 => br (!x37.2.2.2) (some x1) (bO (i_NormalFormGates x37.2.1 x37.1 x37.2.2.1) fun x38 => bO (i_RunCost x38) fun x39 => bO (i_RunCost a1) fun x40 => br (decide (x40 ≤ x39)) (some x1) (i_ShortenRun_l2 a1 FU ((x38.length : Int)) 0 x38))
def i_ShortenRun_l1 (a1 : LQ) (x1 : LQ) : Nat → Int → Int → (LQ) → Option (LQ)
  | 0, _, _, _ => none
  | n1 + 1, v8, v9, v10 =>
  br (decide (v9 < v8)) (bO (geti a1 v9) fun q4 => bO (i_Arity q4.1) fun x16 => bO (br (x16 != 1) (some true) (bO (geti a1 0) fun q5 => some (q4.2.1 != q5.2.1))) fun x17 => bO (br x17 (some true) (bO (i_in q4.2.1 0 3) fun x18 => some (!x18))) fun x19 => bO (br x19 (some true) (some (q4.2.2.1 != 0))) fun x20 => bO (br x20 (some true) (some (q4.2.2.2 != 0))) fun x21 => i_ShortenRun_j4 x1 v8 v9 v10 (i_ShortenRun_l1 a1 x1 n1) q4 x21) (i_ShortenRun_j1 a1 x1 v10)
def i_ShortenRun (a1 : LQ) : Option (LQ) :=
  bO (i_copyGates a1) fun x1 => i_ShortenRun_l1 a1 x1 FU ((a1.length : Int)) 0 ([] : LQ)
theorem i_ShortenRun_ok {a1 : LQ} {r : LQ} (h : i_ShortenRun a1 = some r) :
    Spec Tryz.prog 38 [.sl (encL EIIII a1) a1.length] [] (.own 0 r.length) [.row 48 4 (encL EIIII r)] := by
 unfold i_ShortenRun at h; refine SO Tryz.func38 rfl Tryz.ntmps38 fun C hN hρ => ?_; simp only [st0, tmps0, Nat.zero_add, Nat.reduceAdd]; refine AN hN ?_; refine AR hN fun K hK => ?_; obtain ⟨x1, h1, h⟩ := bO_inv h; simp only [EV, seval]; refine rC_p (i_copyGates_ok h1) (by simp only [AL, EV, seval]) (le_d rfl) (site_1 (by simp only [EV, seval])) ?_; simp only [EV, seval]; refine hK _ _ _ ?_; clear hK K; refine AN hN ?_; refine AW_cutK (fun S => ∃ (v12 : LQ), S = ⟨mkT [(0, .sl (encL EIIII a1) a1.length), (3, .own 32 x1.length), (4, .own 33 v12.length)], mkR [(32, .row 48 4 (encL EIIII x1)), (33, .row 48 4 (encL EIIII v12))], 64⟩ ∧ i_ShortenRun_j1 a1 x1 v12 = some r) ?_ ?_
 ·refine AN hN ?_; refine AW_block ?_; refine AW_loopF (fun n S => ∃ (v8 v9 : Int) (v10 : LQ), S = ⟨mkT [(0, .sl (encL EIIII a1) a1.length), (3, .own 32 x1.length), (4, .own 33 v10.length), (14, .sl (encL EIIII a1) a1.length), (15, .int .i64 v8), (16, .int .i64 v9)], mkR [(32, .row 48 4 (encL EIIII x1)), (33, .row 48 4 (encL EIIII v10))], 64⟩ ∧ i_ShortenRun_l1 a1 x1 n v8 v9 v10 = some r) FU ?_ ?_ ?_
  ·exact AC ⟨_, _, _, rfl, h⟩ [(32, some 1104), (33, some 2112)] [] hρ
  ·rintro S ⟨_, _, _, _, h⟩; rw [i_ShortenRun_l1] at h; cases h
  ·rintro n1 S ⟨v8, v9, v10, rfl, h⟩; rw [i_ShortenRun_l1] at h; refine AN hN ?_; refine AW_seq ?_; refine AB h (fun hc13 h => ?_) fun hc13 h => ?_
   ·refine AW_skip (AK ?_); refine AW_seq ?_; refine AW_block ?_; refine AR hN fun K hK => ?_; obtain ⟨q4, h16, h⟩ := bO_inv h; obtain ⟨⟨h17a, h17b⟩, h17c⟩ := geti_E EIIIIl h16; (try simp only [EV, seval] at h17c); simp only [EV, seval, h17a, h17b, h17c]; refine hK _ _ _ ?_; clear hK K; refine AW_seq ?_; refine AJ (fun S => ∃ (v11 : Bool), S = ⟨mkT [(0, .sl (encL EIIII a1) a1.length), (3, .own 32 x1.length), (4, .own 33 v10.length), (6, .ptr 34 0), (14, .sl (encL EIIII a1) a1.length), (15, .int .i64 v8), (16, .int .i64 v9), (48, .bool v11)], mkR [(32, .row 48 4 (encL EIIII x1)), (33, .row 48 4 (encL EIIII v10)), (34, .box 48 [.int .i64 q4.1, .int .i64 q4.2.1, .int .i64 q4.2.2.1, .int .i64 q4.2.2.2])], 64⟩ ∧ i_ShortenRun_j4 x1 v8 v9 v10 (i_ShortenRun_l1 a1 x1 n1) q4 v11 = some r) hN ?_ ?_
    ·intro K hK; obtain ⟨x16, h18, h⟩ := bO_inv h; simp only [EV, seval]; refine CP (i_Arity_ok h18) ?_; obtain ⟨x17, hv9, h⟩ := bO_inv h; rcases br_inv hv9 with ⟨hc14, hv9⟩ | ⟨hc14, hv9⟩
     ·cases hv9; obtain ⟨x22, hv13, h⟩ := bO_inv h; replace hv13 := br_t hv13; cases hv13; (try dsimp only at h); obtain ⟨x23, hv14, h⟩ := bO_inv h; replace hv14 := br_t hv14; cases hv14; (try dsimp only at h); obtain ⟨x24, hv15, h⟩ := bO_inv h; replace hv15 := br_t hv15; cases hv15; (try dsimp only at h); simp only [EV, seval, hc14]; refine hK _ _ _ (show cutK _ _ _ from cutL ⟨_, rfl, h⟩ (Le_can [(32, some 32), (33, some 33), (34, some 1120)] [] hρ (by kernel_rfl) ?_ ?_))
      ·simp only [AL, EV, seval, hc14]
      ·simp only [AL, EV, seval, hc14]
     ·obtain ⟨q6, h22, hv9⟩ := bO_inv hv9; obtain ⟨⟨h23a, h23b⟩, h23c⟩ := geti_E EIIIIl h22; (try simp only [EV, seval] at h23c); (try simp only [EV, seval, h23c] at h17c); cases hv9; obtain ⟨x26, hv16, h⟩ := bO_inv h; rcases br_inv hv16 with ⟨hc18, hv16⟩ | ⟨hc18, hv16⟩
      ·cases hv16; obtain ⟨x29, hv19, h⟩ := bO_inv h; replace hv19 := br_t hv19; cases hv19; (try dsimp only at h); obtain ⟨x30, hv20, h⟩ := bO_inv h; replace hv20 := br_t hv20; cases hv20; (try dsimp only at h); simp only [EV, seval, hc14, h23a, h23b, h23c, hc18]; refine hK _ _ _ (show cutK _ _ _ from cutL ⟨_, rfl, h⟩ (Le_can [(32, some 32), (33, some 33), (34, some 1120)] [] hρ (by kernel_rfl) ?_ ?_))
       ·simp only [AL, EV, seval, hc14, h23a, h23b, h23c, hc18]
       ·simp only [AL, EV, seval, hc14, h23a, h23b, h23c, hc18]
      ·obtain ⟨x31, h25, hv16⟩ := bO_inv hv16; simp only [EV, seval, hc14, h23a, h23b, h23c, hc18]; refine rC_p (i_in_ok h25) (by simp only [AL, EV, seval, hc14, h23a, h23b, h23c, hc18]) (le_d rfl) (no_j rfl) ?_; cases hv16; obtain ⟨x32, hv21, h⟩ := bO_inv h; rcases br_inv hv21 with ⟨hc21, hv21⟩ | ⟨hc21, hv21⟩
       ·cases hv21; obtain ⟨x34, hv23, h⟩ := bO_inv h; replace hv23 := br_t hv23; cases hv23; (try dsimp only at h); simp only [EV, seval, hc14, h23a, h23b, h23c, hc18, hc21]; refine hK _ _ _ (show cutK _ _ _ from cutL ⟨_, rfl, h⟩ (Le_can [(32, some 32), (33, some 33), (34, some 1120)] [] hρ (by kernel_rfl) ?_ ?_))
        ·simp only [AL, EV, seval, hc14, h23a, h23b, h23c, hc18, hc21]
        ·simp only [AL, EV, seval, hc14, h23a, h23b, h23c, hc18, hc21]
       ·cases hv21; obtain ⟨x35, hv24, h⟩ := bO_inv h; rcases br_inv hv24 with ⟨hc23, hv24⟩ | ⟨hc23, hv24⟩
        ·cases hv24; simp only [EV, seval, hc14, h23a, h23b, h23c, hc18, hc21, hc23]; refine hK _ _ _ (show cutK _ _ _ from cutL ⟨_, rfl, h⟩ (Le_can [(32, some 32), (33, some 33), (34, some 1120)] [] hρ (by kernel_rfl) ?_ ?_))
         ·simp only [AL, EV, seval, hc14, h23a, h23b, h23c, hc18, hc21, hc23]
         ·simp only [AL, EV, seval, hc14, h23a, h23b, h23c, hc18, hc21, hc23]
        ·cases hv24; simp only [EV, seval, hc14, h23a, h23b, h23c, hc18, hc21, hc23]; refine hK _ _ _ (show cutK _ _ _ from cutL ⟨_, rfl, h⟩ (Le_can [(32, some 32), (33, some 33), (34, some 1120)] [] hρ (by kernel_rfl) ?_ ?_))
         ·simp only [AL, EV, seval, hc14, h23a, h23b, h23c, hc18, hc21, hc23]
         ·simp only [AL, EV, seval, hc14, h23a, h23b, h23c, hc18, hc21, hc23]
    ·rintro S ⟨v11, rfl, h⟩; unfold i_ShortenRun_j4 at h; refine AW_condK (a := .bool v11) (by simp only [EV, seval, h17a, h17b, h17c]) (brK h (fun hc24 h => ?_) (fun hc24 h => ?_))
     ·refine AN hN ?_; injection h with h; subst h; exact AX (b' := 64) [(2, .own 32 x1.length)] [(32, .row 48 4 (encL EIIII x1))] [(32, some 32)] [] hρ (EQ [32])
     ·refine AW_skip (AK ?_); refine AS hN fun K hK => ?_; obtain ⟨x36, h26, h⟩ := bO_inv h; simp only [EV, seval]; refine CP (i_one_ok h26) ?_; obtain ⟨h27, h⟩ := gd_inv h; replace h27 := of_decide_eq_true h27; (try simp only [EV, seval] at h27); simp only [EV, seval, h27]; refine hK _ _ _ (show AW _ _ _ _ _ from ?_); refine AS hN fun K hK => ?_; simp only [EV, seval]; exact hK _ _ _ (AC ⟨_, _, _, rfl, h⟩ [(32, some 32), (33, some 144)] [] hρ)
   ·exact AW_exit (AC ⟨_, rfl, h⟩ [(32, some 32), (33, some 33)] [] hρ)
 ·rintro S ⟨v12, rfl, h⟩; unfold i_ShortenRun_j1 at h; refine AR hN fun K hK => ?_; obtain ⟨x37, h28, h⟩ := bO_inv h; simp only [EV, seval]; refine rC_l (i_ComputeNormalForm_ok h28) (by simp only [AL, EV, seval]) (by simp only [AL, EF, and_self]) (le_d rfl) (site_2 (by simp only [EV, seval])) ?_; simp only [EV, seval]; refine hK _ _ _ ?_; clear hK K; refine AW_seq ?_; refine AN hN ?_; refine AB h (fun hc25 h => ?_) fun hc25 h => ?_
  ·refine AN hN ?_; injection h with h; subst h; exact AX (b' := 64) [(2, .own 32 x1.length)] [(32, .row 48 4 (encL EIIII x1))] [(32, some 32)] [] hρ (EQ [32])
  ·refine AW_skip (AK ?_); refine AR hN fun K hK => ?_; obtain ⟨x38, h29, h⟩ := bO_inv h; simp only [EV, seval]; refine rC_l (i_NormalFormGates_ok h29) (by simp only [AL, EV, seval]) (by simp only [AL, EF, and_self]) (le_d rfl) (site_1 (by simp only [EV, seval])) ?_; simp only [EV, seval]; refine hK _ _ _ ?_; clear hK K; refine AW_seq ?_; refine AR hN fun K hK => ?_; obtain ⟨x39, h30, h⟩ := bO_inv h; simp only [EV, seval]; refine rC_l (i_RunCost_ok h30) (by simp only [AL, EV, seval]) (by simp only [AL, EF, and_self]) (le_d rfl) (no_j rfl) ?_; obtain ⟨x40, h31, h⟩ := bO_inv h; simp only [EV, seval]; refine CP (i_RunCost_ok h31) ?_; simp only [EV, seval]; refine hK _ _ _ ?_; clear hK K; refine AB h (fun hc26 h => ?_) fun hc26 h => ?_
   ·refine AN hN ?_; injection h with h; subst h; exact AX (b' := 64) [(2, .own 32 x1.length)] [(32, .row 48 4 (encL EIIII x1))] [(32, some 32)] [] hρ (EQ [32])
   ·refine AW_skip (AK ?_); refine AW_cutK (fun S => ∃ (v20 : LQ), S = ⟨mkT [(9, .own 32 v20.length)], mkR [(32, .row 48 4 (encL EIIII v20))], 64⟩ ∧ i_ShortenRun_j5 v20 = some r) ?_ ?_
    ·refine AN hN ?_; refine AW_block ?_; refine AW_loopF (fun n S => ∃ (v17 v18 : Int) (v19 : LQ), S = ⟨mkT [(0, .sl (encL EIIII a1) a1.length), (9, .own 32 v19.length), (74, .int .i64 v17), (75, .int .i64 v18)], mkR [(32, .row 48 4 (encL EIIII v19))], 64⟩ ∧ i_ShortenRun_l2 a1 n v17 v18 v19 = some r) FU ?_ ?_ ?_
     ·exact AC ⟨_, _, _, rfl, h⟩ [(32, some 2128)] [] hρ
     ·rintro S ⟨_, _, _, _, h⟩; rw [i_ShortenRun_l2] at h; cases h
     ·rintro n2 S ⟨v17, v18, v19, rfl, h⟩; rw [i_ShortenRun_l2] at h; refine AN hN ?_; refine AW_seq ?_; refine AB h (fun hc29 h => ?_) fun hc29 h => ?_
      ·refine AW_skip (AK ?_); refine AW_seq ?_; refine AW_block ?_; refine AN hN ?_; refine AS hN fun K hK => ?_; obtain ⟨q11, h42, h⟩ := bO_inv h; obtain ⟨⟨h43a, h43b⟩, h43c⟩ := geti_E EIIIIl h42; (try simp only [EV, seval] at h43c); obtain ⟨q12, h44, h⟩ := bO_inv h; obtain ⟨⟨h45a, h45b⟩, h45c⟩ := geti_E EIIIIl h44; (try simp only [EV, seval] at h45c); have h46 := set_E EIIIIl ((q12.1, q11.2.1, q12.2.2.1, q12.2.2.2)) 1 [.int .i64 q11.2.1] h44 (Nat.le_of_ble_eq_true rfl) rfl; obtain ⟨h46a, h46b⟩ := h46; (try simp only [EV, seval] at h46a); (try simp only [EV, seval] at h46b); simp only [EV, seval, h43a, h43b, h43c, h45a, h45b, h45c, h46a, h46b]; refine hK _ _ _ (show AW _ _ _ _ _ from ?_); refine AS hN fun K hK => ?_; simp only [EV, seval, h43c]; refine hK _ _ _ (show cutK _ _ _ from cutL ⟨_, _, _, rfl, h⟩ (Le_can [(32, some 32)] [] hρ (by kernel_rfl) ?_ ?_))
       ·simp only [AL, EV, seval, h43c]
       ·simp only [AL, EV, seval, h43c]
      ·exact AW_exit (AC ⟨_, rfl, h⟩ [(32, some 32)] [] hρ)
    ·rintro S ⟨v20, rfl, h⟩; unfold i_ShortenRun_j5 at h; refine AN hN ?_; injection h with h; subst h; exact AX (b' := 64) [(2, .own 32 v20.length)] [(32, .row 48 4 (encL EIIII v20))] [(32, some 32)] [] hρ (EQ [32])
/- spec.ShortenRun -/
def s_ShortenRun_j4 (a1 : LQ) (v6 : Int) (v7 : LQ) (kl1 : Int → (LQ) → Option (LQ)) (q4 : Int × Int × Int × Int) (v8 : Bool) : Option (LQ) :=
  br v8 (some a1) (bO (s_l14One q4.1 0) fun x18 => gd (decide (v7.length + ([(x18.1, x18.2.1, x18.2.2.1, x18.2.2.2)]).length ≤ 16777216)) (kl1 (IntKind.wrap .i64 (v6 + 1)) (v7 ++ ([(x18.1, x18.2.1, x18.2.2.1, x18.2.2.2)]))))
def s_ShortenRun_j5 (v14 : LQ) : Option (LQ) :=
  some v14
def s_ShortenRun_l2 (a1 : LQ) : Nat → Int → (LQ) → Option (LQ)
  | 0, _, _ => none
  | n2 + 1, v12, v13 =>
  br (decide (v12 < ((v13.length : Int)))) (bO (geti a1 0) fun q12 => bO (geti v13 v12) fun q13 => (s_ShortenRun_l2 a1 n2) (IntKind.wrap .i64 (v12 + 1)) (v13.set (Int.toNat v12) ((q13.1, q12.2.1, q13.2.2.1, q13.2.2.2)))) (s_ShortenRun_j5 v13)
def s_ShortenRun_j1 (a1 : LQ) (v9 : LQ) : Option (LQ) :=
  br (decide (((a1.length : Int)) < 2)) (some a1) (bO (s_ComputeNormalForm v9) fun x19 => bO (s_NormalFormGates x19.2.1 x19.1 x19.2.2.1) fun x20 => bO (s_RunCost x20) fun x21 => bO (s_RunCost a1) fun x22 => br (decide (x22 ≤ x21)) (some a1) (s_ShortenRun_l2 a1 FU 0 x20))
def s_ShortenRun_l1 (a1 : LQ) : Nat → Int → (LQ) → Option (LQ)
  | 0, _, _ => none
  | n1 + 1, v6, v7 =>
  br (decide (v6 < ((a1.length : Int)))) (bO (geti a1 v6) fun q4 => bO (s_Arity q4.1) fun x11 => bO (br (x11 != 1) (some true) (bO (s_IsValidGate q4.1 q4.2.1 q4.2.2.1 q4.2.2.2 4) fun x12 => some (!x12))) fun x13 => bO (br x13 (some true) (bO (geti a1 0) fun q5 => some (q4.2.1 != q5.2.1))) fun x14 => s_ShortenRun_j4 a1 v6 v7 (s_ShortenRun_l1 a1 n1) q4 x14) (s_ShortenRun_j1 a1 v7)
def s_ShortenRun (a1 : LQ) : Option (LQ) :=
  gd (decide (([] : LQ).length + a1.length ≤ 16777216)) (s_ShortenRun_l1 a1 FU 0 ([] : LQ))
theorem s_ShortenRun_ok {a1 : LQ} {r : LQ} (h : s_ShortenRun a1 = some r) :
    Spec Tryz.prog 43 [.sl (encL EIIII a1) a1.length] [] (.own 0 r.length) [.row 48 4 (encL EIIII r)] := by
 unfold s_ShortenRun at h; refine SO Tryz.func43 rfl Tryz.ntmps43 fun C hN hρ => ?_; simp only [st0, tmps0, Nat.zero_add, Nat.reduceAdd]; refine AN hN ?_; refine AR hN fun K hK => ?_; obtain ⟨h1, h⟩ := gd_inv h; replace h1 := of_decide_eq_true h1; (try simp only [EV, seval] at h1); have h2 := encL_len EIIIIl a1; simp only [EV, seval, h1, h2]; refine hK _ _ _ ?_; clear hK K; refine AN hN ?_; refine AW_cutK (fun S => ∃ (v9 : LQ), S = ⟨mkT [(0, .sl (encL EIIII a1) a1.length), (3, .own 32 a1.length), (4, .own 33 v9.length)], mkR [(32, .row 48 4 (encL EIIII a1)), (33, .row 48 4 (encL EIIII v9))], 64⟩ ∧ s_ShortenRun_j1 a1 v9 = some r) ?_ ?_
 ·refine AN hN ?_; refine AW_block ?_; refine AW_loopF (fun n S => ∃ (v6 : Int) (v7 : LQ), S = ⟨mkT [(0, .sl (encL EIIII a1) a1.length), (3, .own 32 a1.length), (4, .own 33 v7.length), (5, .int .i64 v6)], mkR [(32, .row 48 4 (encL EIIII a1)), (33, .row 48 4 (encL EIIII v7))], 64⟩ ∧ s_ShortenRun_l1 a1 n v6 v7 = some r) FU ?_ ?_ ?_
  ·exact AC ⟨_, _, rfl, h⟩ [(32, some 1120), (33, some 2112)] [] hρ
  ·rintro S ⟨_, _, _, h⟩; rw [s_ShortenRun_l1] at h; cases h
  ·rintro n1 S ⟨v6, v7, rfl, h⟩; rw [s_ShortenRun_l1] at h; refine AW_seq ?_; refine AN hN ?_; refine AB h (fun hc9 h => ?_) fun hc9 h => ?_
   ·refine AW_skip (AK ?_); refine AW_seq ?_; refine AW_block ?_; refine AR hN fun K hK => ?_; obtain ⟨q4, h17, h⟩ := bO_inv h; obtain ⟨⟨h18a, h18b⟩, h18c⟩ := geti_E EIIIIl h17; (try simp only [EV, seval] at h18c); simp only [EV, seval, h18a, h18b, h18c]; refine hK _ _ _ ?_; clear hK K; refine AW_seq ?_; refine AJ (fun S => ∃ (v8 : Bool), S = ⟨mkT [(0, .sl (encL EIIII a1) a1.length), (3, .own 32 a1.length), (4, .own 33 v7.length), (5, .int .i64 v6), (6, .ptr 34 0), (42, .bool v8)], mkR [(32, .row 48 4 (encL EIIII a1)), (33, .row 48 4 (encL EIIII v7)), (34, .box 48 [.int .i64 q4.1, .int .i64 q4.2.1, .int .i64 q4.2.2.1, .int .i64 q4.2.2.2])], 64⟩ ∧ s_ShortenRun_j4 a1 v6 v7 (s_ShortenRun_l1 a1 n1) q4 v8 = some r) hN ?_ ?_
    ·intro K hK; obtain ⟨x11, h19, h⟩ := bO_inv h; simp only [EV, seval]; refine CP (s_Arity_ok h19) ?_; obtain ⟨x13, hv5, h⟩ := bO_inv h; rcases br_inv hv5 with ⟨hc10, hv5⟩ | ⟨hc10, hv5⟩
     ·cases hv5; obtain ⟨x15, hv7, h⟩ := bO_inv h; replace hv7 := br_t hv7; cases hv7; (try dsimp only at h); simp only [EV, seval, hc10]; refine hK _ _ _ (show cutK _ _ _ from cutL ⟨_, rfl, h⟩ (Le_can [(32, some 32), (33, some 33), (34, some 1152)] [] hρ (by kernel_rfl) ?_ ?_))
      ·simp only [AL, EV, seval, hc10]
      ·simp only [AL, EV, seval, hc10]
     ·obtain ⟨x16, h23, hv5⟩ := bO_inv hv5; simp only [EV, seval, hc10]; refine rC_p (s_IsValidGate_ok h23) (by simp only [AL, EV, seval, hc10]) (le_d rfl) (no_j rfl) ?_; cases hv5; obtain ⟨x17, hv8, h⟩ := bO_inv h; rcases br_inv hv8 with ⟨hc12, hv8⟩ | ⟨hc12, hv8⟩
      ·cases hv8; simp only [EV, seval, hc10, hc12]; refine hK _ _ _ (show cutK _ _ _ from cutL ⟨_, rfl, h⟩ (Le_can [(32, some 32), (33, some 33), (34, some 1152)] [] hρ (by kernel_rfl) ?_ ?_))
       ·simp only [AL, EV, seval, hc10, hc12]
       ·simp only [AL, EV, seval, hc10, hc12]
      ·obtain ⟨q7, h26, hv8⟩ := bO_inv hv8; obtain ⟨⟨h27a, h27b⟩, h27c⟩ := geti_E EIIIIl h26; (try simp only [EV, seval] at h27c); (try simp only [EV, seval, h27c] at h18c); cases hv8; simp only [EV, seval, hc10, hc12, h27a, h27b, h27c]; refine hK _ _ _ (show cutK _ _ _ from cutL ⟨_, rfl, h⟩ (Le_can [(32, some 32), (33, some 33), (34, some 1152)] [] hρ (by kernel_rfl) ?_ ?_))
       ·simp only [AL, EV, seval, hc10, hc12, h27a, h27b, h27c]
       ·simp only [AL, EV, seval, hc10, hc12, h27a, h27b, h27c]
    ·rintro S ⟨v8, rfl, h⟩; unfold s_ShortenRun_j4 at h; refine AW_condK (a := .bool v8) (by simp only [EV, seval, h18a, h18b, h18c]) (brK h (fun hc13 h => ?_) (fun hc13 h => ?_))
     ·refine AN hN ?_; injection h with h; subst h; exact AX (b' := 64) [(2, .own 32 a1.length)] [(32, .row 48 4 (encL EIIII a1))] [(32, some 32)] [] hρ (EQ [32])
     ·refine AW_skip (AK ?_); refine AS hN fun K hK => ?_; obtain ⟨x18, h28, h⟩ := bO_inv h; simp only [EV, seval]; refine CP (s_l14One_ok h28) ?_; obtain ⟨h29, h⟩ := gd_inv h; replace h29 := of_decide_eq_true h29; (try simp only [EV, seval] at h29); simp only [EV, seval, h29]; refine hK _ _ _ (show AW _ _ _ _ _ from ?_); refine AS hN fun K hK => ?_; simp only [EV, seval]; exact hK _ _ _ (AC ⟨_, _, rfl, h⟩ [(32, some 32), (33, some 144)] [] hρ)
   ·exact AW_exit (AC ⟨_, rfl, h⟩ [(32, some 32), (33, some 33)] [] hρ)
 ·rintro S ⟨v9, rfl, h⟩; unfold s_ShortenRun_j1 at h; refine AW_seq ?_; refine AN hN ?_; refine AB h (fun hc14 h => ?_) fun hc14 h => ?_
  ·refine AN hN ?_; injection h with h; subst h; exact AX (b' := 64) [(2, .own 32 a1.length)] [(32, .row 48 4 (encL EIIII a1))] [(32, some 32)] [] hρ (EQ [32])
  ·refine AW_skip (AK ?_); refine AR hN fun K hK => ?_; obtain ⟨x19, h30, h⟩ := bO_inv h; simp only [EV, seval]; refine rC_l (s_ComputeNormalForm_ok h30) (by simp only [AL, EV, seval]) (by simp only [AL, EF, and_self]) (le_d rfl) (site_2 (by simp only [EV, seval])) ?_; simp only [EV, seval]; refine hK _ _ _ ?_; clear hK K; refine AR hN fun K hK => ?_; obtain ⟨x20, h31, h⟩ := bO_inv h; simp only [EV, seval]; refine rC_l (s_NormalFormGates_ok h31) (by simp only [AL, EV, seval]) (by simp only [AL, EF, and_self]) (le_d rfl) (site_1 (by simp only [EV, seval])) ?_; simp only [EV, seval]; refine hK _ _ _ ?_; clear hK K; refine AW_seq ?_; refine AR hN fun K hK => ?_; obtain ⟨x21, h32, h⟩ := bO_inv h; simp only [EV, seval]; refine rC_l (s_RunCost_ok h32) (by simp only [AL, EV, seval]) (by simp only [AL, EF, and_self]) (le_d rfl) (no_j rfl) ?_; obtain ⟨x22, h33, h⟩ := bO_inv h; simp only [EV, seval]; refine CP (s_RunCost_ok h33) ?_; simp only [EV, seval]; refine hK _ _ _ ?_; clear hK K; refine AB h (fun hc15 h => ?_) fun hc15 h => ?_
   ·refine AN hN ?_; injection h with h; subst h; exact AX (b' := 64) [(2, .own 32 a1.length)] [(32, .row 48 4 (encL EIIII a1))] [(32, some 32)] [] hρ (EQ [32])
   ·refine AW_skip (AK ?_); refine AW_cutK (fun S => ∃ (v14 : LQ), S = ⟨mkT [(9, .own 32 v14.length)], mkR [(32, .row 48 4 (encL EIIII v14))], 64⟩ ∧ s_ShortenRun_j5 v14 = some r) ?_ ?_
    ·refine AN hN ?_; refine AW_block ?_; refine AW_loopF (fun n S => ∃ (v12 : Int) (v13 : LQ), S = ⟨mkT [(0, .sl (encL EIIII a1) a1.length), (9, .own 32 v13.length), (10, .int .i64 v12)], mkR [(32, .row 48 4 (encL EIIII v13))], 64⟩ ∧ s_ShortenRun_l2 a1 n v12 v13 = some r) FU ?_ ?_ ?_
     ·exact AC ⟨_, _, rfl, h⟩ [(32, some 2128)] [] hρ
     ·rintro S ⟨_, _, _, h⟩; rw [s_ShortenRun_l2] at h; cases h
     ·rintro n2 S ⟨v12, v13, rfl, h⟩; rw [s_ShortenRun_l2] at h; refine AW_seq ?_; refine AN hN ?_; refine AB h (fun hc18 h => ?_) fun hc18 h => ?_
      ·refine AW_skip (AK ?_); refine AW_seq ?_; refine AW_block ?_; refine AS hN fun K hK => ?_; obtain ⟨q12, h44, h⟩ := bO_inv h; obtain ⟨⟨h45a, h45b⟩, h45c⟩ := geti_E EIIIIl h44; (try simp only [EV, seval] at h45c); obtain ⟨q13, h46, h⟩ := bO_inv h; obtain ⟨⟨h47a, h47b⟩, h47c⟩ := geti_E EIIIIl h46; (try simp only [EV, seval] at h47c); have h48 := set_E EIIIIl ((q13.1, q12.2.1, q13.2.2.1, q13.2.2.2)) 1 [.int .i64 q12.2.1] h46 (Nat.le_of_ble_eq_true rfl) rfl; obtain ⟨h48a, h48b⟩ := h48; (try simp only [EV, seval] at h48a); (try simp only [EV, seval] at h48b); simp only [EV, seval, h45a, h45b, h45c, h47a, h47b, h47c, h48a, h48b]; refine hK _ _ _ (show AW _ _ _ _ _ from ?_); refine AS hN fun K hK => ?_; simp only [EV, seval, h45c]; refine hK _ _ _ (show cutK _ _ _ from cutL ⟨_, _, rfl, h⟩ (Le_can [(32, some 32)] [] hρ (by kernel_rfl) ?_ ?_))
       ·simp only [AL, EV, seval, h45c]
       ·simp only [AL, EV, seval, h45c]
      ·exact AW_exit (AC ⟨_, rfl, h⟩ [(32, some 32)] [] hρ)
    ·rintro S ⟨v14, rfl, h⟩; unfold s_ShortenRun_j5 at h; refine AN hN ?_; injection h with h; subst h; exact AX (b' := 64) [(2, .own 32 v14.length)] [(32, .row 48 4 (encL EIIII v14))] [(32, some 32)] [] hρ (EQ [32])
end Go.Proofs.YtfjopjalhllplaaGreat
/- Models of functions, and that the functions do what the models say; printed by a program. -/
namespace Go.Proofs.YtfjopjalhllplaaGreat
open Go.RowKit
set_option maxRecDepth 100000
set_option linter.unusedVariables false
set_option linter.unusedSimpArgs false
set_option linter.defProp false
set_option maxHeartbeats 4000000
/- laws.sameGates -/
def l_sameGates_j1 : Option Bool :=
  some true
def l_sameGates_l1 (a1 : LQ) (a2 : LQ) : Nat → Int → Option Bool
  | 0, _ => none
  | n1 + 1, v2 =>
  br (decide (v2 < ((a1.length : Int)))) (bO (geti a1 v2) fun q5 => bO (geti a2 v2) fun q6 => br (!((q5.1 == q6.1) && ((q5.2.1 == q6.2.1) && ((q5.2.2.1 == q6.2.2.1) && (q5.2.2.2 == q6.2.2.2))))) (some false) ((l_sameGates_l1 a1 a2 n1) (IntKind.wrap .i64 (v2 + 1)))) (l_sameGates_j1)
def l_sameGates (a1 : LQ) (a2 : LQ) : Option Bool :=
  br (((a1.length : Int)) != ((a2.length : Int))) (some false) (l_sameGates_l1 a1 a2 FU 0)
theorem l_sameGates_ok {a1 : LQ} {a2 : LQ} {r : Bool} (h : l_sameGates a1 a2 = some r) :
    Spec Tryz.prog 16 [.sl (encL EIIII a1) a1.length, .sl (encL EIIII a2) a2.length] [] (.bool r) [] := by
 unfold l_sameGates at h; refine SO Tryz.func16 rfl Tryz.ntmps16 fun C hN hρ => ?_; simp only [st0, tmps0, Nat.zero_add, Nat.reduceAdd]; refine AN hN ?_; refine AW_seq ?_; refine AN hN ?_; refine AB h (fun hc1 h => ?_) fun hc1 h => ?_
 ·refine AN hN ?_; injection h with h; subst h; exact AX (b' := 64) [(4, .bool false)] [] [] [] hρ (EQ [])
 ·refine AW_skip (AK ?_); refine AW_cutK (fun S => S = ⟨mkT [], mkR [], 64⟩ ∧ l_sameGates_j1 = some r) ?_ ?_
  ·refine AN hN ?_; refine AW_block ?_; refine AW_loopF (fun n S => ∃ (v2 : Int), S = ⟨mkT [(0, .sl (encL EIIII a1) a1.length), (1, .sl (encL EIIII a2) a2.length), (5, .int .i64 v2)], mkR [], 64⟩ ∧ l_sameGates_l1 a1 a2 n v2 = some r) FU ?_ ?_ ?_
   ·exact AC ⟨_, rfl, h⟩ [] [] hρ
   ·rintro S ⟨_, _, h⟩; rw [l_sameGates_l1] at h; cases h
   ·rintro n1 S ⟨v2, rfl, h⟩; rw [l_sameGates_l1] at h; refine AW_seq ?_; refine AN hN ?_; refine AB h (fun hc6 h => ?_) fun hc6 h => ?_
    ·refine AW_skip (AK ?_); refine AW_seq ?_; refine AW_block ?_; refine AR hN fun K hK => ?_; obtain ⟨q5, h9, h⟩ := bO_inv h; obtain ⟨⟨h10a, h10b⟩, h10c⟩ := geti_E EIIIIl h9; (try simp only [EV, seval] at h10c); obtain ⟨q6, h11, h⟩ := bO_inv h; obtain ⟨⟨h12a, h12b⟩, h12c⟩ := geti_E EIIIIl h11; (try simp only [EV, seval] at h12c); simp only [EV, seval, h10a, h10b, h10c, h12a, h12b, h12c]; refine hK _ _ _ ?_; clear hK K; refine AW_condK (a := .bool (!((q5.1 == q6.1) && ((q5.2.1 == q6.2.1) && ((q5.2.2.1 == q6.2.2.1) && (q5.2.2.2 == q6.2.2.2)))))) (by simp only [EV, seval, h10a, h10b, h10c, h12a, h12b, h12c]) (brK h (fun hc7 h => ?_) (fun hc7 h => ?_))
     ·refine AN hN ?_; injection h with h; subst h; exact AX (b' := 64) [(4, .bool false)] [] [] [] hρ (EQ [])
     ·refine AW_skip (AK ?_); refine AS hN fun K hK => ?_; simp only [EV, seval]; exact hK _ _ _ (AC ⟨_, rfl, h⟩ [] [] hρ)
    ·exact AW_exit (AC ⟨rfl, h⟩ [] [] hρ)
  ·rintro S ⟨rfl, h⟩; unfold l_sameGates_j1 at h; refine AN hN ?_; injection h with h; subst h; exact AX (b' := 64) [(4, .bool true)] [] [] [] hρ (EQ [])
end Go.Proofs.YtfjopjalhllplaaGreat
/- Models of functions, and that the functions do what the models say; printed by a program. -/
namespace Go.Proofs.YtfjopjalhllplaaGreat
open Go.RowKit
set_option maxRecDepth 100000
set_option linter.unusedVariables false
set_option linter.unusedSimpArgs false
set_option linter.defProp false
set_option maxHeartbeats 4000000
/- laws.apart -/
def l_apart_j4 (v8 : Int) (v9 : List (LF)) (v10 : List (LF)) (kl1 : Int → (List (LF)) → (List (LF)) → Option (Int × Bool)) (x12 : LF × Bool) (x14 : LF × Bool) (v11 : Bool) : Option (Int × Bool) :=
  br v11 (some (0, false)) (gd (decide (v9.length + ([x12.1]).length ≤ 16777216)) (gd (decide (v10.length + ([x14.1]).length ≤ 16777216)) (kl1 (IntKind.wrap .i64 (v8 + 1)) (v9 ++ ([x12.1])) (v10 ++ ([x14.1])))))
def l_apart_j1 (v12 : List (LF)) (v13 : List (LF)) : Option (Int × Bool) :=
  bO (s_GlobalPhase v12 v13) fun x16 => some (x16.1, x16.2)
def l_apart_l1 (a1 : LQ) (a2 : LQ) (a3 : Int) : Nat → Int → (List (LF)) → (List (LF)) → Option (Int × Bool)
  | 0, _, _, _ => none
  | n1 + 1, v8, v9, v10 =>
  gd (decide (¬ (IntKind.wrap .u64 a3) < 0)) (br (decide (v8 < (IntKind.wrap .i64 (1 * 2 ^ min (Int.toNat (IntKind.wrap .u64 a3)) (IntKind.bits .i64))))) (bO (s_BasisState a3 v8) fun x11 => bO (s_ApplyGates a1 x11) fun x12 => bO (s_BasisState a3 v8) fun x13 => bO (s_ApplyGates a2 x13) fun x14 => bO (br (!x12.2) (some true) (some (!x14.2))) fun x15 => l_apart_j4 v8 v9 v10 (l_apart_l1 a1 a2 a3 n1) x12 x14 x15) (l_apart_j1 v9 v10))
def l_apart (a1 : LQ) (a2 : LQ) (a3 : Int) : Option (Int × Bool) :=
  l_apart_l1 a1 a2 a3 FU 0 ([] : List (LF)) ([] : List (LF))
theorem l_apart_ok {a1 : LQ} {a2 : LQ} {a3 : Int} {r : Int × Bool} (h : l_apart a1 a2 a3 = some r) :
    Spec Tryz.prog 21 [.sl (encL EIIII a1) a1.length, .sl (encL EIIII a2) a2.length, .int .i64 a3] [] (.tup [.int .i64 r.1, .bool r.2]) [] := by
 unfold l_apart at h; refine SO Tryz.func21 rfl Tryz.ntmps21 fun C hN hρ => ?_; simp only [st0, tmps0, Nat.zero_add, Nat.reduceAdd]; refine AN hN ?_; refine AN hN ?_; refine AN hN ?_; refine AW_cutK (fun S => ∃ (v12 : List (LF)) (v13 : List (LF)), S = ⟨mkT [(8, .own 32 v12.length), (9, .own 33 v13.length)], mkR [(32, .row 76 1 (encL ELIIIIIE v12)), (33, .row 76 1 (encL ELIIIIIE v13))], 64⟩ ∧ l_apart_j1 v12 v13 = some r) ?_ ?_
 ·refine AN hN ?_; refine AW_block ?_; refine AW_loopF (fun n S => ∃ (v8 : Int) (v9 : List (LF)) (v10 : List (LF)), S = ⟨mkT [(0, .sl (encL EIIII a1) a1.length), (1, .sl (encL EIIII a2) a2.length), (2, .int .i64 a3), (8, .own 32 v9.length), (9, .own 33 v10.length), (10, .int .i64 v8)], mkR [(32, .row 76 1 (encL ELIIIIIE v9)), (33, .row 76 1 (encL ELIIIIIE v10))], 64⟩ ∧ l_apart_l1 a1 a2 a3 n v8 v9 v10 = some r) FU ?_ ?_ ?_
  ·exact AC ⟨_, _, _, rfl, h⟩ [(32, some 1088), (33, some 2112)] [] hρ
  ·rintro S ⟨_, _, _, _, h⟩; rw [l_apart_l1] at h; cases h
  ·rintro n1 S ⟨v8, v9, v10, rfl, h⟩; rw [l_apart_l1] at h; refine AW_seq ?_; refine AR hN fun K hK => ?_; obtain ⟨h15, h⟩ := gd_inv h; replace h15 := of_decide_eq_true h15; simp only [EV, seval, h15]; refine hK _ _ _ ?_; clear hK K; refine AW_condK (a := .bool (decide (v8 < (IntKind.wrap .i64 (1 * 2 ^ min (Int.toNat (IntKind.wrap .u64 a3)) (IntKind.bits .i64)))))) (by simp only [EV, seval, h15]) (brK h (fun hc7 h => ?_) (fun hc7 h => ?_))
   ·refine AW_skip (AK ?_); refine AW_seq ?_; refine AW_block ?_; refine AR hN fun K hK => ?_; obtain ⟨x11, h16, h⟩ := bO_inv h; simp only [EV, seval]; refine rC_p (s_BasisState_ok h16) (by simp only [AL, EV, seval]) (le_d rfl) (site_1 (by simp only [EV, seval])) ?_; obtain ⟨x12, h17, h⟩ := bO_inv h; simp only [EV, seval]; refine rC_l (s_ApplyGates_ok h17) (by simp only [AL, EV, seval]) (by simp only [AL, EF, and_self]) (le_d rfl) (site_1 (by simp only [EV, seval])) ?_; simp only [EV, seval]; refine hK _ _ _ ?_; clear hK K; refine AR hN fun K hK => ?_; obtain ⟨x13, h18, h⟩ := bO_inv h; simp only [EV, seval]; refine rC_p (s_BasisState_ok h18) (by simp only [AL, EV, seval]) (le_d rfl) (site_1 (by simp only [EV, seval])) ?_; obtain ⟨x14, h19, h⟩ := bO_inv h; simp only [EV, seval]; refine rC_l (s_ApplyGates_ok h19) (by simp only [AL, EV, seval]) (by simp only [AL, EF, and_self]) (le_d rfl) (site_1 (by simp only [EV, seval])) ?_; simp only [EV, seval]; refine hK _ _ _ ?_; clear hK K; refine AW_seq ?_; refine AJ (fun S => ∃ (v11 : Bool), S = ⟨mkT [(0, .sl (encL EIIII a1) a1.length), (1, .sl (encL EIIII a2) a2.length), (2, .int .i64 a3), (8, .own 32 v9.length), (9, .own 33 v10.length), (10, .int .i64 v8), (11, .own 34 x12.1.length), (13, .own 35 x14.1.length), (45, .bool v11)], mkR [(32, .row 76 1 (encL ELIIIIIE v9)), (33, .row 76 1 (encL ELIIIIIE v10)), (34, .row 36 5 (encL EIIIII x12.1)), (35, .row 36 5 (encL EIIIII x14.1))], 64⟩ ∧ l_apart_j4 v8 v9 v10 (l_apart_l1 a1 a2 a3 n1) x12 x14 v11 = some r) hN ?_ ?_
    ·intro K hK; obtain ⟨x15, hv3, h⟩ := bO_inv h; rcases br_inv hv3 with ⟨hc8, hv3⟩ | ⟨hc8, hv3⟩
     ·cases hv3; simp only [EV, seval, hc8]; refine hK _ _ _ (show cutK _ _ _ from cutL ⟨_, rfl, h⟩ (Le_can [(32, some 32), (33, some 33), (34, some 1152), (35, some 2176)] [] hρ (by kernel_rfl) ?_ ?_))
      ·simp only [AL, EV, seval, hc8]
      ·simp only [AL, EV, seval, hc8]
     ·cases hv3; simp only [EV, seval, hc8]; refine hK _ _ _ (show cutK _ _ _ from cutL ⟨_, rfl, h⟩ (Le_can [(32, some 32), (33, some 33), (34, some 1152), (35, some 2176)] [] hρ (by kernel_rfl) ?_ ?_))
      ·simp only [AL, EV, seval, hc8]
      ·simp only [AL, EV, seval, hc8]
    ·rintro S ⟨v11, rfl, h⟩; unfold l_apart_j4 at h; refine AB h (fun hc9 h => ?_) fun hc9 h => ?_
     ·refine AN hN ?_; injection h with h; subst h; exact AX (b' := 64) [(6, .int .i64 0), (7, .bool false)] [] [] [] hρ (EQ [])
     ·refine AW_skip (AK ?_); refine AW_le (Le_can (lt := [(0, .sl (encL EIIII a1) a1.length), (1, .sl (encL EIIII a2) a2.length), (2, .int .i64 a3), (8, .own 32 v9.length), (9, .own 33 v10.length), (10, .int .i64 v8), (11, .sl (encL EIIIII x12.1) x12.1.length), (13, .own 35 x14.1.length)]) (lr := [(32, .row 76 1 (encL ELIIIIIE v9)), (33, .row 76 1 (encL ELIIIIIE v10)), (35, .row 36 5 (encL EIIIII x14.1))]) (b' := 80) [(32, some 32), (33, some 33), (35, some 35)] [34] hρ (by kernel_rfl) ?_ ?_) ?_
      ·simp only [AL, EV, seval]
      ·simp only [AL, EV, seval]
      refine AR hN fun K hK => ?_; obtain ⟨h20, h⟩ := gd_inv h; replace h20 := of_decide_eq_true h20; (try simp only [EV, seval] at h20); simp only [EV, seval, h20]; refine hK _ _ _ ?_; clear hK K; refine AW_le (Le_can (lt := [(0, .sl (encL EIIII a1) a1.length), (1, .sl (encL EIIII a2) a2.length), (2, .int .i64 a3), (8, .own 128 (v9 ++ ([x12.1])).length), (9, .own 33 v10.length), (10, .int .i64 v8), (13, .sl (encL EIIIII x14.1) x14.1.length)]) (lr := [(33, .row 76 1 (encL ELIIIIIE v10)), (128, .row 76 1 (encL ELIIIIIE (v9 ++ ([x12.1]))))]) (b' := 1120) [(128, some 128), (33, some 33)] [35] hρ (by kernel_rfl) ?_ ?_) ?_
      ·simp only [AL, EV, seval]
      ·simp only [AL, EV, seval]
      refine AS hN fun K hK => ?_; obtain ⟨h21, h⟩ := gd_inv h; replace h21 := of_decide_eq_true h21; (try simp only [EV, seval] at h21); simp only [EV, seval, h21]; refine hK _ _ _ (show AW _ _ _ _ _ from ?_); refine AS hN fun K hK => ?_; simp only [EV, seval]; exact hK _ _ _ (AC ⟨_, _, _, rfl, h⟩ [(32, some 128), (33, some 1168)] [] hρ)
   ·refine AW_exit (show cutK _ _ _ from cutL ⟨_, _, rfl, h⟩ (Le_can [(32, some 32), (33, some 33)] [] hρ (by kernel_rfl) ?_ ?_))
    ·simp only [AL, EV, seval, h15]
    ·simp only [AL, EV, seval, h15]
 ·rintro S ⟨v12, v13, rfl, h⟩; unfold l_apart_j1 at h; refine AR hN fun K hK => ?_; obtain ⟨x16, h22, h⟩ := bO_inv h; simp only [EV, seval]; refine rC_l (s_GlobalPhase_ok h22) (by simp only [AL, EV, seval]) (by simp only [AL, EF, and_self]) (le_d rfl) (no_j rfl) ?_; simp only [EV, seval]; refine hK _ _ _ ?_; clear hK K; injection h with h; subst h; exact AX (b' := 64) [(6, .int .i64 x16.1), (7, .bool x16.2)] [] [] [] hρ (EQ [])
end Go.Proofs.YtfjopjalhllplaaGreat
/- Models of functions, and that the functions do what the models say; printed by a program. -/
namespace Go.Proofs.YtfjopjalhllplaaGreat
open Go.RowKit
set_option maxRecDepth 100000
set_option linter.unusedVariables false
set_option linter.unusedSimpArgs false
set_option linter.defProp false
set_option maxHeartbeats 4000000
/- spec.CountGates -/
def s_CountGates_j4 (v6 : Int) (kl1 : Int → Int → Option Int) (v7 : Int) : Option Int :=
  kl1 v7 (IntKind.wrap .i64 (v6 + 1))
def s_CountGates_j1 (v8 : Int) : Option Int :=
  some v8
def s_CountGates_l1 (a2 : LQ) (a3 : Int) : Nat → Int → Int → Option Int
  | 0, _, _ => none
  | n1 + 1, v5, v6 =>
  br (decide (v6 < ((a2.length : Int)))) (bO (geti a2 v6) fun q3 => br (q3.1 == a3) (s_CountGates_j4 v6 (s_CountGates_l1 a2 a3 n1) (IntKind.wrap .i64 (v5 + 1))) (s_CountGates_j4 v6 (s_CountGates_l1 a2 a3 n1) v5)) (s_CountGates_j1 v5)
def s_CountGates (a1 : Int) (a2 : LQ) (a3 : Int) : Option Int :=
  s_CountGates_l1 a2 a3 FU 0 0
theorem s_CountGates_ok {a1 : Int} {a2 : LQ} {a3 r : Int} (h : s_CountGates a1 a2 a3 = some r) :
    Spec Tryz.prog 89 [.agg [.int .i64 a1, .sl (encL EIIII a2) a2.length], .int .i64 a3] [] (.int .i64 r) [] := by
 unfold s_CountGates at h; refine SO Tryz.func89 rfl Tryz.ntmps89 fun C hN hρ => ?_; simp only [st0, tmps0, Nat.zero_add, Nat.reduceAdd]; refine AN hN ?_; refine AN hN ?_; refine AW_cutK (fun S => ∃ (v8 : Int), S = ⟨mkT [(5, .int .i64 v8)], mkR [], 64⟩ ∧ s_CountGates_j1 v8 = some r) ?_ ?_
 ·refine AN hN ?_; refine AW_block ?_; refine AW_loopF (fun n S => ∃ (v5 v6 : Int), S = ⟨mkT [(1, .int .i64 a3), (2, .ptr 32 0), (5, .int .i64 v5), (6, .int .i64 v6)], mkR [(32, .box 66 [.int .i64 a1, .sl (encL EIIII a2) a2.length])], 64⟩ ∧ s_CountGates_l1 a2 a3 n v5 v6 = some r) FU ?_ ?_ ?_
  ·exact AC ⟨_, _, rfl, h⟩ [(32, some 64)] [] hρ
  ·rintro S ⟨_, _, _, h⟩; rw [s_CountGates_l1] at h; cases h
  ·rintro n1 S ⟨v5, v6, rfl, h⟩; rw [s_CountGates_l1] at h; refine AW_seq ?_; refine AN hN ?_; refine AB h (fun hc5 h => ?_) fun hc5 h => ?_
   ·refine AW_skip (AK ?_); refine AW_cutK (fun S => ∃ (v7 : Int), S = ⟨mkT [(1, .int .i64 a3), (2, .ptr 32 0), (5, .int .i64 v7), (6, .int .i64 v6)], mkR [(32, .box 66 [.int .i64 a1, .sl (encL EIIII a2) a2.length])], 64⟩ ∧ s_CountGates_j4 v6 (s_CountGates_l1 a2 a3 n1) v7 = some r) ?_ ?_
    ·refine AW_block ?_; refine AR hN fun K hK => ?_; obtain ⟨q3, h5, h⟩ := bO_inv h; obtain ⟨⟨h6a, h6b⟩, h6c⟩ := geti_E EIIIIl h5; (try simp only [EV, seval] at h6c); simp only [EV, seval, h6a, h6b, h6c]; refine hK _ _ _ ?_; clear hK K; refine AW_condK (a := .bool (q3.1 == a3)) (by simp only [EV, seval, h6a, h6b, h6c]) (brK h (fun hc6 h => ?_) (fun hc6 h => ?_))
     ·refine AS hN fun K hK => ?_; simp only [EV, seval]; exact hK _ _ _ (AC ⟨_, rfl, h⟩ [(32, some 32)] [] hρ)
     ·refine AW_skip (show cutK _ _ _ from cutL ⟨_, rfl, h⟩ (Le_can [(32, some 32)] [] hρ (by kernel_rfl) ?_ ?_))
      ·simp only [AL, EV, seval, h6a, h6b, h6c]
      ·simp only [AL, EV, seval, h6a, h6b, h6c]
    ·rintro S ⟨v7, rfl, h⟩; unfold s_CountGates_j4 at h; refine AS hN fun K hK => ?_; simp only [EV, seval]; exact hK _ _ _ (AC ⟨_, _, rfl, h⟩ [(32, some 32)] [] hρ)
   ·exact AW_exit (AC ⟨_, rfl, h⟩ [] [] hρ)
 ·rintro S ⟨v8, rfl, h⟩; unfold s_CountGates_j1 at h; refine AN hN ?_; injection h with h; subst h; exact AX (b' := 64) [(4, .int .i64 v8)] [] [] [] hρ (EQ [])
/- spec.TCount -/
def s_TCount (a1 : Int) (a2 : LQ) : Option Int :=
  bO (s_CountGates a1 a2 7) fun x1 => bO (s_CountGates a1 a2 8) fun x2 => some (IntKind.wrap .i64 (x1 + x2))
theorem s_TCount_ok {a1 : Int} {a2 : LQ} {r : Int} (h : s_TCount a1 a2 = some r) :
    Spec Tryz.prog 49 [.agg [.int .i64 a1, .sl (encL EIIII a2) a2.length]] [] (.int .i64 r) [] := by
 unfold s_TCount at h; refine SO Tryz.func49 rfl Tryz.ntmps49 fun C hN hρ => ?_; simp only [st0, tmps0, Nat.zero_add, Nat.reduceAdd]; refine AN hN ?_; refine AR hN fun K hK => ?_; obtain ⟨x1, h1, h⟩ := bO_inv h; simp only [EV, seval]; refine CP (s_CountGates_ok h1) ?_; obtain ⟨x2, h2, h⟩ := bO_inv h; simp only [EV, seval]; refine CP (s_CountGates_ok h2) ?_; simp only [EV, seval]; refine hK _ _ _ ?_; clear hK K; injection h with h; subst h; exact AX (b' := 64) [(2, .int .i64 (IntKind.wrap .i64 (x1 + x2)))] [] [] [] hρ (EQ [])
/- laws.tCount -/
def l_tCount (a1 : LQ) : Option Int :=
  bO (s_TCount 0 a1) fun x1 => some x1
theorem l_tCount_ok {a1 : LQ} {r : Int} (h : l_tCount a1 = some r) :
    Spec Tryz.prog 22 [.sl (encL EIIII a1) a1.length] [] (.int .i64 r) [] := by
 unfold l_tCount at h; refine SO Tryz.func22 rfl Tryz.ntmps22 fun C hN hρ => ?_; simp only [st0, tmps0, Nat.zero_add, Nat.reduceAdd]; refine AN hN ?_; obtain ⟨x1, h1, h⟩ := bO_inv h; refine AP hN (s_TCount_ok h1) ?_; injection h with h; subst h; exact AX (b' := 64) [(2, .int .i64 x1)] [] [] [] hρ (EQ [])
end Go.Proofs.YtfjopjalhllplaaGreat
