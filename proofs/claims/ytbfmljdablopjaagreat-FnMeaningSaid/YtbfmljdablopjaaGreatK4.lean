/- Texts joined by a program (short names, no comments): Mim Mig Miv Mii Mis Mrv Map Msb Msd Msc Mse Msf Mzf Meb Mzc Pra Prb Pa Pza Pb Pm Prc Pzb. -/
import Derived.Test.YtbfmljdablopjaaGreatK3
import Derived.Test.YtbfmljdablopjaaGreatProg
namespace Go.Proofs.YtbfmljdablopjaaGreat
open Go.RowKit
set_option maxRecDepth 100000
set_option linter.unusedVariables false
set_option linter.unusedSimpArgs false
set_option linter.defProp false
set_option maxHeartbeats 4000000
def dN (v137 v138 : Int) (kl13 : Int → Int → (LF) → Option (LZ)) (v140 : LF) : Option (LZ) :=
  kl13 v137 (IntKind.wrap .i64 (v138 + 1)) v140
def cl (v127 v128 v129 : Int) (kl12 : Int → Int → Int → (List (LF)) → Option (LZ)) (v141 : List (LF)) : Option (LZ) :=
  kl12 v127 (IntKind.wrap .i64 (v128 + 1)) v129 v141
def bE (a3 v97 v127 v128 v129 : Int) (v130 : List (LF)) (kl12 : Int → Int → Int → (List (LF)) → Option (LZ)) : Nat → Int → Int → (LF) → Option (LZ)
  | 0, _, _, _ => none
  | n13 + 1, v137, v138, v139 =>
  br (decide (v138 < v137)) (gd (decide (¬ a3 < 0)) (br ((bits .and .i64 (Int.fdiv v138 (2 ^ min (Int.toNat a3) (IntKind.bits .i64))) 1) != v97) (bO (aj v139 v138) fun q36 => dN v137 v138 (bE a3 v97 v127 v128 v129 v130 kl12 n13) (v139.set (Int.toNat v138) ((0, 0, 0, 0, 0)))) (dN v137 v138 (bE a3 v97 v127 v128 v129 v130 kl12 n13) v139))) (cl v127 v128 v129 kl12 (v130.set (Int.toNat v128) v139))
def dO (v97 : Int) (kl9 : Int → (LZ) → Option (LZ)) (v144 : LZ) : Option (LZ) :=
  kl9 (IntKind.wrap .i64 (v97 + 1)) v144
def cm (v97 : Int) (v98 : LZ) (kl9 : Int → (LZ) → Option (LZ)) (v142 : Int) (v143 : List (LF)) : Option (LZ) :=
  bO (oN v142 v143) fun x10 => br (!x10) (gd (decide (v98.length + ([(v142, v143)]).length ≤ 16777216)) (dO v97 kl9 (v98 ++ ([(v142, v143)])))) (dO v97 kl9 v98)
def b6 (a3 v97 : Int) (v98 : LZ) (kl9 : Int → (LZ) → Option (LZ)) : Nat → Int → Int → Int → (List (LF)) → Option (LZ)
  | 0, _, _, _, _ => none
  | n12 + 1, v127, v128, v129, v130 =>
  br (decide (v128 < v127)) (bO (aj v130 v128) fun q33 => bE a3 v97 v127 v128 v129 v130 (b6 a3 v97 v98 kl9 n12) FU ((q33.length : Int)) 0 q33) (cm v97 v98 kl9 v129 v130)
def fC (v145 : LZ) : Option (LZ) :=
  some v145
def am (a1 : Int) (a2 : List (LF)) (a3 a4 : Int) : Nat → Int → (LZ) → Option (LZ)
  | 0, _, _ => none
  | n9 + 1, v97, v98 =>
  br (decide (v97 < 2)) (bO (lH a1 a2) fun x9 => gd (decide (¬ a4 < 0)) (b6 a3 v97 v98 (am a1 a2 a3 a4 n9) FU ((x9.2.length : Int)) 0 (IntKind.wrap .i64 (x9.1 + (IntKind.wrap .i64 (v97 * 2 ^ min (Int.toNat a4) (IntKind.bits .i64))))) x9.2)) (fC v98)
def fD (a1 : Int) (a2 : List (LF)) (a3 a4 : Int) (v1 : Bool) : Option (LZ) :=
  br v1 (some ([])) (am a1 a2 a3 a4 FU 0 ([] : LZ))
def du (a1 : Int) (a2 : List (LF)) (a3 a4 : Int) : Option (LZ) :=
  bO (lG a4 0 2) fun x1 => bO (br (!x1) (some true) (bO (lG a3 0 3) fun x2 => some (!x2))) fun x3 => fD a1 a2 a3 a4 x3
theorem pk {a1 : Int} {a2 : List (LF)} {a3 a4 : Int} {r : LZ} (h : du a1 a2 a3 a4 = some r) :
    aV Tryz.prog 58 [.agg [.int .i64 a1, .sl (aB aU a2) a2.length], .int .i64 a3, .int .i64 a4] [] (.own 0 r.length) [.row 46 2 (aB aL r)] := by
 unfold du at h; refine SO Tryz.func58 rfl Tryz.ntmps58 fun C hN hρ => ?_; simp only [st0, aW, Nat.zero_add, Nat.reduceAdd]; refine AN hN ?_; refine aH ?_; refine AJ (fun S => ∃ (v1 : Bool), S = ⟨mkT [(1, .int .i64 a3), (2, .int .i64 a4), (3, .ptr 32 0), (20, .bool v1)], mkR [(32, .box 46 [.int .i64 a1, .sl (aB aU a2) a2.length])], 64⟩ ∧ fD a1 a2 a3 a4 v1 = some r) hN ?_ ?_
 ·intro K hK; obtain ⟨x1, h1, h⟩ := aA h; simp only [EV, seval]; refine CP (dJ h1) ?_; obtain ⟨x3, hv1, h⟩ := aA h; rcases aR hv1 with ⟨hc1, hv1⟩ | ⟨hc1, hv1⟩
  ·cases hv1; simp only [EV, seval, hc1]; refine hK _ _ _ (show aN _ _ _ from aP ⟨_, rfl, h⟩ (aD [(32, some 64)] [] hρ (by kernel_rfl) ?_ ?_)) <;> simp only [AL, EV, seval, hc1]
  ·obtain ⟨x4, h3, hv1⟩ := aA hv1; simp only [EV, seval, hc1]; refine ak (dJ h3) (by simp only [AL, EV, seval, hc1]) (aM rfl) (ab rfl) ?_; cases hv1; simp only [EV, seval, hc1]; refine hK _ _ _ (show aN _ _ _ from aP ⟨_, rfl, h⟩ (aD [(32, some 64)] [] hρ (by kernel_rfl) ?_ ?_)) <;> simp only [AL, EV, seval, hc1]
 ·rintro S ⟨v1, rfl, h⟩; unfold fD at h; refine AB h (fun hc2 h => ?_) fun hc2 h => ?_
  ·refine AN hN ?_; injection h with h; subst h; exact AX (b' := 64) [(6, .own 32 0)] [(32, .row 46 2 (aB aL ([])))] [(32, none)] [] hρ (EQ [32])
  ·refine aE (AK ?_); refine AN hN ?_; refine aQ (fun S => ∃ (v145 : LZ), S = ⟨mkT [(7, .own 32 v145.length)], mkR [(32, .row 46 2 (aB aL v145))], 64⟩ ∧ fC v145 = some r) ?_ ?_
   ·refine AN hN ?_; refine aJ ?_; refine aY (fun n S => ∃ (v97 : Int) (v98 : LZ), S = ⟨mkT [(1, .int .i64 a3), (2, .int .i64 a4), (3, .ptr 32 0), (7, .own 33 v98.length), (8, .int .i64 v97)], mkR [(32, .box 46 [.int .i64 a1, .sl (aB aU a2) a2.length]), (33, .row 46 2 (aB aL v98))], 64⟩ ∧ am a1 a2 a3 a4 n v97 v98 = some r) FU ?_ ?_ ?_
    ·exact AC ⟨_, _, rfl, h⟩ [(32, some 32), (33, some 64)] [] hρ
    ·rintro S ⟨_, _, _, h⟩; rw [am] at h; cases h
    ·rintro n9 S ⟨v97, v98, rfl, h⟩; rw [am] at h; refine aH ?_; refine AN hN ?_; refine AB h (fun hc49 h => ?_) fun hc49 h => ?_
     ·refine aE (AK ?_); refine aQ (fun S => ∃ (v144 : LZ), S = ⟨mkT [(1, .int .i64 a3), (2, .int .i64 a4), (3, .ptr 32 0), (7, .own 33 v144.length), (8, .int .i64 v97)], mkR [(32, .box 46 [.int .i64 a1, .sl (aB aU a2) a2.length]), (33, .row 46 2 (aB aL v144))], 64⟩ ∧ dO v97 (am a1 a2 a3 a4 n9) v144 = some r) ?_ ?_
      ·refine aJ ?_; refine JA (BR := BR) 2 (Nat.le_of_ble_eq_true rfl) (by rw [hN]; kernel_rfl) ?_; intro Z hZ; obtain ⟨x9, h96, h⟩ := aA h; simp only [EV, seval]; refine KM (rJ h96) (by simp only [AL, EV, seval]) (by simp only [EV, seval]) ?_; simp only [EV, seval]; refine hZ _ _ _ ⟨_, gJ (E := 36) (sz := 5) (e := aS) 1105 (lt := [(1, .int .i64 a3), (2, .int .i64 a4), (3, .ptr 32 0), (7, .own 33 v98.length), (8, .int .i64 v97), (22, .int .i64 v97), (23, .bool (decide (v97 < 2))), (26, .agg [.int .i64 a1, .sl (aB aU a2) a2.length]), (27, .agg [.int .i64 x9.1, .own 1104 x9.2.length])]) (lr := [(32, .box 46 [.int .i64 a1, .sl (aB aU a2) a2.length]), (33, .row 46 2 (aB aL v98)), (1104, .tab 55 1 (cu 1099511627776 x9.2))]) (b' := 1088) (le := x9.2) [(32, some 32), (33, some 33), (1104, some 1104)] [] hρ (by kernel_rfl) (by kernel_rfl) (by kernel_rfl) (by kernel_rfl) ?_ ?_ (by simp only [EV, seval]), fun K hK => ?_⟩
       ·simp only [AL, EV, seval]
       ·simp only [AL, EV, seval]
       clear hZ Z; simp only [EV, seval]; apply hK; clear hK K; refine AR hN fun K hK => ?_; obtain ⟨h97, h⟩ := gdI h; simp only [EV, seval, h97]; apply hK; clear hK K; refine aQ (fun S => ∃ (v142 : Int) (v143 : List (LF)), S = ⟨mkT [(1, .int .i64 a3), (2, .int .i64 a4), (3, .ptr 32 0), (7, .own 33 v98.length), (8, .int .i64 v97), (9, .ptr 34 0)], ao (mkR [(32, .box 46 [.int .i64 a1, .sl (aB aU a2) a2.length]), (33, .row 46 2 (aB aL v98)), (34, .box 46 [.int .i64 v142, .own 35 v143.length]), (35, .tab 55 1 (cu 1099511627776 v143))]) 1099511627776 (cd 36 5 aS v143), 64⟩ ∧ cm v97 v98 (am a1 a2 a3 a4 n9) v142 v143 = some r) ?_ ?_
       ·refine AN hN ?_; refine aJ ?_; refine aY (fun n S => ∃ (v127 v128 v129 : Int) (v130 : List (LF)), S = ⟨mkT [(1, .int .i64 a3), (2, .int .i64 a4), (3, .ptr 32 0), (7, .own 33 v98.length), (8, .int .i64 v97), (9, .ptr 34 0), (36, .own 35 v130.length), (37, .int .i64 v127), (38, .int .i64 v128)], ao (mkR [(32, .box 46 [.int .i64 a1, .sl (aB aU a2) a2.length]), (33, .row 46 2 (aB aL v98)), (34, .box 46 [.int .i64 v129, .own 35 v130.length]), (35, .tab 55 1 (cu 1099511627776 v130))]) 1099511627776 (cd 36 5 aS v130), 64⟩ ∧ b6 a3 v97 v98 (am a1 a2 a3 a4 n9) n v127 v128 v129 v130 = some r) FU ?_ ?_ ?_
        ·refine aP ⟨_, _, _, _, rfl, h⟩ (gJ (E := 36) (sz := 5) (e := aS) 1099511627776 [(32, some 32), (33, some 33), (34, some 1120), (35, some 1104)] [] hρ (by kernel_rfl) (by kernel_rfl) (by kernel_rfl) (by kernel_rfl) ?_ ?_ (by simp only [EV, seval]))
         ·simp only [AL, EV, seval]
         ·simp only [AL, EV, seval]
        ·rintro S ⟨_, _, _, _, _, h⟩; rw [b6] at h; cases h
        ·rintro n12 S ⟨v127, v128, v129, v130, rfl, h⟩; rw [b6] at h; refine AN hN ?_; refine aH ?_; refine AB h (fun hc64 h => ?_) fun hc64 h => ?_
         ·refine aE (AK ?_); refine aQ (fun S => ∃ (v141 : List (LF)), S = ⟨mkT [(1, .int .i64 a3), (2, .int .i64 a4), (3, .ptr 32 0), (7, .own 33 v98.length), (8, .int .i64 v97), (9, .ptr 34 0), (36, .own 35 v141.length), (37, .int .i64 v127), (38, .int .i64 v128)], ao (mkR [(32, .box 46 [.int .i64 a1, .sl (aB aU a2) a2.length]), (33, .row 46 2 (aB aL v98)), (34, .box 46 [.int .i64 v129, .own 35 v141.length]), (35, .tab 55 1 (cu 1099511627776 v141))]) 1099511627776 (cd 36 5 aS v141), 64⟩ ∧ cl v127 v128 v129 (b6 a3 v97 v98 (am a1 a2 a3 a4 n9) n12) v141 = some r) ?_ ?_
          ·refine aJ ?_; refine AR hN fun K hK => ?_; obtain ⟨q33, h126, h⟩ := aA h; obtain ⟨⟨h127a, h127b⟩, h127c⟩ := J3 1099511627776 h126; have h127d := fun R => J4 (E := 36) (sz := 5) (e := aS) h126 1099511627776 R; (try simp only [EV, seval] at h127c); (try simp only [EV, seval] at h127d); have h127e := KL h127a h127b; have h127f := fun R => J6 (E := 36) (sz := 5) (e := aS) h126 1099511627776 R; have h127g := xT h126; have h127h := fun R => Cp (E := 36) (sz := 5) (e := aS) h126 1099511627776 R; have h127i := fun R => J7 (E := 36) (sz := 5) (e := aS) h126 1099511627776 R; simp only [EV, seval, h127a, h127b, h127c, h127d, h127f, h127g, h127h, h127i, h127e]; apply hK; clear hK K; refine AR hN fun K hK => ?_; simp only [EV, seval, h127d, h127e, h127f, h127g, h127h, h127i]; apply hK; clear hK K; refine aJ ?_; refine aY (fun n S => ∃ (v137 v138 : Int) (v139 : LF), S = ⟨mkT [(1, .int .i64 a3), (2, .int .i64 a4), (3, .ptr 32 0), (7, .own 33 v98.length), (8, .int .i64 v97), (9, .ptr 34 0), (11, .own (1099511627776 + Int.toNat v128) v139.length), (36, .own 35 (v130.set (Int.toNat v128) v139).length), (37, .int .i64 v127), (38, .int .i64 v128), (43, .int .i64 v137), (44, .int .i64 v138)], ao (mkR [(32, .box 46 [.int .i64 a1, .sl (aB aU a2) a2.length]), (33, .row 46 2 (aB aL v98)), (34, .box 46 [.int .i64 v129, .own 35 (v130.set (Int.toNat v128) v139).length]), (35, .tab 55 1 (cu 1099511627776 (v130.set (Int.toNat v128) v139)))]) 1099511627776 (cd 36 5 aS (v130.set (Int.toNat v128) v139)), 64⟩ ∧ bE a3 v97 v127 v128 v129 v130 (b6 a3 v97 v98 (am a1 a2 a3 a4 n9) n12) n v137 v138 v139 = some r) FU ?_ ?_ ?_
           ·refine aP ⟨_, _, _, rfl, h⟩ (gJ (E := 36) (sz := 5) (e := aS) 1099511627776 [(32, some 32), (33, some 33), (34, some 34), (35, some 35)] [] hρ (by kernel_rfl) (by kernel_rfl) (by kernel_rfl) (by kernel_rfl) ?_ ?_ (by simp only [EV, seval, h127d, h127e, h127f, h127g, h127h, h127i]))
            ·simp only [AL, EV, seval, h127d, h127e, h127f, h127g, h127h, h127i]
            ·simp only [AL, EV, seval, h127d, h127e, h127f, h127g, h127h, h127i]
           ·rintro S ⟨_, _, _, _, h⟩; rw [bE] at h; cases h
           ·rintro n13 S ⟨v137, v138, v139, rfl, h⟩; rw [bE] at h; refine AR hN fun K hK => ?_; simp only [EV, seval, h127d, h127e, h127f, h127g, h127h, h127i]; apply hK; clear hK K; refine aH ?_; refine ae (a := .bool (decide (v138 < v137))) (by simp only [EV, seval, h127d, h127e, h127f, h127g, h127h, h127i]) (brK h (fun hc69 h => ?_) (fun hc69 h => ?_))
            ·refine aE (AK ?_); refine aQ (fun S => ∃ (v140 : LF), S = ⟨mkT [(1, .int .i64 a3), (2, .int .i64 a4), (3, .ptr 32 0), (7, .own 33 v98.length), (8, .int .i64 v97), (9, .ptr 34 0), (11, .own (1099511627776 + Int.toNat v128) v140.length), (36, .own 35 (v130.set (Int.toNat v128) v140).length), (37, .int .i64 v127), (38, .int .i64 v128), (43, .int .i64 v137), (44, .int .i64 v138)], ao (mkR [(32, .box 46 [.int .i64 a1, .sl (aB aU a2) a2.length]), (33, .row 46 2 (aB aL v98)), (34, .box 46 [.int .i64 v129, .own 35 (v130.set (Int.toNat v128) v140).length]), (35, .tab 55 1 (cu 1099511627776 (v130.set (Int.toNat v128) v140)))]) 1099511627776 (cd 36 5 aS (v130.set (Int.toNat v128) v140)), 64⟩ ∧ dN v137 v138 (bE a3 v97 v127 v128 v129 v130 (b6 a3 v97 v98 (am a1 a2 a3 a4 n9) n12) n13) v140 = some r) ?_ ?_
             ·refine aJ ?_; refine AR hN fun K hK => ?_; simp only [EV, seval, h127d, h127e, h127f, h127g, h127h, h127i]; apply hK; clear hK K; refine AR hN fun K hK => ?_; obtain ⟨h136, h⟩ := gdI h; simp only [EV, seval, h136, h127d, h127e, h127f, h127g, h127h, h127i]; apply hK; clear hK K; refine ae (a := .bool ((bits .and .i64 (Int.fdiv v138 (2 ^ min (Int.toNat a3) (IntKind.bits .i64))) 1) != v97)) (by simp only [EV, seval, h136, h127d, h127e, h127f, h127g, h127h, h127i]) (brK h (fun hc70 h => ?_) (fun hc70 h => ?_))
              ·refine AS hN fun K hK => ?_; obtain ⟨q36, h137, h⟩ := aA h; obtain ⟨⟨h138a, h138b⟩, h138c⟩ := aX cS h137; (try simp only [EV, seval] at h138c); have h139 := qw cS ((0, 0, 0, 0, 0)) 0 [.int .i64 0, .int .i64 0, .int .i64 0, .int .i64 0, .int .i64 0] h137 (Nat.le_of_ble_eq_true rfl) rfl; obtain ⟨h139a, h139b⟩ := h139; (try simp only [EV, seval] at h139a); (try simp only [EV, seval] at h139b); simp only [EV, seval, h138a, h138b, h138c, h139a, h139b, h127d, h127e, h127f, h127g, h127h, h127i]; refine hK _ _ _ (show aN _ _ _ from aP ⟨_, rfl, h⟩ (gJ (E := 36) (sz := 5) (e := aS) 1099511627776 [(32, some 32), (33, some 33), (34, some 34), (35, some 35)] [] hρ (by kernel_rfl) (by kernel_rfl) (by kernel_rfl) (by kernel_rfl) ?_ ?_ (by simp only [EV, seval, h138a, h138b, h138c, h139a, h139b, h127d, h127e, h127f, h127g, h127h, h127i])))
               ·simp only [AL, EV, seval, h138a, h138b, h138c, h139a, h139b, h127d, h127e, h127f, h127g, h127h, h127i]
               ·simp only [AL, EV, seval, h138a, h138b, h138c, h139a, h139b, h127d, h127e, h127f, h127g, h127h, h127i]
              ·refine aE (show aN _ _ _ from aP ⟨_, rfl, h⟩ (gJ (E := 36) (sz := 5) (e := aS) 1099511627776 [(32, some 32), (33, some 33), (34, some 34), (35, some 35)] [] hρ (by kernel_rfl) (by kernel_rfl) (by kernel_rfl) (by kernel_rfl) ?_ ?_ (by simp only [EV, seval, h136, h127d, h127e, h127f, h127g, h127h, h127i])))
               ·simp only [AL, EV, seval, h136, h127d, h127e, h127f, h127g, h127h, h127i]
               ·simp only [AL, EV, seval, h136, h127d, h127e, h127f, h127g, h127h, h127i]
             ·rintro S ⟨v140, rfl, h⟩; unfold dN at h; refine AS hN fun K hK => ?_; simp only [EV, seval, h127d, h127e, h127f, h127g, h127h, h127i]; refine hK _ _ _ (show aN _ _ _ from aP ⟨_, _, _, rfl, h⟩ (gJ (E := 36) (sz := 5) (e := aS) 1099511627776 [(32, some 32), (33, some 33), (34, some 34), (35, some 35)] [] hρ (by kernel_rfl) (by kernel_rfl) (by kernel_rfl) (by kernel_rfl) ?_ ?_ (by simp only [EV, seval, h127d, h127e, h127f, h127g, h127h, h127i])))
              ·simp only [AL, EV, seval, h127d, h127e, h127f, h127g, h127h, h127i]
              ·simp only [AL, EV, seval, h127d, h127e, h127f, h127g, h127h, h127i]
            ·refine aZ (show aN _ _ _ from aP ⟨_, rfl, h⟩ (gJ (E := 36) (sz := 5) (e := aS) 1099511627776 [(32, some 32), (33, some 33), (34, some 34), (35, some 35)] [] hρ (by kernel_rfl) (by kernel_rfl) (by kernel_rfl) (by kernel_rfl) ?_ ?_ (by simp only [EV, seval, h127d, h127e, h127f, h127g, h127h, h127i])))
             ·simp only [AL, EV, seval, h127d, h127e, h127f, h127g, h127h, h127i]
             ·simp only [AL, EV, seval, h127d, h127e, h127f, h127g, h127h, h127i]
          ·rintro S ⟨v141, rfl, h⟩; unfold cl at h; refine AS hN fun K hK => ?_; simp only [EV, seval]; refine hK _ _ _ (show aN _ _ _ from aP ⟨_, _, _, _, rfl, h⟩ (gJ (E := 36) (sz := 5) (e := aS) 1099511627776 [(32, some 32), (33, some 33), (34, some 34), (35, some 35)] [] hρ (by kernel_rfl) (by kernel_rfl) (by kernel_rfl) (by kernel_rfl) ?_ ?_ (by simp only [EV, seval])))
           ·simp only [AL, EV, seval]
           ·simp only [AL, EV, seval]
         ·refine aZ (show aN _ _ _ from aP ⟨_, _, rfl, h⟩ (gJ (E := 36) (sz := 5) (e := aS) 1099511627776 [(32, some 32), (33, some 33), (34, some 34), (35, some 35)] [] hρ (by kernel_rfl) (by kernel_rfl) (by kernel_rfl) (by kernel_rfl) ?_ ?_ (by simp only [EV, seval])))
          ·simp only [AL, EV, seval]
          ·simp only [AL, EV, seval]
       ·rintro S ⟨v142, v143, rfl, h⟩; unfold cm at h; refine AR hN fun K hK => ?_; obtain ⟨x10, h140, h⟩ := aA h; simp only [EV, seval]; refine Lq (vQ h140) (by simp only [AL, EV, seval]) (by simp only [AL, EF, and_self]) (ab rfl) ?_; simp only [EV, seval]; apply hK; clear hK K; refine AB h (fun hc71 h => ?_) fun hc71 h => ?_
        ·refine bZ (J8 (E := 36) (sz := 5) (e := aS) (le := v143) 1099511627776 (lt := [(1, .int .i64 a3), (2, .int .i64 a4), (3, .ptr 32 0), (7, .own 33 v98.length), (8, .int .i64 v97), (9, .ptr 34 0)]) (lr := [(32, .box 46 [.int .i64 a1, .sl (aB aU a2) a2.length]), (33, .row 46 2 (aB aL v98)), (34, .box 46 [.int .i64 v142, .sl (aB aU v143) v143.length])]) (b' := 1104) [(32, some 32), (33, some 33), (34, some 34)] [35] hρ (by kernel_rfl) (by kernel_rfl) (by simp only [EV, seval]) ?_ ?_) ?_
         ·simp only [AL, EV, seval]
         ·simp only [AL, EV, seval]
         refine AS hN fun K hK => ?_; obtain ⟨h141, h⟩ := gdI h; (try simp only [EV, seval] at h141); simp only [EV, seval, h141]; refine hK _ _ _ (show aN _ _ _ from aP ⟨_, rfl, h⟩ (aD [(32, some 32), (33, some 1152)] [] hρ (by kernel_rfl) ?_ ?_)) <;> simp only [AL, EV, seval, h141]
        ·refine aE (show aN _ _ _ from aP ⟨_, rfl, h⟩ (aD [(32, some 32), (33, some 33)] [] hρ (by kernel_rfl) ?_ ?_)) <;> simp only [AL, EV, seval]
      ·rintro S ⟨v144, rfl, h⟩; unfold dO at h; refine AS hN fun K hK => ?_; simp only [EV, seval]; exact hK _ _ _ (AC ⟨_, _, rfl, h⟩ [(32, some 32), (33, some 33)] [] hρ)
     ·exact aZ (AC ⟨_, rfl, h⟩ [(32, some 33)] [] hρ)
   ·rintro S ⟨v145, rfl, h⟩; unfold fC at h; refine AN hN ?_; injection h with h; subst h; exact AX (b' := 64) [(6, .own 32 v145.length)] [(32, .row 46 2 (aB aL v145))] [(32, some 32)] [] hρ (EQ [32])
def oO (a5 : Int) (v8 : List (LF)) : Option (Int × List (LF) × Bool) :=
  some (a5, v8, true)
def gB (a1 a2 a3 a4 a5 : Int) (a6 : List (LF)) : Nat → Int → Int → (List (LF)) → Option (Int × List (LF) × Bool)
  | 0, _, _, _ => none
  | n1 + 1, v5, v6, v7 =>
  br (decide (v6 < v5)) (bO (aj a6 v6) fun q3 => bO (iV a1 a2 a3 a4 q3) fun x3 => br (!x3.2) (some (0, [], false)) (gd (decide (v7.length + ([x3.1]).length ≤ 16777216)) ((gB a1 a2 a3 a4 a5 a6 n1) v5 (IntKind.wrap .i64 (v6 + 1)) (v7 ++ ([x3.1]))))) (oO a5 v7)
def n7 (a1 a2 a3 a4 a5 : Int) (a6 : List (LF)) : Option (Int × List (LF) × Bool) :=
  gB a1 a2 a3 a4 a5 a6 FU ((a6.length : Int)) 0 ([] : List (LF))
theorem vR {a1 a2 a3 a4 a5 : Int} {a6 : List (LF)} {r : Int × List (LF) × Bool} (h : n7 a1 a2 a3 a4 a5 a6 = some r) :
    aV Tryz.prog 59 [.agg [.int .i64 a1, .int .i64 a2, .int .i64 a3, .int .i64 a4], .agg [.int .i64 a5, .sl (aB aU a6) a6.length]] [] (.tup [.agg [.int .i64 r.1, .own 0 r.2.1.length], .bool r.2.2]) [.row 55 1 (aB aU r.2.1)] := by
 unfold n7 at h; refine SO Tryz.func59 rfl Tryz.ntmps59 fun C hN hρ => ?_; simp only [st0, aW, Nat.zero_add, Nat.reduceAdd]; refine AN hN ?_; refine AN hN ?_; refine aQ (fun S => ∃ (v8 : List (LF)), S = ⟨mkT [(4, .ptr 32 0), (6, .ptr 33 0)], mkR [(32, .box 46 [.int .i64 0, .nil]), (33, .box 46 [.int .i64 a5, .own 34 v8.length]), (34, .row 55 1 (aB aU v8))], 64⟩ ∧ oO a5 v8 = some r) ?_ ?_
 ·refine AN hN ?_; refine aJ ?_; refine aY (fun n S => ∃ (v5 v6 : Int) (v7 : List (LF)), S = ⟨mkT [(2, .ptr 32 0), (4, .ptr 33 0), (6, .ptr 34 0), (15, .sl (aB aU a6) a6.length), (16, .int .i64 v5), (17, .int .i64 v6)], mkR [(32, .box 73 [.int .i64 a1, .int .i64 a2, .int .i64 a3, .int .i64 a4]), (33, .box 46 [.int .i64 0, .nil]), (34, .box 46 [.int .i64 a5, .own 35 v7.length]), (35, .row 55 1 (aB aU v7))], 64⟩ ∧ gB a1 a2 a3 a4 a5 a6 n v5 v6 v7 = some r) FU ?_ ?_ ?_
  ·exact AC ⟨_, _, _, rfl, h⟩ [(32, some 64), (33, some 96), (34, some 1136), (35, none)] [] hρ
  ·rintro S ⟨_, _, _, _, h⟩; rw [gB] at h; cases h
  ·rintro n1 S ⟨v5, v6, v7, rfl, h⟩; rw [gB] at h; refine AN hN ?_; refine aH ?_; refine AB h (fun hc5 h => ?_) fun hc5 h => ?_
   ·refine aE (AK ?_); refine aH ?_; refine aJ ?_; refine AR hN fun K hK => ?_; obtain ⟨q3, h9, h⟩ := aA h; obtain ⟨⟨h10a, h10b⟩, h10c⟩ := aX fc h9; (try simp only [EV, seval] at h10c); simp only [EV, seval, h10a, h10b, h10c]; apply hK; clear hK K; refine AR hN fun K hK => ?_; obtain ⟨x3, h11, h⟩ := aA h; simp only [EV, seval]; refine ak (sJ h11) (by simp only [AL, EV, seval]) (aM rfl) (ap (by simp only [EV, seval])) ?_; simp only [EV, seval]; apply hK; clear hK K; refine aH ?_; refine AN hN ?_; refine AB h (fun hc6 h => ?_) fun hc6 h => ?_
    ·refine AN hN ?_; injection h with h; subst h; exact AX (b' := 64) [(4, .ptr 32 0), (5, .bool false)] [(32, .box 46 [.int .i64 0, .own 33 0]), (33, .row 55 1 (aB aU ([])))] [(32, some 33), (33, none)] [] hρ (EQ [33])
    ·refine aE (AK ?_); refine bZ (aD (lt := [(2, .ptr 32 0), (4, .ptr 33 0), (6, .ptr 34 0), (9, .sl (aB aS x3.1) x3.1.length), (15, .sl (aB aU a6) a6.length), (16, .int .i64 v5), (17, .int .i64 v6)]) (lr := [(32, .box 73 [.int .i64 a1, .int .i64 a2, .int .i64 a3, .int .i64 a4]), (33, .box 46 [.int .i64 0, .nil]), (34, .box 46 [.int .i64 a5, .own 35 v7.length]), (35, .row 55 1 (aB aU v7))]) (b' := 4176) [(32, some 32), (33, some 33), (34, some 34), (35, some 35)] [2144] hρ (by kernel_rfl) ?_ ?_) ?_
     ·simp only [AL, EV, seval]
     ·simp only [AL, EV, seval]
     refine AS hN fun K hK => ?_; obtain ⟨h12, h⟩ := gdI h; (try simp only [EV, seval] at h12); simp only [EV, seval, h12]; refine hK _ _ _ (show AW _ _ _ _ _ from ?_); refine AS hN fun K hK => ?_; simp only [EV, seval]; exact hK _ _ _ (AC ⟨_, _, _, rfl, h⟩ [(32, some 32), (33, some 33), (34, some 34), (35, some 4240)] [] hρ)
   ·exact aZ (AC ⟨_, rfl, h⟩ [(32, some 33), (33, some 34), (34, some 35)] [] hρ)
 ·rintro S ⟨v8, rfl, h⟩; unfold oO at h; refine AN hN ?_; injection h with h; subst h; exact AX (b' := 64) [(4, .ptr 32 0), (5, .bool true)] [(32, .box 46 [.int .i64 a5, .own 33 v8.length]), (33, .row 55 1 (aB aU v8))] [(32, some 32), (33, some 34)] [] hρ (EQ [33])
def jD (a2 a3 a4 a5 a9 : Int) (a10 : List (LF)) (v1 : Bool) : Option (LZ × Bool) :=
  br v1 (some ([(a9, a10)], true)) (bO (n7 a2 a3 a4 a5 a9 a10) fun x5 => some ([(x5.1, x5.2.1)], x5.2.2))
def kU (a1 a2 a3 a4 a5 a6 a7 a8 a9 : Int) (a10 : List (LF)) : Option (LZ × Bool) :=
  br (a1 == 2) (bO (du a9 a10 a6 a7) fun x1 => some (x1, true)) (bO (br (a1 == 3) (some true) (bO (br (decide (0 < a8)) (gd (decide (¬ (IntKind.wrap .i64 (a8 - 1)) < 0)) (some ((bits .and .i64 (Int.fdiv a9 (2 ^ min (Int.toNat (IntKind.wrap .i64 (a8 - 1))) (IntKind.bits .i64))) 1) == 0))) (some false)) fun x2 => some x2)) fun x3 => jD a2 a3 a4 a5 a9 a10 x3)
theorem sK {a1 a2 a3 a4 a5 a6 a7 a8 a9 : Int} {a10 : List (LF)} {r : LZ × Bool} (h : kU a1 a2 a3 a4 a5 a6 a7 a8 a9 a10 = some r) :
    aV Tryz.prog 33 [.agg [.int .i64 a1, .int .i64 a2, .int .i64 a3, .int .i64 a4, .int .i64 a5, .int .i64 a6, .int .i64 a7, .int .i64 a8], .agg [.int .i64 a9, .sl (aB aU a10) a10.length]] [] (.tup [.own 0 r.1.length, .bool r.2]) [.row 46 2 (aB aL r.1)] := by
 unfold kU at h; refine SO Tryz.func33 rfl Tryz.ntmps33 fun C hN hρ => ?_; simp only [st0, aW, Nat.zero_add, Nat.reduceAdd]; refine AN hN ?_; refine aH ?_; refine AN hN ?_; refine AB h (fun hc1 h => ?_) fun hc1 h => ?_
 ·refine AR hN fun K hK => ?_; obtain ⟨x1, h1, h⟩ := aA h; simp only [EV, seval]; refine ak (pk h1) (by simp only [AL, EV, seval]) (aM rfl) (ap (by simp only [EV, seval])) ?_; simp only [EV, seval]; apply hK; clear hK K; injection h with h; subst h; exact AX (b' := 64) [(4, .own 32 x1.length), (5, .bool true)] [(32, .row 46 2 (aB aL x1))] [(32, some 2192)] [] hρ (EQ [32])
 ·refine aE (AK ?_); refine aH ?_; refine AJ (fun S => ∃ (v1 : Bool), S = ⟨mkT [(2, .ptr 32 0), (3, .ptr 33 0), (34, .bool v1)], mkR [(32, .box 75 [.int .i64 a1, .int .i64 a2, .int .i64 a3, .int .i64 a4, .int .i64 a5, .int .i64 a6, .int .i64 a7, .int .i64 a8]), (33, .box 46 [.int .i64 a9, .sl (aB aU a10) a10.length])], 64⟩ ∧ jD a2 a3 a4 a5 a9 a10 v1 = some r) hN ?_ ?_
  ·intro K hK; obtain ⟨x3, hv1, h⟩ := aA h; rcases aR hv1 with ⟨hc2, hv1⟩ | ⟨hc2, hv1⟩
   ·cases hv1; simp only [EV, seval, hc2]; refine hK _ _ _ (show aN _ _ _ from aP ⟨_, rfl, h⟩ (aD [(32, some 64), (33, some 80)] [] hρ (by kernel_rfl) ?_ ?_)) <;> simp only [AL, EV, seval, hc2]
   ·obtain ⟨x4, hv3, hv1⟩ := aA hv1; rcases aR hv3 with ⟨hc4, hv3⟩ | ⟨hc4, hv3⟩
    ·obtain ⟨h4, hv3⟩ := o7 hv3; replace h4 := of_decide_eq_true h4; cases hv3; cases hv1; simp only [EV, seval, hc2, hc4, h4]; refine hK _ _ _ (show aN _ _ _ from aP ⟨_, rfl, h⟩ (aD [(32, some 64), (33, some 80)] [] hρ (by kernel_rfl) ?_ ?_)) <;> simp only [AL, EV, seval, hc2, hc4, h4]
    ·cases hv3; cases hv1; simp only [EV, seval, hc2, hc4]; refine hK _ _ _ (show aN _ _ _ from aP ⟨_, rfl, h⟩ (aD [(32, some 64), (33, some 80)] [] hρ (by kernel_rfl) ?_ ?_)) <;> simp only [AL, EV, seval, hc2, hc4]
  ·rintro S ⟨v1, rfl, h⟩; unfold jD at h; refine AB h (fun hc5 h => ?_) fun hc5 h => ?_
   ·refine AN hN ?_; injection h with h; subst h; exact AX (b' := 64) [(4, .own 32 ([(a9, a10)]).length), (5, .bool true)] [(32, .row 46 2 (aB aL ([(a9, a10)])))] [(32, some 80)] [] hρ (EQ [32])
   ·refine aE (AK ?_); refine AR hN fun K hK => ?_; obtain ⟨x5, h5, h⟩ := aA h; simp only [EV, seval]; refine ak (vR h5) (by simp only [AL, EV, seval]) (aM rfl) (ap (by simp only [EV, seval])) ?_; simp only [EV, seval]; apply hK; clear hK K; refine bZ (aD (lt := [(6, .ptr 176 0), (7, .bool x5.2.2)]) (lr := [(176, .box 46 [.int .i64 x5.1, .sl (aB aU x5.2.1) x5.2.1.length])]) (b' := 1104) [(176, some 176)] [112] hρ (by kernel_rfl) ?_ ?_) ?_
    ·simp only [AL, EV, seval]
    ·simp only [AL, EV, seval]
    refine AN hN ?_; injection h with h; subst h; exact AX (b' := 64) [(4, .own 32 ([(x5.1, x5.2.1)]).length), (5, .bool x5.2.2)] [(32, .row 46 2 (aB aL ([(x5.1, x5.2.1)])))] [(32, some 1120)] [] hρ (EQ [32])
def lv (v2 : Bool) : Option Bool :=
  some v2
def lw (v3 : Bool) : Option Bool :=
  some v3
def lx (v4 : Bool) : Option Bool :=
  some v4
def jE (a1 a2 a3 a4 a5 a6 a7 a8 a9 a10 : Int) (v1 : Bool) : Option Bool :=
  br v1 (some false) (br (a1 == 1) (bO (br (((a1 == a1) && ((a2 == a2) && ((a3 == a3) && ((a4 == a4) && ((a5 == a5) && ((a6 == 0) && ((a7 == 0) && (a8 == a8))))))))) (bO (gt a2 a3 a4 a5 a9) fun x5 => some x5) (some false)) fun x6 => bO (br x6 (bO (lG a8 0 a10) fun x7 => some x7) (some false)) fun x8 => lv x8) (br (a1 == 2) (bO (br (((a1 == a1) && ((a2 == 0) && ((a3 == 0) && ((a4 == 0) && ((a5 == 0) && ((a6 == a6) && ((a7 == a7) && (a8 == 0))))))))) (bO (lG a6 0 (IntKind.wrap .i64 (a9 - 1))) fun x14 => some x14) (some false)) fun x15 => bO (br x15 (bO (lG a7 0 (IntKind.wrap .i64 (a10 - 1))) fun x16 => some x16) (some false)) fun x17 => lw x17) (br (a1 == 3) (bO (br (((a1 == a1) && ((a2 == 0) && ((a3 == 0) && ((a4 == 0) && ((a5 == 0) && ((a6 == a6) && ((a7 == 0) && (a8 == 0))))))))) (bO (lG a6 0 (IntKind.wrap .i64 (a9 - 1))) fun x23 => some x23) (some false)) fun x24 => lx x24) (some false))))
def kV (a1 a2 a3 a4 a5 a6 a7 a8 a9 a10 : Int) : Option Bool :=
  bO (lG a9 1 4) fun x1 => bO (br (!x1) (some true) (bO (lG a10 0 3) fun x2 => some (!x2))) fun x3 => jE a1 a2 a3 a4 a5 a6 a7 a8 a9 a10 x3
theorem sL {a1 a2 a3 a4 a5 a6 a7 a8 a9 a10 : Int} {r : Bool} (h : kV a1 a2 a3 a4 a5 a6 a7 a8 a9 a10 = some r) :
    aV Tryz.prog 56 [.agg [.int .i64 a1, .int .i64 a2, .int .i64 a3, .int .i64 a4, .int .i64 a5, .int .i64 a6, .int .i64 a7, .int .i64 a8], .int .i64 a9, .int .i64 a10] [] (.bool r) [] := by
 unfold kV at h; refine SO Tryz.func56 rfl Tryz.ntmps56 fun C hN hρ => ?_; simp only [st0, aW, Nat.zero_add, Nat.reduceAdd]; refine AN hN ?_; refine aH ?_; refine AJ (fun S => ∃ (v1 : Bool), S = ⟨mkT [(1, .int .i64 a9), (2, .int .i64 a10), (3, .ptr 32 0), (14, .bool v1)], mkR [(32, .box 75 [.int .i64 a1, .int .i64 a2, .int .i64 a3, .int .i64 a4, .int .i64 a5, .int .i64 a6, .int .i64 a7, .int .i64 a8])], 64⟩ ∧ jE a1 a2 a3 a4 a5 a6 a7 a8 a9 a10 v1 = some r) hN ?_ ?_
 ·intro K hK; obtain ⟨x1, h1, h⟩ := aA h; simp only [EV, seval]; refine CP (dJ h1) ?_; obtain ⟨x3, hv1, h⟩ := aA h; rcases aR hv1 with ⟨hc1, hv1⟩ | ⟨hc1, hv1⟩
  ·cases hv1; simp only [EV, seval, hc1]; refine hK _ _ _ (show aN _ _ _ from aP ⟨_, rfl, h⟩ (aD [(32, some 64)] [] hρ (by kernel_rfl) ?_ ?_)) <;> simp only [AL, EV, seval, hc1]
  ·obtain ⟨x4, h3, hv1⟩ := aA hv1; simp only [EV, seval, hc1]; refine ak (dJ h3) (by simp only [AL, EV, seval, hc1]) (aM rfl) (ab rfl) ?_; cases hv1; simp only [EV, seval, hc1]; refine hK _ _ _ (show aN _ _ _ from aP ⟨_, rfl, h⟩ (aD [(32, some 64)] [] hρ (by kernel_rfl) ?_ ?_)) <;> simp only [AL, EV, seval, hc1]
 ·rintro S ⟨v1, rfl, h⟩; unfold jE at h; refine AB h (fun hc2 h => ?_) fun hc2 h => ?_
  ·refine AN hN ?_; injection h with h; subst h; exact AX (b' := 64) [(6, .bool false)] [] [] [] hρ (EQ [])
  ·refine aE (AK ?_); refine aH ?_; refine AN hN ?_; refine aJ ?_; refine AN hN ?_; refine AB h (fun hc3 h => ?_) fun hc3 h => ?_
   ·refine AJ (fun S => ∃ (v2 : Bool), S = ⟨mkT [(6, .bool v2)], mkR [], 64⟩ ∧ lv v2 = some r) hN ?_ ?_
    ·intro K hK; obtain ⟨x6, hv2, h⟩ := aA h; rcases aR hv2 with ⟨hc4, hv2⟩ | ⟨hc4, hv2⟩
     ·obtain ⟨x9, h6, hv2⟩ := aA hv2; simp only [EV, seval, hc4]; refine ak (jr h6) (by simp only [AL, EV, seval, hc4]) (aM rfl) (ab rfl) ?_; cases hv2; obtain ⟨x11, hv4, h⟩ := aA h; rcases aR hv4 with ⟨hc6, hv4⟩ | ⟨hc6, hv4⟩
      ·obtain ⟨x12, h8, hv4⟩ := aA hv4; simp only [EV, seval, hc4, hc6]; refine ak (dJ h8) (by simp only [AL, EV, seval, hc4, hc6]) (aM rfl) (ab rfl) ?_; cases hv4; simp only [EV, seval, hc4, hc6]; refine hK _ _ _ (show aN _ _ _ from aP ⟨_, rfl, h⟩ (aD [] [] hρ (by kernel_rfl) ?_ ?_)) <;> simp only [AL, EV, seval, hc4, hc6]
      ·cases hv4; simp only [EV, seval, hc4, hc6]; refine hK _ _ _ (show aN _ _ _ from aP ⟨_, rfl, h⟩ (aD [] [] hρ (by kernel_rfl) ?_ ?_)) <;> simp only [AL, EV, seval, hc4, hc6]
     ·cases hv2; obtain ⟨x13, hv5, h⟩ := aA h; replace hv5 := lE hv5; cases hv5; (try dsimp only at h); simp only [EV, seval, hc4]; refine hK _ _ _ (show aN _ _ _ from aP ⟨_, rfl, h⟩ (aD [] [] hρ (by kernel_rfl) ?_ ?_)) <;> simp only [AL, EV, seval, hc4]
    ·rintro S ⟨v2, rfl, h⟩; unfold lv at h; injection h with h; subst h; exact AX (b' := 64) [(6, .bool v2)] [] [] [] hρ (EQ [])
   ·refine AN hN ?_; refine AB h (fun hc7 h => ?_) fun hc7 h => ?_
    ·refine AJ (fun S => ∃ (v3 : Bool), S = ⟨mkT [(6, .bool v3)], mkR [], 64⟩ ∧ lw v3 = some r) hN ?_ ?_
     ·intro K hK; obtain ⟨x15, hv6, h⟩ := aA h; rcases aR hv6 with ⟨hc8, hv6⟩ | ⟨hc8, hv6⟩
      ·obtain ⟨x18, h11, hv6⟩ := aA hv6; simp only [EV, seval, hc8]; refine ak (dJ h11) (by simp only [AL, EV, seval, hc8]) (aM rfl) (ab rfl) ?_; cases hv6; obtain ⟨x20, hv8, h⟩ := aA h; rcases aR hv8 with ⟨hc10, hv8⟩ | ⟨hc10, hv8⟩
       ·obtain ⟨x21, h13, hv8⟩ := aA hv8; simp only [EV, seval, hc8, hc10]; refine ak (dJ h13) (by simp only [AL, EV, seval, hc8, hc10]) (aM rfl) (ab rfl) ?_; cases hv8; simp only [EV, seval, hc8, hc10]; refine hK _ _ _ (show aN _ _ _ from aP ⟨_, rfl, h⟩ (aD [] [] hρ (by kernel_rfl) ?_ ?_)) <;> simp only [AL, EV, seval, hc8, hc10]
       ·cases hv8; simp only [EV, seval, hc8, hc10]; refine hK _ _ _ (show aN _ _ _ from aP ⟨_, rfl, h⟩ (aD [] [] hρ (by kernel_rfl) ?_ ?_)) <;> simp only [AL, EV, seval, hc8, hc10]
      ·cases hv6; obtain ⟨x22, hv9, h⟩ := aA h; replace hv9 := lE hv9; cases hv9; (try dsimp only at h); simp only [EV, seval, hc8]; refine hK _ _ _ (show aN _ _ _ from aP ⟨_, rfl, h⟩ (aD [] [] hρ (by kernel_rfl) ?_ ?_)) <;> simp only [AL, EV, seval, hc8]
     ·rintro S ⟨v3, rfl, h⟩; unfold lw at h; injection h with h; subst h; exact AX (b' := 64) [(6, .bool v3)] [] [] [] hρ (EQ [])
    ·refine AN hN ?_; refine AB h (fun hc11 h => ?_) fun hc11 h => ?_
     ·refine AJ (fun S => ∃ (v4 : Bool), S = ⟨mkT [(6, .bool v4)], mkR [], 64⟩ ∧ lx v4 = some r) hN ?_ ?_
      ·intro K hK; obtain ⟨x24, hv10, h⟩ := aA h; rcases aR hv10 with ⟨hc12, hv10⟩ | ⟨hc12, hv10⟩
       ·obtain ⟨x25, h15, hv10⟩ := aA hv10; simp only [EV, seval, hc12]; refine ak (dJ h15) (by simp only [AL, EV, seval, hc12]) (aM rfl) (ab rfl) ?_; cases hv10; simp only [EV, seval, hc12]; refine hK _ _ _ (show aN _ _ _ from aP ⟨_, rfl, h⟩ (aD [] [] hρ (by kernel_rfl) ?_ ?_)) <;> simp only [AL, EV, seval, hc12]
       ·cases hv10; simp only [EV, seval, hc12]; refine hK _ _ _ (show aN _ _ _ from aP ⟨_, rfl, h⟩ (aD [] [] hρ (by kernel_rfl) ?_ ?_)) <;> simp only [AL, EV, seval, hc12]
      ·rintro S ⟨v4, rfl, h⟩; unfold lx at h; injection h with h; subst h; exact AX (b' := 64) [(6, .bool v4)] [] [] [] hρ (EQ [])
     ·refine aE (AK ?_); refine AN hN ?_; injection h with h; subst h; exact AX (b' := 64) [(6, .bool false)] [] [] [] hρ (EQ [])
def cn (v11 v12 : Int) (kl1 : Int → Int → Int → Option Bool) (v14 : Int) : Option Bool :=
  kl1 v14 v11 (IntKind.wrap .i64 (v12 + 1))
def cR (v10 v11 v12 : Int) (kl1 : Int → Int → Int → Option Bool) (q3 : Int × Int × Int × Int × Int × Int × Int × Int) (v13 : Bool) : Option Bool :=
  br v13 (some false) (br (q3.1 == 2) (cn v11 v12 kl1 (IntKind.wrap .i64 (v10 + 1))) (cn v11 v12 kl1 v10))
def gj (a3 v15 : Int) : Option Bool :=
  some (v15 == a3)
def bF (a1 a3 : Int) (a4 : LO) : Nat → Int → Int → Int → Option Bool
  | 0, _, _, _ => none
  | n1 + 1, v10, v11, v12 =>
  br (decide (v12 < v11)) (bO (aj a4 v12) fun q3 => bO (kV q3.1 q3.2.1 q3.2.2.1 q3.2.2.2.1 q3.2.2.2.2.1 q3.2.2.2.2.2.1 q3.2.2.2.2.2.2.1 q3.2.2.2.2.2.2.2 a1 a3) fun x24 => bO (br (!x24) (some true) (bO (br (q3.1 == 2) (some (q3.2.2.2.2.2.2.1 != v10)) (some false)) fun x25 => some x25)) fun x26 => bO (br x26 (some true) (some (decide (v10 < q3.2.2.2.2.2.2.2)))) fun x27 => cR v10 v11 v12 (bF a1 a3 a4 n1) q3 x27) (gj a3 v10)
def eQ (a1 a3 : Int) (a4 : LO) (v1 : Bool) : Option Bool :=
  br v1 (some false) (bF a1 a3 a4 FU 0 ((a4.length : Int)) 0)
def eh (a1 a2 a3 : Int) (a4 : LO) : Option Bool :=
  bO (lG a1 1 4) fun x1 => bO (br (!x1) (some true) (bO (lG a2 1 a1) fun x2 => some (!x2))) fun x3 => bO (br x3 (some true) (bO (lG a3 0 3) fun x4 => some (!x4))) fun x5 => bO (br x5 (some true) (some (decide (120 < ((a4.length : Int)))))) fun x6 => eQ a1 a3 a4 x6
theorem p7 {a1 a2 a3 : Int} {a4 : LO} {r : Bool} (h : eh a1 a2 a3 a4 = some r) :
    aV Tryz.prog 31 [.agg [.int .i64 a1, .int .i64 a2, .int .i64 a3, .sl (aB aK a4) a4.length]] [] (.bool r) [] := by
 unfold eh at h; refine SO Tryz.func31 rfl Tryz.ntmps31 fun C hN hρ => ?_; simp only [st0, aW, Nat.zero_add, Nat.reduceAdd]; refine AN hN ?_; refine aH ?_; refine AJ (fun S => ∃ (v1 : Bool), S = ⟨mkT [(1, .ptr 32 0), (29, .bool v1)], mkR [(32, .box 26 [.int .i64 a1, .int .i64 a2, .int .i64 a3, .sl (aB aK a4) a4.length])], 64⟩ ∧ eQ a1 a3 a4 v1 = some r) hN ?_ ?_
 ·intro K hK; obtain ⟨x1, h1, h⟩ := aA h; simp only [EV, seval]; refine CP (dJ h1) ?_; obtain ⟨x3, hv1, h⟩ := aA h; rcases aR hv1 with ⟨hc1, hv1⟩ | ⟨hc1, hv1⟩
  ·cases hv1; obtain ⟨x7, hv4, h⟩ := aA h; replace hv4 := im hv4; cases hv4; (try dsimp only at h); obtain ⟨x8, hv5, h⟩ := aA h; replace hv5 := im hv5; cases hv5; (try dsimp only at h); simp only [EV, seval, hc1]; refine hK _ _ _ (show aN _ _ _ from aP ⟨_, rfl, h⟩ (aD [(32, some 64)] [] hρ (by kernel_rfl) ?_ ?_)) <;> simp only [AL, EV, seval, hc1]
  ·obtain ⟨x9, h4, hv1⟩ := aA hv1; simp only [EV, seval, hc1]; refine ak (dJ h4) (by simp only [AL, EV, seval, hc1]) (aM rfl) (ab rfl) ?_; cases hv1; obtain ⟨x11, hv6, h⟩ := aA h; rcases aR hv6 with ⟨hc4, hv6⟩ | ⟨hc4, hv6⟩
   ·cases hv6; obtain ⟨x13, hv8, h⟩ := aA h; replace hv8 := im hv8; cases hv8; (try dsimp only at h); simp only [EV, seval, hc1, hc4]; refine hK _ _ _ (show aN _ _ _ from aP ⟨_, rfl, h⟩ (aD [(32, some 64)] [] hρ (by kernel_rfl) ?_ ?_)) <;> simp only [AL, EV, seval, hc1, hc4]
   ·obtain ⟨x14, h6, hv6⟩ := aA hv6; simp only [EV, seval, hc1, hc4]; refine ak (dJ h6) (by simp only [AL, EV, seval, hc1, hc4]) (aM rfl) (ab rfl) ?_; cases hv6; obtain ⟨x15, hv9, h⟩ := aA h; rcases aR hv9 with ⟨hc6, hv9⟩ | ⟨hc6, hv9⟩
    ·cases hv9; simp only [EV, seval, hc1, hc4, hc6]; refine hK _ _ _ (show aN _ _ _ from aP ⟨_, rfl, h⟩ (aD [(32, some 64)] [] hρ (by kernel_rfl) ?_ ?_)) <;> simp only [AL, EV, seval, hc1, hc4, hc6]
    ·cases hv9; simp only [EV, seval, hc1, hc4, hc6]; refine hK _ _ _ (show aN _ _ _ from aP ⟨_, rfl, h⟩ (aD [(32, some 64)] [] hρ (by kernel_rfl) ?_ ?_)) <;> simp only [AL, EV, seval, hc1, hc4, hc6]
 ·rintro S ⟨v1, rfl, h⟩; unfold eQ at h; refine AB h (fun hc7 h => ?_) fun hc7 h => ?_
  ·refine AN hN ?_; injection h with h; subst h; exact AX (b' := 64) [(2, .bool false)] [] [] [] hρ (EQ [])
  ·refine aE (AK ?_); refine AN hN ?_; refine aQ (fun S => ∃ (v15 : Int), S = ⟨mkT [(1, .ptr 32 0), (3, .int .i64 v15)], mkR [(32, .box 26 [.int .i64 a1, .int .i64 a2, .int .i64 a3, .sl (aB aK a4) a4.length])], 64⟩ ∧ gj a3 v15 = some r) ?_ ?_
   ·refine AN hN ?_; refine aJ ?_; refine aY (fun n S => ∃ (v10 v11 v12 : Int), S = ⟨mkT [(1, .ptr 32 0), (3, .int .i64 v10), (31, .sl (aB aK a4) a4.length), (32, .int .i64 v11), (33, .int .i64 v12)], mkR [(32, .box 26 [.int .i64 a1, .int .i64 a2, .int .i64 a3, .sl (aB aK a4) a4.length])], 64⟩ ∧ bF a1 a3 a4 n v10 v11 v12 = some r) FU ?_ ?_ ?_
    ·exact AC ⟨_, _, _, rfl, h⟩ [(32, some 32)] [] hρ
    ·rintro S ⟨_, _, _, _, h⟩; rw [bF] at h; cases h
    ·rintro n1 S ⟨v10, v11, v12, rfl, h⟩; rw [bF] at h; refine AN hN ?_; refine aH ?_; refine AB h (fun hc20 h => ?_) fun hc20 h => ?_
     ·refine aE (AK ?_); refine aQ (fun S => ∃ (v14 : Int), S = ⟨mkT [(1, .ptr 32 0), (3, .int .i64 v14), (31, .sl (aB aK a4) a4.length), (32, .int .i64 v11), (33, .int .i64 v12)], mkR [(32, .box 26 [.int .i64 a1, .int .i64 a2, .int .i64 a3, .sl (aB aK a4) a4.length])], 64⟩ ∧ cn v11 v12 (bF a1 a3 a4 n1) v14 = some r) ?_ ?_
      ·refine aJ ?_; refine AR hN fun K hK => ?_; obtain ⟨q3, h13, h⟩ := aA h; obtain ⟨⟨h14a, h14b⟩, h14c⟩ := aX f7 h13; (try simp only [EV, seval] at h14c); simp only [EV, seval, h14a, h14b, h14c]; apply hK; clear hK K; refine aH ?_; refine AJ (fun S => ∃ (v13 : Bool), S = ⟨mkT [(1, .ptr 32 0), (3, .int .i64 v10), (5, .ptr 33 0), (31, .sl (aB aK a4) a4.length), (32, .int .i64 v11), (33, .int .i64 v12), (60, .bool v13)], mkR [(32, .box 26 [.int .i64 a1, .int .i64 a2, .int .i64 a3, .sl (aB aK a4) a4.length]), (33, .box 75 [.int .i64 q3.1, .int .i64 q3.2.1, .int .i64 q3.2.2.1, .int .i64 q3.2.2.2.1, .int .i64 q3.2.2.2.2.1, .int .i64 q3.2.2.2.2.2.1, .int .i64 q3.2.2.2.2.2.2.1, .int .i64 q3.2.2.2.2.2.2.2])], 64⟩ ∧ cR v10 v11 v12 (bF a1 a3 a4 n1) q3 v13 = some r) hN ?_ ?_
       ·intro K hK; obtain ⟨x24, h15, h⟩ := aA h; simp only [EV, seval]; refine CP (sL h15) ?_; obtain ⟨x26, hv16, h⟩ := aA h; rcases aR hv16 with ⟨hc21, hv16⟩ | ⟨hc21, hv16⟩
        ·cases hv16; obtain ⟨x28, hv19, h⟩ := aA h; replace hv19 := im hv19; cases hv19; (try dsimp only at h); simp only [EV, seval, hc21]; refine hK _ _ _ (show aN _ _ _ from aP ⟨_, rfl, h⟩ (aD [(32, some 32), (33, some 1120)] [] hρ (by kernel_rfl) ?_ ?_)) <;> simp only [AL, EV, seval, hc21]
        ·obtain ⟨x29, hv20, hv16⟩ := aA hv16; rcases aR hv20 with ⟨hc24, hv20⟩ | ⟨hc24, hv20⟩
         ·cases hv20; cases hv16; obtain ⟨x31, hv22, h⟩ := aA h; rcases aR hv22 with ⟨hc26, hv22⟩ | ⟨hc26, hv22⟩
          ·cases hv22; simp only [EV, seval, hc21, hc24, hc26]; refine hK _ _ _ (show aN _ _ _ from aP ⟨_, rfl, h⟩ (aD [(32, some 32), (33, some 1120)] [] hρ (by kernel_rfl) ?_ ?_)) <;> simp only [AL, EV, seval, hc21, hc24, hc26]
          ·cases hv22; simp only [EV, seval, hc21, hc24, hc26]; refine hK _ _ _ (show aN _ _ _ from aP ⟨_, rfl, h⟩ (aD [(32, some 32), (33, some 1120)] [] hρ (by kernel_rfl) ?_ ?_)) <;> simp only [AL, EV, seval, hc21, hc24, hc26]
         ·cases hv20; cases hv16; obtain ⟨x32, hv23, h⟩ := aA h; replace hv23 := lE hv23; cases hv23; (try dsimp only at h); simp only [EV, seval, hc21, hc24]; refine hK _ _ _ (show aN _ _ _ from aP ⟨_, rfl, h⟩ (aD [(32, some 32), (33, some 1120)] [] hρ (by kernel_rfl) ?_ ?_)) <;> simp only [AL, EV, seval, hc21, hc24]
       ·rintro S ⟨v13, rfl, h⟩; unfold cR at h; refine ae (a := .bool v13) (by simp only [EV, seval, h14a, h14b, h14c]) (brK h (fun hc27 h => ?_) (fun hc27 h => ?_))
        ·refine AN hN ?_; injection h with h; subst h; exact AX (b' := 64) [(2, .bool false)] [] [] [] hρ (EQ [])
        ·refine aE (AK ?_); refine AN hN ?_; refine AB h (fun hc28 h => ?_) fun hc28 h => ?_
         ·refine AS hN fun K hK => ?_; simp only [EV, seval]; exact hK _ _ _ (AC ⟨_, rfl, h⟩ [(32, some 32)] [] hρ)
         ·refine aE (show aN _ _ _ from aP ⟨_, rfl, h⟩ (aD [(32, some 32)] [] hρ (by kernel_rfl) ?_ ?_)) <;> simp only [AL, EV, seval]
      ·rintro S ⟨v14, rfl, h⟩; unfold cn at h; refine AS hN fun K hK => ?_; simp only [EV, seval]; exact hK _ _ _ (AC ⟨_, _, _, rfl, h⟩ [(32, some 32)] [] hρ)
     ·exact aZ (AC ⟨_, rfl, h⟩ [(32, some 32)] [] hρ)
   ·rintro S ⟨v15, rfl, h⟩; unfold gj at h; refine AN hN ?_; injection h with h; subst h; exact AX (b' := 64) [(2, .bool (v15 == a3))] [] [] [] hρ (EQ [])
def mO : Option (Int × Int × Int × Int × Int) :=
  some (1, 0, 0, 0, 0)
theorem oP {r : Int × Int × Int × Int × Int} (h : mO = some r) :
    aV Tryz.prog 12 [] [] (.agg [.int .i64 r.1, .int .i64 r.2.1, .int .i64 r.2.2.1, .int .i64 r.2.2.2.1, .int .i64 r.2.2.2.2]) [] := by
 unfold mO at h; refine SO Tryz.func12 rfl Tryz.ntmps12 fun C hN hρ => ?_; simp only [st0, aW, Nat.zero_add, Nat.reduceAdd]; refine AN hN ?_; refine AN hN ?_; injection h with h; subst h; exact AX (b' := 64) [(0, .ptr 32 0)] [(32, .box 36 [.int .i64 1, .int .i64 0, .int .i64 0, .int .i64 0, .int .i64 0])] [(32, some 64)] [] hρ (EQ [])
def ku (a1 a2 : Int) (v1 : Bool) : Option (LF) :=
  br v1 (some ([])) (gd (decide (¬ a1 < 0)) (gd (decide (0 ≤ IntKind.wrap .i64 (1 * 2 ^ min (Int.toNat a1) (IntKind.bits .i64)) ∧ IntKind.wrap .i64 (1 * 2 ^ min (Int.toNat a1) (IntKind.bits .i64)) ≤ 1048576)) (bO (mO) fun x5 => bO (aj (List.replicate (Int.toNat (IntKind.wrap .i64 (1 * 2 ^ min (Int.toNat a1) (IntKind.bits .i64)))) ((0, 0, 0, 0, 0) : Int × Int × Int × Int × Int)) a2) fun q1 => some ((List.replicate (Int.toNat (IntKind.wrap .i64 (1 * 2 ^ min (Int.toNat a1) (IntKind.bits .i64)))) ((0, 0, 0, 0, 0) : Int × Int × Int × Int × Int)).set (Int.toNat a2) ((x5.1, x5.2.1, x5.2.2.1, x5.2.2.2.1, x5.2.2.2.2))))))
def jF (a1 a2 : Int) : Option (LF) :=
  bO (lG a1 1 4) fun x1 => bO (br (!x1) (some true) (gd (decide (¬ a1 < 0)) (bO (lG a2 0 (IntKind.wrap .i64 ((IntKind.wrap .i64 (1 * 2 ^ min (Int.toNat a1) (IntKind.bits .i64))) - 1))) fun x2 => some (!x2)))) fun x3 => ku a1 a2 x3
theorem rL {a1 a2 : Int} {r : LF} (h : jF a1 a2 = some r) :
    aV Tryz.prog 57 [.int .i64 a1, .int .i64 a2] [] (.own 0 r.length) [.row 36 5 (aB aS r)] := by
 unfold jF at h; refine SO Tryz.func57 rfl Tryz.ntmps57 fun C hN hρ => ?_; simp only [st0, aW, Nat.zero_add, Nat.reduceAdd]; refine AN hN ?_; refine aH ?_; refine AJ (fun S => ∃ (v1 : Bool), S = ⟨mkT [(0, .int .i64 a1), (1, .int .i64 a2), (16, .bool v1)], mkR [], 64⟩ ∧ ku a1 a2 v1 = some r) hN ?_ ?_
 ·intro K hK; obtain ⟨x1, h1, h⟩ := aA h; simp only [EV, seval]; refine CP (dJ h1) ?_; obtain ⟨x3, hv1, h⟩ := aA h; rcases aR hv1 with ⟨hc1, hv1⟩ | ⟨hc1, hv1⟩
  ·cases hv1; simp only [EV, seval, hc1]; refine hK _ _ _ (show aN _ _ _ from aP ⟨_, rfl, h⟩ (aD [] [] hρ (by kernel_rfl) ?_ ?_)) <;> simp only [AL, EV, seval, hc1]
  ·obtain ⟨h4, hv1⟩ := o7 hv1; replace h4 := of_decide_eq_true h4; obtain ⟨x4, h5, hv1⟩ := aA hv1; simp only [EV, seval, hc1, h4]; refine ak (dJ h5) (by simp only [AL, EV, seval, hc1, h4]) (aM rfl) (ab rfl) ?_; cases hv1; simp only [EV, seval, hc1, h4]; refine hK _ _ _ (show aN _ _ _ from aP ⟨_, rfl, h⟩ (aD [] [] hρ (by kernel_rfl) ?_ ?_)) <;> simp only [AL, EV, seval, hc1, h4]
 ·rintro S ⟨v1, rfl, h⟩; unfold ku at h; refine AB h (fun hc2 h => ?_) fun hc2 h => ?_
  ·refine AN hN ?_; injection h with h; subst h; exact AX (b' := 64) [(4, .own 32 0)] [(32, .row 36 5 (aB aS ([])))] [(32, none)] [] hρ (EQ [32])
  ·refine aE (AK ?_); refine AR hN fun K hK => ?_; obtain ⟨h6, h⟩ := gdI h; obtain ⟨h7, h⟩ := gdI h; have h8 := mq (e := aS) ((0, 0, 0, 0, 0)) (Int.toNat (IntKind.wrap .i64 (1 * 2 ^ min (Int.toNat a1) (IntKind.bits .i64)))); simp only [EN] at h8; have h9 : (List.replicate (Int.toNat (IntKind.wrap .i64 (1 * 2 ^ min (Int.toNat a1) (IntKind.bits .i64)))) ((0, 0, 0, 0, 0) : Int × Int × Int × Int × Int)).length = Int.toNat (IntKind.wrap .i64 (1 * 2 ^ min (Int.toNat a1) (IntKind.bits .i64))) := List.length_replicate; simp only [EV, seval, h6, h7, h8, h9]; apply hK; clear hK K; refine AR hN fun K hK => ?_; obtain ⟨x5, h10, h⟩ := aA h; simp only [EV, seval]; refine CP (oP h10) ?_; obtain ⟨q1, h11, h⟩ := aA h; obtain ⟨⟨h12a, h12b⟩, h12c⟩ := aX cS h11; (try simp only [EV, seval] at h12c); (try simp only [EV, seval] at h12b); have h13 := qw cS ((x5.1, x5.2.1, x5.2.2.1, x5.2.2.2.1, x5.2.2.2.2)) 0 [.int .i64 x5.1, .int .i64 x5.2.1, .int .i64 x5.2.2.1, .int .i64 x5.2.2.2.1, .int .i64 x5.2.2.2.2] h11 (Nat.le_of_ble_eq_true rfl) rfl; obtain ⟨h13a, h13b⟩ := h13; (try simp only [EV, seval] at h13a); (try simp only [EV, seval] at h13b); simp only [EV, seval, h12a, h12b, h12c, h13a, h13b]; apply hK; clear hK K; refine AN hN ?_; injection h with h; subst h; exact AX (b' := 64) [(4, .own 32 ((List.replicate (Int.toNat (IntKind.wrap .i64 (1 * 2 ^ min (Int.toNat a1) (IntKind.bits .i64)))) ((0, 0, 0, 0, 0) : Int × Int × Int × Int × Int)).set (Int.toNat a2) ((x5.1, x5.2.1, x5.2.2.1, x5.2.2.2.1, x5.2.2.2.2))).length)] [(32, .row 36 5 (aB aS ((List.replicate (Int.toNat (IntKind.wrap .i64 (1 * 2 ^ min (Int.toNat a1) (IntKind.bits .i64)))) ((0, 0, 0, 0, 0) : Int × Int × Int × Int × Int)).set (Int.toNat a2) ((x5.1, x5.2.1, x5.2.2.1, x5.2.2.2.1, x5.2.2.2.2)))))] [(32, some 96)] [] hρ (EQ [32])
def iC (v6 : List (LF)) : Option (Int × List (LF)) :=
  some (0, v6)
def cW (a1 a2 : Int) : Nat → Int → (List (LF)) → Option (Int × List (LF))
  | 0, _, _ => none
  | n1 + 1, v4, v5 =>
  gd (decide (¬ a2 < 0)) (br (decide (v4 < (IntKind.wrap .i64 (1 * 2 ^ min (Int.toNat a2) (IntKind.bits .i64))))) (bO (jF a1 v4) fun x12 => gd (decide (v5.length + ([x12]).length ≤ 16777216)) ((cW a1 a2 n1) (IntKind.wrap .i64 (v4 + 1)) (v5 ++ ([x12])))) (iC v5))
def fE (a1 a2 : Int) (v1 : Bool) : Option (Int × List (LF)) :=
  br v1 (some (0, [])) (cW a1 a2 FU 0 ([] : List (LF)))
def fU (a1 a2 : Int) : Option (Int × List (LF)) :=
  bO (br (decide (a1 < 1)) (some true) (some (decide (4 < a1)))) fun x1 => bO (br x1 (some true) (some (decide (a2 < 1)))) fun x2 => bO (br x2 (some true) (some (decide (a1 < a2)))) fun x3 => fE a1 a2 x3
theorem pm {a1 a2 : Int} {r : Int × List (LF)} (h : fU a1 a2 = some r) :
    aV Tryz.prog 32 [.int .i64 a1, .int .i64 a2] [] (.agg [.int .i64 r.1, .own 0 r.2.length]) [.row 55 1 (aB aU r.2)] := by
 unfold fU at h; refine SO Tryz.func32 rfl Tryz.ntmps32 fun C hN hρ => ?_; simp only [st0, aW, Nat.zero_add, Nat.reduceAdd]; refine AN hN ?_; refine aH ?_; refine AJ (fun S => ∃ (v1 : Bool), S = ⟨mkT [(0, .int .i64 a1), (1, .int .i64 a2), (4, .ptr 32 0), (21, .bool v1)], mkR [(32, .box 46 [.int .i64 0, .nil])], 64⟩ ∧ fE a1 a2 v1 = some r) hN ?_ ?_
 ·intro K hK; obtain ⟨x1, hv1, h⟩ := aA h; rcases aR hv1 with ⟨hc1, hv1⟩ | ⟨hc1, hv1⟩
  ·cases hv1; obtain ⟨x4, hv4, h⟩ := aA h; replace hv4 := im hv4; cases hv4; (try dsimp only at h); obtain ⟨x5, hv5, h⟩ := aA h; replace hv5 := im hv5; cases hv5; (try dsimp only at h); simp only [EV, seval, hc1]; refine hK _ _ _ (show aN _ _ _ from aP ⟨_, rfl, h⟩ (aD [(32, some 64)] [] hρ (by kernel_rfl) ?_ ?_)) <;> simp only [AL, EV, seval, hc1]
  ·cases hv1; obtain ⟨x6, hv6, h⟩ := aA h; rcases aR hv6 with ⟨hc4, hv6⟩ | ⟨hc4, hv6⟩
   ·cases hv6; obtain ⟨x8, hv8, h⟩ := aA h; replace hv8 := im hv8; cases hv8; (try dsimp only at h); simp only [EV, seval, hc1, hc4]; refine hK _ _ _ (show aN _ _ _ from aP ⟨_, rfl, h⟩ (aD [(32, some 64)] [] hρ (by kernel_rfl) ?_ ?_)) <;> simp only [AL, EV, seval, hc1, hc4]
   ·cases hv6; obtain ⟨x9, hv9, h⟩ := aA h; rcases aR hv9 with ⟨hc6, hv9⟩ | ⟨hc6, hv9⟩
    ·cases hv9; simp only [EV, seval, hc1, hc4, hc6]; refine hK _ _ _ (show aN _ _ _ from aP ⟨_, rfl, h⟩ (aD [(32, some 64)] [] hρ (by kernel_rfl) ?_ ?_)) <;> simp only [AL, EV, seval, hc1, hc4, hc6]
    ·cases hv9; simp only [EV, seval, hc1, hc4, hc6]; refine hK _ _ _ (show aN _ _ _ from aP ⟨_, rfl, h⟩ (aD [(32, some 64)] [] hρ (by kernel_rfl) ?_ ?_)) <;> simp only [AL, EV, seval, hc1, hc4, hc6]
 ·rintro S ⟨v1, rfl, h⟩; unfold fE at h; refine AB h (fun hc7 h => ?_) fun hc7 h => ?_
  ·refine AN hN ?_; injection h with h; subst h; exact AX (b' := 64) [(4, .ptr 32 0)] [(32, .box 46 [.int .i64 0, .own 33 0]), (33, .row 55 1 (aB aU ([])))] [(32, some 32), (33, none)] [] hρ (EQ [33])
  ·refine aE (AK ?_); refine AN hN ?_; refine aQ (fun S => ∃ (v6 : List (LF)), S = ⟨mkT [(4, .ptr 32 0), (5, .ptr 33 0)], mkR [(32, .box 46 [.int .i64 0, .nil]), (33, .box 46 [.int .i64 0, .own 34 v6.length]), (34, .row 55 1 (aB aU v6))], 64⟩ ∧ iC v6 = some r) ?_ ?_
   ·refine AN hN ?_; refine aJ ?_; refine aY (fun n S => ∃ (v4 : Int) (v5 : List (LF)), S = ⟨mkT [(0, .int .i64 a1), (1, .int .i64 a2), (4, .ptr 32 0), (5, .ptr 33 0), (6, .int .i64 v4)], mkR [(32, .box 46 [.int .i64 0, .nil]), (33, .box 46 [.int .i64 0, .own 34 v5.length]), (34, .row 55 1 (aB aU v5))], 64⟩ ∧ cW a1 a2 n v4 v5 = some r) FU ?_ ?_ ?_
    ·exact AC ⟨_, _, rfl, h⟩ [(32, some 32), (33, some 80), (34, none)] [] hρ
    ·rintro S ⟨_, _, _, h⟩; rw [cW] at h; cases h
    ·rintro n1 S ⟨v4, v5, rfl, h⟩; rw [cW] at h; refine aH ?_; refine AR hN fun K hK => ?_; obtain ⟨h7, h⟩ := gdI h; simp only [EV, seval, h7]; apply hK; clear hK K; refine ae (a := .bool (decide (v4 < (IntKind.wrap .i64 (1 * 2 ^ min (Int.toNat a2) (IntKind.bits .i64)))))) (by simp only [EV, seval, h7]) (brK h (fun hc10 h => ?_) (fun hc10 h => ?_))
     ·refine aE (AK ?_); refine aH ?_; refine aJ ?_; refine AS hN fun K hK => ?_; obtain ⟨x12, h8, h⟩ := aA h; simp only [EV, seval]; refine ak (aV.can (ret2 := .sl (aB aS x12) x12.length) (mem2 := []) (rL h8) [] [0] (by kernel_rfl) (by simp only [AL, EV, seval]) (by simp only [AL, EV, seval])) (by simp only [AL, EV, seval]) (aM rfl) (ab rfl) ?_; obtain ⟨h9, h⟩ := gdI h; (try simp only [EV, seval] at h9); simp only [EV, seval, h9]; refine hK _ _ _ (show AW _ _ _ _ _ from ?_); refine AS hN fun K hK => ?_; simp only [EV, seval]; exact hK _ _ _ (AC ⟨_, _, rfl, h⟩ [(32, some 32), (33, some 33), (34, some 1184)] [] hρ)
     ·refine aZ (show aN _ _ _ from aP ⟨_, rfl, h⟩ (aD [(32, some 32), (33, some 33), (34, some 34)] [] hρ (by kernel_rfl) ?_ ?_)) <;> simp only [AL, EV, seval, h7]
   ·rintro S ⟨v6, rfl, h⟩; unfold iC at h; refine AN hN ?_; injection h with h; subst h; exact AX (b' := 64) [(4, .ptr 32 0)] [(32, .box 46 [.int .i64 0, .own 33 v6.length]), (33, .row 55 1 (aB aU v6))] [(32, some 32), (33, some 34)] [] hρ (EQ [33])
def eR (v24 : Int) (kl3 : Int → (LZ) → Option (LZ × Bool)) (v35 : LZ) : Option (LZ × Bool) :=
  kl3 (IntKind.wrap .i64 (v24 + 1)) v35
def eS (v24 : Int) (kl3 : Int → (LZ) → Option (LZ × Bool)) (v34 : LZ) : Option (LZ × Bool) :=
  eR v24 kl3 v34
def bo (a4 : LO) (v24 : Int) (v25 : LZ) (kl3 : Int → (LZ) → Option (LZ × Bool)) : Nat → Int → Int → (LZ) → Option (LZ × Bool)
  | 0, _, _, _ => none
  | n4 + 1, v31, v32, v33 =>
  br (decide (v32 < v31)) (bO (aj v25 v32) fun q17 => bO (aj a4 v24) fun q18 => bO (kU q18.1 q18.2.1 q18.2.2.1 q18.2.2.2.1 q18.2.2.2.2.1 q18.2.2.2.2.2.1 q18.2.2.2.2.2.2.1 q18.2.2.2.2.2.2.2 q17.1 q17.2) fun x11 => br (!x11.2) (some ([], false)) (gd (decide (v33.length + x11.1.length ≤ 16777216)) ((bo a4 v24 v25 kl3 n4) v31 (IntKind.wrap .i64 (v32 + 1)) (v33 ++ x11.1)))) (eS v24 kl3 v33)
def gk (v36 : LZ) : Option (LZ × Bool) :=
  some (v36, true)
def b7 (a4 : LO) (a5 : Int) : Nat → Int → (LZ) → Option (LZ × Bool)
  | 0, _, _ => none
  | n3 + 1, v24, v25 =>
  br (decide (v24 < (if (a4.length : Int) < a5 then (a4.length : Int) else a5))) (bo a4 v24 v25 (b7 a4 a5 n3) FU ((v25.length : Int)) 0 ([] : LZ)) (gk v25)
def gR (a1 a2 a3 : Int) (a4 : LO) (a5 : Int) : Option (LZ × Bool) :=
  bO (eh a1 a2 a3 a4) fun x1 => br (!x1) (some ([], false)) (bO (fU a1 a2) fun x2 => b7 a4 a5 FU 0 ([(x2.1, x2.2)]))
theorem p9 {a1 a2 a3 : Int} {a4 : LO} {a5 : Int} {r : LZ × Bool} (h : gR a1 a2 a3 a4 a5 = some r) :
    aV Tryz.prog 19 [.agg [.int .i64 a1, .int .i64 a2, .int .i64 a3, .sl (aB aK a4) a4.length], .int .i64 a5] [] (.tup [.own 0 r.1.length, .bool r.2]) [.row 46 2 (aB aL r.1)] := by
 unfold gR at h; refine SO Tryz.func19 rfl Tryz.ntmps19 fun C hN hρ => ?_; simp only [st0, aW, Nat.zero_add, Nat.reduceAdd]; refine AN hN ?_; refine aH ?_; obtain ⟨x1, h1, h⟩ := aA h; refine AP hN (p7 h1) ?_; refine AB h (fun hc1 h => ?_) fun hc1 h => ?_
 ·refine AN hN ?_; injection h with h; subst h; exact AX (b' := 64) [(4, .own 32 0), (5, .bool false)] [(32, .row 46 2 (aB aL ([])))] [(32, none)] [] hρ (EQ [32])
 ·refine aE (AK ?_); refine AR hN fun K hK => ?_; obtain ⟨x2, h2, h⟩ := aA h; simp only [EV, seval]; refine ak (aV.can (ret2 := .agg [.int .i64 x2.1, .sl (aB aU x2.2) x2.2.length]) (mem2 := []) (pm h2) [] [0] (by kernel_rfl) (by simp only [AL, EV, seval]) (by simp only [AL, EV, seval])) (by simp only [AL, EV, seval]) (aM rfl) (ab rfl) ?_; simp only [EV, seval]; apply hK; clear hK K; refine aQ (fun S => ∃ (v36 : LZ), S = ⟨mkT [(6, .own 32 v36.length)], mkR [(32, .row 46 2 (aB aL v36))], 64⟩ ∧ gk v36 = some r) ?_ ?_
  ·refine AN hN ?_; refine aJ ?_; refine aY (fun n S => ∃ (v24 : Int) (v25 : LZ), S = ⟨mkT [(1, .int .i64 a5), (2, .ptr 32 0), (6, .own 33 v25.length), (7, .int .i64 v24)], mkR [(32, .box 26 [.int .i64 a1, .int .i64 a2, .int .i64 a3, .sl (aB aK a4) a4.length]), (33, .row 46 2 (aB aL v25))], 64⟩ ∧ b7 a4 a5 n v24 v25 = some r) FU ?_ ?_ ?_
   ·exact AC ⟨_, _, rfl, h⟩ [(32, some 64), (33, some 2192)] [] hρ
   ·rintro S ⟨_, _, _, h⟩; rw [b7] at h; cases h
   ·rintro n3 S ⟨v24, v25, rfl, h⟩; rw [b7] at h; refine aH ?_; refine AN hN ?_; refine AB h (fun hc16 h => ?_) fun hc16 h => ?_
    ·refine aE (AK ?_); refine aQ (fun S => ∃ (v35 : LZ), S = ⟨mkT [(1, .int .i64 a5), (2, .ptr 32 0), (6, .own 33 v35.length), (7, .int .i64 v24)], mkR [(32, .box 26 [.int .i64 a1, .int .i64 a2, .int .i64 a3, .sl (aB aK a4) a4.length]), (33, .row 46 2 (aB aL v35))], 64⟩ ∧ eR v24 (b7 a4 a5 n3) v35 = some r) ?_ ?_
     ·refine aJ ?_; refine AN hN ?_; refine aQ (fun S => ∃ (v34 : LZ), S = ⟨mkT [(1, .int .i64 a5), (2, .ptr 32 0), (7, .int .i64 v24), (8, .own 33 v34.length)], mkR [(32, .box 26 [.int .i64 a1, .int .i64 a2, .int .i64 a3, .sl (aB aK a4) a4.length]), (33, .row 46 2 (aB aL v34))], 64⟩ ∧ eS v24 (b7 a4 a5 n3) v34 = some r) ?_ ?_
      ·refine AN hN ?_; refine aJ ?_; refine aY (fun n S => ∃ (v31 v32 : Int) (v33 : LZ), S = ⟨mkT [(1, .int .i64 a5), (2, .ptr 32 0), (7, .int .i64 v24), (8, .own 33 v33.length), (32, .own 34 v25.length), (33, .int .i64 v31), (34, .int .i64 v32)], mkR [(32, .box 26 [.int .i64 a1, .int .i64 a2, .int .i64 a3, .sl (aB aK a4) a4.length]), (33, .row 46 2 (aB aL v33)), (34, .row 46 2 (aB aL v25))], 64⟩ ∧ bo a4 v24 v25 (b7 a4 a5 n3) n v31 v32 v33 = some r) FU ?_ ?_ ?_
       ·exact AC ⟨_, _, _, rfl, h⟩ [(32, some 32), (33, some 1088), (34, some 33)] [] hρ
       ·rintro S ⟨_, _, _, _, h⟩; rw [bo] at h; cases h
       ·rintro n4 S ⟨v31, v32, v33, rfl, h⟩; rw [bo] at h; refine AN hN ?_; refine aH ?_; refine AB h (fun hc21 h => ?_) fun hc21 h => ?_
        ·refine aE (AK ?_); refine aH ?_; refine aJ ?_; refine AR hN fun K hK => ?_; obtain ⟨q17, h51, h⟩ := aA h; obtain ⟨⟨h52a, h52b⟩, h52c⟩ := aX dU h51; (try simp only [EV, seval] at h52c); simp only [EV, seval, h52a, h52b, h52c]; apply hK; clear hK K; refine AR hN fun K hK => ?_; obtain ⟨q18, h53, h⟩ := aA h; obtain ⟨⟨h54a, h54b⟩, h54c⟩ := aX f7 h53; (try simp only [EV, seval] at h54c); obtain ⟨x11, h55, h⟩ := aA h; simp only [EV, seval, h54a, h54b, h54c]; refine ak (sK h55) (by simp only [AL, EV, seval, h54a, h54b, h54c]) (aM rfl) (ap (by simp only [EV, seval])) ?_; simp only [EV, seval, h54a, h54b, h54c]; apply hK; clear hK K; refine aH ?_; refine AN hN ?_; refine AB h (fun hc22 h => ?_) fun hc22 h => ?_
         ·refine AN hN ?_; injection h with h; subst h; exact AX (b' := 64) [(4, .own 32 0), (5, .bool false)] [(32, .row 46 2 (aB aL ([])))] [(32, none)] [] hρ (EQ [32])
         ·refine aE (AK ?_); refine AS hN fun K hK => ?_; obtain ⟨h56, h⟩ := gdI h; (try simp only [EV, seval] at h56); simp only [EV, seval, h56]; refine hK _ _ _ (show AW _ _ _ _ _ from ?_); refine AS hN fun K hK => ?_; simp only [EV, seval]; exact hK _ _ _ (AC ⟨_, _, _, rfl, h⟩ [(32, some 32), (33, some 4192), (34, some 34)] [] hρ)
        ·exact aZ (AC ⟨_, rfl, h⟩ [(32, some 32), (33, some 33)] [] hρ)
      ·rintro S ⟨v34, rfl, h⟩; unfold eS at h; refine AS hN fun K hK => ?_; simp only [EV, seval]; exact hK _ _ _ (AC ⟨_, rfl, h⟩ [(32, some 32), (33, some 33)] [] hρ)
     ·rintro S ⟨v35, rfl, h⟩; unfold eR at h; refine AS hN fun K hK => ?_; simp only [EV, seval]; exact hK _ _ _ (AC ⟨_, _, rfl, h⟩ [(32, some 32), (33, some 33)] [] hρ)
    ·exact aZ (AC ⟨_, rfl, h⟩ [(32, some 33)] [] hρ)
  ·rintro S ⟨v36, rfl, h⟩; unfold gk at h; refine AN hN ?_; injection h with h; subst h; exact AX (b' := 64) [(4, .own 32 v36.length), (5, .bool true)] [(32, .row 46 2 (aB aL v36))] [(32, some 32)] [] hρ (EQ [32])
def ly (a1 a2 a3 : Int) (a4 : LO) : Option (LZ × Bool) :=
  bO (gR a1 a2 a3 a4 ((a4.length : Int))) fun x1 => some (x1.1, x1.2)
theorem sn {a1 a2 a3 : Int} {a4 : LO} {r : LZ × Bool} (h : ly a1 a2 a3 a4 = some r) :
    aV Tryz.prog 7 [.agg [.int .i64 a1, .int .i64 a2, .int .i64 a3, .sl (aB aK a4) a4.length]] [] (.tup [.own 0 r.1.length, .bool r.2]) [.row 46 2 (aB aL r.1)] := by
 unfold ly at h; refine SO Tryz.func7 rfl Tryz.ntmps7 fun C hN hρ => ?_; simp only [st0, aW, Nat.zero_add, Nat.reduceAdd]; refine AN hN ?_; refine AR hN fun K hK => ?_; obtain ⟨x1, h1, h⟩ := aA h; simp only [EV, seval]; refine ak (p9 h1) (by simp only [AL, EV, seval]) (aM rfl) (ap (by simp only [EV, seval])) ?_; simp only [EV, seval]; apply hK; clear hK K; refine AN hN ?_; injection h with h; subst h; exact AX (b' := 64) [(2, .own 32 x1.1.length), (3, .bool x1.2)] [(32, .row 46 2 (aB aL x1.1))] [(32, some 1152)] [] hρ (EQ [32])
def lz (v2 : Bool) : Option Bool :=
  some v2
def m5 (v3 : Bool) : Option Bool :=
  some v3
def m6 (v4 : Bool) : Option Bool :=
  some v4
def jG (a1 a2 a3 a4 a5 a6 a7 a8 a9 a10 : Int) (v1 : Bool) : Option Bool :=
  br v1 (some false) (br (a1 == 1) (bO (br (((a1 == a1) && ((a2 == a2) && ((a3 == a3) && ((a4 == a4) && ((a5 == a5) && ((a6 == 0) && ((a7 == 0) && (a8 == a8))))))))) (bO (eG a2 a3 a4 a5 a9) fun x5 => some x5) (some false)) fun x6 => bO (br x6 (bO (cM a8 0 a10) fun x7 => some x7) (some false)) fun x8 => lz x8) (br (a1 == 2) (bO (br (((a1 == a1) && ((a2 == 0) && ((a3 == 0) && ((a4 == 0) && ((a5 == 0) && ((a6 == a6) && ((a7 == a7) && (a8 == 0))))))))) (bO (cM a6 0 (IntKind.wrap .i64 (a9 - 1))) fun x14 => some x14) (some false)) fun x15 => bO (br x15 (bO (cM a7 0 (IntKind.wrap .i64 (a10 - 1))) fun x16 => some x16) (some false)) fun x17 => m5 x17) (br (a1 == 3) (bO (br (((a1 == a1) && ((a2 == 0) && ((a3 == 0) && ((a4 == 0) && ((a5 == 0) && ((a6 == a6) && ((a7 == 0) && (a8 == 0))))))))) (bO (cM a6 0 (IntKind.wrap .i64 (a9 - 1))) fun x23 => some x23) (some false)) fun x24 => m6 x24) (some false))))
def kW (a1 a2 a3 a4 a5 a6 a7 a8 a9 a10 : Int) : Option Bool :=
  bO (cM a9 1 4) fun x1 => bO (br (!x1) (some true) (bO (cM a10 0 3) fun x2 => some (!x2))) fun x3 => jG a1 a2 a3 a4 a5 a6 a7 a8 a9 a10 x3
theorem sM {a1 a2 a3 a4 a5 a6 a7 a8 a9 a10 : Int} {r : Bool} (h : kW a1 a2 a3 a4 a5 a6 a7 a8 a9 a10 = some r) :
    aV Tryz.prog 61 [.agg [.int .i64 a1, .int .i64 a2, .int .i64 a3, .int .i64 a4, .int .i64 a5, .int .i64 a6, .int .i64 a7, .int .i64 a8], .int .i64 a9, .int .i64 a10] [] (.bool r) [] := by
 unfold kW at h; refine SO Tryz.func61 rfl Tryz.ntmps61 fun C hN hρ => ?_; simp only [st0, aW, Nat.zero_add, Nat.reduceAdd]; refine AN hN ?_; refine aH ?_; refine AJ (fun S => ∃ (v1 : Bool), S = ⟨mkT [(1, .int .i64 a9), (2, .int .i64 a10), (3, .ptr 32 0), (14, .bool v1)], mkR [(32, .box 75 [.int .i64 a1, .int .i64 a2, .int .i64 a3, .int .i64 a4, .int .i64 a5, .int .i64 a6, .int .i64 a7, .int .i64 a8])], 64⟩ ∧ jG a1 a2 a3 a4 a5 a6 a7 a8 a9 a10 v1 = some r) hN ?_ ?_
 ·intro K hK; obtain ⟨x1, h1, h⟩ := aA h; simp only [EV, seval]; refine CP (ax h1) ?_; obtain ⟨x3, hv1, h⟩ := aA h; rcases aR hv1 with ⟨hc1, hv1⟩ | ⟨hc1, hv1⟩
  ·cases hv1; simp only [EV, seval, hc1]; refine hK _ _ _ (show aN _ _ _ from aP ⟨_, rfl, h⟩ (aD [(32, some 64)] [] hρ (by kernel_rfl) ?_ ?_)) <;> simp only [AL, EV, seval, hc1]
  ·obtain ⟨x4, h3, hv1⟩ := aA hv1; simp only [EV, seval, hc1]; refine ak (ax h3) (by simp only [AL, EV, seval, hc1]) (aM rfl) (ab rfl) ?_; cases hv1; simp only [EV, seval, hc1]; refine hK _ _ _ (show aN _ _ _ from aP ⟨_, rfl, h⟩ (aD [(32, some 64)] [] hρ (by kernel_rfl) ?_ ?_)) <;> simp only [AL, EV, seval, hc1]
 ·rintro S ⟨v1, rfl, h⟩; unfold jG at h; refine AB h (fun hc2 h => ?_) fun hc2 h => ?_
  ·refine AN hN ?_; injection h with h; subst h; exact AX (b' := 64) [(6, .bool false)] [] [] [] hρ (EQ [])
  ·refine aE (AK ?_); refine aH ?_; refine AN hN ?_; refine aJ ?_; refine AN hN ?_; refine AB h (fun hc3 h => ?_) fun hc3 h => ?_
   ·refine AJ (fun S => ∃ (v2 : Bool), S = ⟨mkT [(6, .bool v2)], mkR [], 64⟩ ∧ lz v2 = some r) hN ?_ ?_
    ·intro K hK; obtain ⟨x6, hv2, h⟩ := aA h; rcases aR hv2 with ⟨hc4, hv2⟩ | ⟨hc4, hv2⟩
     ·obtain ⟨x9, h6, hv2⟩ := aA hv2; simp only [EV, seval, hc4]; refine ak (jn h6) (by simp only [AL, EV, seval, hc4]) (aM rfl) (ab rfl) ?_; cases hv2; obtain ⟨x11, hv4, h⟩ := aA h; rcases aR hv4 with ⟨hc6, hv4⟩ | ⟨hc6, hv4⟩
      ·obtain ⟨x12, h8, hv4⟩ := aA hv4; simp only [EV, seval, hc4, hc6]; refine ak (ax h8) (by simp only [AL, EV, seval, hc4, hc6]) (aM rfl) (ab rfl) ?_; cases hv4; simp only [EV, seval, hc4, hc6]; refine hK _ _ _ (show aN _ _ _ from aP ⟨_, rfl, h⟩ (aD [] [] hρ (by kernel_rfl) ?_ ?_)) <;> simp only [AL, EV, seval, hc4, hc6]
      ·cases hv4; simp only [EV, seval, hc4, hc6]; refine hK _ _ _ (show aN _ _ _ from aP ⟨_, rfl, h⟩ (aD [] [] hρ (by kernel_rfl) ?_ ?_)) <;> simp only [AL, EV, seval, hc4, hc6]
     ·cases hv2; obtain ⟨x13, hv5, h⟩ := aA h; replace hv5 := lE hv5; cases hv5; (try dsimp only at h); simp only [EV, seval, hc4]; refine hK _ _ _ (show aN _ _ _ from aP ⟨_, rfl, h⟩ (aD [] [] hρ (by kernel_rfl) ?_ ?_)) <;> simp only [AL, EV, seval, hc4]
    ·rintro S ⟨v2, rfl, h⟩; unfold lz at h; injection h with h; subst h; exact AX (b' := 64) [(6, .bool v2)] [] [] [] hρ (EQ [])
   ·refine AN hN ?_; refine AB h (fun hc7 h => ?_) fun hc7 h => ?_
    ·refine AJ (fun S => ∃ (v3 : Bool), S = ⟨mkT [(6, .bool v3)], mkR [], 64⟩ ∧ m5 v3 = some r) hN ?_ ?_
     ·intro K hK; obtain ⟨x15, hv6, h⟩ := aA h; rcases aR hv6 with ⟨hc8, hv6⟩ | ⟨hc8, hv6⟩
      ·obtain ⟨x18, h11, hv6⟩ := aA hv6; simp only [EV, seval, hc8]; refine ak (ax h11) (by simp only [AL, EV, seval, hc8]) (aM rfl) (ab rfl) ?_; cases hv6; obtain ⟨x20, hv8, h⟩ := aA h; rcases aR hv8 with ⟨hc10, hv8⟩ | ⟨hc10, hv8⟩
       ·obtain ⟨x21, h13, hv8⟩ := aA hv8; simp only [EV, seval, hc8, hc10]; refine ak (ax h13) (by simp only [AL, EV, seval, hc8, hc10]) (aM rfl) (ab rfl) ?_; cases hv8; simp only [EV, seval, hc8, hc10]; refine hK _ _ _ (show aN _ _ _ from aP ⟨_, rfl, h⟩ (aD [] [] hρ (by kernel_rfl) ?_ ?_)) <;> simp only [AL, EV, seval, hc8, hc10]
       ·cases hv8; simp only [EV, seval, hc8, hc10]; refine hK _ _ _ (show aN _ _ _ from aP ⟨_, rfl, h⟩ (aD [] [] hρ (by kernel_rfl) ?_ ?_)) <;> simp only [AL, EV, seval, hc8, hc10]
      ·cases hv6; obtain ⟨x22, hv9, h⟩ := aA h; replace hv9 := lE hv9; cases hv9; (try dsimp only at h); simp only [EV, seval, hc8]; refine hK _ _ _ (show aN _ _ _ from aP ⟨_, rfl, h⟩ (aD [] [] hρ (by kernel_rfl) ?_ ?_)) <;> simp only [AL, EV, seval, hc8]
     ·rintro S ⟨v3, rfl, h⟩; unfold m5 at h; injection h with h; subst h; exact AX (b' := 64) [(6, .bool v3)] [] [] [] hρ (EQ [])
    ·refine AN hN ?_; refine AB h (fun hc11 h => ?_) fun hc11 h => ?_
     ·refine AJ (fun S => ∃ (v4 : Bool), S = ⟨mkT [(6, .bool v4)], mkR [], 64⟩ ∧ m6 v4 = some r) hN ?_ ?_
      ·intro K hK; obtain ⟨x24, hv10, h⟩ := aA h; rcases aR hv10 with ⟨hc12, hv10⟩ | ⟨hc12, hv10⟩
       ·obtain ⟨x25, h15, hv10⟩ := aA hv10; simp only [EV, seval, hc12]; refine ak (ax h15) (by simp only [AL, EV, seval, hc12]) (aM rfl) (ab rfl) ?_; cases hv10; simp only [EV, seval, hc12]; refine hK _ _ _ (show aN _ _ _ from aP ⟨_, rfl, h⟩ (aD [] [] hρ (by kernel_rfl) ?_ ?_)) <;> simp only [AL, EV, seval, hc12]
       ·cases hv10; simp only [EV, seval, hc12]; refine hK _ _ _ (show aN _ _ _ from aP ⟨_, rfl, h⟩ (aD [] [] hρ (by kernel_rfl) ?_ ?_)) <;> simp only [AL, EV, seval, hc12]
      ·rintro S ⟨v4, rfl, h⟩; unfold m6 at h; injection h with h; subst h; exact AX (b' := 64) [(6, .bool v4)] [] [] [] hρ (EQ [])
     ·refine aE (AK ?_); refine AN hN ?_; injection h with h; subst h; exact AX (b' := 64) [(6, .bool false)] [] [] [] hρ (EQ [])
def co (v9 : Int) (kl1 : Int → Int → Option Bool) (v11 : Int) : Option Bool :=
  kl1 v11 (IntKind.wrap .i64 (v9 + 1))
def cp (v8 v9 : Int) (kl1 : Int → Int → Option Bool) (q3 : Int × Int × Int × Int × Int × Int × Int × Int) (v10 : Bool) : Option Bool :=
  br v10 (some false) (br (q3.1 == 2) (co v9 kl1 (IntKind.wrap .i64 (v8 + 1))) (co v9 kl1 v8))
def gl (a3 v12 : Int) : Option Bool :=
  some (v12 == a3)
def bG (a1 a3 : Int) (a4 : LO) : Nat → Int → Int → Option Bool
  | 0, _, _ => none
  | n1 + 1, v8, v9 =>
  br (decide (v9 < ((a4.length : Int)))) (bO (aj a4 v9) fun q3 => bO (kW q3.1 q3.2.1 q3.2.2.1 q3.2.2.2.1 q3.2.2.2.2.1 q3.2.2.2.2.2.1 q3.2.2.2.2.2.2.1 q3.2.2.2.2.2.2.2 a1 a3) fun x24 => bO (br (!x24) (some true) (some (decide (v8 < q3.2.2.2.2.2.2.2)))) fun x25 => bO (br x25 (some true) (bO (br (q3.1 == 2) (some (q3.2.2.2.2.2.2.1 != v8)) (some false)) fun x26 => some x26)) fun x27 => cp v8 v9 (bG a1 a3 a4 n1) q3 x27) (gl a3 v8)
def eT (a1 a3 : Int) (a4 : LO) (v1 : Bool) : Option Bool :=
  br v1 (some false) (bG a1 a3 a4 FU 0 0)
def db (a1 a2 a3 : Int) (a4 : LO) : Option Bool :=
  bO (cM a1 1 4) fun x1 => bO (br (!x1) (some true) (bO (cM a2 1 a1) fun x2 => some (!x2))) fun x3 => bO (br x3 (some true) (bO (cM a3 0 3) fun x4 => some (!x4))) fun x5 => bO (br x5 (some true) (some (decide (120 < ((a4.length : Int)))))) fun x6 => eT a1 a3 a4 x6
theorem lB {a1 a2 a3 : Int} {a4 : LO} {r : Bool} (h : db a1 a2 a3 a4 = some r) :
    aV Tryz.prog 34 [.agg [.int .i64 a1, .int .i64 a2, .int .i64 a3, .sl (aB aK a4) a4.length]] [] (.bool r) [] := by
 unfold db at h; refine SO Tryz.func34 rfl Tryz.ntmps34 fun C hN hρ => ?_; simp only [st0, aW, Nat.zero_add, Nat.reduceAdd]; refine AN hN ?_; refine aH ?_; refine AJ (fun S => ∃ (v1 : Bool), S = ⟨mkT [(1, .ptr 32 0), (29, .bool v1)], mkR [(32, .box 26 [.int .i64 a1, .int .i64 a2, .int .i64 a3, .sl (aB aK a4) a4.length])], 64⟩ ∧ eT a1 a3 a4 v1 = some r) hN ?_ ?_
 ·intro K hK; obtain ⟨x1, h1, h⟩ := aA h; simp only [EV, seval]; refine CP (ax h1) ?_; obtain ⟨x3, hv1, h⟩ := aA h; rcases aR hv1 with ⟨hc1, hv1⟩ | ⟨hc1, hv1⟩
  ·cases hv1; obtain ⟨x7, hv4, h⟩ := aA h; replace hv4 := im hv4; cases hv4; (try dsimp only at h); obtain ⟨x8, hv5, h⟩ := aA h; replace hv5 := im hv5; cases hv5; (try dsimp only at h); simp only [EV, seval, hc1]; refine hK _ _ _ (show aN _ _ _ from aP ⟨_, rfl, h⟩ (aD [(32, some 64)] [] hρ (by kernel_rfl) ?_ ?_)) <;> simp only [AL, EV, seval, hc1]
  ·obtain ⟨x9, h4, hv1⟩ := aA hv1; simp only [EV, seval, hc1]; refine ak (ax h4) (by simp only [AL, EV, seval, hc1]) (aM rfl) (ab rfl) ?_; cases hv1; obtain ⟨x11, hv6, h⟩ := aA h; rcases aR hv6 with ⟨hc4, hv6⟩ | ⟨hc4, hv6⟩
   ·cases hv6; obtain ⟨x13, hv8, h⟩ := aA h; replace hv8 := im hv8; cases hv8; (try dsimp only at h); simp only [EV, seval, hc1, hc4]; refine hK _ _ _ (show aN _ _ _ from aP ⟨_, rfl, h⟩ (aD [(32, some 64)] [] hρ (by kernel_rfl) ?_ ?_)) <;> simp only [AL, EV, seval, hc1, hc4]
   ·obtain ⟨x14, h6, hv6⟩ := aA hv6; simp only [EV, seval, hc1, hc4]; refine ak (ax h6) (by simp only [AL, EV, seval, hc1, hc4]) (aM rfl) (ab rfl) ?_; cases hv6; obtain ⟨x15, hv9, h⟩ := aA h; rcases aR hv9 with ⟨hc6, hv9⟩ | ⟨hc6, hv9⟩
    ·cases hv9; simp only [EV, seval, hc1, hc4, hc6]; refine hK _ _ _ (show aN _ _ _ from aP ⟨_, rfl, h⟩ (aD [(32, some 64)] [] hρ (by kernel_rfl) ?_ ?_)) <;> simp only [AL, EV, seval, hc1, hc4, hc6]
    ·cases hv9; simp only [EV, seval, hc1, hc4, hc6]; refine hK _ _ _ (show aN _ _ _ from aP ⟨_, rfl, h⟩ (aD [(32, some 64)] [] hρ (by kernel_rfl) ?_ ?_)) <;> simp only [AL, EV, seval, hc1, hc4, hc6]
 ·rintro S ⟨v1, rfl, h⟩; unfold eT at h; refine AB h (fun hc7 h => ?_) fun hc7 h => ?_
  ·refine AN hN ?_; injection h with h; subst h; exact AX (b' := 64) [(2, .bool false)] [] [] [] hρ (EQ [])
  ·refine aE (AK ?_); refine AN hN ?_; refine aQ (fun S => ∃ (v12 : Int), S = ⟨mkT [(1, .ptr 32 0), (3, .int .i64 v12)], mkR [(32, .box 26 [.int .i64 a1, .int .i64 a2, .int .i64 a3, .sl (aB aK a4) a4.length])], 64⟩ ∧ gl a3 v12 = some r) ?_ ?_
   ·refine AN hN ?_; refine aJ ?_; refine aY (fun n S => ∃ (v8 v9 : Int), S = ⟨mkT [(1, .ptr 32 0), (3, .int .i64 v8), (4, .int .i64 v9)], mkR [(32, .box 26 [.int .i64 a1, .int .i64 a2, .int .i64 a3, .sl (aB aK a4) a4.length])], 64⟩ ∧ bG a1 a3 a4 n v8 v9 = some r) FU ?_ ?_ ?_
    ·exact AC ⟨_, _, rfl, h⟩ [(32, some 32)] [] hρ
    ·rintro S ⟨_, _, _, h⟩; rw [bG] at h; cases h
    ·rintro n1 S ⟨v8, v9, rfl, h⟩; rw [bG] at h; refine aH ?_; refine AN hN ?_; refine AB h (fun hc20 h => ?_) fun hc20 h => ?_
     ·refine aE (AK ?_); refine aQ (fun S => ∃ (v11 : Int), S = ⟨mkT [(1, .ptr 32 0), (3, .int .i64 v11), (4, .int .i64 v9)], mkR [(32, .box 26 [.int .i64 a1, .int .i64 a2, .int .i64 a3, .sl (aB aK a4) a4.length])], 64⟩ ∧ co v9 (bG a1 a3 a4 n1) v11 = some r) ?_ ?_
      ·refine aJ ?_; refine AR hN fun K hK => ?_; obtain ⟨q3, h13, h⟩ := aA h; obtain ⟨⟨h14a, h14b⟩, h14c⟩ := aX f7 h13; (try simp only [EV, seval] at h14c); simp only [EV, seval, h14a, h14b, h14c]; apply hK; clear hK K; refine aH ?_; refine AJ (fun S => ∃ (v10 : Bool), S = ⟨mkT [(1, .ptr 32 0), (3, .int .i64 v8), (4, .int .i64 v9), (5, .ptr 33 0), (65, .bool v10)], mkR [(32, .box 26 [.int .i64 a1, .int .i64 a2, .int .i64 a3, .sl (aB aK a4) a4.length]), (33, .box 75 [.int .i64 q3.1, .int .i64 q3.2.1, .int .i64 q3.2.2.1, .int .i64 q3.2.2.2.1, .int .i64 q3.2.2.2.2.1, .int .i64 q3.2.2.2.2.2.1, .int .i64 q3.2.2.2.2.2.2.1, .int .i64 q3.2.2.2.2.2.2.2])], 64⟩ ∧ cp v8 v9 (bG a1 a3 a4 n1) q3 v10 = some r) hN ?_ ?_
       ·intro K hK; obtain ⟨x24, h15, h⟩ := aA h; simp only [EV, seval]; refine CP (sM h15) ?_; obtain ⟨x25, hv16, h⟩ := aA h; rcases aR hv16 with ⟨hc21, hv16⟩ | ⟨hc21, hv16⟩
        ·cases hv16; obtain ⟨x28, hv19, h⟩ := aA h; replace hv19 := im hv19; cases hv19; (try dsimp only at h); simp only [EV, seval, hc21]; refine hK _ _ _ (show aN _ _ _ from aP ⟨_, rfl, h⟩ (aD [(32, some 32), (33, some 1168)] [] hρ (by kernel_rfl) ?_ ?_)) <;> simp only [AL, EV, seval, hc21]
        ·cases hv16; obtain ⟨x30, hv20, h⟩ := aA h; rcases aR hv20 with ⟨hc24, hv20⟩ | ⟨hc24, hv20⟩
         ·cases hv20; simp only [EV, seval, hc21, hc24]; refine hK _ _ _ (show aN _ _ _ from aP ⟨_, rfl, h⟩ (aD [(32, some 32), (33, some 1168)] [] hρ (by kernel_rfl) ?_ ?_)) <;> simp only [AL, EV, seval, hc21, hc24]
         ·obtain ⟨x31, hv22, hv20⟩ := aA hv20; rcases aR hv22 with ⟨hc26, hv22⟩ | ⟨hc26, hv22⟩
          ·cases hv22; cases hv20; simp only [EV, seval, hc21, hc24, hc26]; refine hK _ _ _ (show aN _ _ _ from aP ⟨_, rfl, h⟩ (aD [(32, some 32), (33, some 1168)] [] hρ (by kernel_rfl) ?_ ?_)) <;> simp only [AL, EV, seval, hc21, hc24, hc26]
          ·cases hv22; cases hv20; simp only [EV, seval, hc21, hc24, hc26]; refine hK _ _ _ (show aN _ _ _ from aP ⟨_, rfl, h⟩ (aD [(32, some 32), (33, some 1168)] [] hρ (by kernel_rfl) ?_ ?_)) <;> simp only [AL, EV, seval, hc21, hc24, hc26]
       ·rintro S ⟨v10, rfl, h⟩; unfold cp at h; refine ae (a := .bool v10) (by simp only [EV, seval, h14a, h14b, h14c]) (brK h (fun hc27 h => ?_) (fun hc27 h => ?_))
        ·refine AN hN ?_; injection h with h; subst h; exact AX (b' := 64) [(2, .bool false)] [] [] [] hρ (EQ [])
        ·refine aE (AK ?_); refine AN hN ?_; refine AB h (fun hc28 h => ?_) fun hc28 h => ?_
         ·refine AS hN fun K hK => ?_; simp only [EV, seval]; exact hK _ _ _ (AC ⟨_, rfl, h⟩ [(32, some 32)] [] hρ)
         ·refine aE (show aN _ _ _ from aP ⟨_, rfl, h⟩ (aD [(32, some 32)] [] hρ (by kernel_rfl) ?_ ?_)) <;> simp only [AL, EV, seval]
      ·rintro S ⟨v11, rfl, h⟩; unfold co at h; refine AS hN fun K hK => ?_; simp only [EV, seval]; exact hK _ _ _ (AC ⟨_, _, rfl, h⟩ [(32, some 32)] [] hρ)
     ·exact aZ (AC ⟨_, rfl, h⟩ [(32, some 32)] [] hρ)
   ·rintro S ⟨v12, rfl, h⟩; unfold gl at h; refine AN hN ?_; injection h with h; subst h; exact AX (b' := 64) [(2, .bool (v12 == a3))] [] [] [] hρ (EQ [])
def kA (a1 v1 : Int) : Option (List (Int × Int × Int × Int × Int × Int)) :=
  bO (fd v1) fun x1 => some ([(a1, x1.1, x1.2.1, x1.2.2.1, x1.2.2.2.1, x1.2.2.2.2)])
def gC (a1 : Int) (a2 : Bool) (a3 : Int) : Option (List (Int × Int × Int × Int × Int × Int)) :=
  br (!a2) (kA a1 0) (kA a1 a3)
theorem eJ {a1 : Int} {a2 : Bool} {a3 : Int} {r : List (Int × Int × Int × Int × Int × Int)} (h : gC a1 a2 a3 = some r) :
    aV Tryz.prog 135 [.int .i64 a1, .bool a2, .int .i64 a3] [] (.own 0 r.length) [.row 158 6 (aB ca r)] := by
 unfold gC at h; refine SO Tryz.func135 rfl Tryz.ntmps135 fun C hN hρ => ?_; simp only [st0, aW, Nat.zero_add, Nat.reduceAdd]; refine AN hN ?_; refine aQ (fun S => ∃ (v1 : Int), S = ⟨mkT [(0, .int .i64 a1), (2, .int .i64 v1)], mkR [], 64⟩ ∧ kA a1 v1 = some r) ?_ ?_
 ·refine AN hN ?_; refine AB h (fun hc1 h => ?_) fun hc1 h => ?_
  ·refine AS hN fun K hK => ?_; simp only [EV, seval]; exact hK _ _ _ (AC ⟨_, rfl, h⟩ [] [] hρ)
  ·refine aE (show aN _ _ _ from aP ⟨_, rfl, h⟩ (aD [] [] hρ (by kernel_rfl) ?_ ?_)) <;> simp only [AL, EV, seval]
 ·rintro S ⟨v1, rfl, h⟩; unfold kA at h; obtain ⟨x1, h1, h⟩ := aA h; refine AP hN (gQ h1) ?_; injection h with h; subst h; exact AX (b' := 64) [(6, .own 32 ([(a1, x1.1, x1.2.1, x1.2.2.1, x1.2.2.2.1, x1.2.2.2.2)]).length)] [(32, .row 158 6 (aB ca ([(a1, x1.1, x1.2.1, x1.2.2.1, x1.2.2.2.1, x1.2.2.2.2)])))] [(32, some 128)] [] hρ (EQ [32])
def lI (v1 : Int) : Option (List (Int × Int × Int × Int × Int × Int)) :=
  bO (fd 0) fun x1 => some ([(v1, x1.1, x1.2.1, x1.2.2.1, x1.2.2.2.1, x1.2.2.2.2)])
def n8 (a1 a2 : Int) (a3 : Bool) : Option (List (Int × Int × Int × Int × Int × Int)) :=
  br a3 (gd (decide (¬ (IntKind.wrap .u64 a2) < 0)) (lI (bits .xor .i64 a1 (IntKind.wrap .i64 (1 * 2 ^ min (Int.toNat (IntKind.wrap .u64 a2)) (IntKind.bits .i64)))))) (lI a1)
theorem lJ {a1 a2 : Int} {a3 : Bool} {r : List (Int × Int × Int × Int × Int × Int)} (h : n8 a1 a2 a3 = some r) :
    aV Tryz.prog 133 [.int .i64 a1, .int .i64 a2, .bool a3] [] (.own 0 r.length) [.row 158 6 (aB ca r)] := by
 unfold n8 at h; refine SO Tryz.func133 rfl Tryz.ntmps133 fun C hN hρ => ?_; simp only [st0, aW, Nat.zero_add, Nat.reduceAdd]; refine AN hN ?_; refine aQ (fun S => ∃ (v1 : Int), S = ⟨mkT [(0, .int .i64 v1)], mkR [], 64⟩ ∧ lI v1 = some r) ?_ ?_
 ·refine AN hN ?_; refine AB h (fun hc1 h => ?_) fun hc1 h => ?_
  ·refine AS hN fun K hK => ?_; obtain ⟨h1, h⟩ := gdI h; simp only [EV, seval, h1]; refine hK _ _ _ (show aN _ _ _ from aP ⟨_, rfl, h⟩ (aD [] [] hρ (by kernel_rfl) ?_ ?_)) <;> simp only [AL, EV, seval, h1]
  ·refine aE (show aN _ _ _ from aP ⟨_, rfl, h⟩ (aD [] [] hρ (by kernel_rfl) ?_ ?_)) <;> simp only [AL, EV, seval]
 ·rintro S ⟨v1, rfl, h⟩; unfold lI at h; obtain ⟨x1, h2, h⟩ := aA h; refine AP hN (gQ h2) ?_; injection h with h; subst h; exact AX (b' := 64) [(6, .own 32 ([(v1, x1.1, x1.2.1, x1.2.2.1, x1.2.2.2.1, x1.2.2.2.2)]).length)] [(32, .row 158 6 (aB ca ([(v1, x1.1, x1.2.1, x1.2.2.1, x1.2.2.2.1, x1.2.2.2.2)])))] [(32, some 112)] [] hρ (EQ [32])
def oR (a1 a2 a3 a4 : Int) : Option (Int × Int × Int × Int) :=
  bO (bH a1 a2 a3 a4) fun x1 => br (!x1) (some (0, 0, 0, 0)) (some (IntKind.wrap .i64 (0 - a1), IntKind.wrap .i64 (0 - a2), IntKind.wrap .i64 (0 - a3), IntKind.wrap .i64 (0 - a4)))
theorem sN {a1 a2 a3 a4 : Int} {r : Int × Int × Int × Int} (h : oR a1 a2 a3 a4 = some r) :
    aV Tryz.prog 148 [.agg [.int .i64 a1, .int .i64 a2, .int .i64 a3, .int .i64 a4]] [] (.agg [.int .i64 r.1, .int .i64 r.2.1, .int .i64 r.2.2.1, .int .i64 r.2.2.2]) [] := by
 unfold oR at h; refine SO Tryz.func148 rfl Tryz.ntmps148 fun C hN hρ => ?_; simp only [st0, aW, Nat.zero_add, Nat.reduceAdd]; refine AN hN ?_; refine aH ?_; obtain ⟨x1, h1, h⟩ := aA h; refine AP hN (be h1) ?_; refine AB h (fun hc1 h => ?_) fun hc1 h => ?_
 ·refine AN hN ?_; injection h with h; subst h; exact AX (b' := 64) [(2, .ptr 32 0)] [(32, .box 34 [.int .i64 0, .int .i64 0, .int .i64 0, .int .i64 0])] [(32, some 80)] [] hρ (EQ [])
 ·refine aE (AK ?_); refine AN hN ?_; injection h with h; subst h; exact AX (b' := 64) [(2, .ptr 32 0)] [(32, .box 34 [.int .i64 (IntKind.wrap .i64 (0 - a1)), .int .i64 (IntKind.wrap .i64 (0 - a2)), .int .i64 (IntKind.wrap .i64 (0 - a3)), .int .i64 (IntKind.wrap .i64 (0 - a4))])] [(32, some 80)] [] hρ (EQ [])
def oS (a1 a2 a3 a4 a5 : Int) : Option (Int × Int × Int × Int × Int) :=
  bO (cG a1 a2 a3 a4 a5) fun x1 => br (!x1) (some (0, 0, 0, 0, 0)) (bO (oR a1 a2 a3 a4) fun x2 => some (x2.1, x2.2.1, x2.2.2.1, x2.2.2.2, a5))
theorem sO {a1 a2 a3 a4 a5 : Int} {r : Int × Int × Int × Int × Int} (h : oS a1 a2 a3 a4 a5 = some r) :
    aV Tryz.prog 137 [.agg [.int .i64 a1, .int .i64 a2, .int .i64 a3, .int .i64 a4, .int .i64 a5]] [] (.agg [.int .i64 r.1, .int .i64 r.2.1, .int .i64 r.2.2.1, .int .i64 r.2.2.2.1, .int .i64 r.2.2.2.2]) [] := by
 unfold oS at h; refine SO Tryz.func137 rfl Tryz.ntmps137 fun C hN hρ => ?_; simp only [st0, aW, Nat.zero_add, Nat.reduceAdd]; refine AN hN ?_; refine aH ?_; obtain ⟨x1, h1, h⟩ := aA h; refine AP hN (d5 h1) ?_; refine AB h (fun hc1 h => ?_) fun hc1 h => ?_
 ·refine AN hN ?_; injection h with h; subst h; exact AX (b' := 64) [(2, .ptr 32 0)] [(32, .box 36 [.int .i64 0, .int .i64 0, .int .i64 0, .int .i64 0, .int .i64 0])] [(32, some 80)] [] hρ (EQ [])
 ·refine aE (AK ?_); obtain ⟨x2, h2, h⟩ := aA h; refine AP hN (sN h2) ?_; injection h with h; subst h; exact AX (b' := 64) [(2, .ptr 32 0)] [(32, .box 36 [.int .i64 x2.1, .int .i64 x2.2.1, .int .i64 x2.2.2.1, .int .i64 x2.2.2.2, .int .i64 a5])] [(32, some 80)] [] hρ (EQ [])
def lK (a2 a5 v1 : Int) : Option (List (Int × Int × Int × Int × Int × Int)) :=
  gd (decide (¬ (IntKind.wrap .u64 a2) < 0)) (bO (fd v1) fun x2 => some ([(bits .xor .i64 a5 (IntKind.wrap .i64 (1 * 2 ^ min (Int.toNat (IntKind.wrap .u64 a2)) (IntKind.bits .i64))), x2.1, x2.2.1, x2.2.2.1, x2.2.2.2.1, x2.2.2.2.2)]))
def nc (v2 : List (Int × Int × Int × Int × Int × Int)) : Option (List (Int × Int × Int × Int × Int × Int)) :=
  some v2
def ne (v3 : List (Int × Int × Int × Int × Int × Int)) : Option (List (Int × Int × Int × Int × Int × Int)) :=
  some v3
def lL (v4 : Int) : Option (List (Int × Int × Int × Int × Int × Int)) :=
  bO (fd 0) fun x17 => some ([(v4, x17.1, x17.2.1, x17.2.2.1, x17.2.2.2.1, x17.2.2.2.2)])
def lM (a2 : Int) (x18 : Int × Int × Int × Int × Int) (v5 v6 v7 v8 v9 v10 : Int) : Option (List (Int × Int × Int × Int × Int × Int)) :=
  gd (decide (¬ (IntKind.wrap .u64 a2) < 0)) (some ([(v5, x18.1, x18.2.1, x18.2.2.1, x18.2.2.2.1, x18.2.2.2.2), (bits .or .i64 v5 (IntKind.wrap .i64 (1 * 2 ^ min (Int.toNat (IntKind.wrap .u64 a2)) (IntKind.bits .i64))), v6, v7, v8, v9, v10)]))
def nA (a1 a2 a3 a4 a5 : Int) : Option (List (Int × Int × Int × Int × Int × Int)) :=
  gd (decide (¬ (IntKind.wrap .u64 a2) < 0)) (gd (decide (¬ (IntKind.wrap .u64 a3) < 0)) (br (a1 == 1) (bO (n8 a5 a2 true) fun x1 => some x1) (br (a1 == 2) (br ((bits .and .i64 (Int.fdiv a5 (2 ^ min (Int.toNat (IntKind.wrap .u64 a2)) (IntKind.bits .i64))) 1) == 1) (lK a2 a5 6) (lK a2 a5 2)) (br (a1 == 3) (bO (gC a5 ((bits .and .i64 (Int.fdiv a5 (2 ^ min (Int.toNat (IntKind.wrap .u64 a2)) (IntKind.bits .i64))) 1) == 1) 4) fun x3 => some x3) (br (a1 == 5) (bO (gC a5 ((bits .and .i64 (Int.fdiv a5 (2 ^ min (Int.toNat (IntKind.wrap .u64 a2)) (IntKind.bits .i64))) 1) == 1) 2) fun x4 => some x4) (br (a1 == 6) (bO (gC a5 ((bits .and .i64 (Int.fdiv a5 (2 ^ min (Int.toNat (IntKind.wrap .u64 a2)) (IntKind.bits .i64))) 1) == 1) 6) fun x5 => some x5) (br (a1 == 7) (bO (gC a5 ((bits .and .i64 (Int.fdiv a5 (2 ^ min (Int.toNat (IntKind.wrap .u64 a2)) (IntKind.bits .i64))) 1) == 1) 1) fun x6 => some x6) (br (a1 == 8) (bO (gC a5 ((bits .and .i64 (Int.fdiv a5 (2 ^ min (Int.toNat (IntKind.wrap .u64 a2)) (IntKind.bits .i64))) 1) == 1) 7) fun x7 => some x7) (br (a1 == 9) (bO (n8 a5 a3 ((bits .and .i64 (Int.fdiv a5 (2 ^ min (Int.toNat (IntKind.wrap .u64 a2)) (IntKind.bits .i64))) 1) == 1)) fun x8 => some x8) (br (a1 == 10) (bO (br ((bits .and .i64 (Int.fdiv a5 (2 ^ min (Int.toNat (IntKind.wrap .u64 a2)) (IntKind.bits .i64))) 1) == 1) (some ((bits .and .i64 (Int.fdiv a5 (2 ^ min (Int.toNat (IntKind.wrap .u64 a3)) (IntKind.bits .i64))) 1) == 1)) (some false)) fun x9 => bO (gC a5 x9 4) fun x10 => nc x10) (br (a1 == 12) (bO (br ((bits .and .i64 (Int.fdiv a5 (2 ^ min (Int.toNat (IntKind.wrap .u64 a2)) (IntKind.bits .i64))) 1) == 1) (some ((bits .and .i64 (Int.fdiv a5 (2 ^ min (Int.toNat (IntKind.wrap .u64 a3)) (IntKind.bits .i64))) 1) == 1)) (some false)) fun x13 => bO (n8 a5 a4 x13) fun x14 => ne x14) (br (a1 == 11) (br (((bits .and .i64 (Int.fdiv a5 (2 ^ min (Int.toNat (IntKind.wrap .u64 a2)) (IntKind.bits .i64))) 1) == 1) != ((bits .and .i64 (Int.fdiv a5 (2 ^ min (Int.toNat (IntKind.wrap .u64 a3)) (IntKind.bits .i64))) 1) == 1)) (gd (decide (¬ (IntKind.wrap .u64 a2) < 0)) (gd (decide (¬ (IntKind.wrap .u64 a3) < 0)) (lL (bits .xor .i64 (bits .xor .i64 a5 (IntKind.wrap .i64 (1 * 2 ^ min (Int.toNat (IntKind.wrap .u64 a2)) (IntKind.bits .i64)))) (IntKind.wrap .i64 (1 * 2 ^ min (Int.toNat (IntKind.wrap .u64 a3)) (IntKind.bits .i64))))))) (lL a5)) (gd (decide (¬ (IntKind.wrap .u64 a2) < 0)) (bO (kr 1) fun x18 => br ((bits .and .i64 (Int.fdiv a5 (2 ^ min (Int.toNat (IntKind.wrap .u64 a2)) (IntKind.bits .i64))) 1) == 1) (bO (oS x18.1 x18.2.1 x18.2.2.1 x18.2.2.2.1 x18.2.2.2.2) fun x19 => lM a2 x18 (bits .andNot .i64 a5 (IntKind.wrap .i64 (1 * 2 ^ min (Int.toNat (IntKind.wrap .u64 a2)) (IntKind.bits .i64)))) x19.1 x19.2.1 x19.2.2.1 x19.2.2.2.1 x19.2.2.2.2) (lM a2 x18 (bits .andNot .i64 a5 (IntKind.wrap .i64 (1 * 2 ^ min (Int.toNat (IntKind.wrap .u64 a2)) (IntKind.bits .i64)))) x18.1 x18.2.1 x18.2.2.1 x18.2.2.2.1 x18.2.2.2.2)))))))))))))))
theorem u7 {a1 a2 a3 a4 a5 : Int} {r : List (Int × Int × Int × Int × Int × Int)} (h : nA a1 a2 a3 a4 a5 = some r) :
    aV Tryz.prog 120 [.agg [.int .i64 a1, .int .i64 a2, .int .i64 a3, .int .i64 a4], .int .i64 a5] [] (.own 0 r.length) [.row 158 6 (aB ca r)] := by
 unfold nA at h; refine SO Tryz.func120 rfl Tryz.ntmps120 fun C hN hρ => ?_; simp only [st0, aW, Nat.zero_add, Nat.reduceAdd]; refine AN hN ?_; refine AR hN fun K hK => ?_; obtain ⟨h1, h⟩ := gdI h; simp only [EV, seval, h1]; apply hK; clear hK K; refine AR hN fun K hK => ?_; obtain ⟨h2, h⟩ := gdI h; simp only [EV, seval, h2]; apply hK; clear hK K; refine aH ?_; refine AN hN ?_; refine aJ ?_; refine AN hN ?_; refine AB h (fun hc1 h => ?_) fun hc1 h => ?_
 ·refine AR hN fun K hK => ?_; obtain ⟨x1, h3, h⟩ := aA h; simp only [EV, seval]; refine ak (lJ h3) (by simp only [AL, EV, seval]) (aM rfl) (ap (by simp only [EV, seval])) ?_; simp only [EV, seval]; apply hK; clear hK K; injection h with h; subst h; exact AX (b' := 64) [(4, .own 32 x1.length)] [(32, .row 158 6 (aB ca x1))] [(32, some 5232)] [] hρ (EQ [32])
 ·refine AN hN ?_; refine AB h (fun hc2 h => ?_) fun hc2 h => ?_
  ·refine AN hN ?_; refine aQ (fun S => ∃ (v1 : Int), S = ⟨mkT [(1, .int .i64 a5), (2, .ptr 32 0), (7, .int .i64 v1)], mkR [(32, .box 73 [.int .i64 a1, .int .i64 a2, .int .i64 a3, .int .i64 a4])], 64⟩ ∧ lK a2 a5 v1 = some r) ?_ ?_
   ·refine AN hN ?_; refine AB h (fun hc3 h => ?_) fun hc3 h => ?_
    ·refine AS hN fun K hK => ?_; simp only [EV, seval]; exact hK _ _ _ (AC ⟨_, rfl, h⟩ [(32, some 64)] [] hρ)
    ·refine aE (show aN _ _ _ from aP ⟨_, rfl, h⟩ (aD [(32, some 64)] [] hρ (by kernel_rfl) ?_ ?_)) <;> simp only [AL, EV, seval]
   ·rintro S ⟨v1, rfl, h⟩; unfold lK at h; refine AR hN fun K hK => ?_; obtain ⟨h4, h⟩ := gdI h; obtain ⟨x2, h5, h⟩ := aA h; simp only [EV, seval, h4]; refine ak (gQ h5) (by simp only [AL, EV, seval, h4]) (aM rfl) (ab rfl) ?_; simp only [EV, seval, h4]; apply hK; clear hK K; injection h with h; subst h; refine bZ (aD (lt := [(4, .own 32 ([(bits .xor .i64 a5 (IntKind.wrap .i64 (1 * 2 ^ min (Int.toNat (IntKind.wrap .u64 a2)) (IntKind.bits .i64))), x2.1, x2.2.1, x2.2.2.1, x2.2.2.2.1, x2.2.2.2.2)]).length)]) (lr := [(32, .row 158 6 (aB ca ([(bits .xor .i64 a5 (IntKind.wrap .i64 (1 * 2 ^ min (Int.toNat (IntKind.wrap .u64 a2)) (IntKind.bits .i64))), x2.1, x2.2.1, x2.2.2.1, x2.2.2.2.1, x2.2.2.2.2)])))]) (b' := 64) [(32, some 208)] [] hρ (by kernel_rfl) ?_ ?_) (bV (cc [32] (.inr rfl) (by kernel_rfl) (by kernel_rfl) ?_))
    ·simp only [AL, EV, seval, h4]
    ·simp only [AL, EV, seval, h4]
    ·simp only [EV, Tryz.results120, seval]
  ·refine AN hN ?_; refine AB h (fun hc4 h => ?_) fun hc4 h => ?_
   ·refine AR hN fun K hK => ?_; obtain ⟨x3, h6, h⟩ := aA h; simp only [EV, seval]; refine ak (eJ h6) (by simp only [AL, EV, seval]) (aM rfl) (ap (by simp only [EV, seval])) ?_; simp only [EV, seval]; apply hK; clear hK K; injection h with h; subst h; exact AX (b' := 64) [(4, .own 32 x3.length)] [(32, .row 158 6 (aB ca x3))] [(32, some 7264)] [] hρ (EQ [32])
   ·refine AN hN ?_; refine AB h (fun hc5 h => ?_) fun hc5 h => ?_
    ·refine AR hN fun K hK => ?_; obtain ⟨x4, h7, h⟩ := aA h; simp only [EV, seval]; refine ak (eJ h7) (by simp only [AL, EV, seval]) (aM rfl) (ap (by simp only [EV, seval])) ?_; simp only [EV, seval]; apply hK; clear hK K; injection h with h; subst h; exact AX (b' := 64) [(4, .own 32 x4.length)] [(32, .row 158 6 (aB ca x4))] [(32, some 8288)] [] hρ (EQ [32])
    ·refine AN hN ?_; refine AB h (fun hc6 h => ?_) fun hc6 h => ?_
     ·refine AR hN fun K hK => ?_; obtain ⟨x5, h8, h⟩ := aA h; simp only [EV, seval]; refine ak (eJ h8) (by simp only [AL, EV, seval]) (aM rfl) (ap (by simp only [EV, seval])) ?_; simp only [EV, seval]; apply hK; clear hK K; injection h with h; subst h; exact AX (b' := 64) [(4, .own 32 x5.length)] [(32, .row 158 6 (aB ca x5))] [(32, some 9312)] [] hρ (EQ [32])
     ·refine AN hN ?_; refine AB h (fun hc7 h => ?_) fun hc7 h => ?_
      ·refine AR hN fun K hK => ?_; obtain ⟨x6, h9, h⟩ := aA h; simp only [EV, seval]; refine ak (eJ h9) (by simp only [AL, EV, seval]) (aM rfl) (ap (by simp only [EV, seval])) ?_; simp only [EV, seval]; apply hK; clear hK K; injection h with h; subst h; exact AX (b' := 64) [(4, .own 32 x6.length)] [(32, .row 158 6 (aB ca x6))] [(32, some 10336)] [] hρ (EQ [32])
      ·refine AN hN ?_; refine AB h (fun hc8 h => ?_) fun hc8 h => ?_
       ·refine AR hN fun K hK => ?_; obtain ⟨x7, h10, h⟩ := aA h; simp only [EV, seval]; refine ak (eJ h10) (by simp only [AL, EV, seval]) (aM rfl) (ap (by simp only [EV, seval])) ?_; simp only [EV, seval]; apply hK; clear hK K; injection h with h; subst h; exact AX (b' := 64) [(4, .own 32 x7.length)] [(32, .row 158 6 (aB ca x7))] [(32, some 11360)] [] hρ (EQ [32])
       ·refine AN hN ?_; refine AB h (fun hc9 h => ?_) fun hc9 h => ?_
        ·refine AR hN fun K hK => ?_; obtain ⟨x8, h11, h⟩ := aA h; simp only [EV, seval]; refine ak (lJ h11) (by simp only [AL, EV, seval]) (aM rfl) (ap (by simp only [EV, seval])) ?_; simp only [EV, seval]; apply hK; clear hK K; injection h with h; subst h; exact AX (b' := 64) [(4, .own 32 x8.length)] [(32, .row 158 6 (aB ca x8))] [(32, some 12416)] [] hρ (EQ [32])
        ·refine AN hN ?_; refine AB h (fun hc10 h => ?_) fun hc10 h => ?_
         ·refine AJ (fun S => ∃ (v2 : List (Int × Int × Int × Int × Int × Int)), S = ⟨mkT [(4, .own 32 v2.length)], mkR [(32, .row 158 6 (aB ca v2))], 64⟩ ∧ nc v2 = some r) hN ?_ ?_
          ·intro K hK; obtain ⟨x9, hv1, h⟩ := aA h; rcases aR hv1 with ⟨hc11, hv1⟩ | ⟨hc11, hv1⟩
           ·cases hv1; obtain ⟨x11, h13, h⟩ := aA h; simp only [EV, seval, hc11]; refine ak (eJ h13) (by simp only [AL, EV, seval, hc11]) (aM rfl) (ap (by simp only [EV, seval])) ?_; simp only [EV, seval, hc11]; refine hK _ _ _ (show aN _ _ _ from aP ⟨_, rfl, h⟩ (aD [(32, some 13456)] [] hρ (by kernel_rfl) ?_ ?_)) <;> simp only [AL, EV, seval, hc11]
           ·cases hv1; obtain ⟨x12, h14, h⟩ := aA h; simp only [EV, seval, hc11]; refine ak (eJ h14) (by simp only [AL, EV, seval, hc11]) (aM rfl) (ap (by simp only [EV, seval])) ?_; simp only [EV, seval, hc11]; refine hK _ _ _ (show aN _ _ _ from aP ⟨_, rfl, h⟩ (aD [(32, some 13456)] [] hρ (by kernel_rfl) ?_ ?_)) <;> simp only [AL, EV, seval, hc11]
          ·rintro S ⟨v2, rfl, h⟩; unfold nc at h; injection h with h; subst h; exact AX (b' := 64) [(4, .own 32 v2.length)] [(32, .row 158 6 (aB ca v2))] [(32, some 32)] [] hρ (EQ [32])
         ·refine AN hN ?_; refine AB h (fun hc12 h => ?_) fun hc12 h => ?_
          ·refine AJ (fun S => ∃ (v3 : List (Int × Int × Int × Int × Int × Int)), S = ⟨mkT [(4, .own 32 v3.length)], mkR [(32, .row 158 6 (aB ca v3))], 64⟩ ∧ ne v3 = some r) hN ?_ ?_
           ·intro K hK; obtain ⟨x13, hv2, h⟩ := aA h; rcases aR hv2 with ⟨hc13, hv2⟩ | ⟨hc13, hv2⟩
            ·cases hv2; obtain ⟨x15, h16, h⟩ := aA h; simp only [EV, seval, hc13]; refine ak (lJ h16) (by simp only [AL, EV, seval, hc13]) (aM rfl) (ap (by simp only [EV, seval])) ?_; simp only [EV, seval, hc13]; refine hK _ _ _ (show aN _ _ _ from aP ⟨_, rfl, h⟩ (aD [(32, some 14512)] [] hρ (by kernel_rfl) ?_ ?_)) <;> simp only [AL, EV, seval, hc13]
            ·cases hv2; obtain ⟨x16, h17, h⟩ := aA h; simp only [EV, seval, hc13]; refine ak (lJ h17) (by simp only [AL, EV, seval, hc13]) (aM rfl) (ap (by simp only [EV, seval])) ?_; simp only [EV, seval, hc13]; refine hK _ _ _ (show aN _ _ _ from aP ⟨_, rfl, h⟩ (aD [(32, some 14512)] [] hρ (by kernel_rfl) ?_ ?_)) <;> simp only [AL, EV, seval, hc13]
           ·rintro S ⟨v3, rfl, h⟩; unfold ne at h; injection h with h; subst h; exact AX (b' := 64) [(4, .own 32 v3.length)] [(32, .row 158 6 (aB ca v3))] [(32, some 32)] [] hρ (EQ [32])
          ·refine AN hN ?_; refine AB h (fun hc14 h => ?_) fun hc14 h => ?_
           ·refine aQ (fun S => ∃ (v4 : Int), S = ⟨mkT [(1, .int .i64 v4)], mkR [], 64⟩ ∧ lL v4 = some r) ?_ ?_
            ·refine AN hN ?_; refine AB h (fun hc15 h => ?_) fun hc15 h => ?_
             ·refine AS hN fun K hK => ?_; obtain ⟨h18, h⟩ := gdI h; obtain ⟨h19, h⟩ := gdI h; simp only [EV, seval, h18, h19]; refine hK _ _ _ (show aN _ _ _ from aP ⟨_, rfl, h⟩ (aD [] [] hρ (by kernel_rfl) ?_ ?_)) <;> simp only [AL, EV, seval, h18, h19]
             ·refine aE (show aN _ _ _ from aP ⟨_, rfl, h⟩ (aD [] [] hρ (by kernel_rfl) ?_ ?_)) <;> simp only [AL, EV, seval]
            ·rintro S ⟨v4, rfl, h⟩; unfold lL at h; obtain ⟨x17, h20, h⟩ := aA h; refine AP hN (gQ h20) ?_; injection h with h; subst h; exact AX (b' := 64) [(4, .own 32 ([(v4, x17.1, x17.2.1, x17.2.2.1, x17.2.2.2.1, x17.2.2.2.2)]).length)] [(32, .row 158 6 (aB ca ([(v4, x17.1, x17.2.1, x17.2.2.1, x17.2.2.2.1, x17.2.2.2.2)])))] [(32, some 112)] [] hρ (EQ [32])
           ·refine aE (AK ?_); refine AR hN fun K hK => ?_; obtain ⟨h21, h⟩ := gdI h; simp only [EV, seval, h21]; apply hK; clear hK K; obtain ⟨x18, h22, h⟩ := aA h; refine AP hN (pg h22) ?_; refine AN hN ?_; refine aQ (fun S => ∃ (v5 v6 v7 v8 v9 v10 : Int), S = ⟨mkT [(2, .ptr 32 0), (8, .int .i64 v5), (9, .ptr 33 0), (10, .ptr 34 0)], mkR [(32, .box 73 [.int .i64 a1, .int .i64 a2, .int .i64 a3, .int .i64 a4]), (33, .box 36 [.int .i64 x18.1, .int .i64 x18.2.1, .int .i64 x18.2.2.1, .int .i64 x18.2.2.2.1, .int .i64 x18.2.2.2.2]), (34, .box 36 [.int .i64 v6, .int .i64 v7, .int .i64 v8, .int .i64 v9, .int .i64 v10])], 64⟩ ∧ lM a2 x18 v5 v6 v7 v8 v9 v10 = some r) ?_ ?_
            ·refine AN hN ?_; refine AB h (fun hc16 h => ?_) fun hc16 h => ?_
             ·refine AS hN fun K hK => ?_; obtain ⟨x19, h23, h⟩ := aA h; simp only [EV, seval]; refine CP (sO h23) ?_; simp only [EV, seval]; exact hK _ _ _ (AC ⟨_, _, _, _, _, _, rfl, h⟩ [(32, some 64), (33, some 16464), (34, some 17488)] [] hρ)
             ·refine aE (show aN _ _ _ from aP ⟨_, _, _, _, _, _, rfl, h⟩ (aD [(32, some 64), (33, some 16464), (34, some 17488)] [] hρ (by kernel_rfl) ?_ ?_)) <;> simp only [AL, EV, seval]
            ·rintro S ⟨v5, v6, v7, v8, v9, v10, rfl, h⟩; unfold lM at h; refine AR hN fun K hK => ?_; obtain ⟨h24, h⟩ := gdI h; simp only [EV, seval, h24]; apply hK; clear hK K; injection h with h; subst h; refine bZ (aD (lt := [(4, .own 32 ([(v5, x18.1, x18.2.1, x18.2.2.1, x18.2.2.2.1, x18.2.2.2.2), (bits .or .i64 v5 (IntKind.wrap .i64 (1 * 2 ^ min (Int.toNat (IntKind.wrap .u64 a2)) (IntKind.bits .i64))), v6, v7, v8, v9, v10)]).length)]) (lr := [(32, .row 158 6 (aB ca ([(v5, x18.1, x18.2.1, x18.2.2.1, x18.2.2.2.1, x18.2.2.2.2), (bits .or .i64 v5 (IntKind.wrap .i64 (1 * 2 ^ min (Int.toNat (IntKind.wrap .u64 a2)) (IntKind.bits .i64))), v6, v7, v8, v9, v10)])))]) (b' := 64) [(32, some 240)] [] hρ (by kernel_rfl) ?_ ?_) (bV (cc [32] (.inr rfl) (by kernel_rfl) (by kernel_rfl) ?_))
             ·simp only [AL, EV, seval, h24]
             ·simp only [AL, EV, seval, h24]
             ·simp only [EV, Tryz.results120, seval]
def i6 (v27 : Int) (v28 : LF) (kl4 : Int → (LF) → Option (LF × Bool)) (q20 : Int × Int × Int × Int × Int × Int) (x35 : Int × Int × Int × Int × Int × Bool) (v29 : Bool) : Option (LF × Bool) :=
  br v29 (some ([], false)) (kl4 (IntKind.wrap .i64 (v27 + 1)) (v28.set (Int.toNat q20.1) ((x35.1, x35.2.1, x35.2.2.1, x35.2.2.2.1, x35.2.2.2.2.1))))
def fV (v21 : Int) (kl3 : Int → (LF) → Option (LF × Bool)) (v30 : LF) : Option (LF × Bool) :=
  kl3 (IntKind.wrap .i64 (v21 + 1)) v30
def cA (v21 : Int) (kl3 : Int → (LF) → Option (LF × Bool)) (q15 : Int × Int × Int × Int × Int) (x27 : List (Int × Int × Int × Int × Int × Int)) : Nat → Int → (LF) → Option (LF × Bool)
  | 0, _, _ => none
  | n4 + 1, v27, v28 =>
  br (decide (v27 < ((x27.length : Int)))) (bO (aj x27 v27) fun q20 => bO (kS q15.1 q15.2.1 q15.2.2.1 q15.2.2.2.1 q15.2.2.2.2 q20.2.1 q20.2.2.1 q20.2.2.2.1 q20.2.2.2.2.1 q20.2.2.2.2.2) fun x34 => bO (aj v28 q20.1) fun q21 => bO (kR q21.1 q21.2.1 q21.2.2.1 q21.2.2.2.1 q21.2.2.2.2 x34.1 x34.2.1 x34.2.2.1 x34.2.2.2.1 x34.2.2.2.2.1) fun x35 => bO (br (!x34.2.2.2.2.2) (some true) (some (!x35.2.2.2.2.2))) fun x36 => i6 v27 v28 (cA v21 kl3 q15 x27 n4) q20 x35 x36) (fV v21 kl3 v28)
def jH (v31 : LF) : Option (LF × Bool) :=
  some (v31, true)
def bI (a1 a2 a3 a4 : Int) (a5 : LF) : Nat → Int → (LF) → Option (LF × Bool)
  | 0, _, _ => none
  | n3 + 1, v21, v22 =>
  br (decide (v21 < ((a5.length : Int)))) (bO (aj a5 v21) fun q15 => br (((q15.1 == 0) && ((q15.2.1 == 0) && ((q15.2.2.1 == 0) && ((q15.2.2.2.1 == 0) && (q15.2.2.2.2 == 0)))))) (fV v21 (bI a1 a2 a3 a4 a5 n3) v22) (bO (nA a1 a2 a3 a4 v21) fun x27 => cA v21 (bI a1 a2 a3 a4 a5 n3) q15 x27 FU 0 v22)) (jH v22)
def jI (a1 a2 a3 a4 : Int) (a5 : LF) (v1 : Bool) : Option (LF × Bool) :=
  br v1 (some ([], false)) (gd (decide (0 ≤ (a5.length : Int) ∧ (a5.length : Int) ≤ 1048576)) (bI a1 a2 a3 a4 a5 FU 0 (List.replicate (Int.toNat ((a5.length : Int))) ((0, 0, 0, 0, 0) : Int × Int × Int × Int × Int))))
def iW (a1 a2 a3 a4 : Int) (a5 : LF) : Option (LF × Bool) :=
  bO (gA a5) fun x1 => bO (br (!x1) (some true) (bO (gN a5) fun x2 => bO (eG a1 a2 a3 a4 x2) fun x3 => some (!x3))) fun x4 => jI a1 a2 a3 a4 a5 x4
theorem sP {a1 a2 a3 a4 : Int} {a5 : LF} {r : LF × Bool} (h : iW a1 a2 a3 a4 a5 = some r) :
    aV Tryz.prog 93 [.agg [.int .i64 a1, .int .i64 a2, .int .i64 a3, .int .i64 a4], .sl (aB aS a5) a5.length] [] (.tup [.own 0 r.1.length, .bool r.2]) [.row 36 5 (aB aS r.1)] := by
 unfold iW at h; refine SO Tryz.func93 rfl Tryz.ntmps93 fun C hN hρ => ?_; simp only [st0, aW, Nat.zero_add, Nat.reduceAdd]; refine AN hN ?_; refine aH ?_; refine AJ (fun S => ∃ (v1 : Bool), S = ⟨mkT [(1, .sl (aB aS a5) a5.length), (2, .ptr 32 0), (23, .bool v1)], mkR [(32, .box 73 [.int .i64 a1, .int .i64 a2, .int .i64 a3, .int .i64 a4])], 64⟩ ∧ jI a1 a2 a3 a4 a5 v1 = some r) hN ?_ ?_
 ·intro K hK; obtain ⟨x1, h1, h⟩ := aA h; simp only [EV, seval]; refine CP (qI h1) ?_; obtain ⟨x4, hv1, h⟩ := aA h; rcases aR hv1 with ⟨hc1, hv1⟩ | ⟨hc1, hv1⟩
  ·cases hv1; simp only [EV, seval, hc1]; refine hK _ _ _ (show aN _ _ _ from aP ⟨_, rfl, h⟩ (aD [(32, some 64)] [] hρ (by kernel_rfl) ?_ ?_)) <;> simp only [AL, EV, seval, hc1]
  ·obtain ⟨x5, h4, hv1⟩ := aA hv1; simp only [EV, seval, hc1]; refine ak (ns h4) (by simp only [AL, EV, seval, hc1]) (aM rfl) (ab rfl) ?_; obtain ⟨x6, h5, hv1⟩ := aA hv1; simp only [EV, seval, hc1]; refine ak (jn h5) (by simp only [AL, EV, seval, hc1]) (aM rfl) (ab rfl) ?_; cases hv1; simp only [EV, seval, hc1]; refine hK _ _ _ (show aN _ _ _ from aP ⟨_, rfl, h⟩ (aD [(32, some 64)] [] hρ (by kernel_rfl) ?_ ?_)) <;> simp only [AL, EV, seval, hc1]
 ·rintro S ⟨v1, rfl, h⟩; unfold jI at h; refine AB h (fun hc2 h => ?_) fun hc2 h => ?_
  ·refine AN hN ?_; injection h with h; subst h; exact AX (b' := 64) [(4, .own 32 0), (5, .bool false)] [(32, .row 36 5 (aB aS ([])))] [(32, some 64)] [] hρ (EQ [32])
  ·refine aE (AK ?_); refine AR hN fun K hK => ?_; obtain ⟨h6, h⟩ := gdI h; have h7 := mq (e := aS) ((0, 0, 0, 0, 0)) (Int.toNat ((a5.length : Int))); simp only [EN] at h7; have h8 : (List.replicate (Int.toNat ((a5.length : Int))) ((0, 0, 0, 0, 0) : Int × Int × Int × Int × Int)).length = Int.toNat ((a5.length : Int)) := List.length_replicate; simp only [EV, seval, h6, h7, h8]; apply hK; clear hK K; refine aQ (fun S => ∃ (v31 : LF), S = ⟨mkT [(6, .own 32 v31.length)], mkR [(32, .row 36 5 (aB aS v31))], 64⟩ ∧ jH v31 = some r) ?_ ?_
   ·refine AN hN ?_; refine aJ ?_; refine aY (fun n S => ∃ (v21 : Int) (v22 : LF), S = ⟨mkT [(1, .sl (aB aS a5) a5.length), (2, .ptr 32 0), (6, .own 33 v22.length), (7, .int .i64 v21)], mkR [(32, .box 73 [.int .i64 a1, .int .i64 a2, .int .i64 a3, .int .i64 a4]), (33, .row 36 5 (aB aS v22))], 64⟩ ∧ bI a1 a2 a3 a4 a5 n v21 v22 = some r) FU ?_ ?_ ?_
    ·exact AC ⟨_, _, rfl, h⟩ [(32, some 32), (33, some 96)] [] hρ
    ·rintro S ⟨_, _, _, h⟩; rw [bI] at h; cases h
    ·rintro n3 S ⟨v21, v22, rfl, h⟩; rw [bI] at h; refine aH ?_; refine AN hN ?_; refine AB h (fun hc25 h => ?_) fun hc25 h => ?_
     ·refine aE (AK ?_); refine aQ (fun S => ∃ (v30 : LF), S = ⟨mkT [(1, .sl (aB aS a5) a5.length), (2, .ptr 32 0), (6, .own 33 v30.length), (7, .int .i64 v21)], mkR [(32, .box 73 [.int .i64 a1, .int .i64 a2, .int .i64 a3, .int .i64 a4]), (33, .row 36 5 (aB aS v30))], 64⟩ ∧ fV v21 (bI a1 a2 a3 a4 a5 n3) v30 = some r) ?_ ?_
      ·refine aJ ?_; refine aH ?_; refine AR hN fun K hK => ?_; obtain ⟨q15, h63, h⟩ := aA h; obtain ⟨⟨h64a, h64b⟩, h64c⟩ := aX cS h63; (try simp only [EV, seval] at h64c); simp only [EV, seval, h64a, h64b, h64c]; apply hK; clear hK K; refine ae (a := .bool (((q15.1 == 0) && ((q15.2.1 == 0) && ((q15.2.2.1 == 0) && ((q15.2.2.2.1 == 0) && (q15.2.2.2.2 == 0))))))) (by simp only [EV, seval, h64a, h64b, h64c]) (brK h (fun hc26 h => ?_) (fun hc26 h => ?_))
       ·refine aZ (show aN _ _ _ from aP ⟨_, rfl, h⟩ (aD [(32, some 32), (33, some 33)] [] hρ (by kernel_rfl) ?_ ?_)) <;> simp only [AL, EV, seval, h64a, h64b, h64c]
       ·refine aE (AK ?_); refine AR hN fun K hK => ?_; obtain ⟨x27, h65, h⟩ := aA h; simp only [EV, seval]; refine ak (u7 h65) (by simp only [AL, EV, seval]) (aM rfl) (ap (by simp only [EV, seval])) ?_; simp only [EV, seval]; apply hK; clear hK K; refine AN hN ?_; refine aJ ?_; refine aY (fun n S => ∃ (v27 : Int) (v28 : LF), S = ⟨mkT [(1, .sl (aB aS a5) a5.length), (2, .ptr 32 0), (6, .own 33 v28.length), (7, .int .i64 v21), (8, .own 34 x27.length), (9, .int .i64 v27)], mkR [(32, .box 73 [.int .i64 a1, .int .i64 a2, .int .i64 a3, .int .i64 a4]), (33, .row 36 5 (aB aS v28)), (34, .row 158 6 (aB ca x27))], 64⟩ ∧ cA v21 (bI a1 a2 a3 a4 a5 n3) q15 x27 n v27 v28 = some r) FU ?_ ?_ ?_
        ·exact AC ⟨_, _, rfl, h⟩ [(32, some 32), (33, some 33), (34, some 2144)] [] hρ
        ·rintro S ⟨_, _, _, h⟩; rw [cA] at h; cases h
        ·rintro n4 S ⟨v27, v28, rfl, h⟩; rw [cA] at h; refine aH ?_; refine AN hN ?_; refine AB h (fun hc33 h => ?_) fun hc33 h => ?_
         ·refine aE (AK ?_); refine aH ?_; refine aJ ?_; refine AR hN fun K hK => ?_; obtain ⟨q20, h82, h⟩ := aA h; obtain ⟨⟨h83a, h83b⟩, h83c⟩ := aX vL h82; (try simp only [EV, seval] at h83c); have h84 := IT vL 1 h82; (try simp only [EV, seval] at h84); obtain ⟨x34, h85, h⟩ := aA h; simp only [EV, seval, h64a, h64b, h64c, h83a, h83b, h83c, h84]; refine ak (sG h85) (by simp only [AL, EV, seval, h64a, h64b, h64c, h83a, h83b, h83c, h84]) (aM rfl) (ab rfl) ?_; simp only [EV, seval, h64a, h64b, h64c, h83a, h83b, h83c, h84]; apply hK; clear hK K; refine AR hN fun K hK => ?_; obtain ⟨q21, h86, h⟩ := aA h; obtain ⟨⟨h87a, h87b⟩, h87c⟩ := aX cS h86; (try simp only [EV, seval] at h87c); obtain ⟨x35, h88, h⟩ := aA h; simp only [EV, seval, h83a, h83b, h83c, h87a, h87b, h87c]; refine ak (sF h88) (by simp only [AL, EV, seval, h83a, h83b, h83c, h87a, h87b, h87c]) (aM rfl) (ab rfl) ?_; simp only [EV, seval, h83a, h83b, h83c, h87a, h87b, h87c]; apply hK; clear hK K; refine aH ?_; refine AJ (fun S => ∃ (v29 : Bool), S = ⟨mkT [(1, .sl (aB aS a5) a5.length), (2, .ptr 32 0), (6, .own 33 v28.length), (7, .int .i64 v21), (8, .own 34 x27.length), (9, .int .i64 v27), (12, .ptr 35 0), (80, .bool v29)], mkR [(32, .box 73 [.int .i64 a1, .int .i64 a2, .int .i64 a3, .int .i64 a4]), (33, .row 36 5 (aB aS v28)), (34, .row 158 6 (aB ca x27)), (35, .box 36 [.int .i64 x35.1, .int .i64 x35.2.1, .int .i64 x35.2.2.1, .int .i64 x35.2.2.2.1, .int .i64 x35.2.2.2.2.1])], 64⟩ ∧ i6 v27 v28 (cA v21 (bI a1 a2 a3 a4 a5 n3) q15 x27 n4) q20 x35 v29 = some r) hN ?_ ?_
          ·intro K hK; obtain ⟨x36, hv10, h⟩ := aA h; rcases aR hv10 with ⟨hc34, hv10⟩ | ⟨hc34, hv10⟩
           ·cases hv10; simp only [EV, seval, hc34]; refine hK _ _ _ (show aN _ _ _ from aP ⟨_, rfl, h⟩ (aD [(32, some 32), (33, some 33), (34, some 34), (35, some 2320)] [] hρ (by kernel_rfl) ?_ ?_)) <;> simp only [AL, EV, seval, hc34]
           ·cases hv10; simp only [EV, seval, hc34]; refine hK _ _ _ (show aN _ _ _ from aP ⟨_, rfl, h⟩ (aD [(32, some 32), (33, some 33), (34, some 34), (35, some 2320)] [] hρ (by kernel_rfl) ?_ ?_)) <;> simp only [AL, EV, seval, hc34]
          ·rintro S ⟨v29, rfl, h⟩; unfold i6 at h; refine ae (a := .bool v29) (by simp only [EV, seval, h83a, h83b, h83c, h87a, h87b, h87c]) (brK h (fun hc35 h => ?_) (fun hc35 h => ?_))
           ·refine AN hN ?_; injection h with h; subst h; exact AX (b' := 64) [(4, .own 32 0), (5, .bool false)] [(32, .row 36 5 (aB aS ([])))] [(32, some 64)] [] hρ (EQ [32])
           ·refine aE (AK ?_); refine AS hN fun K hK => ?_; have h89 := qw cS ((x35.1, x35.2.1, x35.2.2.1, x35.2.2.2.1, x35.2.2.2.2.1)) 0 [.int .i64 x35.1, .int .i64 x35.2.1, .int .i64 x35.2.2.1, .int .i64 x35.2.2.2.1, .int .i64 x35.2.2.2.2.1] h86 (Nat.le_of_ble_eq_true rfl) rfl; obtain ⟨h89a, h89b⟩ := h89; (try simp only [EV, seval] at h89a); (try simp only [EV, seval] at h89b); simp only [EV, seval, h83a, h83b, h83c, h87a, h87b, h87c, h89a, h89b]; refine hK _ _ _ (show AW _ _ _ _ _ from ?_); refine AS hN fun K hK => ?_; simp only [EV, seval]; exact hK _ _ _ (AC ⟨_, _, rfl, h⟩ [(32, some 32), (33, some 33), (34, some 34)] [] hρ)
         ·exact aZ (AC ⟨_, rfl, h⟩ [(32, some 32), (33, some 33)] [] hρ)
      ·rintro S ⟨v30, rfl, h⟩; unfold fV at h; refine AS hN fun K hK => ?_; simp only [EV, seval]; exact hK _ _ _ (AC ⟨_, _, rfl, h⟩ [(32, some 32), (33, some 33)] [] hρ)
     ·exact aZ (AC ⟨_, rfl, h⟩ [(32, some 33)] [] hρ)
   ·rintro S ⟨v31, rfl, h⟩; unfold jH at h; refine AN hN ?_; injection h with h; subst h; exact AX (b' := 64) [(4, .own 32 v31.length), (5, .bool true)] [(32, .row 36 5 (aB aS v31))] [(32, some 32)] [] hρ (EQ [32])
def oT : Option (Int × Int × Int × Int × Int) :=
  some (1, 0, 0, 0, 0)
theorem sQ {r : Int × Int × Int × Int × Int} (h : oT = some r) :
    aV Tryz.prog 92 [] [] (.agg [.int .i64 r.1, .int .i64 r.2.1, .int .i64 r.2.2.1, .int .i64 r.2.2.2.1, .int .i64 r.2.2.2.2]) [] := by
 unfold oT at h; refine SO Tryz.func92 rfl Tryz.ntmps92 fun C hN hρ => ?_; simp only [st0, aW, Nat.zero_add, Nat.reduceAdd]; refine AN hN ?_; refine AN hN ?_; injection h with h; subst h; exact AX (b' := 64) [(0, .ptr 32 0)] [(32, .box 36 [.int .i64 1, .int .i64 0, .int .i64 0, .int .i64 0, .int .i64 0])] [(32, some 64)] [] hρ (EQ [])
def kv (a1 a2 : Int) (v1 : Bool) : Option (LF) :=
  br v1 (some ([])) (gd (decide (¬ (IntKind.wrap .u64 a1) < 0)) (gd (decide (0 ≤ IntKind.wrap .i64 (1 * 2 ^ min (Int.toNat (IntKind.wrap .u64 a1)) (IntKind.bits .i64)) ∧ IntKind.wrap .i64 (1 * 2 ^ min (Int.toNat (IntKind.wrap .u64 a1)) (IntKind.bits .i64)) ≤ 1048576)) (bO (oT) fun x5 => bO (aj (List.replicate (Int.toNat (IntKind.wrap .i64 (1 * 2 ^ min (Int.toNat (IntKind.wrap .u64 a1)) (IntKind.bits .i64)))) ((0, 0, 0, 0, 0) : Int × Int × Int × Int × Int)) a2) fun q1 => some ((List.replicate (Int.toNat (IntKind.wrap .i64 (1 * 2 ^ min (Int.toNat (IntKind.wrap .u64 a1)) (IntKind.bits .i64)))) ((0, 0, 0, 0, 0) : Int × Int × Int × Int × Int)).set (Int.toNat a2) ((x5.1, x5.2.1, x5.2.2.1, x5.2.2.2.1, x5.2.2.2.2))))))
def jJ (a1 a2 : Int) : Option (LF) :=
  bO (cM a1 1 4) fun x1 => bO (br (!x1) (some true) (gd (decide (¬ (IntKind.wrap .u64 a1) < 0)) (bO (cM a2 0 (IntKind.wrap .i64 ((IntKind.wrap .i64 (1 * 2 ^ min (Int.toNat (IntKind.wrap .u64 a1)) (IntKind.bits .i64))) - 1))) fun x2 => some (!x2)))) fun x3 => kv a1 a2 x3
theorem rP {a1 a2 : Int} {r : LF} (h : jJ a1 a2 = some r) :
    aV Tryz.prog 62 [.int .i64 a1, .int .i64 a2] [] (.own 0 r.length) [.row 36 5 (aB aS r)] := by
 unfold jJ at h; refine SO Tryz.func62 rfl Tryz.ntmps62 fun C hN hρ => ?_; simp only [st0, aW, Nat.zero_add, Nat.reduceAdd]; refine AN hN ?_; refine aH ?_; refine AJ (fun S => ∃ (v1 : Bool), S = ⟨mkT [(0, .int .i64 a1), (1, .int .i64 a2), (17, .bool v1)], mkR [], 64⟩ ∧ kv a1 a2 v1 = some r) hN ?_ ?_
 ·intro K hK; obtain ⟨x1, h1, h⟩ := aA h; simp only [EV, seval]; refine CP (ax h1) ?_; obtain ⟨x3, hv1, h⟩ := aA h; rcases aR hv1 with ⟨hc1, hv1⟩ | ⟨hc1, hv1⟩
  ·cases hv1; simp only [EV, seval, hc1]; refine hK _ _ _ (show aN _ _ _ from aP ⟨_, rfl, h⟩ (aD [] [] hρ (by kernel_rfl) ?_ ?_)) <;> simp only [AL, EV, seval, hc1]
  ·obtain ⟨h4, hv1⟩ := o7 hv1; replace h4 := of_decide_eq_true h4; obtain ⟨x4, h5, hv1⟩ := aA hv1; simp only [EV, seval, hc1, h4]; refine ak (ax h5) (by simp only [AL, EV, seval, hc1, h4]) (aM rfl) (ab rfl) ?_; cases hv1; simp only [EV, seval, hc1, h4]; refine hK _ _ _ (show aN _ _ _ from aP ⟨_, rfl, h⟩ (aD [] [] hρ (by kernel_rfl) ?_ ?_)) <;> simp only [AL, EV, seval, hc1, h4]
 ·rintro S ⟨v1, rfl, h⟩; unfold kv at h; refine AB h (fun hc2 h => ?_) fun hc2 h => ?_
  ·refine AN hN ?_; injection h with h; subst h; exact AX (b' := 64) [(4, .own 32 0)] [(32, .row 36 5 (aB aS ([])))] [(32, some 64)] [] hρ (EQ [32])
  ·refine aE (AK ?_); refine AR hN fun K hK => ?_; obtain ⟨h6, h⟩ := gdI h; obtain ⟨h7, h⟩ := gdI h; have h8 := mq (e := aS) ((0, 0, 0, 0, 0)) (Int.toNat (IntKind.wrap .i64 (1 * 2 ^ min (Int.toNat (IntKind.wrap .u64 a1)) (IntKind.bits .i64)))); simp only [EN] at h8; have h9 : (List.replicate (Int.toNat (IntKind.wrap .i64 (1 * 2 ^ min (Int.toNat (IntKind.wrap .u64 a1)) (IntKind.bits .i64)))) ((0, 0, 0, 0, 0) : Int × Int × Int × Int × Int)).length = Int.toNat (IntKind.wrap .i64 (1 * 2 ^ min (Int.toNat (IntKind.wrap .u64 a1)) (IntKind.bits .i64))) := List.length_replicate; simp only [EV, seval, h6, h7, h8, h9]; apply hK; clear hK K; refine AR hN fun K hK => ?_; obtain ⟨x5, h10, h⟩ := aA h; simp only [EV, seval]; refine CP (sQ h10) ?_; obtain ⟨q1, h11, h⟩ := aA h; obtain ⟨⟨h12a, h12b⟩, h12c⟩ := aX cS h11; (try simp only [EV, seval] at h12c); (try simp only [EV, seval] at h12b); have h13 := qw cS ((x5.1, x5.2.1, x5.2.2.1, x5.2.2.2.1, x5.2.2.2.2)) 0 [.int .i64 x5.1, .int .i64 x5.2.1, .int .i64 x5.2.2.1, .int .i64 x5.2.2.2.1, .int .i64 x5.2.2.2.2] h11 (Nat.le_of_ble_eq_true rfl) rfl; obtain ⟨h13a, h13b⟩ := h13; (try simp only [EV, seval] at h13a); (try simp only [EV, seval] at h13b); simp only [EV, seval, h12a, h12b, h12c, h13a, h13b]; apply hK; clear hK K; refine AN hN ?_; injection h with h; subst h; exact AX (b' := 64) [(4, .own 32 ((List.replicate (Int.toNat (IntKind.wrap .i64 (1 * 2 ^ min (Int.toNat (IntKind.wrap .u64 a1)) (IntKind.bits .i64)))) ((0, 0, 0, 0, 0) : Int × Int × Int × Int × Int)).set (Int.toNat a2) ((x5.1, x5.2.1, x5.2.2.1, x5.2.2.2.1, x5.2.2.2.2))).length)] [(32, .row 36 5 (aB aS ((List.replicate (Int.toNat (IntKind.wrap .i64 (1 * 2 ^ min (Int.toNat (IntKind.wrap .u64 a1)) (IntKind.bits .i64)))) ((0, 0, 0, 0, 0) : Int × Int × Int × Int × Int)).set (Int.toNat a2) ((x5.1, x5.2.1, x5.2.2.1, x5.2.2.2.1, x5.2.2.2.2)))))] [(32, some 112)] [] hρ (EQ [32])
def iD (v6 : List (LF)) : Option (Int × List (LF)) :=
  some (0, v6)
def cX (a1 a2 : Int) : Nat → Int → (List (LF)) → Option (Int × List (LF))
  | 0, _, _ => none
  | n1 + 1, v4, v5 =>
  gd (decide (¬ (IntKind.wrap .u64 a2) < 0)) (br (decide (v4 < (IntKind.wrap .i64 (1 * 2 ^ min (Int.toNat (IntKind.wrap .u64 a2)) (IntKind.bits .i64))))) (bO (jJ a1 v4) fun x7 => gd (decide (v5.length + ([x7]).length ≤ 16777216)) ((cX a1 a2 n1) (IntKind.wrap .i64 (v4 + 1)) (v5 ++ ([x7])))) (iD v5))
def fF (a1 a2 : Int) (v1 : Bool) : Option (Int × List (LF)) :=
  br v1 (some (0, [])) (cX a1 a2 FU 0 ([] : List (LF)))
def fW (a1 a2 : Int) : Option (Int × List (LF)) :=
  bO (cM a1 1 4) fun x1 => bO (br (!x1) (some true) (bO (cM a2 1 a1) fun x2 => some (!x2))) fun x3 => fF a1 a2 x3
theorem pn {a1 a2 : Int} {r : Int × List (LF)} (h : fW a1 a2 = some r) :
    aV Tryz.prog 35 [.int .i64 a1, .int .i64 a2] [] (.agg [.int .i64 r.1, .own 0 r.2.length]) [.row 55 1 (aB aU r.2)] := by
 unfold fW at h; refine SO Tryz.func35 rfl Tryz.ntmps35 fun C hN hρ => ?_; simp only [st0, aW, Nat.zero_add, Nat.reduceAdd]; refine AN hN ?_; refine AN hN ?_; refine aH ?_; refine AJ (fun S => ∃ (v1 : Bool), S = ⟨mkT [(0, .int .i64 a1), (1, .int .i64 a2), (4, .ptr 32 0), (5, .ptr 33 0), (16, .bool v1)], mkR [(32, .box 46 [.int .i64 0, .nil]), (33, .box 46 [.int .i64 0, .nil])], 64⟩ ∧ fF a1 a2 v1 = some r) hN ?_ ?_
 ·intro K hK; obtain ⟨x1, h1, h⟩ := aA h; simp only [EV, seval]; refine CP (ax h1) ?_; obtain ⟨x3, hv1, h⟩ := aA h; rcases aR hv1 with ⟨hc1, hv1⟩ | ⟨hc1, hv1⟩
  ·cases hv1; simp only [EV, seval, hc1]; refine hK _ _ _ (show aN _ _ _ from aP ⟨_, rfl, h⟩ (aD [(32, some 64), (33, some 1104)] [] hρ (by kernel_rfl) ?_ ?_)) <;> simp only [AL, EV, seval, hc1]
  ·obtain ⟨x4, h3, hv1⟩ := aA hv1; simp only [EV, seval, hc1]; refine ak (ax h3) (by simp only [AL, EV, seval, hc1]) (aM rfl) (ab rfl) ?_; cases hv1; simp only [EV, seval, hc1]; refine hK _ _ _ (show aN _ _ _ from aP ⟨_, rfl, h⟩ (aD [(32, some 64), (33, some 1104)] [] hρ (by kernel_rfl) ?_ ?_)) <;> simp only [AL, EV, seval, hc1]
 ·rintro S ⟨v1, rfl, h⟩; unfold fF at h; refine AB h (fun hc2 h => ?_) fun hc2 h => ?_
  ·refine AN hN ?_; injection h with h; subst h; exact AX (b' := 64) [(4, .ptr 32 0)] [(32, .box 46 [.int .i64 0, .own 33 0]), (33, .row 55 1 (aB aU ([])))] [(32, some 32), (33, none)] [] hρ (EQ [33])
  ·refine aE (AK ?_); refine aQ (fun S => ∃ (v6 : List (LF)), S = ⟨mkT [(4, .ptr 32 0), (5, .ptr 33 0)], mkR [(32, .box 46 [.int .i64 0, .nil]), (33, .box 46 [.int .i64 0, .own 34 v6.length]), (34, .row 55 1 (aB aU v6))], 64⟩ ∧ iD v6 = some r) ?_ ?_
   ·refine AN hN ?_; refine aJ ?_; refine aY (fun n S => ∃ (v4 : Int) (v5 : List (LF)), S = ⟨mkT [(0, .int .i64 a1), (1, .int .i64 a2), (4, .ptr 32 0), (5, .ptr 33 0), (6, .int .i64 v4)], mkR [(32, .box 46 [.int .i64 0, .nil]), (33, .box 46 [.int .i64 0, .own 34 v5.length]), (34, .row 55 1 (aB aU v5))], 64⟩ ∧ cX a1 a2 n v4 v5 = some r) FU ?_ ?_ ?_
    ·exact AC ⟨_, _, rfl, h⟩ [(32, some 32), (33, some 33), (34, none)] [] hρ
    ·rintro S ⟨_, _, _, h⟩; rw [cX] at h; cases h
    ·rintro n1 S ⟨v4, v5, rfl, h⟩; rw [cX] at h; refine aH ?_; refine AR hN fun K hK => ?_; obtain ⟨h10, h⟩ := gdI h; simp only [EV, seval, h10]; apply hK; clear hK K; refine ae (a := .bool (decide (v4 < (IntKind.wrap .i64 (1 * 2 ^ min (Int.toNat (IntKind.wrap .u64 a2)) (IntKind.bits .i64)))))) (by simp only [EV, seval, h10]) (brK h (fun hc5 h => ?_) (fun hc5 h => ?_))
     ·refine aE (AK ?_); refine aH ?_; refine aJ ?_; refine AS hN fun K hK => ?_; obtain ⟨x7, h11, h⟩ := aA h; simp only [EV, seval]; refine ak (aV.can (ret2 := .sl (aB aS x7) x7.length) (mem2 := []) (rP h11) [] [0] (by kernel_rfl) (by simp only [AL, EV, seval]) (by simp only [AL, EV, seval])) (by simp only [AL, EV, seval]) (aM rfl) (ab rfl) ?_; obtain ⟨h12, h⟩ := gdI h; (try simp only [EV, seval] at h12); simp only [EV, seval, h12]; refine hK _ _ _ (show AW _ _ _ _ _ from ?_); refine AS hN fun K hK => ?_; simp only [EV, seval]; exact hK _ _ _ (AC ⟨_, _, rfl, h⟩ [(32, some 32), (33, some 33), (34, some 1184)] [] hρ)
     ·refine aZ (show aN _ _ _ from aP ⟨_, rfl, h⟩ (aD [(32, some 32), (33, some 33), (34, some 34)] [] hρ (by kernel_rfl) ?_ ?_)) <;> simp only [AL, EV, seval, h10]
   ·rintro S ⟨v6, rfl, h⟩; unfold iD at h; refine AN hN ?_; injection h with h; subst h; exact AX (b' := 64) [(4, .ptr 32 0)] [(32, .box 46 [.int .i64 0, .own 33 v6.length]), (33, .row 55 1 (aB aU v6))] [(32, some 32), (33, some 34)] [] hρ (EQ [33])
def jK (v10 : Int) (kl1 : Bool → Int → (LF) → Option (LF × Bool)) (v12 : Bool) (v13 : LF) : Option (LF × Bool) :=
  kl1 v12 (IntKind.wrap .i64 (v10 + 1)) v13
def lN (v14 : Bool) (v15 : LF) : Option (LF × Bool) :=
  some (v15, v14)
def dC (a1 : LF) (a2 a3 : Int) : Nat → Bool → Int → (LF) → Option (LF × Bool)
  | 0, _, _, _ => none
  | n1 + 1, v9, v10, v11 =>
  br (decide (v10 < ((a1.length : Int)))) (gd (decide (¬ (IntKind.wrap .u64 a2) < 0)) (br ((bits .and .i64 (Int.fdiv v10 (2 ^ min (Int.toNat (IntKind.wrap .u64 a2)) (IntKind.bits .i64))) 1) == a3) (bO (aj a1 v10) fun q5 => bO (aj v11 v10) fun q6 => bO (br v9 (some true) (some (!((q5.1 == 0) && ((q5.2.1 == 0) && ((q5.2.2.1 == 0) && ((q5.2.2.2.1 == 0) && (q5.2.2.2.2 == 0)))))))) fun x2 => jK v10 (dC a1 a2 a3 n1) x2 (v11.set (Int.toNat v10) ((q5.1, q5.2.1, q5.2.2.1, q5.2.2.2.1, q5.2.2.2.2)))) (jK v10 (dC a1 a2 a3 n1) v9 v11))) (lN v9 v11)
def nD (a1 : LF) (a2 a3 : Int) : Option (LF × Bool) :=
  gd (decide (0 ≤ (a1.length : Int) ∧ (a1.length : Int) ≤ 1048576)) (dC a1 a2 a3 FU false 0 (List.replicate (Int.toNat ((a1.length : Int))) ((0, 0, 0, 0, 0) : Int × Int × Int × Int × Int)))
theorem u9 {a1 : LF} {a2 a3 : Int} {r : LF × Bool} (h : nD a1 a2 a3 = some r) :
    aV Tryz.prog 94 [.sl (aB aS a1) a1.length, .int .i64 a2, .int .i64 a3] [] (.tup [.own 0 r.1.length, .bool r.2]) [.row 36 5 (aB aS r.1)] := by
 unfold nD at h; refine SO Tryz.func94 rfl Tryz.ntmps94 fun C hN hρ => ?_; simp only [st0, aW, Nat.zero_add, Nat.reduceAdd]; refine AN hN ?_; refine AR hN fun K hK => ?_; obtain ⟨h1, h⟩ := gdI h; have h2 := mq (e := aS) ((0, 0, 0, 0, 0)) (Int.toNat ((a1.length : Int))); simp only [EN] at h2; have h3 : (List.replicate (Int.toNat ((a1.length : Int))) ((0, 0, 0, 0, 0) : Int × Int × Int × Int × Int)).length = Int.toNat ((a1.length : Int)) := List.length_replicate; simp only [EV, seval, h1, h2, h3]; apply hK; clear hK K; refine AN hN ?_; refine aQ (fun S => ∃ (v14 : Bool) (v15 : LF), S = ⟨mkT [(8, .own 32 v15.length), (9, .bool v14)], mkR [(32, .row 36 5 (aB aS v15))], 64⟩ ∧ lN v14 v15 = some r) ?_ ?_
 ·refine AN hN ?_; refine aJ ?_; refine aY (fun n S => ∃ (v9 : Bool) (v10 : Int) (v11 : LF), S = ⟨mkT [(0, .sl (aB aS a1) a1.length), (1, .int .i64 a2), (2, .int .i64 a3), (8, .own 32 v11.length), (9, .bool v9), (10, .int .i64 v10)], mkR [(32, .row 36 5 (aB aS v11))], 64⟩ ∧ dC a1 a2 a3 n v9 v10 v11 = some r) FU ?_ ?_ ?_
  ·exact AC ⟨_, _, _, rfl, h⟩ [(32, some 1120)] [] hρ
  ·rintro S ⟨_, _, _, _, h⟩; rw [dC] at h; cases h
  ·rintro n1 S ⟨v9, v10, v11, rfl, h⟩; rw [dC] at h; refine aH ?_; refine AN hN ?_; refine AB h (fun hc6 h => ?_) fun hc6 h => ?_
   ·refine aE (AK ?_); refine aQ (fun S => ∃ (v12 : Bool) (v13 : LF), S = ⟨mkT [(0, .sl (aB aS a1) a1.length), (1, .int .i64 a2), (2, .int .i64 a3), (8, .own 32 v13.length), (9, .bool v12), (10, .int .i64 v10)], mkR [(32, .row 36 5 (aB aS v13))], 64⟩ ∧ jK v10 (dC a1 a2 a3 n1) v12 v13 = some r) ?_ ?_
    ·refine aJ ?_; refine AR hN fun K hK => ?_; obtain ⟨h16, h⟩ := gdI h; simp only [EV, seval, h16]; apply hK; clear hK K; refine ae (a := .bool ((bits .and .i64 (Int.fdiv v10 (2 ^ min (Int.toNat (IntKind.wrap .u64 a2)) (IntKind.bits .i64))) 1) == a3)) (by simp only [EV, seval, h16]) (brK h (fun hc7 h => ?_) (fun hc7 h => ?_))
     ·refine AR hN fun K hK => ?_; obtain ⟨q5, h17, h⟩ := aA h; obtain ⟨⟨h18a, h18b⟩, h18c⟩ := aX cS h17; (try simp only [EV, seval] at h18c); obtain ⟨q6, h19, h⟩ := aA h; obtain ⟨⟨h20a, h20b⟩, h20c⟩ := aX cS h19; (try simp only [EV, seval] at h20c); have h21 := qw cS ((q5.1, q5.2.1, q5.2.2.1, q5.2.2.2.1, q5.2.2.2.2)) 0 [.int .i64 q5.1, .int .i64 q5.2.1, .int .i64 q5.2.2.1, .int .i64 q5.2.2.2.1, .int .i64 q5.2.2.2.2] h19 (Nat.le_of_ble_eq_true rfl) rfl; obtain ⟨h21a, h21b⟩ := h21; (try simp only [EV, seval] at h21a); (try simp only [EV, seval] at h21b); simp only [EV, seval, h18a, h18b, h18c, h20a, h20b, h20c, h21a, h21b]; apply hK; clear hK K; refine AS hN fun K hK => ?_; obtain ⟨x2, hv2, h⟩ := aA h; rcases aR hv2 with ⟨hc8, hv2⟩ | ⟨hc8, hv2⟩
      ·cases hv2; simp only [EV, seval, hc8]; refine hK _ _ _ (show aN _ _ _ from aP ⟨_, _, rfl, h⟩ (aD [(32, some 32)] [] hρ (by kernel_rfl) ?_ ?_)) <;> simp only [AL, EV, seval, hc8]
      ·cases hv2; simp only [EV, seval, hc8, h18a, h18b, h18c]; refine hK _ _ _ (show aN _ _ _ from aP ⟨_, _, rfl, h⟩ (aD [(32, some 32)] [] hρ (by kernel_rfl) ?_ ?_)) <;> simp only [AL, EV, seval, hc8, h18a, h18b, h18c]
     ·refine aE (show aN _ _ _ from aP ⟨_, _, rfl, h⟩ (aD [(32, some 32)] [] hρ (by kernel_rfl) ?_ ?_)) <;> simp only [AL, EV, seval, h16]
    ·rintro S ⟨v12, v13, rfl, h⟩; unfold jK at h; refine AS hN fun K hK => ?_; simp only [EV, seval]; exact hK _ _ _ (AC ⟨_, _, _, rfl, h⟩ [(32, some 32)] [] hρ)
   ·exact aZ (AC ⟨_, _, rfl, h⟩ [(32, some 32)] [] hρ)
 ·rintro S ⟨v14, v15, rfl, h⟩; unfold lN at h; refine AN hN ?_; injection h with h; subst h; exact AX (b' := 64) [(6, .own 32 v15.length), (7, .bool v14)] [(32, .row 36 5 (aB aS v15))] [(32, some 32)] [] hρ (EQ [32])
def nf (a1 : Int) (v6 : List (LF)) : Option (Int × List (LF) × Bool) :=
  some (a1, v6, true)
def fG (a1 : Int) (a2 : List (LF)) (a4 a5 a6 a7 : Int) : Nat → Int → (List (LF)) → Option (Int × List (LF) × Bool)
  | 0, _, _ => none
  | n1 + 1, v4, v5 =>
  br (decide (v4 < ((a2.length : Int)))) (bO (aj a2 v4) fun q3 => bO (iW a4 a5 a6 a7 q3) fun x4 => br (!x4.2) (some (0, [], false)) (gd (decide (v5.length + ([x4.1]).length ≤ 16777216)) ((fG a1 a2 a4 a5 a6 a7 n1) (IntKind.wrap .i64 (v4 + 1)) (v5 ++ ([x4.1]))))) (nf a1 v5)
def lO (a1 : Int) (a2 : List (LF)) (a4 a5 a6 a7 : Int) (v1 : Bool) : Option (Int × List (LF) × Bool) :=
  br v1 (some (a1, a2, true)) (fG a1 a2 a4 a5 a6 a7 FU 0 ([] : List (LF)))
def nE (a1 : Int) (a2 : List (LF)) (a3 a4 a5 a6 a7 a8 a9 a10 : Int) : Option (Int × List (LF) × Bool) :=
  bO (br (decide (0 < a10)) (gd (decide (¬ (IntKind.wrap .u64 (IntKind.wrap .i64 (a10 - 1))) < 0)) (some ((bits .and .i64 (Int.fdiv a1 (2 ^ min (Int.toNat (IntKind.wrap .u64 (IntKind.wrap .i64 (a10 - 1)))) (IntKind.bits .i64))) 1) == 0))) (some false)) fun x1 => lO a1 a2 a4 a5 a6 a7 x1
theorem uA {a1 : Int} {a2 : List (LF)} {a3 a4 a5 a6 a7 a8 a9 a10 : Int} {r : Int × List (LF) × Bool} (h : nE a1 a2 a3 a4 a5 a6 a7 a8 a9 a10 = some r) :
    aV Tryz.prog 63 [.agg [.int .i64 a1, .sl (aB aU a2) a2.length], .agg [.int .i64 a3, .int .i64 a4, .int .i64 a5, .int .i64 a6, .int .i64 a7, .int .i64 a8, .int .i64 a9, .int .i64 a10]] [] (.tup [.agg [.int .i64 r.1, .sl (aB aU r.2.1) r.2.1.length], .bool r.2.2]) [] := by
 unfold nE at h; refine SO Tryz.func63 rfl Tryz.ntmps63 fun C hN hρ => ?_; simp only [st0, aW, Nat.zero_add, Nat.reduceAdd]; refine AN hN ?_; refine aH ?_; refine AJ (fun S => ∃ (v1 : Bool), S = ⟨mkT [(2, .ptr 32 0), (3, .ptr 33 0), (4, .ptr 34 0), (23, .bool v1)], mkR [(32, .box 46 [.int .i64 a1, .sl (aB aU a2) a2.length]), (33, .box 75 [.int .i64 a3, .int .i64 a4, .int .i64 a5, .int .i64 a6, .int .i64 a7, .int .i64 a8, .int .i64 a9, .int .i64 a10]), (34, .box 46 [.int .i64 0, .nil])], 64⟩ ∧ lO a1 a2 a4 a5 a6 a7 v1 = some r) hN ?_ ?_
 ·intro K hK; obtain ⟨x1, hv1, h⟩ := aA h; rcases aR hv1 with ⟨hc1, hv1⟩ | ⟨hc1, hv1⟩
  ·obtain ⟨h2, hv1⟩ := o7 hv1; replace h2 := of_decide_eq_true h2; cases hv1; simp only [EV, seval, hc1, h2]; refine hK _ _ _ (show aN _ _ _ from aP ⟨_, rfl, h⟩ (aD [(32, some 64), (33, some 80), (34, some 96)] [] hρ (by kernel_rfl) ?_ ?_)) <;> simp only [AL, EV, seval, hc1, h2]
  ·cases hv1; simp only [EV, seval, hc1]; refine hK _ _ _ (show aN _ _ _ from aP ⟨_, rfl, h⟩ (aD [(32, some 64), (33, some 80), (34, some 96)] [] hρ (by kernel_rfl) ?_ ?_)) <;> simp only [AL, EV, seval, hc1]
 ·rintro S ⟨v1, rfl, h⟩; unfold lO at h; refine AB h (fun hc2 h => ?_) fun hc2 h => ?_
  ·refine AN hN ?_; injection h with h; subst h; exact AX (b' := 64) [(4, .ptr 32 0), (5, .bool true)] [(32, .box 46 [.int .i64 a1, .sl (aB aU a2) a2.length])] [(32, some 34)] [] hρ (EQ [])
  ·refine aE (AK ?_); refine AN hN ?_; refine aQ (fun S => ∃ (v6 : List (LF)), S = ⟨mkT [(4, .ptr 32 0), (6, .ptr 33 0)], mkR [(32, .box 46 [.int .i64 0, .nil]), (33, .box 46 [.int .i64 a1, .own 34 v6.length]), (34, .row 55 1 (aB aU v6))], 64⟩ ∧ nf a1 v6 = some r) ?_ ?_
   ·refine AN hN ?_; refine aJ ?_; refine aY (fun n S => ∃ (v4 : Int) (v5 : List (LF)), S = ⟨mkT [(2, .ptr 32 0), (3, .ptr 33 0), (4, .ptr 34 0), (6, .ptr 35 0), (7, .int .i64 v4)], mkR [(32, .box 46 [.int .i64 a1, .sl (aB aU a2) a2.length]), (33, .box 75 [.int .i64 a3, .int .i64 a4, .int .i64 a5, .int .i64 a6, .int .i64 a7, .int .i64 a8, .int .i64 a9, .int .i64 a10]), (34, .box 46 [.int .i64 0, .nil]), (35, .box 46 [.int .i64 a1, .own 36 v5.length]), (36, .row 55 1 (aB aU v5))], 64⟩ ∧ fG a1 a2 a4 a5 a6 a7 n v4 v5 = some r) FU ?_ ?_ ?_
    ·exact AC ⟨_, _, rfl, h⟩ [(32, some 32), (33, some 33), (34, some 34), (35, some 112), (36, none)] [] hρ
    ·rintro S ⟨_, _, _, h⟩; rw [fG] at h; cases h
    ·rintro n1 S ⟨v4, v5, rfl, h⟩; rw [fG] at h; refine aH ?_; refine AN hN ?_; refine AB h (fun hc7 h => ?_) fun hc7 h => ?_
     ·refine aE (AK ?_); refine aH ?_; refine aJ ?_; refine AR hN fun K hK => ?_; obtain ⟨q3, h11, h⟩ := aA h; obtain ⟨⟨h12a, h12b⟩, h12c⟩ := aX fc h11; (try simp only [EV, seval] at h12c); obtain ⟨x4, h13, h⟩ := aA h; simp only [EV, seval, h12a, h12b, h12c]; refine ak (sP h13) (by simp only [AL, EV, seval, h12a, h12b, h12c]) (aM rfl) (ap (by simp only [EV, seval])) ?_; simp only [EV, seval, h12a, h12b, h12c]; apply hK; clear hK K; refine aH ?_; refine AN hN ?_; refine AB h (fun hc8 h => ?_) fun hc8 h => ?_
      ·refine AN hN ?_; injection h with h; subst h; exact AX (b' := 64) [(4, .ptr 32 0), (5, .bool false)] [(32, .box 46 [.int .i64 0, .sl (aB aU ([])) 0])] [(32, some 34)] [] hρ (EQ [])
      ·refine aE (AK ?_); refine bZ (aD (lt := [(2, .ptr 32 0), (3, .ptr 33 0), (4, .ptr 34 0), (6, .ptr 35 0), (7, .int .i64 v4), (8, .sl (aB aS x4.1) x4.1.length)]) (lr := [(32, .box 46 [.int .i64 a1, .sl (aB aU a2) a2.length]), (33, .box 75 [.int .i64 a3, .int .i64 a4, .int .i64 a5, .int .i64 a6, .int .i64 a7, .int .i64 a8, .int .i64 a9, .int .i64 a10]), (34, .box 46 [.int .i64 0, .nil]), (35, .box 46 [.int .i64 a1, .own 36 v5.length]), (36, .row 55 1 (aB aU v5))]) (b' := 3152) [(32, some 32), (33, some 33), (34, some 34), (35, some 35), (36, some 36)] [1200] hρ (by kernel_rfl) ?_ ?_) ?_
       ·simp only [AL, EV, seval]
       ·simp only [AL, EV, seval]
       refine AS hN fun K hK => ?_; obtain ⟨h14, h⟩ := gdI h; (try simp only [EV, seval] at h14); simp only [EV, seval, h14]; refine hK _ _ _ (show AW _ _ _ _ _ from ?_); refine AS hN fun K hK => ?_; simp only [EV, seval]; exact hK _ _ _ (AC ⟨_, _, rfl, h⟩ [(32, some 32), (33, some 33), (34, some 34), (35, some 35), (36, some 3216)] [] hρ)
     ·exact aZ (AC ⟨_, rfl, h⟩ [(32, some 34), (33, some 35), (34, some 36)] [] hρ)
   ·rintro S ⟨v6, rfl, h⟩; unfold nf at h; refine AN hN ?_; injection h with h; subst h; exact AX (b' := 64) [(4, .ptr 32 0), (5, .bool true)] [(32, .box 46 [.int .i64 a1, .sl (aB aU v6) v6.length])] [(32, some 32)] [34] hρ (EQ [])
def d7 (v31 : Int) (kl3 : Int → (LZ) → Option (LZ)) (v45 : LZ) : Option (LZ) :=
  kl3 (IntKind.wrap .i64 (v31 + 1)) v45
def cY (v31 : Int) (v32 : LZ) (kl3 : Int → (LZ) → Option (LZ)) (v42 : Bool) (v43 : Int) (v44 : List (LF)) : Option (LZ) :=
  br v42 (gd (decide (v32.length + ([(v43, v44)]).length ≤ 16777216)) (d7 v31 kl3 (v32 ++ ([(v43, v44)])))) (d7 v31 kl3 v32)
def bP (a2 : List (LF)) (a3 v31 : Int) (v32 : LZ) (kl3 : Int → (LZ) → Option (LZ)) : Nat → Bool → Int → Int → (List (LF)) → Option (LZ)
  | 0, _, _, _, _ => none
  | n4 + 1, v38, v39, v40, v41 =>
  br (decide (v39 < ((a2.length : Int)))) (bO (aj a2 v39) fun q9 => bO (nD q9 a3 v31) fun x18 => gd (decide (v41.length + ([x18.1]).length ≤ 16777216)) (bO (br v38 (some true) (some x18.2)) fun x19 => (bP a2 a3 v31 v32 kl3 n4) x19 (IntKind.wrap .i64 (v39 + 1)) v40 (v41 ++ ([x18.1])))) (cY v31 v32 kl3 v38 v40 v41)
def iE (v46 : LZ) : Option (LZ) :=
  some v46
def ac (a1 : Int) (a2 : List (LF)) (a3 a4 : Int) : Nat → Int → (LZ) → Option (LZ)
  | 0, _, _ => none
  | n3 + 1, v31, v32 =>
  br (decide (v31 < 2)) (gd (decide (¬ (IntKind.wrap .u64 a4) < 0)) (bP a2 a3 v31 v32 (ac a1 a2 a3 a4 n3) FU false 0 (IntKind.wrap .i64 (a1 + (IntKind.wrap .i64 (v31 * 2 ^ min (Int.toNat (IntKind.wrap .u64 a4)) (IntKind.bits .i64))))) ([] : List (LF)))) (iE v32)
def fH (a1 : Int) (a2 : List (LF)) (a3 a4 : Int) (v1 : Bool) (v2 : LZ) : Option (LZ) :=
  br v1 (some v2) (ac a1 a2 a3 a4 FU 0 v2)
def dv (a1 : Int) (a2 : List (LF)) (a3 a4 : Int) : Option (LZ) :=
  bO (cM a4 0 2) fun x1 => bO (br (!x1) (some true) (bO (cM a3 0 3) fun x2 => some (!x2))) fun x3 => fH a1 a2 a3 a4 x3 ([] : LZ)
theorem po {a1 : Int} {a2 : List (LF)} {a3 a4 : Int} {r : LZ} (h : dv a1 a2 a3 a4 = some r) :
    aV Tryz.prog 64 [.agg [.int .i64 a1, .sl (aB aU a2) a2.length], .int .i64 a3, .int .i64 a4] [] (.own 0 r.length) [.row 46 2 (aB aL r)] := by
 unfold dv at h; refine SO Tryz.func64 rfl Tryz.ntmps64 fun C hN hρ => ?_; simp only [st0, aW, Nat.zero_add, Nat.reduceAdd]; refine AN hN ?_; refine AN hN ?_; refine aH ?_; refine AJ (fun S => ∃ (v1 : Bool) (v2 : LZ), S = ⟨mkT [(1, .int .i64 a3), (2, .int .i64 a4), (3, .ptr 32 0), (7, .own 33 v2.length), (22, .bool v1)], mkR [(32, .box 46 [.int .i64 a1, .sl (aB aU a2) a2.length]), (33, .row 46 2 (aB aL v2))], 64⟩ ∧ fH a1 a2 a3 a4 v1 v2 = some r) hN ?_ ?_
 ·intro K hK; obtain ⟨x1, h1, h⟩ := aA h; simp only [EV, seval]; refine CP (ax h1) ?_; obtain ⟨x3, hv1, h⟩ := aA h; rcases aR hv1 with ⟨hc1, hv1⟩ | ⟨hc1, hv1⟩
  ·cases hv1; simp only [EV, seval, hc1]; refine hK _ _ _ (show aN _ _ _ from aP ⟨_, _, rfl, h⟩ (aD [(32, some 64), (33, some 1088)] [] hρ (by kernel_rfl) ?_ ?_)) <;> simp only [AL, EV, seval, hc1]
  ·obtain ⟨x4, h3, hv1⟩ := aA hv1; simp only [EV, seval, hc1]; refine ak (ax h3) (by simp only [AL, EV, seval, hc1]) (aM rfl) (ab rfl) ?_; cases hv1; simp only [EV, seval, hc1]; refine hK _ _ _ (show aN _ _ _ from aP ⟨_, _, rfl, h⟩ (aD [(32, some 64), (33, some 1088)] [] hρ (by kernel_rfl) ?_ ?_)) <;> simp only [AL, EV, seval, hc1]
 ·rintro S ⟨v1, v2, rfl, h⟩; unfold fH at h; refine AB h (fun hc2 h => ?_) fun hc2 h => ?_
  ·refine AN hN ?_; injection h with h; subst h; exact AX (b' := 64) [(6, .own 32 v2.length)] [(32, .row 46 2 (aB aL v2))] [(32, some 33)] [] hρ (EQ [32])
  ·refine aE (AK ?_); refine aQ (fun S => ∃ (v46 : LZ), S = ⟨mkT [(7, .own 32 v46.length)], mkR [(32, .row 46 2 (aB aL v46))], 64⟩ ∧ iE v46 = some r) ?_ ?_
   ·refine AN hN ?_; refine aJ ?_; refine aY (fun n S => ∃ (v31 : Int) (v32 : LZ), S = ⟨mkT [(1, .int .i64 a3), (2, .int .i64 a4), (3, .ptr 32 0), (7, .own 33 v32.length), (8, .int .i64 v31)], mkR [(32, .box 46 [.int .i64 a1, .sl (aB aU a2) a2.length]), (33, .row 46 2 (aB aL v32))], 64⟩ ∧ ac a1 a2 a3 a4 n v31 v32 = some r) FU ?_ ?_ ?_
    ·exact AC ⟨_, _, rfl, h⟩ [(32, some 32), (33, some 33)] [] hρ
    ·rintro S ⟨_, _, _, h⟩; rw [ac] at h; cases h
    ·rintro n3 S ⟨v31, v32, rfl, h⟩; rw [ac] at h; refine aH ?_; refine AN hN ?_; refine AB h (fun hc17 h => ?_) fun hc17 h => ?_
     ·refine aE (AK ?_); refine aQ (fun S => ∃ (v45 : LZ), S = ⟨mkT [(1, .int .i64 a3), (2, .int .i64 a4), (3, .ptr 32 0), (7, .own 33 v45.length), (8, .int .i64 v31)], mkR [(32, .box 46 [.int .i64 a1, .sl (aB aU a2) a2.length]), (33, .row 46 2 (aB aL v45))], 64⟩ ∧ d7 v31 (ac a1 a2 a3 a4 n3) v45 = some r) ?_ ?_
      ·refine aJ ?_; refine AR hN fun K hK => ?_; obtain ⟨h32, h⟩ := gdI h; simp only [EV, seval, h32]; apply hK; clear hK K; refine AN hN ?_; refine aQ (fun S => ∃ (v42 : Bool) (v43 : Int) (v44 : List (LF)), S = ⟨mkT [(1, .int .i64 a3), (2, .int .i64 a4), (3, .ptr 32 0), (7, .own 33 v32.length), (8, .int .i64 v31), (9, .ptr 34 0), (10, .bool v42)], mkR [(32, .box 46 [.int .i64 a1, .sl (aB aU a2) a2.length]), (33, .row 46 2 (aB aL v32)), (34, .box 46 [.int .i64 v43, .own 35 v44.length]), (35, .row 55 1 (aB aU v44))], 64⟩ ∧ cY v31 v32 (ac a1 a2 a3 a4 n3) v42 v43 v44 = some r) ?_ ?_
       ·refine AN hN ?_; refine aJ ?_; refine aY (fun n S => ∃ (v38 : Bool) (v39 v40 : Int) (v41 : List (LF)), S = ⟨mkT [(1, .int .i64 a3), (2, .int .i64 a4), (3, .ptr 32 0), (7, .own 33 v32.length), (8, .int .i64 v31), (9, .ptr 34 0), (10, .bool v38), (11, .int .i64 v39)], mkR [(32, .box 46 [.int .i64 a1, .sl (aB aU a2) a2.length]), (33, .row 46 2 (aB aL v32)), (34, .box 46 [.int .i64 v40, .own 35 v41.length]), (35, .row 55 1 (aB aU v41))], 64⟩ ∧ bP a2 a3 v31 v32 (ac a1 a2 a3 a4 n3) n v38 v39 v40 v41 = some r) FU ?_ ?_ ?_
        ·exact AC ⟨_, _, _, _, rfl, h⟩ [(32, some 32), (33, some 33), (34, some 1216), (35, none)] [] hρ
        ·rintro S ⟨_, _, _, _, _, h⟩; rw [bP] at h; cases h
        ·rintro n4 S ⟨v38, v39, v40, v41, rfl, h⟩; rw [bP] at h; refine aH ?_; refine AN hN ?_; refine AB h (fun hc21 h => ?_) fun hc21 h => ?_
         ·refine aE (AK ?_); refine aH ?_; refine aJ ?_; refine AR hN fun K hK => ?_; obtain ⟨q9, h41, h⟩ := aA h; obtain ⟨⟨h42a, h42b⟩, h42c⟩ := aX fc h41; (try simp only [EV, seval] at h42c); obtain ⟨x18, h43, h⟩ := aA h; simp only [EV, seval, h42a, h42b, h42c]; refine ak (u9 h43) (by simp only [AL, EV, seval, h42a, h42b, h42c]) (aM rfl) (ap (by simp only [EV, seval])) ?_; simp only [EV, seval, h42a, h42b, h42c]; apply hK; clear hK K; refine bZ (aD (lt := [(1, .int .i64 a3), (2, .int .i64 a4), (3, .ptr 32 0), (7, .own 33 v32.length), (8, .int .i64 v31), (9, .ptr 34 0), (10, .bool v38), (11, .int .i64 v39), (12, .sl (aB aS x18.1) x18.1.length), (13, .bool x18.2)]) (lr := [(32, .box 46 [.int .i64 a1, .sl (aB aU a2) a2.length]), (33, .row 46 2 (aB aL v32)), (34, .box 46 [.int .i64 v40, .own 35 v41.length]), (35, .row 55 1 (aB aU v41))]) (b' := 2128) [(32, some 32), (33, some 33), (34, some 34), (35, some 35)] [1200] hρ (by kernel_rfl) ?_ ?_) ?_
          ·simp only [AL, EV, seval]
          ·simp only [AL, EV, seval]
          refine AR hN fun K hK => ?_; obtain ⟨h44, h⟩ := gdI h; (try simp only [EV, seval] at h44); simp only [EV, seval, h44]; apply hK; clear hK K; refine AS hN fun K hK => ?_; obtain ⟨x19, hv7, h⟩ := aA h; rcases aR hv7 with ⟨hc22, hv7⟩ | ⟨hc22, hv7⟩
          ·cases hv7; simp only [EV, seval, hc22]; refine hK _ _ _ (show AW _ _ _ _ _ from ?_); refine AS hN fun K hK => ?_; simp only [EV, seval]; exact hK _ _ _ (AC ⟨_, _, _, _, rfl, h⟩ [(32, some 32), (33, some 33), (34, some 34), (35, some 2192)] [] hρ)
          ·cases hv7; simp only [EV, seval, hc22]; refine hK _ _ _ (show AW _ _ _ _ _ from ?_); refine AS hN fun K hK => ?_; simp only [EV, seval]; exact hK _ _ _ (AC ⟨_, _, _, _, rfl, h⟩ [(32, some 32), (33, some 33), (34, some 34), (35, some 2192)] [] hρ)
         ·exact aZ (AC ⟨_, _, _, rfl, h⟩ [(32, some 32), (33, some 33), (34, some 34), (35, some 35)] [] hρ)
       ·rintro S ⟨v42, v43, v44, rfl, h⟩; unfold cY at h; refine AN hN ?_; refine AB h (fun hc23 h => ?_) fun hc23 h => ?_
        ·refine bZ (aD (lt := [(1, .int .i64 a3), (2, .int .i64 a4), (3, .ptr 32 0), (7, .own 33 v32.length), (8, .int .i64 v31), (9, .ptr 34 0)]) (lr := [(32, .box 46 [.int .i64 a1, .sl (aB aU a2) a2.length]), (33, .row 46 2 (aB aL v32)), (34, .box 46 [.int .i64 v43, .sl (aB aU v44) v44.length])]) (b' := 1104) [(32, some 32), (33, some 33), (34, some 34)] [35] hρ (by kernel_rfl) ?_ ?_) ?_
         ·simp only [AL, EV, seval]
         ·simp only [AL, EV, seval]
         refine AS hN fun K hK => ?_; obtain ⟨h45, h⟩ := gdI h; (try simp only [EV, seval] at h45); simp only [EV, seval, h45]; refine hK _ _ _ (show aN _ _ _ from aP ⟨_, rfl, h⟩ (aD [(32, some 32), (33, some 1152)] [] hρ (by kernel_rfl) ?_ ?_)) <;> simp only [AL, EV, seval, h45]
        ·refine aE (show aN _ _ _ from aP ⟨_, rfl, h⟩ (aD [(32, some 32), (33, some 33)] [] hρ (by kernel_rfl) ?_ ?_)) <;> simp only [AL, EV, seval]
      ·rintro S ⟨v45, rfl, h⟩; unfold d7 at h; refine AS hN fun K hK => ?_; simp only [EV, seval]; exact hK _ _ _ (AC ⟨_, _, rfl, h⟩ [(32, some 32), (33, some 33)] [] hρ)
     ·exact aZ (AC ⟨_, rfl, h⟩ [(32, some 33)] [] hρ)
   ·rintro S ⟨v46, rfl, h⟩; unfold iE at h; refine AN hN ?_; injection h with h; subst h; exact AX (b' := 64) [(6, .own 32 v46.length)] [(32, .row 46 2 (aB aL v46))] [(32, some 32)] [] hρ (EQ [32])
def gS (v6 : Int) (kl1 : Int → (LZ) → Option (LZ × Bool)) (v8 : LZ) : Option (LZ × Bool) :=
  kl1 (IntKind.wrap .i64 (v6 + 1)) v8
def lP (v9 : LZ) : Option (LZ × Bool) :=
  some (v9, true)
def dD (a1 : LZ) (a2 a3 a4 a5 a6 a7 a8 a9 : Int) : Nat → Int → (LZ) → Option (LZ × Bool)
  | 0, _, _ => none
  | n1 + 1, v6, v7 =>
  br (decide (v6 < ((a1.length : Int)))) (br (a2 == 1) (bO (aj a1 v6) fun q7 => bO (nE q7.1 q7.2 a2 a3 a4 a5 a6 a7 a8 a9) fun x5 => br (!x5.2.2) (some ([], false)) (gd (decide (v7.length + ([(x5.1, x5.2.1)]).length ≤ 16777216)) (gS v6 (dD a1 a2 a3 a4 a5 a6 a7 a8 a9 n1) (v7 ++ ([(x5.1, x5.2.1)]))))) (br (a2 == 2) (bO (aj a1 v6) fun q8 => bO (dv q8.1 q8.2 a7 a8) fun x6 => gd (decide (v7.length + x6.length ≤ 16777216)) (gS v6 (dD a1 a2 a3 a4 a5 a6 a7 a8 a9 n1) (v7 ++ x6))) (bO (aj a1 v6) fun q9 => gd (decide (v7.length + ([(q9.1, q9.2)]).length ≤ 16777216)) (gS v6 (dD a1 a2 a3 a4 a5 a6 a7 a8 a9 n1) (v7 ++ ([(q9.1, q9.2)])))))) (lP v7)
def ou (a1 : LZ) (a2 a3 a4 a5 a6 a7 a8 a9 : Int) : Option (LZ × Bool) :=
  dD a1 a2 a3 a4 a5 a6 a7 a8 a9 FU 0 ([] : LZ)
theorem uB {a1 : LZ} {a2 a3 a4 a5 a6 a7 a8 a9 : Int} {r : LZ × Bool} (h : ou a1 a2 a3 a4 a5 a6 a7 a8 a9 = some r) :
    aV Tryz.prog 36 [.sl (aB aL a1) a1.length, .agg [.int .i64 a2, .int .i64 a3, .int .i64 a4, .int .i64 a5, .int .i64 a6, .int .i64 a7, .int .i64 a8, .int .i64 a9]] [] (.tup [.own 0 r.1.length, .bool r.2]) [.row 46 2 (aB aL r.1)] := by
 unfold ou at h; refine SO Tryz.func36 rfl Tryz.ntmps36 fun C hN hρ => ?_; simp only [st0, aW, Nat.zero_add, Nat.reduceAdd]; refine AN hN ?_; refine AN hN ?_; refine aQ (fun S => ∃ (v9 : LZ), S = ⟨mkT [(6, .own 32 v9.length)], mkR [(32, .row 46 2 (aB aL v9))], 64⟩ ∧ lP v9 = some r) ?_ ?_
 ·refine AN hN ?_; refine aJ ?_; refine aY (fun n S => ∃ (v6 : Int) (v7 : LZ), S = ⟨mkT [(0, .sl (aB aL a1) a1.length), (3, .ptr 32 0), (6, .own 33 v7.length), (7, .int .i64 v6)], mkR [(32, .box 75 [.int .i64 a2, .int .i64 a3, .int .i64 a4, .int .i64 a5, .int .i64 a6, .int .i64 a7, .int .i64 a8, .int .i64 a9]), (33, .row 46 2 (aB aL v7))], 64⟩ ∧ dD a1 a2 a3 a4 a5 a6 a7 a8 a9 n v6 v7 = some r) FU ?_ ?_ ?_
  ·exact AC ⟨_, _, rfl, h⟩ [(32, some 64), (33, some 1088)] [] hρ
  ·rintro S ⟨_, _, _, h⟩; rw [dD] at h; cases h
  ·rintro n1 S ⟨v6, v7, rfl, h⟩; rw [dD] at h; refine aH ?_; refine AN hN ?_; refine AB h (fun hc9 h => ?_) fun hc9 h => ?_
   ·refine aE (AK ?_); refine aQ (fun S => ∃ (v8 : LZ), S = ⟨mkT [(0, .sl (aB aL a1) a1.length), (3, .ptr 32 0), (6, .own 33 v8.length), (7, .int .i64 v6)], mkR [(32, .box 75 [.int .i64 a2, .int .i64 a3, .int .i64 a4, .int .i64 a5, .int .i64 a6, .int .i64 a7, .int .i64 a8, .int .i64 a9]), (33, .row 46 2 (aB aL v8))], 64⟩ ∧ gS v6 (dD a1 a2 a3 a4 a5 a6 a7 a8 a9 n1) v8 = some r) ?_ ?_
    ·refine aJ ?_; refine AN hN ?_; refine aJ ?_; refine AN hN ?_; refine AB h (fun hc10 h => ?_) fun hc10 h => ?_
     ·refine AR hN fun K hK => ?_; obtain ⟨q7, h23, h⟩ := aA h; obtain ⟨⟨h24a, h24b⟩, h24c⟩ := aX dU h23; (try simp only [EV, seval] at h24c); obtain ⟨x5, h25, h⟩ := aA h; simp only [EV, seval, h24a, h24b, h24c]; refine ak (uA h25) (by simp only [AL, EV, seval, h24a, h24b, h24c]) (aM rfl) (ab rfl) ?_; simp only [EV, seval, h24a, h24b, h24c]; apply hK; clear hK K; refine aH ?_; refine AN hN ?_; refine AB h (fun hc11 h => ?_) fun hc11 h => ?_
      ·refine AN hN ?_; injection h with h; subst h; exact AX (b' := 64) [(4, .own 32 0), (5, .bool false)] [(32, .row 46 2 (aB aL ([])))] [(32, some 5184)] [] hρ (EQ [32])
      ·refine aE (AK ?_); refine AS hN fun K hK => ?_; obtain ⟨h26, h⟩ := gdI h; (try simp only [EV, seval] at h26); simp only [EV, seval, h26]; refine hK _ _ _ (show aN _ _ _ from aP ⟨_, rfl, h⟩ (aD [(32, some 32), (33, some 5232)] [] hρ (by kernel_rfl) ?_ ?_)) <;> simp only [AL, EV, seval, h26]
     ·refine AN hN ?_; refine AB h (fun hc12 h => ?_) fun hc12 h => ?_
      ·refine AS hN fun K hK => ?_; obtain ⟨q8, h27, h⟩ := aA h; obtain ⟨⟨h28a, h28b⟩, h28c⟩ := aX dU h27; (try simp only [EV, seval] at h28c); obtain ⟨x6, h29, h⟩ := aA h; simp only [EV, seval, h28a, h28b, h28c]; refine ak (po h29) (by simp only [AL, EV, seval, h28a, h28b, h28c]) (aM rfl) (ap (by simp only [EV, seval])) ?_; obtain ⟨h30, h⟩ := gdI h; (try simp only [EV, seval] at h30); simp only [EV, seval, h28a, h28b, h28c, h30]; refine hK _ _ _ (show aN _ _ _ from aP ⟨_, rfl, h⟩ (aD [(32, some 32), (33, some 4320)] [] hρ (by kernel_rfl) ?_ ?_)) <;> simp only [AL, EV, seval, h28a, h28b, h28c, h30]
      ·refine AS hN fun K hK => ?_; obtain ⟨q9, h31, h⟩ := aA h; obtain ⟨⟨h32a, h32b⟩, h32c⟩ := aX dU h31; (try simp only [EV, seval] at h32c); obtain ⟨h33, h⟩ := gdI h; (try simp only [EV, seval] at h33); simp only [EV, seval, h32a, h32b, h32c, h33]; refine hK _ _ _ (show aN _ _ _ from aP ⟨_, rfl, h⟩ (aD [(32, some 32), (33, some 4256)] [] hρ (by kernel_rfl) ?_ ?_)) <;> simp only [AL, EV, seval, h32a, h32b, h32c, h33]
    ·rintro S ⟨v8, rfl, h⟩; unfold gS at h; refine AS hN fun K hK => ?_; simp only [EV, seval]; exact hK _ _ _ (AC ⟨_, _, rfl, h⟩ [(32, some 32), (33, some 33)] [] hρ)
   ·exact aZ (AC ⟨_, rfl, h⟩ [(32, some 33)] [] hρ)
 ·rintro S ⟨v9, rfl, h⟩; unfold lP at h; refine AN hN ?_; injection h with h; subst h; exact AX (b' := 64) [(4, .own 32 v9.length), (5, .bool true)] [(32, .row 46 2 (aB aL v9))] [(32, some 32)] [] hρ (EQ [32])
def gm (v9 : LZ) : Option (LZ × Bool) :=
  some (v9, true)
def eU (a4 : LO) (v6 : Int) (v7 : LZ) (kl1 : Int → (LZ) → Option (LZ × Bool)) (v8 : Bool) : Option (LZ × Bool) :=
  br v8 (bO (aj a4 v6) fun q3 => bO (ou v7 q3.1 q3.2.1 q3.2.2.1 q3.2.2.2.1 q3.2.2.2.2.1 q3.2.2.2.2.2.1 q3.2.2.2.2.2.2.1 q3.2.2.2.2.2.2.2) fun x8 => br (!x8.2) (some ([], false)) (kl1 (IntKind.wrap .i64 (v6 + 1)) x8.1)) (gm v7)
def bU (a4 : LO) (a5 : Int) : Nat → Int → (LZ) → Option (LZ × Bool)
  | 0, _, _ => none
  | n1 + 1, v6, v7 =>
  bO (br (decide (v6 < ((a4.length : Int)))) (some (decide (v6 < a5))) (some false)) fun x7 => eU a4 v6 v7 (bU a4 a5 n1) x7
def gT (a1 a2 a3 : Int) (a4 : LO) (a5 : Int) : Option (LZ × Bool) :=
  bO (db a1 a2 a3 a4) fun x1 => br (!x1) (some ([], false)) (bO (fW a1 a2) fun x2 => bU a4 a5 FU 0 ([(x2.1, x2.2)]))
theorem pA {a1 a2 a3 : Int} {a4 : LO} {a5 : Int} {r : LZ × Bool} (h : gT a1 a2 a3 a4 a5 = some r) :
    aV Tryz.prog 20 [.agg [.int .i64 a1, .int .i64 a2, .int .i64 a3, .sl (aB aK a4) a4.length], .int .i64 a5] [] (.tup [.own 0 r.1.length, .bool r.2]) [.row 46 2 (aB aL r.1)] := by
 unfold gT at h; refine SO Tryz.func20 rfl Tryz.ntmps20 fun C hN hρ => ?_; simp only [st0, aW, Nat.zero_add, Nat.reduceAdd]; refine AN hN ?_; refine aH ?_; obtain ⟨x1, h1, h⟩ := aA h; refine AP hN (lB h1) ?_; refine AB h (fun hc1 h => ?_) fun hc1 h => ?_
 ·refine AN hN ?_; injection h with h; subst h; exact AX (b' := 64) [(4, .own 32 0), (5, .bool false)] [(32, .row 46 2 (aB aL ([])))] [(32, some 2112)] [] hρ (EQ [32])
 ·refine aE (AK ?_); refine AR hN fun K hK => ?_; obtain ⟨x2, h2, h⟩ := aA h; simp only [EV, seval]; refine ak (aV.can (ret2 := .agg [.int .i64 x2.1, .sl (aB aU x2.2) x2.2.length]) (mem2 := []) (pn h2) [] [0] (by kernel_rfl) (by simp only [AL, EV, seval]) (by simp only [AL, EV, seval])) (by simp only [AL, EV, seval]) (aM rfl) (ab rfl) ?_; simp only [EV, seval]; apply hK; clear hK K; refine aQ (fun S => ∃ (v9 : LZ), S = ⟨mkT [(6, .own 32 v9.length)], mkR [(32, .row 46 2 (aB aL v9))], 64⟩ ∧ gm v9 = some r) ?_ ?_
  ·refine AN hN ?_; refine aJ ?_; refine aY (fun n S => ∃ (v6 : Int) (v7 : LZ), S = ⟨mkT [(1, .int .i64 a5), (2, .ptr 32 0), (6, .own 33 v7.length), (7, .int .i64 v6)], mkR [(32, .box 26 [.int .i64 a1, .int .i64 a2, .int .i64 a3, .sl (aB aK a4) a4.length]), (33, .row 46 2 (aB aL v7))], 64⟩ ∧ bU a4 a5 n v6 v7 = some r) FU ?_ ?_ ?_
   ·exact AC ⟨_, _, rfl, h⟩ [(32, some 64), (33, some 2192)] [] hρ
   ·rintro S ⟨_, _, _, h⟩; rw [bU] at h; cases h
   ·rintro n1 S ⟨v6, v7, rfl, h⟩; rw [bU] at h; refine aH ?_; refine AJ (fun S => ∃ (v8 : Bool), S = ⟨mkT [(1, .int .i64 a5), (2, .ptr 32 0), (6, .own 33 v7.length), (7, .int .i64 v6), (29, .bool v8)], mkR [(32, .box 26 [.int .i64 a1, .int .i64 a2, .int .i64 a3, .sl (aB aK a4) a4.length]), (33, .row 46 2 (aB aL v7))], 64⟩ ∧ eU a4 v6 v7 (bU a4 a5 n1) v8 = some r) hN ?_ ?_
    ·intro K hK; obtain ⟨x7, hv3, h⟩ := aA h; rcases aR hv3 with ⟨hc8, hv3⟩ | ⟨hc8, hv3⟩
     ·cases hv3; simp only [EV, seval, hc8]; refine hK _ _ _ (show aN _ _ _ from aP ⟨_, rfl, h⟩ (aD [(32, some 32), (33, some 33)] [] hρ (by kernel_rfl) ?_ ?_)) <;> simp only [AL, EV, seval, hc8]
     ·cases hv3; simp only [EV, seval, hc8]; refine hK _ _ _ (show aN _ _ _ from aP ⟨_, rfl, h⟩ (aD [(32, some 32), (33, some 33)] [] hρ (by kernel_rfl) ?_ ?_)) <;> simp only [AL, EV, seval, hc8]
    ·rintro S ⟨v8, rfl, h⟩; unfold eU at h; refine AB h (fun hc9 h => ?_) fun hc9 h => ?_
     ·refine aE (AK ?_); refine aH ?_; refine aJ ?_; refine bZ (aD (lt := [(1, .int .i64 a5), (2, .ptr 32 0), (6, .sl (aB aL v7) v7.length), (7, .int .i64 v6)]) (lr := [(32, .box 26 [.int .i64 a1, .int .i64 a2, .int .i64 a3, .sl (aB aK a4) a4.length])]) (b' := 80) [(32, some 32)] [33] hρ (by kernel_rfl) ?_ ?_) ?_
      ·simp only [AL, EV, seval]
      ·simp only [AL, EV, seval]
      refine AR hN fun K hK => ?_; obtain ⟨q3, h9, h⟩ := aA h; obtain ⟨⟨h10a, h10b⟩, h10c⟩ := aX f7 h9; (try simp only [EV, seval] at h10c); obtain ⟨x8, h11, h⟩ := aA h; simp only [EV, seval, h10a, h10b, h10c]; refine ak (uB h11) (by simp only [AL, EV, seval, h10a, h10b, h10c]) (aM rfl) (ap (by simp only [EV, seval])) ?_; simp only [EV, seval, h10a, h10b, h10c]; apply hK; clear hK K; refine aH ?_; refine AN hN ?_; refine AB h (fun hc10 h => ?_) fun hc10 h => ?_
      ·refine AN hN ?_; injection h with h; subst h; exact AX (b' := 64) [(4, .own 32 0), (5, .bool false)] [(32, .row 46 2 (aB aL ([])))] [(32, some 2128)] [] hρ (EQ [32])
      ·refine aE (AK ?_); refine AS hN fun K hK => ?_; simp only [EV, seval]; refine hK _ _ _ (show AW _ _ _ _ _ from ?_); refine AS hN fun K hK => ?_; simp only [EV, seval]; exact hK _ _ _ (AC ⟨_, _, rfl, h⟩ [(32, some 32), (33, some 176)] [] hρ)
     ·exact aZ (AC ⟨_, rfl, h⟩ [(32, some 33)] [] hρ)
  ·rintro S ⟨v9, rfl, h⟩; unfold gm at h; refine AN hN ?_; injection h with h; subst h; exact AX (b' := 64) [(4, .own 32 v9.length), (5, .bool true)] [(32, .row 46 2 (aB aL v9))] [(32, some 32)] [] hρ (EQ [32])
def m7 (a1 a2 a3 : Int) (a4 : LO) : Option (LZ × Bool) :=
  bO (gT a1 a2 a3 a4 ((a4.length : Int))) fun x1 => some (x1.1, x1.2)
theorem so {a1 a2 a3 : Int} {a4 : LO} {r : LZ × Bool} (h : m7 a1 a2 a3 a4 = some r) :
    aV Tryz.prog 8 [.agg [.int .i64 a1, .int .i64 a2, .int .i64 a3, .sl (aB aK a4) a4.length]] [] (.tup [.own 0 r.1.length, .bool r.2]) [.row 46 2 (aB aL r.1)] := by
 unfold m7 at h; refine SO Tryz.func8 rfl Tryz.ntmps8 fun C hN hρ => ?_; simp only [st0, aW, Nat.zero_add, Nat.reduceAdd]; refine AN hN ?_; refine AR hN fun K hK => ?_; obtain ⟨x1, h1, h⟩ := aA h; simp only [EV, seval]; refine ak (pA h1) (by simp only [AL, EV, seval]) (aM rfl) (ap (by simp only [EV, seval])) ?_; simp only [EV, seval]; apply hK; clear hK K; injection h with h; subst h; exact AX (b' := 64) [(2, .own 32 x1.1.length), (3, .bool x1.2)] [(32, .row 46 2 (aB aL x1.1))] [(32, some 1152)] [] hρ (EQ [32])
def kw : Option Bool :=
  some true
def cH (a1 : LF) (a2 : LF) : Nat → Int → Option Bool
  | 0, _ => none
  | n1 + 1, v2 =>
  br (decide (v2 < ((a1.length : Int)))) (bO (aj a1 v2) fun q5 => bO (aj a2 v2) fun q6 => br (!((q5.1 == q6.1) && ((q5.2.1 == q6.2.1) && ((q5.2.2.1 == q6.2.2.1) && ((q5.2.2.2.1 == q6.2.2.2.1) && (q5.2.2.2.2 == q6.2.2.2.2)))))) (some false) ((cH a1 a2 n1) (IntKind.wrap .i64 (v2 + 1)))) (kw)
def jL (a1 : LF) (a2 : LF) : Option Bool :=
  br (((a1.length : Int)) != ((a2.length : Int))) (some false) (cH a1 a2 FU 0)
theorem rQ {a1 : LF} {a2 : LF} {r : Bool} (h : jL a1 a2 = some r) :
    aV Tryz.prog 37 [.sl (aB aS a1) a1.length, .sl (aB aS a2) a2.length] [] (.bool r) [] := by
 unfold jL at h; refine SO Tryz.func37 rfl Tryz.ntmps37 fun C hN hρ => ?_; simp only [st0, aW, Nat.zero_add, Nat.reduceAdd]; refine AN hN ?_; refine aH ?_; refine AN hN ?_; refine AB h (fun hc1 h => ?_) fun hc1 h => ?_
 ·refine AN hN ?_; injection h with h; subst h; exact AX (b' := 64) [(4, .bool false)] [] [] [] hρ (EQ [])
 ·refine aE (AK ?_); refine aQ (fun S => S = ⟨mkT [], mkR [], 64⟩ ∧ kw = some r) ?_ ?_
  ·refine AN hN ?_; refine aJ ?_; refine aY (fun n S => ∃ (v2 : Int), S = ⟨mkT [(0, .sl (aB aS a1) a1.length), (1, .sl (aB aS a2) a2.length), (5, .int .i64 v2)], mkR [], 64⟩ ∧ cH a1 a2 n v2 = some r) FU ?_ ?_ ?_
   ·exact AC ⟨_, rfl, h⟩ [] [] hρ
   ·rintro S ⟨_, _, h⟩; rw [cH] at h; cases h
   ·rintro n1 S ⟨v2, rfl, h⟩; rw [cH] at h; refine aH ?_; refine AN hN ?_; refine AB h (fun hc6 h => ?_) fun hc6 h => ?_
    ·refine aE (AK ?_); refine aH ?_; refine aJ ?_; refine AR hN fun K hK => ?_; obtain ⟨q5, h9, h⟩ := aA h; obtain ⟨⟨h10a, h10b⟩, h10c⟩ := aX cS h9; (try simp only [EV, seval] at h10c); obtain ⟨q6, h11, h⟩ := aA h; obtain ⟨⟨h12a, h12b⟩, h12c⟩ := aX cS h11; (try simp only [EV, seval] at h12c); simp only [EV, seval, h10a, h10b, h10c, h12a, h12b, h12c]; apply hK; clear hK K; refine ae (a := .bool (!((q5.1 == q6.1) && ((q5.2.1 == q6.2.1) && ((q5.2.2.1 == q6.2.2.1) && ((q5.2.2.2.1 == q6.2.2.2.1) && (q5.2.2.2.2 == q6.2.2.2.2))))))) (by simp only [EV, seval, h10a, h10b, h10c, h12a, h12b, h12c]) (brK h (fun hc7 h => ?_) (fun hc7 h => ?_))
     ·refine AN hN ?_; injection h with h; subst h; exact AX (b' := 64) [(4, .bool false)] [] [] [] hρ (EQ [])
     ·refine aE (AK ?_); refine AS hN fun K hK => ?_; simp only [EV, seval]; exact hK _ _ _ (AC ⟨_, rfl, h⟩ [] [] hρ)
    ·exact aZ (AC ⟨rfl, h⟩ [] [] hρ)
  ·rintro S ⟨rfl, h⟩; unfold kw at h; refine AN hN ?_; injection h with h; subst h; exact AX (b' := 64) [(4, .bool true)] [] [] [] hρ (EQ [])
def js : Option Bool :=
  some true
def d8 (a1 : List (LF)) (a2 : List (LF)) : Nat → Int → Option Bool
  | 0, _ => none
  | n1 + 1, v2 =>
  br (decide (v2 < ((a1.length : Int)))) (bO (aj a1 v2) fun q5 => bO (aj a2 v2) fun q6 => bO (jL q5 q6) fun x3 => br (!x3) (some false) ((d8 a1 a2 n1) (IntKind.wrap .i64 (v2 + 1)))) (js)
def gu (a1 : List (LF)) (a2 : List (LF)) : Option Bool :=
  br (((a1.length : Int)) != ((a2.length : Int))) (some false) (d8 a1 a2 FU 0)
theorem qo {a1 : List (LF)} {a2 : List (LF)} {r : Bool} (h : gu a1 a2 = some r) :
    aV Tryz.prog 21 [.sl (aB aU a1) a1.length, .sl (aB aU a2) a2.length] [] (.bool r) [] := by
 unfold gu at h; refine SO Tryz.func21 rfl Tryz.ntmps21 fun C hN hρ => ?_; simp only [st0, aW, Nat.zero_add, Nat.reduceAdd]; refine AN hN ?_; refine aH ?_; refine AN hN ?_; refine AB h (fun hc1 h => ?_) fun hc1 h => ?_
 ·refine AN hN ?_; injection h with h; subst h; exact AX (b' := 64) [(4, .bool false)] [] [] [] hρ (EQ [])
 ·refine aE (AK ?_); refine aQ (fun S => S = ⟨mkT [], mkR [], 64⟩ ∧ js = some r) ?_ ?_
  ·refine AN hN ?_; refine aJ ?_; refine aY (fun n S => ∃ (v2 : Int), S = ⟨mkT [(0, .sl (aB aU a1) a1.length), (1, .sl (aB aU a2) a2.length), (5, .int .i64 v2)], mkR [], 64⟩ ∧ d8 a1 a2 n v2 = some r) FU ?_ ?_ ?_
   ·exact AC ⟨_, rfl, h⟩ [] [] hρ
   ·rintro S ⟨_, _, h⟩; rw [d8] at h; cases h
   ·rintro n1 S ⟨v2, rfl, h⟩; rw [d8] at h; refine aH ?_; refine AN hN ?_; refine AB h (fun hc6 h => ?_) fun hc6 h => ?_
    ·refine aE (AK ?_); refine aH ?_; refine aJ ?_; refine AR hN fun K hK => ?_; obtain ⟨q5, h11, h⟩ := aA h; obtain ⟨⟨h12a, h12b⟩, h12c⟩ := aX fc h11; (try simp only [EV, seval] at h12c); obtain ⟨q6, h13, h⟩ := aA h; obtain ⟨⟨h14a, h14b⟩, h14c⟩ := aX fc h13; (try simp only [EV, seval] at h14c); obtain ⟨x3, h15, h⟩ := aA h; simp only [EV, seval, h12a, h12b, h12c, h14a, h14b, h14c]; refine ak (rQ h15) (by simp only [AL, EV, seval, h12a, h12b, h12c, h14a, h14b, h14c]) (aM rfl) (ab rfl) ?_; simp only [EV, seval, h12a, h12b, h12c, h14a, h14b, h14c]; apply hK; clear hK K; refine ae (a := .bool (!x3)) (by simp only [EV, seval, h12a, h12b, h12c, h14a, h14b, h14c]) (brK h (fun hc7 h => ?_) (fun hc7 h => ?_))
     ·refine AN hN ?_; injection h with h; subst h; exact AX (b' := 64) [(4, .bool false)] [] [] [] hρ (EQ [])
     ·refine aE (AK ?_); refine AS hN fun K hK => ?_; simp only [EV, seval]; exact hK _ _ _ (AC ⟨_, rfl, h⟩ [] [] hρ)
    ·exact aZ (AC ⟨rfl, h⟩ [] [] hρ)
  ·rintro S ⟨rfl, h⟩; unfold js at h; refine AN hN ?_; injection h with h; subst h; exact AX (b' := 64) [(4, .bool true)] [] [] [] hρ (EQ [])
def fI (v4 : Int) (kl1 : Int → Option Bool) (v5 : Bool) : Option Bool :=
  br v5 (some false) (kl1 (IntKind.wrap .i64 (v4 + 1)))
def iF : Option Bool :=
  some true
def cC (a1 : LZ) (a2 : LZ) : Nat → Int → Option Bool
  | 0, _ => none
  | n1 + 1, v4 =>
  br (decide (v4 < ((a1.length : Int)))) (bO (aj a1 v4) fun q5 => bO (aj a2 v4) fun q6 => bO (br (q5.1 != q6.1) (some true) (bO (gu q5.2 q6.2) fun x5 => some (!x5))) fun x6 => fI v4 (cC a1 a2 n1) x6) (iF)
def fX (a1 : LZ) (a2 : LZ) : Option Bool :=
  br (((a1.length : Int)) != ((a2.length : Int))) (some false) (cC a1 a2 FU 0)
theorem pq {a1 : LZ} {a2 : LZ} {r : Bool} (h : fX a1 a2 = some r) :
    aV Tryz.prog 9 [.sl (aB aL a1) a1.length, .sl (aB aL a2) a2.length] [] (.bool r) [] := by
 unfold fX at h; refine SO Tryz.func9 rfl Tryz.ntmps9 fun C hN hρ => ?_; simp only [st0, aW, Nat.zero_add, Nat.reduceAdd]; refine AN hN ?_; refine aH ?_; refine AN hN ?_; refine AB h (fun hc1 h => ?_) fun hc1 h => ?_
 ·refine AN hN ?_; injection h with h; subst h; exact AX (b' := 64) [(4, .bool false)] [] [] [] hρ (EQ [])
 ·refine aE (AK ?_); refine aQ (fun S => S = ⟨mkT [], mkR [], 64⟩ ∧ iF = some r) ?_ ?_
  ·refine AN hN ?_; refine aJ ?_; refine aY (fun n S => ∃ (v4 : Int), S = ⟨mkT [(0, .sl (aB aL a1) a1.length), (1, .sl (aB aL a2) a2.length), (5, .int .i64 v4)], mkR [], 64⟩ ∧ cC a1 a2 n v4 = some r) FU ?_ ?_ ?_
   ·exact AC ⟨_, rfl, h⟩ [] [] hρ
   ·rintro S ⟨_, _, h⟩; rw [cC] at h; cases h
   ·rintro n1 S ⟨v4, rfl, h⟩; rw [cC] at h; refine aH ?_; refine AN hN ?_; refine AB h (fun hc8 h => ?_) fun hc8 h => ?_
    ·refine aE (AK ?_); refine aH ?_; refine aJ ?_; refine AJ (fun S => ∃ (v5 : Bool), S = ⟨mkT [(0, .sl (aB aL a1) a1.length), (1, .sl (aB aL a2) a2.length), (5, .int .i64 v4), (41, .bool v5)], mkR [], 64⟩ ∧ fI v4 (cC a1 a2 n1) v5 = some r) hN ?_ ?_
     ·intro K hK; obtain ⟨q5, h11, h⟩ := aA h; obtain ⟨⟨h12a, h12b⟩, h12c⟩ := aX dU h11; (try simp only [EV, seval] at h12c); obtain ⟨q6, h13, h⟩ := aA h; obtain ⟨⟨h14a, h14b⟩, h14c⟩ := aX dU h13; (try simp only [EV, seval] at h14c); obtain ⟨x6, hv3, h⟩ := aA h; rcases aR hv3 with ⟨hc9, hv3⟩ | ⟨hc9, hv3⟩
      ·cases hv3; simp only [EV, seval, h12a, h12b, h12c, h14a, h14b, h14c, hc9]; refine hK _ _ _ (show aN _ _ _ from aP ⟨_, rfl, h⟩ (aD [] [] hρ (by kernel_rfl) ?_ ?_)) <;> simp only [AL, EV, seval, h12a, h12b, h12c, h14a, h14b, h14c, hc9]
      ·obtain ⟨x7, h16, hv3⟩ := aA hv3; simp only [EV, seval, h12a, h12b, h12c, h14a, h14b, h14c, hc9]; refine ak (qo h16) (by simp only [AL, EV, seval, h12a, h12b, h12c, h14a, h14b, h14c, hc9]) (aM rfl) (ab rfl) ?_; cases hv3; simp only [EV, seval, h12a, h12b, h12c, h14a, h14b, h14c, hc9]; refine hK _ _ _ (show aN _ _ _ from aP ⟨_, rfl, h⟩ (aD [] [] hρ (by kernel_rfl) ?_ ?_)) <;> simp only [AL, EV, seval, h12a, h12b, h12c, h14a, h14b, h14c, hc9]
     ·rintro S ⟨v5, rfl, h⟩; unfold fI at h; refine AB h (fun hc10 h => ?_) fun hc10 h => ?_
      ·refine AN hN ?_; injection h with h; subst h; exact AX (b' := 64) [(4, .bool false)] [] [] [] hρ (EQ [])
      ·refine aE (AK ?_); refine AS hN fun K hK => ?_; simp only [EV, seval]; exact hK _ _ _ (AC ⟨_, rfl, h⟩ [] [] hρ)
    ·exact aZ (AC ⟨rfl, h⟩ [] [] hρ)
  ·rintro S ⟨rfl, h⟩; unfold iF at h; refine AN hN ?_; injection h with h; subst h; exact AX (b' := 64) [(4, .bool true)] [] [] [] hρ (EQ [])
def fJ : Option Bool :=
  some true
def ay (a1 : LF) (a2 : LF) : Nat → Int → Int → Option Bool
  | 0, _, _ => none
  | n1 + 1, v4, v5 =>
  br (decide (v5 < v4)) (bO (aj a1 v5) fun q5 => bO (aj a2 v5) fun q6 => br (!((q5.1 == q6.1) && ((q5.2.1 == q6.2.1) && ((q5.2.2.1 == q6.2.2.1) && ((q5.2.2.2.1 == q6.2.2.2.1) && (q5.2.2.2.2 == q6.2.2.2.2)))))) (some false) ((ay a1 a2 n1) v4 (IntKind.wrap .i64 (v5 + 1)))) (fJ)
def dP (a1 : LF) (a2 : LF) : Option Bool :=
  br (((a1.length : Int)) != ((a2.length : Int))) (some false) (ay a1 a2 FU ((a1.length : Int)) 0)
theorem ng {a1 : LF} {a2 : LF} {r : Bool} (h : dP a1 a2 = some r) :
    aV Tryz.prog 38 [.sl (aB aS a1) a1.length, .sl (aB aS a2) a2.length] [] (.bool r) [] := by
 unfold dP at h; refine SO Tryz.func38 rfl Tryz.ntmps38 fun C hN hρ => ?_; simp only [st0, aW, Nat.zero_add, Nat.reduceAdd]; refine AN hN ?_; refine aH ?_; refine AN hN ?_; refine AB h (fun hc1 h => ?_) fun hc1 h => ?_
 ·refine AN hN ?_; injection h with h; subst h; exact AX (b' := 64) [(4, .bool false)] [] [] [] hρ (EQ [])
 ·refine aE (AK ?_); refine aQ (fun S => S = ⟨mkT [], mkR [], 64⟩ ∧ fJ = some r) ?_ ?_
  ·refine AN hN ?_; refine aJ ?_; refine aY (fun n S => ∃ (v4 v5 : Int), S = ⟨mkT [(0, .sl (aB aS a1) a1.length), (1, .sl (aB aS a2) a2.length), (12, .int .i64 v4), (13, .int .i64 v5)], mkR [], 64⟩ ∧ ay a1 a2 n v4 v5 = some r) FU ?_ ?_ ?_
   ·exact AC ⟨_, _, rfl, h⟩ [] [] hρ
   ·rintro S ⟨_, _, _, h⟩; rw [ay] at h; cases h
   ·rintro n1 S ⟨v4, v5, rfl, h⟩; rw [ay] at h; refine AN hN ?_; refine aH ?_; refine AB h (fun hc6 h => ?_) fun hc6 h => ?_
    ·refine aE (AK ?_); refine aH ?_; refine aJ ?_; refine AN hN ?_; refine AR hN fun K hK => ?_; obtain ⟨q5, h9, h⟩ := aA h; obtain ⟨⟨h10a, h10b⟩, h10c⟩ := aX cS h9; (try simp only [EV, seval] at h10c); obtain ⟨q6, h11, h⟩ := aA h; obtain ⟨⟨h12a, h12b⟩, h12c⟩ := aX cS h11; (try simp only [EV, seval] at h12c); simp only [EV, seval, h10a, h10b, h10c, h12a, h12b, h12c]; apply hK; clear hK K; refine ae (a := .bool (!((q5.1 == q6.1) && ((q5.2.1 == q6.2.1) && ((q5.2.2.1 == q6.2.2.1) && ((q5.2.2.2.1 == q6.2.2.2.1) && (q5.2.2.2.2 == q6.2.2.2.2))))))) (by simp only [EV, seval, h10a, h10b, h10c, h12a, h12b, h12c]) (brK h (fun hc7 h => ?_) (fun hc7 h => ?_))
     ·refine AN hN ?_; injection h with h; subst h; exact AX (b' := 64) [(4, .bool false)] [] [] [] hρ (EQ [])
     ·refine aE (AK ?_); refine AS hN fun K hK => ?_; simp only [EV, seval]; exact hK _ _ _ (AC ⟨_, _, rfl, h⟩ [] [] hρ)
    ·exact aZ (AC ⟨rfl, h⟩ [] [] hρ)
  ·rintro S ⟨rfl, h⟩; unfold fJ at h; refine AN hN ?_; injection h with h; subst h; exact AX (b' := 64) [(4, .bool true)] [] [] [] hρ (EQ [])
def jt : Option Bool :=
  some true
def d9 (a1 : List (LF)) (a2 : List (LF)) : Nat → Int → Int → Option Bool
  | 0, _, _ => none
  | n1 + 1, v4, v5 =>
  br (decide (v5 < v4)) (bO (aj a1 v5) fun q5 => bO (aj a2 v5) fun q6 => bO (dP q5 q6) fun x3 => br (!x3) (some false) ((d9 a1 a2 n1) v4 (IntKind.wrap .i64 (v5 + 1)))) (jt)
def gv (a1 : List (LF)) (a2 : List (LF)) : Option Bool :=
  br (((a1.length : Int)) != ((a2.length : Int))) (some false) (d9 a1 a2 FU ((a1.length : Int)) 0)
theorem qp {a1 : List (LF)} {a2 : List (LF)} {r : Bool} (h : gv a1 a2 = some r) :
    aV Tryz.prog 22 [.sl (aB aU a1) a1.length, .sl (aB aU a2) a2.length] [] (.bool r) [] := by
 unfold gv at h; refine SO Tryz.func22 rfl Tryz.ntmps22 fun C hN hρ => ?_; simp only [st0, aW, Nat.zero_add, Nat.reduceAdd]; refine AN hN ?_; refine aH ?_; refine AN hN ?_; refine AB h (fun hc1 h => ?_) fun hc1 h => ?_
 ·refine AN hN ?_; injection h with h; subst h; exact AX (b' := 64) [(4, .bool false)] [] [] [] hρ (EQ [])
 ·refine aE (AK ?_); refine aQ (fun S => S = ⟨mkT [], mkR [], 64⟩ ∧ jt = some r) ?_ ?_
  ·refine AN hN ?_; refine aJ ?_; refine aY (fun n S => ∃ (v4 v5 : Int), S = ⟨mkT [(0, .sl (aB aU a1) a1.length), (1, .sl (aB aU a2) a2.length), (12, .int .i64 v4), (13, .int .i64 v5)], mkR [], 64⟩ ∧ d9 a1 a2 n v4 v5 = some r) FU ?_ ?_ ?_
   ·exact AC ⟨_, _, rfl, h⟩ [] [] hρ
   ·rintro S ⟨_, _, _, h⟩; rw [d9] at h; cases h
   ·rintro n1 S ⟨v4, v5, rfl, h⟩; rw [d9] at h; refine AN hN ?_; refine aH ?_; refine AB h (fun hc6 h => ?_) fun hc6 h => ?_
    ·refine aE (AK ?_); refine aH ?_; refine aJ ?_; refine AN hN ?_; refine AR hN fun K hK => ?_; obtain ⟨q5, h11, h⟩ := aA h; obtain ⟨⟨h12a, h12b⟩, h12c⟩ := aX fc h11; (try simp only [EV, seval] at h12c); obtain ⟨q6, h13, h⟩ := aA h; obtain ⟨⟨h14a, h14b⟩, h14c⟩ := aX fc h13; (try simp only [EV, seval] at h14c); obtain ⟨x3, h15, h⟩ := aA h; simp only [EV, seval, h12a, h12b, h12c, h14a, h14b, h14c]; refine ak (ng h15) (by simp only [AL, EV, seval, h12a, h12b, h12c, h14a, h14b, h14c]) (aM rfl) (ab rfl) ?_; simp only [EV, seval, h12a, h12b, h12c, h14a, h14b, h14c]; apply hK; clear hK K; refine ae (a := .bool (!x3)) (by simp only [EV, seval, h12a, h12b, h12c, h14a, h14b, h14c]) (brK h (fun hc7 h => ?_) (fun hc7 h => ?_))
     ·refine AN hN ?_; injection h with h; subst h; exact AX (b' := 64) [(4, .bool false)] [] [] [] hρ (EQ [])
     ·refine aE (AK ?_); refine AS hN fun K hK => ?_; simp only [EV, seval]; exact hK _ _ _ (AC ⟨_, _, rfl, h⟩ [] [] hρ)
    ·exact aZ (AC ⟨rfl, h⟩ [] [] hρ)
  ·rintro S ⟨rfl, h⟩; unfold jt at h; refine AN hN ?_; injection h with h; subst h; exact AX (b' := 64) [(4, .bool true)] [] [] [] hρ (EQ [])
def fK (v6 v7 : Int) (kl1 : Int → Int → Option Bool) (v8 : Bool) : Option Bool :=
  br v8 (some false) (kl1 v6 (IntKind.wrap .i64 (v7 + 1)))
def iG : Option Bool :=
  some true
def cE (a1 : LZ) (a2 : LZ) : Nat → Int → Int → Option Bool
  | 0, _, _ => none
  | n1 + 1, v6, v7 =>
  br (decide (v7 < v6)) (bO (aj a1 v7) fun q5 => bO (aj a2 v7) fun q6 => bO (br (q5.1 != q6.1) (some true) (bO (gv q5.2 q6.2) fun x5 => some (!x5))) fun x6 => fK v6 v7 (cE a1 a2 n1) x6) (iG)
def fY (a1 : LZ) (a2 : LZ) : Option Bool :=
  br (((a1.length : Int)) != ((a2.length : Int))) (some false) (cE a1 a2 FU ((a1.length : Int)) 0)
theorem pr {a1 : LZ} {a2 : LZ} {r : Bool} (h : fY a1 a2 = some r) :
    aV Tryz.prog 10 [.sl (aB aL a1) a1.length, .sl (aB aL a2) a2.length] [] (.bool r) [] := by
 unfold fY at h; refine SO Tryz.func10 rfl Tryz.ntmps10 fun C hN hρ => ?_; simp only [st0, aW, Nat.zero_add, Nat.reduceAdd]; refine AN hN ?_; refine aH ?_; refine AN hN ?_; refine AB h (fun hc1 h => ?_) fun hc1 h => ?_
 ·refine AN hN ?_; injection h with h; subst h; exact AX (b' := 64) [(4, .bool false)] [] [] [] hρ (EQ [])
 ·refine aE (AK ?_); refine aQ (fun S => S = ⟨mkT [], mkR [], 64⟩ ∧ iG = some r) ?_ ?_
  ·refine AN hN ?_; refine aJ ?_; refine aY (fun n S => ∃ (v6 v7 : Int), S = ⟨mkT [(0, .sl (aB aL a1) a1.length), (1, .sl (aB aL a2) a2.length), (12, .int .i64 v6), (13, .int .i64 v7)], mkR [], 64⟩ ∧ cE a1 a2 n v6 v7 = some r) FU ?_ ?_ ?_
   ·exact AC ⟨_, _, rfl, h⟩ [] [] hρ
   ·rintro S ⟨_, _, _, h⟩; rw [cE] at h; cases h
   ·rintro n1 S ⟨v6, v7, rfl, h⟩; rw [cE] at h; refine AN hN ?_; refine aH ?_; refine AB h (fun hc8 h => ?_) fun hc8 h => ?_
    ·refine aE (AK ?_); refine aH ?_; refine aJ ?_; refine AN hN ?_; refine AJ (fun S => ∃ (v8 : Bool), S = ⟨mkT [(0, .sl (aB aL a1) a1.length), (1, .sl (aB aL a2) a2.length), (12, .int .i64 v6), (13, .int .i64 v7), (40, .bool v8)], mkR [], 64⟩ ∧ fK v6 v7 (cE a1 a2 n1) v8 = some r) hN ?_ ?_
     ·intro K hK; obtain ⟨q5, h11, h⟩ := aA h; obtain ⟨⟨h12a, h12b⟩, h12c⟩ := aX dU h11; (try simp only [EV, seval] at h12c); obtain ⟨q6, h13, h⟩ := aA h; obtain ⟨⟨h14a, h14b⟩, h14c⟩ := aX dU h13; (try simp only [EV, seval] at h14c); obtain ⟨x6, hv3, h⟩ := aA h; rcases aR hv3 with ⟨hc9, hv3⟩ | ⟨hc9, hv3⟩
      ·cases hv3; simp only [EV, seval, h12a, h12b, h12c, h14a, h14b, h14c, hc9]; refine hK _ _ _ (show aN _ _ _ from aP ⟨_, rfl, h⟩ (aD [] [] hρ (by kernel_rfl) ?_ ?_)) <;> simp only [AL, EV, seval, h12a, h12b, h12c, h14a, h14b, h14c, hc9]
      ·obtain ⟨x7, h16, hv3⟩ := aA hv3; simp only [EV, seval, h12a, h12b, h12c, h14a, h14b, h14c, hc9]; refine ak (qp h16) (by simp only [AL, EV, seval, h12a, h12b, h12c, h14a, h14b, h14c, hc9]) (aM rfl) (ab rfl) ?_; cases hv3; simp only [EV, seval, h12a, h12b, h12c, h14a, h14b, h14c, hc9]; refine hK _ _ _ (show aN _ _ _ from aP ⟨_, rfl, h⟩ (aD [] [] hρ (by kernel_rfl) ?_ ?_)) <;> simp only [AL, EV, seval, h12a, h12b, h12c, h14a, h14b, h14c, hc9]
     ·rintro S ⟨v8, rfl, h⟩; unfold fK at h; refine AB h (fun hc10 h => ?_) fun hc10 h => ?_
      ·refine AN hN ?_; injection h with h; subst h; exact AX (b' := 64) [(4, .bool false)] [] [] [] hρ (EQ [])
      ·refine aE (AK ?_); refine AS hN fun K hK => ?_; simp only [EV, seval]; exact hK _ _ _ (AC ⟨_, _, rfl, h⟩ [] [] hρ)
    ·exact aZ (AC ⟨rfl, h⟩ [] [] hρ)
  ·rintro S ⟨rfl, h⟩; unfold iG at h; refine AN hN ?_; injection h with h; subst h; exact AX (b' := 64) [(4, .bool true)] [] [] [] hρ (EQ [])
def qK (v11 v12 : Int) (kl1 : Int → Int → Int → Int → Int → Int → Int → Option (Int × Int × Int × Int × Int × Bool)) (x8 : Int × Int × Int × Int × Int × Bool) (v18 : Bool) : Option (Int × Int × Int × Int × Int × Bool) :=
  br v18 (some (0, 0, 0, 0, 0, false)) (kl1 v11 (IntKind.wrap .i64 (v12 + 1)) x8.1 x8.2.1 x8.2.2.1 x8.2.2.2.1 x8.2.2.2.2.1)
def sR (v19 v20 v21 v22 v23 : Int) : Option (Int × Int × Int × Int × Int × Bool) :=
  some (v19, v20, v21, v22, v23, true)
def kX (a1 : LF) (a2 : LF) : Nat → Int → Int → Int → Int → Int → Int → Int → Option (Int × Int × Int × Int × Int × Bool)
  | 0, _, _, _, _, _, _, _ => none
  | n1 + 1, v11, v12, v13, v14, v15, v16, v17 =>
  br (decide (v12 < v11)) (bO (aj a1 v12) fun q5 => bO (aj a2 v12) fun q6 => bO (g9 q5.1 q5.2.1 q5.2.2.1 q5.2.2.2.1 q5.2.2.2.2 q6.1 q6.2.1 q6.2.2.1 q6.2.2.2.1 q6.2.2.2.2) fun x7 => bO (g7 v13 v14 v15 v16 v17 x7.1 x7.2.1 x7.2.2.1 x7.2.2.2.1 x7.2.2.2.2.1) fun x8 => bO (br (!x7.2.2.2.2.2) (some true) (some (!x8.2.2.2.2.2))) fun x9 => qK v11 v12 (kX a1 a2 n1) x8 x9) (sR v13 v14 v15 v16 v17)
def vS (a1 : LF) (a2 : LF) : Option (Int × Int × Int × Int × Int × Bool) :=
  kX a1 a2 FU ((a1.length : Int)) 0 0 0 0 0 0
theorem Cz {a1 : LF} {a2 : LF} {r : Int × Int × Int × Int × Int × Bool} (h : vS a1 a2 = some r) :
    aV Tryz.prog 46 [.sl (aB aS a1) a1.length, .sl (aB aS a2) a2.length] [] (.tup [.agg [.int .i64 r.1, .int .i64 r.2.1, .int .i64 r.2.2.1, .int .i64 r.2.2.2.1, .int .i64 r.2.2.2.2.1], .bool r.2.2.2.2.2]) [] := by
 unfold vS at h; refine SO Tryz.func46 rfl Tryz.ntmps46 fun C hN hρ => ?_; simp only [st0, aW, Nat.zero_add, Nat.reduceAdd]; refine AN hN ?_; refine AN hN ?_; refine aQ (fun S => ∃ (v19 v20 v21 v22 v23 : Int), S = ⟨mkT [(4, .ptr 32 0), (6, .ptr 33 0)], mkR [(32, .box 36 [.int .i64 0, .int .i64 0, .int .i64 0, .int .i64 0, .int .i64 0]), (33, .box 36 [.int .i64 v19, .int .i64 v20, .int .i64 v21, .int .i64 v22, .int .i64 v23])], 64⟩ ∧ sR v19 v20 v21 v22 v23 = some r) ?_ ?_
 ·refine AN hN ?_; refine aJ ?_; refine aY (fun n S => ∃ (v11 v12 v13 v14 v15 v16 v17 : Int), S = ⟨mkT [(0, .sl (aB aS a1) a1.length), (1, .sl (aB aS a2) a2.length), (4, .ptr 32 0), (6, .ptr 33 0), (14, .int .i64 v11), (15, .int .i64 v12)], mkR [(32, .box 36 [.int .i64 0, .int .i64 0, .int .i64 0, .int .i64 0, .int .i64 0]), (33, .box 36 [.int .i64 v13, .int .i64 v14, .int .i64 v15, .int .i64 v16, .int .i64 v17])], 64⟩ ∧ kX a1 a2 n v11 v12 v13 v14 v15 v16 v17 = some r) FU ?_ ?_ ?_
  ·exact AC ⟨_, _, _, _, _, _, _, rfl, h⟩ [(32, some 64), (33, some 1104)] [] hρ
  ·rintro S ⟨_, _, _, _, _, _, _, _, h⟩; rw [kX] at h; cases h
  ·rintro n1 S ⟨v11, v12, v13, v14, v15, v16, v17, rfl, h⟩; rw [kX] at h; refine AN hN ?_; refine aH ?_; refine AB h (fun hc7 h => ?_) fun hc7 h => ?_
   ·refine aE (AK ?_); refine aH ?_; refine aJ ?_; refine AN hN ?_; refine AR hN fun K hK => ?_; obtain ⟨q5, h13, h⟩ := aA h; obtain ⟨⟨h14a, h14b⟩, h14c⟩ := aX cS h13; (try simp only [EV, seval] at h14c); obtain ⟨q6, h15, h⟩ := aA h; obtain ⟨⟨h16a, h16b⟩, h16c⟩ := aX cS h15; (try simp only [EV, seval] at h16c); obtain ⟨x7, h17, h⟩ := aA h; simp only [EV, seval, h14a, h14b, h14c, h16a, h16b, h16c]; refine ak (lu h17) (by simp only [AL, EV, seval, h14a, h14b, h14c, h16a, h16b, h16c]) (aM rfl) (ab rfl) ?_; simp only [EV, seval, h14a, h14b, h14c, h16a, h16b, h16c]; apply hK; clear hK K; obtain ⟨x8, h18, h⟩ := aA h; refine AP hN (ls h18) ?_; refine aH ?_; refine AJ (fun S => ∃ (v18 : Bool), S = ⟨mkT [(0, .sl (aB aS a1) a1.length), (1, .sl (aB aS a2) a2.length), (4, .ptr 32 0), (6, .ptr 33 0), (10, .ptr 34 0), (14, .int .i64 v11), (15, .int .i64 v12), (41, .bool v18)], mkR [(32, .box 36 [.int .i64 0, .int .i64 0, .int .i64 0, .int .i64 0, .int .i64 0]), (33, .box 36 [.int .i64 v13, .int .i64 v14, .int .i64 v15, .int .i64 v16, .int .i64 v17]), (34, .box 36 [.int .i64 x8.1, .int .i64 x8.2.1, .int .i64 x8.2.2.1, .int .i64 x8.2.2.2.1, .int .i64 x8.2.2.2.2.1])], 64⟩ ∧ qK v11 v12 (kX a1 a2 n1) x8 v18 = some r) hN ?_ ?_
    ·intro K hK; obtain ⟨x9, hv3, h⟩ := aA h; rcases aR hv3 with ⟨hc8, hv3⟩ | ⟨hc8, hv3⟩
     ·cases hv3; simp only [EV, seval, hc8]; refine hK _ _ _ (show aN _ _ _ from aP ⟨_, rfl, h⟩ (aD [(32, some 32), (33, some 33), (34, some 3232)] [] hρ (by kernel_rfl) ?_ ?_)) <;> simp only [AL, EV, seval, hc8]
     ·cases hv3; simp only [EV, seval, hc8]; refine hK _ _ _ (show aN _ _ _ from aP ⟨_, rfl, h⟩ (aD [(32, some 32), (33, some 33), (34, some 3232)] [] hρ (by kernel_rfl) ?_ ?_)) <;> simp only [AL, EV, seval, hc8]
    ·rintro S ⟨v18, rfl, h⟩; unfold qK at h; refine AB h (fun hc9 h => ?_) fun hc9 h => ?_
     ·refine AN hN ?_; injection h with h; subst h; exact AX (b' := 64) [(4, .ptr 32 0), (5, .bool false)] [(32, .box 36 [.int .i64 0, .int .i64 0, .int .i64 0, .int .i64 0, .int .i64 0])] [(32, some 32)] [] hρ (EQ [])
     ·refine aE (AK ?_); refine AS hN fun K hK => ?_; simp only [EV, seval]; refine hK _ _ _ (show AW _ _ _ _ _ from ?_); refine AS hN fun K hK => ?_; simp only [EV, seval]; exact hK _ _ _ (AC ⟨_, _, _, _, _, _, _, rfl, h⟩ [(32, some 32), (33, some 33)] [] hρ)
   ·exact aZ (AC ⟨_, _, _, _, _, rfl, h⟩ [(32, some 32), (33, some 33)] [] hρ)
 ·rintro S ⟨v19, v20, v21, v22, v23, rfl, h⟩; unfold sR at h; refine AN hN ?_; injection h with h; subst h; exact AX (b' := 64) [(4, .ptr 32 0), (5, .bool true)] [(32, .box 36 [.int .i64 v19, .int .i64 v20, .int .i64 v21, .int .i64 v22, .int .i64 v23])] [(32, some 32)] [] hρ (EQ [])
abbrev Z4 := Int × Int × Int × Int
def rt (x : Z4) : Z4 := (x.2.1 - x.2.2.2, x.1 + x.2.2.1, x.2.1 + x.2.2.2, x.2.2.1 - x.1)
def adz (x y : Z4) : Z4 := (x.1 + y.1, x.2.1 + y.2.1, x.2.2.1 + y.2.2.1, x.2.2.2 + y.2.2.2)
def mlz (x y : Z4) : Z4 := (x.1 * y.1 - x.2.1 * y.2.2.2 - x.2.2.1 * y.2.2.1 - x.2.2.2 * y.2.1, x.1 * y.2.1 + x.2.1 * y.1 - x.2.2.1 * y.2.2.2 - x.2.2.2 * y.2.2.1,
  x.1 * y.2.2.1 + x.2.1 * y.2.1 + x.2.2.1 * y.1 - x.2.2.2 * y.2.2.2, x.1 * y.2.2.2 + x.2.1 * y.2.2.1 + x.2.2.1 * y.2.1 + x.2.2.2 * y.1)
theorem fm {x y : Z4} (h1 : x.1 = y.1) (h2 : x.2.1 = y.2.1) (h3 : x.2.2.1 = y.2.2.1) (h4 : x.2.2.2 = y.2.2.2) : x = y :=
 Prod.ext h1 (Prod.ext h2 (Prod.ext h3 h4))
theorem D0 {x y : Z4} (h : rt x = rt y) : x = y := by
 unfold rt at h
 simp only [Prod.mk.injEq] at h
 apply fm <;> omega
theorem JB (x y : Z4) : rt (adz x y) = adz (rt x) (rt y) := by
 unfold rt adz
 apply fm <;> simp only <;> omega
theorem JC (x y : Z4) : mlz (rt x) y = rt (mlz x y) := by
 unfold rt mlz
 apply fm <;> simp only <;> grind
theorem jM (x y : Z4) : mlz x y = mlz y x := by
 unfold mlz
 apply fm <;> simp only <;> grind
theorem gU (x y z : Z4) : mlz (mlz x y) z = mlz x (mlz y z) := by
 unfold mlz
 apply fm <;> simp only <;> grind
theorem HI (x y z : Z4) : mlz x (adz y z) = adz (mlz x y) (mlz x z) := by
 unfold mlz adz
 apply fm <;> simp only <;> grind
theorem fZ (x y : Z4) : adz x y = adz y x := by
 unfold adz
 apply fm <;> simp only <;> omega
theorem iX (x y z : Z4) : adz (adz x y) z = adz x (adz y z) := by
 unfold adz
 apply fm <;> simp only <;> omega
def rtn : Nat → Z4 → Z4
 | 0, x => x
 | k + 1, x => rt (rtn k x)
theorem qL (k : Nat) {x y : Z4} (h : rtn k x = rtn k y) : x = y := by
 induction k with
 | zero => exact h
 | succ k ih => exact ih (D0 h)
theorem cg (j k : Nat) (x : Z4) : rtn j (rtn k x) = rtn (j + k) x := by
 induction j with
 | zero => simp [rtn]
 | succ j ih => rw [show j + 1 + k = (j + k) + 1 by omega]; show rt (rtn j (rtn k x)) = rt _; rw [ih]
theorem uC (k : Nat) (x y : Z4) : rtn k (adz x y) = adz (rtn k x) (rtn k y) := by
 induction k with
 | zero => rfl
 | succ k ih => show rt _ = adz (rt _) (rt _); rw [ih, JB]
theorem uD (k : Nat) (x y : Z4) : rtn k (mlz x y) = mlz (rtn k x) y := by
 induction k with
 | zero => rfl
 | succ k ih => show rt _ = mlz (rt _) y; rw [ih, JC]
theorem nF (k : Nat) (x y : Z4) : rtn k (mlz x y) = mlz x (rtn k y) := by rw [jM, uD, jM]
theorem KQ (x : Z4) : rt (rt x) = adz x x := by
 unfold rt adz
 apply fm <;> simp only <;> omega
def ev4 (x : Z4) : Bool := x.1 % 2 == 0 && (x.2.1 % 2 == 0 && (x.2.2.1 % 2 == 0 && x.2.2.2 % 2 == 0))
def hlf (x : Z4) : Z4 := (x.1 / 2, x.2.1 / 2, x.2.2.1 / 2, x.2.2.2 / 2)
def dvb (x : Z4) : Bool := ev4 (rt x)
def dvh (x : Z4) : Z4 := hlf (rt x)
theorem lQ (x : Z4) : ev4 x = true ↔ x.1 % 2 = 0 ∧ x.2.1 % 2 = 0 ∧ x.2.2.1 % 2 = 0 ∧ x.2.2.2 % 2 = 0 := by
 unfold ev4; simp only [Bool.and_eq_true, beq_iff_eq]
theorem Hx {x : Z4} (h : dvb x = true) : rt (dvh x) = x := by
 unfold dvb at h
 rw [lQ] at h
 unfold dvh hlf rt at *
 simp only at h
 apply fm <;> simp only <;> omega
theorem Hy (x : Z4) : dvb (rt x) = true := by
 unfold dvb
 rw [lQ]
 unfold rt
 simp only
 omega
def vz (x : Z4) : Bool := decide (-1073741824 ≤ x.1 ∧ x.1 ≤ 1073741824) && (decide (-1073741824 ≤ x.2.1 ∧ x.2.1 ≤ 1073741824) && (decide (-1073741824 ≤ x.2.2.1 ∧ x.2.2.1 ≤ 1073741824) && decide (-1073741824 ≤ x.2.2.2 ∧ x.2.2.2 ≤ 1073741824)))
def bdz (M : Int) (x : Z4) : Prop := (-M ≤ x.1 ∧ x.1 ≤ M) ∧ (-M ≤ x.2.1 ∧ x.2.1 ≤ M) ∧ (-M ≤ x.2.2.1 ∧ x.2.2.1 ≤ M) ∧ (-M ≤ x.2.2.2 ∧ x.2.2.2 ≤ M)
theorem bx (x : Z4) : vz x = true ↔ bdz 1073741824 x := by
 unfold vz bdz; simp only [Bool.and_eq_true, decide_eq_true_eq]
theorem xX {M : Int} {x : Z4} (h : dvb x = true) (hb : bdz M x) : bdz M (dvh x) := by
 unfold dvb at h
 rw [lQ] at h
 unfold bdz dvh hlf rt at *
 simp only at *
 omega
def nd : Nat → Z4 → Z4 × Nat
 | 0, n => (n, 0)
 | k + 1, n => if dvb n = true then nd k (dvh n) else (n, k + 1)
theorem kB : ∀ (k : Nat) (n : Z4), (nd k n).2 ≤ k ∧ rtn (k - (nd k n).2) (nd k n).1 = n ∧ ((nd k n).2 = 0 ∨ dvb (nd k n).1 = false) ∧ ∀ M, bdz M n → bdz M (nd k n).1
 | 0, n => ⟨Nat.le_refl 0, rfl, Or.inl rfl, fun M h => h⟩
 | k + 1, n => by
  unfold nd
  by_cases h : dvb n = true
  ·rw [if_pos h]
   obtain ⟨h1, h2, h3, h4⟩ := kB k (dvh n)
   refine ⟨by omega, ?_, h3, fun M hM => h4 M (xX h hM)⟩
   rw [show k + 1 - (nd k (dvh n)).2 = (k - (nd k (dvh n)).2) + 1 by omega]
   show rt (rtn _ _) = n
   rw [h2, Hx h]
  ·rw [if_neg h]
   refine ⟨Nat.le_refl _, ?_, Or.inr (by simpa using h), fun M h => h⟩
   rw [Nat.sub_self]; rfl
theorem Lr {n m : Z4} {k j : Nat} (h : rtn j n = rtn k m) (hn : k = 0 ∨ dvb n = false) (hm : j = 0 ∨ dvb m = false) : n = m ∧ k = j := by
 have key : ∀ {n m : Z4} {k j : Nat}, k ≤ j → rtn j n = rtn k m → (j = 0 ∨ dvb m = false) → n = m ∧ k = j := by
  intro n m k j hkj h hm
  have e : rtn (j - k) n = m := qL k (by rw [cg, show k + (j - k) = j by omega, h])
  by_cases hj : j = k
  ·subst hj; rw [Nat.sub_self] at e; exact ⟨e, rfl⟩
  ·obtain ⟨d, hd⟩ : ∃ d, j - k = d + 1 := ⟨j - k - 1, by omega⟩
   rw [hd] at e
   have : dvb m = true := by rw [← e]; exact Hy _
   rcases hm with h0 | h0
   ·omega
   ·rw [this] at h0; cases h0
 rcases Nat.le_total k j with hkj | hkj
 ·exact key hkj h hm
 ·obtain ⟨a, b⟩ := key hkj h.symm hn
  exact ⟨a.symm, b.symm⟩
theorem xY {n m : Z4} {k j : Nat} (h : rtn j n = rtn k m) : nd k n = nd j m := by
 obtain ⟨a1, a2, a3, _⟩ := kB k n
 obtain ⟨b1, b2, b3, _⟩ := kB j m
 have e : rtn (nd j m).2 (nd k n).1 = rtn (nd k n).2 (nd j m).1 := by
  refine qL ((k - (nd k n).2) + (j - (nd j m).2)) ?_
  have e1 : rtn (k - (nd k n).2 + (j - (nd j m).2)) (rtn (nd j m).2 (nd k n).1) = rtn j n := by
   rw [cg, show k - (nd k n).2 + (j - (nd j m).2) + (nd j m).2 = j + (k - (nd k n).2) by omega, ← cg, a2]
  have e2 : rtn (k - (nd k n).2 + (j - (nd j m).2)) (rtn (nd k n).2 (nd j m).1) = rtn k m := by
   rw [cg, show k - (nd k n).2 + (j - (nd j m).2) + (nd k n).2 = k + (j - (nd j m).2) by omega, ← cg, b2]
  rw [e1, e2, h]
 obtain ⟨e1, e2⟩ := Lr e a3 b3
 exact Prod.ext e1 e2
theorem KR {n : Z4} {k : Nat} (h : k = 0 ∨ dvb n = false) : nd k n = (n, k) := by
 cases k with
 | zero => rfl
 | succ k =>
  unfold nd
  rcases h with h | h
  ·omega
  ·rw [h]; rfl
abbrev DQ := Int × Int × Int × Int × Int
def znm (x : DQ) : Z4 := (x.1, x.2.1, x.2.2.1, x.2.2.2.1)
def zex (x : DQ) : Int := x.2.2.2.2
def ah (x : DQ) : Nat := (zex x).toNat
def vd (x : DQ) : Bool := vz (znm x) && (decide (0 ≤ zex x ∧ zex x ≤ 60) && (zex x == 0 || !dvb (znm x)))
def mkD (r : Z4 × Nat) : DQ := (r.1.1, r.1.2.1, r.1.2.2.1, r.1.2.2.2, (r.2 : Int))
def d0 : DQ := (0, 0, 0, 0, 0)
def oU (n : Z4) (k : Nat) : Option DQ := if vz n = true ∧ (nd k n).2 ≤ 60 then some (mkD (nd k n)) else none
def nG (x y : DQ) : Option DQ := if vz (mlz (znm x) (znm y)) = true then oU (mlz (znm x) (znm y)) (ah x + ah y) else none
def upF (x : DQ) (K : Nat) : Z4 := rtn (K - ah x) (znm x)
def oV (x y : DQ) : Option DQ :=
 let K := max (ah x) (ah y)
 if (vz (upF x K) = true ∧ vz (upF y K) = true) ∧ vz (adz (upF x K) (upF y K)) = true then oU (adz (upF x K) (upF y K)) K else none
theorem ej (x : DQ) : vd x = true ↔ vz (znm x) = true ∧ (0 ≤ zex x ∧ zex x ≤ 60) ∧ (ah x = 0 ∨ dvb (znm x) = false) := by
 unfold vd ah
 simp only [Bool.and_eq_true, decide_eq_true_eq, Bool.or_eq_true, beq_iff_eq, Bool.not_eq_true']
 constructor
 ·rintro ⟨a, b, c⟩; exact ⟨a, b, c.imp (fun h => by omega) id⟩
 ·rintro ⟨a, b, c⟩; exact ⟨a, b, c.imp (fun h => by omega) id⟩
theorem JD (x : DQ) (h : 0 ≤ zex x) : mkD (znm x, ah x) = x := by
 obtain ⟨a, b, c, d, e⟩ := x
 unfold mkD znm ah zex at *
 simp only at *
 rw [Int.toNat_of_nonneg h]
theorem D1 (r : Z4 × Nat) : znm (mkD r) = r.1 ∧ ah (mkD r) = r.2 ∧ zex (mkD r) = (r.2 : Int) := ⟨rfl, by unfold ah zex mkD; simp, rfl⟩
theorem kz {M : Int} : ∀ (k : Nat) {x : Z4}, bdz M (rtn k x) → bdz M x
 | 0, x, h => h
 | k + 1, x, h => kz k (by
   have : dvb (rt (rtn k x)) = true := Hy _
   have e : dvh (rt (rtn k x)) = rtn k x := D0 (Hx this)
   rw [← e]
   exact xX this h)
theorem m8 {n : Z4} {k : Nat} {z : DQ} (h : oU n k = some z) : vd z = true ∧ ah z ≤ k ∧ rtn k (znm z) = rtn (ah z) n ∧ ∀ M, bdz M n → bdz M (znm z) := by
 unfold oU at h
 split at h
 case isFalse => cases h
 rename_i hc
 injection h with h
 subst h
 obtain ⟨h1, h2, h3, h4⟩ := kB k n
 obtain ⟨e1, e2, e3⟩ := D1 (nd k n)
 rw [e1, e2]
 refine ⟨(ej _).2 ⟨?_, ?_, ?_⟩, h1, ?_, h4⟩
 ·rw [e1, bx]; exact h4 _ ((bx _).1 hc.1)
 ·rw [e3]; omega
 ·rw [e1, e2]; exact h3
 ·have : rtn (nd k n).2 n = rtn (nd k n).2 (rtn (k - (nd k n).2) (nd k n).1) := by rw [h2]
  rw [this, cg, show (nd k n).2 + (k - (nd k n).2) = k by omega]
theorem nH (k : Nat) : rtn k (0, 0, 0, 0) = (0, 0, 0, 0) := by
 induction k with
 | zero => rfl
 | succ k ih => show rt (rtn k _) = _; rw [ih]; rfl
theorem D2 (y : Z4) : mlz y (0, 0, 0, 0) = (0, 0, 0, 0) := by unfold mlz; simp
theorem D3 : vd d0 = true := by decide
theorem dL (x : Z4) : adz x (0, 0, 0, 0) = x := by unfold adz; simp
theorem AM (x y : DQ) : oV x y = oV y x := by
 unfold oV
 simp only [Nat.max_comm (ah x) (ah y), fZ (upF x _) (upF y _), And.comm (a := vz (upF x _) = true)]
theorem HJ {x y z : DQ} (h : nG x y = some z) : vd z = true ∧ rtn (ah x + ah y) (znm z) = rtn (ah z) (mlz (znm x) (znm y)) := by
 unfold nG at h
 split at h
 ·exact ⟨(m8 h).1, (m8 h).2.2.1⟩
 ·cases h
theorem HK {x y z : DQ} (h : oV x y = some z) : vd z = true ∧ rtn (max (ah x) (ah y)) (znm z) = rtn (ah z) (adz (upF x (max (ah x) (ah y))) (upF y (max (ah x) (ah y)))) := by
 unfold oV at h
 simp only at h
 split at h
 ·exact ⟨(m8 h).1, (m8 h).2.2.1⟩
 ·cases h
def we : DQ → List DQ → List DQ → Option DQ
 | s, x :: r, y :: v => (nG x y).bind fun p => (oV s p).bind fun z => we z r v
 | s, _, _ => some s
theorem kY (j k : Nat) (x : Z4) : rtn j (rtn k x) = rtn k (rtn j x) := by rw [cg, cg, Nat.add_comm]
def h2 : DQ := (1, 0, 0, 0, 2)
theorem xZ (x : Z4) : mlz x (1, 0, 0, 0) = x := by unfold mlz; apply fm <;> simp
theorem wg (x : Z4) : mlz (1, 0, 0, 0) x = x := by rw [jM, xZ]
def Bd (E : Nat) (M : Nat) (x : DQ) : Prop := vd x = true ∧ ah x ≤ E ∧ ∃ n, bdz M n ∧ rtn E (znm x) = rtn (ah x) n
theorem av {M L : Int} (h : M ≤ L) {x : Z4} (hx : bdz M x) : bdz L x := by unfold bdz at *; omega
theorem nh {M L : Int} {x y : Z4} (hx : bdz M x) (hy : bdz L y) : bdz (M + L) (adz x y) := by unfold bdz adz at *; simp only; omega
theorem bC {M L : Nat} {a b : Int} (ha : -(M : Int) ≤ a ∧ a ≤ M) (hb : -(L : Int) ≤ b ∧ b ≤ L) : -((M * L : Nat) : Int) ≤ a * b ∧ a * b ≤ ((M * L : Nat) : Int) := by
 have h1 : a.natAbs ≤ M := by omega
 have h2 : b.natAbs ≤ L := by omega
 have h3 : (a * b).natAbs ≤ M * L := by rw [Int.natAbs_mul]; exact Nat.mul_le_mul h1 h2
 omega
theorem HM {M L : Nat} {x y : Z4} (hx : bdz M x) (hy : bdz L y) : bdz ((4 * (M * L) : Nat) : Int) (mlz x y) := by
 obtain ⟨x1, x2, x3, x4⟩ := hx
 obtain ⟨y1, y2, y3, y4⟩ := hy
 have a1 := bC x1 y1; have a2 := bC x1 y2; have a3 := bC x1 y3; have a4 := bC x1 y4
 have b1 := bC x2 y1; have b2 := bC x2 y2; have b3 := bC x2 y3; have b4 := bC x2 y4
 have c1 := bC x3 y1; have c2 := bC x3 y2; have c3 := bC x3 y3; have c4 := bC x3 y4
 have d1 := bC x4 y1; have d2 := bC x4 y2; have d3 := bC x4 y3; have d4 := bC x4 y4
 unfold bdz mlz
 simp only
 generalize M * L = P at *
 refine ⟨⟨?_, ?_⟩, ⟨?_, ?_⟩, ⟨?_, ?_⟩, ?_, ?_⟩ <;> omega
theorem Bd.up {E M : Nat} {x : DQ} (h : Bd E M x) {K : Nat} (h1 : ah x ≤ K) (h2 : K ≤ E) : ∃ n, bdz M n ∧ rtn (E - K) (upF x K) = n ∧ rtn E (znm x) = rtn (ah x) n := by
 obtain ⟨_, _, n, hn, e⟩ := h
 refine ⟨n, hn, ?_, e⟩
 refine qL (ah x) ?_
 unfold upF
 rw [cg, cg, show ah x + (E - K) + (K - ah x) = E by omega, e]
theorem Bd.new {n : Z4} {k E M : Nat} (hk : k ≤ 60) (hE : k ≤ E) (hM : M ≤ 1073741824) (hb : bdz M (rtn (E - k) n)) : ∃ z, oU n k = some z ∧ Bd E M z := by
 have hv : vz n = true := (bx n).2 (av (by omega) (kz _ hb))
 obtain ⟨s1, _, _, _⟩ := kB k n
 have hz : oU n k = some (mkD (nd k n)) := by unfold oU; rw [if_pos ⟨hv, by omega⟩]
 obtain ⟨z1, z2, z3, _⟩ := m8 hz
 refine ⟨_, hz, z1, by omega, _, hb, ?_⟩
 rw [show E = (E - k) + k by omega, ← cg, z3, kY, show E - k + k - k = E - k by omega]
theorem Bd.add {E M L : Nat} {x y : DQ} (hx : Bd E M x) (hy : Bd E L y) (hE : E ≤ 60) (hM : M + L ≤ 1073741824) : ∃ z, oV x y = some z ∧ Bd E (M + L) z := by
 have hK1 : ah x ≤ max (ah x) (ah y) := Nat.le_max_left ..
 have hK2 : ah y ≤ max (ah x) (ah y) := Nat.le_max_right ..
 have hK3 : max (ah x) (ah y) ≤ E := Nat.max_le.2 ⟨hx.2.1, hy.2.1⟩
 unfold oV
 simp only
 generalize max (ah x) (ah y) = K at *
 obtain ⟨n, n1, n2, n3⟩ := hx.up hK1 hK3
 obtain ⟨m, m1, m2, m3⟩ := hy.up hK2 hK3
 have b : bdz ((M + L : Nat) : Int) (rtn (E - K) (adz (upF x K) (upF y K))) := by
  rw [uC, n2, m2]
  have := nh n1 m1
  rw [show ((M + L : Nat) : Int) = (M : Int) + L by omega]
  exact this
 have v1 : vz (upF x K) = true := (bx _).2 (kz (E - K) (by rw [n2]; exact av (by omega) n1))
 have v2 : vz (upF y K) = true := (bx _).2 (kz (E - K) (by rw [m2]; exact av (by omega) m1))
 have v3 : vz (adz (upF x K) (upF y K)) = true := (bx _).2 (kz (E - K) (av (by omega) b))
 rw [if_pos ⟨⟨v1, v2⟩, v3⟩]
 exact Bd.new (by omega) hK3 hM b
theorem Bd.mul {E F M L : Nat} {x y : DQ} (hx : Bd E M x) (hy : Bd F L y) (hE : E + F ≤ 60) (hM : 4 * (M * L) ≤ 1073741824) : ∃ z, nG x y = some z ∧ Bd (E + F) (4 * (M * L)) z := by
 obtain ⟨n, n1, n2, n3⟩ := hx.up (Nat.le_refl _) hx.2.1
 obtain ⟨m, m1, m2, m3⟩ := hy.up (Nat.le_refl _) hy.2.1
 have ex1 : upF x (ah x) = znm x := by unfold upF; rw [Nat.sub_self]; rfl
 have ey1 : upF y (ah y) = znm y := by unfold upF; rw [Nat.sub_self]; rfl
 rw [ex1] at n2
 rw [ey1] at m2
 have hx2 := hx.2.1
 have hy2 := hy.2.1
 have b : bdz ((4 * (M * L) : Nat) : Int) (rtn (E + F - (ah x + ah y)) (mlz (znm x) (znm y))) := by
  rw [show E + F - (ah x + ah y) = (E - ah x) + (F - ah y) by omega, ← cg, nF, uD, n2, m2]
  exact HM n1 m1
 have v3 : vz (mlz (znm x) (znm y)) = true := (bx _).2 (kz _ (av (by omega) b))
 unfold nG
 rw [if_pos v3]
 exact Bd.new (by omega) (by omega) hM b
theorem Bd.mono {E M L : Nat} {x : DQ} (h : Bd E M x) (hM : M ≤ L) : Bd E L x := by
 obtain ⟨h1, h2, n, h3, h4⟩ := h
 exact ⟨h1, h2, n, av (by omega) h3, h4⟩
theorem Bd.zero (E M : Nat) : Bd E M d0 := ⟨D3, Nat.zero_le _, (0, 0, 0, 0), by unfold bdz; simp, by rw [show znm d0 = (0, 0, 0, 0) from rfl, nH, nH]⟩
theorem Bd.half {E M : Nat} {x : DQ} (h : Bd E M x) (hE : E + 2 ≤ 60) (hM : M ≤ 1073741824) : ∃ z, nG x h2 = some z ∧ Bd (E + 2) M z := by
 obtain ⟨n, n1, n2, n3⟩ := h.up (Nat.le_refl _) h.2.1
 have ex1 : upF x (ah x) = znm x := by unfold upF; rw [Nat.sub_self]; rfl
 rw [ex1] at n2
 have hx2 := h.2.1
 unfold nG
 rw [show znm h2 = (1, 0, 0, 0) from rfl, xZ, show ah h2 = 2 from rfl, if_pos ((ej x).1 h.1).1]
 refine Bd.new (by omega) (by omega) hM ?_
 rw [show E + 2 - (ah x + 2) = E - ah x by omega, n2]
 exact n1
def rtD : DQ := (0, 1, 0, -1, 0)
theorem Bd.root {E M : Nat} {x : DQ} (h : Bd E M x) (hE : E ≤ 60) (hM : 2 * M ≤ 1073741824) : ∃ z, nG x rtD = some z ∧ Bd E (2 * M) z := by
 obtain ⟨n, n1, n2, n3⟩ := h.up (Nat.le_refl _) h.2.1
 have ex1 : upF x (ah x) = znm x := by unfold upF; rw [Nat.sub_self]; rfl
 rw [ex1] at n2
 have hx2 := h.2.1
 have er : ∀ y : Z4, mlz y (0, 1, 0, -1) = rt y := fun y => by unfold mlz rt; apply fm <;> simp only <;> omega
 have b : bdz ((2 * M : Nat) : Int) (rtn (E - ah x) (rt (znm x))) := by
  have e : rtn (E - ah x) (rt (znm x)) = rt n := by
   rw [← n2]; exact kY _ 1 _
  rw [e]
  unfold bdz rt at *
  simp only
  omega
 have v : vz (rt (znm x)) = true := (bx _).2 (kz _ (av (by omega) b))
 unfold nG
 rw [show znm rtD = (0, 1, 0, -1) from rfl, er, show ah rtD = 0 from rfl, if_pos v, Nat.add_zero]
 exact Bd.new (by omega) hx2 hM b
abbrev Q4 := Int × Int × Int × Int
theorem w64 {x : Int} (h1 : -9223372036854775808 ≤ x) (h2 : x < 9223372036854775808) : IntKind.wrap .i64 x = x := IntWalk.i64_in _ (by omega)
theorem cb {k n : Nat} (h : k < n) (hn : n ≤ 4194304) : IntKind.wrap .i64 ((k : Int) + 1) = ((k + 1 : Nat) : Int) := by rw [w64 (by omega) (by omega)]; omega
theorem m9 {α : Type} {l : List α} {k : Nat} {q : α} (h : l[k]? = some q) : aj l (k : Int) = some q := by
 have hk : k < l.length := by
  rcases Nat.lt_or_ge k l.length with h' | h'
  ·exact h'
  ·rw [List.getElem?_eq_none h'] at h; cases h
 unfold aj
 rw [if_pos ⟨by omega, by omega⟩, Int.toNat_natCast, h]
theorem aw {α : Type} {l : List α} {k : Nat} (h : k < l.length) : aj l (k : Int) = some l[k] := m9 (List.getElem?_eq_getElem h)
theorem vT (L : Nat → Int → Option Bool) (n : Nat) (f : Nat → Bool) (hs : ∀ m k, k < n → L (m + 1) (k : Int) = br (f k) (L m ((k + 1 : Nat) : Int)) (some false)) (c : Option Bool) (he : ∀ m, L (m + 1) (n : Int) = c) :
  ∀ m k, k ≤ n → n - k < m → L m (k : Int) = br ((List.range' k (n - k)).all f) c (some false)
 | 0, k, _, h => by omega
 | m + 1, k, hk, h => by
  by_cases e : k = n
  ·subst e; rw [he, Nat.sub_self]; rfl
  ·rw [hs m k (by omega), vT L n f hs c he m (k + 1) (by omega) (by omega), show n - k = (n - (k + 1)) + 1 by omega, List.range'_succ, List.all_cons]
   cases f k <;> rfl
theorem bJ : FU = 4194304 := rfl
theorem ov (L : Nat → Int → Option Bool) (n : Nat) (f : Nat → Bool) (hn : n ≤ 4000000) (hs : ∀ m k, k < n → L (m + 1) (k : Int) = br (f k) (L m ((k + 1 : Nat) : Int)) (some false)) (c : Option Bool) (he : ∀ m, L (m + 1) (n : Int) = c) :
  L FU 0 = br ((List.range n).all f) c (some false) := by
 have := vT L n f hs c he FU 0 (by omega) (by rw [bJ]; omega)
 rw [Nat.sub_zero, ← List.range_eq_range'] at this
 exact this
theorem jN (x lo hi : Int) : lG x lo hi = some (decide (lo ≤ x ∧ x ≤ hi)) := by
 unfold lG rd
 by_cases h1 : lo ≤ x <;> by_cases h2 : x ≤ hi <;> simp [br, bO, h1, h2]
theorem c9 (x lo hi : Int) : cM x lo hi = some (decide (lo ≤ x ∧ x ≤ hi)) := by
 unfold cM oq
 by_cases h1 : lo ≤ x <;> by_cases h2 : x ≤ hi <;> simp [br, bO, h1, h2]
def vP (q : Q4) : Bool := decide ((1 ≤ q.1 ∧ q.1 ≤ 4) ∧ (0 ≤ q.2.1 ∧ q.2.1 < 2 ^ q.1.toNat) ∧ (0 ≤ q.2.2.1 ∧ q.2.2.1 < 2 ^ q.1.toNat) ∧ (0 ≤ q.2.2.2 ∧ q.2.2.2 ≤ 3))
theorem uE {n x z p : Int} : vP (n, x, z, p) = true ↔ (1 ≤ n ∧ n ≤ 4) ∧ (0 ≤ x ∧ x < 2 ^ n.toNat) ∧ (0 ≤ z ∧ z < 2 ^ n.toNat) ∧ (0 ≤ p ∧ p ≤ 3) := by simp [vP]
theorem sp {n : Int} (h : 1 ≤ n ∧ n ≤ 4) : n = 1 ∨ n = 2 ∨ n = 3 ∨ n = 4 := by omega
theorem uF {β : Type} (b c : Bool) (k : Bool → Option β) : bO (br b (some c) (some false)) k = k (b && c) := by cases b <;> rfl
theorem mP {β : Type} (b c : Bool) (k : Bool → Option β) : bO (br b (some true) (some c)) k = k (b || c) := by cases b <;> rfl
def pc (x : Int) : Int := ((x.toNat % 2 + x.toNat / 2 % 2 + x.toNat / 4 % 2 + x.toNat / 8 % 2 : Nat) : Int)
def an (x y : Int) : Int := ((x.toNat &&& y.toNat : Nat) : Int)
def xo (x y : Int) : Int := ((x.toNat ^^^ y.toNat : Nat) : Int)
def Sm (x : Int) : Prop := 0 ≤ x ∧ x < 16
theorem Sm.fin {x : Int} (h : Sm x) : ∃ k : Fin 16, x = (k.val : Int) := ⟨⟨x.toNat, by have := h.1; have := h.2; omega⟩, by have := h.1; show x = (x.toNat : Int); omega⟩
theorem KS (x : Int) : 0 ≤ pc x ∧ pc x ≤ 4 := by unfold pc; omega
theorem JE {n : Int} (h : 1 ≤ n ∧ n ≤ 4) : (2 : Int) ^ n.toNat ≤ 16 := by rcases sp h with rfl | rfl | rfl | rfl <;> decide
theorem D4 {n x z p : Int} (h : vP (n, x, z, p) = true) : Sm x ∧ Sm z ∧ (0 ≤ p ∧ p ≤ 3) := by
 obtain ⟨h1, h2, h3, h4⟩ := uE.1 h
 have := JE h1
 exact ⟨⟨h2.1, by omega⟩, ⟨h3.1, by omega⟩, h4⟩
def hP (q : Q4) : Bool := vP q && decide ((q.2.2.2 + pc (an q.2.1 q.2.2.1)) % 2 = 0)
def cP (a b : Q4) : Bool := decide ((pc (an a.2.1 b.2.2.1) + pc (an a.2.2.1 b.2.1)) % 2 = 0)
def AO (N : Int) (l : List Q4) (k : Nat) : Bool := match l[k]? with
 | some q => (q.1 == N) && (hP q && (List.range k).all fun i => match l[i]? with
   | some r => !(cP r q == decide ((k : Int) = (i : Int) + N))
   | none => false)
 | none => false
def tB (N : Int) (l : List Q4) : Bool := decide (1 ≤ N ∧ N ≤ 4) && (decide ((l.length : Int) = 2 * N) && (List.range l.length).all (AO N l))
theorem tm2 (x : Int) : (Int.tmod x 2 != 0) = !(x % 2 == 0) := by
 have h := Int.tmod_eq_emod (a := x) (b := 2)
 rw [Bool.eq_iff_iff]
 simp only [bne_iff_ne, ne_eq, Bool.not_eq_true', beq_eq_false_iff_ne]
 rw [h]
 split <;> omega
theorem td2 {x : Int} (h : x % 2 = 0) : Int.tdiv x 2 = x / 2 := by
 rw [Int.tdiv_eq_ediv_of_dvd (by omega)]
def dvF (x : Z4) : Int × Int × Int × Int × Bool := if vz x = true ∧ dvb x = true then ((dvh x).1, (dvh x).2.1, (dvh x).2.2.1, (dvh x).2.2.2, true) else (0, 0, 0, 0, false)
def res (o : Option DQ) : Int × Int × Int × Int × Int × Bool := match o with
 | some z => (z.1, z.2.1, z.2.2.1, z.2.2.2.1, z.2.2.2.2, true)
 | none => (0, 0, 0, 0, 0, false)
def oW (o : Option Z4) : Int × Int × Int × Int × Bool := match o with
 | some z => (z.1, z.2.1, z.2.2.1, z.2.2.2, true)
 | none => (0, 0, 0, 0, false)
theorem wmm {p q r s : Int} (hp : -((1073741824 * 1073741824 : Nat) : Int) ≤ p ∧ p ≤ ((1073741824 * 1073741824 : Nat) : Int)) (hq : -((1073741824 * 1073741824 : Nat) : Int) ≤ q ∧ q ≤ ((1073741824 * 1073741824 : Nat) : Int)) (hr : -((1073741824 * 1073741824 : Nat) : Int) ≤ r ∧ r ≤ ((1073741824 * 1073741824 : Nat) : Int)) (hs : -((1073741824 * 1073741824 : Nat) : Int) ≤ s ∧ s ≤ ((1073741824 * 1073741824 : Nat) : Int)) :
  IntKind.wrap .i64 ((IntKind.wrap .i64 ((IntKind.wrap .i64 ((IntKind.wrap .i64 p) - (IntKind.wrap .i64 q))) - (IntKind.wrap .i64 r))) - (IntKind.wrap .i64 s)) = p - q - r - s := by
 rw [w64 (x := p) (by omega) (by omega), w64 (x := q) (by omega) (by omega), w64 (x := r) (by omega) (by omega), w64 (x := s) (by omega) (by omega), w64 (x := p - q) (by omega) (by omega), w64 (x := p - q - r) (by omega) (by omega), w64 (by omega) (by omega)]
theorem KT {p q r s : Int} (hp : -((1073741824 * 1073741824 : Nat) : Int) ≤ p ∧ p ≤ ((1073741824 * 1073741824 : Nat) : Int)) (hq : -((1073741824 * 1073741824 : Nat) : Int) ≤ q ∧ q ≤ ((1073741824 * 1073741824 : Nat) : Int)) (hr : -((1073741824 * 1073741824 : Nat) : Int) ≤ r ∧ r ≤ ((1073741824 * 1073741824 : Nat) : Int)) (hs : -((1073741824 * 1073741824 : Nat) : Int) ≤ s ∧ s ≤ ((1073741824 * 1073741824 : Nat) : Int)) :
  IntKind.wrap .i64 ((IntKind.wrap .i64 ((IntKind.wrap .i64 ((IntKind.wrap .i64 p) + (IntKind.wrap .i64 q))) - (IntKind.wrap .i64 r))) - (IntKind.wrap .i64 s)) = p + q - r - s := by
 rw [w64 (x := p) (by omega) (by omega), w64 (x := q) (by omega) (by omega), w64 (x := r) (by omega) (by omega), w64 (x := s) (by omega) (by omega), w64 (x := p + q) (by omega) (by omega), w64 (x := p + q - r) (by omega) (by omega), w64 (by omega) (by omega)]
theorem KU {p q r s : Int} (hp : -((1073741824 * 1073741824 : Nat) : Int) ≤ p ∧ p ≤ ((1073741824 * 1073741824 : Nat) : Int)) (hq : -((1073741824 * 1073741824 : Nat) : Int) ≤ q ∧ q ≤ ((1073741824 * 1073741824 : Nat) : Int)) (hr : -((1073741824 * 1073741824 : Nat) : Int) ≤ r ∧ r ≤ ((1073741824 * 1073741824 : Nat) : Int)) (hs : -((1073741824 * 1073741824 : Nat) : Int) ≤ s ∧ s ≤ ((1073741824 * 1073741824 : Nat) : Int)) :
  IntKind.wrap .i64 ((IntKind.wrap .i64 ((IntKind.wrap .i64 ((IntKind.wrap .i64 p) + (IntKind.wrap .i64 q))) + (IntKind.wrap .i64 r))) - (IntKind.wrap .i64 s)) = p + q + r - s := by
 rw [w64 (x := p) (by omega) (by omega), w64 (x := q) (by omega) (by omega), w64 (x := r) (by omega) (by omega), w64 (x := s) (by omega) (by omega), w64 (x := p + q) (by omega) (by omega), w64 (x := p + q + r) (by omega) (by omega), w64 (by omega) (by omega)]
theorem wpp {p q r s : Int} (hp : -((1073741824 * 1073741824 : Nat) : Int) ≤ p ∧ p ≤ ((1073741824 * 1073741824 : Nat) : Int)) (hq : -((1073741824 * 1073741824 : Nat) : Int) ≤ q ∧ q ≤ ((1073741824 * 1073741824 : Nat) : Int)) (hr : -((1073741824 * 1073741824 : Nat) : Int) ≤ r ∧ r ≤ ((1073741824 * 1073741824 : Nat) : Int)) (hs : -((1073741824 * 1073741824 : Nat) : Int) ≤ s ∧ s ≤ ((1073741824 * 1073741824 : Nat) : Int)) :
  IntKind.wrap .i64 ((IntKind.wrap .i64 ((IntKind.wrap .i64 ((IntKind.wrap .i64 p) + (IntKind.wrap .i64 q))) + (IntKind.wrap .i64 r))) + (IntKind.wrap .i64 s)) = p + q + r + s := by
 rw [w64 (x := p) (by omega) (by omega), w64 (x := q) (by omega) (by omega), w64 (x := r) (by omega) (by omega), w64 (x := s) (by omega) (by omega), w64 (x := p + q) (by omega) (by omega), w64 (x := p + q + r) (by omega) (by omega), w64 (by omega) (by omega)]
theorem sS (x : Z4) : b5 x.1 x.2.1 x.2.2.1 x.2.2.2 = some (vz x) := by
 unfold b5 f8
 simp only [jN, aC, uF]
 unfold vz
 simp only [Bool.and_assoc]
theorem KV (x : Z4) : jo x.1 x.2.1 x.2.2.1 x.2.2.2 = some (dvF x) := by
 unfold jo
 rw [sS, aC]
 simp only [mP, k7]
 cases hv : vz x with
 | false =>
  simp only [Bool.not_false, Bool.true_or, aT]
  unfold dvF
  rw [if_neg (by rw [hv]; simp)]
 | true =>
  obtain ⟨b1, b2, b3, b4⟩ := (bx x).1 hv
  rw [w64 (x := x.2.1 - x.2.2.2) (by omega) (by omega), w64 (x := x.1 + x.2.2.1) (by omega) (by omega), w64 (x := x.2.1 + x.2.2.2) (by omega) (by omega), w64 (x := x.2.2.1 - x.1) (by omega) (by omega)]
  simp only [Bool.not_true, Bool.false_or, tm2]
  have e : (((!((x.2.1 - x.2.2.2) % 2 == 0) || !((x.1 + x.2.2.1) % 2 == 0)) || !((x.2.1 + x.2.2.2) % 2 == 0)) || !((x.2.2.1 - x.1) % 2 == 0)) = !(dvb x) := by
   unfold dvb ev4 rt
   simp only [Bool.not_and, Bool.or_assoc]
  rw [e]
  unfold dvF
  cases hd : dvb x with
  | false => simp only [Bool.not_false, aT]; rw [if_neg (by simp)]
  | true =>
   simp only [Bool.not_true, aF]
   rw [if_pos ⟨hv, by trivial⟩]
   unfold dvb at hd
   rw [lQ] at hd
   obtain ⟨d1, d2, d3, d4⟩ := hd
   unfold rt at d1 d2 d3 d4
   simp only at d1 d2 d3 d4
   rw [td2 d1, td2 d2, td2 d3, td2 d4, w64 (x := (x.2.1 - x.2.2.2) / 2) (by omega) (by omega), w64 (x := (x.1 + x.2.2.1) / 2) (by omega) (by omega), w64 (x := (x.2.1 + x.2.2.2) / 2) (by omega) (by omega), w64 (x := (x.2.2.1 - x.1) / 2) (by omega) (by omega)]
   rfl
theorem wh (x : DQ) : bj x.1 x.2.1 x.2.2.1 x.2.2.2.1 x.2.2.2.2 = some (vd x) := by
 unfold bj fA
 have h1 := KV (znm x)
 have h2 := sS (znm x)
 unfold znm at h1 h2
 simp only at h1 h2
 rw [h1, aC, h2, aC]
 simp only [jN, aC, uF, mP]
 have e : (dvF (x.1, x.2.1, x.2.2.1, x.2.2.2.1)).2.2.2.2 = (vz (x.1, x.2.1, x.2.2.1, x.2.2.2.1) && dvb (x.1, x.2.1, x.2.2.1, x.2.2.2.1)) := by
  unfold dvF
  cases vz (x.1, x.2.1, x.2.2.1, x.2.2.2.1) <;> cases dvb (x.1, x.2.1, x.2.2.1, x.2.2.2.1) <;> rfl
 rw [e]
 unfold vd znm zex
 cases vz (x.1, x.2.1, x.2.2.1, x.2.2.2.1) <;> cases dvb (x.1, x.2.1, x.2.2.1, x.2.2.2.1) <;> cases (x.2.2.2.2 == 0) <;> cases decide (0 ≤ x.2.2.2.2 ∧ x.2.2.2.2 ≤ 60) <;> rfl
theorem sT : ∀ (m k : Nat) (n : Z4), vz n = true → k < m → k ≤ 120 → dF m k n.1 n.2.1 n.2.2.1 n.2.2.2 = ed ((nd k n).2 : Int) (nd k n).1.1 (nd k n).1.2.1 (nd k n).1.2.2.1 (nd k n).1.2.2.2
 | 0, k, n, _, h, _ => by omega
 | m + 1, 0, n, hv, h, _ => by
  rw [dF]
  rfl
 | m + 1, k + 1, n, hv, h, hk => by
  rw [dF]
  have hlt : decide (0 < ((k + 1 : Nat) : Int)) = true := decide_eq_true (by omega)
  rw [hlt, aT, KV, aC]
  cases hd : dvb n with
  | false =>
   have e1 : dvF n = (0, 0, 0, 0, false) := by unfold dvF; rw [if_neg (by rw [hd]; simp)]
   have e2 : nd (k + 1) n = (n, k + 1) := by unfold nd; rw [hd]; rfl
   rw [e1, e2]
   rfl
  | true =>
   have e1 : dvF n = ((dvh n).1, (dvh n).2.1, (dvh n).2.2.1, (dvh n).2.2.2, true) := by unfold dvF; rw [if_pos ⟨hv, hd⟩]
   have e2 : nd (k + 1) n = nd k (dvh n) := by rw [nd, if_pos hd]
   have hw : IntKind.wrap .i64 (((k + 1 : Nat) : Int) - 1) = (k : Int) := by rw [w64 (by omega) (by omega)]; omega
   rw [e1, e2]
   simp only [Bool.not_true, aF, hw]
   exact sT m k (dvh n) ((bx _).2 (xX hd ((bx n).1 hv))) (by omega) (by omega)
theorem Hz (n : Z4) (k : Int) (hk : 0 ≤ k ∧ k ≤ 120) : iS n.1 n.2.1 n.2.2.1 n.2.2.2 k = some (res (oU n k.toNat)) := by
 unfold iS
 rw [sS, aC]
 have hin : decide (0 ≤ k ∧ k ≤ 120) = true := decide_eq_true hk
 simp only [jN, aC, mP, hin, Bool.not_true, Bool.or_false, ir]
 cases hv : vz n with
 | false =>
  simp only [Bool.not_false, aT]
  unfold oU
  rw [if_neg (by rw [hv]; simp)]
  rfl
 | true =>
  simp only [Bool.not_true, aF]
  have e : ((k.toNat : Nat) : Int) = k := by omega
  have := sT FU k.toNat n hv (by rw [bJ]; omega) (by omega)
  rw [e] at this
  rw [this]
  unfold ed oU
  by_cases h60 : (nd k.toNat n).2 ≤ 60
  ·have : decide (60 < ((nd k.toNat n).2 : Int)) = false := decide_eq_false (by omega)
   rw [this, aF, if_pos ⟨hv, h60⟩]
   rfl
  ·have : decide (60 < ((nd k.toNat n).2 : Int)) = true := decide_eq_true (by omega)
   rw [this, aT, if_neg (fun h => h60 h.2)]
   rfl
theorem D5 (x y : Z4) : fw x.1 x.2.1 x.2.2.1 x.2.2.2 y.1 y.2.1 y.2.2.1 y.2.2.2 = some (oW (if vz x = true ∧ vz y = true ∧ vz (mlz x y) = true then some (mlz x y) else none)) := by
 unfold fw
 rw [sS, aC]
 simp only [sS, aC, mP, iu]
 by_cases hxy : vz x = true ∧ vz y = true
 ·obtain ⟨hx, hy⟩ := hxy
  obtain ⟨x1, x2, x3, x4⟩ := (bx x).1 hx
  obtain ⟨y1, y2, y3, y4⟩ := (bx y).1 hy
  have a1 := bC (M := 1073741824) (L := 1073741824) x1 y1; have a2 := bC (M := 1073741824) (L := 1073741824) x1 y2; have a3 := bC (M := 1073741824) (L := 1073741824) x1 y3; have a4 := bC (M := 1073741824) (L := 1073741824) x1 y4
  have b1 := bC (M := 1073741824) (L := 1073741824) x2 y1; have b2 := bC (M := 1073741824) (L := 1073741824) x2 y2; have b3 := bC (M := 1073741824) (L := 1073741824) x2 y3; have b4 := bC (M := 1073741824) (L := 1073741824) x2 y4
  have c1 := bC (M := 1073741824) (L := 1073741824) x3 y1; have c2 := bC (M := 1073741824) (L := 1073741824) x3 y2; have c3 := bC (M := 1073741824) (L := 1073741824) x3 y3; have c4 := bC (M := 1073741824) (L := 1073741824) x3 y4
  have d1 := bC (M := 1073741824) (L := 1073741824) x4 y1; have d2 := bC (M := 1073741824) (L := 1073741824) x4 y2; have d3 := bC (M := 1073741824) (L := 1073741824) x4 y3; have d4 := bC (M := 1073741824) (L := 1073741824) x4 y4
  rw [wmm a1 b4 c3 d2, KT a2 b1 c4 d3, KU a3 b2 c1 d4, wpp a4 b3 c2 d1, hx, hy]
  simp only [Bool.not_true, Bool.or_self, aF]
  unfold lb
  have hc := sS (mlz x y)
  unfold mlz at hc
  simp only at hc
  rw [hc, aC]
  have e : vz (mlz x y) = vz (x.1 * y.1 - x.2.1 * y.2.2.2 - x.2.2.1 * y.2.2.1 - x.2.2.2 * y.2.1, x.1 * y.2.1 + x.2.1 * y.1 - x.2.2.1 * y.2.2.2 - x.2.2.2 * y.2.2.1, x.1 * y.2.2.1 + x.2.1 * y.2.1 + x.2.2.1 * y.1 - x.2.2.2 * y.2.2.2, x.1 * y.2.2.2 + x.2.1 * y.2.2.1 + x.2.2.1 * y.2.1 + x.2.2.2 * y.1) := rfl
  rw [← e]
  cases hm : vz (mlz x y) with
  | false =>
   rw [if_neg (by rintro ⟨_, _, h⟩; cases h)]
   rfl
  | true =>
   rw [if_pos ⟨by trivial, by trivial, by trivial⟩]
   rfl
 ·rw [if_neg (fun h => hxy ⟨h.1, h.2.1⟩)]
  have : (!vz x || !vz y) = true := by
   cases hx : vz x with
   | false => rfl
   | true => cases hy : vz y with
    | false => rfl
    | true => exact absurd ⟨hx, hy⟩ hxy
  rw [this]
  rfl
theorem JF (x y : Z4) : kQ x.1 x.2.1 x.2.2.1 x.2.2.2 y.1 y.2.1 y.2.2.1 y.2.2.2 = some (oW (if vz x = true ∧ vz y = true ∧ vz (adz x y) = true then some (adz x y) else none)) := by
 unfold kQ
 rw [sS, aC]
 simp only [sS, aC, mP, ix]
 by_cases hxy : vz x = true ∧ vz y = true
 ·obtain ⟨hx, hy⟩ := hxy
  obtain ⟨x1, x2, x3, x4⟩ := (bx x).1 hx
  obtain ⟨y1, y2, y3, y4⟩ := (bx y).1 hy
  rw [w64 (x := x.1 + y.1) (by omega) (by omega), w64 (x := x.2.1 + y.2.1) (by omega) (by omega), w64 (x := x.2.2.1 + y.2.2.1) (by omega) (by omega), w64 (x := x.2.2.2 + y.2.2.2) (by omega) (by omega), hx, hy]
  simp only [Bool.not_true, Bool.or_self, aF]
  unfold lb
  have hc := sS (adz x y)
  have e : vz (adz x y) = vz (x.1 + y.1, x.2.1 + y.2.1, x.2.2.1 + y.2.2.1, x.2.2.2 + y.2.2.2) := rfl
  unfold adz at hc
  simp only at hc
  rw [hc, aC, ← e]
  cases hm : vz (adz x y) with
  | false =>
   rw [if_neg (by rintro ⟨_, _, h⟩; cases h)]
   rfl
  | true =>
   rw [if_pos ⟨by trivial, by trivial, by trivial⟩]
   rfl
 ·rw [if_neg (fun h => hxy ⟨h.1, h.2.1⟩)]
  have : (!vz x || !vz y) = true := by
   cases hx : vz x with
   | false => rfl
   | true => cases hy : vz y with
    | false => rfl
    | true => exact absurd ⟨hx, hy⟩ hxy
  rw [this]
  rfl
theorem uG (x : Z4) : bH x.1 x.2.1 x.2.2.1 x.2.2.2 = some (vz x) := by
 unfold bH f9 lq
 simp only [c9, aC, uF]
 unfold vz
 simp only [Bool.and_assoc]
theorem KW (x : Z4) : jp x.1 x.2.1 x.2.2.1 x.2.2.2 = some (dvF x) := by
 unfold jp
 rw [uG, aC]
 simp only [mP, k8]
 cases hv : vz x with
 | false =>
  simp only [Bool.not_false, aT]
  unfold dvF
  rw [if_neg (by rw [hv]; simp)]
 | true =>
  obtain ⟨b1, b2, b3, b4⟩ := (bx x).1 hv
  rw [w64 (x := x.2.1 - x.2.2.2) (by omega) (by omega), w64 (x := x.1 + x.2.2.1) (by omega) (by omega), w64 (x := x.2.1 + x.2.2.2) (by omega) (by omega), w64 (x := x.2.2.1 - x.1) (by omega) (by omega)]
  simp only [Bool.not_true, aF, tm2]
  have e : (((!((x.2.1 - x.2.2.2) % 2 == 0) || !((x.1 + x.2.2.1) % 2 == 0)) || !((x.2.1 + x.2.2.2) % 2 == 0)) || !((x.2.2.1 - x.1) % 2 == 0)) = !(dvb x) := by
   unfold dvb ev4 rt
   simp only [Bool.not_and, Bool.or_assoc]
  rw [e]
  unfold dvF
  cases hd : dvb x with
  | false => simp only [Bool.not_false, aT]; rw [if_neg (by simp)]
  | true =>
   simp only [Bool.not_true, aF]
   rw [if_pos ⟨hv, by trivial⟩]
   unfold dvb at hd
   rw [lQ] at hd
   obtain ⟨d1, d2, d3, d4⟩ := hd
   unfold rt at d1 d2 d3 d4
   simp only at d1 d2 d3 d4
   rw [td2 d1, td2 d2, td2 d3, td2 d4, w64 (x := (x.2.1 - x.2.2.2) / 2) (by omega) (by omega), w64 (x := (x.1 + x.2.2.1) / 2) (by omega) (by omega), w64 (x := (x.2.1 + x.2.2.2) / 2) (by omega) (by omega), w64 (x := (x.2.2.1 - x.1) / 2) (by omega) (by omega)]
   rfl
theorem D6 (x : DQ) : cG x.1 x.2.1 x.2.2.1 x.2.2.2.1 x.2.2.2.2 = some (vd x) := by
 unfold cG fB
 have h1 := KW (znm x)
 have h2 := uG (znm x)
 unfold znm at h1 h2
 simp only at h1 h2
 rw [h1, aC, h2, aC]
 simp only [c9, aC, uF, mP]
 have e : (dvF (x.1, x.2.1, x.2.2.1, x.2.2.2.1)).2.2.2.2 = (vz (x.1, x.2.1, x.2.2.1, x.2.2.2.1) && dvb (x.1, x.2.1, x.2.2.1, x.2.2.2.1)) := by
  unfold dvF
  cases vz (x.1, x.2.1, x.2.2.1, x.2.2.2.1) <;> cases dvb (x.1, x.2.1, x.2.2.1, x.2.2.2.1) <;> rfl
 rw [e]
 unfold vd znm zex
 cases vz (x.1, x.2.1, x.2.2.1, x.2.2.2.1) <;> cases dvb (x.1, x.2.1, x.2.2.1, x.2.2.2.1) <;> cases (x.2.2.2.2 == 0) <;> cases decide (0 ≤ x.2.2.2.2 ∧ x.2.2.2.2 ≤ 60) <;> rfl
theorem sU : ∀ (m k : Nat) (n : Z4), vz n = true → k < m → k ≤ 120 → dG m k n.1 n.2.1 n.2.2.1 n.2.2.2 = ee ((nd k n).2 : Int) (nd k n).1.1 (nd k n).1.2.1 (nd k n).1.2.2.1 (nd k n).1.2.2.2
 | 0, k, n, _, h, _ => by omega
 | m + 1, 0, n, hv, h, _ => by
  rw [dG]
  rfl
 | m + 1, k + 1, n, hv, h, hk => by
  rw [dG]
  have hlt : decide (0 < ((k + 1 : Nat) : Int)) = true := decide_eq_true (by omega)
  rw [hlt, aT, KW, aC]
  cases hd : dvb n with
  | false =>
   have e1 : dvF n = (0, 0, 0, 0, false) := by unfold dvF; rw [if_neg (by rw [hd]; simp)]
   have e2 : nd (k + 1) n = (n, k + 1) := by unfold nd; rw [hd]; rfl
   rw [e1, e2]
   rfl
  | true =>
   have e1 : dvF n = ((dvh n).1, (dvh n).2.1, (dvh n).2.2.1, (dvh n).2.2.2, true) := by unfold dvF; rw [if_pos ⟨hv, hd⟩]
   have e2 : nd (k + 1) n = nd k (dvh n) := by rw [nd, if_pos hd]
   have hw : IntKind.wrap .i64 (((k + 1 : Nat) : Int) - 1) = (k : Int) := by rw [w64 (by omega) (by omega)]; omega
   rw [e1, e2]
   simp only [Bool.not_true, aF, hw]
   exact sU m k (dvh n) ((bx _).2 (xX hd ((bx n).1 hv))) (by omega) (by omega)
theorem I0 (n : Z4) (k : Int) (hk : 0 ≤ k ∧ k ≤ 120) : iT n.1 n.2.1 n.2.2.1 n.2.2.2 k = some (res (oU n k.toNat)) := by
 unfold iT
 rw [uG, aC]
 have hin : decide (0 ≤ k ∧ k ≤ 120) = true := decide_eq_true hk
 simp only [c9, aC, mP, hin, Bool.not_true, Bool.or_false, it]
 cases hv : vz n with
 | false =>
  simp only [Bool.not_false, aT]
  unfold oU
  rw [if_neg (by rw [hv]; simp)]
  rfl
 | true =>
  simp only [Bool.not_true, aF]
  have e : ((k.toNat : Nat) : Int) = k := by omega
  have := sU FU k.toNat n hv (by rw [bJ]; omega) (by omega)
  rw [e] at this
  rw [this]
  unfold ee oU
  by_cases h60 : (nd k.toNat n).2 ≤ 60
  ·have : decide (60 < ((nd k.toNat n).2 : Int)) = false := decide_eq_false (by omega)
   rw [this, aF, if_pos ⟨hv, h60⟩]
   rfl
  ·have : decide (60 < ((nd k.toNat n).2 : Int)) = true := decide_eq_true (by omega)
   rw [this, aT, if_neg (fun h => h60 h.2)]
   rfl
theorem D7 (x y : Z4) : fx x.1 x.2.1 x.2.2.1 x.2.2.2 y.1 y.2.1 y.2.2.1 y.2.2.2 = some (oW (if vz x = true ∧ vz y = true ∧ vz (mlz x y) = true then some (mlz x y) else none)) := by
 unfold fx
 rw [uG, aC]
 simp only [uG, aC, mP, iw]
 by_cases hxy : vz x = true ∧ vz y = true
 ·obtain ⟨hx, hy⟩ := hxy
  obtain ⟨x1, x2, x3, x4⟩ := (bx x).1 hx
  obtain ⟨y1, y2, y3, y4⟩ := (bx y).1 hy
  have a1 := bC (M := 1073741824) (L := 1073741824) x1 y1; have a2 := bC (M := 1073741824) (L := 1073741824) x1 y2; have a3 := bC (M := 1073741824) (L := 1073741824) x1 y3; have a4 := bC (M := 1073741824) (L := 1073741824) x1 y4
  have b1 := bC (M := 1073741824) (L := 1073741824) x2 y1; have b2 := bC (M := 1073741824) (L := 1073741824) x2 y2; have b3 := bC (M := 1073741824) (L := 1073741824) x2 y3; have b4 := bC (M := 1073741824) (L := 1073741824) x2 y4
  have c1 := bC (M := 1073741824) (L := 1073741824) x3 y1; have c2 := bC (M := 1073741824) (L := 1073741824) x3 y2; have c3 := bC (M := 1073741824) (L := 1073741824) x3 y3; have c4 := bC (M := 1073741824) (L := 1073741824) x3 y4
  have d1 := bC (M := 1073741824) (L := 1073741824) x4 y1; have d2 := bC (M := 1073741824) (L := 1073741824) x4 y2; have d3 := bC (M := 1073741824) (L := 1073741824) x4 y3; have d4 := bC (M := 1073741824) (L := 1073741824) x4 y4
  rw [wmm a1 b4 c3 d2, KT a2 b1 c4 d3, KU a3 b2 c1 d4, wpp a4 b3 c2 d1, hx, hy]
  simp only [Bool.not_true, Bool.or_self, aF]
  unfold qj
  have hc := uG (mlz x y)
  unfold mlz at hc
  simp only at hc
  rw [hc, aC]
  have e : vz (mlz x y) = vz (x.1 * y.1 - x.2.1 * y.2.2.2 - x.2.2.1 * y.2.2.1 - x.2.2.2 * y.2.1, x.1 * y.2.1 + x.2.1 * y.1 - x.2.2.1 * y.2.2.2 - x.2.2.2 * y.2.2.1, x.1 * y.2.2.1 + x.2.1 * y.2.1 + x.2.2.1 * y.1 - x.2.2.2 * y.2.2.2, x.1 * y.2.2.2 + x.2.1 * y.2.2.1 + x.2.2.1 * y.2.1 + x.2.2.2 * y.1) := rfl
  rw [← e]
  cases hm : vz (mlz x y) with
  | false =>
   rw [if_neg (by rintro ⟨_, _, h⟩; cases h)]
   rfl
  | true =>
   rw [if_pos ⟨by trivial, by trivial, by trivial⟩]
   rfl
 ·rw [if_neg (fun h => hxy ⟨h.1, h.2.1⟩)]
  have : (!vz x || !vz y) = true := by
   cases hx : vz x with
   | false => rfl
   | true => cases hy : vz y with
    | false => rfl
    | true => exact absurd ⟨hx, hy⟩ hxy
  rw [this]
  rfl
theorem D8 (x y : Z4) : iU x.1 x.2.1 x.2.2.1 x.2.2.2 y.1 y.2.1 y.2.2.1 y.2.2.2 = some (oW (if vz x = true ∧ vz y = true ∧ vz (adz x y) = true then some (adz x y) else none)) := by
 unfold iU
 rw [uG, aC]
 simp only [uG, aC, mP, iy]
 by_cases hxy : vz x = true ∧ vz y = true
 ·obtain ⟨hx, hy⟩ := hxy
  obtain ⟨x1, x2, x3, x4⟩ := (bx x).1 hx
  obtain ⟨y1, y2, y3, y4⟩ := (bx y).1 hy
  rw [w64 (x := x.1 + y.1) (by omega) (by omega), w64 (x := x.2.1 + y.2.1) (by omega) (by omega), w64 (x := x.2.2.1 + y.2.2.1) (by omega) (by omega), w64 (x := x.2.2.2 + y.2.2.2) (by omega) (by omega), hx, hy]
  simp only [Bool.not_true, Bool.or_self, aF]
  unfold qj
  have hc := uG (adz x y)
  have e : vz (adz x y) = vz (x.1 + y.1, x.2.1 + y.2.1, x.2.2.1 + y.2.2.1, x.2.2.2 + y.2.2.2) := rfl
  unfold adz at hc
  simp only at hc
  rw [hc, aC, ← e]
  cases hm : vz (adz x y) with
  | false =>
   rw [if_neg (by rintro ⟨_, _, h⟩; cases h)]
   rfl
  | true =>
   rw [if_pos ⟨by trivial, by trivial, by trivial⟩]
   rfl
 ·rw [if_neg (fun h => hxy ⟨h.1, h.2.1⟩)]
  have : (!vz x || !vz y) = true := by
   cases hx : vz x with
   | false => rfl
   | true => cases hy : vz y with
    | false => rfl
    | true => exact absurd ⟨hx, hy⟩ hxy
  rw [this]
  rfl
theorem D9 (x : Z4) : mlz x (0, 1, 0, -1) = rt x := by unfold mlz rt; apply fm <;> simp only <;> omega
theorem DA (k : Nat) (x : Z4) : rtn (k + 1) x = rtn k (rt x) := by rw [show rtn (k + 1) x = rt (rtn k x) from rfl]; exact kY 1 k x
theorem I1 {k : Nat} {x : Z4} (h : vz (rt x) = false) : vz (rtn (k + 1) x) = false := by
 rw [Bool.eq_false_iff]
 intro e
 rw [DA] at e
 have := (bx _).2 (kz k ((bx _).1 e))
 rw [h] at this
 cases this
def upz (n : Z4) (k : Nat) : Option Z4 := if vz (rtn k n) = true then some (rtn k n) else none
theorem tZ (t : Nat) : ∀ (m i : Nat) (n : Z4), i ≤ t → t - i < m → t ≤ 1000 → vz n = true → jq (t : Int) m i n.1 n.2.1 n.2.2.1 n.2.2.2 = some (oW (upz n (t - i)))
 | 0, i, n, _, h, _, _ => by omega
 | m + 1, i, n, hi, h, ht, hv => by
  rw [jq]
  by_cases e : i = t
  ·have hlt : decide ((i : Int) < (t : Int)) = false := decide_eq_false (by omega)
   rw [hlt, aF, e, Nat.sub_self]
   unfold upz
   rw [if_pos (show vz (rtn 0 n) = true from hv)]
   rfl
  ·have hlt : decide ((i : Int) < (t : Int)) = true := decide_eq_true (by omega)
   have hm := D7 n (0, 1, 0, -1)
   simp only at hm
   rw [hlt, aT, hm, aC, D9, w64 (by omega) (by omega), show (i : Int) + 1 = ((i + 1 : Nat) : Int) by omega]
   have hs : t - i = (t - (i + 1)) + 1 := by omega
   have h01 : vz (0, 1, 0, -1) = true := by decide
   cases hr : vz (rt n) with
   | false =>
    rw [if_neg (by rintro ⟨_, _, h⟩; cases h), hs]
    unfold upz
    rw [if_neg (by rw [I1 hr]; simp)]
    rfl
   | true =>
    rw [if_pos ⟨hv, h01, by trivial⟩]
    simp only [oW, Bool.not_true, aF]
    rw [tZ t m (i + 1) (rt n) (by omega) (by omega) ht hr, hs]
    unfold upz
    rw [DA]
    rfl
theorem KX (n : Z4) (t : Nat) (ht : t ≤ 1000) (hv : vz n = true) : ql n.1 n.2.1 n.2.2.1 n.2.2.2 (t : Int) = some (oW (upz n t)) := by
 unfold ql
 have := tZ t FU 0 n (by omega) (by rw [bJ]; omega) ht hv
 rw [Nat.sub_zero] at this
 exact this
theorem pJ {x : DQ} (h : vd x = true) : x.2.2.2.2 = (ah x : Int) ∧ ah x ≤ 60 := by
 obtain ⟨_, h2, _⟩ := (ej x).1 h
 unfold ah
 unfold zex at *
 omega
theorem KY (a b : Int) : k6 a b = some (max a b) := by
 unfold k6
 by_cases h : b < a
 ·rw [decide_eq_true h, aT, Int.max_eq_left (by omega)]
 ·rw [decide_eq_false h, aF, Int.max_eq_right (by omega)]
theorem KZ (x y : DQ) : kR x.1 x.2.1 x.2.2.1 x.2.2.2.1 x.2.2.2.2 y.1 y.2.1 y.2.2.1 y.2.2.2.1 y.2.2.2.2 = some (res (if vd x = true ∧ vd y = true then oV x y else none)) := by
 unfold kR
 rw [D6, aC]
 simp only [D6, aC, mP, j0]
 by_cases hxy : vd x = true ∧ vd y = true
 ·rw [if_pos hxy]
  obtain ⟨hx, hy⟩ := hxy
  obtain ⟨ex1, ex2⟩ := pJ hx
  obtain ⟨ey1, ey2⟩ := pJ hy
  rw [hx, hy, ex1, ey1]
  simp only [Bool.not_true, Bool.or_self, aF, KY, aC]
  have hm : max (ah x : Int) (ah y : Int) = ((max (ah x) (ah y) : Nat) : Int) := by omega
  have hK : max (ah x) (ah y) ≤ 60 := Nat.max_le.2 ⟨ex2, ey2⟩
  have hKx : ah x ≤ max (ah x) (ah y) := Nat.le_max_left ..
  have hKy : ah y ≤ max (ah x) (ah y) := Nat.le_max_right ..
  rw [hm]
  unfold oV
  simp only
  generalize max (ah x) (ah y) = K at *
  have u1 := KX (znm x) (K - ah x) (by omega) ((ej x).1 hx).1
  have u2 := KX (znm y) (K - ah y) (by omega) ((ej y).1 hy).1
  unfold znm at u1 u2
  simp only at u1 u2
  rw [w64 (x := (K : Int) - (ah x : Int)) (by omega) (by omega), w64 (x := (K : Int) - (ah y : Int)) (by omega) (by omega), show (K : Int) - (ah x : Int) = ((K - ah x : Nat) : Int) by omega, show (K : Int) - (ah y : Int) = ((K - ah y : Nat) : Int) by omega, u1, aC, u2, aC]
  have f1 : upz (x.1, x.2.1, x.2.2.1, x.2.2.2.1) (K - ah x) = if vz (upF x K) = true then some (upF x K) else none := rfl
  have f2 : upz (y.1, y.2.1, y.2.2.1, y.2.2.2.1) (K - ah y) = if vz (upF y K) = true then some (upF y K) else none := rfl
  rw [f1, f2]
  generalize upF x K = a
  generalize upF y K = b
  have hz0 : vz (0, 0, 0, 0) = true := by decide
  have key : ∀ (p q : Z4) (b1 b2 : Bool), (b1 && b2) = false → bO (iU p.1 p.2.1 p.2.2.1 p.2.2.2 q.1 q.2.1 q.2.2.1 q.2.2.2) (fun x8 => g8 (K : Int) x8 ((!b1 || !b2) || !x8.2.2.2.2)) = some (0, 0, 0, 0, 0, false) := by
   intro p q b1 b2 hb
   rw [D8, aC]
   have : (!b1 || !b2) = true := by cases b1 <;> cases b2 <;> first | rfl | cases hb
   rw [this, Bool.true_or]
   rfl
  cases ha : vz a with
  | false =>
   simp only [Bool.false_eq_true, false_and, if_false]
   cases hb : vz b with
   | false => exact key (0, 0, 0, 0) (0, 0, 0, 0) false false rfl
   | true => exact key (0, 0, 0, 0) b false true rfl
  | true =>
   cases hb : vz b with
   | false =>
    simp only [Bool.false_eq_true, and_false, false_and, if_false]
    exact key a (0, 0, 0, 0) true false rfl
   | true =>
    simp only [if_true, oW, true_and, Bool.not_true, Bool.or_self, Bool.false_or]
    rw [D8, aC, ha, hb]
    simp only [true_and]
    unfold g8
    cases hs : vz (adz a b) with
    | false =>
     simp only [Bool.false_eq_true, if_false, oW, Bool.not_false, aT]
     rfl
    | true =>
     simp only [if_true, oW, Bool.not_true, aF]
     have hn := I0 (adz a b) (K : Int) (by omega)
     rw [hn, aC]
     rfl
 ·rw [if_neg hxy]
  have : (!vd x || !vd y) = true := by
   cases hx : vd x with
   | false => rfl
   | true => cases hy : vd y with
    | false => rfl
    | true => exact absurd ⟨hx, hy⟩ hxy
  rw [this]
  rfl
theorem ta (N : Z4) (T : Nat) : ∀ (m k : Nat) (n : Z4), k ≤ T → T - k < m → T ≤ 1000 → vz n = true → de N.1 N.2.1 N.2.2.1 N.2.2.2 (T : Int) m k n.1 n.2.1 n.2.2.1 n.2.2.2 =
  (match upz n (T - k) with | some z => fy N.1 N.2.1 N.2.2.1 N.2.2.2 (T : Int) z.1 z.2.1 z.2.2.1 z.2.2.2 | none => some (0, 0, 0, 0, 0, false))
 | 0, k, n, _, h, _, _ => by omega
 | m + 1, k, n, hk, h, hT, hv => by
  rw [de]
  by_cases e : k = T
  ·have hlt : decide ((k : Int) < (T : Int)) = false := decide_eq_false (by omega)
   rw [hlt, aF, e, Nat.sub_self]
   unfold upz
   rw [if_pos (show vz (rtn 0 n) = true from hv)]
   rfl
  ·have hlt : decide ((k : Int) < (T : Int)) = true := decide_eq_true (by omega)
   have hm := D5 n (0, 1, 0, -1)
   simp only at hm
   have hro : u6 = some (0, 1, 0, -1) := rfl
   rw [hlt, aT, hro, aC]
   simp only
   rw [hm, aC, D9, w64 (by omega) (by omega), show (k : Int) + 1 = ((k + 1 : Nat) : Int) by omega]
   have hs : T - k = (T - (k + 1)) + 1 := by omega
   have h01 : vz (0, 1, 0, -1) = true := by decide
   cases hr : vz (rt n) with
   | false =>
    rw [if_neg (by rintro ⟨_, _, h⟩; cases h), hs]
    unfold upz
    rw [if_neg (by rw [I1 hr]; simp)]
    rfl
   | true =>
    rw [if_pos ⟨hv, h01, by trivial⟩]
    simp only [oW, Bool.not_true, aF]
    rw [ta N T m (k + 1) (rt n) (by omega) (by omega) hT hr, hs]
    unfold upz
    rw [DA]
theorem vU {x y : DQ} (hx : vd x = true) (hy : vd y = true) (hle : ah y ≤ ah x) : eg x.1 x.2.1 x.2.2.1 x.2.2.2.1 x.2.2.2.2 y.1 y.2.1 y.2.2.1 y.2.2.2.1 y.2.2.2.2 = some (res (oV x y)) := by
 obtain ⟨ex1, ex2⟩ := pJ hx
 obtain ⟨ey1, ey2⟩ := pJ hy
 unfold eg
 rw [ex1, ey1]
 have hl := ta (znm x) (ah x) FU (ah y) (znm y) hle (by rw [bJ]; omega) (by omega) ((ej y).1 hy).1
 unfold znm at hl
 simp only at hl
 rw [hl]
 have hK : max (ah x) (ah y) = ah x := Nat.max_eq_left hle
 unfold oV
 simp only [hK]
 have f2 : upz (y.1, y.2.1, y.2.2.1, y.2.2.2.1) (ah x - ah y) = if vz (upF y (ah x)) = true then some (upF y (ah x)) else none := rfl
 have f1 : upF x (ah x) = znm x := by unfold upF; rw [Nat.sub_self]; rfl
 rw [f2, f1]
 generalize upF y (ah x) = b
 have hvx := ((ej x).1 hx).1
 rw [hvx]
 cases hb : vz b with
 | false =>
  simp only [Bool.false_eq_true, and_false, false_and, if_false]
  rfl
 | true =>
  simp only [if_true, true_and]
  unfold fy
  have ha := JF (znm x) b
  rw [hvx, hb] at ha
  simp only [true_and] at ha
  unfold znm at ha
  simp only at ha
  rw [ha, aC]
  have en : adz (znm x) b = adz (x.1, x.2.1, x.2.2.1, x.2.2.2.1) b := rfl
  rw [en]
  cases hs : vz (adz (x.1, x.2.1, x.2.2.1, x.2.2.2.1) b) with
  | false =>
   simp only [Bool.false_eq_true, if_false, oW, Bool.not_false, aT]
   rfl
  | true =>
   simp only [if_true, oW, Bool.not_true, aF]
   have hn := Hz (adz (x.1, x.2.1, x.2.2.1, x.2.2.2.1) b) (ah x : Int) (by omega)
   rw [hn, aC]
   rfl
theorem xa (x y : DQ) : g7 x.1 x.2.1 x.2.2.1 x.2.2.2.1 x.2.2.2.2 y.1 y.2.1 y.2.2.1 y.2.2.2.1 y.2.2.2.2 = some (res (if vd x = true ∧ vd y = true then oV x y else none)) := by
 unfold g7
 rw [wh, aC]
 simp only [wh, aC, mP, iz]
 by_cases hxy : vd x = true ∧ vd y = true
 ·rw [if_pos hxy]
  obtain ⟨hx, hy⟩ := hxy
  obtain ⟨ex1, ex2⟩ := pJ hx
  obtain ⟨ey1, ey2⟩ := pJ hy
  rw [hx, hy]
  simp only [Bool.not_true, Bool.or_self, aF]
  by_cases hlt : x.2.2.2.2 < y.2.2.2.2
  ·rw [decide_eq_true hlt, aT, vU hy hx (by omega), AM]
  ·rw [decide_eq_false hlt, aF, vU hx hy (by omega)]
 ·rw [if_neg hxy]
  have : (!vd x || !vd y) = true := by
   cases hx : vd x with
   | false => rfl
   | true => cases hy : vd y with
    | false => rfl
    | true => exact absurd ⟨hx, hy⟩ hxy
  rw [this]
  rfl
theorem wj (x y : DQ) : g9 x.1 x.2.1 x.2.2.1 x.2.2.2.1 x.2.2.2.2 y.1 y.2.1 y.2.2.1 y.2.2.2.1 y.2.2.2.2 = some (res (if vd x = true ∧ vd y = true then nG x y else none)) := by
 unfold g9
 rw [wh, aC]
 simp only [wh, aC, mP, j5]
 by_cases hxy : vd x = true ∧ vd y = true
 ·rw [if_pos hxy]
  obtain ⟨hx, hy⟩ := hxy
  obtain ⟨ex1, ex2⟩ := pJ hx
  obtain ⟨ey1, ey2⟩ := pJ hy
  rw [hx, hy]
  simp only [Bool.not_true, Bool.or_self, aF]
  have hm := D5 (znm x) (znm y)
  rw [((ej x).1 hx).1, ((ej y).1 hy).1] at hm
  simp only [true_and] at hm
  unfold nG
  have e1 : fw x.1 x.2.1 x.2.2.1 x.2.2.2.1 y.1 y.2.1 y.2.2.1 y.2.2.2.1 = _ := hm
  rw [e1, aC]
  cases hs : vz (mlz (znm x) (znm y)) with
  | false =>
   simp only [Bool.false_eq_true, if_false, oW, Bool.not_false, aT]
   rfl
  | true =>
   simp only [if_true, oW, Bool.not_true, aF]
   have hn := Hz (mlz (znm x) (znm y)) ((ah x + ah y : Nat) : Int) (by omega)
   rw [Int.toNat_natCast] at hn
   rw [ex1, ey1, w64 (by omega) (by omega), show (ah x : Int) + (ah y : Int) = ((ah x + ah y : Nat) : Int) by omega, hn, aC]
 ·rw [if_neg hxy]
  have : (!vd x || !vd y) = true := by
   cases hx : vd x with
   | false => rfl
   | true => cases hy : vd y with
    | false => rfl
    | true => exact absurd ⟨hx, hy⟩ hxy
  rw [this]
  rfl
theorem JG (x y : DQ) : kS x.1 x.2.1 x.2.2.1 x.2.2.2.1 x.2.2.2.2 y.1 y.2.1 y.2.2.1 y.2.2.2.1 y.2.2.2.2 = some (res (if vd x = true ∧ vd y = true then nG x y else none)) := by
 unfold kS
 have hm := D7 (znm x) (znm y)
 have e1 : fx x.1 x.2.1 x.2.2.1 x.2.2.2.1 y.1 y.2.1 y.2.2.1 y.2.2.2.1 = _ := hm
 rw [e1, aC, D6, aC]
 simp only [D6, aC, mP, j6]
 by_cases hxy : vd x = true ∧ vd y = true
 ·rw [if_pos hxy]
  obtain ⟨hx, hy⟩ := hxy
  obtain ⟨ex1, ex2⟩ := pJ hx
  obtain ⟨ey1, ey2⟩ := pJ hy
  rw [hx, hy, ((ej x).1 hx).1, ((ej y).1 hy).1]
  simp only [Bool.not_true, Bool.or_self, Bool.false_or, true_and]
  unfold nG
  cases hs : vz (mlz (znm x) (znm y)) with
  | false =>
   simp only [Bool.false_eq_true, if_false, oW, Bool.not_false, aT]
   rfl
  | true =>
   simp only [if_true, oW, Bool.not_true, aF]
   have hn := I0 (mlz (znm x) (znm y)) ((ah x + ah y : Nat) : Int) (by omega)
   rw [Int.toNat_natCast] at hn
   rw [ex1, ey1, w64 (by omega) (by omega), show (ah x : Int) + (ah y : Int) = ((ah x + ah y : Nat) : Int) by omega, hn, aC]
 ·rw [if_neg hxy]
  have : (!vd x || !vd y) = true := by
   cases hx : vd x with
   | false => rfl
   | true => cases hy : vd y with
    | false => rfl
    | true => exact absurd ⟨hx, hy⟩ hxy
  rw [this, Bool.true_or]
  rfl
theorem AQ {N : Int} {l : List Q4} {k : Nat} {q : Q4} (h : AO N l k = true) (hq : l[k]? = some q) : q.1 = N ∧ hP q = true := by
 unfold AO at h
 rw [hq] at h
 simp only [Bool.and_eq_true, beq_iff_eq] at h
 exact ⟨h.1, h.2.1⟩
theorem Ka {q : Q4} (h : hP q = true) : vP q = true := by
 unfold hP at h
 rw [Bool.and_eq_true] at h
 exact h.1
def I2 (N : Int) (l : List Q4) (q : Q4) (k i : Nat) : Bool := match l[i]? with
 | some r => !(cP r q == decide ((k : Int) = (i : Int) + N))
 | none => false
theorem HN {N : Int} {l : List Q4} {k : Nat} {q : Q4} (hq : l[k]? = some q) : AO N l k = ((q.1 == N) && (hP q && (List.range k).all (I2 N l q k))) := by
 unfold AO; rw [hq]; rfl
theorem HO {α : Type} {l : List α} {k : Nat} (h : k ≤ l.length) : slc l 0 (k : Int) = some (l.take k) := by
 unfold slc
 rw [if_pos ⟨by omega, by omega, by omega⟩]
 simp
def HP (a b : Q4) : Q4 := (a.1, xo a.2.1 b.2.1, xo a.2.2.1 b.2.2.1, (a.2.2.2 + b.2.2.2 + 2 * pc (an a.2.2.1 b.2.1)) % 4)
theorem I3 {x y : Int} {k : Nat} (hx : 0 ≤ x ∧ x < 2 ^ k) (hy : 0 ≤ y ∧ y < 2 ^ k) : 0 ≤ xo x y ∧ xo x y < 2 ^ k := by
 have e : ((2 ^ k : Nat) : Int) = 2 ^ k := by simp
 have := Nat.xor_lt_two_pow (x := x.toNat) (y := y.toNat) (n := k) (by omega) (by omega)
 unfold xo; omega
theorem HQ {a b : Q4} (ha : vP a = true) (hb : vP b = true) (h : a.1 = b.1) : vP (HP a b) = true := by
 obtain ⟨n, x, z, p⟩ := a
 obtain ⟨m, y, w, r⟩ := b
 simp only at h
 subst h
 obtain ⟨h1, h2, h3, h4⟩ := uE.1 ha
 obtain ⟨_, k2, k3, k4⟩ := uE.1 hb
 have b1 := KS (an z y)
 exact uE.2 ⟨h1, I3 h2 k2, I3 h3 k3, by omega⟩
theorem AU : ∀ r a b : Fin 16, (pc (an (r.val : Int) (xo (a.val : Int) (b.val : Int))) - pc (an (r.val : Int) (a.val : Int)) - pc (an (r.val : Int) (b.val : Int))) % 2 = 0 := by decide +kernel
theorem I4 {r a b : Int} (hr : Sm r) (ha : Sm a) (hb : Sm b) : (pc (an r (xo a b)) - pc (an r a) - pc (an r b)) % 2 = 0 := by
 obtain ⟨r, rfl⟩ := hr.fin; obtain ⟨a, rfl⟩ := ha.fin; obtain ⟨b, rfl⟩ := hb.fin
 exact AU r a b
theorem uH (a b : Int) : an a b = an b a := by unfold an; rw [Nat.and_comm]
theorem HR (a b : Q4) : cP a b = cP b a := by
 unfold cP
 rw [uH b.2.1, uH b.2.2.1, Int.add_comm]
theorem HS (a : Q4) : cP a a = true := by
 unfold cP
 rw [uH a.2.2.1]
 rw [decide_eq_true_eq]; omega
theorem JH {r a b : Q4} (hr : vP r = true) (ha : vP a = true) (hb : vP b = true) (h1 : cP r a = true) (h2 : cP r b = true) : cP r (HP a b) = true := by
 obtain ⟨r0, r1, r2, r3⟩ := r
 obtain ⟨a0, a1, a2, a3⟩ := a
 obtain ⟨b0, b1, b2, b3⟩ := b
 obtain ⟨u1, u2, _⟩ := D4 hr
 obtain ⟨v1, v2, _⟩ := D4 ha
 obtain ⟨w1, w2, _⟩ := D4 hb
 simp only [cP, HP] at h1 h2 ⊢
 have h1 := of_decide_eq_true h1
 have h2 := of_decide_eq_true h2
 refine decide_eq_true ?_
 have e1 := I4 u1 v2 w2
 have e2 := I4 u2 v1 w1
 omega
theorem uI {N : Int} {l : List Q4} (h : tB N l = true) : (1 ≤ N ∧ N ≤ 4) ∧ (l.length : Int) = 2 * N ∧ ∀ k, k < l.length → AO N l k = true := by
 unfold tB at h
 simp only [Bool.and_eq_true, decide_eq_true_eq, List.all_eq_true, List.mem_range] at h
 exact ⟨h.1, h.2.1, h.2.2⟩
theorem DB {N : Int} {l : List Q4} (h : tB N l = true) {k : Nat} {q : Q4} (hq : l[k]? = some q) : q.1 = N ∧ vP q = true := by
 obtain ⟨_, _, h3⟩ := uI h
 have hk : k < l.length := by
  rcases Nat.lt_or_ge k l.length with h' | h'
  ·exact h'
  ·rw [List.getElem?_eq_none h'] at hq; cases hq
 obtain ⟨e, g⟩ := AQ (h3 k hk) hq
 exact ⟨e, Ka g⟩
theorem r9 {N : Int} {l : List Q4} (h : tB N l = true) {i k : Nat} {r q : Q4} (hr : l[i]? = some r) (hq : l[k]? = some q) (hik : i < k) (hk : k < l.length) (hN : N ≤ i) : cP r q = true := by
 obtain ⟨h1, h2, h3⟩ := uI h
 have hb := h3 k hk
 rw [HN hq] at hb
 simp only [Bool.and_eq_true, List.all_eq_true, List.mem_range] at hb
 have hc := hb.2.2 i hik
 unfold I2 at hc
 rw [hr] at hc
 have hne : decide ((k : Int) = (i : Int) + N) = false := decide_eq_false (by omega)
 simp only [hne] at hc
 cases hcp : cP r q with
 | true => rfl
 | false => rw [hcp] at hc; simp at hc
theorem DC {N : Int} {l : List Q4} (h : tB N l = true) {i k : Nat} {r q : Q4} (hr : l[i]? = some r) (hq : l[k]? = some q) (hi : i < l.length) (hk : k < l.length) (hN : N ≤ i) (hN' : N ≤ k) : cP r q = true := by
 rcases Nat.lt_trichotomy i k with h' | h' | h'
 ·exact r9 h hr hq h' hk hN
 ·subst h'
  rw [hr] at hq; injection hq with hq; subst hq
  exact HS r
 ·rw [HR]; exact r9 h hq hr h' hi hN'
def DD (N : Int) (l : List Q4) (p : Q4) : Prop := p.1 = N ∧ vP p = true ∧ ∀ (j : Nat) (r : Q4), N ≤ j → l[j]? = some r → cP r p = true
theorem DD.mul {N : Int} {l : List Q4} (h : tB N l = true) {p q : Q4} (hp : DD N l p) {k : Nat} (hq : l[k]? = some q) (hk : N ≤ k) : DD N l (HP p q) := by
 obtain ⟨e, g⟩ := DB h hq
 have lt : ∀ {j : Nat} {r : Q4}, l[j]? = some r → j < l.length := fun {j r} hr => by
  rcases Nat.lt_or_ge j l.length with h' | h'
  ·exact h'
  ·rw [List.getElem?_eq_none h'] at hr; cases hr
 refine ⟨hp.1, HQ hp.2.1 g (hp.1.trans e.symm), fun j r hj hr => ?_⟩
 exact JH (DB h hr).2 hp.2.1 g (hp.2.2 j r hj hr) (DC h hr hq (lt hr) (lt hq) hj hk)
theorem pc0 (x : Int) : pc (an x 0) = 0 := by unfold an; simp [pc]
theorem DD.one {N : Int} {l : List Q4} (h : tB N l = true) : DD N l (N, 0, 0, 0) := by
 obtain ⟨h1, _, _⟩ := uI h
 refine ⟨rfl, ?_, fun j r _ _ => ?_⟩
 ·rcases sp h1 with rfl | rfl | rfl | rfl <;> rfl
 ·unfold cP; simp only [pc0]; rfl
def qcF (n : Nat) : Int := if n = 2 then 1 else if n = 4 then 2 else if n = 8 then 3 else if n = 16 then 4 else 0
def stB (v : List DQ) : Bool := v.all vd && decide (0 < qcF v.length)
theorem JI {n : Nat} (h : 0 < qcF n) : n ≤ 16 := by unfold qcF at h; (repeat' split at h) <;> omega
def gBv {α : Type} (f : α → Bool) (v : List α) (k : Nat) : Bool := match v[k]? with
 | some q => f q
 | none => false
theorem uJ {α : Type} (f : α → Bool) {v : List α} {k : Nat} (h : k < v.length) : gBv f v k = f v[k] := by unfold gBv; rw [List.getElem?_eq_getElem h]
theorem xb {α : Type} (v : List α) (f : α → Bool) : (List.range v.length).all (gBv f v) = v.all f := by
 rw [Bool.eq_iff_iff, List.all_eq_true, List.all_eq_true]
 constructor
 ·intro h q hq
  obtain ⟨i, hi, rfl⟩ := List.getElem_of_mem hq
  have := h i (List.mem_range.2 hi)
  rw [uJ f hi] at this
  exact this
 ·intro h k hk
  have hk := List.mem_range.1 hk
  rw [uJ f hk]
  exact h _ (List.getElem_mem hk)
theorem I5 (n : Nat) : (if (n : Int) = 2 then (1 : Int) else if (n : Int) = 4 then 2 else if (n : Int) = 8 then 3 else if (n : Int) = 16 then 4 else 0) = qcF n := by
 unfold qcF
 by_cases h2 : n = 2
 ·subst h2; rfl
 by_cases h4 : n = 4
 ·subst h4; rfl
 by_cases h8 : n = 8
 ·subst h8; rfl
 by_cases h16 : n = 16
 ·subst h16; rfl
 rw [if_neg (by omega), if_neg (by omega), if_neg (by omega), if_neg (by omega), if_neg h2, if_neg h4, if_neg h8, if_neg h16]
theorem DE (q : DQ) : ((q.1 == 0) && ((q.2.1 == 0) && ((q.2.2.1 == 0) && ((q.2.2.2.1 == 0) && (q.2.2.2.2 == 0))))) = decide (q = d0) := by
 obtain ⟨a, b, c, d, e⟩ := q
 rw [Bool.eq_iff_iff]
 simp [d0]
theorem Kb (v : List DQ) : gM v = some (qcF v.length) := by
 unfold gM
 have st : ∀ (m : Nat) (j : Nat), 1 ≤ j ∧ j ≤ 4 → bk v (m + 1) (j : Int) = br ((v.length : Int) == (2 : Int) ^ j) (some (j : Int)) (bk v m ((j + 1 : Nat) : Int)) := by
  intro m j hj
  have : j = 1 ∨ j = 2 ∨ j = 3 ∨ j = 4 := by omega
  rw [bk]
  rcases this with rfl | rfl | rfl | rfl <;> rfl
 have s5 : ∀ m, bk v (m + 1) ((5 : Nat) : Int) = some 0 := by
  intro m
  rw [bk]
  rfl
 obtain ⟨k, hk⟩ : ∃ k, FU = ((((k + 1) + 1) + 1) + 1) + 1 := ⟨4194299, rfl⟩
 have h1 := st ((((k + 1) + 1) + 1) + 1) 1 (by omega)
 have h2 := st (((k + 1) + 1) + 1) 2 (by omega)
 have h3 := st ((k + 1) + 1) 3 (by omega)
 have h4 := st (k + 1) 4 (by omega)
 have h5 := s5 k
 rw [hk]
 show bk v (((((k + 1) + 1) + 1) + 1) + 1) ((1 : Nat) : Int) = _
 rw [h1, h2, h3, h4, h5, ← I5]
 generalize (v.length : Int) = L
 show br (L == 2) (some 1) (br (L == 4) (some 2) (br (L == 8) (some 3) (br (L == 16) (some 4) (some 0)))) = _
 by_cases e2 : L = 2
 ·subst e2; rfl
 by_cases e4 : L = 4
 ·subst e4; rfl
 by_cases e8 : L = 8
 ·subst e8; rfl
 by_cases e16 : L = 16
 ·subst e16; rfl
 have c2 : (L == 2) = false := by simpa using e2
 have c4 : (L == 4) = false := by simpa using e4
 have c8 : (L == 8) = false := by simpa using e8
 have c16 : (L == 16) = false := by simpa using e16
 rw [c2, c4, c8, c16, if_neg e2, if_neg e4, if_neg e8, if_neg e16]
 rfl
theorem Kc (v : List DQ) : gN v = some (qcF v.length) := by
 unfold gN
 have st : ∀ (m : Nat) (j : Nat), 1 ≤ j ∧ j ≤ 4 → bm v (m + 1) (j : Int) = br ((v.length : Int) == (2 : Int) ^ j) (some (j : Int)) (bm v m ((j + 1 : Nat) : Int)) := by
  intro m j hj
  have : j = 1 ∨ j = 2 ∨ j = 3 ∨ j = 4 := by omega
  rw [bm]
  rcases this with rfl | rfl | rfl | rfl <;> rfl
 have s5 : ∀ m, bm v (m + 1) ((5 : Nat) : Int) = some 0 := by
  intro m
  rw [bm]
  rfl
 obtain ⟨k, hk⟩ : ∃ k, FU = ((((k + 1) + 1) + 1) + 1) + 1 := ⟨4194299, rfl⟩
 have h1 := st ((((k + 1) + 1) + 1) + 1) 1 (by omega)
 have h2 := st (((k + 1) + 1) + 1) 2 (by omega)
 have h3 := st ((k + 1) + 1) 3 (by omega)
 have h4 := st (k + 1) 4 (by omega)
 have h5 := s5 k
 rw [hk]
 show bm v (((((k + 1) + 1) + 1) + 1) + 1) ((1 : Nat) : Int) = _
 rw [h1, h2, h3, h4, h5, ← I5]
 generalize (v.length : Int) = L
 show br (L == 2) (some 1) (br (L == 4) (some 2) (br (L == 8) (some 3) (br (L == 16) (some 4) (some 0)))) = _
 by_cases e2 : L = 2
 ·subst e2; rfl
 by_cases e4 : L = 4
 ·subst e4; rfl
 by_cases e8 : L = 8
 ·subst e8; rfl
 by_cases e16 : L = 16
 ·subst e16; rfl
 have c2 : (L == 2) = false := by simpa using e2
 have c4 : (L == 4) = false := by simpa using e4
 have c8 : (L == 8) = false := by simpa using e8
 have c16 : (L == 16) = false := by simpa using e16
 rw [c2, c4, c8, c16, if_neg e2, if_neg e4, if_neg e8, if_neg e16]
 rfl
theorem JJ (v : List DQ) (hl : v.length ≤ 4000000) : dg v = some (stB v) := by
 unfold dg
 rw [Kb, aC]
 unfold stB
 by_cases h0 : qcF v.length = 0
 ·rw [h0]
  simp only [beq_self_eq_true, aT, Int.lt_irrefl, decide_false, Bool.and_false]
 ·have c : (qcF v.length == 0) = false := by simpa using h0
  have hp : 0 < qcF v.length := by unfold qcF at h0 ⊢; (repeat' split) <;> simp_all
  rw [c, aF, decide_eq_true hp, Bool.and_true, ← xb]
  rw [ov (fun m k => bb v m (v.length : Int) k) v.length (gBv vd v) hl (fun m k hk => ?_) (some true) (fun m => ?_)]
  ·cases (List.range v.length).all (gBv vd v) <;> rfl
  ·have hlt : decide ((k : Int) < (v.length : Int)) = true := decide_eq_true (by omega)
   show bb v (m + 1) (v.length : Int) (k : Int) = _
   rw [bb, hlt, aT, aw hk, aC, wh, aC, cb hk (by omega), uJ vd hk]
   cases vd v[k] <;> rfl
  ·have hlt : decide ((v.length : Int) < (v.length : Int)) = false := decide_eq_false (by omega)
   show bb v (m + 1) (v.length : Int) (v.length : Int) = _
   rw [bb, hlt, aF]
   rfl
theorem Ls (v : List DQ) (hl : v.length ≤ 4000000) : gA v = some (stB v) := by
 unfold gA
 unfold stB
 rw [← xb]
 rw [ov (fun m k => bc v m k) v.length (gBv vd v) hl (fun m k hk => ?_) (some (decide (0 < qcF v.length))) (fun m => ?_)]
 ·cases (List.range v.length).all (gBv vd v) <;> rfl
 ·have hlt : decide ((k : Int) < (v.length : Int)) = true := decide_eq_true (by omega)
  show bc v (m + 1) (k : Int) = _
  rw [bc, hlt, aT, aw hk, aC, D6, aC, cb hk (by omega), uJ vd hk]
  cases vd v[k] <;> rfl
 ·have hlt : decide ((v.length : Int) < (v.length : Int)) = false := decide_eq_false (by omega)
  show bc v (m + 1) (v.length : Int) = _
  rw [bc, hlt, aF]
  unfold fk
  rw [Kc, aC]
theorem DF (row v : List DQ) (hl : row.length ≤ 4000000) (hlen : row.length = v.length) (hr : ∀ x ∈ row, vd x = true) (hv : ∀ x ∈ v, vd x = true) : vS row v = some (res (we d0 row v)) := by
 unfold vS
 have key : ∀ (m i : Nat) (s : DQ), i ≤ row.length → row.length - i < m → vd s = true → kX row v m (row.length : Int) i s.1 s.2.1 s.2.2.1 s.2.2.2.1 s.2.2.2.2 = some (res (we s (row.drop i) (v.drop i))) := by
  intro m
  induction m with
  | zero => intro i s _ h; omega
  | succ m ih =>
   intro i s hi hm hs
   rw [kX]
   by_cases e : i = row.length
   ·have hlt : decide ((i : Int) < (row.length : Int)) = false := decide_eq_false (by omega)
    rw [hlt, aF, List.drop_eq_nil_of_le (by omega)]
    rfl
   ·have hil : i < row.length := by omega
    have hiv : i < v.length := by omega
    have hlt : decide ((i : Int) < (row.length : Int)) = true := decide_eq_true (by omega)
    have v1 := hr _ (List.getElem_mem hil)
    have v2 := hv _ (List.getElem_mem hiv)
    rw [hlt, aT, aw hil, aC, aw hiv, aC, wj, aC, if_pos ⟨v1, v2⟩, List.drop_eq_getElem_cons hil, List.drop_eq_getElem_cons hiv]
    unfold we
    cases hmu : nG row[i] v[i] with
    | none =>
     have ha := xa s d0
     unfold d0 at ha
     simp only at ha
     simp only [res]
     rw [ha, aC]
     rfl
    | some p =>
     have vp := (HJ hmu).1
     have ha := xa s p
     rw [if_pos ⟨hs, vp⟩] at ha
     simp only [res]
     rw [ha, aC]
     cases had : oV s p with
     | none =>
      rw [Option.bind_some, had]
      rfl
     | some z =>
      rw [Option.bind_some, had, Option.bind_some]
      simp only [res, Bool.not_true, aF, aC, qK]
      rw [cb hil (by omega)]
      exact ih (i + 1) z (by omega) (by omega) (HK had).1
 exact key FU 0 d0 (by omega) (by rw [bJ]; omega) D3
theorem wl {v : List DQ} (h : stB v = true) : (∀ x ∈ v, vd x = true) ∧ v.length ≤ 16 := by
 unfold stB at h
 rw [Bool.and_eq_true, List.all_eq_true, decide_eq_true_eq] at h
 exact ⟨h.1, JI h.2⟩
theorem vV {a b : List DQ} (h : a.length = b.length) : (List.range a.length).all (fun k => a[k]? == b[k]?) = (a == b) := by
 rw [Bool.eq_iff_iff, List.all_eq_true, beq_iff_eq]
 constructor
 ·intro hh
  refine List.ext_getElem? fun k => ?_
  by_cases hk : k < a.length
  ·exact eq_of_beq (hh k (List.mem_range.2 hk))
  ·rw [List.getElem?_eq_none (by omega), List.getElem?_eq_none (by omega)]
 ·intro hh k _; rw [hh]; exact beq_self_eq_true _
theorem Kd (a b : List DQ) (hl : a.length ≤ 4000000) : dP a b = some (a == b) := by
 unfold dP
 by_cases h : a.length = b.length
 ·have : ((a.length : Int) != (b.length : Int)) = false := by rw [h]; simp
  rw [this, aF, ← vV h]
  rw [ov (fun m k => ay a b m (a.length : Int) k) a.length (fun k => a[k]? == b[k]?) hl (fun m k hk => ?_) (some true) (fun m => ?_)]
  ·cases (List.range a.length).all (fun k => a[k]? == b[k]?) <;> rfl
  ·have hk' : k < b.length := by omega
   have hlt : decide ((k : Int) < (a.length : Int)) = true := decide_eq_true (by omega)
   show ay a b (m + 1) (a.length : Int) (k : Int) = _
   rw [ay, hlt, aT, aw hk, aC, aw hk', aC, cb hk (by omega), List.getElem?_eq_getElem hk, List.getElem?_eq_getElem hk']
   have e : ((a[k].1 == b[k].1) && ((a[k].2.1 == b[k].2.1) && ((a[k].2.2.1 == b[k].2.2.1) && ((a[k].2.2.2.1 == b[k].2.2.2.1) && (a[k].2.2.2.2 == b[k].2.2.2.2))))) = (some a[k] == some b[k]) := rfl
   rw [e]
   cases (some a[k] == some b[k]) <;> rfl
  ·have hlt : decide ((a.length : Int) < (a.length : Int)) = false := decide_eq_false (by omega)
   show ay a b (m + 1) (a.length : Int) (a.length : Int) = _
   rw [ay, hlt, aF]
   rfl
 ·have : ((a.length : Int) != (b.length : Int)) = true := by simp; omega
  rw [this, aT]
  have : (a == b) = false := by
   rw [Bool.eq_false_iff]; intro e
   rw [beq_iff_eq] at e
   exact h (by rw [e])
  rw [this]
end Go.Proofs.YtbfmljdablopjaaGreat
