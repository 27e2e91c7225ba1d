/- Texts joined by a program (short names, no comments): Mim Mig Miv Mii Mis Mrv Map Msb Msd Msc Mse Msf Mzf Meb Mzc Pra Prb Pa Pza Pb Pm Prc Pzb Pva Pvb Mar. -/
import Derived.Test.YtbfmljdablopjaaGreatK3
import Derived.Test.YtbfmljdablopjaaGreatProg
namespace Go.Proofs.YtbfmljdablopjaaGreat
open Go.RowKit
set_option maxRecDepth 100000
set_option linter.unusedVariables false
set_option linter.unusedSimpArgs false
set_option linter.defProp false
set_option maxHeartbeats 4000000
def dG (v137 v138 : Int) (kl13 : Int → Int → (LF) → Option (LZ)) (v140 : LF) : Option (LZ) :=
  kl13 v137 (IntKind.wrap .i64 (v138 + 1)) v140
def cf (v127 v128 v129 : Int) (kl12 : Int → Int → Int → (List (LF)) → Option (LZ)) (v141 : List (LF)) : Option (LZ) :=
  kl12 v127 (IntKind.wrap .i64 (v128 + 1)) v129 v141
def bD (a3 v97 v127 v128 v129 : Int) (v130 : List (LF)) (kl12 : Int → Int → Int → (List (LF)) → Option (LZ)) : Nat → Int → Int → (LF) → Option (LZ)
  | 0, _, _, _ => none
  | n13 + 1, v137, v138, v139 =>
  br (decide (v138 < v137)) (gd (decide (¬ a3 < 0)) (br ((bits .and .i64 (Int.fdiv v138 (2 ^ min (Int.toNat a3) (IntKind.bits .i64))) 1) != v97) (bO (ak v139 v138) fun q36 => dG v137 v138 (bD a3 v97 v127 v128 v129 v130 kl12 n13) (v139.set (Int.toNat v138) ((0, 0, 0, 0, 0)))) (dG v137 v138 (bD a3 v97 v127 v128 v129 v130 kl12 n13) v139))) (cf v127 v128 v129 kl12 (v130.set (Int.toNat v128) v139))
def dH (v97 : Int) (kl9 : Int → (LZ) → Option (LZ)) (v144 : LZ) : Option (LZ) :=
  kl9 (IntKind.wrap .i64 (v97 + 1)) v144
def cg (v97 : Int) (v98 : LZ) (kl9 : Int → (LZ) → Option (LZ)) (v142 : Int) (v143 : List (LF)) : Option (LZ) :=
  bO (o6 v142 v143) fun x10 => br (!x10) (gd (decide (v98.length + ([(v142, v143)]).length ≤ 16777216)) (dH v97 kl9 (v98 ++ ([(v142, v143)])))) (dH v97 kl9 v98)
def az (a3 v97 : Int) (v98 : LZ) (kl9 : Int → (LZ) → Option (LZ)) : Nat → Int → Int → Int → (List (LF)) → Option (LZ)
  | 0, _, _, _, _ => none
  | n12 + 1, v127, v128, v129, v130 =>
  br (decide (v128 < v127)) (bO (ak v130 v128) fun q33 => bD a3 v97 v127 v128 v129 v130 (az a3 v97 v98 kl9 n12) FU ((q33.length : Int)) 0 q33) (cg v97 v98 kl9 v129 v130)
def et (v145 : LZ) : Option (LZ) :=
  some v145
def am (a1 : Int) (a2 : List (LF)) (a3 a4 : Int) : Nat → Int → (LZ) → Option (LZ)
  | 0, _, _ => none
  | n9 + 1, v97, v98 =>
  br (decide (v97 < 2)) (bO (kv a1 a2) fun x9 => gd (decide (¬ a4 < 0)) (az a3 v97 v98 (am a1 a2 a3 a4 n9) FU ((x9.2.length : Int)) 0 (IntKind.wrap .i64 (x9.1 + (IntKind.wrap .i64 (v97 * 2 ^ min (Int.toNat a4) (IntKind.bits .i64))))) x9.2)) (et v98)
def eu (a1 : Int) (a2 : List (LF)) (a3 a4 : Int) (v1 : Bool) : Option (LZ) :=
  br v1 (some ([])) (am a1 a2 a3 a4 FU 0 ([] : LZ))
def de (a1 : Int) (a2 : List (LF)) (a3 a4 : Int) : Option (LZ) :=
  bO (ku a4 0 2) fun x1 => bO (br (!x1) (some true) (bO (ku a3 0 3) fun x2 => some (!x2))) fun x3 => eu a1 a2 a3 a4 x3
theorem pW {a1 : Int} {a2 : List (LF)} {a3 a4 : Int} {r : LZ} (h : de a1 a2 a3 a4 = some r) :
    aU Tryz.prog 58 [.agg [.int .i64 a1, .sl (aB aV a2) a2.length], .int .i64 a3, .int .i64 a4] [] (.own 0 r.length) [.row 46 2 (aB aL r)] := by
 unfold de at h; refine SO Tryz.func58 rfl Tryz.ntmps58 fun C hN hρ => ?_; simp only [st0, aW, Nat.zero_add, Nat.reduceAdd]; refine AN hN ?_; refine aH ?_; refine AJ (fun S => ∃ (v1 : Bool), S = ⟨mkT [(1, .int .i64 a3), (2, .int .i64 a4), (3, .ptr 32 0), (20, .bool v1)], mkR [(32, .box 46 [.int .i64 a1, .sl (aB aV a2) a2.length])], 64⟩ ∧ eu a1 a2 a3 a4 v1 = some r) hN ?_ ?_
 ·intro K hK; obtain ⟨x1, h1, h⟩ := aA h; simp only [EV, seval]; refine CP (dD h1) ?_; obtain ⟨x3, hv1, h⟩ := aA h; rcases aR hv1 with ⟨hc1, hv1⟩ | ⟨hc1, hv1⟩
  ·cases hv1; simp only [EV, seval, hc1]; refine hK _ _ _ (show aM _ _ _ from aP ⟨_, rfl, h⟩ (aD [(32, some 64)] [] hρ (by kernel_rfl) ?_ ?_)) <;> simp only [AL, EV, seval, hc1]
  ·obtain ⟨x4, h3, hv1⟩ := aA hv1; simp only [EV, seval, hc1]; refine aj (dD h3) (by simp only [AL, EV, seval, hc1]) (aN rfl) (ab rfl) ?_; cases hv1; simp only [EV, seval, hc1]; refine hK _ _ _ (show aM _ _ _ from aP ⟨_, rfl, h⟩ (aD [(32, some 64)] [] hρ (by kernel_rfl) ?_ ?_)) <;> simp only [AL, EV, seval, hc1]
 ·rintro S ⟨v1, rfl, h⟩; unfold eu at h; refine AB h (fun hc2 h => ?_) fun hc2 h => ?_
  ·refine AN hN ?_; injection h with h; subst h; exact AX (b' := 64) [(6, .own 32 0)] [(32, .row 46 2 (aB aL ([])))] [(32, none)] [] hρ (EQ [32])
  ·refine aE (AK ?_); refine AN hN ?_; refine aQ (fun S => ∃ (v145 : LZ), S = ⟨mkT [(7, .own 32 v145.length)], mkR [(32, .row 46 2 (aB aL v145))], 64⟩ ∧ et v145 = some r) ?_ ?_
   ·refine AN hN ?_; refine aJ ?_; refine aX (fun n S => ∃ (v97 : Int) (v98 : LZ), S = ⟨mkT [(1, .int .i64 a3), (2, .int .i64 a4), (3, .ptr 32 0), (7, .own 33 v98.length), (8, .int .i64 v97)], mkR [(32, .box 46 [.int .i64 a1, .sl (aB aV a2) a2.length]), (33, .row 46 2 (aB aL v98))], 64⟩ ∧ am a1 a2 a3 a4 n v97 v98 = some r) FU ?_ ?_ ?_
    ·exact AC ⟨_, _, rfl, h⟩ [(32, some 32), (33, some 64)] [] hρ
    ·rintro S ⟨_, _, _, h⟩; rw [am] at h; cases h
    ·rintro n9 S ⟨v97, v98, rfl, h⟩; rw [am] at h; refine aH ?_; refine AN hN ?_; refine AB h (fun hc49 h => ?_) fun hc49 h => ?_
     ·refine aE (AK ?_); refine aQ (fun S => ∃ (v144 : LZ), S = ⟨mkT [(1, .int .i64 a3), (2, .int .i64 a4), (3, .ptr 32 0), (7, .own 33 v144.length), (8, .int .i64 v97)], mkR [(32, .box 46 [.int .i64 a1, .sl (aB aV a2) a2.length]), (33, .row 46 2 (aB aL v144))], 64⟩ ∧ dH v97 (am a1 a2 a3 a4 n9) v144 = some r) ?_ ?_
      ·refine aJ ?_; refine J7 (BR := BR) 2 (Nat.le_of_ble_eq_true rfl) (by rw [hN]; kernel_rfl) ?_; intro Z hZ; obtain ⟨x9, h96, h⟩ := aA h; simp only [EV, seval]; refine KJ (qv h96) (by simp only [AL, EV, seval]) (by simp only [EV, seval]) ?_; simp only [EV, seval]; refine hZ _ _ _ ⟨_, fw (E := 36) (sz := 5) (e := aT) 1105 (lt := [(1, .int .i64 a3), (2, .int .i64 a4), (3, .ptr 32 0), (7, .own 33 v98.length), (8, .int .i64 v97), (22, .int .i64 v97), (23, .bool (decide (v97 < 2))), (26, .agg [.int .i64 a1, .sl (aB aV a2) a2.length]), (27, .agg [.int .i64 x9.1, .own 1104 x9.2.length])]) (lr := [(32, .box 46 [.int .i64 a1, .sl (aB aV a2) a2.length]), (33, .row 46 2 (aB aL v98)), (1104, .tab 55 1 (cm 1099511627776 x9.2))]) (b' := 1088) (le := x9.2) [(32, some 32), (33, some 33), (1104, some 1104)] [] hρ (by kernel_rfl) (by kernel_rfl) (by kernel_rfl) (by kernel_rfl) ?_ ?_ (by simp only [EV, seval]), fun K hK => ?_⟩
       ·simp only [AL, EV, seval]
       ·simp only [AL, EV, seval]
       clear hZ Z; simp only [EV, seval]; apply hK; clear hK K; refine AR hN fun K hK => ?_; obtain ⟨h97, h⟩ := gdI h; simp only [EV, seval, h97]; apply hK; clear hK K; refine aQ (fun S => ∃ (v142 : Int) (v143 : List (LF)), S = ⟨mkT [(1, .int .i64 a3), (2, .int .i64 a4), (3, .ptr 32 0), (7, .own 33 v98.length), (8, .int .i64 v97), (9, .ptr 34 0)], ap (mkR [(32, .box 46 [.int .i64 a1, .sl (aB aV a2) a2.length]), (33, .row 46 2 (aB aL v98)), (34, .box 46 [.int .i64 v142, .own 35 v143.length]), (35, .tab 55 1 (cm 1099511627776 v143))]) 1099511627776 (cY 36 5 aT v143), 64⟩ ∧ cg v97 v98 (am a1 a2 a3 a4 n9) v142 v143 = some r) ?_ ?_
       ·refine AN hN ?_; refine aJ ?_; refine aX (fun n S => ∃ (v127 v128 v129 : Int) (v130 : List (LF)), S = ⟨mkT [(1, .int .i64 a3), (2, .int .i64 a4), (3, .ptr 32 0), (7, .own 33 v98.length), (8, .int .i64 v97), (9, .ptr 34 0), (36, .own 35 v130.length), (37, .int .i64 v127), (38, .int .i64 v128)], ap (mkR [(32, .box 46 [.int .i64 a1, .sl (aB aV a2) a2.length]), (33, .row 46 2 (aB aL v98)), (34, .box 46 [.int .i64 v129, .own 35 v130.length]), (35, .tab 55 1 (cm 1099511627776 v130))]) 1099511627776 (cY 36 5 aT v130), 64⟩ ∧ az a3 v97 v98 (am a1 a2 a3 a4 n9) n v127 v128 v129 v130 = some r) FU ?_ ?_ ?_
        ·refine aP ⟨_, _, _, _, rfl, h⟩ (fw (E := 36) (sz := 5) (e := aT) 1099511627776 [(32, some 32), (33, some 33), (34, some 1120), (35, some 1104)] [] hρ (by kernel_rfl) (by kernel_rfl) (by kernel_rfl) (by kernel_rfl) ?_ ?_ (by simp only [EV, seval]))
         ·simp only [AL, EV, seval]
         ·simp only [AL, EV, seval]
        ·rintro S ⟨_, _, _, _, _, h⟩; rw [az] at h; cases h
        ·rintro n12 S ⟨v127, v128, v129, v130, rfl, h⟩; rw [az] at h; refine AN hN ?_; refine aH ?_; refine AB h (fun hc64 h => ?_) fun hc64 h => ?_
         ·refine aE (AK ?_); refine aQ (fun S => ∃ (v141 : List (LF)), S = ⟨mkT [(1, .int .i64 a3), (2, .int .i64 a4), (3, .ptr 32 0), (7, .own 33 v98.length), (8, .int .i64 v97), (9, .ptr 34 0), (36, .own 35 v141.length), (37, .int .i64 v127), (38, .int .i64 v128)], ap (mkR [(32, .box 46 [.int .i64 a1, .sl (aB aV a2) a2.length]), (33, .row 46 2 (aB aL v98)), (34, .box 46 [.int .i64 v129, .own 35 v141.length]), (35, .tab 55 1 (cm 1099511627776 v141))]) 1099511627776 (cY 36 5 aT v141), 64⟩ ∧ cf v127 v128 v129 (az a3 v97 v98 (am a1 a2 a3 a4 n9) n12) v141 = some r) ?_ ?_
          ·refine aJ ?_; refine AR hN fun K hK => ?_; obtain ⟨q33, h126, h⟩ := aA h; obtain ⟨⟨h127a, h127b⟩, h127c⟩ := J0 1099511627776 h126; have h127d := fun R => J1 (E := 36) (sz := 5) (e := aT) h126 1099511627776 R; (try simp only [EV, seval] at h127c); (try simp only [EV, seval] at h127d); have h127e := KI h127a h127b; have h127f := fun R => J3 (E := 36) (sz := 5) (e := aT) h126 1099511627776 R; have h127g := xF h126; have h127h := fun R => Cc (E := 36) (sz := 5) (e := aT) h126 1099511627776 R; have h127i := fun R => J4 (E := 36) (sz := 5) (e := aT) h126 1099511627776 R; simp only [EV, seval, h127a, h127b, h127c, h127d, h127f, h127g, h127h, h127i, h127e]; apply hK; clear hK K; refine AR hN fun K hK => ?_; simp only [EV, seval, h127d, h127e, h127f, h127g, h127h, h127i]; apply hK; clear hK K; refine aJ ?_; refine aX (fun n S => ∃ (v137 v138 : Int) (v139 : LF), S = ⟨mkT [(1, .int .i64 a3), (2, .int .i64 a4), (3, .ptr 32 0), (7, .own 33 v98.length), (8, .int .i64 v97), (9, .ptr 34 0), (11, .own (1099511627776 + Int.toNat v128) v139.length), (36, .own 35 (v130.set (Int.toNat v128) v139).length), (37, .int .i64 v127), (38, .int .i64 v128), (43, .int .i64 v137), (44, .int .i64 v138)], ap (mkR [(32, .box 46 [.int .i64 a1, .sl (aB aV a2) a2.length]), (33, .row 46 2 (aB aL v98)), (34, .box 46 [.int .i64 v129, .own 35 (v130.set (Int.toNat v128) v139).length]), (35, .tab 55 1 (cm 1099511627776 (v130.set (Int.toNat v128) v139)))]) 1099511627776 (cY 36 5 aT (v130.set (Int.toNat v128) v139)), 64⟩ ∧ bD a3 v97 v127 v128 v129 v130 (az a3 v97 v98 (am a1 a2 a3 a4 n9) n12) n v137 v138 v139 = some r) FU ?_ ?_ ?_
           ·refine aP ⟨_, _, _, rfl, h⟩ (fw (E := 36) (sz := 5) (e := aT) 1099511627776 [(32, some 32), (33, some 33), (34, some 34), (35, some 35)] [] hρ (by kernel_rfl) (by kernel_rfl) (by kernel_rfl) (by kernel_rfl) ?_ ?_ (by simp only [EV, seval, h127d, h127e, h127f, h127g, h127h, h127i]))
            ·simp only [AL, EV, seval, h127d, h127e, h127f, h127g, h127h, h127i]
            ·simp only [AL, EV, seval, h127d, h127e, h127f, h127g, h127h, h127i]
           ·rintro S ⟨_, _, _, _, h⟩; rw [bD] at h; cases h
           ·rintro n13 S ⟨v137, v138, v139, rfl, h⟩; rw [bD] at h; refine AR hN fun K hK => ?_; simp only [EV, seval, h127d, h127e, h127f, h127g, h127h, h127i]; apply hK; clear hK K; refine aH ?_; refine ah (a := .bool (decide (v138 < v137))) (by simp only [EV, seval, h127d, h127e, h127f, h127g, h127h, h127i]) (brK h (fun hc69 h => ?_) (fun hc69 h => ?_))
            ·refine aE (AK ?_); refine aQ (fun S => ∃ (v140 : LF), S = ⟨mkT [(1, .int .i64 a3), (2, .int .i64 a4), (3, .ptr 32 0), (7, .own 33 v98.length), (8, .int .i64 v97), (9, .ptr 34 0), (11, .own (1099511627776 + Int.toNat v128) v140.length), (36, .own 35 (v130.set (Int.toNat v128) v140).length), (37, .int .i64 v127), (38, .int .i64 v128), (43, .int .i64 v137), (44, .int .i64 v138)], ap (mkR [(32, .box 46 [.int .i64 a1, .sl (aB aV a2) a2.length]), (33, .row 46 2 (aB aL v98)), (34, .box 46 [.int .i64 v129, .own 35 (v130.set (Int.toNat v128) v140).length]), (35, .tab 55 1 (cm 1099511627776 (v130.set (Int.toNat v128) v140)))]) 1099511627776 (cY 36 5 aT (v130.set (Int.toNat v128) v140)), 64⟩ ∧ dG v137 v138 (bD a3 v97 v127 v128 v129 v130 (az a3 v97 v98 (am a1 a2 a3 a4 n9) n12) n13) v140 = some r) ?_ ?_
             ·refine aJ ?_; refine AR hN fun K hK => ?_; simp only [EV, seval, h127d, h127e, h127f, h127g, h127h, h127i]; apply hK; clear hK K; refine AR hN fun K hK => ?_; obtain ⟨h136, h⟩ := gdI h; simp only [EV, seval, h136, h127d, h127e, h127f, h127g, h127h, h127i]; apply hK; clear hK K; refine ah (a := .bool ((bits .and .i64 (Int.fdiv v138 (2 ^ min (Int.toNat a3) (IntKind.bits .i64))) 1) != v97)) (by simp only [EV, seval, h136, h127d, h127e, h127f, h127g, h127h, h127i]) (brK h (fun hc70 h => ?_) (fun hc70 h => ?_))
              ·refine AS hN fun K hK => ?_; obtain ⟨q36, h137, h⟩ := aA h; obtain ⟨⟨h138a, h138b⟩, h138c⟩ := aY co h137; (try simp only [EV, seval] at h138c); have h139 := qi co ((0, 0, 0, 0, 0)) 0 [.int .i64 0, .int .i64 0, .int .i64 0, .int .i64 0, .int .i64 0] h137 (Nat.le_of_ble_eq_true rfl) rfl; obtain ⟨h139a, h139b⟩ := h139; (try simp only [EV, seval] at h139a); (try simp only [EV, seval] at h139b); simp only [EV, seval, h138a, h138b, h138c, h139a, h139b, h127d, h127e, h127f, h127g, h127h, h127i]; refine hK _ _ _ (show aM _ _ _ from aP ⟨_, rfl, h⟩ (fw (E := 36) (sz := 5) (e := aT) 1099511627776 [(32, some 32), (33, some 33), (34, some 34), (35, some 35)] [] hρ (by kernel_rfl) (by kernel_rfl) (by kernel_rfl) (by kernel_rfl) ?_ ?_ (by simp only [EV, seval, h138a, h138b, h138c, h139a, h139b, h127d, h127e, h127f, h127g, h127h, h127i])))
               ·simp only [AL, EV, seval, h138a, h138b, h138c, h139a, h139b, h127d, h127e, h127f, h127g, h127h, h127i]
               ·simp only [AL, EV, seval, h138a, h138b, h138c, h139a, h139b, h127d, h127e, h127f, h127g, h127h, h127i]
              ·refine aE (show aM _ _ _ from aP ⟨_, rfl, h⟩ (fw (E := 36) (sz := 5) (e := aT) 1099511627776 [(32, some 32), (33, some 33), (34, some 34), (35, some 35)] [] hρ (by kernel_rfl) (by kernel_rfl) (by kernel_rfl) (by kernel_rfl) ?_ ?_ (by simp only [EV, seval, h136, h127d, h127e, h127f, h127g, h127h, h127i])))
               ·simp only [AL, EV, seval, h136, h127d, h127e, h127f, h127g, h127h, h127i]
               ·simp only [AL, EV, seval, h136, h127d, h127e, h127f, h127g, h127h, h127i]
             ·rintro S ⟨v140, rfl, h⟩; unfold dG at h; refine AS hN fun K hK => ?_; simp only [EV, seval, h127d, h127e, h127f, h127g, h127h, h127i]; refine hK _ _ _ (show aM _ _ _ from aP ⟨_, _, _, rfl, h⟩ (fw (E := 36) (sz := 5) (e := aT) 1099511627776 [(32, some 32), (33, some 33), (34, some 34), (35, some 35)] [] hρ (by kernel_rfl) (by kernel_rfl) (by kernel_rfl) (by kernel_rfl) ?_ ?_ (by simp only [EV, seval, h127d, h127e, h127f, h127g, h127h, h127i])))
              ·simp only [AL, EV, seval, h127d, h127e, h127f, h127g, h127h, h127i]
              ·simp only [AL, EV, seval, h127d, h127e, h127f, h127g, h127h, h127i]
            ·refine aa (show aM _ _ _ from aP ⟨_, rfl, h⟩ (fw (E := 36) (sz := 5) (e := aT) 1099511627776 [(32, some 32), (33, some 33), (34, some 34), (35, some 35)] [] hρ (by kernel_rfl) (by kernel_rfl) (by kernel_rfl) (by kernel_rfl) ?_ ?_ (by simp only [EV, seval, h127d, h127e, h127f, h127g, h127h, h127i])))
             ·simp only [AL, EV, seval, h127d, h127e, h127f, h127g, h127h, h127i]
             ·simp only [AL, EV, seval, h127d, h127e, h127f, h127g, h127h, h127i]
          ·rintro S ⟨v141, rfl, h⟩; unfold cf at h; refine AS hN fun K hK => ?_; simp only [EV, seval]; refine hK _ _ _ (show aM _ _ _ from aP ⟨_, _, _, _, rfl, h⟩ (fw (E := 36) (sz := 5) (e := aT) 1099511627776 [(32, some 32), (33, some 33), (34, some 34), (35, some 35)] [] hρ (by kernel_rfl) (by kernel_rfl) (by kernel_rfl) (by kernel_rfl) ?_ ?_ (by simp only [EV, seval])))
           ·simp only [AL, EV, seval]
           ·simp only [AL, EV, seval]
         ·refine aa (show aM _ _ _ from aP ⟨_, _, rfl, h⟩ (fw (E := 36) (sz := 5) (e := aT) 1099511627776 [(32, some 32), (33, some 33), (34, some 34), (35, some 35)] [] hρ (by kernel_rfl) (by kernel_rfl) (by kernel_rfl) (by kernel_rfl) ?_ ?_ (by simp only [EV, seval])))
          ·simp only [AL, EV, seval]
          ·simp only [AL, EV, seval]
       ·rintro S ⟨v142, v143, rfl, h⟩; unfold cg at h; refine AR hN fun K hK => ?_; obtain ⟨x10, h140, h⟩ := aA h; simp only [EV, seval]; refine Lo (vA h140) (by simp only [AL, EV, seval]) (by simp only [AL, EF, and_self]) (ab rfl) ?_; simp only [EV, seval]; apply hK; clear hK K; refine AB h (fun hc71 h => ?_) fun hc71 h => ?_
        ·refine ba (J5 (E := 36) (sz := 5) (e := aT) (le := v143) 1099511627776 (lt := [(1, .int .i64 a3), (2, .int .i64 a4), (3, .ptr 32 0), (7, .own 33 v98.length), (8, .int .i64 v97), (9, .ptr 34 0)]) (lr := [(32, .box 46 [.int .i64 a1, .sl (aB aV a2) a2.length]), (33, .row 46 2 (aB aL v98)), (34, .box 46 [.int .i64 v142, .sl (aB aV v143) v143.length])]) (b' := 1104) [(32, some 32), (33, some 33), (34, some 34)] [35] hρ (by kernel_rfl) (by kernel_rfl) (by simp only [EV, seval]) ?_ ?_) ?_
         ·simp only [AL, EV, seval]
         ·simp only [AL, EV, seval]
         refine AS hN fun K hK => ?_; obtain ⟨h141, h⟩ := gdI h; (try simp only [EV, seval] at h141); simp only [EV, seval, h141]; refine hK _ _ _ (show aM _ _ _ from aP ⟨_, rfl, h⟩ (aD [(32, some 32), (33, some 1152)] [] hρ (by kernel_rfl) ?_ ?_)) <;> simp only [AL, EV, seval, h141]
        ·refine aE (show aM _ _ _ from aP ⟨_, rfl, h⟩ (aD [(32, some 32), (33, some 33)] [] hρ (by kernel_rfl) ?_ ?_)) <;> simp only [AL, EV, seval]
      ·rintro S ⟨v144, rfl, h⟩; unfold dH at h; refine AS hN fun K hK => ?_; simp only [EV, seval]; exact hK _ _ _ (AC ⟨_, _, rfl, h⟩ [(32, some 32), (33, some 33)] [] hρ)
     ·exact aa (AC ⟨_, rfl, h⟩ [(32, some 33)] [] hρ)
   ·rintro S ⟨v145, rfl, h⟩; unfold et at h; refine AN hN ?_; injection h with h; subst h; exact AX (b' := 64) [(6, .own 32 v145.length)] [(32, .row 46 2 (aB aL v145))] [(32, some 32)] [] hρ (EQ [32])
def o7 (a5 : Int) (v8 : List (LF)) : Option (Int × List (LF) × Bool) :=
  some (a5, v8, true)
def fj (a1 a2 a3 a4 a5 : Int) (a6 : List (LF)) : Nat → Int → Int → (List (LF)) → Option (Int × List (LF) × Bool)
  | 0, _, _, _ => none
  | n1 + 1, v5, v6, v7 =>
  br (decide (v6 < v5)) (bO (ak a6 v6) fun q3 => bO (iL a1 a2 a3 a4 q3) fun x3 => br (!x3.2) (some (0, [], false)) (gd (decide (v7.length + ([x3.1]).length ≤ 16777216)) ((fj a1 a2 a3 a4 a5 a6 n1) v5 (IntKind.wrap .i64 (v6 + 1)) (v7 ++ ([x3.1]))))) (o7 a5 v7)
def mi (a1 a2 a3 a4 a5 : Int) (a6 : List (LF)) : Option (Int × List (LF) × Bool) :=
  fj a1 a2 a3 a4 a5 a6 FU ((a6.length : Int)) 0 ([] : List (LF))
theorem vB {a1 a2 a3 a4 a5 : Int} {a6 : List (LF)} {r : Int × List (LF) × Bool} (h : mi a1 a2 a3 a4 a5 a6 = some r) :
    aU Tryz.prog 59 [.agg [.int .i64 a1, .int .i64 a2, .int .i64 a3, .int .i64 a4], .agg [.int .i64 a5, .sl (aB aV a6) a6.length]] [] (.tup [.agg [.int .i64 r.1, .own 0 r.2.1.length], .bool r.2.2]) [.row 55 1 (aB aV r.2.1)] := by
 unfold mi at h; refine SO Tryz.func59 rfl Tryz.ntmps59 fun C hN hρ => ?_; simp only [st0, aW, Nat.zero_add, Nat.reduceAdd]; refine AN hN ?_; refine AN hN ?_; refine aQ (fun S => ∃ (v8 : List (LF)), S = ⟨mkT [(4, .ptr 32 0), (6, .ptr 33 0)], mkR [(32, .box 46 [.int .i64 0, .nil]), (33, .box 46 [.int .i64 a5, .own 34 v8.length]), (34, .row 55 1 (aB aV v8))], 64⟩ ∧ o7 a5 v8 = some r) ?_ ?_
 ·refine AN hN ?_; refine aJ ?_; refine aX (fun n S => ∃ (v5 v6 : Int) (v7 : List (LF)), S = ⟨mkT [(2, .ptr 32 0), (4, .ptr 33 0), (6, .ptr 34 0), (15, .sl (aB aV a6) a6.length), (16, .int .i64 v5), (17, .int .i64 v6)], mkR [(32, .box 73 [.int .i64 a1, .int .i64 a2, .int .i64 a3, .int .i64 a4]), (33, .box 46 [.int .i64 0, .nil]), (34, .box 46 [.int .i64 a5, .own 35 v7.length]), (35, .row 55 1 (aB aV v7))], 64⟩ ∧ fj a1 a2 a3 a4 a5 a6 n v5 v6 v7 = some r) FU ?_ ?_ ?_
  ·exact AC ⟨_, _, _, rfl, h⟩ [(32, some 64), (33, some 96), (34, some 1136), (35, none)] [] hρ
  ·rintro S ⟨_, _, _, _, h⟩; rw [fj] at h; cases h
  ·rintro n1 S ⟨v5, v6, v7, rfl, h⟩; rw [fj] at h; refine AN hN ?_; refine aH ?_; refine AB h (fun hc5 h => ?_) fun hc5 h => ?_
   ·refine aE (AK ?_); refine aH ?_; refine aJ ?_; refine AR hN fun K hK => ?_; obtain ⟨q3, h9, h⟩ := aA h; obtain ⟨⟨h10a, h10b⟩, h10c⟩ := aY lN h9; (try simp only [EV, seval] at h10c); simp only [EV, seval, h10a, h10b, h10c]; apply hK; clear hK K; refine AR hN fun K hK => ?_; obtain ⟨x3, h11, h⟩ := aA h; simp only [EV, seval]; refine aj (s6 h11) (by simp only [AL, EV, seval]) (aN rfl) (ao (by simp only [EV, seval])) ?_; simp only [EV, seval]; apply hK; clear hK K; refine aH ?_; refine AN hN ?_; refine AB h (fun hc6 h => ?_) fun hc6 h => ?_
    ·refine AN hN ?_; injection h with h; subst h; exact AX (b' := 64) [(4, .ptr 32 0), (5, .bool false)] [(32, .box 46 [.int .i64 0, .own 33 0]), (33, .row 55 1 (aB aV ([])))] [(32, some 33), (33, none)] [] hρ (EQ [33])
    ·refine aE (AK ?_); refine ba (aD (lt := [(2, .ptr 32 0), (4, .ptr 33 0), (6, .ptr 34 0), (9, .sl (aB aT x3.1) x3.1.length), (15, .sl (aB aV a6) a6.length), (16, .int .i64 v5), (17, .int .i64 v6)]) (lr := [(32, .box 73 [.int .i64 a1, .int .i64 a2, .int .i64 a3, .int .i64 a4]), (33, .box 46 [.int .i64 0, .nil]), (34, .box 46 [.int .i64 a5, .own 35 v7.length]), (35, .row 55 1 (aB aV v7))]) (b' := 4176) [(32, some 32), (33, some 33), (34, some 34), (35, some 35)] [2144] hρ (by kernel_rfl) ?_ ?_) ?_
     ·simp only [AL, EV, seval]
     ·simp only [AL, EV, seval]
     refine AS hN fun K hK => ?_; obtain ⟨h12, h⟩ := gdI h; (try simp only [EV, seval] at h12); simp only [EV, seval, h12]; refine hK _ _ _ (show AW _ _ _ _ _ from ?_); refine AS hN fun K hK => ?_; simp only [EV, seval]; exact hK _ _ _ (AC ⟨_, _, _, rfl, h⟩ [(32, some 32), (33, some 33), (34, some 34), (35, some 4240)] [] hρ)
   ·exact aa (AC ⟨_, rfl, h⟩ [(32, some 33), (33, some 34), (34, some 35)] [] hρ)
 ·rintro S ⟨v8, rfl, h⟩; unfold o7 at h; refine AN hN ?_; injection h with h; subst h; exact AX (b' := 64) [(4, .ptr 32 0), (5, .bool true)] [(32, .box 46 [.int .i64 a5, .own 33 v8.length]), (33, .row 55 1 (aB aV v8))] [(32, some 32), (33, some 34)] [] hρ (EQ [33])
def iu (a2 a3 a4 a5 a9 : Int) (a10 : List (LF)) (v1 : Bool) : Option (LZ × Bool) :=
  br v1 (some ([(a9, a10)], true)) (bO (mi a2 a3 a4 a5 a9 a10) fun x5 => some ([(x5.1, x5.2.1)], x5.2.2))
def kG (a1 a2 a3 a4 a5 a6 a7 a8 a9 : Int) (a10 : List (LF)) : Option (LZ × Bool) :=
  br (a1 == 2) (bO (de a9 a10 a6 a7) fun x1 => some (x1, true)) (bO (br (a1 == 3) (some true) (bO (br (decide (0 < a8)) (gd (decide (¬ (IntKind.wrap .i64 (a8 - 1)) < 0)) (some ((bits .and .i64 (Int.fdiv a9 (2 ^ min (Int.toNat (IntKind.wrap .i64 (a8 - 1))) (IntKind.bits .i64))) 1) == 0))) (some false)) fun x2 => some x2)) fun x3 => iu a2 a3 a4 a5 a9 a10 x3)
theorem s7 {a1 a2 a3 a4 a5 a6 a7 a8 a9 : Int} {a10 : List (LF)} {r : LZ × Bool} (h : kG a1 a2 a3 a4 a5 a6 a7 a8 a9 a10 = some r) :
    aU Tryz.prog 33 [.agg [.int .i64 a1, .int .i64 a2, .int .i64 a3, .int .i64 a4, .int .i64 a5, .int .i64 a6, .int .i64 a7, .int .i64 a8], .agg [.int .i64 a9, .sl (aB aV a10) a10.length]] [] (.tup [.own 0 r.1.length, .bool r.2]) [.row 46 2 (aB aL r.1)] := by
 unfold kG at h; refine SO Tryz.func33 rfl Tryz.ntmps33 fun C hN hρ => ?_; simp only [st0, aW, Nat.zero_add, Nat.reduceAdd]; refine AN hN ?_; refine aH ?_; refine AN hN ?_; refine AB h (fun hc1 h => ?_) fun hc1 h => ?_
 ·refine AR hN fun K hK => ?_; obtain ⟨x1, h1, h⟩ := aA h; simp only [EV, seval]; refine aj (pW h1) (by simp only [AL, EV, seval]) (aN rfl) (ao (by simp only [EV, seval])) ?_; simp only [EV, seval]; apply hK; clear hK K; injection h with h; subst h; exact AX (b' := 64) [(4, .own 32 x1.length), (5, .bool true)] [(32, .row 46 2 (aB aL x1))] [(32, some 2192)] [] hρ (EQ [32])
 ·refine aE (AK ?_); refine aH ?_; refine AJ (fun S => ∃ (v1 : Bool), S = ⟨mkT [(2, .ptr 32 0), (3, .ptr 33 0), (34, .bool v1)], mkR [(32, .box 75 [.int .i64 a1, .int .i64 a2, .int .i64 a3, .int .i64 a4, .int .i64 a5, .int .i64 a6, .int .i64 a7, .int .i64 a8]), (33, .box 46 [.int .i64 a9, .sl (aB aV a10) a10.length])], 64⟩ ∧ iu a2 a3 a4 a5 a9 a10 v1 = some r) hN ?_ ?_
  ·intro K hK; obtain ⟨x3, hv1, h⟩ := aA h; rcases aR hv1 with ⟨hc2, hv1⟩ | ⟨hc2, hv1⟩
   ·cases hv1; simp only [EV, seval, hc2]; refine hK _ _ _ (show aM _ _ _ from aP ⟨_, rfl, h⟩ (aD [(32, some 64), (33, some 80)] [] hρ (by kernel_rfl) ?_ ?_)) <;> simp only [AL, EV, seval, hc2]
   ·obtain ⟨x4, hv3, hv1⟩ := aA hv1; rcases aR hv3 with ⟨hc4, hv3⟩ | ⟨hc4, hv3⟩
    ·obtain ⟨h4, hv3⟩ := nI hv3; replace h4 := of_decide_eq_true h4; cases hv3; cases hv1; simp only [EV, seval, hc2, hc4, h4]; refine hK _ _ _ (show aM _ _ _ from aP ⟨_, rfl, h⟩ (aD [(32, some 64), (33, some 80)] [] hρ (by kernel_rfl) ?_ ?_)) <;> simp only [AL, EV, seval, hc2, hc4, h4]
    ·cases hv3; cases hv1; simp only [EV, seval, hc2, hc4]; refine hK _ _ _ (show aM _ _ _ from aP ⟨_, rfl, h⟩ (aD [(32, some 64), (33, some 80)] [] hρ (by kernel_rfl) ?_ ?_)) <;> simp only [AL, EV, seval, hc2, hc4]
  ·rintro S ⟨v1, rfl, h⟩; unfold iu at h; refine AB h (fun hc5 h => ?_) fun hc5 h => ?_
   ·refine AN hN ?_; injection h with h; subst h; exact AX (b' := 64) [(4, .own 32 ([(a9, a10)]).length), (5, .bool true)] [(32, .row 46 2 (aB aL ([(a9, a10)])))] [(32, some 80)] [] hρ (EQ [32])
   ·refine aE (AK ?_); refine AR hN fun K hK => ?_; obtain ⟨x5, h5, h⟩ := aA h; simp only [EV, seval]; refine aj (vB h5) (by simp only [AL, EV, seval]) (aN rfl) (ao (by simp only [EV, seval])) ?_; simp only [EV, seval]; apply hK; clear hK K; refine ba (aD (lt := [(6, .ptr 176 0), (7, .bool x5.2.2)]) (lr := [(176, .box 46 [.int .i64 x5.1, .sl (aB aV x5.2.1) x5.2.1.length])]) (b' := 1104) [(176, some 176)] [112] hρ (by kernel_rfl) ?_ ?_) ?_
    ·simp only [AL, EV, seval]
    ·simp only [AL, EV, seval]
    refine AN hN ?_; injection h with h; subst h; exact AX (b' := 64) [(4, .own 32 ([(x5.1, x5.2.1)]).length), (5, .bool x5.2.2)] [(32, .row 46 2 (aB aL ([(x5.1, x5.2.1)])))] [(32, some 1120)] [] hρ (EQ [32])
def lb (v2 : Bool) : Option Bool :=
  some v2
def lc (v3 : Bool) : Option Bool :=
  some v3
def ld (v4 : Bool) : Option Bool :=
  some v4
def iw (a1 a2 a3 a4 a5 a6 a7 a8 a9 a10 : Int) (v1 : Bool) : Option Bool :=
  br v1 (some false) (br (a1 == 1) (bO (br (((a1 == a1) && ((a2 == a2) && ((a3 == a3) && ((a4 == a4) && ((a5 == a5) && ((a6 == 0) && ((a7 == 0) && (a8 == a8))))))))) (bO (gi a2 a3 a4 a5 a9) fun x5 => some x5) (some false)) fun x6 => bO (br x6 (bO (ku a8 0 a10) fun x7 => some x7) (some false)) fun x8 => lb x8) (br (a1 == 2) (bO (br (((a1 == a1) && ((a2 == 0) && ((a3 == 0) && ((a4 == 0) && ((a5 == 0) && ((a6 == a6) && ((a7 == a7) && (a8 == 0))))))))) (bO (ku a6 0 (IntKind.wrap .i64 (a9 - 1))) fun x14 => some x14) (some false)) fun x15 => bO (br x15 (bO (ku a7 0 (IntKind.wrap .i64 (a10 - 1))) fun x16 => some x16) (some false)) fun x17 => lc x17) (br (a1 == 3) (bO (br (((a1 == a1) && ((a2 == 0) && ((a3 == 0) && ((a4 == 0) && ((a5 == 0) && ((a6 == a6) && ((a7 == 0) && (a8 == 0))))))))) (bO (ku a6 0 (IntKind.wrap .i64 (a9 - 1))) fun x23 => some x23) (some false)) fun x24 => ld x24) (some false))))
def kH (a1 a2 a3 a4 a5 a6 a7 a8 a9 a10 : Int) : Option Bool :=
  bO (ku a9 1 4) fun x1 => bO (br (!x1) (some true) (bO (ku a10 0 3) fun x2 => some (!x2))) fun x3 => iw a1 a2 a3 a4 a5 a6 a7 a8 a9 a10 x3
theorem s8 {a1 a2 a3 a4 a5 a6 a7 a8 a9 a10 : Int} {r : Bool} (h : kH a1 a2 a3 a4 a5 a6 a7 a8 a9 a10 = some r) :
    aU Tryz.prog 56 [.agg [.int .i64 a1, .int .i64 a2, .int .i64 a3, .int .i64 a4, .int .i64 a5, .int .i64 a6, .int .i64 a7, .int .i64 a8], .int .i64 a9, .int .i64 a10] [] (.bool r) [] := by
 unfold kH at h; refine SO Tryz.func56 rfl Tryz.ntmps56 fun C hN hρ => ?_; simp only [st0, aW, Nat.zero_add, Nat.reduceAdd]; refine AN hN ?_; refine aH ?_; refine AJ (fun S => ∃ (v1 : Bool), S = ⟨mkT [(1, .int .i64 a9), (2, .int .i64 a10), (3, .ptr 32 0), (14, .bool v1)], mkR [(32, .box 75 [.int .i64 a1, .int .i64 a2, .int .i64 a3, .int .i64 a4, .int .i64 a5, .int .i64 a6, .int .i64 a7, .int .i64 a8])], 64⟩ ∧ iw a1 a2 a3 a4 a5 a6 a7 a8 a9 a10 v1 = some r) hN ?_ ?_
 ·intro K hK; obtain ⟨x1, h1, h⟩ := aA h; simp only [EV, seval]; refine CP (dD h1) ?_; obtain ⟨x3, hv1, h⟩ := aA h; rcases aR hv1 with ⟨hc1, hv1⟩ | ⟨hc1, hv1⟩
  ·cases hv1; simp only [EV, seval, hc1]; refine hK _ _ _ (show aM _ _ _ from aP ⟨_, rfl, h⟩ (aD [(32, some 64)] [] hρ (by kernel_rfl) ?_ ?_)) <;> simp only [AL, EV, seval, hc1]
  ·obtain ⟨x4, h3, hv1⟩ := aA hv1; simp only [EV, seval, hc1]; refine aj (dD h3) (by simp only [AL, EV, seval, hc1]) (aN rfl) (ab rfl) ?_; cases hv1; simp only [EV, seval, hc1]; refine hK _ _ _ (show aM _ _ _ from aP ⟨_, rfl, h⟩ (aD [(32, some 64)] [] hρ (by kernel_rfl) ?_ ?_)) <;> simp only [AL, EV, seval, hc1]
 ·rintro S ⟨v1, rfl, h⟩; unfold iw at h; refine AB h (fun hc2 h => ?_) fun hc2 h => ?_
  ·refine AN hN ?_; injection h with h; subst h; exact AX (b' := 64) [(6, .bool false)] [] [] [] hρ (EQ [])
  ·refine aE (AK ?_); refine aH ?_; refine AN hN ?_; refine aJ ?_; refine AN hN ?_; refine AB h (fun hc3 h => ?_) fun hc3 h => ?_
   ·refine AJ (fun S => ∃ (v2 : Bool), S = ⟨mkT [(6, .bool v2)], mkR [], 64⟩ ∧ lb v2 = some r) hN ?_ ?_
    ·intro K hK; obtain ⟨x6, hv2, h⟩ := aA h; rcases aR hv2 with ⟨hc4, hv2⟩ | ⟨hc4, hv2⟩
     ·obtain ⟨x9, h6, hv2⟩ := aA hv2; simp only [EV, seval, hc4]; refine aj (jb h6) (by simp only [AL, EV, seval, hc4]) (aN rfl) (ab rfl) ?_; cases hv2; obtain ⟨x11, hv4, h⟩ := aA h; rcases aR hv4 with ⟨hc6, hv4⟩ | ⟨hc6, hv4⟩
      ·obtain ⟨x12, h8, hv4⟩ := aA hv4; simp only [EV, seval, hc4, hc6]; refine aj (dD h8) (by simp only [AL, EV, seval, hc4, hc6]) (aN rfl) (ab rfl) ?_; cases hv4; simp only [EV, seval, hc4, hc6]; refine hK _ _ _ (show aM _ _ _ from aP ⟨_, rfl, h⟩ (aD [] [] hρ (by kernel_rfl) ?_ ?_)) <;> simp only [AL, EV, seval, hc4, hc6]
      ·cases hv4; simp only [EV, seval, hc4, hc6]; refine hK _ _ _ (show aM _ _ _ from aP ⟨_, rfl, h⟩ (aD [] [] hρ (by kernel_rfl) ?_ ?_)) <;> simp only [AL, EV, seval, hc4, hc6]
     ·cases hv2; obtain ⟨x13, hv5, h⟩ := aA h; replace hv5 := kU hv5; cases hv5; (try dsimp only at h); simp only [EV, seval, hc4]; refine hK _ _ _ (show aM _ _ _ from aP ⟨_, rfl, h⟩ (aD [] [] hρ (by kernel_rfl) ?_ ?_)) <;> simp only [AL, EV, seval, hc4]
    ·rintro S ⟨v2, rfl, h⟩; unfold lb at h; injection h with h; subst h; exact AX (b' := 64) [(6, .bool v2)] [] [] [] hρ (EQ [])
   ·refine AN hN ?_; refine AB h (fun hc7 h => ?_) fun hc7 h => ?_
    ·refine AJ (fun S => ∃ (v3 : Bool), S = ⟨mkT [(6, .bool v3)], mkR [], 64⟩ ∧ lc v3 = some r) hN ?_ ?_
     ·intro K hK; obtain ⟨x15, hv6, h⟩ := aA h; rcases aR hv6 with ⟨hc8, hv6⟩ | ⟨hc8, hv6⟩
      ·obtain ⟨x18, h11, hv6⟩ := aA hv6; simp only [EV, seval, hc8]; refine aj (dD h11) (by simp only [AL, EV, seval, hc8]) (aN rfl) (ab rfl) ?_; cases hv6; obtain ⟨x20, hv8, h⟩ := aA h; rcases aR hv8 with ⟨hc10, hv8⟩ | ⟨hc10, hv8⟩
       ·obtain ⟨x21, h13, hv8⟩ := aA hv8; simp only [EV, seval, hc8, hc10]; refine aj (dD h13) (by simp only [AL, EV, seval, hc8, hc10]) (aN rfl) (ab rfl) ?_; cases hv8; simp only [EV, seval, hc8, hc10]; refine hK _ _ _ (show aM _ _ _ from aP ⟨_, rfl, h⟩ (aD [] [] hρ (by kernel_rfl) ?_ ?_)) <;> simp only [AL, EV, seval, hc8, hc10]
       ·cases hv8; simp only [EV, seval, hc8, hc10]; refine hK _ _ _ (show aM _ _ _ from aP ⟨_, rfl, h⟩ (aD [] [] hρ (by kernel_rfl) ?_ ?_)) <;> simp only [AL, EV, seval, hc8, hc10]
      ·cases hv6; obtain ⟨x22, hv9, h⟩ := aA h; replace hv9 := kU hv9; cases hv9; (try dsimp only at h); simp only [EV, seval, hc8]; refine hK _ _ _ (show aM _ _ _ from aP ⟨_, rfl, h⟩ (aD [] [] hρ (by kernel_rfl) ?_ ?_)) <;> simp only [AL, EV, seval, hc8]
     ·rintro S ⟨v3, rfl, h⟩; unfold lc at h; injection h with h; subst h; exact AX (b' := 64) [(6, .bool v3)] [] [] [] hρ (EQ [])
    ·refine AN hN ?_; refine AB h (fun hc11 h => ?_) fun hc11 h => ?_
     ·refine AJ (fun S => ∃ (v4 : Bool), S = ⟨mkT [(6, .bool v4)], mkR [], 64⟩ ∧ ld v4 = some r) hN ?_ ?_
      ·intro K hK; obtain ⟨x24, hv10, h⟩ := aA h; rcases aR hv10 with ⟨hc12, hv10⟩ | ⟨hc12, hv10⟩
       ·obtain ⟨x25, h15, hv10⟩ := aA hv10; simp only [EV, seval, hc12]; refine aj (dD h15) (by simp only [AL, EV, seval, hc12]) (aN rfl) (ab rfl) ?_; cases hv10; simp only [EV, seval, hc12]; refine hK _ _ _ (show aM _ _ _ from aP ⟨_, rfl, h⟩ (aD [] [] hρ (by kernel_rfl) ?_ ?_)) <;> simp only [AL, EV, seval, hc12]
       ·cases hv10; simp only [EV, seval, hc12]; refine hK _ _ _ (show aM _ _ _ from aP ⟨_, rfl, h⟩ (aD [] [] hρ (by kernel_rfl) ?_ ?_)) <;> simp only [AL, EV, seval, hc12]
      ·rintro S ⟨v4, rfl, h⟩; unfold ld at h; injection h with h; subst h; exact AX (b' := 64) [(6, .bool v4)] [] [] [] hρ (EQ [])
     ·refine aE (AK ?_); refine AN hN ?_; injection h with h; subst h; exact AX (b' := 64) [(6, .bool false)] [] [] [] hρ (EQ [])
def ch (v11 v12 : Int) (kl1 : Int → Int → Int → Option Bool) (v14 : Int) : Option Bool :=
  kl1 v14 v11 (IntKind.wrap .i64 (v12 + 1))
def cM (v10 v11 v12 : Int) (kl1 : Int → Int → Int → Option Bool) (q3 : Int × Int × Int × Int × Int × Int × Int × Int) (v13 : Bool) : Option Bool :=
  br v13 (some false) (br (q3.1 == 2) (ch v11 v12 kl1 (IntKind.wrap .i64 (v10 + 1))) (ch v11 v12 kl1 v10))
def gZ (a3 v15 : Int) : Option Bool :=
  some (v15 == a3)
def bE (a1 a3 : Int) (a4 : LO) : Nat → Int → Int → Int → Option Bool
  | 0, _, _, _ => none
  | n1 + 1, v10, v11, v12 =>
  br (decide (v12 < v11)) (bO (ak a4 v12) fun q3 => bO (kH q3.1 q3.2.1 q3.2.2.1 q3.2.2.2.1 q3.2.2.2.2.1 q3.2.2.2.2.2.1 q3.2.2.2.2.2.2.1 q3.2.2.2.2.2.2.2 a1 a3) fun x24 => bO (br (!x24) (some true) (bO (br (q3.1 == 2) (some (q3.2.2.2.2.2.2.1 != v10)) (some false)) fun x25 => some x25)) fun x26 => bO (br x26 (some true) (some (decide (v10 < q3.2.2.2.2.2.2.2)))) fun x27 => cM v10 v11 v12 (bE a1 a3 a4 n1) q3 x27) (gZ a3 v10)
def eH (a1 a3 : Int) (a4 : LO) (v1 : Bool) : Option Bool :=
  br v1 (some false) (bE a1 a3 a4 FU 0 ((a4.length : Int)) 0)
def eU (a1 a2 a3 : Int) (a4 : LO) : Option Bool :=
  bO (ku a1 1 4) fun x1 => bO (br (!x1) (some true) (bO (ku a2 1 a1) fun x2 => some (!x2))) fun x3 => bO (br x3 (some true) (bO (ku a3 0 3) fun x4 => some (!x4))) fun x5 => bO (br x5 (some true) (some (decide (120 < ((a4.length : Int)))))) fun x6 => eH a1 a3 a4 x6
theorem og {a1 a2 a3 : Int} {a4 : LO} {r : Bool} (h : eU a1 a2 a3 a4 = some r) :
    aU Tryz.prog 31 [.agg [.int .i64 a1, .int .i64 a2, .int .i64 a3, .sl (aB aK a4) a4.length]] [] (.bool r) [] := by
 unfold eU at h; refine SO Tryz.func31 rfl Tryz.ntmps31 fun C hN hρ => ?_; simp only [st0, aW, Nat.zero_add, Nat.reduceAdd]; refine AN hN ?_; refine aH ?_; refine AJ (fun S => ∃ (v1 : Bool), S = ⟨mkT [(1, .ptr 32 0), (29, .bool v1)], mkR [(32, .box 26 [.int .i64 a1, .int .i64 a2, .int .i64 a3, .sl (aB aK a4) a4.length])], 64⟩ ∧ eH a1 a3 a4 v1 = some r) hN ?_ ?_
 ·intro K hK; obtain ⟨x1, h1, h⟩ := aA h; simp only [EV, seval]; refine CP (dD h1) ?_; obtain ⟨x3, hv1, h⟩ := aA h; rcases aR hv1 with ⟨hc1, hv1⟩ | ⟨hc1, hv1⟩
  ·cases hv1; obtain ⟨x7, hv4, h⟩ := aA h; replace hv4 := iX hv4; cases hv4; (try dsimp only at h); obtain ⟨x8, hv5, h⟩ := aA h; replace hv5 := iX hv5; cases hv5; (try dsimp only at h); simp only [EV, seval, hc1]; refine hK _ _ _ (show aM _ _ _ from aP ⟨_, rfl, h⟩ (aD [(32, some 64)] [] hρ (by kernel_rfl) ?_ ?_)) <;> simp only [AL, EV, seval, hc1]
  ·obtain ⟨x9, h4, hv1⟩ := aA hv1; simp only [EV, seval, hc1]; refine aj (dD h4) (by simp only [AL, EV, seval, hc1]) (aN rfl) (ab rfl) ?_; cases hv1; obtain ⟨x11, hv6, h⟩ := aA h; rcases aR hv6 with ⟨hc4, hv6⟩ | ⟨hc4, hv6⟩
   ·cases hv6; obtain ⟨x13, hv8, h⟩ := aA h; replace hv8 := iX hv8; cases hv8; (try dsimp only at h); simp only [EV, seval, hc1, hc4]; refine hK _ _ _ (show aM _ _ _ from aP ⟨_, rfl, h⟩ (aD [(32, some 64)] [] hρ (by kernel_rfl) ?_ ?_)) <;> simp only [AL, EV, seval, hc1, hc4]
   ·obtain ⟨x14, h6, hv6⟩ := aA hv6; simp only [EV, seval, hc1, hc4]; refine aj (dD h6) (by simp only [AL, EV, seval, hc1, hc4]) (aN rfl) (ab rfl) ?_; cases hv6; obtain ⟨x15, hv9, h⟩ := aA h; rcases aR hv9 with ⟨hc6, hv9⟩ | ⟨hc6, hv9⟩
    ·cases hv9; simp only [EV, seval, hc1, hc4, hc6]; refine hK _ _ _ (show aM _ _ _ from aP ⟨_, rfl, h⟩ (aD [(32, some 64)] [] hρ (by kernel_rfl) ?_ ?_)) <;> simp only [AL, EV, seval, hc1, hc4, hc6]
    ·cases hv9; simp only [EV, seval, hc1, hc4, hc6]; refine hK _ _ _ (show aM _ _ _ from aP ⟨_, rfl, h⟩ (aD [(32, some 64)] [] hρ (by kernel_rfl) ?_ ?_)) <;> simp only [AL, EV, seval, hc1, hc4, hc6]
 ·rintro S ⟨v1, rfl, h⟩; unfold eH at h; refine AB h (fun hc7 h => ?_) fun hc7 h => ?_
  ·refine AN hN ?_; injection h with h; subst h; exact AX (b' := 64) [(2, .bool false)] [] [] [] hρ (EQ [])
  ·refine aE (AK ?_); refine AN hN ?_; refine aQ (fun S => ∃ (v15 : Int), S = ⟨mkT [(1, .ptr 32 0), (3, .int .i64 v15)], mkR [(32, .box 26 [.int .i64 a1, .int .i64 a2, .int .i64 a3, .sl (aB aK a4) a4.length])], 64⟩ ∧ gZ a3 v15 = some r) ?_ ?_
   ·refine AN hN ?_; refine aJ ?_; refine aX (fun n S => ∃ (v10 v11 v12 : Int), S = ⟨mkT [(1, .ptr 32 0), (3, .int .i64 v10), (31, .sl (aB aK a4) a4.length), (32, .int .i64 v11), (33, .int .i64 v12)], mkR [(32, .box 26 [.int .i64 a1, .int .i64 a2, .int .i64 a3, .sl (aB aK a4) a4.length])], 64⟩ ∧ bE a1 a3 a4 n v10 v11 v12 = some r) FU ?_ ?_ ?_
    ·exact AC ⟨_, _, _, rfl, h⟩ [(32, some 32)] [] hρ
    ·rintro S ⟨_, _, _, _, h⟩; rw [bE] at h; cases h
    ·rintro n1 S ⟨v10, v11, v12, rfl, h⟩; rw [bE] at h; refine AN hN ?_; refine aH ?_; refine AB h (fun hc20 h => ?_) fun hc20 h => ?_
     ·refine aE (AK ?_); refine aQ (fun S => ∃ (v14 : Int), S = ⟨mkT [(1, .ptr 32 0), (3, .int .i64 v14), (31, .sl (aB aK a4) a4.length), (32, .int .i64 v11), (33, .int .i64 v12)], mkR [(32, .box 26 [.int .i64 a1, .int .i64 a2, .int .i64 a3, .sl (aB aK a4) a4.length])], 64⟩ ∧ ch v11 v12 (bE a1 a3 a4 n1) v14 = some r) ?_ ?_
      ·refine aJ ?_; refine AR hN fun K hK => ?_; obtain ⟨q3, h13, h⟩ := aA h; obtain ⟨⟨h14a, h14b⟩, h14c⟩ := aY eg h13; (try simp only [EV, seval] at h14c); simp only [EV, seval, h14a, h14b, h14c]; apply hK; clear hK K; refine aH ?_; refine AJ (fun S => ∃ (v13 : Bool), S = ⟨mkT [(1, .ptr 32 0), (3, .int .i64 v10), (5, .ptr 33 0), (31, .sl (aB aK a4) a4.length), (32, .int .i64 v11), (33, .int .i64 v12), (60, .bool v13)], mkR [(32, .box 26 [.int .i64 a1, .int .i64 a2, .int .i64 a3, .sl (aB aK a4) a4.length]), (33, .box 75 [.int .i64 q3.1, .int .i64 q3.2.1, .int .i64 q3.2.2.1, .int .i64 q3.2.2.2.1, .int .i64 q3.2.2.2.2.1, .int .i64 q3.2.2.2.2.2.1, .int .i64 q3.2.2.2.2.2.2.1, .int .i64 q3.2.2.2.2.2.2.2])], 64⟩ ∧ cM v10 v11 v12 (bE a1 a3 a4 n1) q3 v13 = some r) hN ?_ ?_
       ·intro K hK; obtain ⟨x24, h15, h⟩ := aA h; simp only [EV, seval]; refine CP (s8 h15) ?_; obtain ⟨x26, hv16, h⟩ := aA h; rcases aR hv16 with ⟨hc21, hv16⟩ | ⟨hc21, hv16⟩
        ·cases hv16; obtain ⟨x28, hv19, h⟩ := aA h; replace hv19 := iX hv19; cases hv19; (try dsimp only at h); simp only [EV, seval, hc21]; refine hK _ _ _ (show aM _ _ _ from aP ⟨_, rfl, h⟩ (aD [(32, some 32), (33, some 1120)] [] hρ (by kernel_rfl) ?_ ?_)) <;> simp only [AL, EV, seval, hc21]
        ·obtain ⟨x29, hv20, hv16⟩ := aA hv16; rcases aR hv20 with ⟨hc24, hv20⟩ | ⟨hc24, hv20⟩
         ·cases hv20; cases hv16; obtain ⟨x31, hv22, h⟩ := aA h; rcases aR hv22 with ⟨hc26, hv22⟩ | ⟨hc26, hv22⟩
          ·cases hv22; simp only [EV, seval, hc21, hc24, hc26]; refine hK _ _ _ (show aM _ _ _ from aP ⟨_, rfl, h⟩ (aD [(32, some 32), (33, some 1120)] [] hρ (by kernel_rfl) ?_ ?_)) <;> simp only [AL, EV, seval, hc21, hc24, hc26]
          ·cases hv22; simp only [EV, seval, hc21, hc24, hc26]; refine hK _ _ _ (show aM _ _ _ from aP ⟨_, rfl, h⟩ (aD [(32, some 32), (33, some 1120)] [] hρ (by kernel_rfl) ?_ ?_)) <;> simp only [AL, EV, seval, hc21, hc24, hc26]
         ·cases hv20; cases hv16; obtain ⟨x32, hv23, h⟩ := aA h; replace hv23 := kU hv23; cases hv23; (try dsimp only at h); simp only [EV, seval, hc21, hc24]; refine hK _ _ _ (show aM _ _ _ from aP ⟨_, rfl, h⟩ (aD [(32, some 32), (33, some 1120)] [] hρ (by kernel_rfl) ?_ ?_)) <;> simp only [AL, EV, seval, hc21, hc24]
       ·rintro S ⟨v13, rfl, h⟩; unfold cM at h; refine ah (a := .bool v13) (by simp only [EV, seval, h14a, h14b, h14c]) (brK h (fun hc27 h => ?_) (fun hc27 h => ?_))
        ·refine AN hN ?_; injection h with h; subst h; exact AX (b' := 64) [(2, .bool false)] [] [] [] hρ (EQ [])
        ·refine aE (AK ?_); refine AN hN ?_; refine AB h (fun hc28 h => ?_) fun hc28 h => ?_
         ·refine AS hN fun K hK => ?_; simp only [EV, seval]; exact hK _ _ _ (AC ⟨_, rfl, h⟩ [(32, some 32)] [] hρ)
         ·refine aE (show aM _ _ _ from aP ⟨_, rfl, h⟩ (aD [(32, some 32)] [] hρ (by kernel_rfl) ?_ ?_)) <;> simp only [AL, EV, seval]
      ·rintro S ⟨v14, rfl, h⟩; unfold ch at h; refine AS hN fun K hK => ?_; simp only [EV, seval]; exact hK _ _ _ (AC ⟨_, _, _, rfl, h⟩ [(32, some 32)] [] hρ)
     ·exact aa (AC ⟨_, rfl, h⟩ [(32, some 32)] [] hρ)
   ·rintro S ⟨v15, rfl, h⟩; unfold gZ at h; refine AN hN ?_; injection h with h; subst h; exact AX (b' := 64) [(2, .bool (v15 == a3))] [] [] [] hρ (EQ [])
def o8 : Option (Int × Int × Int × Int × Int) :=
  some (1, 0, 0, 0, 0)
theorem s9 {r : Int × Int × Int × Int × Int} (h : o8 = some r) :
    aU Tryz.prog 12 [] [] (.agg [.int .i64 r.1, .int .i64 r.2.1, .int .i64 r.2.2.1, .int .i64 r.2.2.2.1, .int .i64 r.2.2.2.2]) [] := by
 unfold o8 at h; refine SO Tryz.func12 rfl Tryz.ntmps12 fun C hN hρ => ?_; simp only [st0, aW, Nat.zero_add, Nat.reduceAdd]; refine AN hN ?_; refine AN hN ?_; injection h with h; subst h; exact AX (b' := 64) [(0, .ptr 32 0)] [(32, .box 36 [.int .i64 1, .int .i64 0, .int .i64 0, .int .i64 0, .int .i64 0])] [(32, some 64)] [] hρ (EQ [])
def kZ (a1 a2 : Int) (v1 : Bool) : Option (LF) :=
  br v1 (some ([])) (gd (decide (¬ a1 < 0)) (gd (decide (0 ≤ IntKind.wrap .i64 (1 * 2 ^ min (Int.toNat a1) (IntKind.bits .i64)) ∧ IntKind.wrap .i64 (1 * 2 ^ min (Int.toNat a1) (IntKind.bits .i64)) ≤ 1048576)) (bO (o8) fun x5 => bO (ak (List.replicate (Int.toNat (IntKind.wrap .i64 (1 * 2 ^ min (Int.toNat a1) (IntKind.bits .i64)))) ((0, 0, 0, 0, 0) : Int × Int × Int × Int × Int)) a2) fun q1 => some ((List.replicate (Int.toNat (IntKind.wrap .i64 (1 * 2 ^ min (Int.toNat a1) (IntKind.bits .i64)))) ((0, 0, 0, 0, 0) : Int × Int × Int × Int × Int)).set (Int.toNat a2) ((x5.1, x5.2.1, x5.2.2.1, x5.2.2.2.1, x5.2.2.2.2))))))
def ix (a1 a2 : Int) : Option (LF) :=
  bO (ku a1 1 4) fun x1 => bO (br (!x1) (some true) (gd (decide (¬ a1 < 0)) (bO (ku a2 0 (IntKind.wrap .i64 ((IntKind.wrap .i64 (1 * 2 ^ min (Int.toNat a1) (IntKind.bits .i64))) - 1))) fun x2 => some (!x2)))) fun x3 => kZ a1 a2 x3
theorem qw {a1 a2 : Int} {r : LF} (h : ix a1 a2 = some r) :
    aU Tryz.prog 57 [.int .i64 a1, .int .i64 a2] [] (.own 0 r.length) [.row 36 5 (aB aT r)] := by
 unfold ix at h; refine SO Tryz.func57 rfl Tryz.ntmps57 fun C hN hρ => ?_; simp only [st0, aW, Nat.zero_add, Nat.reduceAdd]; refine AN hN ?_; refine aH ?_; refine AJ (fun S => ∃ (v1 : Bool), S = ⟨mkT [(0, .int .i64 a1), (1, .int .i64 a2), (16, .bool v1)], mkR [], 64⟩ ∧ kZ a1 a2 v1 = some r) hN ?_ ?_
 ·intro K hK; obtain ⟨x1, h1, h⟩ := aA h; simp only [EV, seval]; refine CP (dD h1) ?_; obtain ⟨x3, hv1, h⟩ := aA h; rcases aR hv1 with ⟨hc1, hv1⟩ | ⟨hc1, hv1⟩
  ·cases hv1; simp only [EV, seval, hc1]; refine hK _ _ _ (show aM _ _ _ from aP ⟨_, rfl, h⟩ (aD [] [] hρ (by kernel_rfl) ?_ ?_)) <;> simp only [AL, EV, seval, hc1]
  ·obtain ⟨h4, hv1⟩ := nI hv1; replace h4 := of_decide_eq_true h4; obtain ⟨x4, h5, hv1⟩ := aA hv1; simp only [EV, seval, hc1, h4]; refine aj (dD h5) (by simp only [AL, EV, seval, hc1, h4]) (aN rfl) (ab rfl) ?_; cases hv1; simp only [EV, seval, hc1, h4]; refine hK _ _ _ (show aM _ _ _ from aP ⟨_, rfl, h⟩ (aD [] [] hρ (by kernel_rfl) ?_ ?_)) <;> simp only [AL, EV, seval, hc1, h4]
 ·rintro S ⟨v1, rfl, h⟩; unfold kZ at h; refine AB h (fun hc2 h => ?_) fun hc2 h => ?_
  ·refine AN hN ?_; injection h with h; subst h; exact AX (b' := 64) [(4, .own 32 0)] [(32, .row 36 5 (aB aT ([])))] [(32, none)] [] hρ (EQ [32])
  ·refine aE (AK ?_); refine AR hN fun K hK => ?_; obtain ⟨h6, h⟩ := gdI h; obtain ⟨h7, h⟩ := gdI h; have h8 := mZ (e := aT) ((0, 0, 0, 0, 0)) (Int.toNat (IntKind.wrap .i64 (1 * 2 ^ min (Int.toNat a1) (IntKind.bits .i64)))); simp only [EN] at h8; have h9 : (List.replicate (Int.toNat (IntKind.wrap .i64 (1 * 2 ^ min (Int.toNat a1) (IntKind.bits .i64)))) ((0, 0, 0, 0, 0) : Int × Int × Int × Int × Int)).length = Int.toNat (IntKind.wrap .i64 (1 * 2 ^ min (Int.toNat a1) (IntKind.bits .i64))) := List.length_replicate; simp only [EV, seval, h6, h7, h8, h9]; apply hK; clear hK K; refine AR hN fun K hK => ?_; obtain ⟨x5, h10, h⟩ := aA h; simp only [EV, seval]; refine CP (s9 h10) ?_; obtain ⟨q1, h11, h⟩ := aA h; obtain ⟨⟨h12a, h12b⟩, h12c⟩ := aY co h11; (try simp only [EV, seval] at h12c); (try simp only [EV, seval] at h12b); have h13 := qi co ((x5.1, x5.2.1, x5.2.2.1, x5.2.2.2.1, x5.2.2.2.2)) 0 [.int .i64 x5.1, .int .i64 x5.2.1, .int .i64 x5.2.2.1, .int .i64 x5.2.2.2.1, .int .i64 x5.2.2.2.2] h11 (Nat.le_of_ble_eq_true rfl) rfl; obtain ⟨h13a, h13b⟩ := h13; (try simp only [EV, seval] at h13a); (try simp only [EV, seval] at h13b); simp only [EV, seval, h12a, h12b, h12c, h13a, h13b]; apply hK; clear hK K; refine AN hN ?_; injection h with h; subst h; exact AX (b' := 64) [(4, .own 32 ((List.replicate (Int.toNat (IntKind.wrap .i64 (1 * 2 ^ min (Int.toNat a1) (IntKind.bits .i64)))) ((0, 0, 0, 0, 0) : Int × Int × Int × Int × Int)).set (Int.toNat a2) ((x5.1, x5.2.1, x5.2.2.1, x5.2.2.2.1, x5.2.2.2.2))).length)] [(32, .row 36 5 (aB aT ((List.replicate (Int.toNat (IntKind.wrap .i64 (1 * 2 ^ min (Int.toNat a1) (IntKind.bits .i64)))) ((0, 0, 0, 0, 0) : Int × Int × Int × Int × Int)).set (Int.toNat a2) ((x5.1, x5.2.1, x5.2.2.1, x5.2.2.2.1, x5.2.2.2.2)))))] [(32, some 96)] [] hρ (EQ [32])
def i3 (v6 : List (LF)) : Option (Int × List (LF)) :=
  some (0, v6)
def cR (a1 a2 : Int) : Nat → Int → (List (LF)) → Option (Int × List (LF))
  | 0, _, _ => none
  | n1 + 1, v4, v5 =>
  gd (decide (¬ a2 < 0)) (br (decide (v4 < (IntKind.wrap .i64 (1 * 2 ^ min (Int.toNat a2) (IntKind.bits .i64))))) (bO (ix a1 v4) fun x12 => gd (decide (v5.length + ([x12]).length ≤ 16777216)) ((cR a1 a2 n1) (IntKind.wrap .i64 (v4 + 1)) (v5 ++ ([x12])))) (i3 v5))
def ew (a1 a2 : Int) (v1 : Bool) : Option (Int × List (LF)) :=
  br v1 (some (0, [])) (cR a1 a2 FU 0 ([] : List (LF)))
def fI (a1 a2 : Int) : Option (Int × List (LF)) :=
  bO (br (decide (a1 < 1)) (some true) (some (decide (4 < a1)))) fun x1 => bO (br x1 (some true) (some (decide (a2 < 1)))) fun x2 => bO (br x2 (some true) (some (decide (a1 < a2)))) fun x3 => ew a1 a2 x3
theorem pY {a1 a2 : Int} {r : Int × List (LF)} (h : fI a1 a2 = some r) :
    aU Tryz.prog 32 [.int .i64 a1, .int .i64 a2] [] (.agg [.int .i64 r.1, .own 0 r.2.length]) [.row 55 1 (aB aV r.2)] := by
 unfold fI at h; refine SO Tryz.func32 rfl Tryz.ntmps32 fun C hN hρ => ?_; simp only [st0, aW, Nat.zero_add, Nat.reduceAdd]; refine AN hN ?_; refine aH ?_; refine AJ (fun S => ∃ (v1 : Bool), S = ⟨mkT [(0, .int .i64 a1), (1, .int .i64 a2), (4, .ptr 32 0), (21, .bool v1)], mkR [(32, .box 46 [.int .i64 0, .nil])], 64⟩ ∧ ew a1 a2 v1 = some r) hN ?_ ?_
 ·intro K hK; obtain ⟨x1, hv1, h⟩ := aA h; rcases aR hv1 with ⟨hc1, hv1⟩ | ⟨hc1, hv1⟩
  ·cases hv1; obtain ⟨x4, hv4, h⟩ := aA h; replace hv4 := iX hv4; cases hv4; (try dsimp only at h); obtain ⟨x5, hv5, h⟩ := aA h; replace hv5 := iX hv5; cases hv5; (try dsimp only at h); simp only [EV, seval, hc1]; refine hK _ _ _ (show aM _ _ _ from aP ⟨_, rfl, h⟩ (aD [(32, some 64)] [] hρ (by kernel_rfl) ?_ ?_)) <;> simp only [AL, EV, seval, hc1]
  ·cases hv1; obtain ⟨x6, hv6, h⟩ := aA h; rcases aR hv6 with ⟨hc4, hv6⟩ | ⟨hc4, hv6⟩
   ·cases hv6; obtain ⟨x8, hv8, h⟩ := aA h; replace hv8 := iX hv8; cases hv8; (try dsimp only at h); simp only [EV, seval, hc1, hc4]; refine hK _ _ _ (show aM _ _ _ from aP ⟨_, rfl, h⟩ (aD [(32, some 64)] [] hρ (by kernel_rfl) ?_ ?_)) <;> simp only [AL, EV, seval, hc1, hc4]
   ·cases hv6; obtain ⟨x9, hv9, h⟩ := aA h; rcases aR hv9 with ⟨hc6, hv9⟩ | ⟨hc6, hv9⟩
    ·cases hv9; simp only [EV, seval, hc1, hc4, hc6]; refine hK _ _ _ (show aM _ _ _ from aP ⟨_, rfl, h⟩ (aD [(32, some 64)] [] hρ (by kernel_rfl) ?_ ?_)) <;> simp only [AL, EV, seval, hc1, hc4, hc6]
    ·cases hv9; simp only [EV, seval, hc1, hc4, hc6]; refine hK _ _ _ (show aM _ _ _ from aP ⟨_, rfl, h⟩ (aD [(32, some 64)] [] hρ (by kernel_rfl) ?_ ?_)) <;> simp only [AL, EV, seval, hc1, hc4, hc6]
 ·rintro S ⟨v1, rfl, h⟩; unfold ew at h; refine AB h (fun hc7 h => ?_) fun hc7 h => ?_
  ·refine AN hN ?_; injection h with h; subst h; exact AX (b' := 64) [(4, .ptr 32 0)] [(32, .box 46 [.int .i64 0, .own 33 0]), (33, .row 55 1 (aB aV ([])))] [(32, some 32), (33, none)] [] hρ (EQ [33])
  ·refine aE (AK ?_); refine AN hN ?_; refine aQ (fun S => ∃ (v6 : List (LF)), S = ⟨mkT [(4, .ptr 32 0), (5, .ptr 33 0)], mkR [(32, .box 46 [.int .i64 0, .nil]), (33, .box 46 [.int .i64 0, .own 34 v6.length]), (34, .row 55 1 (aB aV v6))], 64⟩ ∧ i3 v6 = some r) ?_ ?_
   ·refine AN hN ?_; refine aJ ?_; refine aX (fun n S => ∃ (v4 : Int) (v5 : List (LF)), S = ⟨mkT [(0, .int .i64 a1), (1, .int .i64 a2), (4, .ptr 32 0), (5, .ptr 33 0), (6, .int .i64 v4)], mkR [(32, .box 46 [.int .i64 0, .nil]), (33, .box 46 [.int .i64 0, .own 34 v5.length]), (34, .row 55 1 (aB aV v5))], 64⟩ ∧ cR a1 a2 n v4 v5 = some r) FU ?_ ?_ ?_
    ·exact AC ⟨_, _, rfl, h⟩ [(32, some 32), (33, some 80), (34, none)] [] hρ
    ·rintro S ⟨_, _, _, h⟩; rw [cR] at h; cases h
    ·rintro n1 S ⟨v4, v5, rfl, h⟩; rw [cR] at h; refine aH ?_; refine AR hN fun K hK => ?_; obtain ⟨h7, h⟩ := gdI h; simp only [EV, seval, h7]; apply hK; clear hK K; refine ah (a := .bool (decide (v4 < (IntKind.wrap .i64 (1 * 2 ^ min (Int.toNat a2) (IntKind.bits .i64)))))) (by simp only [EV, seval, h7]) (brK h (fun hc10 h => ?_) (fun hc10 h => ?_))
     ·refine aE (AK ?_); refine aH ?_; refine aJ ?_; refine AS hN fun K hK => ?_; obtain ⟨x12, h8, h⟩ := aA h; simp only [EV, seval]; refine aj (aU.can (ret2 := .sl (aB aT x12) x12.length) (mem2 := []) (qw h8) [] [0] (by kernel_rfl) (by simp only [AL, EV, seval]) (by simp only [AL, EV, seval])) (by simp only [AL, EV, seval]) (aN rfl) (ab rfl) ?_; obtain ⟨h9, h⟩ := gdI h; (try simp only [EV, seval] at h9); simp only [EV, seval, h9]; refine hK _ _ _ (show AW _ _ _ _ _ from ?_); refine AS hN fun K hK => ?_; simp only [EV, seval]; exact hK _ _ _ (AC ⟨_, _, rfl, h⟩ [(32, some 32), (33, some 33), (34, some 1184)] [] hρ)
     ·refine aa (show aM _ _ _ from aP ⟨_, rfl, h⟩ (aD [(32, some 32), (33, some 33), (34, some 34)] [] hρ (by kernel_rfl) ?_ ?_)) <;> simp only [AL, EV, seval, h7]
   ·rintro S ⟨v6, rfl, h⟩; unfold i3 at h; refine AN hN ?_; injection h with h; subst h; exact AX (b' := 64) [(4, .ptr 32 0)] [(32, .box 46 [.int .i64 0, .own 33 v6.length]), (33, .row 55 1 (aB aV v6))] [(32, some 32), (33, some 34)] [] hρ (EQ [33])
def eI (v24 : Int) (kl3 : Int → (LZ) → Option (LZ × Bool)) (v35 : LZ) : Option (LZ × Bool) :=
  kl3 (IntKind.wrap .i64 (v24 + 1)) v35
def eJ (v24 : Int) (kl3 : Int → (LZ) → Option (LZ × Bool)) (v34 : LZ) : Option (LZ × Bool) :=
  eI v24 kl3 v34
def bn (a4 : LO) (v24 : Int) (v25 : LZ) (kl3 : Int → (LZ) → Option (LZ × Bool)) : Nat → Int → Int → (LZ) → Option (LZ × Bool)
  | 0, _, _, _ => none
  | n4 + 1, v31, v32, v33 =>
  br (decide (v32 < v31)) (bO (ak v25 v32) fun q17 => bO (ak a4 v24) fun q18 => bO (kG q18.1 q18.2.1 q18.2.2.1 q18.2.2.2.1 q18.2.2.2.2.1 q18.2.2.2.2.2.1 q18.2.2.2.2.2.2.1 q18.2.2.2.2.2.2.2 q17.1 q17.2) fun x11 => br (!x11.2) (some ([], false)) (gd (decide (v33.length + x11.1.length ≤ 16777216)) ((bn a4 v24 v25 kl3 n4) v31 (IntKind.wrap .i64 (v32 + 1)) (v33 ++ x11.1)))) (eJ v24 kl3 v33)
def ga (v36 : LZ) : Option (LZ × Bool) :=
  some (v36, true)
def b5 (a4 : LO) (a5 : Int) : Nat → Int → (LZ) → Option (LZ × Bool)
  | 0, _, _ => none
  | n3 + 1, v24, v25 =>
  br (decide (v24 < (if (a4.length : Int) < a5 then (a4.length : Int) else a5))) (bn a4 v24 v25 (b5 a4 a5 n3) FU ((v25.length : Int)) 0 ([] : LZ)) (ga v25)
def gC (a1 a2 a3 : Int) (a4 : LO) (a5 : Int) : Option (LZ × Bool) :=
  bO (eU a1 a2 a3 a4) fun x1 => br (!x1) (some ([], false)) (bO (fI a1 a2) fun x2 => b5 a4 a5 FU 0 ([(x2.1, x2.2)]))
theorem oh {a1 a2 a3 : Int} {a4 : LO} {a5 : Int} {r : LZ × Bool} (h : gC a1 a2 a3 a4 a5 = some r) :
    aU Tryz.prog 19 [.agg [.int .i64 a1, .int .i64 a2, .int .i64 a3, .sl (aB aK a4) a4.length], .int .i64 a5] [] (.tup [.own 0 r.1.length, .bool r.2]) [.row 46 2 (aB aL r.1)] := by
 unfold gC at h; refine SO Tryz.func19 rfl Tryz.ntmps19 fun C hN hρ => ?_; simp only [st0, aW, Nat.zero_add, Nat.reduceAdd]; refine AN hN ?_; refine aH ?_; obtain ⟨x1, h1, h⟩ := aA h; refine AP hN (og h1) ?_; refine AB h (fun hc1 h => ?_) fun hc1 h => ?_
 ·refine AN hN ?_; injection h with h; subst h; exact AX (b' := 64) [(4, .own 32 0), (5, .bool false)] [(32, .row 46 2 (aB aL ([])))] [(32, none)] [] hρ (EQ [32])
 ·refine aE (AK ?_); refine AR hN fun K hK => ?_; obtain ⟨x2, h2, h⟩ := aA h; simp only [EV, seval]; refine aj (aU.can (ret2 := .agg [.int .i64 x2.1, .sl (aB aV x2.2) x2.2.length]) (mem2 := []) (pY h2) [] [0] (by kernel_rfl) (by simp only [AL, EV, seval]) (by simp only [AL, EV, seval])) (by simp only [AL, EV, seval]) (aN rfl) (ab rfl) ?_; simp only [EV, seval]; apply hK; clear hK K; refine aQ (fun S => ∃ (v36 : LZ), S = ⟨mkT [(6, .own 32 v36.length)], mkR [(32, .row 46 2 (aB aL v36))], 64⟩ ∧ ga v36 = some r) ?_ ?_
  ·refine AN hN ?_; refine aJ ?_; refine aX (fun n S => ∃ (v24 : Int) (v25 : LZ), S = ⟨mkT [(1, .int .i64 a5), (2, .ptr 32 0), (6, .own 33 v25.length), (7, .int .i64 v24)], mkR [(32, .box 26 [.int .i64 a1, .int .i64 a2, .int .i64 a3, .sl (aB aK a4) a4.length]), (33, .row 46 2 (aB aL v25))], 64⟩ ∧ b5 a4 a5 n v24 v25 = some r) FU ?_ ?_ ?_
   ·exact AC ⟨_, _, rfl, h⟩ [(32, some 64), (33, some 2192)] [] hρ
   ·rintro S ⟨_, _, _, h⟩; rw [b5] at h; cases h
   ·rintro n3 S ⟨v24, v25, rfl, h⟩; rw [b5] at h; refine aH ?_; refine AN hN ?_; refine AB h (fun hc16 h => ?_) fun hc16 h => ?_
    ·refine aE (AK ?_); refine aQ (fun S => ∃ (v35 : LZ), S = ⟨mkT [(1, .int .i64 a5), (2, .ptr 32 0), (6, .own 33 v35.length), (7, .int .i64 v24)], mkR [(32, .box 26 [.int .i64 a1, .int .i64 a2, .int .i64 a3, .sl (aB aK a4) a4.length]), (33, .row 46 2 (aB aL v35))], 64⟩ ∧ eI v24 (b5 a4 a5 n3) v35 = some r) ?_ ?_
     ·refine aJ ?_; refine AN hN ?_; refine aQ (fun S => ∃ (v34 : LZ), S = ⟨mkT [(1, .int .i64 a5), (2, .ptr 32 0), (7, .int .i64 v24), (8, .own 33 v34.length)], mkR [(32, .box 26 [.int .i64 a1, .int .i64 a2, .int .i64 a3, .sl (aB aK a4) a4.length]), (33, .row 46 2 (aB aL v34))], 64⟩ ∧ eJ v24 (b5 a4 a5 n3) v34 = some r) ?_ ?_
      ·refine AN hN ?_; refine aJ ?_; refine aX (fun n S => ∃ (v31 v32 : Int) (v33 : LZ), S = ⟨mkT [(1, .int .i64 a5), (2, .ptr 32 0), (7, .int .i64 v24), (8, .own 33 v33.length), (32, .own 34 v25.length), (33, .int .i64 v31), (34, .int .i64 v32)], mkR [(32, .box 26 [.int .i64 a1, .int .i64 a2, .int .i64 a3, .sl (aB aK a4) a4.length]), (33, .row 46 2 (aB aL v33)), (34, .row 46 2 (aB aL v25))], 64⟩ ∧ bn a4 v24 v25 (b5 a4 a5 n3) n v31 v32 v33 = some r) FU ?_ ?_ ?_
       ·exact AC ⟨_, _, _, rfl, h⟩ [(32, some 32), (33, some 1088), (34, some 33)] [] hρ
       ·rintro S ⟨_, _, _, _, h⟩; rw [bn] at h; cases h
       ·rintro n4 S ⟨v31, v32, v33, rfl, h⟩; rw [bn] at h; refine AN hN ?_; refine aH ?_; refine AB h (fun hc21 h => ?_) fun hc21 h => ?_
        ·refine aE (AK ?_); refine aH ?_; refine aJ ?_; refine AR hN fun K hK => ?_; obtain ⟨q17, h51, h⟩ := aA h; obtain ⟨⟨h52a, h52b⟩, h52c⟩ := aY fx h51; (try simp only [EV, seval] at h52c); simp only [EV, seval, h52a, h52b, h52c]; apply hK; clear hK K; refine AR hN fun K hK => ?_; obtain ⟨q18, h53, h⟩ := aA h; obtain ⟨⟨h54a, h54b⟩, h54c⟩ := aY eg h53; (try simp only [EV, seval] at h54c); obtain ⟨x11, h55, h⟩ := aA h; simp only [EV, seval, h54a, h54b, h54c]; refine aj (s7 h55) (by simp only [AL, EV, seval, h54a, h54b, h54c]) (aN rfl) (ao (by simp only [EV, seval])) ?_; simp only [EV, seval, h54a, h54b, h54c]; apply hK; clear hK K; refine aH ?_; refine AN hN ?_; refine AB h (fun hc22 h => ?_) fun hc22 h => ?_
         ·refine AN hN ?_; injection h with h; subst h; exact AX (b' := 64) [(4, .own 32 0), (5, .bool false)] [(32, .row 46 2 (aB aL ([])))] [(32, none)] [] hρ (EQ [32])
         ·refine aE (AK ?_); refine AS hN fun K hK => ?_; obtain ⟨h56, h⟩ := gdI h; (try simp only [EV, seval] at h56); simp only [EV, seval, h56]; refine hK _ _ _ (show AW _ _ _ _ _ from ?_); refine AS hN fun K hK => ?_; simp only [EV, seval]; exact hK _ _ _ (AC ⟨_, _, _, rfl, h⟩ [(32, some 32), (33, some 4192), (34, some 34)] [] hρ)
        ·exact aa (AC ⟨_, rfl, h⟩ [(32, some 32), (33, some 33)] [] hρ)
      ·rintro S ⟨v34, rfl, h⟩; unfold eJ at h; refine AS hN fun K hK => ?_; simp only [EV, seval]; exact hK _ _ _ (AC ⟨_, rfl, h⟩ [(32, some 32), (33, some 33)] [] hρ)
     ·rintro S ⟨v35, rfl, h⟩; unfold eI at h; refine AS hN fun K hK => ?_; simp only [EV, seval]; exact hK _ _ _ (AC ⟨_, _, rfl, h⟩ [(32, some 32), (33, some 33)] [] hρ)
    ·exact aa (AC ⟨_, rfl, h⟩ [(32, some 33)] [] hρ)
  ·rintro S ⟨v36, rfl, h⟩; unfold ga at h; refine AN hN ?_; injection h with h; subst h; exact AX (b' := 64) [(4, .own 32 v36.length), (5, .bool true)] [(32, .row 46 2 (aB aL v36))] [(32, some 32)] [] hρ (EQ [32])
def lf (a1 a2 a3 : Int) (a4 : LO) : Option (LZ × Bool) :=
  bO (gC a1 a2 a3 a4 ((a4.length : Int))) fun x1 => some (x1.1, x1.2)
theorem sY {a1 a2 a3 : Int} {a4 : LO} {r : LZ × Bool} (h : lf a1 a2 a3 a4 = some r) :
    aU Tryz.prog 7 [.agg [.int .i64 a1, .int .i64 a2, .int .i64 a3, .sl (aB aK a4) a4.length]] [] (.tup [.own 0 r.1.length, .bool r.2]) [.row 46 2 (aB aL r.1)] := by
 unfold lf at h; refine SO Tryz.func7 rfl Tryz.ntmps7 fun C hN hρ => ?_; simp only [st0, aW, Nat.zero_add, Nat.reduceAdd]; refine AN hN ?_; refine AR hN fun K hK => ?_; obtain ⟨x1, h1, h⟩ := aA h; simp only [EV, seval]; refine aj (oh h1) (by simp only [AL, EV, seval]) (aN rfl) (ao (by simp only [EV, seval])) ?_; simp only [EV, seval]; apply hK; clear hK K; refine AN hN ?_; injection h with h; subst h; exact AX (b' := 64) [(2, .own 32 x1.1.length), (3, .bool x1.2)] [(32, .row 46 2 (aB aL x1.1))] [(32, some 1152)] [] hρ (EQ [32])
def lg (v2 : Bool) : Option Bool :=
  some v2
def lh (v3 : Bool) : Option Bool :=
  some v3
def ll (v4 : Bool) : Option Bool :=
  some v4
def iy (a1 a2 a3 a4 a5 a6 a7 a8 a9 a10 : Int) (v1 : Bool) : Option Bool :=
  br v1 (some false) (br (a1 == 1) (bO (br (((a1 == a1) && ((a2 == a2) && ((a3 == a3) && ((a4 == a4) && ((a5 == a5) && ((a6 == 0) && ((a7 == 0) && (a8 == a8))))))))) (bO (du a2 a3 a4 a5 a9) fun x5 => some x5) (some false)) fun x6 => bO (br x6 (bO (cH a8 0 a10) fun x7 => some x7) (some false)) fun x8 => lg x8) (br (a1 == 2) (bO (br (((a1 == a1) && ((a2 == 0) && ((a3 == 0) && ((a4 == 0) && ((a5 == 0) && ((a6 == a6) && ((a7 == a7) && (a8 == 0))))))))) (bO (cH a6 0 (IntKind.wrap .i64 (a9 - 1))) fun x14 => some x14) (some false)) fun x15 => bO (br x15 (bO (cH a7 0 (IntKind.wrap .i64 (a10 - 1))) fun x16 => some x16) (some false)) fun x17 => lh x17) (br (a1 == 3) (bO (br (((a1 == a1) && ((a2 == 0) && ((a3 == 0) && ((a4 == 0) && ((a5 == 0) && ((a6 == a6) && ((a7 == 0) && (a8 == 0))))))))) (bO (cH a6 0 (IntKind.wrap .i64 (a9 - 1))) fun x23 => some x23) (some false)) fun x24 => ll x24) (some false))))
def kI (a1 a2 a3 a4 a5 a6 a7 a8 a9 a10 : Int) : Option Bool :=
  bO (cH a9 1 4) fun x1 => bO (br (!x1) (some true) (bO (cH a10 0 3) fun x2 => some (!x2))) fun x3 => iy a1 a2 a3 a4 a5 a6 a7 a8 a9 a10 x3
theorem sA {a1 a2 a3 a4 a5 a6 a7 a8 a9 a10 : Int} {r : Bool} (h : kI a1 a2 a3 a4 a5 a6 a7 a8 a9 a10 = some r) :
    aU Tryz.prog 61 [.agg [.int .i64 a1, .int .i64 a2, .int .i64 a3, .int .i64 a4, .int .i64 a5, .int .i64 a6, .int .i64 a7, .int .i64 a8], .int .i64 a9, .int .i64 a10] [] (.bool r) [] := by
 unfold kI at h; refine SO Tryz.func61 rfl Tryz.ntmps61 fun C hN hρ => ?_; simp only [st0, aW, Nat.zero_add, Nat.reduceAdd]; refine AN hN ?_; refine aH ?_; refine AJ (fun S => ∃ (v1 : Bool), S = ⟨mkT [(1, .int .i64 a9), (2, .int .i64 a10), (3, .ptr 32 0), (14, .bool v1)], mkR [(32, .box 75 [.int .i64 a1, .int .i64 a2, .int .i64 a3, .int .i64 a4, .int .i64 a5, .int .i64 a6, .int .i64 a7, .int .i64 a8])], 64⟩ ∧ iy a1 a2 a3 a4 a5 a6 a7 a8 a9 a10 v1 = some r) hN ?_ ?_
 ·intro K hK; obtain ⟨x1, h1, h⟩ := aA h; simp only [EV, seval]; refine CP (av h1) ?_; obtain ⟨x3, hv1, h⟩ := aA h; rcases aR hv1 with ⟨hc1, hv1⟩ | ⟨hc1, hv1⟩
  ·cases hv1; simp only [EV, seval, hc1]; refine hK _ _ _ (show aM _ _ _ from aP ⟨_, rfl, h⟩ (aD [(32, some 64)] [] hρ (by kernel_rfl) ?_ ?_)) <;> simp only [AL, EV, seval, hc1]
  ·obtain ⟨x4, h3, hv1⟩ := aA hv1; simp only [EV, seval, hc1]; refine aj (av h3) (by simp only [AL, EV, seval, hc1]) (aN rfl) (ab rfl) ?_; cases hv1; simp only [EV, seval, hc1]; refine hK _ _ _ (show aM _ _ _ from aP ⟨_, rfl, h⟩ (aD [(32, some 64)] [] hρ (by kernel_rfl) ?_ ?_)) <;> simp only [AL, EV, seval, hc1]
 ·rintro S ⟨v1, rfl, h⟩; unfold iy at h; refine AB h (fun hc2 h => ?_) fun hc2 h => ?_
  ·refine AN hN ?_; injection h with h; subst h; exact AX (b' := 64) [(6, .bool false)] [] [] [] hρ (EQ [])
  ·refine aE (AK ?_); refine aH ?_; refine AN hN ?_; refine aJ ?_; refine AN hN ?_; refine AB h (fun hc3 h => ?_) fun hc3 h => ?_
   ·refine AJ (fun S => ∃ (v2 : Bool), S = ⟨mkT [(6, .bool v2)], mkR [], 64⟩ ∧ lg v2 = some r) hN ?_ ?_
    ·intro K hK; obtain ⟨x6, hv2, h⟩ := aA h; rcases aR hv2 with ⟨hc4, hv2⟩ | ⟨hc4, hv2⟩
     ·obtain ⟨x9, h6, hv2⟩ := aA hv2; simp only [EV, seval, hc4]; refine aj (jX h6) (by simp only [AL, EV, seval, hc4]) (aN rfl) (ab rfl) ?_; cases hv2; obtain ⟨x11, hv4, h⟩ := aA h; rcases aR hv4 with ⟨hc6, hv4⟩ | ⟨hc6, hv4⟩
      ·obtain ⟨x12, h8, hv4⟩ := aA hv4; simp only [EV, seval, hc4, hc6]; refine aj (av h8) (by simp only [AL, EV, seval, hc4, hc6]) (aN rfl) (ab rfl) ?_; cases hv4; simp only [EV, seval, hc4, hc6]; refine hK _ _ _ (show aM _ _ _ from aP ⟨_, rfl, h⟩ (aD [] [] hρ (by kernel_rfl) ?_ ?_)) <;> simp only [AL, EV, seval, hc4, hc6]
      ·cases hv4; simp only [EV, seval, hc4, hc6]; refine hK _ _ _ (show aM _ _ _ from aP ⟨_, rfl, h⟩ (aD [] [] hρ (by kernel_rfl) ?_ ?_)) <;> simp only [AL, EV, seval, hc4, hc6]
     ·cases hv2; obtain ⟨x13, hv5, h⟩ := aA h; replace hv5 := kU hv5; cases hv5; (try dsimp only at h); simp only [EV, seval, hc4]; refine hK _ _ _ (show aM _ _ _ from aP ⟨_, rfl, h⟩ (aD [] [] hρ (by kernel_rfl) ?_ ?_)) <;> simp only [AL, EV, seval, hc4]
    ·rintro S ⟨v2, rfl, h⟩; unfold lg at h; injection h with h; subst h; exact AX (b' := 64) [(6, .bool v2)] [] [] [] hρ (EQ [])
   ·refine AN hN ?_; refine AB h (fun hc7 h => ?_) fun hc7 h => ?_
    ·refine AJ (fun S => ∃ (v3 : Bool), S = ⟨mkT [(6, .bool v3)], mkR [], 64⟩ ∧ lh v3 = some r) hN ?_ ?_
     ·intro K hK; obtain ⟨x15, hv6, h⟩ := aA h; rcases aR hv6 with ⟨hc8, hv6⟩ | ⟨hc8, hv6⟩
      ·obtain ⟨x18, h11, hv6⟩ := aA hv6; simp only [EV, seval, hc8]; refine aj (av h11) (by simp only [AL, EV, seval, hc8]) (aN rfl) (ab rfl) ?_; cases hv6; obtain ⟨x20, hv8, h⟩ := aA h; rcases aR hv8 with ⟨hc10, hv8⟩ | ⟨hc10, hv8⟩
       ·obtain ⟨x21, h13, hv8⟩ := aA hv8; simp only [EV, seval, hc8, hc10]; refine aj (av h13) (by simp only [AL, EV, seval, hc8, hc10]) (aN rfl) (ab rfl) ?_; cases hv8; simp only [EV, seval, hc8, hc10]; refine hK _ _ _ (show aM _ _ _ from aP ⟨_, rfl, h⟩ (aD [] [] hρ (by kernel_rfl) ?_ ?_)) <;> simp only [AL, EV, seval, hc8, hc10]
       ·cases hv8; simp only [EV, seval, hc8, hc10]; refine hK _ _ _ (show aM _ _ _ from aP ⟨_, rfl, h⟩ (aD [] [] hρ (by kernel_rfl) ?_ ?_)) <;> simp only [AL, EV, seval, hc8, hc10]
      ·cases hv6; obtain ⟨x22, hv9, h⟩ := aA h; replace hv9 := kU hv9; cases hv9; (try dsimp only at h); simp only [EV, seval, hc8]; refine hK _ _ _ (show aM _ _ _ from aP ⟨_, rfl, h⟩ (aD [] [] hρ (by kernel_rfl) ?_ ?_)) <;> simp only [AL, EV, seval, hc8]
     ·rintro S ⟨v3, rfl, h⟩; unfold lh at h; injection h with h; subst h; exact AX (b' := 64) [(6, .bool v3)] [] [] [] hρ (EQ [])
    ·refine AN hN ?_; refine AB h (fun hc11 h => ?_) fun hc11 h => ?_
     ·refine AJ (fun S => ∃ (v4 : Bool), S = ⟨mkT [(6, .bool v4)], mkR [], 64⟩ ∧ ll v4 = some r) hN ?_ ?_
      ·intro K hK; obtain ⟨x24, hv10, h⟩ := aA h; rcases aR hv10 with ⟨hc12, hv10⟩ | ⟨hc12, hv10⟩
       ·obtain ⟨x25, h15, hv10⟩ := aA hv10; simp only [EV, seval, hc12]; refine aj (av h15) (by simp only [AL, EV, seval, hc12]) (aN rfl) (ab rfl) ?_; cases hv10; simp only [EV, seval, hc12]; refine hK _ _ _ (show aM _ _ _ from aP ⟨_, rfl, h⟩ (aD [] [] hρ (by kernel_rfl) ?_ ?_)) <;> simp only [AL, EV, seval, hc12]
       ·cases hv10; simp only [EV, seval, hc12]; refine hK _ _ _ (show aM _ _ _ from aP ⟨_, rfl, h⟩ (aD [] [] hρ (by kernel_rfl) ?_ ?_)) <;> simp only [AL, EV, seval, hc12]
      ·rintro S ⟨v4, rfl, h⟩; unfold ll at h; injection h with h; subst h; exact AX (b' := 64) [(6, .bool v4)] [] [] [] hρ (EQ [])
     ·refine aE (AK ?_); refine AN hN ?_; injection h with h; subst h; exact AX (b' := 64) [(6, .bool false)] [] [] [] hρ (EQ [])
def ci (v9 : Int) (kl1 : Int → Int → Option Bool) (v11 : Int) : Option Bool :=
  kl1 v11 (IntKind.wrap .i64 (v9 + 1))
def cj (v8 v9 : Int) (kl1 : Int → Int → Option Bool) (q3 : Int × Int × Int × Int × Int × Int × Int × Int) (v10 : Bool) : Option Bool :=
  br v10 (some false) (br (q3.1 == 2) (ci v9 kl1 (IntKind.wrap .i64 (v8 + 1))) (ci v9 kl1 v8))
def gb (a3 v12 : Int) : Option Bool :=
  some (v12 == a3)
def bF (a1 a3 : Int) (a4 : LO) : Nat → Int → Int → Option Bool
  | 0, _, _ => none
  | n1 + 1, v8, v9 =>
  br (decide (v9 < ((a4.length : Int)))) (bO (ak a4 v9) fun q3 => bO (kI q3.1 q3.2.1 q3.2.2.1 q3.2.2.2.1 q3.2.2.2.2.1 q3.2.2.2.2.2.1 q3.2.2.2.2.2.2.1 q3.2.2.2.2.2.2.2 a1 a3) fun x24 => bO (br (!x24) (some true) (some (decide (v8 < q3.2.2.2.2.2.2.2)))) fun x25 => bO (br x25 (some true) (bO (br (q3.1 == 2) (some (q3.2.2.2.2.2.2.1 != v8)) (some false)) fun x26 => some x26)) fun x27 => cj v8 v9 (bF a1 a3 a4 n1) q3 x27) (gb a3 v8)
def eK (a1 a3 : Int) (a4 : LO) (v1 : Bool) : Option Bool :=
  br v1 (some false) (bF a1 a3 a4 FU 0 0)
def dT (a1 a2 a3 : Int) (a4 : LO) : Option Bool :=
  bO (cH a1 1 4) fun x1 => bO (br (!x1) (some true) (bO (cH a2 1 a1) fun x2 => some (!x2))) fun x3 => bO (br x3 (some true) (bO (cH a3 0 3) fun x4 => some (!x4))) fun x5 => bO (br x5 (some true) (some (decide (120 < ((a4.length : Int)))))) fun x6 => eK a1 a3 a4 x6
theorem kj {a1 a2 a3 : Int} {a4 : LO} {r : Bool} (h : dT a1 a2 a3 a4 = some r) :
    aU Tryz.prog 34 [.agg [.int .i64 a1, .int .i64 a2, .int .i64 a3, .sl (aB aK a4) a4.length]] [] (.bool r) [] := by
 unfold dT at h; refine SO Tryz.func34 rfl Tryz.ntmps34 fun C hN hρ => ?_; simp only [st0, aW, Nat.zero_add, Nat.reduceAdd]; refine AN hN ?_; refine aH ?_; refine AJ (fun S => ∃ (v1 : Bool), S = ⟨mkT [(1, .ptr 32 0), (29, .bool v1)], mkR [(32, .box 26 [.int .i64 a1, .int .i64 a2, .int .i64 a3, .sl (aB aK a4) a4.length])], 64⟩ ∧ eK a1 a3 a4 v1 = some r) hN ?_ ?_
 ·intro K hK; obtain ⟨x1, h1, h⟩ := aA h; simp only [EV, seval]; refine CP (av h1) ?_; obtain ⟨x3, hv1, h⟩ := aA h; rcases aR hv1 with ⟨hc1, hv1⟩ | ⟨hc1, hv1⟩
  ·cases hv1; obtain ⟨x7, hv4, h⟩ := aA h; replace hv4 := iX hv4; cases hv4; (try dsimp only at h); obtain ⟨x8, hv5, h⟩ := aA h; replace hv5 := iX hv5; cases hv5; (try dsimp only at h); simp only [EV, seval, hc1]; refine hK _ _ _ (show aM _ _ _ from aP ⟨_, rfl, h⟩ (aD [(32, some 64)] [] hρ (by kernel_rfl) ?_ ?_)) <;> simp only [AL, EV, seval, hc1]
  ·obtain ⟨x9, h4, hv1⟩ := aA hv1; simp only [EV, seval, hc1]; refine aj (av h4) (by simp only [AL, EV, seval, hc1]) (aN rfl) (ab rfl) ?_; cases hv1; obtain ⟨x11, hv6, h⟩ := aA h; rcases aR hv6 with ⟨hc4, hv6⟩ | ⟨hc4, hv6⟩
   ·cases hv6; obtain ⟨x13, hv8, h⟩ := aA h; replace hv8 := iX hv8; cases hv8; (try dsimp only at h); simp only [EV, seval, hc1, hc4]; refine hK _ _ _ (show aM _ _ _ from aP ⟨_, rfl, h⟩ (aD [(32, some 64)] [] hρ (by kernel_rfl) ?_ ?_)) <;> simp only [AL, EV, seval, hc1, hc4]
   ·obtain ⟨x14, h6, hv6⟩ := aA hv6; simp only [EV, seval, hc1, hc4]; refine aj (av h6) (by simp only [AL, EV, seval, hc1, hc4]) (aN rfl) (ab rfl) ?_; cases hv6; obtain ⟨x15, hv9, h⟩ := aA h; rcases aR hv9 with ⟨hc6, hv9⟩ | ⟨hc6, hv9⟩
    ·cases hv9; simp only [EV, seval, hc1, hc4, hc6]; refine hK _ _ _ (show aM _ _ _ from aP ⟨_, rfl, h⟩ (aD [(32, some 64)] [] hρ (by kernel_rfl) ?_ ?_)) <;> simp only [AL, EV, seval, hc1, hc4, hc6]
    ·cases hv9; simp only [EV, seval, hc1, hc4, hc6]; refine hK _ _ _ (show aM _ _ _ from aP ⟨_, rfl, h⟩ (aD [(32, some 64)] [] hρ (by kernel_rfl) ?_ ?_)) <;> simp only [AL, EV, seval, hc1, hc4, hc6]
 ·rintro S ⟨v1, rfl, h⟩; unfold eK at h; refine AB h (fun hc7 h => ?_) fun hc7 h => ?_
  ·refine AN hN ?_; injection h with h; subst h; exact AX (b' := 64) [(2, .bool false)] [] [] [] hρ (EQ [])
  ·refine aE (AK ?_); refine AN hN ?_; refine aQ (fun S => ∃ (v12 : Int), S = ⟨mkT [(1, .ptr 32 0), (3, .int .i64 v12)], mkR [(32, .box 26 [.int .i64 a1, .int .i64 a2, .int .i64 a3, .sl (aB aK a4) a4.length])], 64⟩ ∧ gb a3 v12 = some r) ?_ ?_
   ·refine AN hN ?_; refine aJ ?_; refine aX (fun n S => ∃ (v8 v9 : Int), S = ⟨mkT [(1, .ptr 32 0), (3, .int .i64 v8), (4, .int .i64 v9)], mkR [(32, .box 26 [.int .i64 a1, .int .i64 a2, .int .i64 a3, .sl (aB aK a4) a4.length])], 64⟩ ∧ bF a1 a3 a4 n v8 v9 = some r) FU ?_ ?_ ?_
    ·exact AC ⟨_, _, rfl, h⟩ [(32, some 32)] [] hρ
    ·rintro S ⟨_, _, _, h⟩; rw [bF] at h; cases h
    ·rintro n1 S ⟨v8, v9, rfl, h⟩; rw [bF] at h; refine aH ?_; refine AN hN ?_; refine AB h (fun hc20 h => ?_) fun hc20 h => ?_
     ·refine aE (AK ?_); refine aQ (fun S => ∃ (v11 : Int), S = ⟨mkT [(1, .ptr 32 0), (3, .int .i64 v11), (4, .int .i64 v9)], mkR [(32, .box 26 [.int .i64 a1, .int .i64 a2, .int .i64 a3, .sl (aB aK a4) a4.length])], 64⟩ ∧ ci v9 (bF a1 a3 a4 n1) v11 = some r) ?_ ?_
      ·refine aJ ?_; refine AR hN fun K hK => ?_; obtain ⟨q3, h13, h⟩ := aA h; obtain ⟨⟨h14a, h14b⟩, h14c⟩ := aY eg h13; (try simp only [EV, seval] at h14c); simp only [EV, seval, h14a, h14b, h14c]; apply hK; clear hK K; refine aH ?_; refine AJ (fun S => ∃ (v10 : Bool), S = ⟨mkT [(1, .ptr 32 0), (3, .int .i64 v8), (4, .int .i64 v9), (5, .ptr 33 0), (65, .bool v10)], mkR [(32, .box 26 [.int .i64 a1, .int .i64 a2, .int .i64 a3, .sl (aB aK a4) a4.length]), (33, .box 75 [.int .i64 q3.1, .int .i64 q3.2.1, .int .i64 q3.2.2.1, .int .i64 q3.2.2.2.1, .int .i64 q3.2.2.2.2.1, .int .i64 q3.2.2.2.2.2.1, .int .i64 q3.2.2.2.2.2.2.1, .int .i64 q3.2.2.2.2.2.2.2])], 64⟩ ∧ cj v8 v9 (bF a1 a3 a4 n1) q3 v10 = some r) hN ?_ ?_
       ·intro K hK; obtain ⟨x24, h15, h⟩ := aA h; simp only [EV, seval]; refine CP (sA h15) ?_; obtain ⟨x25, hv16, h⟩ := aA h; rcases aR hv16 with ⟨hc21, hv16⟩ | ⟨hc21, hv16⟩
        ·cases hv16; obtain ⟨x28, hv19, h⟩ := aA h; replace hv19 := iX hv19; cases hv19; (try dsimp only at h); simp only [EV, seval, hc21]; refine hK _ _ _ (show aM _ _ _ from aP ⟨_, rfl, h⟩ (aD [(32, some 32), (33, some 1168)] [] hρ (by kernel_rfl) ?_ ?_)) <;> simp only [AL, EV, seval, hc21]
        ·cases hv16; obtain ⟨x30, hv20, h⟩ := aA h; rcases aR hv20 with ⟨hc24, hv20⟩ | ⟨hc24, hv20⟩
         ·cases hv20; simp only [EV, seval, hc21, hc24]; refine hK _ _ _ (show aM _ _ _ from aP ⟨_, rfl, h⟩ (aD [(32, some 32), (33, some 1168)] [] hρ (by kernel_rfl) ?_ ?_)) <;> simp only [AL, EV, seval, hc21, hc24]
         ·obtain ⟨x31, hv22, hv20⟩ := aA hv20; rcases aR hv22 with ⟨hc26, hv22⟩ | ⟨hc26, hv22⟩
          ·cases hv22; cases hv20; simp only [EV, seval, hc21, hc24, hc26]; refine hK _ _ _ (show aM _ _ _ from aP ⟨_, rfl, h⟩ (aD [(32, some 32), (33, some 1168)] [] hρ (by kernel_rfl) ?_ ?_)) <;> simp only [AL, EV, seval, hc21, hc24, hc26]
          ·cases hv22; cases hv20; simp only [EV, seval, hc21, hc24, hc26]; refine hK _ _ _ (show aM _ _ _ from aP ⟨_, rfl, h⟩ (aD [(32, some 32), (33, some 1168)] [] hρ (by kernel_rfl) ?_ ?_)) <;> simp only [AL, EV, seval, hc21, hc24, hc26]
       ·rintro S ⟨v10, rfl, h⟩; unfold cj at h; refine ah (a := .bool v10) (by simp only [EV, seval, h14a, h14b, h14c]) (brK h (fun hc27 h => ?_) (fun hc27 h => ?_))
        ·refine AN hN ?_; injection h with h; subst h; exact AX (b' := 64) [(2, .bool false)] [] [] [] hρ (EQ [])
        ·refine aE (AK ?_); refine AN hN ?_; refine AB h (fun hc28 h => ?_) fun hc28 h => ?_
         ·refine AS hN fun K hK => ?_; simp only [EV, seval]; exact hK _ _ _ (AC ⟨_, rfl, h⟩ [(32, some 32)] [] hρ)
         ·refine aE (show aM _ _ _ from aP ⟨_, rfl, h⟩ (aD [(32, some 32)] [] hρ (by kernel_rfl) ?_ ?_)) <;> simp only [AL, EV, seval]
      ·rintro S ⟨v11, rfl, h⟩; unfold ci at h; refine AS hN fun K hK => ?_; simp only [EV, seval]; exact hK _ _ _ (AC ⟨_, _, rfl, h⟩ [(32, some 32)] [] hρ)
     ·exact aa (AC ⟨_, rfl, h⟩ [(32, some 32)] [] hρ)
   ·rintro S ⟨v12, rfl, h⟩; unfold gb at h; refine AN hN ?_; injection h with h; subst h; exact AX (b' := 64) [(2, .bool (v12 == a3))] [] [] [] hρ (EQ [])
def jo (a1 v1 : Int) : Option (List (Int × Int × Int × Int × Int × Int)) :=
  bO (fP v1) fun x1 => some ([(a1, x1.1, x1.2.1, x1.2.2.1, x1.2.2.2.1, x1.2.2.2.2)])
def fk (a1 : Int) (a2 : Bool) (a3 : Int) : Option (List (Int × Int × Int × Int × Int × Int)) :=
  br (!a2) (jo a1 0) (jo a1 a3)
theorem dx {a1 : Int} {a2 : Bool} {a3 : Int} {r : List (Int × Int × Int × Int × Int × Int)} (h : fk a1 a2 a3 = some r) :
    aU Tryz.prog 135 [.int .i64 a1, .bool a2, .int .i64 a3] [] (.own 0 r.length) [.row 158 6 (aB cW r)] := by
 unfold fk at h; refine SO Tryz.func135 rfl Tryz.ntmps135 fun C hN hρ => ?_; simp only [st0, aW, Nat.zero_add, Nat.reduceAdd]; refine AN hN ?_; refine aQ (fun S => ∃ (v1 : Int), S = ⟨mkT [(0, .int .i64 a1), (2, .int .i64 v1)], mkR [], 64⟩ ∧ jo a1 v1 = some r) ?_ ?_
 ·refine AN hN ?_; refine AB h (fun hc1 h => ?_) fun hc1 h => ?_
  ·refine AS hN fun K hK => ?_; simp only [EV, seval]; exact hK _ _ _ (AC ⟨_, rfl, h⟩ [] [] hρ)
  ·refine aE (show aM _ _ _ from aP ⟨_, rfl, h⟩ (aD [] [] hρ (by kernel_rfl) ?_ ?_)) <;> simp only [AL, EV, seval]
 ·rintro S ⟨v1, rfl, h⟩; unfold jo at h; obtain ⟨x1, h1, h⟩ := aA h; refine AP hN (gB h1) ?_; injection h with h; subst h; exact AX (b' := 64) [(6, .own 32 ([(a1, x1.1, x1.2.1, x1.2.2.1, x1.2.2.2.1, x1.2.2.2.2)]).length)] [(32, .row 158 6 (aB cW ([(a1, x1.1, x1.2.1, x1.2.2.1, x1.2.2.2.1, x1.2.2.2.2)])))] [(32, some 128)] [] hρ (EQ [32])
def kw (v1 : Int) : Option (List (Int × Int × Int × Int × Int × Int)) :=
  bO (fP 0) fun x1 => some ([(v1, x1.1, x1.2.1, x1.2.2.1, x1.2.2.2.1, x1.2.2.2.2)])
def mj (a1 a2 : Int) (a3 : Bool) : Option (List (Int × Int × Int × Int × Int × Int)) :=
  br a3 (gd (decide (¬ (IntKind.wrap .u64 a2) < 0)) (kw (bits .xor .i64 a1 (IntKind.wrap .i64 (1 * 2 ^ min (Int.toNat (IntKind.wrap .u64 a2)) (IntKind.bits .i64)))))) (kw a1)
theorem kz {a1 a2 : Int} {a3 : Bool} {r : List (Int × Int × Int × Int × Int × Int)} (h : mj a1 a2 a3 = some r) :
    aU Tryz.prog 133 [.int .i64 a1, .int .i64 a2, .bool a3] [] (.own 0 r.length) [.row 158 6 (aB cW r)] := by
 unfold mj at h; refine SO Tryz.func133 rfl Tryz.ntmps133 fun C hN hρ => ?_; simp only [st0, aW, Nat.zero_add, Nat.reduceAdd]; refine AN hN ?_; refine aQ (fun S => ∃ (v1 : Int), S = ⟨mkT [(0, .int .i64 v1)], mkR [], 64⟩ ∧ kw v1 = some r) ?_ ?_
 ·refine AN hN ?_; refine AB h (fun hc1 h => ?_) fun hc1 h => ?_
  ·refine AS hN fun K hK => ?_; obtain ⟨h1, h⟩ := gdI h; simp only [EV, seval, h1]; refine hK _ _ _ (show aM _ _ _ from aP ⟨_, rfl, h⟩ (aD [] [] hρ (by kernel_rfl) ?_ ?_)) <;> simp only [AL, EV, seval, h1]
  ·refine aE (show aM _ _ _ from aP ⟨_, rfl, h⟩ (aD [] [] hρ (by kernel_rfl) ?_ ?_)) <;> simp only [AL, EV, seval]
 ·rintro S ⟨v1, rfl, h⟩; unfold kw at h; obtain ⟨x1, h2, h⟩ := aA h; refine AP hN (gB h2) ?_; injection h with h; subst h; exact AX (b' := 64) [(6, .own 32 ([(v1, x1.1, x1.2.1, x1.2.2.1, x1.2.2.2.1, x1.2.2.2.2)]).length)] [(32, .row 158 6 (aB cW ([(v1, x1.1, x1.2.1, x1.2.2.1, x1.2.2.2.1, x1.2.2.2.2)])))] [(32, some 112)] [] hρ (EQ [32])
def o9 (a1 a2 a3 a4 : Int) : Option (Int × Int × Int × Int) :=
  bO (bG a1 a2 a3 a4) fun x1 => br (!x1) (some (0, 0, 0, 0)) (some (IntKind.wrap .i64 (0 - a1), IntKind.wrap .i64 (0 - a2), IntKind.wrap .i64 (0 - a3), IntKind.wrap .i64 (0 - a4)))
theorem sB {a1 a2 a3 a4 : Int} {r : Int × Int × Int × Int} (h : o9 a1 a2 a3 a4 = some r) :
    aU Tryz.prog 148 [.agg [.int .i64 a1, .int .i64 a2, .int .i64 a3, .int .i64 a4]] [] (.agg [.int .i64 r.1, .int .i64 r.2.1, .int .i64 r.2.2.1, .int .i64 r.2.2.2]) [] := by
 unfold o9 at h; refine SO Tryz.func148 rfl Tryz.ntmps148 fun C hN hρ => ?_; simp only [st0, aW, Nat.zero_add, Nat.reduceAdd]; refine AN hN ?_; refine aH ?_; obtain ⟨x1, h1, h⟩ := aA h; refine AP hN (be h1) ?_; refine AB h (fun hc1 h => ?_) fun hc1 h => ?_
 ·refine AN hN ?_; injection h with h; subst h; exact AX (b' := 64) [(2, .ptr 32 0)] [(32, .box 34 [.int .i64 0, .int .i64 0, .int .i64 0, .int .i64 0])] [(32, some 80)] [] hρ (EQ [])
 ·refine aE (AK ?_); refine AN hN ?_; injection h with h; subst h; exact AX (b' := 64) [(2, .ptr 32 0)] [(32, .box 34 [.int .i64 (IntKind.wrap .i64 (0 - a1)), .int .i64 (IntKind.wrap .i64 (0 - a2)), .int .i64 (IntKind.wrap .i64 (0 - a3)), .int .i64 (IntKind.wrap .i64 (0 - a4))])] [(32, some 80)] [] hρ (EQ [])
def oA (a1 a2 a3 a4 a5 : Int) : Option (Int × Int × Int × Int × Int) :=
  bO (cE a1 a2 a3 a4 a5) fun x1 => br (!x1) (some (0, 0, 0, 0, 0)) (bO (o9 a1 a2 a3 a4) fun x2 => some (x2.1, x2.2.1, x2.2.2.1, x2.2.2.2, a5))
theorem sC {a1 a2 a3 a4 a5 : Int} {r : Int × Int × Int × Int × Int} (h : oA a1 a2 a3 a4 a5 = some r) :
    aU Tryz.prog 137 [.agg [.int .i64 a1, .int .i64 a2, .int .i64 a3, .int .i64 a4, .int .i64 a5]] [] (.agg [.int .i64 r.1, .int .i64 r.2.1, .int .i64 r.2.2.1, .int .i64 r.2.2.2.1, .int .i64 r.2.2.2.2]) [] := by
 unfold oA at h; refine SO Tryz.func137 rfl Tryz.ntmps137 fun C hN hρ => ?_; simp only [st0, aW, Nat.zero_add, Nat.reduceAdd]; refine AN hN ?_; refine aH ?_; obtain ⟨x1, h1, h⟩ := aA h; refine AP hN (cw h1) ?_; refine AB h (fun hc1 h => ?_) fun hc1 h => ?_
 ·refine AN hN ?_; injection h with h; subst h; exact AX (b' := 64) [(2, .ptr 32 0)] [(32, .box 36 [.int .i64 0, .int .i64 0, .int .i64 0, .int .i64 0, .int .i64 0])] [(32, some 80)] [] hρ (EQ [])
 ·refine aE (AK ?_); obtain ⟨x2, h2, h⟩ := aA h; refine AP hN (sB h2) ?_; injection h with h; subst h; exact AX (b' := 64) [(2, .ptr 32 0)] [(32, .box 36 [.int .i64 x2.1, .int .i64 x2.2.1, .int .i64 x2.2.2.1, .int .i64 x2.2.2.2, .int .i64 a5])] [(32, some 80)] [] hρ (EQ [])
def l0 (a2 a5 v1 : Int) : Option (List (Int × Int × Int × Int × Int × Int)) :=
  gd (decide (¬ (IntKind.wrap .u64 a2) < 0)) (bO (fP v1) fun x2 => some ([(bits .xor .i64 a5 (IntKind.wrap .i64 (1 * 2 ^ min (Int.toNat (IntKind.wrap .u64 a2)) (IntKind.bits .i64))), x2.1, x2.2.1, x2.2.2.1, x2.2.2.2.1, x2.2.2.2.2)]))
def nQ (v2 : List (Int × Int × Int × Int × Int × Int)) : Option (List (Int × Int × Int × Int × Int × Int)) :=
  some v2
def nR (v3 : List (Int × Int × Int × Int × Int × Int)) : Option (List (Int × Int × Int × Int × Int × Int)) :=
  some v3
def l7 (v4 : Int) : Option (List (Int × Int × Int × Int × Int × Int)) :=
  bO (fP 0) fun x17 => some ([(v4, x17.1, x17.2.1, x17.2.2.1, x17.2.2.2.1, x17.2.2.2.2)])
def l9 (a2 : Int) (x18 : Int × Int × Int × Int × Int) (v5 v6 v7 v8 v9 v10 : Int) : Option (List (Int × Int × Int × Int × Int × Int)) :=
  gd (decide (¬ (IntKind.wrap .u64 a2) < 0)) (some ([(v5, x18.1, x18.2.1, x18.2.2.1, x18.2.2.2.1, x18.2.2.2.2), (bits .or .i64 v5 (IntKind.wrap .i64 (1 * 2 ^ min (Int.toNat (IntKind.wrap .u64 a2)) (IntKind.bits .i64))), v6, v7, v8, v9, v10)]))
def mn (a1 a2 a3 a4 a5 : Int) : Option (List (Int × Int × Int × Int × Int × Int)) :=
  gd (decide (¬ (IntKind.wrap .u64 a2) < 0)) (gd (decide (¬ (IntKind.wrap .u64 a3) < 0)) (br (a1 == 1) (bO (mj a5 a2 true) fun x1 => some x1) (br (a1 == 2) (br ((bits .and .i64 (Int.fdiv a5 (2 ^ min (Int.toNat (IntKind.wrap .u64 a2)) (IntKind.bits .i64))) 1) == 1) (l0 a2 a5 6) (l0 a2 a5 2)) (br (a1 == 3) (bO (fk a5 ((bits .and .i64 (Int.fdiv a5 (2 ^ min (Int.toNat (IntKind.wrap .u64 a2)) (IntKind.bits .i64))) 1) == 1) 4) fun x3 => some x3) (br (a1 == 5) (bO (fk a5 ((bits .and .i64 (Int.fdiv a5 (2 ^ min (Int.toNat (IntKind.wrap .u64 a2)) (IntKind.bits .i64))) 1) == 1) 2) fun x4 => some x4) (br (a1 == 6) (bO (fk a5 ((bits .and .i64 (Int.fdiv a5 (2 ^ min (Int.toNat (IntKind.wrap .u64 a2)) (IntKind.bits .i64))) 1) == 1) 6) fun x5 => some x5) (br (a1 == 7) (bO (fk a5 ((bits .and .i64 (Int.fdiv a5 (2 ^ min (Int.toNat (IntKind.wrap .u64 a2)) (IntKind.bits .i64))) 1) == 1) 1) fun x6 => some x6) (br (a1 == 8) (bO (fk a5 ((bits .and .i64 (Int.fdiv a5 (2 ^ min (Int.toNat (IntKind.wrap .u64 a2)) (IntKind.bits .i64))) 1) == 1) 7) fun x7 => some x7) (br (a1 == 9) (bO (mj a5 a3 ((bits .and .i64 (Int.fdiv a5 (2 ^ min (Int.toNat (IntKind.wrap .u64 a2)) (IntKind.bits .i64))) 1) == 1)) fun x8 => some x8) (br (a1 == 10) (bO (br ((bits .and .i64 (Int.fdiv a5 (2 ^ min (Int.toNat (IntKind.wrap .u64 a2)) (IntKind.bits .i64))) 1) == 1) (some ((bits .and .i64 (Int.fdiv a5 (2 ^ min (Int.toNat (IntKind.wrap .u64 a3)) (IntKind.bits .i64))) 1) == 1)) (some false)) fun x9 => bO (fk a5 x9 4) fun x10 => nQ x10) (br (a1 == 12) (bO (br ((bits .and .i64 (Int.fdiv a5 (2 ^ min (Int.toNat (IntKind.wrap .u64 a2)) (IntKind.bits .i64))) 1) == 1) (some ((bits .and .i64 (Int.fdiv a5 (2 ^ min (Int.toNat (IntKind.wrap .u64 a3)) (IntKind.bits .i64))) 1) == 1)) (some false)) fun x13 => bO (mj a5 a4 x13) fun x14 => nR x14) (br (a1 == 11) (br (((bits .and .i64 (Int.fdiv a5 (2 ^ min (Int.toNat (IntKind.wrap .u64 a2)) (IntKind.bits .i64))) 1) == 1) != ((bits .and .i64 (Int.fdiv a5 (2 ^ min (Int.toNat (IntKind.wrap .u64 a3)) (IntKind.bits .i64))) 1) == 1)) (gd (decide (¬ (IntKind.wrap .u64 a2) < 0)) (gd (decide (¬ (IntKind.wrap .u64 a3) < 0)) (l7 (bits .xor .i64 (bits .xor .i64 a5 (IntKind.wrap .i64 (1 * 2 ^ min (Int.toNat (IntKind.wrap .u64 a2)) (IntKind.bits .i64)))) (IntKind.wrap .i64 (1 * 2 ^ min (Int.toNat (IntKind.wrap .u64 a3)) (IntKind.bits .i64))))))) (l7 a5)) (gd (decide (¬ (IntKind.wrap .u64 a2) < 0)) (bO (kX 1) fun x18 => br ((bits .and .i64 (Int.fdiv a5 (2 ^ min (Int.toNat (IntKind.wrap .u64 a2)) (IntKind.bits .i64))) 1) == 1) (bO (oA x18.1 x18.2.1 x18.2.2.1 x18.2.2.2.1 x18.2.2.2.2) fun x19 => l9 a2 x18 (bits .andNot .i64 a5 (IntKind.wrap .i64 (1 * 2 ^ min (Int.toNat (IntKind.wrap .u64 a2)) (IntKind.bits .i64)))) x19.1 x19.2.1 x19.2.2.1 x19.2.2.2.1 x19.2.2.2.2) (l9 a2 x18 (bits .andNot .i64 a5 (IntKind.wrap .i64 (1 * 2 ^ min (Int.toNat (IntKind.wrap .u64 a2)) (IntKind.bits .i64)))) x18.1 x18.2.1 x18.2.2.1 x18.2.2.2.1 x18.2.2.2.2)))))))))))))))
theorem tp {a1 a2 a3 a4 a5 : Int} {r : List (Int × Int × Int × Int × Int × Int)} (h : mn a1 a2 a3 a4 a5 = some r) :
    aU Tryz.prog 120 [.agg [.int .i64 a1, .int .i64 a2, .int .i64 a3, .int .i64 a4], .int .i64 a5] [] (.own 0 r.length) [.row 158 6 (aB cW r)] := by
 unfold mn at h; refine SO Tryz.func120 rfl Tryz.ntmps120 fun C hN hρ => ?_; simp only [st0, aW, Nat.zero_add, Nat.reduceAdd]; refine AN hN ?_; refine AR hN fun K hK => ?_; obtain ⟨h1, h⟩ := gdI h; simp only [EV, seval, h1]; apply hK; clear hK K; refine AR hN fun K hK => ?_; obtain ⟨h2, h⟩ := gdI h; simp only [EV, seval, h2]; apply hK; clear hK K; refine aH ?_; refine AN hN ?_; refine aJ ?_; refine AN hN ?_; refine AB h (fun hc1 h => ?_) fun hc1 h => ?_
 ·refine AR hN fun K hK => ?_; obtain ⟨x1, h3, h⟩ := aA h; simp only [EV, seval]; refine aj (kz h3) (by simp only [AL, EV, seval]) (aN rfl) (ao (by simp only [EV, seval])) ?_; simp only [EV, seval]; apply hK; clear hK K; injection h with h; subst h; exact AX (b' := 64) [(4, .own 32 x1.length)] [(32, .row 158 6 (aB cW x1))] [(32, some 5232)] [] hρ (EQ [32])
 ·refine AN hN ?_; refine AB h (fun hc2 h => ?_) fun hc2 h => ?_
  ·refine AN hN ?_; refine aQ (fun S => ∃ (v1 : Int), S = ⟨mkT [(1, .int .i64 a5), (2, .ptr 32 0), (7, .int .i64 v1)], mkR [(32, .box 73 [.int .i64 a1, .int .i64 a2, .int .i64 a3, .int .i64 a4])], 64⟩ ∧ l0 a2 a5 v1 = some r) ?_ ?_
   ·refine AN hN ?_; refine AB h (fun hc3 h => ?_) fun hc3 h => ?_
    ·refine AS hN fun K hK => ?_; simp only [EV, seval]; exact hK _ _ _ (AC ⟨_, rfl, h⟩ [(32, some 64)] [] hρ)
    ·refine aE (show aM _ _ _ from aP ⟨_, rfl, h⟩ (aD [(32, some 64)] [] hρ (by kernel_rfl) ?_ ?_)) <;> simp only [AL, EV, seval]
   ·rintro S ⟨v1, rfl, h⟩; unfold l0 at h; refine AR hN fun K hK => ?_; obtain ⟨h4, h⟩ := gdI h; obtain ⟨x2, h5, h⟩ := aA h; simp only [EV, seval, h4]; refine aj (gB h5) (by simp only [AL, EV, seval, h4]) (aN rfl) (ab rfl) ?_; simp only [EV, seval, h4]; apply hK; clear hK K; injection h with h; subst h; refine ba (aD (lt := [(4, .own 32 ([(bits .xor .i64 a5 (IntKind.wrap .i64 (1 * 2 ^ min (Int.toNat (IntKind.wrap .u64 a2)) (IntKind.bits .i64))), x2.1, x2.2.1, x2.2.2.1, x2.2.2.2.1, x2.2.2.2.2)]).length)]) (lr := [(32, .row 158 6 (aB cW ([(bits .xor .i64 a5 (IntKind.wrap .i64 (1 * 2 ^ min (Int.toNat (IntKind.wrap .u64 a2)) (IntKind.bits .i64))), x2.1, x2.2.1, x2.2.2.1, x2.2.2.2.1, x2.2.2.2.2)])))]) (b' := 64) [(32, some 208)] [] hρ (by kernel_rfl) ?_ ?_) (bW (cX [32] (.inr rfl) (by kernel_rfl) (by kernel_rfl) ?_))
    ·simp only [AL, EV, seval, h4]
    ·simp only [AL, EV, seval, h4]
    ·simp only [EV, Tryz.results120, seval]
  ·refine AN hN ?_; refine AB h (fun hc4 h => ?_) fun hc4 h => ?_
   ·refine AR hN fun K hK => ?_; obtain ⟨x3, h6, h⟩ := aA h; simp only [EV, seval]; refine aj (dx h6) (by simp only [AL, EV, seval]) (aN rfl) (ao (by simp only [EV, seval])) ?_; simp only [EV, seval]; apply hK; clear hK K; injection h with h; subst h; exact AX (b' := 64) [(4, .own 32 x3.length)] [(32, .row 158 6 (aB cW x3))] [(32, some 7264)] [] hρ (EQ [32])
   ·refine AN hN ?_; refine AB h (fun hc5 h => ?_) fun hc5 h => ?_
    ·refine AR hN fun K hK => ?_; obtain ⟨x4, h7, h⟩ := aA h; simp only [EV, seval]; refine aj (dx h7) (by simp only [AL, EV, seval]) (aN rfl) (ao (by simp only [EV, seval])) ?_; simp only [EV, seval]; apply hK; clear hK K; injection h with h; subst h; exact AX (b' := 64) [(4, .own 32 x4.length)] [(32, .row 158 6 (aB cW x4))] [(32, some 8288)] [] hρ (EQ [32])
    ·refine AN hN ?_; refine AB h (fun hc6 h => ?_) fun hc6 h => ?_
     ·refine AR hN fun K hK => ?_; obtain ⟨x5, h8, h⟩ := aA h; simp only [EV, seval]; refine aj (dx h8) (by simp only [AL, EV, seval]) (aN rfl) (ao (by simp only [EV, seval])) ?_; simp only [EV, seval]; apply hK; clear hK K; injection h with h; subst h; exact AX (b' := 64) [(4, .own 32 x5.length)] [(32, .row 158 6 (aB cW x5))] [(32, some 9312)] [] hρ (EQ [32])
     ·refine AN hN ?_; refine AB h (fun hc7 h => ?_) fun hc7 h => ?_
      ·refine AR hN fun K hK => ?_; obtain ⟨x6, h9, h⟩ := aA h; simp only [EV, seval]; refine aj (dx h9) (by simp only [AL, EV, seval]) (aN rfl) (ao (by simp only [EV, seval])) ?_; simp only [EV, seval]; apply hK; clear hK K; injection h with h; subst h; exact AX (b' := 64) [(4, .own 32 x6.length)] [(32, .row 158 6 (aB cW x6))] [(32, some 10336)] [] hρ (EQ [32])
      ·refine AN hN ?_; refine AB h (fun hc8 h => ?_) fun hc8 h => ?_
       ·refine AR hN fun K hK => ?_; obtain ⟨x7, h10, h⟩ := aA h; simp only [EV, seval]; refine aj (dx h10) (by simp only [AL, EV, seval]) (aN rfl) (ao (by simp only [EV, seval])) ?_; simp only [EV, seval]; apply hK; clear hK K; injection h with h; subst h; exact AX (b' := 64) [(4, .own 32 x7.length)] [(32, .row 158 6 (aB cW x7))] [(32, some 11360)] [] hρ (EQ [32])
       ·refine AN hN ?_; refine AB h (fun hc9 h => ?_) fun hc9 h => ?_
        ·refine AR hN fun K hK => ?_; obtain ⟨x8, h11, h⟩ := aA h; simp only [EV, seval]; refine aj (kz h11) (by simp only [AL, EV, seval]) (aN rfl) (ao (by simp only [EV, seval])) ?_; simp only [EV, seval]; apply hK; clear hK K; injection h with h; subst h; exact AX (b' := 64) [(4, .own 32 x8.length)] [(32, .row 158 6 (aB cW x8))] [(32, some 12416)] [] hρ (EQ [32])
        ·refine AN hN ?_; refine AB h (fun hc10 h => ?_) fun hc10 h => ?_
         ·refine AJ (fun S => ∃ (v2 : List (Int × Int × Int × Int × Int × Int)), S = ⟨mkT [(4, .own 32 v2.length)], mkR [(32, .row 158 6 (aB cW v2))], 64⟩ ∧ nQ v2 = some r) hN ?_ ?_
          ·intro K hK; obtain ⟨x9, hv1, h⟩ := aA h; rcases aR hv1 with ⟨hc11, hv1⟩ | ⟨hc11, hv1⟩
           ·cases hv1; obtain ⟨x11, h13, h⟩ := aA h; simp only [EV, seval, hc11]; refine aj (dx h13) (by simp only [AL, EV, seval, hc11]) (aN rfl) (ao (by simp only [EV, seval])) ?_; simp only [EV, seval, hc11]; refine hK _ _ _ (show aM _ _ _ from aP ⟨_, rfl, h⟩ (aD [(32, some 13456)] [] hρ (by kernel_rfl) ?_ ?_)) <;> simp only [AL, EV, seval, hc11]
           ·cases hv1; obtain ⟨x12, h14, h⟩ := aA h; simp only [EV, seval, hc11]; refine aj (dx h14) (by simp only [AL, EV, seval, hc11]) (aN rfl) (ao (by simp only [EV, seval])) ?_; simp only [EV, seval, hc11]; refine hK _ _ _ (show aM _ _ _ from aP ⟨_, rfl, h⟩ (aD [(32, some 13456)] [] hρ (by kernel_rfl) ?_ ?_)) <;> simp only [AL, EV, seval, hc11]
          ·rintro S ⟨v2, rfl, h⟩; unfold nQ at h; injection h with h; subst h; exact AX (b' := 64) [(4, .own 32 v2.length)] [(32, .row 158 6 (aB cW v2))] [(32, some 32)] [] hρ (EQ [32])
         ·refine AN hN ?_; refine AB h (fun hc12 h => ?_) fun hc12 h => ?_
          ·refine AJ (fun S => ∃ (v3 : List (Int × Int × Int × Int × Int × Int)), S = ⟨mkT [(4, .own 32 v3.length)], mkR [(32, .row 158 6 (aB cW v3))], 64⟩ ∧ nR v3 = some r) hN ?_ ?_
           ·intro K hK; obtain ⟨x13, hv2, h⟩ := aA h; rcases aR hv2 with ⟨hc13, hv2⟩ | ⟨hc13, hv2⟩
            ·cases hv2; obtain ⟨x15, h16, h⟩ := aA h; simp only [EV, seval, hc13]; refine aj (kz h16) (by simp only [AL, EV, seval, hc13]) (aN rfl) (ao (by simp only [EV, seval])) ?_; simp only [EV, seval, hc13]; refine hK _ _ _ (show aM _ _ _ from aP ⟨_, rfl, h⟩ (aD [(32, some 14512)] [] hρ (by kernel_rfl) ?_ ?_)) <;> simp only [AL, EV, seval, hc13]
            ·cases hv2; obtain ⟨x16, h17, h⟩ := aA h; simp only [EV, seval, hc13]; refine aj (kz h17) (by simp only [AL, EV, seval, hc13]) (aN rfl) (ao (by simp only [EV, seval])) ?_; simp only [EV, seval, hc13]; refine hK _ _ _ (show aM _ _ _ from aP ⟨_, rfl, h⟩ (aD [(32, some 14512)] [] hρ (by kernel_rfl) ?_ ?_)) <;> simp only [AL, EV, seval, hc13]
           ·rintro S ⟨v3, rfl, h⟩; unfold nR at h; injection h with h; subst h; exact AX (b' := 64) [(4, .own 32 v3.length)] [(32, .row 158 6 (aB cW v3))] [(32, some 32)] [] hρ (EQ [32])
          ·refine AN hN ?_; refine AB h (fun hc14 h => ?_) fun hc14 h => ?_
           ·refine aQ (fun S => ∃ (v4 : Int), S = ⟨mkT [(1, .int .i64 v4)], mkR [], 64⟩ ∧ l7 v4 = some r) ?_ ?_
            ·refine AN hN ?_; refine AB h (fun hc15 h => ?_) fun hc15 h => ?_
             ·refine AS hN fun K hK => ?_; obtain ⟨h18, h⟩ := gdI h; obtain ⟨h19, h⟩ := gdI h; simp only [EV, seval, h18, h19]; refine hK _ _ _ (show aM _ _ _ from aP ⟨_, rfl, h⟩ (aD [] [] hρ (by kernel_rfl) ?_ ?_)) <;> simp only [AL, EV, seval, h18, h19]
             ·refine aE (show aM _ _ _ from aP ⟨_, rfl, h⟩ (aD [] [] hρ (by kernel_rfl) ?_ ?_)) <;> simp only [AL, EV, seval]
            ·rintro S ⟨v4, rfl, h⟩; unfold l7 at h; obtain ⟨x17, h20, h⟩ := aA h; refine AP hN (gB h20) ?_; injection h with h; subst h; exact AX (b' := 64) [(4, .own 32 ([(v4, x17.1, x17.2.1, x17.2.2.1, x17.2.2.2.1, x17.2.2.2.2)]).length)] [(32, .row 158 6 (aB cW ([(v4, x17.1, x17.2.1, x17.2.2.1, x17.2.2.2.1, x17.2.2.2.2)])))] [(32, some 112)] [] hρ (EQ [32])
           ·refine aE (AK ?_); refine AR hN fun K hK => ?_; obtain ⟨h21, h⟩ := gdI h; simp only [EV, seval, h21]; apply hK; clear hK K; obtain ⟨x18, h22, h⟩ := aA h; refine AP hN (pR h22) ?_; refine AN hN ?_; refine aQ (fun S => ∃ (v5 v6 v7 v8 v9 v10 : Int), S = ⟨mkT [(2, .ptr 32 0), (8, .int .i64 v5), (9, .ptr 33 0), (10, .ptr 34 0)], mkR [(32, .box 73 [.int .i64 a1, .int .i64 a2, .int .i64 a3, .int .i64 a4]), (33, .box 36 [.int .i64 x18.1, .int .i64 x18.2.1, .int .i64 x18.2.2.1, .int .i64 x18.2.2.2.1, .int .i64 x18.2.2.2.2]), (34, .box 36 [.int .i64 v6, .int .i64 v7, .int .i64 v8, .int .i64 v9, .int .i64 v10])], 64⟩ ∧ l9 a2 x18 v5 v6 v7 v8 v9 v10 = some r) ?_ ?_
            ·refine AN hN ?_; refine AB h (fun hc16 h => ?_) fun hc16 h => ?_
             ·refine AS hN fun K hK => ?_; obtain ⟨x19, h23, h⟩ := aA h; simp only [EV, seval]; refine CP (sC h23) ?_; simp only [EV, seval]; exact hK _ _ _ (AC ⟨_, _, _, _, _, _, rfl, h⟩ [(32, some 64), (33, some 16464), (34, some 17488)] [] hρ)
             ·refine aE (show aM _ _ _ from aP ⟨_, _, _, _, _, _, rfl, h⟩ (aD [(32, some 64), (33, some 16464), (34, some 17488)] [] hρ (by kernel_rfl) ?_ ?_)) <;> simp only [AL, EV, seval]
            ·rintro S ⟨v5, v6, v7, v8, v9, v10, rfl, h⟩; unfold l9 at h; refine AR hN fun K hK => ?_; obtain ⟨h24, h⟩ := gdI h; simp only [EV, seval, h24]; apply hK; clear hK K; injection h with h; subst h; refine ba (aD (lt := [(4, .own 32 ([(v5, x18.1, x18.2.1, x18.2.2.1, x18.2.2.2.1, x18.2.2.2.2), (bits .or .i64 v5 (IntKind.wrap .i64 (1 * 2 ^ min (Int.toNat (IntKind.wrap .u64 a2)) (IntKind.bits .i64))), v6, v7, v8, v9, v10)]).length)]) (lr := [(32, .row 158 6 (aB cW ([(v5, x18.1, x18.2.1, x18.2.2.1, x18.2.2.2.1, x18.2.2.2.2), (bits .or .i64 v5 (IntKind.wrap .i64 (1 * 2 ^ min (Int.toNat (IntKind.wrap .u64 a2)) (IntKind.bits .i64))), v6, v7, v8, v9, v10)])))]) (b' := 64) [(32, some 240)] [] hρ (by kernel_rfl) ?_ ?_) (bW (cX [32] (.inr rfl) (by kernel_rfl) (by kernel_rfl) ?_))
             ·simp only [AL, EV, seval, h24]
             ·simp only [AL, EV, seval, h24]
             ·simp only [EV, Tryz.results120, seval]
def gt (v27 : Int) (v28 : LF) (kl4 : Int → (LF) → Option (LF × Bool)) (q20 : Int × Int × Int × Int × Int × Int) (x35 : Int × Int × Int × Int × Int × Bool) (v29 : Bool) : Option (LF × Bool) :=
  br v29 (some ([], false)) (kl4 (IntKind.wrap .i64 (v27 + 1)) (v28.set (Int.toNat q20.1) ((x35.1, x35.2.1, x35.2.2.1, x35.2.2.2.1, x35.2.2.2.2.1))))
def fJ (v21 : Int) (kl3 : Int → (LF) → Option (LF × Bool)) (v30 : LF) : Option (LF × Bool) :=
  kl3 (IntKind.wrap .i64 (v21 + 1)) v30
def cA (v21 : Int) (kl3 : Int → (LF) → Option (LF × Bool)) (q15 : Int × Int × Int × Int × Int) (x27 : List (Int × Int × Int × Int × Int × Int)) : Nat → Int → (LF) → Option (LF × Bool)
  | 0, _, _ => none
  | n4 + 1, v27, v28 =>
  br (decide (v27 < ((x27.length : Int)))) (bO (ak x27 v27) fun q20 => bO (kE q15.1 q15.2.1 q15.2.2.1 q15.2.2.2.1 q15.2.2.2.2 q20.2.1 q20.2.2.1 q20.2.2.2.1 q20.2.2.2.2.1 q20.2.2.2.2.2) fun x34 => bO (ak v28 q20.1) fun q21 => bO (kD q21.1 q21.2.1 q21.2.2.1 q21.2.2.2.1 q21.2.2.2.2 x34.1 x34.2.1 x34.2.2.1 x34.2.2.2.1 x34.2.2.2.2.1) fun x35 => bO (br (!x34.2.2.2.2.2) (some true) (some (!x35.2.2.2.2.2))) fun x36 => gt v27 v28 (cA v21 kl3 q15 x27 n4) q20 x35 x36) (fJ v21 kl3 v28)
def iz (v31 : LF) : Option (LF × Bool) :=
  some (v31, true)
def bH (a1 a2 a3 a4 : Int) (a5 : LF) : Nat → Int → (LF) → Option (LF × Bool)
  | 0, _, _ => none
  | n3 + 1, v21, v22 =>
  br (decide (v21 < ((a5.length : Int)))) (bO (ak a5 v21) fun q15 => br (((q15.1 == 0) && ((q15.2.1 == 0) && ((q15.2.2.1 == 0) && ((q15.2.2.2.1 == 0) && (q15.2.2.2.2 == 0)))))) (fJ v21 (bH a1 a2 a3 a4 a5 n3) v22) (bO (mn a1 a2 a3 a4 v21) fun x27 => cA v21 (bH a1 a2 a3 a4 a5 n3) q15 x27 FU 0 v22)) (iz v22)
def j0 (a1 a2 a3 a4 : Int) (a5 : LF) (v1 : Bool) : Option (LF × Bool) :=
  br v1 (some ([], false)) (gd (decide (0 ≤ (a5.length : Int) ∧ (a5.length : Int) ≤ 1048576)) (bH a1 a2 a3 a4 a5 FU 0 (List.replicate (Int.toNat ((a5.length : Int))) ((0, 0, 0, 0, 0) : Int × Int × Int × Int × Int))))
def iM (a1 a2 a3 a4 : Int) (a5 : LF) : Option (LF × Bool) :=
  bO (fh a5) fun x1 => bO (br (!x1) (some true) (bO (g8 a5) fun x2 => bO (du a1 a2 a3 a4 x2) fun x3 => some (!x3))) fun x4 => j0 a1 a2 a3 a4 a5 x4
theorem sD {a1 a2 a3 a4 : Int} {a5 : LF} {r : LF × Bool} (h : iM a1 a2 a3 a4 a5 = some r) :
    aU Tryz.prog 93 [.agg [.int .i64 a1, .int .i64 a2, .int .i64 a3, .int .i64 a4], .sl (aB aT a5) a5.length] [] (.tup [.own 0 r.1.length, .bool r.2]) [.row 36 5 (aB aT r.1)] := by
 unfold iM at h; refine SO Tryz.func93 rfl Tryz.ntmps93 fun C hN hρ => ?_; simp only [st0, aW, Nat.zero_add, Nat.reduceAdd]; refine AN hN ?_; refine aH ?_; refine AJ (fun S => ∃ (v1 : Bool), S = ⟨mkT [(1, .sl (aB aT a5) a5.length), (2, .ptr 32 0), (23, .bool v1)], mkR [(32, .box 73 [.int .i64 a1, .int .i64 a2, .int .i64 a3, .int .i64 a4])], 64⟩ ∧ j0 a1 a2 a3 a4 a5 v1 = some r) hN ?_ ?_
 ·intro K hK; obtain ⟨x1, h1, h⟩ := aA h; simp only [EV, seval]; refine CP (pu h1) ?_; obtain ⟨x4, hv1, h⟩ := aA h; rcases aR hv1 with ⟨hc1, hv1⟩ | ⟨hc1, hv1⟩
  ·cases hv1; simp only [EV, seval, hc1]; refine hK _ _ _ (show aM _ _ _ from aP ⟨_, rfl, h⟩ (aD [(32, some 64)] [] hρ (by kernel_rfl) ?_ ?_)) <;> simp only [AL, EV, seval, hc1]
  ·obtain ⟨x5, h4, hv1⟩ := aA hv1; simp only [EV, seval, hc1]; refine aj (ne h4) (by simp only [AL, EV, seval, hc1]) (aN rfl) (ab rfl) ?_; obtain ⟨x6, h5, hv1⟩ := aA hv1; simp only [EV, seval, hc1]; refine aj (jX h5) (by simp only [AL, EV, seval, hc1]) (aN rfl) (ab rfl) ?_; cases hv1; simp only [EV, seval, hc1]; refine hK _ _ _ (show aM _ _ _ from aP ⟨_, rfl, h⟩ (aD [(32, some 64)] [] hρ (by kernel_rfl) ?_ ?_)) <;> simp only [AL, EV, seval, hc1]
 ·rintro S ⟨v1, rfl, h⟩; unfold j0 at h; refine AB h (fun hc2 h => ?_) fun hc2 h => ?_
  ·refine AN hN ?_; injection h with h; subst h; exact AX (b' := 64) [(4, .own 32 0), (5, .bool false)] [(32, .row 36 5 (aB aT ([])))] [(32, some 64)] [] hρ (EQ [32])
  ·refine aE (AK ?_); refine AR hN fun K hK => ?_; obtain ⟨h6, h⟩ := gdI h; have h7 := mZ (e := aT) ((0, 0, 0, 0, 0)) (Int.toNat ((a5.length : Int))); simp only [EN] at h7; have h8 : (List.replicate (Int.toNat ((a5.length : Int))) ((0, 0, 0, 0, 0) : Int × Int × Int × Int × Int)).length = Int.toNat ((a5.length : Int)) := List.length_replicate; simp only [EV, seval, h6, h7, h8]; apply hK; clear hK K; refine aQ (fun S => ∃ (v31 : LF), S = ⟨mkT [(6, .own 32 v31.length)], mkR [(32, .row 36 5 (aB aT v31))], 64⟩ ∧ iz v31 = some r) ?_ ?_
   ·refine AN hN ?_; refine aJ ?_; refine aX (fun n S => ∃ (v21 : Int) (v22 : LF), S = ⟨mkT [(1, .sl (aB aT a5) a5.length), (2, .ptr 32 0), (6, .own 33 v22.length), (7, .int .i64 v21)], mkR [(32, .box 73 [.int .i64 a1, .int .i64 a2, .int .i64 a3, .int .i64 a4]), (33, .row 36 5 (aB aT v22))], 64⟩ ∧ bH a1 a2 a3 a4 a5 n v21 v22 = some r) FU ?_ ?_ ?_
    ·exact AC ⟨_, _, rfl, h⟩ [(32, some 32), (33, some 96)] [] hρ
    ·rintro S ⟨_, _, _, h⟩; rw [bH] at h; cases h
    ·rintro n3 S ⟨v21, v22, rfl, h⟩; rw [bH] at h; refine aH ?_; refine AN hN ?_; refine AB h (fun hc25 h => ?_) fun hc25 h => ?_
     ·refine aE (AK ?_); refine aQ (fun S => ∃ (v30 : LF), S = ⟨mkT [(1, .sl (aB aT a5) a5.length), (2, .ptr 32 0), (6, .own 33 v30.length), (7, .int .i64 v21)], mkR [(32, .box 73 [.int .i64 a1, .int .i64 a2, .int .i64 a3, .int .i64 a4]), (33, .row 36 5 (aB aT v30))], 64⟩ ∧ fJ v21 (bH a1 a2 a3 a4 a5 n3) v30 = some r) ?_ ?_
      ·refine aJ ?_; refine aH ?_; refine AR hN fun K hK => ?_; obtain ⟨q15, h63, h⟩ := aA h; obtain ⟨⟨h64a, h64b⟩, h64c⟩ := aY co h63; (try simp only [EV, seval] at h64c); simp only [EV, seval, h64a, h64b, h64c]; apply hK; clear hK K; refine ah (a := .bool (((q15.1 == 0) && ((q15.2.1 == 0) && ((q15.2.2.1 == 0) && ((q15.2.2.2.1 == 0) && (q15.2.2.2.2 == 0))))))) (by simp only [EV, seval, h64a, h64b, h64c]) (brK h (fun hc26 h => ?_) (fun hc26 h => ?_))
       ·refine aa (show aM _ _ _ from aP ⟨_, rfl, h⟩ (aD [(32, some 32), (33, some 33)] [] hρ (by kernel_rfl) ?_ ?_)) <;> simp only [AL, EV, seval, h64a, h64b, h64c]
       ·refine aE (AK ?_); refine AR hN fun K hK => ?_; obtain ⟨x27, h65, h⟩ := aA h; simp only [EV, seval]; refine aj (tp h65) (by simp only [AL, EV, seval]) (aN rfl) (ao (by simp only [EV, seval])) ?_; simp only [EV, seval]; apply hK; clear hK K; refine AN hN ?_; refine aJ ?_; refine aX (fun n S => ∃ (v27 : Int) (v28 : LF), S = ⟨mkT [(1, .sl (aB aT a5) a5.length), (2, .ptr 32 0), (6, .own 33 v28.length), (7, .int .i64 v21), (8, .own 34 x27.length), (9, .int .i64 v27)], mkR [(32, .box 73 [.int .i64 a1, .int .i64 a2, .int .i64 a3, .int .i64 a4]), (33, .row 36 5 (aB aT v28)), (34, .row 158 6 (aB cW x27))], 64⟩ ∧ cA v21 (bH a1 a2 a3 a4 a5 n3) q15 x27 n v27 v28 = some r) FU ?_ ?_ ?_
        ·exact AC ⟨_, _, rfl, h⟩ [(32, some 32), (33, some 33), (34, some 2144)] [] hρ
        ·rintro S ⟨_, _, _, h⟩; rw [cA] at h; cases h
        ·rintro n4 S ⟨v27, v28, rfl, h⟩; rw [cA] at h; refine aH ?_; refine AN hN ?_; refine AB h (fun hc33 h => ?_) fun hc33 h => ?_
         ·refine aE (AK ?_); refine aH ?_; refine aJ ?_; refine AR hN fun K hK => ?_; obtain ⟨q20, h82, h⟩ := aA h; obtain ⟨⟨h83a, h83b⟩, h83c⟩ := aY uw h82; (try simp only [EV, seval] at h83c); have h84 := IQ uw 1 h82; (try simp only [EV, seval] at h84); obtain ⟨x34, h85, h⟩ := aA h; simp only [EV, seval, h64a, h64b, h64c, h83a, h83b, h83c, h84]; refine aj (rv h85) (by simp only [AL, EV, seval, h64a, h64b, h64c, h83a, h83b, h83c, h84]) (aN rfl) (ab rfl) ?_; simp only [EV, seval, h64a, h64b, h64c, h83a, h83b, h83c, h84]; apply hK; clear hK K; refine AR hN fun K hK => ?_; obtain ⟨q21, h86, h⟩ := aA h; obtain ⟨⟨h87a, h87b⟩, h87c⟩ := aY co h86; (try simp only [EV, seval] at h87c); obtain ⟨x35, h88, h⟩ := aA h; simp only [EV, seval, h83a, h83b, h83c, h87a, h87b, h87c]; refine aj (ru h88) (by simp only [AL, EV, seval, h83a, h83b, h83c, h87a, h87b, h87c]) (aN rfl) (ab rfl) ?_; simp only [EV, seval, h83a, h83b, h83c, h87a, h87b, h87c]; apply hK; clear hK K; refine aH ?_; refine AJ (fun S => ∃ (v29 : Bool), S = ⟨mkT [(1, .sl (aB aT a5) a5.length), (2, .ptr 32 0), (6, .own 33 v28.length), (7, .int .i64 v21), (8, .own 34 x27.length), (9, .int .i64 v27), (12, .ptr 35 0), (80, .bool v29)], mkR [(32, .box 73 [.int .i64 a1, .int .i64 a2, .int .i64 a3, .int .i64 a4]), (33, .row 36 5 (aB aT v28)), (34, .row 158 6 (aB cW x27)), (35, .box 36 [.int .i64 x35.1, .int .i64 x35.2.1, .int .i64 x35.2.2.1, .int .i64 x35.2.2.2.1, .int .i64 x35.2.2.2.2.1])], 64⟩ ∧ gt v27 v28 (cA v21 (bH a1 a2 a3 a4 a5 n3) q15 x27 n4) q20 x35 v29 = some r) hN ?_ ?_
          ·intro K hK; obtain ⟨x36, hv10, h⟩ := aA h; rcases aR hv10 with ⟨hc34, hv10⟩ | ⟨hc34, hv10⟩
           ·cases hv10; simp only [EV, seval, hc34]; refine hK _ _ _ (show aM _ _ _ from aP ⟨_, rfl, h⟩ (aD [(32, some 32), (33, some 33), (34, some 34), (35, some 2320)] [] hρ (by kernel_rfl) ?_ ?_)) <;> simp only [AL, EV, seval, hc34]
           ·cases hv10; simp only [EV, seval, hc34]; refine hK _ _ _ (show aM _ _ _ from aP ⟨_, rfl, h⟩ (aD [(32, some 32), (33, some 33), (34, some 34), (35, some 2320)] [] hρ (by kernel_rfl) ?_ ?_)) <;> simp only [AL, EV, seval, hc34]
          ·rintro S ⟨v29, rfl, h⟩; unfold gt at h; refine ah (a := .bool v29) (by simp only [EV, seval, h83a, h83b, h83c, h87a, h87b, h87c]) (brK h (fun hc35 h => ?_) (fun hc35 h => ?_))
           ·refine AN hN ?_; injection h with h; subst h; exact AX (b' := 64) [(4, .own 32 0), (5, .bool false)] [(32, .row 36 5 (aB aT ([])))] [(32, some 64)] [] hρ (EQ [32])
           ·refine aE (AK ?_); refine AS hN fun K hK => ?_; have h89 := qi co ((x35.1, x35.2.1, x35.2.2.1, x35.2.2.2.1, x35.2.2.2.2.1)) 0 [.int .i64 x35.1, .int .i64 x35.2.1, .int .i64 x35.2.2.1, .int .i64 x35.2.2.2.1, .int .i64 x35.2.2.2.2.1] h86 (Nat.le_of_ble_eq_true rfl) rfl; obtain ⟨h89a, h89b⟩ := h89; (try simp only [EV, seval] at h89a); (try simp only [EV, seval] at h89b); simp only [EV, seval, h83a, h83b, h83c, h87a, h87b, h87c, h89a, h89b]; refine hK _ _ _ (show AW _ _ _ _ _ from ?_); refine AS hN fun K hK => ?_; simp only [EV, seval]; exact hK _ _ _ (AC ⟨_, _, rfl, h⟩ [(32, some 32), (33, some 33), (34, some 34)] [] hρ)
         ·exact aa (AC ⟨_, rfl, h⟩ [(32, some 32), (33, some 33)] [] hρ)
      ·rintro S ⟨v30, rfl, h⟩; unfold fJ at h; refine AS hN fun K hK => ?_; simp only [EV, seval]; exact hK _ _ _ (AC ⟨_, _, rfl, h⟩ [(32, some 32), (33, some 33)] [] hρ)
     ·exact aa (AC ⟨_, rfl, h⟩ [(32, some 33)] [] hρ)
   ·rintro S ⟨v31, rfl, h⟩; unfold iz at h; refine AN hN ?_; injection h with h; subst h; exact AX (b' := 64) [(4, .own 32 v31.length), (5, .bool true)] [(32, .row 36 5 (aB aT v31))] [(32, some 32)] [] hρ (EQ [32])
def oC : Option (Int × Int × Int × Int × Int) :=
  some (1, 0, 0, 0, 0)
theorem sE {r : Int × Int × Int × Int × Int} (h : oC = some r) :
    aU Tryz.prog 92 [] [] (.agg [.int .i64 r.1, .int .i64 r.2.1, .int .i64 r.2.2.1, .int .i64 r.2.2.2.1, .int .i64 r.2.2.2.2]) [] := by
 unfold oC at h; refine SO Tryz.func92 rfl Tryz.ntmps92 fun C hN hρ => ?_; simp only [st0, aW, Nat.zero_add, Nat.reduceAdd]; refine AN hN ?_; refine AN hN ?_; injection h with h; subst h; exact AX (b' := 64) [(0, .ptr 32 0)] [(32, .box 36 [.int .i64 1, .int .i64 0, .int .i64 0, .int .i64 0, .int .i64 0])] [(32, some 64)] [] hρ (EQ [])
def ka (a1 a2 : Int) (v1 : Bool) : Option (LF) :=
  br v1 (some ([])) (gd (decide (¬ (IntKind.wrap .u64 a1) < 0)) (gd (decide (0 ≤ IntKind.wrap .i64 (1 * 2 ^ min (Int.toNat (IntKind.wrap .u64 a1)) (IntKind.bits .i64)) ∧ IntKind.wrap .i64 (1 * 2 ^ min (Int.toNat (IntKind.wrap .u64 a1)) (IntKind.bits .i64)) ≤ 1048576)) (bO (oC) fun x5 => bO (ak (List.replicate (Int.toNat (IntKind.wrap .i64 (1 * 2 ^ min (Int.toNat (IntKind.wrap .u64 a1)) (IntKind.bits .i64)))) ((0, 0, 0, 0, 0) : Int × Int × Int × Int × Int)) a2) fun q1 => some ((List.replicate (Int.toNat (IntKind.wrap .i64 (1 * 2 ^ min (Int.toNat (IntKind.wrap .u64 a1)) (IntKind.bits .i64)))) ((0, 0, 0, 0, 0) : Int × Int × Int × Int × Int)).set (Int.toNat a2) ((x5.1, x5.2.1, x5.2.2.1, x5.2.2.2.1, x5.2.2.2.2))))))
def j5 (a1 a2 : Int) : Option (LF) :=
  bO (cH a1 1 4) fun x1 => bO (br (!x1) (some true) (gd (decide (¬ (IntKind.wrap .u64 a1) < 0)) (bO (cH a2 0 (IntKind.wrap .i64 ((IntKind.wrap .i64 (1 * 2 ^ min (Int.toNat (IntKind.wrap .u64 a1)) (IntKind.bits .i64))) - 1))) fun x2 => some (!x2)))) fun x3 => ka a1 a2 x3
theorem qx {a1 a2 : Int} {r : LF} (h : j5 a1 a2 = some r) :
    aU Tryz.prog 62 [.int .i64 a1, .int .i64 a2] [] (.own 0 r.length) [.row 36 5 (aB aT r)] := by
 unfold j5 at h; refine SO Tryz.func62 rfl Tryz.ntmps62 fun C hN hρ => ?_; simp only [st0, aW, Nat.zero_add, Nat.reduceAdd]; refine AN hN ?_; refine aH ?_; refine AJ (fun S => ∃ (v1 : Bool), S = ⟨mkT [(0, .int .i64 a1), (1, .int .i64 a2), (17, .bool v1)], mkR [], 64⟩ ∧ ka a1 a2 v1 = some r) hN ?_ ?_
 ·intro K hK; obtain ⟨x1, h1, h⟩ := aA h; simp only [EV, seval]; refine CP (av h1) ?_; obtain ⟨x3, hv1, h⟩ := aA h; rcases aR hv1 with ⟨hc1, hv1⟩ | ⟨hc1, hv1⟩
  ·cases hv1; simp only [EV, seval, hc1]; refine hK _ _ _ (show aM _ _ _ from aP ⟨_, rfl, h⟩ (aD [] [] hρ (by kernel_rfl) ?_ ?_)) <;> simp only [AL, EV, seval, hc1]
  ·obtain ⟨h4, hv1⟩ := nI hv1; replace h4 := of_decide_eq_true h4; obtain ⟨x4, h5, hv1⟩ := aA hv1; simp only [EV, seval, hc1, h4]; refine aj (av h5) (by simp only [AL, EV, seval, hc1, h4]) (aN rfl) (ab rfl) ?_; cases hv1; simp only [EV, seval, hc1, h4]; refine hK _ _ _ (show aM _ _ _ from aP ⟨_, rfl, h⟩ (aD [] [] hρ (by kernel_rfl) ?_ ?_)) <;> simp only [AL, EV, seval, hc1, h4]
 ·rintro S ⟨v1, rfl, h⟩; unfold ka at h; refine AB h (fun hc2 h => ?_) fun hc2 h => ?_
  ·refine AN hN ?_; injection h with h; subst h; exact AX (b' := 64) [(4, .own 32 0)] [(32, .row 36 5 (aB aT ([])))] [(32, some 64)] [] hρ (EQ [32])
  ·refine aE (AK ?_); refine AR hN fun K hK => ?_; obtain ⟨h6, h⟩ := gdI h; obtain ⟨h7, h⟩ := gdI h; have h8 := mZ (e := aT) ((0, 0, 0, 0, 0)) (Int.toNat (IntKind.wrap .i64 (1 * 2 ^ min (Int.toNat (IntKind.wrap .u64 a1)) (IntKind.bits .i64)))); simp only [EN] at h8; have h9 : (List.replicate (Int.toNat (IntKind.wrap .i64 (1 * 2 ^ min (Int.toNat (IntKind.wrap .u64 a1)) (IntKind.bits .i64)))) ((0, 0, 0, 0, 0) : Int × Int × Int × Int × Int)).length = Int.toNat (IntKind.wrap .i64 (1 * 2 ^ min (Int.toNat (IntKind.wrap .u64 a1)) (IntKind.bits .i64))) := List.length_replicate; simp only [EV, seval, h6, h7, h8, h9]; apply hK; clear hK K; refine AR hN fun K hK => ?_; obtain ⟨x5, h10, h⟩ := aA h; simp only [EV, seval]; refine CP (sE h10) ?_; obtain ⟨q1, h11, h⟩ := aA h; obtain ⟨⟨h12a, h12b⟩, h12c⟩ := aY co h11; (try simp only [EV, seval] at h12c); (try simp only [EV, seval] at h12b); have h13 := qi co ((x5.1, x5.2.1, x5.2.2.1, x5.2.2.2.1, x5.2.2.2.2)) 0 [.int .i64 x5.1, .int .i64 x5.2.1, .int .i64 x5.2.2.1, .int .i64 x5.2.2.2.1, .int .i64 x5.2.2.2.2] h11 (Nat.le_of_ble_eq_true rfl) rfl; obtain ⟨h13a, h13b⟩ := h13; (try simp only [EV, seval] at h13a); (try simp only [EV, seval] at h13b); simp only [EV, seval, h12a, h12b, h12c, h13a, h13b]; apply hK; clear hK K; refine AN hN ?_; injection h with h; subst h; exact AX (b' := 64) [(4, .own 32 ((List.replicate (Int.toNat (IntKind.wrap .i64 (1 * 2 ^ min (Int.toNat (IntKind.wrap .u64 a1)) (IntKind.bits .i64)))) ((0, 0, 0, 0, 0) : Int × Int × Int × Int × Int)).set (Int.toNat a2) ((x5.1, x5.2.1, x5.2.2.1, x5.2.2.2.1, x5.2.2.2.2))).length)] [(32, .row 36 5 (aB aT ((List.replicate (Int.toNat (IntKind.wrap .i64 (1 * 2 ^ min (Int.toNat (IntKind.wrap .u64 a1)) (IntKind.bits .i64)))) ((0, 0, 0, 0, 0) : Int × Int × Int × Int × Int)).set (Int.toNat a2) ((x5.1, x5.2.1, x5.2.2.1, x5.2.2.2.1, x5.2.2.2.2)))))] [(32, some 112)] [] hρ (EQ [32])
def i4 (v6 : List (LF)) : Option (Int × List (LF)) :=
  some (0, v6)
def cS (a1 a2 : Int) : Nat → Int → (List (LF)) → Option (Int × List (LF))
  | 0, _, _ => none
  | n1 + 1, v4, v5 =>
  gd (decide (¬ (IntKind.wrap .u64 a2) < 0)) (br (decide (v4 < (IntKind.wrap .i64 (1 * 2 ^ min (Int.toNat (IntKind.wrap .u64 a2)) (IntKind.bits .i64))))) (bO (j5 a1 v4) fun x7 => gd (decide (v5.length + ([x7]).length ≤ 16777216)) ((cS a1 a2 n1) (IntKind.wrap .i64 (v4 + 1)) (v5 ++ ([x7])))) (i4 v5))
def ez (a1 a2 : Int) (v1 : Bool) : Option (Int × List (LF)) :=
  br v1 (some (0, [])) (cS a1 a2 FU 0 ([] : List (LF)))
def fK (a1 a2 : Int) : Option (Int × List (LF)) :=
  bO (cH a1 1 4) fun x1 => bO (br (!x1) (some true) (bO (cH a2 1 a1) fun x2 => some (!x2))) fun x3 => ez a1 a2 x3
theorem pZ {a1 a2 : Int} {r : Int × List (LF)} (h : fK a1 a2 = some r) :
    aU Tryz.prog 35 [.int .i64 a1, .int .i64 a2] [] (.agg [.int .i64 r.1, .own 0 r.2.length]) [.row 55 1 (aB aV r.2)] := by
 unfold fK at h; refine SO Tryz.func35 rfl Tryz.ntmps35 fun C hN hρ => ?_; simp only [st0, aW, Nat.zero_add, Nat.reduceAdd]; refine AN hN ?_; refine AN hN ?_; refine aH ?_; refine AJ (fun S => ∃ (v1 : Bool), S = ⟨mkT [(0, .int .i64 a1), (1, .int .i64 a2), (4, .ptr 32 0), (5, .ptr 33 0), (16, .bool v1)], mkR [(32, .box 46 [.int .i64 0, .nil]), (33, .box 46 [.int .i64 0, .nil])], 64⟩ ∧ ez a1 a2 v1 = some r) hN ?_ ?_
 ·intro K hK; obtain ⟨x1, h1, h⟩ := aA h; simp only [EV, seval]; refine CP (av h1) ?_; obtain ⟨x3, hv1, h⟩ := aA h; rcases aR hv1 with ⟨hc1, hv1⟩ | ⟨hc1, hv1⟩
  ·cases hv1; simp only [EV, seval, hc1]; refine hK _ _ _ (show aM _ _ _ from aP ⟨_, rfl, h⟩ (aD [(32, some 64), (33, some 1104)] [] hρ (by kernel_rfl) ?_ ?_)) <;> simp only [AL, EV, seval, hc1]
  ·obtain ⟨x4, h3, hv1⟩ := aA hv1; simp only [EV, seval, hc1]; refine aj (av h3) (by simp only [AL, EV, seval, hc1]) (aN rfl) (ab rfl) ?_; cases hv1; simp only [EV, seval, hc1]; refine hK _ _ _ (show aM _ _ _ from aP ⟨_, rfl, h⟩ (aD [(32, some 64), (33, some 1104)] [] hρ (by kernel_rfl) ?_ ?_)) <;> simp only [AL, EV, seval, hc1]
 ·rintro S ⟨v1, rfl, h⟩; unfold ez at h; refine AB h (fun hc2 h => ?_) fun hc2 h => ?_
  ·refine AN hN ?_; injection h with h; subst h; exact AX (b' := 64) [(4, .ptr 32 0)] [(32, .box 46 [.int .i64 0, .own 33 0]), (33, .row 55 1 (aB aV ([])))] [(32, some 32), (33, none)] [] hρ (EQ [33])
  ·refine aE (AK ?_); refine aQ (fun S => ∃ (v6 : List (LF)), S = ⟨mkT [(4, .ptr 32 0), (5, .ptr 33 0)], mkR [(32, .box 46 [.int .i64 0, .nil]), (33, .box 46 [.int .i64 0, .own 34 v6.length]), (34, .row 55 1 (aB aV v6))], 64⟩ ∧ i4 v6 = some r) ?_ ?_
   ·refine AN hN ?_; refine aJ ?_; refine aX (fun n S => ∃ (v4 : Int) (v5 : List (LF)), S = ⟨mkT [(0, .int .i64 a1), (1, .int .i64 a2), (4, .ptr 32 0), (5, .ptr 33 0), (6, .int .i64 v4)], mkR [(32, .box 46 [.int .i64 0, .nil]), (33, .box 46 [.int .i64 0, .own 34 v5.length]), (34, .row 55 1 (aB aV v5))], 64⟩ ∧ cS a1 a2 n v4 v5 = some r) FU ?_ ?_ ?_
    ·exact AC ⟨_, _, rfl, h⟩ [(32, some 32), (33, some 33), (34, none)] [] hρ
    ·rintro S ⟨_, _, _, h⟩; rw [cS] at h; cases h
    ·rintro n1 S ⟨v4, v5, rfl, h⟩; rw [cS] at h; refine aH ?_; refine AR hN fun K hK => ?_; obtain ⟨h10, h⟩ := gdI h; simp only [EV, seval, h10]; apply hK; clear hK K; refine ah (a := .bool (decide (v4 < (IntKind.wrap .i64 (1 * 2 ^ min (Int.toNat (IntKind.wrap .u64 a2)) (IntKind.bits .i64)))))) (by simp only [EV, seval, h10]) (brK h (fun hc5 h => ?_) (fun hc5 h => ?_))
     ·refine aE (AK ?_); refine aH ?_; refine aJ ?_; refine AS hN fun K hK => ?_; obtain ⟨x7, h11, h⟩ := aA h; simp only [EV, seval]; refine aj (aU.can (ret2 := .sl (aB aT x7) x7.length) (mem2 := []) (qx h11) [] [0] (by kernel_rfl) (by simp only [AL, EV, seval]) (by simp only [AL, EV, seval])) (by simp only [AL, EV, seval]) (aN rfl) (ab rfl) ?_; obtain ⟨h12, h⟩ := gdI h; (try simp only [EV, seval] at h12); simp only [EV, seval, h12]; refine hK _ _ _ (show AW _ _ _ _ _ from ?_); refine AS hN fun K hK => ?_; simp only [EV, seval]; exact hK _ _ _ (AC ⟨_, _, rfl, h⟩ [(32, some 32), (33, some 33), (34, some 1184)] [] hρ)
     ·refine aa (show aM _ _ _ from aP ⟨_, rfl, h⟩ (aD [(32, some 32), (33, some 33), (34, some 34)] [] hρ (by kernel_rfl) ?_ ?_)) <;> simp only [AL, EV, seval, h10]
   ·rintro S ⟨v6, rfl, h⟩; unfold i4 at h; refine AN hN ?_; injection h with h; subst h; exact AX (b' := 64) [(4, .ptr 32 0)] [(32, .box 46 [.int .i64 0, .own 33 v6.length]), (33, .row 55 1 (aB aV v6))] [(32, some 32), (33, some 34)] [] hρ (EQ [33])
def j6 (v10 : Int) (kl1 : Bool → Int → (LF) → Option (LF × Bool)) (v12 : Bool) (v13 : LF) : Option (LF × Bool) :=
  kl1 v12 (IntKind.wrap .i64 (v10 + 1)) v13
def lA (v14 : Bool) (v15 : LF) : Option (LF × Bool) :=
  some (v15, v14)
def d7 (a1 : LF) (a2 a3 : Int) : Nat → Bool → Int → (LF) → Option (LF × Bool)
  | 0, _, _, _ => none
  | n1 + 1, v9, v10, v11 =>
  br (decide (v10 < ((a1.length : Int)))) (gd (decide (¬ (IntKind.wrap .u64 a2) < 0)) (br ((bits .and .i64 (Int.fdiv v10 (2 ^ min (Int.toNat (IntKind.wrap .u64 a2)) (IntKind.bits .i64))) 1) == a3) (bO (ak a1 v10) fun q5 => bO (ak v11 v10) fun q6 => bO (br v9 (some true) (some (!((q5.1 == 0) && ((q5.2.1 == 0) && ((q5.2.2.1 == 0) && ((q5.2.2.2.1 == 0) && (q5.2.2.2.2 == 0)))))))) fun x2 => j6 v10 (d7 a1 a2 a3 n1) x2 (v11.set (Int.toNat v10) ((q5.1, q5.2.1, q5.2.2.1, q5.2.2.2.1, q5.2.2.2.2)))) (j6 v10 (d7 a1 a2 a3 n1) v9 v11))) (lA v9 v11)
def mo (a1 : LF) (a2 a3 : Int) : Option (LF × Bool) :=
  gd (decide (0 ≤ (a1.length : Int) ∧ (a1.length : Int) ≤ 1048576)) (d7 a1 a2 a3 FU false 0 (List.replicate (Int.toNat ((a1.length : Int))) ((0, 0, 0, 0, 0) : Int × Int × Int × Int × Int)))
theorem tq {a1 : LF} {a2 a3 : Int} {r : LF × Bool} (h : mo a1 a2 a3 = some r) :
    aU Tryz.prog 94 [.sl (aB aT a1) a1.length, .int .i64 a2, .int .i64 a3] [] (.tup [.own 0 r.1.length, .bool r.2]) [.row 36 5 (aB aT r.1)] := by
 unfold mo at h; refine SO Tryz.func94 rfl Tryz.ntmps94 fun C hN hρ => ?_; simp only [st0, aW, Nat.zero_add, Nat.reduceAdd]; refine AN hN ?_; refine AR hN fun K hK => ?_; obtain ⟨h1, h⟩ := gdI h; have h2 := mZ (e := aT) ((0, 0, 0, 0, 0)) (Int.toNat ((a1.length : Int))); simp only [EN] at h2; have h3 : (List.replicate (Int.toNat ((a1.length : Int))) ((0, 0, 0, 0, 0) : Int × Int × Int × Int × Int)).length = Int.toNat ((a1.length : Int)) := List.length_replicate; simp only [EV, seval, h1, h2, h3]; apply hK; clear hK K; refine AN hN ?_; refine aQ (fun S => ∃ (v14 : Bool) (v15 : LF), S = ⟨mkT [(8, .own 32 v15.length), (9, .bool v14)], mkR [(32, .row 36 5 (aB aT v15))], 64⟩ ∧ lA v14 v15 = some r) ?_ ?_
 ·refine AN hN ?_; refine aJ ?_; refine aX (fun n S => ∃ (v9 : Bool) (v10 : Int) (v11 : LF), S = ⟨mkT [(0, .sl (aB aT a1) a1.length), (1, .int .i64 a2), (2, .int .i64 a3), (8, .own 32 v11.length), (9, .bool v9), (10, .int .i64 v10)], mkR [(32, .row 36 5 (aB aT v11))], 64⟩ ∧ d7 a1 a2 a3 n v9 v10 v11 = some r) FU ?_ ?_ ?_
  ·exact AC ⟨_, _, _, rfl, h⟩ [(32, some 1120)] [] hρ
  ·rintro S ⟨_, _, _, _, h⟩; rw [d7] at h; cases h
  ·rintro n1 S ⟨v9, v10, v11, rfl, h⟩; rw [d7] at h; refine aH ?_; refine AN hN ?_; refine AB h (fun hc6 h => ?_) fun hc6 h => ?_
   ·refine aE (AK ?_); refine aQ (fun S => ∃ (v12 : Bool) (v13 : LF), S = ⟨mkT [(0, .sl (aB aT a1) a1.length), (1, .int .i64 a2), (2, .int .i64 a3), (8, .own 32 v13.length), (9, .bool v12), (10, .int .i64 v10)], mkR [(32, .row 36 5 (aB aT v13))], 64⟩ ∧ j6 v10 (d7 a1 a2 a3 n1) v12 v13 = some r) ?_ ?_
    ·refine aJ ?_; refine AR hN fun K hK => ?_; obtain ⟨h16, h⟩ := gdI h; simp only [EV, seval, h16]; apply hK; clear hK K; refine ah (a := .bool ((bits .and .i64 (Int.fdiv v10 (2 ^ min (Int.toNat (IntKind.wrap .u64 a2)) (IntKind.bits .i64))) 1) == a3)) (by simp only [EV, seval, h16]) (brK h (fun hc7 h => ?_) (fun hc7 h => ?_))
     ·refine AR hN fun K hK => ?_; obtain ⟨q5, h17, h⟩ := aA h; obtain ⟨⟨h18a, h18b⟩, h18c⟩ := aY co h17; (try simp only [EV, seval] at h18c); obtain ⟨q6, h19, h⟩ := aA h; obtain ⟨⟨h20a, h20b⟩, h20c⟩ := aY co h19; (try simp only [EV, seval] at h20c); have h21 := qi co ((q5.1, q5.2.1, q5.2.2.1, q5.2.2.2.1, q5.2.2.2.2)) 0 [.int .i64 q5.1, .int .i64 q5.2.1, .int .i64 q5.2.2.1, .int .i64 q5.2.2.2.1, .int .i64 q5.2.2.2.2] h19 (Nat.le_of_ble_eq_true rfl) rfl; obtain ⟨h21a, h21b⟩ := h21; (try simp only [EV, seval] at h21a); (try simp only [EV, seval] at h21b); simp only [EV, seval, h18a, h18b, h18c, h20a, h20b, h20c, h21a, h21b]; apply hK; clear hK K; refine AS hN fun K hK => ?_; obtain ⟨x2, hv2, h⟩ := aA h; rcases aR hv2 with ⟨hc8, hv2⟩ | ⟨hc8, hv2⟩
      ·cases hv2; simp only [EV, seval, hc8]; refine hK _ _ _ (show aM _ _ _ from aP ⟨_, _, rfl, h⟩ (aD [(32, some 32)] [] hρ (by kernel_rfl) ?_ ?_)) <;> simp only [AL, EV, seval, hc8]
      ·cases hv2; simp only [EV, seval, hc8, h18a, h18b, h18c]; refine hK _ _ _ (show aM _ _ _ from aP ⟨_, _, rfl, h⟩ (aD [(32, some 32)] [] hρ (by kernel_rfl) ?_ ?_)) <;> simp only [AL, EV, seval, hc8, h18a, h18b, h18c]
     ·refine aE (show aM _ _ _ from aP ⟨_, _, rfl, h⟩ (aD [(32, some 32)] [] hρ (by kernel_rfl) ?_ ?_)) <;> simp only [AL, EV, seval, h16]
    ·rintro S ⟨v12, v13, rfl, h⟩; unfold j6 at h; refine AS hN fun K hK => ?_; simp only [EV, seval]; exact hK _ _ _ (AC ⟨_, _, _, rfl, h⟩ [(32, some 32)] [] hρ)
   ·exact aa (AC ⟨_, _, rfl, h⟩ [(32, some 32)] [] hρ)
 ·rintro S ⟨v14, v15, rfl, h⟩; unfold lA at h; refine AN hN ?_; injection h with h; subst h; exact AX (b' := 64) [(6, .own 32 v15.length), (7, .bool v14)] [(32, .row 36 5 (aB aT v15))] [(32, some 32)] [] hρ (EQ [32])
def nS (a1 : Int) (v6 : List (LF)) : Option (Int × List (LF) × Bool) :=
  some (a1, v6, true)
def f0 (a1 : Int) (a2 : List (LF)) (a4 a5 a6 a7 : Int) : Nat → Int → (List (LF)) → Option (Int × List (LF) × Bool)
  | 0, _, _ => none
  | n1 + 1, v4, v5 =>
  br (decide (v4 < ((a2.length : Int)))) (bO (ak a2 v4) fun q3 => bO (iM a4 a5 a6 a7 q3) fun x4 => br (!x4.2) (some (0, [], false)) (gd (decide (v5.length + ([x4.1]).length ≤ 16777216)) ((f0 a1 a2 a4 a5 a6 a7 n1) (IntKind.wrap .i64 (v4 + 1)) (v5 ++ ([x4.1]))))) (nS a1 v5)
def lB (a1 : Int) (a2 : List (LF)) (a4 a5 a6 a7 : Int) (v1 : Bool) : Option (Int × List (LF) × Bool) :=
  br v1 (some (a1, a2, true)) (f0 a1 a2 a4 a5 a6 a7 FU 0 ([] : List (LF)))
def mp (a1 : Int) (a2 : List (LF)) (a3 a4 a5 a6 a7 a8 a9 a10 : Int) : Option (Int × List (LF) × Bool) :=
  bO (br (decide (0 < a10)) (gd (decide (¬ (IntKind.wrap .u64 (IntKind.wrap .i64 (a10 - 1))) < 0)) (some ((bits .and .i64 (Int.fdiv a1 (2 ^ min (Int.toNat (IntKind.wrap .u64 (IntKind.wrap .i64 (a10 - 1)))) (IntKind.bits .i64))) 1) == 0))) (some false)) fun x1 => lB a1 a2 a4 a5 a6 a7 x1
theorem tr {a1 : Int} {a2 : List (LF)} {a3 a4 a5 a6 a7 a8 a9 a10 : Int} {r : Int × List (LF) × Bool} (h : mp a1 a2 a3 a4 a5 a6 a7 a8 a9 a10 = some r) :
    aU Tryz.prog 63 [.agg [.int .i64 a1, .sl (aB aV a2) a2.length], .agg [.int .i64 a3, .int .i64 a4, .int .i64 a5, .int .i64 a6, .int .i64 a7, .int .i64 a8, .int .i64 a9, .int .i64 a10]] [] (.tup [.agg [.int .i64 r.1, .sl (aB aV r.2.1) r.2.1.length], .bool r.2.2]) [] := by
 unfold mp at h; refine SO Tryz.func63 rfl Tryz.ntmps63 fun C hN hρ => ?_; simp only [st0, aW, Nat.zero_add, Nat.reduceAdd]; refine AN hN ?_; refine aH ?_; refine AJ (fun S => ∃ (v1 : Bool), S = ⟨mkT [(2, .ptr 32 0), (3, .ptr 33 0), (4, .ptr 34 0), (23, .bool v1)], mkR [(32, .box 46 [.int .i64 a1, .sl (aB aV a2) a2.length]), (33, .box 75 [.int .i64 a3, .int .i64 a4, .int .i64 a5, .int .i64 a6, .int .i64 a7, .int .i64 a8, .int .i64 a9, .int .i64 a10]), (34, .box 46 [.int .i64 0, .nil])], 64⟩ ∧ lB a1 a2 a4 a5 a6 a7 v1 = some r) hN ?_ ?_
 ·intro K hK; obtain ⟨x1, hv1, h⟩ := aA h; rcases aR hv1 with ⟨hc1, hv1⟩ | ⟨hc1, hv1⟩
  ·obtain ⟨h2, hv1⟩ := nI hv1; replace h2 := of_decide_eq_true h2; cases hv1; simp only [EV, seval, hc1, h2]; refine hK _ _ _ (show aM _ _ _ from aP ⟨_, rfl, h⟩ (aD [(32, some 64), (33, some 80), (34, some 96)] [] hρ (by kernel_rfl) ?_ ?_)) <;> simp only [AL, EV, seval, hc1, h2]
  ·cases hv1; simp only [EV, seval, hc1]; refine hK _ _ _ (show aM _ _ _ from aP ⟨_, rfl, h⟩ (aD [(32, some 64), (33, some 80), (34, some 96)] [] hρ (by kernel_rfl) ?_ ?_)) <;> simp only [AL, EV, seval, hc1]
 ·rintro S ⟨v1, rfl, h⟩; unfold lB at h; refine AB h (fun hc2 h => ?_) fun hc2 h => ?_
  ·refine AN hN ?_; injection h with h; subst h; exact AX (b' := 64) [(4, .ptr 32 0), (5, .bool true)] [(32, .box 46 [.int .i64 a1, .sl (aB aV a2) a2.length])] [(32, some 34)] [] hρ (EQ [])
  ·refine aE (AK ?_); refine AN hN ?_; refine aQ (fun S => ∃ (v6 : List (LF)), S = ⟨mkT [(4, .ptr 32 0), (6, .ptr 33 0)], mkR [(32, .box 46 [.int .i64 0, .nil]), (33, .box 46 [.int .i64 a1, .own 34 v6.length]), (34, .row 55 1 (aB aV v6))], 64⟩ ∧ nS a1 v6 = some r) ?_ ?_
   ·refine AN hN ?_; refine aJ ?_; refine aX (fun n S => ∃ (v4 : Int) (v5 : List (LF)), S = ⟨mkT [(2, .ptr 32 0), (3, .ptr 33 0), (4, .ptr 34 0), (6, .ptr 35 0), (7, .int .i64 v4)], mkR [(32, .box 46 [.int .i64 a1, .sl (aB aV a2) a2.length]), (33, .box 75 [.int .i64 a3, .int .i64 a4, .int .i64 a5, .int .i64 a6, .int .i64 a7, .int .i64 a8, .int .i64 a9, .int .i64 a10]), (34, .box 46 [.int .i64 0, .nil]), (35, .box 46 [.int .i64 a1, .own 36 v5.length]), (36, .row 55 1 (aB aV v5))], 64⟩ ∧ f0 a1 a2 a4 a5 a6 a7 n v4 v5 = some r) FU ?_ ?_ ?_
    ·exact AC ⟨_, _, rfl, h⟩ [(32, some 32), (33, some 33), (34, some 34), (35, some 112), (36, none)] [] hρ
    ·rintro S ⟨_, _, _, h⟩; rw [f0] at h; cases h
    ·rintro n1 S ⟨v4, v5, rfl, h⟩; rw [f0] at h; refine aH ?_; refine AN hN ?_; refine AB h (fun hc7 h => ?_) fun hc7 h => ?_
     ·refine aE (AK ?_); refine aH ?_; refine aJ ?_; refine AR hN fun K hK => ?_; obtain ⟨q3, h11, h⟩ := aA h; obtain ⟨⟨h12a, h12b⟩, h12c⟩ := aY lN h11; (try simp only [EV, seval] at h12c); obtain ⟨x4, h13, h⟩ := aA h; simp only [EV, seval, h12a, h12b, h12c]; refine aj (sD h13) (by simp only [AL, EV, seval, h12a, h12b, h12c]) (aN rfl) (ao (by simp only [EV, seval])) ?_; simp only [EV, seval, h12a, h12b, h12c]; apply hK; clear hK K; refine aH ?_; refine AN hN ?_; refine AB h (fun hc8 h => ?_) fun hc8 h => ?_
      ·refine AN hN ?_; injection h with h; subst h; exact AX (b' := 64) [(4, .ptr 32 0), (5, .bool false)] [(32, .box 46 [.int .i64 0, .sl (aB aV ([])) 0])] [(32, some 34)] [] hρ (EQ [])
      ·refine aE (AK ?_); refine ba (aD (lt := [(2, .ptr 32 0), (3, .ptr 33 0), (4, .ptr 34 0), (6, .ptr 35 0), (7, .int .i64 v4), (8, .sl (aB aT x4.1) x4.1.length)]) (lr := [(32, .box 46 [.int .i64 a1, .sl (aB aV a2) a2.length]), (33, .box 75 [.int .i64 a3, .int .i64 a4, .int .i64 a5, .int .i64 a6, .int .i64 a7, .int .i64 a8, .int .i64 a9, .int .i64 a10]), (34, .box 46 [.int .i64 0, .nil]), (35, .box 46 [.int .i64 a1, .own 36 v5.length]), (36, .row 55 1 (aB aV v5))]) (b' := 3152) [(32, some 32), (33, some 33), (34, some 34), (35, some 35), (36, some 36)] [1200] hρ (by kernel_rfl) ?_ ?_) ?_
       ·simp only [AL, EV, seval]
       ·simp only [AL, EV, seval]
       refine AS hN fun K hK => ?_; obtain ⟨h14, h⟩ := gdI h; (try simp only [EV, seval] at h14); simp only [EV, seval, h14]; refine hK _ _ _ (show AW _ _ _ _ _ from ?_); refine AS hN fun K hK => ?_; simp only [EV, seval]; exact hK _ _ _ (AC ⟨_, _, rfl, h⟩ [(32, some 32), (33, some 33), (34, some 34), (35, some 35), (36, some 3216)] [] hρ)
     ·exact aa (AC ⟨_, rfl, h⟩ [(32, some 34), (33, some 35), (34, some 36)] [] hρ)
   ·rintro S ⟨v6, rfl, h⟩; unfold nS at h; refine AN hN ?_; injection h with h; subst h; exact AX (b' := 64) [(4, .ptr 32 0), (5, .bool true)] [(32, .box 46 [.int .i64 a1, .sl (aB aV v6) v6.length])] [(32, some 32)] [34] hρ (EQ [])
def cz (v31 : Int) (kl3 : Int → (LZ) → Option (LZ)) (v45 : LZ) : Option (LZ) :=
  kl3 (IntKind.wrap .i64 (v31 + 1)) v45
def cT (v31 : Int) (v32 : LZ) (kl3 : Int → (LZ) → Option (LZ)) (v42 : Bool) (v43 : Int) (v44 : List (LF)) : Option (LZ) :=
  br v42 (gd (decide (v32.length + ([(v43, v44)]).length ≤ 16777216)) (cz v31 kl3 (v32 ++ ([(v43, v44)])))) (cz v31 kl3 v32)
def bM (a2 : List (LF)) (a3 v31 : Int) (v32 : LZ) (kl3 : Int → (LZ) → Option (LZ)) : Nat → Bool → Int → Int → (List (LF)) → Option (LZ)
  | 0, _, _, _, _ => none
  | n4 + 1, v38, v39, v40, v41 =>
  br (decide (v39 < ((a2.length : Int)))) (bO (ak a2 v39) fun q9 => bO (mo q9 a3 v31) fun x18 => gd (decide (v41.length + ([x18.1]).length ≤ 16777216)) (bO (br v38 (some true) (some x18.2)) fun x19 => (bM a2 a3 v31 v32 kl3 n4) x19 (IntKind.wrap .i64 (v39 + 1)) v40 (v41 ++ ([x18.1])))) (cT v31 v32 kl3 v38 v40 v41)
def i5 (v46 : LZ) : Option (LZ) :=
  some v46
def ac (a1 : Int) (a2 : List (LF)) (a3 a4 : Int) : Nat → Int → (LZ) → Option (LZ)
  | 0, _, _ => none
  | n3 + 1, v31, v32 =>
  br (decide (v31 < 2)) (gd (decide (¬ (IntKind.wrap .u64 a4) < 0)) (bM a2 a3 v31 v32 (ac a1 a2 a3 a4 n3) FU false 0 (IntKind.wrap .i64 (a1 + (IntKind.wrap .i64 (v31 * 2 ^ min (Int.toNat (IntKind.wrap .u64 a4)) (IntKind.bits .i64))))) ([] : List (LF)))) (i5 v32)
def f7 (a1 : Int) (a2 : List (LF)) (a3 a4 : Int) (v1 : Bool) (v2 : LZ) : Option (LZ) :=
  br v1 (some v2) (ac a1 a2 a3 a4 FU 0 v2)
def dg (a1 : Int) (a2 : List (LF)) (a3 a4 : Int) : Option (LZ) :=
  bO (cH a4 0 2) fun x1 => bO (br (!x1) (some true) (bO (cH a3 0 3) fun x2 => some (!x2))) fun x3 => f7 a1 a2 a3 a4 x3 ([] : LZ)
theorem pa {a1 : Int} {a2 : List (LF)} {a3 a4 : Int} {r : LZ} (h : dg a1 a2 a3 a4 = some r) :
    aU Tryz.prog 64 [.agg [.int .i64 a1, .sl (aB aV a2) a2.length], .int .i64 a3, .int .i64 a4] [] (.own 0 r.length) [.row 46 2 (aB aL r)] := by
 unfold dg at h; refine SO Tryz.func64 rfl Tryz.ntmps64 fun C hN hρ => ?_; simp only [st0, aW, Nat.zero_add, Nat.reduceAdd]; refine AN hN ?_; refine AN hN ?_; refine aH ?_; refine AJ (fun S => ∃ (v1 : Bool) (v2 : LZ), S = ⟨mkT [(1, .int .i64 a3), (2, .int .i64 a4), (3, .ptr 32 0), (7, .own 33 v2.length), (22, .bool v1)], mkR [(32, .box 46 [.int .i64 a1, .sl (aB aV a2) a2.length]), (33, .row 46 2 (aB aL v2))], 64⟩ ∧ f7 a1 a2 a3 a4 v1 v2 = some r) hN ?_ ?_
 ·intro K hK; obtain ⟨x1, h1, h⟩ := aA h; simp only [EV, seval]; refine CP (av h1) ?_; obtain ⟨x3, hv1, h⟩ := aA h; rcases aR hv1 with ⟨hc1, hv1⟩ | ⟨hc1, hv1⟩
  ·cases hv1; simp only [EV, seval, hc1]; refine hK _ _ _ (show aM _ _ _ from aP ⟨_, _, rfl, h⟩ (aD [(32, some 64), (33, some 1088)] [] hρ (by kernel_rfl) ?_ ?_)) <;> simp only [AL, EV, seval, hc1]
  ·obtain ⟨x4, h3, hv1⟩ := aA hv1; simp only [EV, seval, hc1]; refine aj (av h3) (by simp only [AL, EV, seval, hc1]) (aN rfl) (ab rfl) ?_; cases hv1; simp only [EV, seval, hc1]; refine hK _ _ _ (show aM _ _ _ from aP ⟨_, _, rfl, h⟩ (aD [(32, some 64), (33, some 1088)] [] hρ (by kernel_rfl) ?_ ?_)) <;> simp only [AL, EV, seval, hc1]
 ·rintro S ⟨v1, v2, rfl, h⟩; unfold f7 at h; refine AB h (fun hc2 h => ?_) fun hc2 h => ?_
  ·refine AN hN ?_; injection h with h; subst h; exact AX (b' := 64) [(6, .own 32 v2.length)] [(32, .row 46 2 (aB aL v2))] [(32, some 33)] [] hρ (EQ [32])
  ·refine aE (AK ?_); refine aQ (fun S => ∃ (v46 : LZ), S = ⟨mkT [(7, .own 32 v46.length)], mkR [(32, .row 46 2 (aB aL v46))], 64⟩ ∧ i5 v46 = some r) ?_ ?_
   ·refine AN hN ?_; refine aJ ?_; refine aX (fun n S => ∃ (v31 : Int) (v32 : LZ), S = ⟨mkT [(1, .int .i64 a3), (2, .int .i64 a4), (3, .ptr 32 0), (7, .own 33 v32.length), (8, .int .i64 v31)], mkR [(32, .box 46 [.int .i64 a1, .sl (aB aV a2) a2.length]), (33, .row 46 2 (aB aL v32))], 64⟩ ∧ ac a1 a2 a3 a4 n v31 v32 = some r) FU ?_ ?_ ?_
    ·exact AC ⟨_, _, rfl, h⟩ [(32, some 32), (33, some 33)] [] hρ
    ·rintro S ⟨_, _, _, h⟩; rw [ac] at h; cases h
    ·rintro n3 S ⟨v31, v32, rfl, h⟩; rw [ac] at h; refine aH ?_; refine AN hN ?_; refine AB h (fun hc17 h => ?_) fun hc17 h => ?_
     ·refine aE (AK ?_); refine aQ (fun S => ∃ (v45 : LZ), S = ⟨mkT [(1, .int .i64 a3), (2, .int .i64 a4), (3, .ptr 32 0), (7, .own 33 v45.length), (8, .int .i64 v31)], mkR [(32, .box 46 [.int .i64 a1, .sl (aB aV a2) a2.length]), (33, .row 46 2 (aB aL v45))], 64⟩ ∧ cz v31 (ac a1 a2 a3 a4 n3) v45 = some r) ?_ ?_
      ·refine aJ ?_; refine AR hN fun K hK => ?_; obtain ⟨h32, h⟩ := gdI h; simp only [EV, seval, h32]; apply hK; clear hK K; refine AN hN ?_; refine aQ (fun S => ∃ (v42 : Bool) (v43 : Int) (v44 : List (LF)), S = ⟨mkT [(1, .int .i64 a3), (2, .int .i64 a4), (3, .ptr 32 0), (7, .own 33 v32.length), (8, .int .i64 v31), (9, .ptr 34 0), (10, .bool v42)], mkR [(32, .box 46 [.int .i64 a1, .sl (aB aV a2) a2.length]), (33, .row 46 2 (aB aL v32)), (34, .box 46 [.int .i64 v43, .own 35 v44.length]), (35, .row 55 1 (aB aV v44))], 64⟩ ∧ cT v31 v32 (ac a1 a2 a3 a4 n3) v42 v43 v44 = some r) ?_ ?_
       ·refine AN hN ?_; refine aJ ?_; refine aX (fun n S => ∃ (v38 : Bool) (v39 v40 : Int) (v41 : List (LF)), S = ⟨mkT [(1, .int .i64 a3), (2, .int .i64 a4), (3, .ptr 32 0), (7, .own 33 v32.length), (8, .int .i64 v31), (9, .ptr 34 0), (10, .bool v38), (11, .int .i64 v39)], mkR [(32, .box 46 [.int .i64 a1, .sl (aB aV a2) a2.length]), (33, .row 46 2 (aB aL v32)), (34, .box 46 [.int .i64 v40, .own 35 v41.length]), (35, .row 55 1 (aB aV v41))], 64⟩ ∧ bM a2 a3 v31 v32 (ac a1 a2 a3 a4 n3) n v38 v39 v40 v41 = some r) FU ?_ ?_ ?_
        ·exact AC ⟨_, _, _, _, rfl, h⟩ [(32, some 32), (33, some 33), (34, some 1216), (35, none)] [] hρ
        ·rintro S ⟨_, _, _, _, _, h⟩; rw [bM] at h; cases h
        ·rintro n4 S ⟨v38, v39, v40, v41, rfl, h⟩; rw [bM] at h; refine aH ?_; refine AN hN ?_; refine AB h (fun hc21 h => ?_) fun hc21 h => ?_
         ·refine aE (AK ?_); refine aH ?_; refine aJ ?_; refine AR hN fun K hK => ?_; obtain ⟨q9, h41, h⟩ := aA h; obtain ⟨⟨h42a, h42b⟩, h42c⟩ := aY lN h41; (try simp only [EV, seval] at h42c); obtain ⟨x18, h43, h⟩ := aA h; simp only [EV, seval, h42a, h42b, h42c]; refine aj (tq h43) (by simp only [AL, EV, seval, h42a, h42b, h42c]) (aN rfl) (ao (by simp only [EV, seval])) ?_; simp only [EV, seval, h42a, h42b, h42c]; apply hK; clear hK K; refine ba (aD (lt := [(1, .int .i64 a3), (2, .int .i64 a4), (3, .ptr 32 0), (7, .own 33 v32.length), (8, .int .i64 v31), (9, .ptr 34 0), (10, .bool v38), (11, .int .i64 v39), (12, .sl (aB aT x18.1) x18.1.length), (13, .bool x18.2)]) (lr := [(32, .box 46 [.int .i64 a1, .sl (aB aV a2) a2.length]), (33, .row 46 2 (aB aL v32)), (34, .box 46 [.int .i64 v40, .own 35 v41.length]), (35, .row 55 1 (aB aV v41))]) (b' := 2128) [(32, some 32), (33, some 33), (34, some 34), (35, some 35)] [1200] hρ (by kernel_rfl) ?_ ?_) ?_
          ·simp only [AL, EV, seval]
          ·simp only [AL, EV, seval]
          refine AR hN fun K hK => ?_; obtain ⟨h44, h⟩ := gdI h; (try simp only [EV, seval] at h44); simp only [EV, seval, h44]; apply hK; clear hK K; refine AS hN fun K hK => ?_; obtain ⟨x19, hv7, h⟩ := aA h; rcases aR hv7 with ⟨hc22, hv7⟩ | ⟨hc22, hv7⟩
          ·cases hv7; simp only [EV, seval, hc22]; refine hK _ _ _ (show AW _ _ _ _ _ from ?_); refine AS hN fun K hK => ?_; simp only [EV, seval]; exact hK _ _ _ (AC ⟨_, _, _, _, rfl, h⟩ [(32, some 32), (33, some 33), (34, some 34), (35, some 2192)] [] hρ)
          ·cases hv7; simp only [EV, seval, hc22]; refine hK _ _ _ (show AW _ _ _ _ _ from ?_); refine AS hN fun K hK => ?_; simp only [EV, seval]; exact hK _ _ _ (AC ⟨_, _, _, _, rfl, h⟩ [(32, some 32), (33, some 33), (34, some 34), (35, some 2192)] [] hρ)
         ·exact aa (AC ⟨_, _, _, rfl, h⟩ [(32, some 32), (33, some 33), (34, some 34), (35, some 35)] [] hρ)
       ·rintro S ⟨v42, v43, v44, rfl, h⟩; unfold cT at h; refine AN hN ?_; refine AB h (fun hc23 h => ?_) fun hc23 h => ?_
        ·refine ba (aD (lt := [(1, .int .i64 a3), (2, .int .i64 a4), (3, .ptr 32 0), (7, .own 33 v32.length), (8, .int .i64 v31), (9, .ptr 34 0)]) (lr := [(32, .box 46 [.int .i64 a1, .sl (aB aV a2) a2.length]), (33, .row 46 2 (aB aL v32)), (34, .box 46 [.int .i64 v43, .sl (aB aV v44) v44.length])]) (b' := 1104) [(32, some 32), (33, some 33), (34, some 34)] [35] hρ (by kernel_rfl) ?_ ?_) ?_
         ·simp only [AL, EV, seval]
         ·simp only [AL, EV, seval]
         refine AS hN fun K hK => ?_; obtain ⟨h45, h⟩ := gdI h; (try simp only [EV, seval] at h45); simp only [EV, seval, h45]; refine hK _ _ _ (show aM _ _ _ from aP ⟨_, rfl, h⟩ (aD [(32, some 32), (33, some 1152)] [] hρ (by kernel_rfl) ?_ ?_)) <;> simp only [AL, EV, seval, h45]
        ·refine aE (show aM _ _ _ from aP ⟨_, rfl, h⟩ (aD [(32, some 32), (33, some 33)] [] hρ (by kernel_rfl) ?_ ?_)) <;> simp only [AL, EV, seval]
      ·rintro S ⟨v45, rfl, h⟩; unfold cz at h; refine AS hN fun K hK => ?_; simp only [EV, seval]; exact hK _ _ _ (AC ⟨_, _, rfl, h⟩ [(32, some 32), (33, some 33)] [] hρ)
     ·exact aa (AC ⟨_, rfl, h⟩ [(32, some 33)] [] hρ)
   ·rintro S ⟨v46, rfl, h⟩; unfold i5 at h; refine AN hN ?_; injection h with h; subst h; exact AX (b' := 64) [(6, .own 32 v46.length)] [(32, .row 46 2 (aB aL v46))] [(32, some 32)] [] hρ (EQ [32])
def gD (v6 : Int) (kl1 : Int → (LZ) → Option (LZ × Bool)) (v8 : LZ) : Option (LZ × Bool) :=
  kl1 (IntKind.wrap .i64 (v6 + 1)) v8
def lC (v9 : LZ) : Option (LZ × Bool) :=
  some (v9, true)
def d8 (a1 : LZ) (a2 a3 a4 a5 a6 a7 a8 a9 : Int) : Nat → Int → (LZ) → Option (LZ × Bool)
  | 0, _, _ => none
  | n1 + 1, v6, v7 =>
  br (decide (v6 < ((a1.length : Int)))) (br (a2 == 1) (bO (ak a1 v6) fun q7 => bO (mp q7.1 q7.2 a2 a3 a4 a5 a6 a7 a8 a9) fun x5 => br (!x5.2.2) (some ([], false)) (gd (decide (v7.length + ([(x5.1, x5.2.1)]).length ≤ 16777216)) (gD v6 (d8 a1 a2 a3 a4 a5 a6 a7 a8 a9 n1) (v7 ++ ([(x5.1, x5.2.1)]))))) (br (a2 == 2) (bO (ak a1 v6) fun q8 => bO (dg q8.1 q8.2 a7 a8) fun x6 => gd (decide (v7.length + x6.length ≤ 16777216)) (gD v6 (d8 a1 a2 a3 a4 a5 a6 a7 a8 a9 n1) (v7 ++ x6))) (bO (ak a1 v6) fun q9 => gd (decide (v7.length + ([(q9.1, q9.2)]).length ≤ 16777216)) (gD v6 (d8 a1 a2 a3 a4 a5 a6 a7 a8 a9 n1) (v7 ++ ([(q9.1, q9.2)])))))) (lC v7)
def oZ (a1 : LZ) (a2 a3 a4 a5 a6 a7 a8 a9 : Int) : Option (LZ × Bool) :=
  d8 a1 a2 a3 a4 a5 a6 a7 a8 a9 FU 0 ([] : LZ)
theorem ts {a1 : LZ} {a2 a3 a4 a5 a6 a7 a8 a9 : Int} {r : LZ × Bool} (h : oZ a1 a2 a3 a4 a5 a6 a7 a8 a9 = some r) :
    aU Tryz.prog 36 [.sl (aB aL a1) a1.length, .agg [.int .i64 a2, .int .i64 a3, .int .i64 a4, .int .i64 a5, .int .i64 a6, .int .i64 a7, .int .i64 a8, .int .i64 a9]] [] (.tup [.own 0 r.1.length, .bool r.2]) [.row 46 2 (aB aL r.1)] := by
 unfold oZ at h; refine SO Tryz.func36 rfl Tryz.ntmps36 fun C hN hρ => ?_; simp only [st0, aW, Nat.zero_add, Nat.reduceAdd]; refine AN hN ?_; refine AN hN ?_; refine aQ (fun S => ∃ (v9 : LZ), S = ⟨mkT [(6, .own 32 v9.length)], mkR [(32, .row 46 2 (aB aL v9))], 64⟩ ∧ lC v9 = some r) ?_ ?_
 ·refine AN hN ?_; refine aJ ?_; refine aX (fun n S => ∃ (v6 : Int) (v7 : LZ), S = ⟨mkT [(0, .sl (aB aL a1) a1.length), (3, .ptr 32 0), (6, .own 33 v7.length), (7, .int .i64 v6)], mkR [(32, .box 75 [.int .i64 a2, .int .i64 a3, .int .i64 a4, .int .i64 a5, .int .i64 a6, .int .i64 a7, .int .i64 a8, .int .i64 a9]), (33, .row 46 2 (aB aL v7))], 64⟩ ∧ d8 a1 a2 a3 a4 a5 a6 a7 a8 a9 n v6 v7 = some r) FU ?_ ?_ ?_
  ·exact AC ⟨_, _, rfl, h⟩ [(32, some 64), (33, some 1088)] [] hρ
  ·rintro S ⟨_, _, _, h⟩; rw [d8] at h; cases h
  ·rintro n1 S ⟨v6, v7, rfl, h⟩; rw [d8] at h; refine aH ?_; refine AN hN ?_; refine AB h (fun hc9 h => ?_) fun hc9 h => ?_
   ·refine aE (AK ?_); refine aQ (fun S => ∃ (v8 : LZ), S = ⟨mkT [(0, .sl (aB aL a1) a1.length), (3, .ptr 32 0), (6, .own 33 v8.length), (7, .int .i64 v6)], mkR [(32, .box 75 [.int .i64 a2, .int .i64 a3, .int .i64 a4, .int .i64 a5, .int .i64 a6, .int .i64 a7, .int .i64 a8, .int .i64 a9]), (33, .row 46 2 (aB aL v8))], 64⟩ ∧ gD v6 (d8 a1 a2 a3 a4 a5 a6 a7 a8 a9 n1) v8 = some r) ?_ ?_
    ·refine aJ ?_; refine AN hN ?_; refine aJ ?_; refine AN hN ?_; refine AB h (fun hc10 h => ?_) fun hc10 h => ?_
     ·refine AR hN fun K hK => ?_; obtain ⟨q7, h23, h⟩ := aA h; obtain ⟨⟨h24a, h24b⟩, h24c⟩ := aY fx h23; (try simp only [EV, seval] at h24c); obtain ⟨x5, h25, h⟩ := aA h; simp only [EV, seval, h24a, h24b, h24c]; refine aj (tr h25) (by simp only [AL, EV, seval, h24a, h24b, h24c]) (aN rfl) (ab rfl) ?_; simp only [EV, seval, h24a, h24b, h24c]; apply hK; clear hK K; refine aH ?_; refine AN hN ?_; refine AB h (fun hc11 h => ?_) fun hc11 h => ?_
      ·refine AN hN ?_; injection h with h; subst h; exact AX (b' := 64) [(4, .own 32 0), (5, .bool false)] [(32, .row 46 2 (aB aL ([])))] [(32, some 5184)] [] hρ (EQ [32])
      ·refine aE (AK ?_); refine AS hN fun K hK => ?_; obtain ⟨h26, h⟩ := gdI h; (try simp only [EV, seval] at h26); simp only [EV, seval, h26]; refine hK _ _ _ (show aM _ _ _ from aP ⟨_, rfl, h⟩ (aD [(32, some 32), (33, some 5232)] [] hρ (by kernel_rfl) ?_ ?_)) <;> simp only [AL, EV, seval, h26]
     ·refine AN hN ?_; refine AB h (fun hc12 h => ?_) fun hc12 h => ?_
      ·refine AS hN fun K hK => ?_; obtain ⟨q8, h27, h⟩ := aA h; obtain ⟨⟨h28a, h28b⟩, h28c⟩ := aY fx h27; (try simp only [EV, seval] at h28c); obtain ⟨x6, h29, h⟩ := aA h; simp only [EV, seval, h28a, h28b, h28c]; refine aj (pa h29) (by simp only [AL, EV, seval, h28a, h28b, h28c]) (aN rfl) (ao (by simp only [EV, seval])) ?_; obtain ⟨h30, h⟩ := gdI h; (try simp only [EV, seval] at h30); simp only [EV, seval, h28a, h28b, h28c, h30]; refine hK _ _ _ (show aM _ _ _ from aP ⟨_, rfl, h⟩ (aD [(32, some 32), (33, some 4320)] [] hρ (by kernel_rfl) ?_ ?_)) <;> simp only [AL, EV, seval, h28a, h28b, h28c, h30]
      ·refine AS hN fun K hK => ?_; obtain ⟨q9, h31, h⟩ := aA h; obtain ⟨⟨h32a, h32b⟩, h32c⟩ := aY fx h31; (try simp only [EV, seval] at h32c); obtain ⟨h33, h⟩ := gdI h; (try simp only [EV, seval] at h33); simp only [EV, seval, h32a, h32b, h32c, h33]; refine hK _ _ _ (show aM _ _ _ from aP ⟨_, rfl, h⟩ (aD [(32, some 32), (33, some 4256)] [] hρ (by kernel_rfl) ?_ ?_)) <;> simp only [AL, EV, seval, h32a, h32b, h32c, h33]
    ·rintro S ⟨v8, rfl, h⟩; unfold gD at h; refine AS hN fun K hK => ?_; simp only [EV, seval]; exact hK _ _ _ (AC ⟨_, _, rfl, h⟩ [(32, some 32), (33, some 33)] [] hρ)
   ·exact aa (AC ⟨_, rfl, h⟩ [(32, some 33)] [] hρ)
 ·rintro S ⟨v9, rfl, h⟩; unfold lC at h; refine AN hN ?_; injection h with h; subst h; exact AX (b' := 64) [(4, .own 32 v9.length), (5, .bool true)] [(32, .row 46 2 (aB aL v9))] [(32, some 32)] [] hρ (EQ [32])
def gc (v9 : LZ) : Option (LZ × Bool) :=
  some (v9, true)
def eL (a4 : LO) (v6 : Int) (v7 : LZ) (kl1 : Int → (LZ) → Option (LZ × Bool)) (v8 : Bool) : Option (LZ × Bool) :=
  br v8 (bO (ak a4 v6) fun q3 => bO (oZ v7 q3.1 q3.2.1 q3.2.2.1 q3.2.2.2.1 q3.2.2.2.2.1 q3.2.2.2.2.2.1 q3.2.2.2.2.2.2.1 q3.2.2.2.2.2.2.2) fun x8 => br (!x8.2) (some ([], false)) (kl1 (IntKind.wrap .i64 (v6 + 1)) x8.1)) (gc v7)
def bT (a4 : LO) (a5 : Int) : Nat → Int → (LZ) → Option (LZ × Bool)
  | 0, _, _ => none
  | n1 + 1, v6, v7 =>
  bO (br (decide (v6 < ((a4.length : Int)))) (some (decide (v6 < a5))) (some false)) fun x7 => eL a4 v6 v7 (bT a4 a5 n1) x7
def gE (a1 a2 a3 : Int) (a4 : LO) (a5 : Int) : Option (LZ × Bool) :=
  bO (dT a1 a2 a3 a4) fun x1 => br (!x1) (some ([], false)) (bO (fK a1 a2) fun x2 => bT a4 a5 FU 0 ([(x2.1, x2.2)]))
theorem oi {a1 a2 a3 : Int} {a4 : LO} {a5 : Int} {r : LZ × Bool} (h : gE a1 a2 a3 a4 a5 = some r) :
    aU Tryz.prog 20 [.agg [.int .i64 a1, .int .i64 a2, .int .i64 a3, .sl (aB aK a4) a4.length], .int .i64 a5] [] (.tup [.own 0 r.1.length, .bool r.2]) [.row 46 2 (aB aL r.1)] := by
 unfold gE at h; refine SO Tryz.func20 rfl Tryz.ntmps20 fun C hN hρ => ?_; simp only [st0, aW, Nat.zero_add, Nat.reduceAdd]; refine AN hN ?_; refine aH ?_; obtain ⟨x1, h1, h⟩ := aA h; refine AP hN (kj h1) ?_; refine AB h (fun hc1 h => ?_) fun hc1 h => ?_
 ·refine AN hN ?_; injection h with h; subst h; exact AX (b' := 64) [(4, .own 32 0), (5, .bool false)] [(32, .row 46 2 (aB aL ([])))] [(32, some 2112)] [] hρ (EQ [32])
 ·refine aE (AK ?_); refine AR hN fun K hK => ?_; obtain ⟨x2, h2, h⟩ := aA h; simp only [EV, seval]; refine aj (aU.can (ret2 := .agg [.int .i64 x2.1, .sl (aB aV x2.2) x2.2.length]) (mem2 := []) (pZ h2) [] [0] (by kernel_rfl) (by simp only [AL, EV, seval]) (by simp only [AL, EV, seval])) (by simp only [AL, EV, seval]) (aN rfl) (ab rfl) ?_; simp only [EV, seval]; apply hK; clear hK K; refine aQ (fun S => ∃ (v9 : LZ), S = ⟨mkT [(6, .own 32 v9.length)], mkR [(32, .row 46 2 (aB aL v9))], 64⟩ ∧ gc v9 = some r) ?_ ?_
  ·refine AN hN ?_; refine aJ ?_; refine aX (fun n S => ∃ (v6 : Int) (v7 : LZ), S = ⟨mkT [(1, .int .i64 a5), (2, .ptr 32 0), (6, .own 33 v7.length), (7, .int .i64 v6)], mkR [(32, .box 26 [.int .i64 a1, .int .i64 a2, .int .i64 a3, .sl (aB aK a4) a4.length]), (33, .row 46 2 (aB aL v7))], 64⟩ ∧ bT a4 a5 n v6 v7 = some r) FU ?_ ?_ ?_
   ·exact AC ⟨_, _, rfl, h⟩ [(32, some 64), (33, some 2192)] [] hρ
   ·rintro S ⟨_, _, _, h⟩; rw [bT] at h; cases h
   ·rintro n1 S ⟨v6, v7, rfl, h⟩; rw [bT] at h; refine aH ?_; refine AJ (fun S => ∃ (v8 : Bool), S = ⟨mkT [(1, .int .i64 a5), (2, .ptr 32 0), (6, .own 33 v7.length), (7, .int .i64 v6), (29, .bool v8)], mkR [(32, .box 26 [.int .i64 a1, .int .i64 a2, .int .i64 a3, .sl (aB aK a4) a4.length]), (33, .row 46 2 (aB aL v7))], 64⟩ ∧ eL a4 v6 v7 (bT a4 a5 n1) v8 = some r) hN ?_ ?_
    ·intro K hK; obtain ⟨x7, hv3, h⟩ := aA h; rcases aR hv3 with ⟨hc8, hv3⟩ | ⟨hc8, hv3⟩
     ·cases hv3; simp only [EV, seval, hc8]; refine hK _ _ _ (show aM _ _ _ from aP ⟨_, rfl, h⟩ (aD [(32, some 32), (33, some 33)] [] hρ (by kernel_rfl) ?_ ?_)) <;> simp only [AL, EV, seval, hc8]
     ·cases hv3; simp only [EV, seval, hc8]; refine hK _ _ _ (show aM _ _ _ from aP ⟨_, rfl, h⟩ (aD [(32, some 32), (33, some 33)] [] hρ (by kernel_rfl) ?_ ?_)) <;> simp only [AL, EV, seval, hc8]
    ·rintro S ⟨v8, rfl, h⟩; unfold eL at h; refine AB h (fun hc9 h => ?_) fun hc9 h => ?_
     ·refine aE (AK ?_); refine aH ?_; refine aJ ?_; refine ba (aD (lt := [(1, .int .i64 a5), (2, .ptr 32 0), (6, .sl (aB aL v7) v7.length), (7, .int .i64 v6)]) (lr := [(32, .box 26 [.int .i64 a1, .int .i64 a2, .int .i64 a3, .sl (aB aK a4) a4.length])]) (b' := 80) [(32, some 32)] [33] hρ (by kernel_rfl) ?_ ?_) ?_
      ·simp only [AL, EV, seval]
      ·simp only [AL, EV, seval]
      refine AR hN fun K hK => ?_; obtain ⟨q3, h9, h⟩ := aA h; obtain ⟨⟨h10a, h10b⟩, h10c⟩ := aY eg h9; (try simp only [EV, seval] at h10c); obtain ⟨x8, h11, h⟩ := aA h; simp only [EV, seval, h10a, h10b, h10c]; refine aj (ts h11) (by simp only [AL, EV, seval, h10a, h10b, h10c]) (aN rfl) (ao (by simp only [EV, seval])) ?_; simp only [EV, seval, h10a, h10b, h10c]; apply hK; clear hK K; refine aH ?_; refine AN hN ?_; refine AB h (fun hc10 h => ?_) fun hc10 h => ?_
      ·refine AN hN ?_; injection h with h; subst h; exact AX (b' := 64) [(4, .own 32 0), (5, .bool false)] [(32, .row 46 2 (aB aL ([])))] [(32, some 2128)] [] hρ (EQ [32])
      ·refine aE (AK ?_); refine AS hN fun K hK => ?_; simp only [EV, seval]; refine hK _ _ _ (show AW _ _ _ _ _ from ?_); refine AS hN fun K hK => ?_; simp only [EV, seval]; exact hK _ _ _ (AC ⟨_, _, rfl, h⟩ [(32, some 32), (33, some 176)] [] hρ)
     ·exact aa (AC ⟨_, rfl, h⟩ [(32, some 33)] [] hρ)
  ·rintro S ⟨v9, rfl, h⟩; unfold gc at h; refine AN hN ?_; injection h with h; subst h; exact AX (b' := 64) [(4, .own 32 v9.length), (5, .bool true)] [(32, .row 46 2 (aB aL v9))] [(32, some 32)] [] hρ (EQ [32])
def lm (a1 a2 a3 : Int) (a4 : LO) : Option (LZ × Bool) :=
  bO (gE a1 a2 a3 a4 ((a4.length : Int))) fun x1 => some (x1.1, x1.2)
theorem sZ {a1 a2 a3 : Int} {a4 : LO} {r : LZ × Bool} (h : lm a1 a2 a3 a4 = some r) :
    aU Tryz.prog 8 [.agg [.int .i64 a1, .int .i64 a2, .int .i64 a3, .sl (aB aK a4) a4.length]] [] (.tup [.own 0 r.1.length, .bool r.2]) [.row 46 2 (aB aL r.1)] := by
 unfold lm at h; refine SO Tryz.func8 rfl Tryz.ntmps8 fun C hN hρ => ?_; simp only [st0, aW, Nat.zero_add, Nat.reduceAdd]; refine AN hN ?_; refine AR hN fun K hK => ?_; obtain ⟨x1, h1, h⟩ := aA h; simp only [EV, seval]; refine aj (oi h1) (by simp only [AL, EV, seval]) (aN rfl) (ao (by simp only [EV, seval])) ?_; simp only [EV, seval]; apply hK; clear hK K; injection h with h; subst h; exact AX (b' := 64) [(2, .own 32 x1.1.length), (3, .bool x1.2)] [(32, .row 46 2 (aB aL x1.1))] [(32, some 1152)] [] hρ (EQ [32])
def pw (v11 v12 : Int) (kl1 : Int → Int → Int → Int → Int → Int → Int → Option (Int × Int × Int × Int × Int × Bool)) (x8 : Int × Int × Int × Int × Int × Bool) (v18 : Bool) : Option (Int × Int × Int × Int × Int × Bool) :=
  br v18 (some (0, 0, 0, 0, 0, false)) (kl1 v11 (IntKind.wrap .i64 (v12 + 1)) x8.1 x8.2.1 x8.2.2.1 x8.2.2.2.1 x8.2.2.2.2.1)
def sF (v19 v20 v21 v22 v23 : Int) : Option (Int × Int × Int × Int × Int × Bool) :=
  some (v19, v20, v21, v22, v23, true)
def kJ (a1 : LF) (a2 : LF) : Nat → Int → Int → Int → Int → Int → Int → Int → Option (Int × Int × Int × Int × Int × Bool)
  | 0, _, _, _, _, _, _, _ => none
  | n1 + 1, v11, v12, v13, v14, v15, v16, v17 =>
  br (decide (v12 < v11)) (bO (ak a1 v12) fun q5 => bO (ak a2 v12) fun q6 => bO (fg q5.1 q5.2.1 q5.2.2.1 q5.2.2.2.1 q5.2.2.2.2 q6.1 q6.2.1 q6.2.2.1 q6.2.2.2.1 q6.2.2.2.2) fun x7 => bO (iK v13 v14 v15 v16 v17 x7.1 x7.2.1 x7.2.2.1 x7.2.2.2.1 x7.2.2.2.2.1) fun x8 => bO (br (!x7.2.2.2.2.2) (some true) (some (!x8.2.2.2.2.2))) fun x9 => pw v11 v12 (kJ a1 a2 n1) x8 x9) (sF v13 v14 v15 v16 v17)
def vC (a1 : LF) (a2 : LF) : Option (Int × Int × Int × Int × Int × Bool) :=
  kJ a1 a2 FU ((a1.length : Int)) 0 0 0 0 0 0
theorem Cm {a1 : LF} {a2 : LF} {r : Int × Int × Int × Int × Int × Bool} (h : vC a1 a2 = some r) :
    aU Tryz.prog 46 [.sl (aB aT a1) a1.length, .sl (aB aT a2) a2.length] [] (.tup [.agg [.int .i64 r.1, .int .i64 r.2.1, .int .i64 r.2.2.1, .int .i64 r.2.2.2.1, .int .i64 r.2.2.2.2.1], .bool r.2.2.2.2.2]) [] := by
 unfold vC at h; refine SO Tryz.func46 rfl Tryz.ntmps46 fun C hN hρ => ?_; simp only [st0, aW, Nat.zero_add, Nat.reduceAdd]; refine AN hN ?_; refine AN hN ?_; refine aQ (fun S => ∃ (v19 v20 v21 v22 v23 : Int), S = ⟨mkT [(4, .ptr 32 0), (6, .ptr 33 0)], mkR [(32, .box 36 [.int .i64 0, .int .i64 0, .int .i64 0, .int .i64 0, .int .i64 0]), (33, .box 36 [.int .i64 v19, .int .i64 v20, .int .i64 v21, .int .i64 v22, .int .i64 v23])], 64⟩ ∧ sF v19 v20 v21 v22 v23 = some r) ?_ ?_
 ·refine AN hN ?_; refine aJ ?_; refine aX (fun n S => ∃ (v11 v12 v13 v14 v15 v16 v17 : Int), S = ⟨mkT [(0, .sl (aB aT a1) a1.length), (1, .sl (aB aT a2) a2.length), (4, .ptr 32 0), (6, .ptr 33 0), (14, .int .i64 v11), (15, .int .i64 v12)], mkR [(32, .box 36 [.int .i64 0, .int .i64 0, .int .i64 0, .int .i64 0, .int .i64 0]), (33, .box 36 [.int .i64 v13, .int .i64 v14, .int .i64 v15, .int .i64 v16, .int .i64 v17])], 64⟩ ∧ kJ a1 a2 n v11 v12 v13 v14 v15 v16 v17 = some r) FU ?_ ?_ ?_
  ·exact AC ⟨_, _, _, _, _, _, _, rfl, h⟩ [(32, some 64), (33, some 1104)] [] hρ
  ·rintro S ⟨_, _, _, _, _, _, _, _, h⟩; rw [kJ] at h; cases h
  ·rintro n1 S ⟨v11, v12, v13, v14, v15, v16, v17, rfl, h⟩; rw [kJ] at h; refine AN hN ?_; refine aH ?_; refine AB h (fun hc7 h => ?_) fun hc7 h => ?_
   ·refine aE (AK ?_); refine aH ?_; refine aJ ?_; refine AN hN ?_; refine AR hN fun K hK => ?_; obtain ⟨q5, h13, h⟩ := aA h; obtain ⟨⟨h14a, h14b⟩, h14c⟩ := aY co h13; (try simp only [EV, seval] at h14c); obtain ⟨q6, h15, h⟩ := aA h; obtain ⟨⟨h16a, h16b⟩, h16c⟩ := aY co h15; (try simp only [EV, seval] at h16c); obtain ⟨x7, h17, h⟩ := aA h; simp only [EV, seval, h14a, h14b, h14c, h16a, h16b, h16c]; refine aj (la h17) (by simp only [AL, EV, seval, h14a, h14b, h14c, h16a, h16b, h16c]) (aN rfl) (ab rfl) ?_; simp only [EV, seval, h14a, h14b, h14c, h16a, h16b, h16c]; apply hK; clear hK K; obtain ⟨x8, h18, h⟩ := aA h; refine AP hN (o2 h18) ?_; refine aH ?_; refine AJ (fun S => ∃ (v18 : Bool), S = ⟨mkT [(0, .sl (aB aT a1) a1.length), (1, .sl (aB aT a2) a2.length), (4, .ptr 32 0), (6, .ptr 33 0), (10, .ptr 34 0), (14, .int .i64 v11), (15, .int .i64 v12), (41, .bool v18)], mkR [(32, .box 36 [.int .i64 0, .int .i64 0, .int .i64 0, .int .i64 0, .int .i64 0]), (33, .box 36 [.int .i64 v13, .int .i64 v14, .int .i64 v15, .int .i64 v16, .int .i64 v17]), (34, .box 36 [.int .i64 x8.1, .int .i64 x8.2.1, .int .i64 x8.2.2.1, .int .i64 x8.2.2.2.1, .int .i64 x8.2.2.2.2.1])], 64⟩ ∧ pw v11 v12 (kJ a1 a2 n1) x8 v18 = some r) hN ?_ ?_
    ·intro K hK; obtain ⟨x9, hv3, h⟩ := aA h; rcases aR hv3 with ⟨hc8, hv3⟩ | ⟨hc8, hv3⟩
     ·cases hv3; simp only [EV, seval, hc8]; refine hK _ _ _ (show aM _ _ _ from aP ⟨_, rfl, h⟩ (aD [(32, some 32), (33, some 33), (34, some 3232)] [] hρ (by kernel_rfl) ?_ ?_)) <;> simp only [AL, EV, seval, hc8]
     ·cases hv3; simp only [EV, seval, hc8]; refine hK _ _ _ (show aM _ _ _ from aP ⟨_, rfl, h⟩ (aD [(32, some 32), (33, some 33), (34, some 3232)] [] hρ (by kernel_rfl) ?_ ?_)) <;> simp only [AL, EV, seval, hc8]
    ·rintro S ⟨v18, rfl, h⟩; unfold pw at h; refine AB h (fun hc9 h => ?_) fun hc9 h => ?_
     ·refine AN hN ?_; injection h with h; subst h; exact AX (b' := 64) [(4, .ptr 32 0), (5, .bool false)] [(32, .box 36 [.int .i64 0, .int .i64 0, .int .i64 0, .int .i64 0, .int .i64 0])] [(32, some 32)] [] hρ (EQ [])
     ·refine aE (AK ?_); refine AS hN fun K hK => ?_; simp only [EV, seval]; refine hK _ _ _ (show AW _ _ _ _ _ from ?_); refine AS hN fun K hK => ?_; simp only [EV, seval]; exact hK _ _ _ (AC ⟨_, _, _, _, _, _, _, rfl, h⟩ [(32, some 32), (33, some 33)] [] hρ)
   ·exact aa (AC ⟨_, _, _, _, _, rfl, h⟩ [(32, some 32), (33, some 33)] [] hρ)
 ·rintro S ⟨v19, v20, v21, v22, v23, rfl, h⟩; unfold sF at h; refine AN hN ?_; injection h with h; subst h; exact AX (b' := 64) [(4, .ptr 32 0), (5, .bool true)] [(32, .box 36 [.int .i64 v19, .int .i64 v20, .int .i64 v21, .int .i64 v22, .int .i64 v23])] [(32, some 32)] [] hρ (EQ [])
abbrev Z4 := Int × Int × Int × Int
def rt (x : Z4) : Z4 := (x.2.1 - x.2.2.2, x.1 + x.2.2.1, x.2.1 + x.2.2.2, x.2.2.1 - x.1)
def adz (x y : Z4) : Z4 := (x.1 + y.1, x.2.1 + y.2.1, x.2.2.1 + y.2.2.1, x.2.2.2 + y.2.2.2)
def mlz (x y : Z4) : Z4 := (x.1 * y.1 - x.2.1 * y.2.2.2 - x.2.2.1 * y.2.2.1 - x.2.2.2 * y.2.1, x.1 * y.2.1 + x.2.1 * y.1 - x.2.2.1 * y.2.2.2 - x.2.2.2 * y.2.2.1,
  x.1 * y.2.2.1 + x.2.1 * y.2.1 + x.2.2.1 * y.1 - x.2.2.2 * y.2.2.2, x.1 * y.2.2.2 + x.2.1 * y.2.2.1 + x.2.2.1 * y.2.1 + x.2.2.2 * y.1)
theorem fL {x y : Z4} (h1 : x.1 = y.1) (h2 : x.2.1 = y.2.1) (h3 : x.2.2.1 = y.2.2.1) (h4 : x.2.2.2 = y.2.2.2) : x = y :=
 Prod.ext h1 (Prod.ext h2 (Prod.ext h3 h4))
theorem Cn {x y : Z4} (h : rt x = rt y) : x = y := by
 unfold rt at h
 simp only [Prod.mk.injEq] at h
 apply fL <;> omega
theorem J8 (x y : Z4) : rt (adz x y) = adz (rt x) (rt y) := by
 unfold rt adz
 apply fL <;> simp only <;> omega
theorem J9 (x y : Z4) : mlz (rt x) y = rt (mlz x y) := by
 unfold rt mlz
 apply fL <;> simp only <;> grind
theorem j8 (x y : Z4) : mlz x y = mlz y x := by
 unfold mlz
 apply fL <;> simp only <;> grind
theorem gF (x y z : Z4) : mlz (mlz x y) z = mlz x (mlz y z) := by
 unfold mlz
 apply fL <;> simp only <;> grind
theorem HD (x y z : Z4) : mlz x (adz y z) = adz (mlz x y) (mlz x z) := by
 unfold mlz adz
 apply fL <;> simp only <;> grind
theorem fM (x y : Z4) : adz x y = adz y x := by
 unfold adz
 apply fL <;> simp only <;> omega
theorem jc (x y z : Z4) : adz (adz x y) z = adz x (adz y z) := by
 unfold adz
 apply fL <;> simp only <;> omega
def rtn : Nat → Z4 → Z4
 | 0, x => x
 | k + 1, x => rt (rtn k x)
theorem px (k : Nat) {x y : Z4} (h : rtn k x = rtn k y) : x = y := by
 induction k with
 | zero => exact h
 | succ k ih => exact ih (Cn h)
theorem cp (j k : Nat) (x : Z4) : rtn j (rtn k x) = rtn (j + k) x := by
 induction j with
 | zero => simp [rtn]
 | succ j ih => rw [show j + 1 + k = (j + k) + 1 by omega]; show rt (rtn j (rtn k x)) = rt _; rw [ih]
theorem tt (k : Nat) (x y : Z4) : rtn k (adz x y) = adz (rtn k x) (rtn k y) := by
 induction k with
 | zero => rfl
 | succ k ih => show rt _ = adz (rt _) (rt _); rw [ih, J8]
theorem tu (k : Nat) (x y : Z4) : rtn k (mlz x y) = mlz (rtn k x) y := by
 induction k with
 | zero => rfl
 | succ k ih => show rt _ = mlz (rt _) y; rw [ih, J9]
theorem mq (k : Nat) (x y : Z4) : rtn k (mlz x y) = mlz x (rtn k y) := by rw [j8, tu, j8]
theorem KN (x : Z4) : rt (rt x) = adz x x := by
 unfold rt adz
 apply fL <;> simp only <;> omega
def ev4 (x : Z4) : Bool := x.1 % 2 == 0 && (x.2.1 % 2 == 0 && (x.2.2.1 % 2 == 0 && x.2.2.2 % 2 == 0))
def hlf (x : Z4) : Z4 := (x.1 / 2, x.2.1 / 2, x.2.2.1 / 2, x.2.2.2 / 2)
def dvb (x : Z4) : Bool := ev4 (rt x)
def dvh (x : Z4) : Z4 := hlf (rt x)
theorem lD (x : Z4) : ev4 x = true ↔ x.1 % 2 = 0 ∧ x.2.1 % 2 = 0 ∧ x.2.2.1 % 2 = 0 ∧ x.2.2.2 % 2 = 0 := by
 unfold ev4; simp only [Bool.and_eq_true, beq_iff_eq]
theorem Hs {x : Z4} (h : dvb x = true) : rt (dvh x) = x := by
 unfold dvb at h
 rw [lD] at h
 unfold dvh hlf rt at *
 simp only at h
 apply fL <;> simp only <;> omega
theorem Ht (x : Z4) : dvb (rt x) = true := by
 unfold dvb
 rw [lD]
 unfold rt
 simp only
 omega
def vz (x : Z4) : Bool := decide (-1073741824 ≤ x.1 ∧ x.1 ≤ 1073741824) && (decide (-1073741824 ≤ x.2.1 ∧ x.2.1 ≤ 1073741824) && (decide (-1073741824 ≤ x.2.2.1 ∧ x.2.2.1 ≤ 1073741824) && decide (-1073741824 ≤ x.2.2.2 ∧ x.2.2.2 ≤ 1073741824)))
def bdz (M : Int) (x : Z4) : Prop := (-M ≤ x.1 ∧ x.1 ≤ M) ∧ (-M ≤ x.2.1 ∧ x.2.1 ≤ M) ∧ (-M ≤ x.2.2.1 ∧ x.2.2.1 ≤ M) ∧ (-M ≤ x.2.2.2 ∧ x.2.2.2 ≤ M)
theorem bp (x : Z4) : vz x = true ↔ bdz 1073741824 x := by
 unfold vz bdz; simp only [Bool.and_eq_true, decide_eq_true_eq]
theorem xJ {M : Int} {x : Z4} (h : dvb x = true) (hb : bdz M x) : bdz M (dvh x) := by
 unfold dvb at h
 rw [lD] at h
 unfold bdz dvh hlf rt at *
 simp only at *
 omega
def nd : Nat → Z4 → Z4 × Nat
 | 0, n => (n, 0)
 | k + 1, n => if dvb n = true then nd k (dvh n) else (n, k + 1)
theorem jp : ∀ (k : Nat) (n : Z4), (nd k n).2 ≤ k ∧ rtn (k - (nd k n).2) (nd k n).1 = n ∧ ((nd k n).2 = 0 ∨ dvb (nd k n).1 = false) ∧ ∀ M, bdz M n → bdz M (nd k n).1
 | 0, n => ⟨Nat.le_refl 0, rfl, Or.inl rfl, fun M h => h⟩
 | k + 1, n => by
  unfold nd
  by_cases h : dvb n = true
  ·rw [if_pos h]
   obtain ⟨h1, h2, h3, h4⟩ := jp k (dvh n)
   refine ⟨by omega, ?_, h3, fun M hM => h4 M (xJ h hM)⟩
   rw [show k + 1 - (nd k (dvh n)).2 = (k - (nd k (dvh n)).2) + 1 by omega]
   show rt (rtn _ _) = n
   rw [h2, Hs h]
  ·rw [if_neg h]
   refine ⟨Nat.le_refl _, ?_, Or.inr (by simpa using h), fun M h => h⟩
   rw [Nat.sub_self]; rfl
theorem Lp {n m : Z4} {k j : Nat} (h : rtn j n = rtn k m) (hn : k = 0 ∨ dvb n = false) (hm : j = 0 ∨ dvb m = false) : n = m ∧ k = j := by
 have key : ∀ {n m : Z4} {k j : Nat}, k ≤ j → rtn j n = rtn k m → (j = 0 ∨ dvb m = false) → n = m ∧ k = j := by
  intro n m k j hkj h hm
  have e : rtn (j - k) n = m := px k (by rw [cp, show k + (j - k) = j by omega, h])
  by_cases hj : j = k
  ·subst hj; rw [Nat.sub_self] at e; exact ⟨e, rfl⟩
  ·obtain ⟨d, hd⟩ : ∃ d, j - k = d + 1 := ⟨j - k - 1, by omega⟩
   rw [hd] at e
   have : dvb m = true := by rw [← e]; exact Ht _
   rcases hm with h0 | h0
   ·omega
   ·rw [this] at h0; cases h0
 rcases Nat.le_total k j with hkj | hkj
 ·exact key hkj h hm
 ·obtain ⟨a, b⟩ := key hkj h.symm hn
  exact ⟨a.symm, b.symm⟩
theorem HE {n m : Z4} {k j : Nat} (h : rtn j n = rtn k m) : nd k n = nd j m := by
 obtain ⟨a1, a2, a3, _⟩ := jp k n
 obtain ⟨b1, b2, b3, _⟩ := jp j m
 have e : rtn (nd j m).2 (nd k n).1 = rtn (nd k n).2 (nd j m).1 := by
  refine px ((k - (nd k n).2) + (j - (nd j m).2)) ?_
  have e1 : rtn (k - (nd k n).2 + (j - (nd j m).2)) (rtn (nd j m).2 (nd k n).1) = rtn j n := by
   rw [cp, show k - (nd k n).2 + (j - (nd j m).2) + (nd j m).2 = j + (k - (nd k n).2) by omega, ← cp, a2]
  have e2 : rtn (k - (nd k n).2 + (j - (nd j m).2)) (rtn (nd k n).2 (nd j m).1) = rtn k m := by
   rw [cp, show k - (nd k n).2 + (j - (nd j m).2) + (nd k n).2 = k + (j - (nd j m).2) by omega, ← cp, b2]
  rw [e1, e2, h]
 obtain ⟨e1, e2⟩ := Lp e a3 b3
 exact Prod.ext e1 e2
theorem KO {n : Z4} {k : Nat} (h : k = 0 ∨ dvb n = false) : nd k n = (n, k) := by
 cases k with
 | zero => rfl
 | succ k =>
  unfold nd
  rcases h with h | h
  ·omega
  ·rw [h]; rfl
abbrev DQ := Int × Int × Int × Int × Int
def znm (x : DQ) : Z4 := (x.1, x.2.1, x.2.2.1, x.2.2.2.1)
def zex (x : DQ) : Int := x.2.2.2.2
def ae (x : DQ) : Nat := (zex x).toNat
def vd (x : DQ) : Bool := vz (znm x) && (decide (0 ≤ zex x ∧ zex x ≤ 60) && (zex x == 0 || !dvb (znm x)))
def mkD (r : Z4 × Nat) : DQ := (r.1.1, r.1.2.1, r.1.2.2.1, r.1.2.2.2, (r.2 : Int))
def d0 : DQ := (0, 0, 0, 0, 0)
def oD (n : Z4) (k : Nat) : Option DQ := if vz n = true ∧ (nd k n).2 ≤ 60 then some (mkD (nd k n)) else none
def ms (x y : DQ) : Option DQ := if vz (mlz (znm x) (znm y)) = true then oD (mlz (znm x) (znm y)) (ae x + ae y) else none
def upF (x : DQ) (K : Nat) : Z4 := rtn (K - ae x) (znm x)
def oE (x y : DQ) : Option DQ :=
 let K := max (ae x) (ae y)
 if (vz (upF x K) = true ∧ vz (upF y K) = true) ∧ vz (adz (upF x K) (upF y K)) = true then oD (adz (upF x K) (upF y K)) K else none
theorem dy (x : DQ) : vd x = true ↔ vz (znm x) = true ∧ (0 ≤ zex x ∧ zex x ≤ 60) ∧ (ae x = 0 ∨ dvb (znm x) = false) := by
 unfold vd ae
 simp only [Bool.and_eq_true, decide_eq_true_eq, Bool.or_eq_true, beq_iff_eq, Bool.not_eq_true']
 constructor
 ·rintro ⟨a, b, c⟩; exact ⟨a, b, c.imp (fun h => by omega) id⟩
 ·rintro ⟨a, b, c⟩; exact ⟨a, b, c.imp (fun h => by omega) id⟩
theorem JA (x : DQ) (h : 0 ≤ zex x) : mkD (znm x, ae x) = x := by
 obtain ⟨a, b, c, d, e⟩ := x
 unfold mkD znm ae zex at *
 simp only at *
 rw [Int.toNat_of_nonneg h]
theorem Co (r : Z4 × Nat) : znm (mkD r) = r.1 ∧ ae (mkD r) = r.2 ∧ zex (mkD r) = (r.2 : Int) := ⟨rfl, by unfold ae zex mkD; simp, rfl⟩
theorem kb {M : Int} : ∀ (k : Nat) {x : Z4}, bdz M (rtn k x) → bdz M x
 | 0, x, h => h
 | k + 1, x, h => kb k (by
   have : dvb (rt (rtn k x)) = true := Ht _
   have e : dvh (rt (rtn k x)) = rtn k x := Cn (Hs this)
   rw [← e]
   exact xJ this h)
theorem ln {n : Z4} {k : Nat} {z : DQ} (h : oD n k = some z) : vd z = true ∧ ae z ≤ k ∧ rtn k (znm z) = rtn (ae z) n ∧ ∀ M, bdz M n → bdz M (znm z) := by
 unfold oD at h
 split at h
 case isFalse => cases h
 rename_i hc
 injection h with h
 subst h
 obtain ⟨h1, h2, h3, h4⟩ := jp k n
 obtain ⟨e1, e2, e3⟩ := Co (nd k n)
 rw [e1, e2]
 refine ⟨(dy _).2 ⟨?_, ?_, ?_⟩, h1, ?_, h4⟩
 ·rw [e1, bp]; exact h4 _ ((bp _).1 hc.1)
 ·rw [e3]; omega
 ·rw [e1, e2]; exact h3
 ·have : rtn (nd k n).2 n = rtn (nd k n).2 (rtn (k - (nd k n).2) (nd k n).1) := by rw [h2]
  rw [this, cp, show (nd k n).2 + (k - (nd k n).2) = k by omega]
theorem mt (k : Nat) : rtn k (0, 0, 0, 0) = (0, 0, 0, 0) := by
 induction k with
 | zero => rfl
 | succ k ih => show rt (rtn k _) = _; rw [ih]; rfl
theorem Cp (y : Z4) : mlz y (0, 0, 0, 0) = (0, 0, 0, 0) := by unfold mlz; simp
theorem Cq : vd d0 = true := by decide
theorem dM (x : Z4) : adz x (0, 0, 0, 0) = x := by unfold adz; simp
theorem A3 (x y : DQ) : oE x y = oE y x := by
 unfold oE
 simp only [Nat.max_comm (ae x) (ae y), fM (upF x _) (upF y _), And.comm (a := vz (upF x _) = true)]
theorem HF {x y z : DQ} (h : ms x y = some z) : vd z = true ∧ rtn (ae x + ae y) (znm z) = rtn (ae z) (mlz (znm x) (znm y)) := by
 unfold ms at h
 split at h
 ·exact ⟨(ln h).1, (ln h).2.2.1⟩
 ·cases h
theorem HG {x y z : DQ} (h : oE x y = some z) : vd z = true ∧ rtn (max (ae x) (ae y)) (znm z) = rtn (ae z) (adz (upF x (max (ae x) (ae y))) (upF y (max (ae x) (ae y)))) := by
 unfold oE at h
 simp only at h
 split at h
 ·exact ⟨(ln h).1, (ln h).2.2.1⟩
 ·cases h
def wN : DQ → List DQ → List DQ → Option DQ
 | s, x :: r, y :: v => (ms x y).bind fun p => (oE s p).bind fun z => wN z r v
 | s, _, _ => some s
theorem kK (j k : Nat) (x : Z4) : rtn j (rtn k x) = rtn k (rtn j x) := by rw [cp, cp, Nat.add_comm]
def h2 : DQ := (1, 0, 0, 0, 2)
theorem xK (x : Z4) : mlz x (1, 0, 0, 0) = x := by unfold mlz; apply fL <;> simp
theorem wO (x : Z4) : mlz (1, 0, 0, 0) x = x := by rw [j8, xK]
def Bd (E : Nat) (M : Nat) (x : DQ) : Prop := vd x = true ∧ ae x ≤ E ∧ ∃ n, bdz M n ∧ rtn E (znm x) = rtn (ae x) n
theorem ax {M L : Int} (h : M ≤ L) {x : Z4} (hx : bdz M x) : bdz L x := by unfold bdz at *; omega
theorem nT {M L : Int} {x y : Z4} (hx : bdz M x) (hy : bdz L y) : bdz (M + L) (adz x y) := by unfold bdz adz at *; simp only; omega
theorem bA {M L : Nat} {a b : Int} (ha : -(M : Int) ≤ a ∧ a ≤ M) (hb : -(L : Int) ≤ b ∧ b ≤ L) : -((M * L : Nat) : Int) ≤ a * b ∧ a * b ≤ ((M * L : Nat) : Int) := by
 have h1 : a.natAbs ≤ M := by omega
 have h2 : b.natAbs ≤ L := by omega
 have h3 : (a * b).natAbs ≤ M * L := by rw [Int.natAbs_mul]; exact Nat.mul_le_mul h1 h2
 omega
theorem HH {M L : Nat} {x y : Z4} (hx : bdz M x) (hy : bdz L y) : bdz ((4 * (M * L) : Nat) : Int) (mlz x y) := by
 obtain ⟨x1, x2, x3, x4⟩ := hx
 obtain ⟨y1, y2, y3, y4⟩ := hy
 have a1 := bA x1 y1; have a2 := bA x1 y2; have a3 := bA x1 y3; have a4 := bA x1 y4
 have b1 := bA x2 y1; have b2 := bA x2 y2; have b3 := bA x2 y3; have b4 := bA x2 y4
 have c1 := bA x3 y1; have c2 := bA x3 y2; have c3 := bA x3 y3; have c4 := bA x3 y4
 have d1 := bA x4 y1; have d2 := bA x4 y2; have d3 := bA x4 y3; have d4 := bA x4 y4
 unfold bdz mlz
 simp only
 generalize M * L = P at *
 refine ⟨⟨?_, ?_⟩, ⟨?_, ?_⟩, ⟨?_, ?_⟩, ?_, ?_⟩ <;> omega
theorem Bd.up {E M : Nat} {x : DQ} (h : Bd E M x) {K : Nat} (h1 : ae x ≤ K) (h2 : K ≤ E) : ∃ n, bdz M n ∧ rtn (E - K) (upF x K) = n ∧ rtn E (znm x) = rtn (ae x) n := by
 obtain ⟨_, _, n, hn, e⟩ := h
 refine ⟨n, hn, ?_, e⟩
 refine px (ae x) ?_
 unfold upF
 rw [cp, cp, show ae x + (E - K) + (K - ae x) = E by omega, e]
theorem Bd.new {n : Z4} {k E M : Nat} (hk : k ≤ 60) (hE : k ≤ E) (hM : M ≤ 1073741824) (hb : bdz M (rtn (E - k) n)) : ∃ z, oD n k = some z ∧ Bd E M z := by
 have hv : vz n = true := (bp n).2 (ax (by omega) (kb _ hb))
 obtain ⟨s1, _, _, _⟩ := jp k n
 have hz : oD n k = some (mkD (nd k n)) := by unfold oD; rw [if_pos ⟨hv, by omega⟩]
 obtain ⟨z1, z2, z3, _⟩ := ln hz
 refine ⟨_, hz, z1, by omega, _, hb, ?_⟩
 rw [show E = (E - k) + k by omega, ← cp, z3, kK, show E - k + k - k = E - k by omega]
theorem Bd.add {E M L : Nat} {x y : DQ} (hx : Bd E M x) (hy : Bd E L y) (hE : E ≤ 60) (hM : M + L ≤ 1073741824) : ∃ z, oE x y = some z ∧ Bd E (M + L) z := by
 have hK1 : ae x ≤ max (ae x) (ae y) := Nat.le_max_left ..
 have hK2 : ae y ≤ max (ae x) (ae y) := Nat.le_max_right ..
 have hK3 : max (ae x) (ae y) ≤ E := Nat.max_le.2 ⟨hx.2.1, hy.2.1⟩
 unfold oE
 simp only
 generalize max (ae x) (ae y) = K at *
 obtain ⟨n, n1, n2, n3⟩ := hx.up hK1 hK3
 obtain ⟨m, m1, m2, m3⟩ := hy.up hK2 hK3
 have b : bdz ((M + L : Nat) : Int) (rtn (E - K) (adz (upF x K) (upF y K))) := by
  rw [tt, n2, m2]
  have := nT n1 m1
  rw [show ((M + L : Nat) : Int) = (M : Int) + L by omega]
  exact this
 have v1 : vz (upF x K) = true := (bp _).2 (kb (E - K) (by rw [n2]; exact ax (by omega) n1))
 have v2 : vz (upF y K) = true := (bp _).2 (kb (E - K) (by rw [m2]; exact ax (by omega) m1))
 have v3 : vz (adz (upF x K) (upF y K)) = true := (bp _).2 (kb (E - K) (ax (by omega) b))
 rw [if_pos ⟨⟨v1, v2⟩, v3⟩]
 exact Bd.new (by omega) hK3 hM b
theorem Bd.mul {E F M L : Nat} {x y : DQ} (hx : Bd E M x) (hy : Bd F L y) (hE : E + F ≤ 60) (hM : 4 * (M * L) ≤ 1073741824) : ∃ z, ms x y = some z ∧ Bd (E + F) (4 * (M * L)) z := by
 obtain ⟨n, n1, n2, n3⟩ := hx.up (Nat.le_refl _) hx.2.1
 obtain ⟨m, m1, m2, m3⟩ := hy.up (Nat.le_refl _) hy.2.1
 have ex1 : upF x (ae x) = znm x := by unfold upF; rw [Nat.sub_self]; rfl
 have ey1 : upF y (ae y) = znm y := by unfold upF; rw [Nat.sub_self]; rfl
 rw [ex1] at n2
 rw [ey1] at m2
 have hx2 := hx.2.1
 have hy2 := hy.2.1
 have b : bdz ((4 * (M * L) : Nat) : Int) (rtn (E + F - (ae x + ae y)) (mlz (znm x) (znm y))) := by
  rw [show E + F - (ae x + ae y) = (E - ae x) + (F - ae y) by omega, ← cp, mq, tu, n2, m2]
  exact HH n1 m1
 have v3 : vz (mlz (znm x) (znm y)) = true := (bp _).2 (kb _ (ax (by omega) b))
 unfold ms
 rw [if_pos v3]
 exact Bd.new (by omega) (by omega) hM b
theorem Bd.mono {E M L : Nat} {x : DQ} (h : Bd E M x) (hM : M ≤ L) : Bd E L x := by
 obtain ⟨h1, h2, n, h3, h4⟩ := h
 exact ⟨h1, h2, n, ax (by omega) h3, h4⟩
theorem Bd.zero (E M : Nat) : Bd E M d0 := ⟨Cq, Nat.zero_le _, (0, 0, 0, 0), by unfold bdz; simp, by rw [show znm d0 = (0, 0, 0, 0) from rfl, mt, mt]⟩
theorem Bd.half {E M : Nat} {x : DQ} (h : Bd E M x) (hE : E + 2 ≤ 60) (hM : M ≤ 1073741824) : ∃ z, ms x h2 = some z ∧ Bd (E + 2) M z := by
 obtain ⟨n, n1, n2, n3⟩ := h.up (Nat.le_refl _) h.2.1
 have ex1 : upF x (ae x) = znm x := by unfold upF; rw [Nat.sub_self]; rfl
 rw [ex1] at n2
 have hx2 := h.2.1
 unfold ms
 rw [show znm h2 = (1, 0, 0, 0) from rfl, xK, show ae h2 = 2 from rfl, if_pos ((dy x).1 h.1).1]
 refine Bd.new (by omega) (by omega) hM ?_
 rw [show E + 2 - (ae x + 2) = E - ae x by omega, n2]
 exact n1
def rtD : DQ := (0, 1, 0, -1, 0)
theorem Bd.root {E M : Nat} {x : DQ} (h : Bd E M x) (hE : E ≤ 60) (hM : 2 * M ≤ 1073741824) : ∃ z, ms x rtD = some z ∧ Bd E (2 * M) z := by
 obtain ⟨n, n1, n2, n3⟩ := h.up (Nat.le_refl _) h.2.1
 have ex1 : upF x (ae x) = znm x := by unfold upF; rw [Nat.sub_self]; rfl
 rw [ex1] at n2
 have hx2 := h.2.1
 have er : ∀ y : Z4, mlz y (0, 1, 0, -1) = rt y := fun y => by unfold mlz rt; apply fL <;> simp only <;> omega
 have b : bdz ((2 * M : Nat) : Int) (rtn (E - ae x) (rt (znm x))) := by
  have e : rtn (E - ae x) (rt (znm x)) = rt n := by
   rw [← n2]; exact kK _ 1 _
  rw [e]
  unfold bdz rt at *
  simp only
  omega
 have v : vz (rt (znm x)) = true := (bp _).2 (kb _ (ax (by omega) b))
 unfold ms
 rw [show znm rtD = (0, 1, 0, -1) from rfl, er, show ae rtD = 0 from rfl, if_pos v, Nat.add_zero]
 exact Bd.new (by omega) hx2 hM b
abbrev Q4 := Int × Int × Int × Int
theorem w64 {x : Int} (h1 : -9223372036854775808 ≤ x) (h2 : x < 9223372036854775808) : IntKind.wrap .i64 x = x := IntWalk.i64_in _ (by omega)
theorem cn {k n : Nat} (h : k < n) (hn : n ≤ 4194304) : IntKind.wrap .i64 ((k : Int) + 1) = ((k + 1 : Nat) : Int) := by rw [w64 (by omega) (by omega)]; omega
theorem kL {α : Type} {l : List α} {k : Nat} {q : α} (h : l[k]? = some q) : ak l (k : Int) = some q := by
 have hk : k < l.length := by
  rcases Nat.lt_or_ge k l.length with h' | h'
  ·exact h'
  ·rw [List.getElem?_eq_none h'] at h; cases h
 unfold ak
 rw [if_pos ⟨by omega, by omega⟩, Int.toNat_natCast, h]
theorem bB {α : Type} {l : List α} {k : Nat} (h : k < l.length) : ak l (k : Int) = some l[k] := kL (List.getElem?_eq_getElem h)
theorem vD (L : Nat → Int → Option Bool) (n : Nat) (f : Nat → Bool) (hs : ∀ m k, k < n → L (m + 1) (k : Int) = br (f k) (L m ((k + 1 : Nat) : Int)) (some false)) (c : Option Bool) (he : ∀ m, L (m + 1) (n : Int) = c) :
  ∀ m k, k ≤ n → n - k < m → L m (k : Int) = br ((List.range' k (n - k)).all f) c (some false)
 | 0, k, _, h => by omega
 | m + 1, k, hk, h => by
  by_cases e : k = n
  ·subst e; rw [he, Nat.sub_self]; rfl
  ·rw [hs m k (by omega), vD L n f hs c he m (k + 1) (by omega) (by omega), show n - k = (n - (k + 1)) + 1 by omega, List.range'_succ, List.all_cons]
   cases f k <;> rfl
theorem bP : FU = 4194304 := rfl
theorem tM (L : Nat → Int → Option Bool) (n : Nat) (f : Nat → Bool) (hn : n ≤ 4000000) (hs : ∀ m k, k < n → L (m + 1) (k : Int) = br (f k) (L m ((k + 1 : Nat) : Int)) (some false)) (c : Option Bool) (he : ∀ m, L (m + 1) (n : Int) = c) :
  L FU 0 = br ((List.range n).all f) c (some false) := by
 have := vD L n f hs c he FU 0 (by omega) (by rw [bP]; omega)
 rw [Nat.sub_zero, ← List.range_eq_range'] at this
 exact this
theorem jA (x lo hi : Int) : ku x lo hi = some (decide (lo ≤ x ∧ x ≤ hi)) := by
 unfold ku rJ
 by_cases h1 : lo ≤ x <;> by_cases h2 : x ≤ hi <;> simp [br, bO, h1, h2]
theorem bx (x lo hi : Int) : cH x lo hi = some (decide (lo ≤ x ∧ x ≤ hi)) := by
 unfold cH oX
 by_cases h1 : lo ≤ x <;> by_cases h2 : x ≤ hi <;> simp [br, bO, h1, h2]
def vP (q : Q4) : Bool := decide ((1 ≤ q.1 ∧ q.1 ≤ 4) ∧ (0 ≤ q.2.1 ∧ q.2.1 < 2 ^ q.1.toNat) ∧ (0 ≤ q.2.2.1 ∧ q.2.2.1 < 2 ^ q.1.toNat) ∧ (0 ≤ q.2.2.2 ∧ q.2.2.2 ≤ 3))
theorem tv {n x z p : Int} : vP (n, x, z, p) = true ↔ (1 ≤ n ∧ n ≤ 4) ∧ (0 ≤ x ∧ x < 2 ^ n.toNat) ∧ (0 ≤ z ∧ z < 2 ^ n.toNat) ∧ (0 ≤ p ∧ p ≤ 3) := by simp [vP]
theorem sa {n : Int} (h : 1 ≤ n ∧ n ≤ 4) : n = 1 ∨ n = 2 ∨ n = 3 ∨ n = 4 := by omega
theorem tw {β : Type} (b c : Bool) (k : Bool → Option β) : bO (br b (some c) (some false)) k = k (b && c) := by cases b <;> rfl
theorem mC {β : Type} (b c : Bool) (k : Bool → Option β) : bO (br b (some true) (some c)) k = k (b || c) := by cases b <;> rfl
def pc (x : Int) : Int := ((x.toNat % 2 + x.toNat / 2 % 2 + x.toNat / 4 % 2 + x.toNat / 8 % 2 : Nat) : Int)
def an (x y : Int) : Int := ((x.toNat &&& y.toNat : Nat) : Int)
def xo (x y : Int) : Int := ((x.toNat ^^^ y.toNat : Nat) : Int)
def Sm (x : Int) : Prop := 0 ≤ x ∧ x < 16
theorem Sm.fin {x : Int} (h : Sm x) : ∃ k : Fin 16, x = (k.val : Int) := ⟨⟨x.toNat, by have := h.1; have := h.2; omega⟩, by have := h.1; show x = (x.toNat : Int); omega⟩
theorem KP (x : Int) : 0 ≤ pc x ∧ pc x ≤ 4 := by unfold pc; omega
theorem JB {n : Int} (h : 1 ≤ n ∧ n ≤ 4) : (2 : Int) ^ n.toNat ≤ 16 := by rcases sa h with rfl | rfl | rfl | rfl <;> decide
theorem Cr {n x z p : Int} (h : vP (n, x, z, p) = true) : Sm x ∧ Sm z ∧ (0 ≤ p ∧ p ≤ 3) := by
 obtain ⟨h1, h2, h3, h4⟩ := tv.1 h
 have := JB h1
 exact ⟨⟨h2.1, by omega⟩, ⟨h3.1, by omega⟩, h4⟩
def hP (q : Q4) : Bool := vP q && decide ((q.2.2.2 + pc (an q.2.1 q.2.2.1)) % 2 = 0)
def cP (a b : Q4) : Bool := decide ((pc (an a.2.1 b.2.2.1) + pc (an a.2.2.1 b.2.1)) % 2 = 0)
def A4 (N : Int) (l : List Q4) (k : Nat) : Bool := match l[k]? with
 | some q => (q.1 == N) && (hP q && (List.range k).all fun i => match l[i]? with
   | some r => !(cP r q == decide ((k : Int) = (i : Int) + N))
   | none => false)
 | none => false
def tB (N : Int) (l : List Q4) : Bool := decide (1 ≤ N ∧ N ≤ 4) && (decide ((l.length : Int) = 2 * N) && (List.range l.length).all (A4 N l))
theorem tm2 (x : Int) : (Int.tmod x 2 != 0) = !(x % 2 == 0) := by
 have h := Int.tmod_eq_emod (a := x) (b := 2)
 rw [Bool.eq_iff_iff]
 simp only [bne_iff_ne, ne_eq, Bool.not_eq_true', beq_eq_false_iff_ne]
 rw [h]
 split <;> omega
theorem td2 {x : Int} (h : x % 2 = 0) : Int.tdiv x 2 = x / 2 := by
 rw [Int.tdiv_eq_ediv_of_dvd (by omega)]
def dvF (x : Z4) : Int × Int × Int × Int × Bool := if vz x = true ∧ dvb x = true then ((dvh x).1, (dvh x).2.1, (dvh x).2.2.1, (dvh x).2.2.2, true) else (0, 0, 0, 0, false)
def res (o : Option DQ) : Int × Int × Int × Int × Int × Bool := match o with
 | some z => (z.1, z.2.1, z.2.2.1, z.2.2.2.1, z.2.2.2.2, true)
 | none => (0, 0, 0, 0, 0, false)
def oF (o : Option Z4) : Int × Int × Int × Int × Bool := match o with
 | some z => (z.1, z.2.1, z.2.2.1, z.2.2.2, true)
 | none => (0, 0, 0, 0, false)
theorem wmm {p q r s : Int} (hp : -((1073741824 * 1073741824 : Nat) : Int) ≤ p ∧ p ≤ ((1073741824 * 1073741824 : Nat) : Int)) (hq : -((1073741824 * 1073741824 : Nat) : Int) ≤ q ∧ q ≤ ((1073741824 * 1073741824 : Nat) : Int)) (hr : -((1073741824 * 1073741824 : Nat) : Int) ≤ r ∧ r ≤ ((1073741824 * 1073741824 : Nat) : Int)) (hs : -((1073741824 * 1073741824 : Nat) : Int) ≤ s ∧ s ≤ ((1073741824 * 1073741824 : Nat) : Int)) :
  IntKind.wrap .i64 ((IntKind.wrap .i64 ((IntKind.wrap .i64 ((IntKind.wrap .i64 p) - (IntKind.wrap .i64 q))) - (IntKind.wrap .i64 r))) - (IntKind.wrap .i64 s)) = p - q - r - s := by
 rw [w64 (x := p) (by omega) (by omega), w64 (x := q) (by omega) (by omega), w64 (x := r) (by omega) (by omega), w64 (x := s) (by omega) (by omega), w64 (x := p - q) (by omega) (by omega), w64 (x := p - q - r) (by omega) (by omega), w64 (by omega) (by omega)]
theorem KQ {p q r s : Int} (hp : -((1073741824 * 1073741824 : Nat) : Int) ≤ p ∧ p ≤ ((1073741824 * 1073741824 : Nat) : Int)) (hq : -((1073741824 * 1073741824 : Nat) : Int) ≤ q ∧ q ≤ ((1073741824 * 1073741824 : Nat) : Int)) (hr : -((1073741824 * 1073741824 : Nat) : Int) ≤ r ∧ r ≤ ((1073741824 * 1073741824 : Nat) : Int)) (hs : -((1073741824 * 1073741824 : Nat) : Int) ≤ s ∧ s ≤ ((1073741824 * 1073741824 : Nat) : Int)) :
  IntKind.wrap .i64 ((IntKind.wrap .i64 ((IntKind.wrap .i64 ((IntKind.wrap .i64 p) + (IntKind.wrap .i64 q))) - (IntKind.wrap .i64 r))) - (IntKind.wrap .i64 s)) = p + q - r - s := by
 rw [w64 (x := p) (by omega) (by omega), w64 (x := q) (by omega) (by omega), w64 (x := r) (by omega) (by omega), w64 (x := s) (by omega) (by omega), w64 (x := p + q) (by omega) (by omega), w64 (x := p + q - r) (by omega) (by omega), w64 (by omega) (by omega)]
theorem KR {p q r s : Int} (hp : -((1073741824 * 1073741824 : Nat) : Int) ≤ p ∧ p ≤ ((1073741824 * 1073741824 : Nat) : Int)) (hq : -((1073741824 * 1073741824 : Nat) : Int) ≤ q ∧ q ≤ ((1073741824 * 1073741824 : Nat) : Int)) (hr : -((1073741824 * 1073741824 : Nat) : Int) ≤ r ∧ r ≤ ((1073741824 * 1073741824 : Nat) : Int)) (hs : -((1073741824 * 1073741824 : Nat) : Int) ≤ s ∧ s ≤ ((1073741824 * 1073741824 : Nat) : Int)) :
  IntKind.wrap .i64 ((IntKind.wrap .i64 ((IntKind.wrap .i64 ((IntKind.wrap .i64 p) + (IntKind.wrap .i64 q))) + (IntKind.wrap .i64 r))) - (IntKind.wrap .i64 s)) = p + q + r - s := by
 rw [w64 (x := p) (by omega) (by omega), w64 (x := q) (by omega) (by omega), w64 (x := r) (by omega) (by omega), w64 (x := s) (by omega) (by omega), w64 (x := p + q) (by omega) (by omega), w64 (x := p + q + r) (by omega) (by omega), w64 (by omega) (by omega)]
theorem wpp {p q r s : Int} (hp : -((1073741824 * 1073741824 : Nat) : Int) ≤ p ∧ p ≤ ((1073741824 * 1073741824 : Nat) : Int)) (hq : -((1073741824 * 1073741824 : Nat) : Int) ≤ q ∧ q ≤ ((1073741824 * 1073741824 : Nat) : Int)) (hr : -((1073741824 * 1073741824 : Nat) : Int) ≤ r ∧ r ≤ ((1073741824 * 1073741824 : Nat) : Int)) (hs : -((1073741824 * 1073741824 : Nat) : Int) ≤ s ∧ s ≤ ((1073741824 * 1073741824 : Nat) : Int)) :
  IntKind.wrap .i64 ((IntKind.wrap .i64 ((IntKind.wrap .i64 ((IntKind.wrap .i64 p) + (IntKind.wrap .i64 q))) + (IntKind.wrap .i64 r))) + (IntKind.wrap .i64 s)) = p + q + r + s := by
 rw [w64 (x := p) (by omega) (by omega), w64 (x := q) (by omega) (by omega), w64 (x := r) (by omega) (by omega), w64 (x := s) (by omega) (by omega), w64 (x := p + q) (by omega) (by omega), w64 (x := p + q + r) (by omega) (by omega), w64 (by omega) (by omega)]
theorem sG (x : Z4) : ay x.1 x.2.1 x.2.2.1 x.2.2.2 = some (vz x) := by
 unfold ay eh
 simp only [jA, aC, tw]
 unfold vz
 simp only [Bool.and_assoc]
theorem KS (x : Z4) : jY x.1 x.2.1 x.2.2.1 x.2.2.2 = some (dvF x) := by
 unfold jY
 rw [sG, aC]
 simp only [mC, jl]
 cases hv : vz x with
 | false =>
  simp only [Bool.not_false, Bool.true_or, aS]
  unfold dvF
  rw [if_neg (by rw [hv]; simp)]
 | true =>
  obtain ⟨b1, b2, b3, b4⟩ := (bp x).1 hv
  rw [w64 (x := x.2.1 - x.2.2.2) (by omega) (by omega), w64 (x := x.1 + x.2.2.1) (by omega) (by omega), w64 (x := x.2.1 + x.2.2.2) (by omega) (by omega), w64 (x := x.2.2.1 - x.1) (by omega) (by omega)]
  simp only [Bool.not_true, Bool.false_or, tm2]
  have e : (((!((x.2.1 - x.2.2.2) % 2 == 0) || !((x.1 + x.2.2.1) % 2 == 0)) || !((x.2.1 + x.2.2.2) % 2 == 0)) || !((x.2.2.1 - x.1) % 2 == 0)) = !(dvb x) := by
   unfold dvb ev4 rt
   simp only [Bool.not_and, Bool.or_assoc]
  rw [e]
  unfold dvF
  cases hd : dvb x with
  | false => simp only [Bool.not_false, aS]; rw [if_neg (by simp)]
  | true =>
   simp only [Bool.not_true, aF]
   rw [if_pos ⟨hv, by trivial⟩]
   unfold dvb at hd
   rw [lD] at hd
   obtain ⟨d1, d2, d3, d4⟩ := hd
   unfold rt at d1 d2 d3 d4
   simp only at d1 d2 d3 d4
   rw [td2 d1, td2 d2, td2 d3, td2 d4, w64 (x := (x.2.1 - x.2.2.2) / 2) (by omega) (by omega), w64 (x := (x.1 + x.2.2.1) / 2) (by omega) (by omega), w64 (x := (x.2.1 + x.2.2.2) / 2) (by omega) (by omega), w64 (x := (x.2.2.1 - x.1) / 2) (by omega) (by omega)]
   rfl
theorem vE (x : DQ) : bU x.1 x.2.1 x.2.2.1 x.2.2.2.1 x.2.2.2.2 = some (vd x) := by
 unfold bU eo
 have h1 := KS (znm x)
 have h2 := sG (znm x)
 unfold znm at h1 h2
 simp only at h1 h2
 rw [h1, aC, h2, aC]
 simp only [jA, aC, tw, mC]
 have e : (dvF (x.1, x.2.1, x.2.2.1, x.2.2.2.1)).2.2.2.2 = (vz (x.1, x.2.1, x.2.2.1, x.2.2.2.1) && dvb (x.1, x.2.1, x.2.2.1, x.2.2.2.1)) := by
  unfold dvF
  cases vz (x.1, x.2.1, x.2.2.1, x.2.2.2.1) <;> cases dvb (x.1, x.2.1, x.2.2.1, x.2.2.2.1) <;> rfl
 rw [e]
 unfold vd znm zex
 cases vz (x.1, x.2.1, x.2.2.1, x.2.2.2.1) <;> cases dvb (x.1, x.2.1, x.2.2.1, x.2.2.2.1) <;> cases (x.2.2.2.2 == 0) <;> cases decide (0 ≤ x.2.2.2.2 ∧ x.2.2.2.2 ≤ 60) <;> rfl
theorem sH : ∀ (m k : Nat) (n : Z4), vz n = true → k < m → k ≤ 120 → dA m k n.1 n.2.1 n.2.2.1 n.2.2.2 = eR ((nd k n).2 : Int) (nd k n).1.1 (nd k n).1.2.1 (nd k n).1.2.2.1 (nd k n).1.2.2.2
 | 0, k, n, _, h, _ => by omega
 | m + 1, 0, n, hv, h, _ => by
  rw [dA]
  rfl
 | m + 1, k + 1, n, hv, h, hk => by
  rw [dA]
  have hlt : decide (0 < ((k + 1 : Nat) : Int)) = true := decide_eq_true (by omega)
  rw [hlt, aS, KS, aC]
  cases hd : dvb n with
  | false =>
   have e1 : dvF n = (0, 0, 0, 0, false) := by unfold dvF; rw [if_neg (by rw [hd]; simp)]
   have e2 : nd (k + 1) n = (n, k + 1) := by unfold nd; rw [hd]; rfl
   rw [e1, e2]
   rfl
  | true =>
   have e1 : dvF n = ((dvh n).1, (dvh n).2.1, (dvh n).2.2.1, (dvh n).2.2.2, true) := by unfold dvF; rw [if_pos ⟨hv, hd⟩]
   have e2 : nd (k + 1) n = nd k (dvh n) := by rw [nd, if_pos hd]
   have hw : IntKind.wrap .i64 (((k + 1 : Nat) : Int) - 1) = (k : Int) := by rw [w64 (by omega) (by omega)]; omega
   rw [e1, e2]
   simp only [Bool.not_true, aF, hw]
   exact sH m k (dvh n) ((bp _).2 (xJ hd ((bp n).1 hv))) (by omega) (by omega)
theorem Hu (n : Z4) (k : Int) (hk : 0 ≤ k ∧ k ≤ 120) : iH n.1 n.2.1 n.2.2.1 n.2.2.2 k = some (res (oD n k.toNat)) := by
 unfold iH
 rw [sG, aC]
 have hin : decide (0 ≤ k ∧ k ≤ 120) = true := decide_eq_true hk
 simp only [jA, aC, mC, hin, Bool.not_true, Bool.or_false, ib]
 cases hv : vz n with
 | false =>
  simp only [Bool.not_false, aS]
  unfold oD
  rw [if_neg (by rw [hv]; simp)]
  rfl
 | true =>
  simp only [Bool.not_true, aF]
  have e : ((k.toNat : Nat) : Int) = k := by omega
  have := sH FU k.toNat n hv (by rw [bP]; omega) (by omega)
  rw [e] at this
  rw [this]
  unfold eR oD
  by_cases h60 : (nd k.toNat n).2 ≤ 60
  ·have : decide (60 < ((nd k.toNat n).2 : Int)) = false := decide_eq_false (by omega)
   rw [this, aF, if_pos ⟨hv, h60⟩]
   rfl
  ·have : decide (60 < ((nd k.toNat n).2 : Int)) = true := decide_eq_true (by omega)
   rw [this, aS, if_neg (fun h => h60 h.2)]
   rfl
theorem Cs (x y : Z4) : fc x.1 x.2.1 x.2.2.1 x.2.2.2 y.1 y.2.1 y.2.2.1 y.2.2.2 = some (oF (if vz x = true ∧ vz y = true ∧ vz (mlz x y) = true then some (mlz x y) else none)) := by
 unfold fc
 rw [sG, aC]
 simp only [sG, aC, mC, ie]
 by_cases hxy : vz x = true ∧ vz y = true
 ·obtain ⟨hx, hy⟩ := hxy
  obtain ⟨x1, x2, x3, x4⟩ := (bp x).1 hx
  obtain ⟨y1, y2, y3, y4⟩ := (bp y).1 hy
  have a1 := bA (M := 1073741824) (L := 1073741824) x1 y1; have a2 := bA (M := 1073741824) (L := 1073741824) x1 y2; have a3 := bA (M := 1073741824) (L := 1073741824) x1 y3; have a4 := bA (M := 1073741824) (L := 1073741824) x1 y4
  have b1 := bA (M := 1073741824) (L := 1073741824) x2 y1; have b2 := bA (M := 1073741824) (L := 1073741824) x2 y2; have b3 := bA (M := 1073741824) (L := 1073741824) x2 y3; have b4 := bA (M := 1073741824) (L := 1073741824) x2 y4
  have c1 := bA (M := 1073741824) (L := 1073741824) x3 y1; have c2 := bA (M := 1073741824) (L := 1073741824) x3 y2; have c3 := bA (M := 1073741824) (L := 1073741824) x3 y3; have c4 := bA (M := 1073741824) (L := 1073741824) x3 y4
  have d1 := bA (M := 1073741824) (L := 1073741824) x4 y1; have d2 := bA (M := 1073741824) (L := 1073741824) x4 y2; have d3 := bA (M := 1073741824) (L := 1073741824) x4 y3; have d4 := bA (M := 1073741824) (L := 1073741824) x4 y4
  rw [wmm a1 b4 c3 d2, KQ a2 b1 c4 d3, KR a3 b2 c1 d4, wpp a4 b3 c2 d1, hx, hy]
  simp only [Bool.not_true, Bool.or_self, aF]
  unfold lP
  have hc := sG (mlz x y)
  unfold mlz at hc
  simp only at hc
  rw [hc, aC]
  have e : vz (mlz x y) = vz (x.1 * y.1 - x.2.1 * y.2.2.2 - x.2.2.1 * y.2.2.1 - x.2.2.2 * y.2.1, x.1 * y.2.1 + x.2.1 * y.1 - x.2.2.1 * y.2.2.2 - x.2.2.2 * y.2.2.1, x.1 * y.2.2.1 + x.2.1 * y.2.1 + x.2.2.1 * y.1 - x.2.2.2 * y.2.2.2, x.1 * y.2.2.2 + x.2.1 * y.2.2.1 + x.2.2.1 * y.2.1 + x.2.2.2 * y.1) := rfl
  rw [← e]
  cases hm : vz (mlz x y) with
  | false =>
   rw [if_neg (by rintro ⟨_, _, h⟩; cases h)]
   rfl
  | true =>
   rw [if_pos ⟨by trivial, by trivial, by trivial⟩]
   rfl
 ·rw [if_neg (fun h => hxy ⟨h.1, h.2.1⟩)]
  have : (!vz x || !vz y) = true := by
   cases hx : vz x with
   | false => rfl
   | true => cases hy : vz y with
    | false => rfl
    | true => exact absurd ⟨hx, hy⟩ hxy
  rw [this]
  rfl
theorem JC (x y : Z4) : kC x.1 x.2.1 x.2.2.1 x.2.2.2 y.1 y.2.1 y.2.2.1 y.2.2.2 = some (oF (if vz x = true ∧ vz y = true ∧ vz (adz x y) = true then some (adz x y) else none)) := by
 unfold kC
 rw [sG, aC]
 simp only [sG, aC, mC, ii]
 by_cases hxy : vz x = true ∧ vz y = true
 ·obtain ⟨hx, hy⟩ := hxy
  obtain ⟨x1, x2, x3, x4⟩ := (bp x).1 hx
  obtain ⟨y1, y2, y3, y4⟩ := (bp y).1 hy
  rw [w64 (x := x.1 + y.1) (by omega) (by omega), w64 (x := x.2.1 + y.2.1) (by omega) (by omega), w64 (x := x.2.2.1 + y.2.2.1) (by omega) (by omega), w64 (x := x.2.2.2 + y.2.2.2) (by omega) (by omega), hx, hy]
  simp only [Bool.not_true, Bool.or_self, aF]
  unfold lP
  have hc := sG (adz x y)
  have e : vz (adz x y) = vz (x.1 + y.1, x.2.1 + y.2.1, x.2.2.1 + y.2.2.1, x.2.2.2 + y.2.2.2) := rfl
  unfold adz at hc
  simp only at hc
  rw [hc, aC, ← e]
  cases hm : vz (adz x y) with
  | false =>
   rw [if_neg (by rintro ⟨_, _, h⟩; cases h)]
   rfl
  | true =>
   rw [if_pos ⟨by trivial, by trivial, by trivial⟩]
   rfl
 ·rw [if_neg (fun h => hxy ⟨h.1, h.2.1⟩)]
  have : (!vz x || !vz y) = true := by
   cases hx : vz x with
   | false => rfl
   | true => cases hy : vz y with
    | false => rfl
    | true => exact absurd ⟨hx, hy⟩ hxy
  rw [this]
  rfl
theorem tx (x : Z4) : bG x.1 x.2.1 x.2.2.1 x.2.2.2 = some (vz x) := by
 unfold bG ej lZ
 simp only [bx, aC, tw]
 unfold vz
 simp only [Bool.and_assoc]
theorem KT (x : Z4) : jZ x.1 x.2.1 x.2.2.1 x.2.2.2 = some (dvF x) := by
 unfold jZ
 rw [tx, aC]
 simp only [mC, jm]
 cases hv : vz x with
 | false =>
  simp only [Bool.not_false, aS]
  unfold dvF
  rw [if_neg (by rw [hv]; simp)]
 | true =>
  obtain ⟨b1, b2, b3, b4⟩ := (bp x).1 hv
  rw [w64 (x := x.2.1 - x.2.2.2) (by omega) (by omega), w64 (x := x.1 + x.2.2.1) (by omega) (by omega), w64 (x := x.2.1 + x.2.2.2) (by omega) (by omega), w64 (x := x.2.2.1 - x.1) (by omega) (by omega)]
  simp only [Bool.not_true, aF, tm2]
  have e : (((!((x.2.1 - x.2.2.2) % 2 == 0) || !((x.1 + x.2.2.1) % 2 == 0)) || !((x.2.1 + x.2.2.2) % 2 == 0)) || !((x.2.2.1 - x.1) % 2 == 0)) = !(dvb x) := by
   unfold dvb ev4 rt
   simp only [Bool.not_and, Bool.or_assoc]
  rw [e]
  unfold dvF
  cases hd : dvb x with
  | false => simp only [Bool.not_false, aS]; rw [if_neg (by simp)]
  | true =>
   simp only [Bool.not_true, aF]
   rw [if_pos ⟨hv, by trivial⟩]
   unfold dvb at hd
   rw [lD] at hd
   obtain ⟨d1, d2, d3, d4⟩ := hd
   unfold rt at d1 d2 d3 d4
   simp only at d1 d2 d3 d4
   rw [td2 d1, td2 d2, td2 d3, td2 d4, w64 (x := (x.2.1 - x.2.2.2) / 2) (by omega) (by omega), w64 (x := (x.1 + x.2.2.1) / 2) (by omega) (by omega), w64 (x := (x.2.1 + x.2.2.2) / 2) (by omega) (by omega), w64 (x := (x.2.2.1 - x.1) / 2) (by omega) (by omega)]
   rfl
theorem Ct (x : DQ) : cE x.1 x.2.1 x.2.2.1 x.2.2.2.1 x.2.2.2.2 = some (vd x) := by
 unfold cE eq
 have h1 := KT (znm x)
 have h2 := tx (znm x)
 unfold znm at h1 h2
 simp only at h1 h2
 rw [h1, aC, h2, aC]
 simp only [bx, aC, tw, mC]
 have e : (dvF (x.1, x.2.1, x.2.2.1, x.2.2.2.1)).2.2.2.2 = (vz (x.1, x.2.1, x.2.2.1, x.2.2.2.1) && dvb (x.1, x.2.1, x.2.2.1, x.2.2.2.1)) := by
  unfold dvF
  cases vz (x.1, x.2.1, x.2.2.1, x.2.2.2.1) <;> cases dvb (x.1, x.2.1, x.2.2.1, x.2.2.2.1) <;> rfl
 rw [e]
 unfold vd znm zex
 cases vz (x.1, x.2.1, x.2.2.1, x.2.2.2.1) <;> cases dvb (x.1, x.2.1, x.2.2.1, x.2.2.2.1) <;> cases (x.2.2.2.2 == 0) <;> cases decide (0 ≤ x.2.2.2.2 ∧ x.2.2.2.2 ≤ 60) <;> rfl
theorem sI : ∀ (m k : Nat) (n : Z4), vz n = true → k < m → k ≤ 120 → dB m k n.1 n.2.1 n.2.2.1 n.2.2.2 = eS ((nd k n).2 : Int) (nd k n).1.1 (nd k n).1.2.1 (nd k n).1.2.2.1 (nd k n).1.2.2.2
 | 0, k, n, _, h, _ => by omega
 | m + 1, 0, n, hv, h, _ => by
  rw [dB]
  rfl
 | m + 1, k + 1, n, hv, h, hk => by
  rw [dB]
  have hlt : decide (0 < ((k + 1 : Nat) : Int)) = true := decide_eq_true (by omega)
  rw [hlt, aS, KT, aC]
  cases hd : dvb n with
  | false =>
   have e1 : dvF n = (0, 0, 0, 0, false) := by unfold dvF; rw [if_neg (by rw [hd]; simp)]
   have e2 : nd (k + 1) n = (n, k + 1) := by unfold nd; rw [hd]; rfl
   rw [e1, e2]
   rfl
  | true =>
   have e1 : dvF n = ((dvh n).1, (dvh n).2.1, (dvh n).2.2.1, (dvh n).2.2.2, true) := by unfold dvF; rw [if_pos ⟨hv, hd⟩]
   have e2 : nd (k + 1) n = nd k (dvh n) := by rw [nd, if_pos hd]
   have hw : IntKind.wrap .i64 (((k + 1 : Nat) : Int) - 1) = (k : Int) := by rw [w64 (by omega) (by omega)]; omega
   rw [e1, e2]
   simp only [Bool.not_true, aF, hw]
   exact sI m k (dvh n) ((bp _).2 (xJ hd ((bp n).1 hv))) (by omega) (by omega)
theorem Hv (n : Z4) (k : Int) (hk : 0 ≤ k ∧ k ≤ 120) : iI n.1 n.2.1 n.2.2.1 n.2.2.2 k = some (res (oD n k.toNat)) := by
 unfold iI
 rw [tx, aC]
 have hin : decide (0 ≤ k ∧ k ≤ 120) = true := decide_eq_true hk
 simp only [bx, aC, mC, hin, Bool.not_true, Bool.or_false, ic]
 cases hv : vz n with
 | false =>
  simp only [Bool.not_false, aS]
  unfold oD
  rw [if_neg (by rw [hv]; simp)]
  rfl
 | true =>
  simp only [Bool.not_true, aF]
  have e : ((k.toNat : Nat) : Int) = k := by omega
  have := sI FU k.toNat n hv (by rw [bP]; omega) (by omega)
  rw [e] at this
  rw [this]
  unfold eS oD
  by_cases h60 : (nd k.toNat n).2 ≤ 60
  ·have : decide (60 < ((nd k.toNat n).2 : Int)) = false := decide_eq_false (by omega)
   rw [this, aF, if_pos ⟨hv, h60⟩]
   rfl
  ·have : decide (60 < ((nd k.toNat n).2 : Int)) = true := decide_eq_true (by omega)
   rw [this, aS, if_neg (fun h => h60 h.2)]
   rfl
theorem Cu (x y : Z4) : fd x.1 x.2.1 x.2.2.1 x.2.2.2 y.1 y.2.1 y.2.2.1 y.2.2.2 = some (oF (if vz x = true ∧ vz y = true ∧ vz (mlz x y) = true then some (mlz x y) else none)) := by
 unfold fd
 rw [tx, aC]
 simp only [tx, aC, mC, ig]
 by_cases hxy : vz x = true ∧ vz y = true
 ·obtain ⟨hx, hy⟩ := hxy
  obtain ⟨x1, x2, x3, x4⟩ := (bp x).1 hx
  obtain ⟨y1, y2, y3, y4⟩ := (bp y).1 hy
  have a1 := bA (M := 1073741824) (L := 1073741824) x1 y1; have a2 := bA (M := 1073741824) (L := 1073741824) x1 y2; have a3 := bA (M := 1073741824) (L := 1073741824) x1 y3; have a4 := bA (M := 1073741824) (L := 1073741824) x1 y4
  have b1 := bA (M := 1073741824) (L := 1073741824) x2 y1; have b2 := bA (M := 1073741824) (L := 1073741824) x2 y2; have b3 := bA (M := 1073741824) (L := 1073741824) x2 y3; have b4 := bA (M := 1073741824) (L := 1073741824) x2 y4
  have c1 := bA (M := 1073741824) (L := 1073741824) x3 y1; have c2 := bA (M := 1073741824) (L := 1073741824) x3 y2; have c3 := bA (M := 1073741824) (L := 1073741824) x3 y3; have c4 := bA (M := 1073741824) (L := 1073741824) x3 y4
  have d1 := bA (M := 1073741824) (L := 1073741824) x4 y1; have d2 := bA (M := 1073741824) (L := 1073741824) x4 y2; have d3 := bA (M := 1073741824) (L := 1073741824) x4 y3; have d4 := bA (M := 1073741824) (L := 1073741824) x4 y4
  rw [wmm a1 b4 c3 d2, KQ a2 b1 c4 d3, KR a3 b2 c1 d4, wpp a4 b3 c2 d1, hx, hy]
  simp only [Bool.not_true, Bool.or_self, aF]
  unfold qX
  have hc := tx (mlz x y)
  unfold mlz at hc
  simp only at hc
  rw [hc, aC]
  have e : vz (mlz x y) = vz (x.1 * y.1 - x.2.1 * y.2.2.2 - x.2.2.1 * y.2.2.1 - x.2.2.2 * y.2.1, x.1 * y.2.1 + x.2.1 * y.1 - x.2.2.1 * y.2.2.2 - x.2.2.2 * y.2.2.1, x.1 * y.2.2.1 + x.2.1 * y.2.1 + x.2.2.1 * y.1 - x.2.2.2 * y.2.2.2, x.1 * y.2.2.2 + x.2.1 * y.2.2.1 + x.2.2.1 * y.2.1 + x.2.2.2 * y.1) := rfl
  rw [← e]
  cases hm : vz (mlz x y) with
  | false =>
   rw [if_neg (by rintro ⟨_, _, h⟩; cases h)]
   rfl
  | true =>
   rw [if_pos ⟨by trivial, by trivial, by trivial⟩]
   rfl
 ·rw [if_neg (fun h => hxy ⟨h.1, h.2.1⟩)]
  have : (!vz x || !vz y) = true := by
   cases hx : vz x with
   | false => rfl
   | true => cases hy : vz y with
    | false => rfl
    | true => exact absurd ⟨hx, hy⟩ hxy
  rw [this]
  rfl
theorem Cv (x y : Z4) : iJ x.1 x.2.1 x.2.2.1 x.2.2.2 y.1 y.2.1 y.2.2.1 y.2.2.2 = some (oF (if vz x = true ∧ vz y = true ∧ vz (adz x y) = true then some (adz x y) else none)) := by
 unfold iJ
 rw [tx, aC]
 simp only [tx, aC, mC, ij]
 by_cases hxy : vz x = true ∧ vz y = true
 ·obtain ⟨hx, hy⟩ := hxy
  obtain ⟨x1, x2, x3, x4⟩ := (bp x).1 hx
  obtain ⟨y1, y2, y3, y4⟩ := (bp y).1 hy
  rw [w64 (x := x.1 + y.1) (by omega) (by omega), w64 (x := x.2.1 + y.2.1) (by omega) (by omega), w64 (x := x.2.2.1 + y.2.2.1) (by omega) (by omega), w64 (x := x.2.2.2 + y.2.2.2) (by omega) (by omega), hx, hy]
  simp only [Bool.not_true, Bool.or_self, aF]
  unfold qX
  have hc := tx (adz x y)
  have e : vz (adz x y) = vz (x.1 + y.1, x.2.1 + y.2.1, x.2.2.1 + y.2.2.1, x.2.2.2 + y.2.2.2) := rfl
  unfold adz at hc
  simp only at hc
  rw [hc, aC, ← e]
  cases hm : vz (adz x y) with
  | false =>
   rw [if_neg (by rintro ⟨_, _, h⟩; cases h)]
   rfl
  | true =>
   rw [if_pos ⟨by trivial, by trivial, by trivial⟩]
   rfl
 ·rw [if_neg (fun h => hxy ⟨h.1, h.2.1⟩)]
  have : (!vz x || !vz y) = true := by
   cases hx : vz x with
   | false => rfl
   | true => cases hy : vz y with
    | false => rfl
    | true => exact absurd ⟨hx, hy⟩ hxy
  rw [this]
  rfl
theorem Cw (x : Z4) : mlz x (0, 1, 0, -1) = rt x := by unfold mlz rt; apply fL <;> simp only <;> omega
theorem Cx (k : Nat) (x : Z4) : rtn (k + 1) x = rtn k (rt x) := by rw [show rtn (k + 1) x = rt (rtn k x) from rfl]; exact kK 1 k x
theorem Hw {k : Nat} {x : Z4} (h : vz (rt x) = false) : vz (rtn (k + 1) x) = false := by
 rw [Bool.eq_false_iff]
 intro e
 rw [Cx] at e
 have := (bp _).2 (kb k ((bp _).1 e))
 rw [h] at this
 cases this
def upz (n : Z4) (k : Nat) : Option Z4 := if vz (rtn k n) = true then some (rtn k n) else none
theorem tN (t : Nat) : ∀ (m i : Nat) (n : Z4), i ≤ t → t - i < m → t ≤ 1000 → vz n = true → ja (t : Int) m i n.1 n.2.1 n.2.2.1 n.2.2.2 = some (oF (upz n (t - i)))
 | 0, i, n, _, h, _, _ => by omega
 | m + 1, i, n, hi, h, ht, hv => by
  rw [ja]
  by_cases e : i = t
  ·have hlt : decide ((i : Int) < (t : Int)) = false := decide_eq_false (by omega)
   rw [hlt, aF, e, Nat.sub_self]
   unfold upz
   rw [if_pos (show vz (rtn 0 n) = true from hv)]
   rfl
  ·have hlt : decide ((i : Int) < (t : Int)) = true := decide_eq_true (by omega)
   have hm := Cu n (0, 1, 0, -1)
   simp only at hm
   rw [hlt, aS, hm, aC, Cw, w64 (by omega) (by omega), show (i : Int) + 1 = ((i + 1 : Nat) : Int) by omega]
   have hs : t - i = (t - (i + 1)) + 1 := by omega
   have h01 : vz (0, 1, 0, -1) = true := by decide
   cases hr : vz (rt n) with
   | false =>
    rw [if_neg (by rintro ⟨_, _, h⟩; cases h), hs]
    unfold upz
    rw [if_neg (by rw [Hw hr]; simp)]
    rfl
   | true =>
    rw [if_pos ⟨hv, h01, by trivial⟩]
    simp only [oF, Bool.not_true, aF]
    rw [tN t m (i + 1) (rt n) (by omega) (by omega) ht hr, hs]
    unfold upz
    rw [Cx]
    rfl
theorem KU (n : Z4) (t : Nat) (ht : t ≤ 1000) (hv : vz n = true) : qZ n.1 n.2.1 n.2.2.1 n.2.2.2 (t : Int) = some (oF (upz n t)) := by
 unfold qZ
 have := tN t FU 0 n (by omega) (by rw [bP]; omega) ht hv
 rw [Nat.sub_zero] at this
 exact this
theorem p5 {x : DQ} (h : vd x = true) : x.2.2.2.2 = (ae x : Int) ∧ ae x ≤ 60 := by
 obtain ⟨_, h2, _⟩ := (dy x).1 h
 unfold ae
 unfold zex at *
 omega
theorem KV (a b : Int) : jk a b = some (max a b) := by
 unfold jk
 by_cases h : b < a
 ·rw [decide_eq_true h, aS, Int.max_eq_left (by omega)]
 ·rw [decide_eq_false h, aF, Int.max_eq_right (by omega)]
theorem KW (x y : DQ) : kD x.1 x.2.1 x.2.2.1 x.2.2.2.1 x.2.2.2.2 y.1 y.2.1 y.2.2.1 y.2.2.2.1 y.2.2.2.2 = some (res (if vd x = true ∧ vd y = true then oE x y else none)) := by
 unfold kD
 rw [Ct, aC]
 simp only [Ct, aC, mC, il]
 by_cases hxy : vd x = true ∧ vd y = true
 ·rw [if_pos hxy]
  obtain ⟨hx, hy⟩ := hxy
  obtain ⟨ex1, ex2⟩ := p5 hx
  obtain ⟨ey1, ey2⟩ := p5 hy
  rw [hx, hy, ex1, ey1]
  simp only [Bool.not_true, Bool.or_self, aF, KV, aC]
  have hm : max (ae x : Int) (ae y : Int) = ((max (ae x) (ae y) : Nat) : Int) := by omega
  have hK : max (ae x) (ae y) ≤ 60 := Nat.max_le.2 ⟨ex2, ey2⟩
  have hKx : ae x ≤ max (ae x) (ae y) := Nat.le_max_left ..
  have hKy : ae y ≤ max (ae x) (ae y) := Nat.le_max_right ..
  rw [hm]
  unfold oE
  simp only
  generalize max (ae x) (ae y) = K at *
  have u1 := KU (znm x) (K - ae x) (by omega) ((dy x).1 hx).1
  have u2 := KU (znm y) (K - ae y) (by omega) ((dy y).1 hy).1
  unfold znm at u1 u2
  simp only at u1 u2
  rw [w64 (x := (K : Int) - (ae x : Int)) (by omega) (by omega), w64 (x := (K : Int) - (ae y : Int)) (by omega) (by omega), show (K : Int) - (ae x : Int) = ((K - ae x : Nat) : Int) by omega, show (K : Int) - (ae y : Int) = ((K - ae y : Nat) : Int) by omega, u1, aC, u2, aC]
  have f1 : upz (x.1, x.2.1, x.2.2.1, x.2.2.2.1) (K - ae x) = if vz (upF x K) = true then some (upF x K) else none := rfl
  have f2 : upz (y.1, y.2.1, y.2.2.1, y.2.2.2.1) (K - ae y) = if vz (upF y K) = true then some (upF y K) else none := rfl
  rw [f1, f2]
  generalize upF x K = a
  generalize upF y K = b
  have hz0 : vz (0, 0, 0, 0) = true := by decide
  have key : ∀ (p q : Z4) (b1 b2 : Bool), (b1 && b2) = false → bO (iJ p.1 p.2.1 p.2.2.1 p.2.2.2 q.1 q.2.1 q.2.2.1 q.2.2.2) (fun x8 => ff (K : Int) x8 ((!b1 || !b2) || !x8.2.2.2.2)) = some (0, 0, 0, 0, 0, false) := by
   intro p q b1 b2 hb
   rw [Cv, aC]
   have : (!b1 || !b2) = true := by cases b1 <;> cases b2 <;> first | rfl | cases hb
   rw [this, Bool.true_or]
   rfl
  cases ha : vz a with
  | false =>
   simp only [Bool.false_eq_true, false_and, if_false]
   cases hb : vz b with
   | false => exact key (0, 0, 0, 0) (0, 0, 0, 0) false false rfl
   | true => exact key (0, 0, 0, 0) b false true rfl
  | true =>
   cases hb : vz b with
   | false =>
    simp only [Bool.false_eq_true, and_false, false_and, if_false]
    exact key a (0, 0, 0, 0) true false rfl
   | true =>
    simp only [if_true, oF, true_and, Bool.not_true, Bool.or_self, Bool.false_or]
    rw [Cv, aC, ha, hb]
    simp only [true_and]
    unfold ff
    cases hs : vz (adz a b) with
    | false =>
     simp only [Bool.false_eq_true, if_false, oF, Bool.not_false, aS]
     rfl
    | true =>
     simp only [if_true, oF, Bool.not_true, aF]
     have hn := Hv (adz a b) (K : Int) (by omega)
     rw [hn, aC]
     rfl
 ·rw [if_neg hxy]
  have : (!vd x || !vd y) = true := by
   cases hx : vd x with
   | false => rfl
   | true => cases hy : vd y with
    | false => rfl
    | true => exact absurd ⟨hx, hy⟩ hxy
  rw [this]
  rfl
theorem tO (N : Z4) (T : Nat) : ∀ (m k : Nat) (n : Z4), k ≤ T → T - k < m → T ≤ 1000 → vz n = true → dV N.1 N.2.1 N.2.2.1 N.2.2.2 (T : Int) m k n.1 n.2.1 n.2.2.1 n.2.2.2 =
  (match upz n (T - k) with | some z => fe N.1 N.2.1 N.2.2.1 N.2.2.2 (T : Int) z.1 z.2.1 z.2.2.1 z.2.2.2 | none => some (0, 0, 0, 0, 0, false))
 | 0, k, n, _, h, _, _ => by omega
 | m + 1, k, n, hk, h, hT, hv => by
  rw [dV]
  by_cases e : k = T
  ·have hlt : decide ((k : Int) < (T : Int)) = false := decide_eq_false (by omega)
   rw [hlt, aF, e, Nat.sub_self]
   unfold upz
   rw [if_pos (show vz (rtn 0 n) = true from hv)]
   rfl
  ·have hlt : decide ((k : Int) < (T : Int)) = true := decide_eq_true (by omega)
   have hm := Cs n (0, 1, 0, -1)
   simp only at hm
   have hro : tn = some (0, 1, 0, -1) := rfl
   rw [hlt, aS, hro, aC]
   simp only
   rw [hm, aC, Cw, w64 (by omega) (by omega), show (k : Int) + 1 = ((k + 1 : Nat) : Int) by omega]
   have hs : T - k = (T - (k + 1)) + 1 := by omega
   have h01 : vz (0, 1, 0, -1) = true := by decide
   cases hr : vz (rt n) with
   | false =>
    rw [if_neg (by rintro ⟨_, _, h⟩; cases h), hs]
    unfold upz
    rw [if_neg (by rw [Hw hr]; simp)]
    rfl
   | true =>
    rw [if_pos ⟨hv, h01, by trivial⟩]
    simp only [oF, Bool.not_true, aF]
    rw [tO N T m (k + 1) (rt n) (by omega) (by omega) hT hr, hs]
    unfold upz
    rw [Cx]
theorem vF {x y : DQ} (hx : vd x = true) (hy : vd y = true) (hle : ae y ≤ ae x) : eT x.1 x.2.1 x.2.2.1 x.2.2.2.1 x.2.2.2.2 y.1 y.2.1 y.2.2.1 y.2.2.2.1 y.2.2.2.2 = some (res (oE x y)) := by
 obtain ⟨ex1, ex2⟩ := p5 hx
 obtain ⟨ey1, ey2⟩ := p5 hy
 unfold eT
 rw [ex1, ey1]
 have hl := tO (znm x) (ae x) FU (ae y) (znm y) hle (by rw [bP]; omega) (by omega) ((dy y).1 hy).1
 unfold znm at hl
 simp only at hl
 rw [hl]
 have hK : max (ae x) (ae y) = ae x := Nat.max_eq_left hle
 unfold oE
 simp only [hK]
 have f2 : upz (y.1, y.2.1, y.2.2.1, y.2.2.2.1) (ae x - ae y) = if vz (upF y (ae x)) = true then some (upF y (ae x)) else none := rfl
 have f1 : upF x (ae x) = znm x := by unfold upF; rw [Nat.sub_self]; rfl
 rw [f2, f1]
 generalize upF y (ae x) = b
 have hvx := ((dy x).1 hx).1
 rw [hvx]
 cases hb : vz b with
 | false =>
  simp only [Bool.false_eq_true, and_false, false_and, if_false]
  rfl
 | true =>
  simp only [if_true, true_and]
  unfold fe
  have ha := JC (znm x) b
  rw [hvx, hb] at ha
  simp only [true_and] at ha
  unfold znm at ha
  simp only at ha
  rw [ha, aC]
  have en : adz (znm x) b = adz (x.1, x.2.1, x.2.2.1, x.2.2.2.1) b := rfl
  rw [en]
  cases hs : vz (adz (x.1, x.2.1, x.2.2.1, x.2.2.2.1) b) with
  | false =>
   simp only [Bool.false_eq_true, if_false, oF, Bool.not_false, aS]
   rfl
  | true =>
   simp only [if_true, oF, Bool.not_true, aF]
   have hn := Hu (adz (x.1, x.2.1, x.2.2.1, x.2.2.2.1) b) (ae x : Int) (by omega)
   rw [hn, aC]
   rfl
theorem Cy (x y : DQ) : iK x.1 x.2.1 x.2.2.1 x.2.2.2.1 x.2.2.2.2 y.1 y.2.1 y.2.2.1 y.2.2.2.1 y.2.2.2.2 = some (res (if vd x = true ∧ vd y = true then oE x y else none)) := by
 unfold iK
 rw [vE, aC]
 simp only [vE, aC, mC, ik]
 by_cases hxy : vd x = true ∧ vd y = true
 ·rw [if_pos hxy]
  obtain ⟨hx, hy⟩ := hxy
  obtain ⟨ex1, ex2⟩ := p5 hx
  obtain ⟨ey1, ey2⟩ := p5 hy
  rw [hx, hy]
  simp only [Bool.not_true, Bool.or_self, aF]
  by_cases hlt : x.2.2.2.2 < y.2.2.2.2
  ·rw [decide_eq_true hlt, aS, vF hy hx (by omega), A3]
  ·rw [decide_eq_false hlt, aF, vF hx hy (by omega)]
 ·rw [if_neg hxy]
  have : (!vd x || !vd y) = true := by
   cases hx : vd x with
   | false => rfl
   | true => cases hy : vd y with
    | false => rfl
    | true => exact absurd ⟨hx, hy⟩ hxy
  rw [this]
  rfl
theorem wP (x y : DQ) : fg x.1 x.2.1 x.2.2.1 x.2.2.2.1 x.2.2.2.2 y.1 y.2.1 y.2.2.1 y.2.2.2.1 y.2.2.2.2 = some (res (if vd x = true ∧ vd y = true then ms x y else none)) := by
 unfold fg
 rw [vE, aC]
 simp only [vE, aC, mC, im]
 by_cases hxy : vd x = true ∧ vd y = true
 ·rw [if_pos hxy]
  obtain ⟨hx, hy⟩ := hxy
  obtain ⟨ex1, ex2⟩ := p5 hx
  obtain ⟨ey1, ey2⟩ := p5 hy
  rw [hx, hy]
  simp only [Bool.not_true, Bool.or_self, aF]
  have hm := Cs (znm x) (znm y)
  rw [((dy x).1 hx).1, ((dy y).1 hy).1] at hm
  simp only [true_and] at hm
  unfold ms
  have e1 : fc x.1 x.2.1 x.2.2.1 x.2.2.2.1 y.1 y.2.1 y.2.2.1 y.2.2.2.1 = _ := hm
  rw [e1, aC]
  cases hs : vz (mlz (znm x) (znm y)) with
  | false =>
   simp only [Bool.false_eq_true, if_false, oF, Bool.not_false, aS]
   rfl
  | true =>
   simp only [if_true, oF, Bool.not_true, aF]
   have hn := Hu (mlz (znm x) (znm y)) ((ae x + ae y : Nat) : Int) (by omega)
   rw [Int.toNat_natCast] at hn
   rw [ex1, ey1, w64 (by omega) (by omega), show (ae x : Int) + (ae y : Int) = ((ae x + ae y : Nat) : Int) by omega, hn, aC]
 ·rw [if_neg hxy]
  have : (!vd x || !vd y) = true := by
   cases hx : vd x with
   | false => rfl
   | true => cases hy : vd y with
    | false => rfl
    | true => exact absurd ⟨hx, hy⟩ hxy
  rw [this]
  rfl
theorem JD (x y : DQ) : kE x.1 x.2.1 x.2.2.1 x.2.2.2.1 x.2.2.2.2 y.1 y.2.1 y.2.2.1 y.2.2.2.1 y.2.2.2.2 = some (res (if vd x = true ∧ vd y = true then ms x y else none)) := by
 unfold kE
 have hm := Cu (znm x) (znm y)
 have e1 : fd x.1 x.2.1 x.2.2.1 x.2.2.2.1 y.1 y.2.1 y.2.2.1 y.2.2.2.1 = _ := hm
 rw [e1, aC, Ct, aC]
 simp only [Ct, aC, mC, io]
 by_cases hxy : vd x = true ∧ vd y = true
 ·rw [if_pos hxy]
  obtain ⟨hx, hy⟩ := hxy
  obtain ⟨ex1, ex2⟩ := p5 hx
  obtain ⟨ey1, ey2⟩ := p5 hy
  rw [hx, hy, ((dy x).1 hx).1, ((dy y).1 hy).1]
  simp only [Bool.not_true, Bool.or_self, Bool.false_or, true_and]
  unfold ms
  cases hs : vz (mlz (znm x) (znm y)) with
  | false =>
   simp only [Bool.false_eq_true, if_false, oF, Bool.not_false, aS]
   rfl
  | true =>
   simp only [if_true, oF, Bool.not_true, aF]
   have hn := Hv (mlz (znm x) (znm y)) ((ae x + ae y : Nat) : Int) (by omega)
   rw [Int.toNat_natCast] at hn
   rw [ex1, ey1, w64 (by omega) (by omega), show (ae x : Int) + (ae y : Int) = ((ae x + ae y : Nat) : Int) by omega, hn, aC]
 ·rw [if_neg hxy]
  have : (!vd x || !vd y) = true := by
   cases hx : vd x with
   | false => rfl
   | true => cases hy : vd y with
    | false => rfl
    | true => exact absurd ⟨hx, hy⟩ hxy
  rw [this, Bool.true_or]
  rfl
theorem A5 {N : Int} {l : List Q4} {k : Nat} {q : Q4} (h : A4 N l k = true) (hq : l[k]? = some q) : q.1 = N ∧ hP q = true := by
 unfold A4 at h
 rw [hq] at h
 simp only [Bool.and_eq_true, beq_iff_eq] at h
 exact ⟨h.1, h.2.1⟩
theorem KX {q : Q4} (h : hP q = true) : vP q = true := by
 unfold hP at h
 rw [Bool.and_eq_true] at h
 exact h.1
def Hx (N : Int) (l : List Q4) (q : Q4) (k i : Nat) : Bool := match l[i]? with
 | some r => !(cP r q == decide ((k : Int) = (i : Int) + N))
 | none => false
theorem HI {N : Int} {l : List Q4} {k : Nat} {q : Q4} (hq : l[k]? = some q) : A4 N l k = ((q.1 == N) && (hP q && (List.range k).all (Hx N l q k))) := by
 unfold A4; rw [hq]; rfl
theorem HJ {α : Type} {l : List α} {k : Nat} (h : k ≤ l.length) : slc l 0 (k : Int) = some (l.take k) := by
 unfold slc
 rw [if_pos ⟨by omega, by omega, by omega⟩]
 simp
def HK (a b : Q4) : Q4 := (a.1, xo a.2.1 b.2.1, xo a.2.2.1 b.2.2.1, (a.2.2.2 + b.2.2.2 + 2 * pc (an a.2.2.1 b.2.1)) % 4)
theorem Hy {x y : Int} {k : Nat} (hx : 0 ≤ x ∧ x < 2 ^ k) (hy : 0 ≤ y ∧ y < 2 ^ k) : 0 ≤ xo x y ∧ xo x y < 2 ^ k := by
 have e : ((2 ^ k : Nat) : Int) = 2 ^ k := by simp
 have := Nat.xor_lt_two_pow (x := x.toNat) (y := y.toNat) (n := k) (by omega) (by omega)
 unfold xo; omega
theorem HM {a b : Q4} (ha : vP a = true) (hb : vP b = true) (h : a.1 = b.1) : vP (HK a b) = true := by
 obtain ⟨n, x, z, p⟩ := a
 obtain ⟨m, y, w, r⟩ := b
 simp only at h
 subst h
 obtain ⟨h1, h2, h3, h4⟩ := tv.1 ha
 obtain ⟨_, k2, k3, k4⟩ := tv.1 hb
 have b1 := KP (an z y)
 exact tv.2 ⟨h1, Hy h2 k2, Hy h3 k3, by omega⟩
theorem A6 : ∀ r a b : Fin 16, (pc (an (r.val : Int) (xo (a.val : Int) (b.val : Int))) - pc (an (r.val : Int) (a.val : Int)) - pc (an (r.val : Int) (b.val : Int))) % 2 = 0 := by decide +kernel
theorem Hz {r a b : Int} (hr : Sm r) (ha : Sm a) (hb : Sm b) : (pc (an r (xo a b)) - pc (an r a) - pc (an r b)) % 2 = 0 := by
 obtain ⟨r, rfl⟩ := hr.fin; obtain ⟨a, rfl⟩ := ha.fin; obtain ⟨b, rfl⟩ := hb.fin
 exact A6 r a b
theorem tz (a b : Int) : an a b = an b a := by unfold an; rw [Nat.and_comm]
theorem HN (a b : Q4) : cP a b = cP b a := by
 unfold cP
 rw [tz b.2.1, tz b.2.2.1, Int.add_comm]
theorem HO (a : Q4) : cP a a = true := by
 unfold cP
 rw [tz a.2.2.1]
 rw [decide_eq_true_eq]; omega
theorem JE {r a b : Q4} (hr : vP r = true) (ha : vP a = true) (hb : vP b = true) (h1 : cP r a = true) (h2 : cP r b = true) : cP r (HK a b) = true := by
 obtain ⟨r0, r1, r2, r3⟩ := r
 obtain ⟨a0, a1, a2, a3⟩ := a
 obtain ⟨b0, b1, b2, b3⟩ := b
 obtain ⟨u1, u2, _⟩ := Cr hr
 obtain ⟨v1, v2, _⟩ := Cr ha
 obtain ⟨w1, w2, _⟩ := Cr hb
 simp only [cP, HK] at h1 h2 ⊢
 have h1 := of_decide_eq_true h1
 have h2 := of_decide_eq_true h2
 refine decide_eq_true ?_
 have e1 := Hz u1 v2 w2
 have e2 := Hz u2 v1 w1
 omega
theorem u4 {N : Int} {l : List Q4} (h : tB N l = true) : (1 ≤ N ∧ N ≤ 4) ∧ (l.length : Int) = 2 * N ∧ ∀ k, k < l.length → A4 N l k = true := by
 unfold tB at h
 simp only [Bool.and_eq_true, decide_eq_true_eq, List.all_eq_true, List.mem_range] at h
 exact ⟨h.1, h.2.1, h.2.2⟩
theorem Cz {N : Int} {l : List Q4} (h : tB N l = true) {k : Nat} {q : Q4} (hq : l[k]? = some q) : q.1 = N ∧ vP q = true := by
 obtain ⟨_, _, h3⟩ := u4 h
 have hk : k < l.length := by
  rcases Nat.lt_or_ge k l.length with h' | h'
  ·exact h'
  ·rw [List.getElem?_eq_none h'] at hq; cases hq
 obtain ⟨e, g⟩ := A5 (h3 k hk) hq
 exact ⟨e, KX g⟩
theorem qp {N : Int} {l : List Q4} (h : tB N l = true) {i k : Nat} {r q : Q4} (hr : l[i]? = some r) (hq : l[k]? = some q) (hik : i < k) (hk : k < l.length) (hN : N ≤ i) : cP r q = true := by
 obtain ⟨h1, h2, h3⟩ := u4 h
 have hb := h3 k hk
 rw [HI hq] at hb
 simp only [Bool.and_eq_true, List.all_eq_true, List.mem_range] at hb
 have hc := hb.2.2 i hik
 unfold Hx at hc
 rw [hr] at hc
 have hne : decide ((k : Int) = (i : Int) + N) = false := decide_eq_false (by omega)
 simp only [hne] at hc
 cases hcp : cP r q with
 | true => rfl
 | false => rw [hcp] at hc; simp at hc
theorem D0 {N : Int} {l : List Q4} (h : tB N l = true) {i k : Nat} {r q : Q4} (hr : l[i]? = some r) (hq : l[k]? = some q) (hi : i < l.length) (hk : k < l.length) (hN : N ≤ i) (hN' : N ≤ k) : cP r q = true := by
 rcases Nat.lt_trichotomy i k with h' | h' | h'
 ·exact qp h hr hq h' hk hN
 ·subst h'
  rw [hr] at hq; injection hq with hq; subst hq
  exact HO r
 ·rw [HN]; exact qp h hq hr h' hi hN'
def D1 (N : Int) (l : List Q4) (p : Q4) : Prop := p.1 = N ∧ vP p = true ∧ ∀ (j : Nat) (r : Q4), N ≤ j → l[j]? = some r → cP r p = true
theorem D1.mul {N : Int} {l : List Q4} (h : tB N l = true) {p q : Q4} (hp : D1 N l p) {k : Nat} (hq : l[k]? = some q) (hk : N ≤ k) : D1 N l (HK p q) := by
 obtain ⟨e, g⟩ := Cz h hq
 have lt : ∀ {j : Nat} {r : Q4}, l[j]? = some r → j < l.length := fun {j r} hr => by
  rcases Nat.lt_or_ge j l.length with h' | h'
  ·exact h'
  ·rw [List.getElem?_eq_none h'] at hr; cases hr
 refine ⟨hp.1, HM hp.2.1 g (hp.1.trans e.symm), fun j r hj hr => ?_⟩
 exact JE (Cz h hr).2 hp.2.1 g (hp.2.2 j r hj hr) (D0 h hr hq (lt hr) (lt hq) hj hk)
theorem pc0 (x : Int) : pc (an x 0) = 0 := by unfold an; simp [pc]
theorem D1.one {N : Int} {l : List Q4} (h : tB N l = true) : D1 N l (N, 0, 0, 0) := by
 obtain ⟨h1, _, _⟩ := u4 h
 refine ⟨rfl, ?_, fun j r _ _ => ?_⟩
 ·rcases sa h1 with rfl | rfl | rfl | rfl <;> rfl
 ·unfold cP; simp only [pc0]; rfl
def qcF (n : Nat) : Int := if n = 2 then 1 else if n = 4 then 2 else if n = 8 then 3 else if n = 16 then 4 else 0
def stB (v : List DQ) : Bool := v.all vd && decide (0 < qcF v.length)
theorem JF {n : Nat} (h : 0 < qcF n) : n ≤ 16 := by unfold qcF at h; (repeat' split at h) <;> omega
def gBv {α : Type} (f : α → Bool) (v : List α) (k : Nat) : Bool := match v[k]? with
 | some q => f q
 | none => false
theorem u5 {α : Type} (f : α → Bool) {v : List α} {k : Nat} (h : k < v.length) : gBv f v k = f v[k] := by unfold gBv; rw [List.getElem?_eq_getElem h]
theorem xL {α : Type} (v : List α) (f : α → Bool) : (List.range v.length).all (gBv f v) = v.all f := by
 rw [Bool.eq_iff_iff, List.all_eq_true, List.all_eq_true]
 constructor
 ·intro h q hq
  obtain ⟨i, hi, rfl⟩ := List.getElem_of_mem hq
  have := h i (List.mem_range.2 hi)
  rw [u5 f hi] at this
  exact this
 ·intro h k hk
  have hk := List.mem_range.1 hk
  rw [u5 f hk]
  exact h _ (List.getElem_mem hk)
theorem I0 (n : Nat) : (if (n : Int) = 2 then (1 : Int) else if (n : Int) = 4 then 2 else if (n : Int) = 8 then 3 else if (n : Int) = 16 then 4 else 0) = qcF n := by
 unfold qcF
 by_cases h2 : n = 2
 ·subst h2; rfl
 by_cases h4 : n = 4
 ·subst h4; rfl
 by_cases h8 : n = 8
 ·subst h8; rfl
 by_cases h16 : n = 16
 ·subst h16; rfl
 rw [if_neg (by omega), if_neg (by omega), if_neg (by omega), if_neg (by omega), if_neg h2, if_neg h4, if_neg h8, if_neg h16]
theorem D2 (q : DQ) : ((q.1 == 0) && ((q.2.1 == 0) && ((q.2.2.1 == 0) && ((q.2.2.2.1 == 0) && (q.2.2.2.2 == 0))))) = decide (q = d0) := by
 obtain ⟨a, b, c, d, e⟩ := q
 rw [Bool.eq_iff_iff]
 simp [d0]
theorem KY (v : List DQ) : g7 v = some (qcF v.length) := by
 unfold g7
 have st : ∀ (m : Nat) (j : Nat), 1 ≤ j ∧ j ≤ 4 → bj v (m + 1) (j : Int) = br ((v.length : Int) == (2 : Int) ^ j) (some (j : Int)) (bj v m ((j + 1 : Nat) : Int)) := by
  intro m j hj
  have : j = 1 ∨ j = 2 ∨ j = 3 ∨ j = 4 := by omega
  rw [bj]
  rcases this with rfl | rfl | rfl | rfl <;> rfl
 have s5 : ∀ m, bj v (m + 1) ((5 : Nat) : Int) = some 0 := by
  intro m
  rw [bj]
  rfl
 obtain ⟨k, hk⟩ : ∃ k, FU = ((((k + 1) + 1) + 1) + 1) + 1 := ⟨4194299, rfl⟩
 have h1 := st ((((k + 1) + 1) + 1) + 1) 1 (by omega)
 have h2 := st (((k + 1) + 1) + 1) 2 (by omega)
 have h3 := st ((k + 1) + 1) 3 (by omega)
 have h4 := st (k + 1) 4 (by omega)
 have h5 := s5 k
 rw [hk]
 show bj v (((((k + 1) + 1) + 1) + 1) + 1) ((1 : Nat) : Int) = _
 rw [h1, h2, h3, h4, h5, ← I0]
 generalize (v.length : Int) = L
 show br (L == 2) (some 1) (br (L == 4) (some 2) (br (L == 8) (some 3) (br (L == 16) (some 4) (some 0)))) = _
 by_cases e2 : L = 2
 ·subst e2; rfl
 by_cases e4 : L = 4
 ·subst e4; rfl
 by_cases e8 : L = 8
 ·subst e8; rfl
 by_cases e16 : L = 16
 ·subst e16; rfl
 have c2 : (L == 2) = false := by simpa using e2
 have c4 : (L == 4) = false := by simpa using e4
 have c8 : (L == 8) = false := by simpa using e8
 have c16 : (L == 16) = false := by simpa using e16
 rw [c2, c4, c8, c16, if_neg e2, if_neg e4, if_neg e8, if_neg e16]
 rfl
theorem KZ (v : List DQ) : g8 v = some (qcF v.length) := by
 unfold g8
 have st : ∀ (m : Nat) (j : Nat), 1 ≤ j ∧ j ≤ 4 → bk v (m + 1) (j : Int) = br ((v.length : Int) == (2 : Int) ^ j) (some (j : Int)) (bk v m ((j + 1 : Nat) : Int)) := by
  intro m j hj
  have : j = 1 ∨ j = 2 ∨ j = 3 ∨ j = 4 := by omega
  rw [bk]
  rcases this with rfl | rfl | rfl | rfl <;> rfl
 have s5 : ∀ m, bk v (m + 1) ((5 : Nat) : Int) = some 0 := by
  intro m
  rw [bk]
  rfl
 obtain ⟨k, hk⟩ : ∃ k, FU = ((((k + 1) + 1) + 1) + 1) + 1 := ⟨4194299, rfl⟩
 have h1 := st ((((k + 1) + 1) + 1) + 1) 1 (by omega)
 have h2 := st (((k + 1) + 1) + 1) 2 (by omega)
 have h3 := st ((k + 1) + 1) 3 (by omega)
 have h4 := st (k + 1) 4 (by omega)
 have h5 := s5 k
 rw [hk]
 show bk v (((((k + 1) + 1) + 1) + 1) + 1) ((1 : Nat) : Int) = _
 rw [h1, h2, h3, h4, h5, ← I0]
 generalize (v.length : Int) = L
 show br (L == 2) (some 1) (br (L == 4) (some 2) (br (L == 8) (some 3) (br (L == 16) (some 4) (some 0)))) = _
 by_cases e2 : L = 2
 ·subst e2; rfl
 by_cases e4 : L = 4
 ·subst e4; rfl
 by_cases e8 : L = 8
 ·subst e8; rfl
 by_cases e16 : L = 16
 ·subst e16; rfl
 have c2 : (L == 2) = false := by simpa using e2
 have c4 : (L == 4) = false := by simpa using e4
 have c8 : (L == 8) = false := by simpa using e8
 have c16 : (L == 16) = false := by simpa using e16
 rw [c2, c4, c8, c16, if_neg e2, if_neg e4, if_neg e8, if_neg e16]
 rfl
theorem JG (v : List DQ) (hl : v.length ≤ 4000000) : dW v = some (stB v) := by
 unfold dW
 rw [KY, aC]
 unfold stB
 by_cases h0 : qcF v.length = 0
 ·rw [h0]
  simp only [beq_self_eq_true, aS, Int.lt_irrefl, decide_false, Bool.and_false]
 ·have c : (qcF v.length == 0) = false := by simpa using h0
  have hp : 0 < qcF v.length := by unfold qcF at h0 ⊢; (repeat' split) <;> simp_all
  rw [c, aF, decide_eq_true hp, Bool.and_true, ← xL]
  rw [tM (fun m k => bb v m (v.length : Int) k) v.length (gBv vd v) hl (fun m k hk => ?_) (some true) (fun m => ?_)]
  ·cases (List.range v.length).all (gBv vd v) <;> rfl
  ·have hlt : decide ((k : Int) < (v.length : Int)) = true := decide_eq_true (by omega)
   show bb v (m + 1) (v.length : Int) (k : Int) = _
   rw [bb, hlt, aS, bB hk, aC, vE, aC, cn hk (by omega), u5 vd hk]
   cases vd v[k] <;> rfl
  ·have hlt : decide ((v.length : Int) < (v.length : Int)) = false := decide_eq_false (by omega)
   show bb v (m + 1) (v.length : Int) (v.length : Int) = _
   rw [bb, hlt, aF]
   rfl
theorem Lq (v : List DQ) (hl : v.length ≤ 4000000) : fh v = some (stB v) := by
 unfold fh
 unfold stB
 rw [← xL]
 rw [tM (fun m k => bc v m k) v.length (gBv vd v) hl (fun m k hk => ?_) (some (decide (0 < qcF v.length))) (fun m => ?_)]
 ·cases (List.range v.length).all (gBv vd v) <;> rfl
 ·have hlt : decide ((k : Int) < (v.length : Int)) = true := decide_eq_true (by omega)
  show bc v (m + 1) (k : Int) = _
  rw [bc, hlt, aS, bB hk, aC, Ct, aC, cn hk (by omega), u5 vd hk]
  cases vd v[k] <;> rfl
 ·have hlt : decide ((v.length : Int) < (v.length : Int)) = false := decide_eq_false (by omega)
  show bc v (m + 1) (v.length : Int) = _
  rw [bc, hlt, aF]
  unfold fV
  rw [KZ, aC]
theorem D3 (row v : List DQ) (hl : row.length ≤ 4000000) (hlen : row.length = v.length) (hr : ∀ x ∈ row, vd x = true) (hv : ∀ x ∈ v, vd x = true) : vC row v = some (res (wN d0 row v)) := by
 unfold vC
 have key : ∀ (m i : Nat) (s : DQ), i ≤ row.length → row.length - i < m → vd s = true → kJ row v m (row.length : Int) i s.1 s.2.1 s.2.2.1 s.2.2.2.1 s.2.2.2.2 = some (res (wN s (row.drop i) (v.drop i))) := by
  intro m
  induction m with
  | zero => intro i s _ h; omega
  | succ m ih =>
   intro i s hi hm hs
   rw [kJ]
   by_cases e : i = row.length
   ·have hlt : decide ((i : Int) < (row.length : Int)) = false := decide_eq_false (by omega)
    rw [hlt, aF, List.drop_eq_nil_of_le (by omega)]
    rfl
   ·have hil : i < row.length := by omega
    have hiv : i < v.length := by omega
    have hlt : decide ((i : Int) < (row.length : Int)) = true := decide_eq_true (by omega)
    have v1 := hr _ (List.getElem_mem hil)
    have v2 := hv _ (List.getElem_mem hiv)
    rw [hlt, aS, bB hil, aC, bB hiv, aC, wP, aC, if_pos ⟨v1, v2⟩, List.drop_eq_getElem_cons hil, List.drop_eq_getElem_cons hiv]
    unfold wN
    cases hmu : ms row[i] v[i] with
    | none =>
     have ha := Cy s d0
     unfold d0 at ha
     simp only at ha
     simp only [res]
     rw [ha, aC]
     rfl
    | some p =>
     have vp := (HF hmu).1
     have ha := Cy s p
     rw [if_pos ⟨hs, vp⟩] at ha
     simp only [res]
     rw [ha, aC]
     cases had : oE s p with
     | none =>
      rw [Option.bind_some, had]
      rfl
     | some z =>
      rw [Option.bind_some, had, Option.bind_some]
      simp only [res, Bool.not_true, aF, aC, pw]
      rw [cn hil (by omega)]
      exact ih (i + 1) z (by omega) (by omega) (HG had).1
 exact key FU 0 d0 (by omega) (by rw [bP]; omega) Cq
theorem wQ {v : List DQ} (h : stB v = true) : (∀ x ∈ v, vd x = true) ∧ v.length ≤ 16 := by
 unfold stB at h
 rw [Bool.and_eq_true, List.all_eq_true, decide_eq_true_eq] at h
 exact ⟨h.1, JF h.2⟩
def oz (k : Nat) : Z4 := if k % 8 = 0 then (1, 0, 0, 0) else if k % 8 = 1 then (0, 1, 0, 0) else if k % 8 = 2 then (0, 0, 1, 0) else if k % 8 = 3 then (0, 0, 0, 1) else
 if k % 8 = 4 then (-1, 0, 0, 0) else if k % 8 = 5 then (0, -1, 0, 0) else if k % 8 = 6 then (0, 0, -1, 0) else (0, 0, 0, -1)
theorem u6 (k : Nat) : oz k = oz (k % 8) := by unfold oz; rw [Nat.mod_mod]
theorem vG {a b : Nat} (h : a % 8 = b % 8) : oz a = oz b := by rw [u6 a, u6 b, h]
theorem sJ (a : Nat) : ((oz a = (1, 0, 0, 0) ∨ oz a = (0, 1, 0, 0)) ∨ (oz a = (0, 0, 1, 0) ∨ oz a = (0, 0, 0, 1))) ∨ ((oz a = (-1, 0, 0, 0) ∨ oz a = (0, -1, 0, 0)) ∨ (oz a = (0, 0, -1, 0) ∨ oz a = (0, 0, 0, -1))) := by
 unfold oz; (repeat' split) <;> simp
theorem D4 (a b : Nat) : mlz (oz a) (oz b) = oz (a + b) := by
 have h : ∀ a b : Fin 8, mlz (oz a.val) (oz b.val) = oz (a.val + b.val) := by decide +kernel
 have := h ⟨a % 8, by omega⟩ ⟨b % 8, by omega⟩
 simp only at this
 rw [u6 a, u6 b, this]
 exact vG (by omega)
theorem vH {M : Int} {x : Z4} (a : Nat) (h : bdz M x) : bdz M (mlz (oz a) x) := by
 rcases sJ a with ((e | e) | (e | e)) | ((e | e) | (e | e)) <;> rw [e] <;> unfold bdz mlz at * <;> simp only <;> omega
theorem Ka (x : Z4) : mlz (oz 0) x = x := by rw [show oz 0 = (1, 0, 0, 0) from rfl, wO]
def dq (K : Nat) (n : Z4) : DQ := mkD (nd K n)
theorem pz (K : Nat) (n : Z4) : znm (dq K n) = (nd K n).1 ∧ ae (dq K n) = (nd K n).2 ∧ zex (dq K n) = ((nd K n).2 : Int) := Co _
theorem mu {K : Nat} {n : Z4} (hK : K ≤ 60) (hb : bdz 1073741824 n) : vd (dq K n) = true := by
 obtain ⟨e1, e2, e3⟩ := pz K n
 obtain ⟨s1, s2, s3, s4⟩ := jp K n
 refine (dy _).2 ⟨?_, ?_, ?_⟩
 ·rw [e1, bp]; exact s4 _ hb
 ·rw [e3]; omega
 ·rw [e1, e2]; exact s3
theorem vI (K : Nat) (n : Z4) : ae (dq K n) ≤ K := by rw [(pz K n).2.1]; exact (jp K n).1
theorem mD (K : Nat) (n : Z4) : rtn (K - ae (dq K n)) (znm (dq K n)) = n := by
 obtain ⟨e1, e2, e3⟩ := pz K n
 rw [e1, e2]; exact (jp K n).2.1
theorem D5 (K : Nat) (n : Z4) : rtn K (znm (dq K n)) = rtn (ae (dq K n)) n := by
 have h := vI K n
 have e : rtn (ae (dq K n)) n = rtn (ae (dq K n)) (rtn (K - ae (dq K n)) (znm (dq K n))) := by rw [mD]
 rw [e, cp, show ae (dq K n) + (K - ae (dq K n)) = K by omega]
theorem vJ {x : DQ} {K : Nat} {n : Z4} (hx : vd x = true) (h : rtn K (znm x) = rtn (ae x) n) : x = dq K n := by
 obtain ⟨a1, a2, a3⟩ := (dy x).1 hx
 unfold dq
 rw [HE (n := n) (m := znm x) (k := K) (j := ae x) h.symm, KO a3, JA x a2.1]
theorem JH {K : Nat} {n m : Z4} (h : dq K n = dq K m) : n = m := by rw [← mD K n, ← mD K m, h]
theorem wR (K : Nat) : dq K (0, 0, 0, 0) = d0 := (vJ Cq (by rw [show znm d0 = (0, 0, 0, 0) from rfl, mt, mt])).symm
theorem rQ {K : Nat} {n : Z4} : dq K n = d0 ↔ n = (0, 0, 0, 0) := ⟨fun h => JH (h.trans (wR K).symm), fun h => by rw [h, wR]⟩
theorem u7 {K L : Nat} {n m : Z4} (hK : K + L ≤ 60) (hn : bdz 1073741824 n) (hm : bdz 1073741824 m) (hb : bdz 1073741824 (mlz n m)) : ms (dq K n) (dq L m) = some (dq (K + L) (mlz n m)) := by
 have h1 := vI K n
 have h2 := vI L m
 have e1 := mD K n
 have e2 := mD L m
 have v1 := mu (K := K) (by omega) hn
 have v2 := mu (K := L) (by omega) hm
 generalize dq K n = x at *
 generalize dq L m = y at *
 have e : rtn (K - ae x + (L - ae y)) (mlz (znm x) (znm y)) = mlz n m := by rw [← cp, mq, e2, tu, e1]
 have hv : vz (mlz (znm x) (znm y)) = true := (bp _).2 (kb _ (by rw [e]; exact hb))
 obtain ⟨s1, _, _, _⟩ := jp (ae x + ae y) (mlz (znm x) (znm y))
 have hz : oD (mlz (znm x) (znm y)) (ae x + ae y) = some (mkD (nd (ae x + ae y) (mlz (znm x) (znm y)))) := by unfold oD; rw [if_pos ⟨hv, by omega⟩]
 obtain ⟨z1, z2, z3, _⟩ := ln hz
 unfold ms
 rw [if_pos hv, hz]
 congr 1
 refine vJ z1 ?_
 rw [← e, kK, ← z3, cp]
 congr 1; omega
theorem wS {K : Nat} {n m : Z4} (hK : K ≤ 60) (hn : bdz 1073741824 n) (hm : bdz 1073741824 m) (hb : bdz 1073741824 (adz n m)) : oE (dq K n) (dq K m) = some (dq K (adz n m)) := by
 have h1 := vI K n
 have h2 := vI K m
 have e1 := mD K n
 have e2 := mD K m
 generalize dq K n = x at *
 generalize dq K m = y at *
 have k1 : ae x ≤ max (ae x) (ae y) := Nat.le_max_left ..
 have k2 : ae y ≤ max (ae x) (ae y) := Nat.le_max_right ..
 have k3 : max (ae x) (ae y) ≤ K := Nat.max_le.2 ⟨h1, h2⟩
 unfold oE
 simp only
 generalize max (ae x) (ae y) = T at *
 have u1 : rtn (K - T) (upF x T) = n := by unfold upF; rw [cp, ← e1]; congr 1; omega
 have u2 : rtn (K - T) (upF y T) = m := by unfold upF; rw [cp, ← e2]; congr 1; omega
 have u3 : rtn (K - T) (adz (upF x T) (upF y T)) = adz n m := by rw [tt, u1, u2]
 have v1 : vz (upF x T) = true := (bp _).2 (kb (K - T) (by rw [u1]; exact hn))
 have v2 : vz (upF y T) = true := (bp _).2 (kb (K - T) (by rw [u2]; exact hm))
 have v3 : vz (adz (upF x T) (upF y T)) = true := (bp _).2 (kb (K - T) (by rw [u3]; exact hb))
 rw [if_pos ⟨⟨v1, v2⟩, v3⟩]
 obtain ⟨s1, _, _, _⟩ := jp T (adz (upF x T) (upF y T))
 have hz : oD (adz (upF x T) (upF y T)) T = some (mkD (nd T (adz (upF x T) (upF y T)))) := by unfold oD; rw [if_pos ⟨v3, by omega⟩]
 obtain ⟨z1, z2, z3, _⟩ := ln hz
 rw [hz]
 congr 1
 refine vJ z1 ?_
 rw [← u3, kK, ← z3, cp]
 congr 1; omega
def om (a : Nat) : DQ := mkD (oz a, 0)
theorem I1 (a : Nat) : om a = dq 0 (oz a) := rfl
def hD : DQ := (1, 0, 0, 0, 1)
def hN : DQ := (-1, 0, 0, 0, 1)
theorem Kb : hD = dq 1 (1, 0, 0, 0) := by decide
theorem Kc : hN = dq 1 (-1, 0, 0, 0) := by decide
def ngz (x : Z4) : Z4 := (-x.1, -x.2.1, -x.2.2.1, -x.2.2.2)
theorem u9 (x : Z4) : ngz x = mlz (-1, 0, 0, 0) x := by unfold ngz mlz; apply fL <;> simp
theorem qc {M : Int} {x : Z4} (h : bdz M x) : bdz M (ngz x) := by unfold bdz ngz at *; simp only; omega
theorem D6 (a : Nat) : bdz 1073741824 (oz a) := by
 rcases sJ a with ((e | e) | (e | e)) | ((e | e) | (e | e)) <;> rw [e] <;> unfold bdz <;> simp only <;> omega
theorem D7 {K : Nat} {n : Z4} (a : Nat) (hK : K ≤ 60) (hn : bdz 1073741824 n) : ms (dq K n) (om a) = some (dq K (mlz (oz a) n)) := by
 rw [I1, u7 (by omega) hn (D6 a) (by rw [j8]; exact vH a hn), Nat.add_zero, j8]
theorem wT {K : Nat} {n : Z4} (hK : K + 1 ≤ 60) (hn : bdz 1073741824 n) : ms (dq K n) hD = some (dq (K + 1) n) := by
 rw [Kb, u7 hK hn (by unfold bdz; simp) (by rw [xK]; exact hn), xK]
theorem JI {K : Nat} {n : Z4} (hK : K + 1 ≤ 60) (hn : bdz 1073741824 n) : ms (dq K n) hN = some (dq (K + 1) (ngz n)) := by
 rw [Kc, u7 hK hn (by unfold bdz; simp) (by rw [j8, ← u9]; exact qc hn), j8, ← u9]
abbrev GQ := Int × Int × Int × Int
abbrev Amp := Nat → Z4
def mvA (q : GQ) (i : Nat) : Nat :=
 if q.1 = 1 ∨ q.1 = 2 then i ^^^ 2 ^ q.2.1.toNat else
 if q.1 = 9 then (if i.testBit q.2.1.toNat = true then i ^^^ 2 ^ q.2.2.1.toNat else i) else
 if q.1 = 11 then (if (i.testBit q.2.1.toNat != i.testBit q.2.2.1.toNat) = true then i ^^^ 2 ^ q.2.1.toNat ^^^ 2 ^ q.2.2.1.toNat else i) else
 if q.1 = 12 then (if (i.testBit q.2.1.toNat && i.testBit q.2.2.1.toNat) = true then i ^^^ 2 ^ q.2.2.2.toNat else i) else i
def mvP (q : GQ) (i : Nat) : Nat :=
 if q.1 = 2 then (if i.testBit q.2.1.toNat = true then 6 else 2) else
 if q.1 = 3 then (if i.testBit q.2.1.toNat = true then 4 else 0) else
 if q.1 = 5 then (if i.testBit q.2.1.toNat = true then 2 else 0) else
 if q.1 = 6 then (if i.testBit q.2.1.toNat = true then 6 else 0) else
 if q.1 = 7 then (if i.testBit q.2.1.toNat = true then 1 else 0) else
 if q.1 = 8 then (if i.testBit q.2.1.toNat = true then 7 else 0) else
 if q.1 = 10 then (if (i.testBit q.2.1.toNat && i.testBit q.2.2.1.toNat) = true then 4 else 0) else 0
def gz (q : GQ) (f : Amp) (r : Nat) : Z4 :=
 if q.1 = 4 then (if r.testBit q.2.1.toNat = true then adz (f (r ^^^ 2 ^ q.2.1.toNat)) (ngz (f r)) else adz (f r) (f (r ^^^ 2 ^ q.2.1.toNat)))
 else mlz (oz (mvP q (mvA q r))) (f (mvA q r))
def gzs (L : List GQ) (f : Amp) : Amp := L.foldl (fun f q => gz q f) f
def hc : List GQ → Nat
 | [] => 0
 | q :: L => (if q.1 = 4 then 1 else 0) + hc L
def gok (n : Nat) (q : GQ) : Prop := q.2.1.toNat < n ∧ ((q.1 = 9 ∨ q.1 = 10 ∨ q.1 = 11) → q.2.2.1.toNat < n ∧ q.2.1.toNat ≠ q.2.2.1.toNat) ∧ (q.1 = 12 → (q.2.2.1.toNat < n ∧ q.2.2.2.toNat < n) ∧ q.2.1.toNat ≠ q.2.2.2.toNat ∧ q.2.2.1.toNat ≠ q.2.2.2.toNat)
theorem D8 (q : GQ) (L : List GQ) (f : Amp) : gzs (q :: L) f = gzs L (gz q f) := rfl
theorem sK (A B : List GQ) (f : Amp) : gzs (A ++ B) f = gzs B (gzs A f) := by unfold gzs; rw [List.foldl_append]
theorem tP (A B : List GQ) : hc (A ++ B) = hc A + hc B := by
 induction A with
 | nil => simp [hc]
 | cons q A ih => simp only [List.cons_append, hc, ih]; omega
theorem xlt {n i a : Nat} (hi : i < 2 ^ n) (ha : a < n) : i ^^^ 2 ^ a < 2 ^ n := Nat.xor_lt_two_pow hi (Nat.pow_lt_pow_right (by omega) ha)
theorem sL {n : Nat} {q : GQ} (h : gok n q) {i : Nat} (hi : i < 2 ^ n) : mvA q i < 2 ^ n := by
 obtain ⟨h1, h2, h3⟩ := h
 unfold mvA
 split
 ·exact xlt hi h1
 split
 ·rename_i e; have := (h2 (Or.inl e)).1
  split
  ·exact xlt hi this
  ·exact hi
 split
 ·rename_i e; have := (h2 (Or.inr (Or.inr e))).1
  split
  ·exact xlt (xlt hi h1) this
  ·exact hi
 split
 ·rename_i e; have := (h3 e).1.2
  split
  ·exact xlt hi this
  ·exact hi
 ·exact hi
theorem Kd (i a b : Nat) : (i ^^^ 2 ^ b).testBit a = (i.testBit a ^^ decide (b = a)) := by rw [Nat.testBit_xor, Nat.testBit_two_pow]
theorem vK {i a b : Nat} (h : a ≠ b) : (i ^^^ 2 ^ b).testBit a = i.testBit a := by rw [Kd, decide_eq_false (fun e : b = a => h e.symm), Bool.xor_false]
theorem qq (i a : Nat) : (i ^^^ 2 ^ a).testBit a = !i.testBit a := by rw [Kd]; simp
theorem xx (i a : Nat) : i ^^^ a ^^^ a = i := by rw [Nat.xor_assoc, Nat.xor_self, Nat.xor_zero]
theorem uA {n : Nat} {q : GQ} (h : gok n q) (i : Nat) : mvA q (mvA q i) = i := by
 obtain ⟨h1, h2, h3⟩ := h
 unfold mvA
 by_cases e1 : q.1 = 1 ∨ q.1 = 2
 ·simp only [if_pos e1]; exact xx ..
 simp only [if_neg e1]
 by_cases e2 : q.1 = 9
 ·have hne := (h2 (Or.inl e2)).2
  simp only [if_pos e2]
  by_cases hb : i.testBit q.2.1.toNat = true
  ·simp only [if_pos hb, vK hne, hb, if_true]; exact xx ..
  ·simp only [if_neg hb]
 simp only [if_neg e2]
 by_cases e3 : q.1 = 11
 ·have hne := (h2 (Or.inr (Or.inr e3))).2
  simp only [if_pos e3]
  by_cases hb : (i.testBit q.2.1.toNat != i.testBit q.2.2.1.toNat) = true
  ·have hb' : ((i ^^^ 2 ^ q.2.1.toNat ^^^ 2 ^ q.2.2.1.toNat).testBit q.2.1.toNat != (i ^^^ 2 ^ q.2.1.toNat ^^^ 2 ^ q.2.2.1.toNat).testBit q.2.2.1.toNat) = true := by
    rw [vK hne, qq, qq, vK hne.symm]; simpa using hb
   simp only [if_pos hb, if_pos hb']
   rw [Nat.xor_assoc i, Nat.xor_comm (2 ^ q.2.1.toNat), ← Nat.xor_assoc, xx, xx]
  ·simp only [if_neg hb]
 simp only [if_neg e3]
 by_cases e4 : q.1 = 12
 ·obtain ⟨_, g1, g2⟩ := h3 e4
  simp only [if_pos e4]
  by_cases hb : (i.testBit q.2.1.toNat && i.testBit q.2.2.1.toNat) = true
  ·simp only [if_pos hb, vK g1, vK g2, hb, if_true]; exact xx ..
  ·simp only [if_neg hb]
 simp only [if_neg e4]
theorem D9 (a b c d : Z4) : adz (adz a b) (adz c d) = adz (adz a c) (adz b d) := by
 unfold adz; apply fL <;> simp only <;> omega
theorem HP (c x : Z4) : mlz c (ngz x) = ngz (mlz c x) := by
 rw [u9, u9, ← gF, j8 c, gF]
theorem vL (a b x : Z4) : mlz a (mlz b x) = mlz b (mlz a x) := by rw [← gF, j8 a, gF]
theorem JJ (q : GQ) (c : Z4) (f : Amp) (r : Nat) : gz q (fun i => mlz c (f i)) r = mlz c (gz q f r) := by
 unfold gz
 split
 ·split <;> simp only [HD, HP]
 ·rw [vL]
theorem xM (L : List GQ) (c : Z4) : ∀ (f : Amp), gzs L (fun i => mlz c (f i)) = fun r => mlz c (gzs L f r) := by
 induction L with
 | nil => intro f; rfl
 | cons q L ih =>
  intro f
  rw [D8, show gz q (fun i => mlz c (f i)) = fun r => mlz c (gz q f r) from funext (JJ q c f), ih]
  rfl
theorem Ke (x : Z4) : rt x = mlz (0, 1, 0, -1) x := by unfold mlz rt; apply fL <;> simp only <;> omega
def rz : Nat → Z4
 | 0 => (1, 0, 0, 0)
 | k + 1 => mlz (0, 1, 0, -1) (rz k)
theorem JK (k : Nat) (x : Z4) : rtn k x = mlz (rz k) x := by
 induction k with
 | zero => rw [rz, wO]; rfl
 | succ k ih => show rt (rtn k x) = _; rw [rz, gF, ← ih, Ke]
theorem xN (L : List GQ) (k : Nat) (f : Amp) : gzs L (fun i => rtn k (f i)) = fun r => rtn k (gzs L f r) := by
 simp only [JK]; exact xM L _ f
theorem DA {n : Nat} {q : GQ} (h : gok n q) {f g : Amp} (e : ∀ i, i < 2 ^ n → f i = g i) {r : Nat} (hr : r < 2 ^ n) : gz q f r = gz q g r := by
 unfold gz
 rw [e _ (sL h hr), e _ (xlt hr h.1), e _ hr]
theorem tQ {n : Nat} : ∀ {L : List GQ}, (∀ q ∈ L, gok n q) → ∀ {f g : Amp}, (∀ i, i < 2 ^ n → f i = g i) → ∀ {r : Nat}, r < 2 ^ n → gzs L f r = gzs L g r
 | [], _, f, g, e, r, hr => e r hr
 | q :: L, h, f, g, e, r, hr => tQ (L := L) (fun x hx => h x (List.mem_cons_of_mem _ hx)) (fun i hi => DA (h q (List.mem_cons_self ..)) e hi) hr
def bdv (M : Int) (f : Amp) : Prop := ∀ i, bdz M (f i)
theorem Kf {M : Int} {f : Amp} (h : bdv M f) (q : GQ) : bdv (if q.1 = 4 then 2 * M else M) (gz q f) := by
 intro r
 unfold gz
 split
 ·rename_i e
  split
  ·rw [show 2 * M = M + M by omega]; exact nT (h _) (qc (h _))
  ·rw [show 2 * M = M + M by omega]; exact nT (h _) (h _)
 ·exact vH _ (h _)
def dl (c : Nat) : Amp := fun i => if i = c then (1, 0, 0, 0) else (0, 0, 0, 0)
theorem Kg (c : Nat) : bdv 1 (dl c) := by
 intro i; unfold dl bdz; split <;> simp
def Lr (n : Nat) (A B : List GQ) (k : Nat) : Prop := ∀ (f : Amp) (r : Nat), r < 2 ^ n → rtn (hc B) (gzs A f r) = rtn (hc A) (mlz (oz k) (gzs B f r))
def Sim (n : Nat) (A B : List GQ) : Prop := ∃ k, Lr n A B k
theorem Sim.refl (n : Nat) (A : List GQ) : Sim n A A := ⟨0, fun f r _ => by rw [Ka]⟩
theorem Sim.symm {n : Nat} {A B : List GQ} (h : Sim n A B) : Sim n B A := by
 obtain ⟨k, h⟩ := h
 refine ⟨7 * k, fun f r hr => ?_⟩
 have e := h f r hr
 rw [mq, e, ← mq, ← gF, D4, vG (a := 7 * k + k) (b := 0) (by omega), Ka]
theorem Sim.trans {n : Nat} {A B C : List GQ} (h : Sim n A B) (g : Sim n B C) : Sim n A C := by
 obtain ⟨k, h⟩ := h
 obtain ⟨j, g⟩ := g
 refine ⟨k + j, fun f r hr => ?_⟩
 have e1 := h f r hr
 have e2 := g f r hr
 refine px (hc B) ?_
 rw [kK, e1, kK, mq, e2, ← mq, ← gF, D4, kK]
theorem Sim.post {n : Nat} {A B : List GQ} (h : Sim n A B) {C : List GQ} (hC : ∀ q ∈ C, gok n q) : Sim n (A ++ C) (B ++ C) := by
 obtain ⟨k, h⟩ := h
 refine ⟨k, fun f r hr => ?_⟩
 rw [sK, sK, tP, tP, Nat.add_comm (hc B), Nat.add_comm (hc A), ← cp, ← cp]
 congr 1
 have e1 : gzs C (fun i => rtn (hc B) (gzs A f i)) r = rtn (hc B) (gzs C (gzs A f) r) := by rw [xN]
 have e2 : gzs C (fun i => rtn (hc A) (mlz (oz k) (gzs B f i))) r = rtn (hc A) (mlz (oz k) (gzs C (gzs B f) r)) := by rw [xN, xM]
 rw [← e1, ← e2]
 exact tQ hC (fun i hi => h f i hi) hr
end Go.Proofs.YtbfmljdablopjaaGreat
