/- Marks of tables of slices: the functions of the statements that write into all of a [][]T, handed over by reference. -/
import Derived.Test.YtoleoojcodlciaaGu
import Derived.Test.YtoleoojcodlciaaK1
import Derived.Test.YtoleoojcodlciaaK7
namespace Go.Proofs.Ytoleoojcodlciaa
open Go.RowKit
set_option maxRecDepth 100000
set_option linter.unusedVariables false
set_option linter.unusedSimpArgs false
set_option maxHeartbeats 4000000
section
variable {P : Program} {α : Type} {E sz E1 : Nat} {e : α → List AV}
theorem ownF_set : ∀ (k : Nat) (le : List (List α)) (j : Nat) (q q' : List α), le[j]? = some q → q'.length = q.length → ownF k (le.set j q') = ownF k le
  | k, [], j, q, q', h, _ => by simp at h
  | k, x :: l, 0, q, q', h, hl => by
    simp only [List.getElem?_cons_zero, Option.some.injEq] at h
    subst h
    simp only [List.set_cons_zero, ownF, hl]
  | k, x :: l, j + 1, q, q', h, hl => by
    simp only [List.set_cons_succ, ownF, ownF_set (k + 1) l j q q' (by simpa using h) hl]
theorem rows0 (a : Row) (l : List Row) : rowsOf (a :: l) = addRows (mkR [(0, a)]) 1 l := by
  funext s
  rw [addRows_get]
  cases s with
  | zero => rw [if_neg (by omega)]; simp [rowsOf, mkR, upd]
  | succ s =>
    by_cases h : s < l.length
    · rw [if_pos (by omega)]; simp [rowsOf]
    · rw [if_neg (by omega)]
      simp [rowsOf, mkR, upd]
      omega
variable {BR : Nat → Bool} {ops : List Oper} {T : Nat → AV} {R : Nat → Option Row} {bs i b : Nat} {l : List Oper} {K : St → Prop} {f : FuncId} {dst : Option Tmp}
/-- A call that is handed one row of a table by reference. -/
theorem rR_one {le : List (List α)} {q q' : List α} {kk k2 : IntKind} {m z : Int} {kf j : Nat} (hq : le[j]? = some q) (hS : Spec P f [.own 0 q.length, .int kk m] [.row E sz (encL e q)] (.int k2 z) [.row E sz (encL e q')])
    (hK : aRun P BR ops bs (i + 1) l ((⟨T, addRows R kf (rowsL E sz e (le.set j q')), b⟩ : St).put dst (.int k2 z)) K) : rR P BR ops bs i l ⟨T, addRows R kf (rowsL E sz e le), b⟩ K f [.own (kf + j) q.length, .int kk m] dst := by
  have hrow : addRows R kf (rowsL E sz e le) (kf + j) = some (.row E sz (encL e q)) := row_at hq
  refine rR_g [kf + j] hS ?_ ?_ (by simp) (fun s hs => ?_) (by simp) (fun j hj => by simp at hj) ?_
  · simp only [List.map_cons, List.map_nil, passT2, passT1, findI, if_pos rfl, pass1]
    exact ⟨⟨rfl, rfl⟩, ⟨rfl, rfl⟩, trivial⟩
  · simp only [List.map_cons, List.map_nil, passRow]
    rw [hrow]
    exact ⟨⟨rfl, rfl, rfl⟩, trivial⟩
  · have : s = kf + j := by simpa using hs
    subst this
    show solidO (addRows R kf (rowsL E sz e le) (kf + j))
    rw [hrow]; trivial
  · have e0 : ren3 (mId [kf + j] (bs + 16 * i)) (.int k2 z) = .int k2 z := rfl
    rw [e0]
    have e1 : rowsAfter [kf + j] (bs + 16 * i) (addRows R kf (rowsL E sz e le)) [.row E sz (encL e q')] = addRows R kf (rowsL E sz e (le.set j q')) := by
      unfold rowsAfter
      simp only [List.length_cons, List.length_nil, Nat.zero_add, List.take_succ_cons, List.take_zero, List.drop_succ_cons, List.drop_zero, List.map_cons, List.map_nil, Row.ren, setRowsI, addRows]
      funext t
      obtain ⟨hlt, he⟩ := List.getElem?_eq_some_iff.1 hq
      by_cases ht : t = kf + j
      · subst ht
        rw [upd_same, row_at (x := q') (by rw [List.getElem?_set_self hlt])]
      · rw [upd_ne _ _ ht, addRows_get, addRows_get, rowsL_len, rowsL_len, List.length_set]
        by_cases hc : kf ≤ t ∧ t < kf + le.length
        · rw [if_pos hc, if_pos hc]
          simp only [rowsL, List.getElem?_map]
          rw [List.getElem?_set_ne (by omega)]
        · rw [if_neg hc, if_neg hc]
    show aRun P BR ops bs (i + 1) l ((⟨T, rowsAfter _ _ (addRows R kf (rowsL E sz e le)) _, b⟩ : St).put dst (.int k2 z)) K
    rw [e1]
    exact hK
variable {C : Ctx}
/-- A table and its rows, named by place. -/
def RF {α : Type} (E1 E sz : Nat) (e : α → List AV) (v : List (List α)) : Nat → Option Row := addRows (mkR [(0, .tab E1 1 (ownF 1 v))]) 1 (rowsL E sz e v)
def gm1 (n : Nat) : GMap := fun s => if s < 1 + n then some (some s) else none
theorem gm1_0 (n : Nat) : gm1 n 0 = some (some 0) := by unfold gm1; rw [if_pos (by omega)]
theorem RF_cases {v : List (List α)} {s : Nat} {r : Row} (h : RF E1 E sz e v s = some r) : (s = 0 ∧ r = .tab E1 1 (ownF 1 v)) ∨ (1 ≤ s ∧ s < 1 + v.length ∧ ∃ x, r = .row E sz (encL e x)) := by
  unfold RF at h
  rw [addRows_get, rowsL_len] at h
  by_cases hc : 1 ≤ s ∧ s < 1 + v.length
  · rw [if_pos hc] at h
    obtain ⟨x, hx⟩ : ∃ x, v[s - 1]? = some x := ⟨_, List.getElem?_eq_getElem (by omega)⟩
    simp only [rowsL, List.getElem?_map, hx, Option.map_some, Option.some.injEq] at h
    exact .inr ⟨hc.1, hc.2, x, h.symm⟩
  · rw [if_neg hc] at h
    simp only [mkR] at h
    by_cases h0 : s = 0
    · subst h0; rw [upd_same] at h; injection h with h; exact .inl ⟨rfl, h.symm⟩
    · rw [upd_ne _ _ h0] at h; cases h
theorem RF_none {v : List (List α)} {s : Nat} (h : RF E1 E sz e v s = none) : ¬ s < 1 + v.length := by
  unfold RF at h
  rw [addRows_get, rowsL_len] at h
  intro hs
  by_cases h0 : s = 0
  · subst h0
    rw [if_neg (by omega)] at h
    simp only [mkR, upd_same] at h
    cases h
  · rw [if_pos (by omega), List.getElem?_eq_none_iff, rowsL_len] at h
    omega
theorem Le_RF {k b' : Nat} {lt : List (Nat × AV)} {v : List (List α)} (hρ : ∀ s, k ≤ s → C.ρ0 s = none) (hk : k = 1 + v.length) (hT : leT (gm1 v.length) (fzF [] (RF E1 E sz e v)) T lt) : Le C ⟨T, RF E1 E sz e v, b⟩ ⟨mkT lt, RF E1 E sz e v, b'⟩ := by
  refine Le_gen (gm1 v.length) [] hρ (fun s hs => ?_) (fun s t u r r' h1 _ h2 _ e1 e2 => ?_) (fun _ _ _ _ _ _ h => by cases h) (fun s hs => ?_) (fun t => leT_get hT t) (fun s r hs => ?_)
  · unfold gm1; rw [if_pos (by omega)]
  · unfold gm1 at e1 e2
    split at e1
    · split at e2
      · injection e1 with e1; injection e1 with e1
        injection e2 with e2; injection e2 with e2
        omega
      · cases e2
    · cases e1
  · unfold gm1; rw [if_neg (RF_none hs)]
  · rcases RF_cases hs with ⟨rfl, rfl⟩ | ⟨h1, h2, x, rfl⟩
    · rw [gm1_0]
      show rowR _ _ (RF E1 E sz e v 0) _
      rw [hs]
      exact ⟨rfl, rfl, cvL_own (hKu 1) (fun i hi => by unfold gm1; rw [if_pos (by omega)]; rfl) (ownF_len _ _) (fun i x hx => by rw [ownF_get, hx]; rfl)⟩
    · unfold gm1
      rw [if_pos h2]
      show rowR _ _ (RF E1 E sz e v s) _
      rw [hs]
      exact ⟨rfl, rfl, rfl⟩
theorem RF_set {v : List (List α)} {j : Nat} {q q' : List α} (h : v[j]? = some q) (hl : q'.length = q.length) : addRows (mkR [(0, .tab E1 1 (ownF 1 v))]) 1 (rowsL E sz e (v.set j q')) = RF E1 E sz e (v.set j q') := by
  unfold RF
  rw [ownF_set 1 v j q q' h hl]
theorem end_RF {fn : Func} {v : List (List α)} {k : Nat} {kk : IntKind} {m : Int} (hk : k = 1 + v.length) (hres : resA P ⟨T, RF E1 E sz e v, b⟩ fn.results.toList = some [.int kk m]) : (Exit.ret = .normal ∨ Exit.ret = .ret) ∧ EndA P fn k (.int kk m) (.tab E1 1 (ownF 1 v) :: rowsL E sz e v) ⟨T, RF E1 E sz e v, b⟩ := by
  refine ⟨.inr rfl, _, 0 :: List.range' 1 v.length, hres, ?_, fun j hj => ?_, rfl, ?_⟩
  · refine List.nodup_cons.2 ⟨fun hm => ?_, List.nodup_range'⟩
    have := (List.mem_range'_1.1 hm).1
    omega
  · cases j with
    | zero => rfl
    | succ j =>
      rw [List.getElem?_cons_succ, List.getElem?_range' (by omega)]
      congr 1; omega
  · have hF : FamAt E sz e 1 v (RF E1 E sz e v) := famAt_add
    simp only [List.map_cons, map_range hF]
    congr 1
    have h0 : RF E1 E sz e v 0 = some (.tab E1 1 (ownF 1 v)) := by unfold RF; rw [add_lt (by omega)]; rfl
    simp only [passRow, h0]
    rw [own_pass (k := 1) (k2 := 1) (fun i hi => ?_)]
    simp only [findI, findI_range v.length 1 i hi]
    rw [if_neg (by omega), Nat.add_comm]
end
def l_markGateSS_l1 : Nat → List (LQ) → Int → Int → Option (Int × List (LQ))
  | 0, _, _, _ => none
  | n + 1, v, k, i => br (decide (i < (v.length : Int))) (bO (geti v i) fun q => bO (l_markGateS q k) fun x => gd (decide (x.2.length = q.length)) (l_markGateSS_l1 n (v.set (Int.toNat i) x.2) x.1 (IntKind.wrap .i64 (i + 1)))) (some (k, v))
def l_markGateSS (a : List (LQ)) (k : Int) : Option (Int × List (LQ)) := l_markGateSS_l1 FU a k 0
theorem l_markGateSS_ok {a1 : List (LQ)} {a2 : Int} {r : Int × List (LQ)} (h : l_markGateSS a1 a2 = some r) :
    Spec Try.prog 17 [.own 0 a1.length, .int .i64 a2] (.tab 40 1 (ownF 1 a1) :: rowsL 86 4 EIIII a1) (.int .i64 r.1) (.tab 40 1 (ownF 1 r.2) :: rowsL 86 4 EIIII r.2) := by
  unfold l_markGateSS at h
  refine SO Try.func17 rfl Try.ntmps17 fun C hN hρ => ?_
  simp only [st0, tmps0, Nat.zero_add, Nat.reduceAdd]
  rw [rows0]
  have hl0 : (Row.tab 40 1 (ownF 1 a1) :: rowsL 86 4 EIIII a1).length = 1 + a1.length := by rw [List.length_cons, rowsL_len]; omega
  have hk : ∀ v : List (LQ), v.length = a1.length → (Row.tab 40 1 (ownF 1 a1) :: rowsL 86 4 EIIII a1).length = 1 + v.length := fun v hv => by rw [hl0, hv]
  generalize (Row.tab 40 1 (ownF 1 a1) :: rowsL 86 4 EIIII a1).length = kk at hρ hk ⊢
  have R0 : ∀ v : List (LQ), RF 40 86 4 EIIII v 0 = some (.tab 40 1 (ownF 1 v)) := fun v => by unfold RF; rw [add_lt (by omega)]; rfl
  show AW _ _ _ ⟨_, RF 40 86 4 EIIII a1, _⟩ _
  refine AN hN ?_
  refine AW_cutK (fun S => ∃ (v : List (LQ)) (k : Int), S = ⟨mkT [(1, .int .i64 k)], RF 40 86 4 EIIII v, 64⟩ ∧ v.length = a1.length ∧ some (k, v) = some r) ?_ ?_
  · refine AN hN ?_
    refine AW_block ?_
    refine AW_loopF (fun n S => ∃ (v : List (LQ)) (k i : Int), S = ⟨mkT [(0, .own 0 v.length), (1, .int .i64 k), (5, .int .i64 i)], RF 40 86 4 EIIII v, 64⟩ ∧ v.length = a1.length ∧ l_markGateSS_l1 n v k i = some r) FU ?_ ?_ ?_
    · exact cutL ⟨_, _, _, rfl, rfl, h⟩ (Le_RF hρ (hk _ rfl) (by simp only [AL, EV, seval, gm1_0]))
    · rintro S ⟨_, _, _, _, _, h⟩; rw [l_markGateSS_l1] at h; cases h
    · rintro n1 S ⟨v, k, i, rfl, hv, h⟩
      rw [l_markGateSS_l1] at h
      refine AW_seq ?_
      refine AN hN ?_
      refine AB h (fun hc h => ?_) fun hc h => ?_
      · refine AW_skip (AK ?_)
        refine AW_seq ?_
        refine AW_block ?_
        refine AS hN fun K hK => ?_
        obtain ⟨q, hq, h⟩ := bO_inv h
        obtain ⟨⟨ha, hb⟩, hc'⟩ := geti_T 1 hq
        obtain ⟨x, hx, h⟩ := bO_inv h
        obtain ⟨hl, h⟩ := gd_inv h
        replace hl := of_decide_eq_true hl
        have hq2 := (geti_inv hq).2
        simp only [EV, seval, R0, ha, hb, hc']
        unfold RF
        refine rR_one hq2 (l_markGateS_ok hx) ?_
        rw [RF_set hq2 hl]
        simp only [EV, seval]
        refine hK _ _ _ (show AW _ _ _ _ _ from ?_)
        refine AS hN fun K hK => ?_
        simp only [EV, seval]
        have hv2 : (v.set (Int.toNat i) x.2).length = a1.length := by rw [List.length_set]; exact hv
        exact hK _ _ _ (cutL ⟨_, _, _, rfl, hv2, h⟩ (Le_RF hρ (hk _ hv2) (by simp only [AL, EV, seval, gm1_0, List.length_set])))
      · exact AW_exit (cutL ⟨_, _, rfl, hv, h⟩ (Le_RF hρ (hk _ hv) (by simp only [AL, EV, seval, gm1_0])))
  · rintro S ⟨v, k, rfl, hv, h⟩
    refine AN hN ?_
    injection h with h; subst h
    exact AW_le (Le_RF (lt := [(4, .int .i64 k)]) (b' := 64) hρ (hk _ hv) (by simp only [AL, EV, seval, gm1_0])) (AW_ret (end_RF (hk _ hv) (by simp only [EV, Try.results17, seval])))
end Go.Proofs.Ytoleoojcodlciaa
