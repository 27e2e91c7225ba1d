/- Contracts on tableaux: the helpers of the exact laws, EqualTableau. -/
import Derived.Test.YtfpfalknddfejaaWq
import Derived.Test.YtfpfalknddfejaaMake
namespace Go.Proofs.Ytfpfalknddfejaa
open Go.RowKit Pop
set_option maxRecDepth 100000
set_option linter.unusedVariables false
set_option linter.unusedSimpArgs false

/-- What a call says that returns a struct of an int and a new slice. -/
def RetT (E : TypeId) (n : Int) (l : List Quad) (w : World) (e : Ending) (w' : World) : Prop :=
  ∃ A c, e = .returned (.agg #[.int .i64 n, .slice A l.length c]) ∧ OwnQ w' w.heap.size E (.slice A l.length c) l ∧ Below w.heap.size w w'
/-- The same, as what a region's theorem says of a new thing. -/
def TabΨ (E : TypeId) (n : Int) (l : List Quad) (b t : Nat) (u : Value) (w : World) : Prop := ∃ A c, u = .agg #[.int .i64 n, .slice A l.length c] ∧ OwnQ w b E (.slice A l.length c) l
theorem TabΨ.stable {E : TypeId} {n : Int} {l : List Quad} {b t : Nat} {u : Value} {w w' : World} (h : TabΨ E n l b t u w) (_ : t ≤ w.heap.size) (hb : Below w.heap.size w w') : TabΨ E n l b t u w' := by
  obtain ⟨A, c, rfl, ho⟩ := h
  exact ⟨A, c, rfl, ho.below hb⟩
theorem RetT.made {P : Program} {f : FuncId} {args : Array Value} {E : TypeId} {n : Int} {l : List Quad} {w : World} (h : Calls P f args w (RetT E n l w)) :
    Calls P f args w fun e w' => ∃ u, e = .returned u ∧ Below w.heap.size w w' ∧ TabΨ E n l w.heap.size w'.heap.size u w' :=
  h.mono fun _ _ ⟨A, c, he, ho, hb⟩ => ⟨_, he, hb, A, c, rfl, ho⟩
def teq (n : Int) (l : List Quad) (m : Int) (r : List Quad) : Bool := decide (n = m) && lqeq l r
@[go_sem] theorem teq_refl (n : Int) (l : List Quad) : teq n l n l = true := by simp [teq, lqeq_refl]

theorem szTableau_ok (N : Int) (A : Option Addr) (n c : Nat) (left : Int) (w : World) (h : (n : Int) ≤ left) (hl : left ≤ 1048576) :
    Calls Try.prog 15 #[.agg #[.int .i64 N, .slice A n c], .int .i64 left] w fun e w' => e = .returned (.int .i64 (left - n)) ∧ Below w.heap.size w w' := by
  go_enter Try.func15, Try.ntmps15
  go_wp2_with fail
  refine (szPauliS_ok _ _ _ _ _ h hl).mono ?_
  rintro e w' ⟨rfl, hw'⟩
  rw [hw']
  clear hw' w'
  go_wp2_with fail
  go_ret
  refine ⟨rfl, ?_⟩
  repeat' (first | (with_reducible exact Below.refl _ _) | (with_reducible refine below_drewN ?_ _) | (with_reducible refine Below.drew ?_) | (with_reducible refine Below.alloc ?_ ?_ _) | (with_reducible refine Below.setCell ?_ ?_ _) | (with_reducible refine Below.trans ?_ (Below.mono (by with_reducible assumption) ?_)) | go_size | (with_reducible refine Nat.le_trans ?_ (Below.size (by with_reducible assumption))))
theorem szTableau_big (N : Int) (A : Option Addr) (n c : Nat) (left : Int) (w : World) (h : left < (n : Int)) (h0 : 0 ≤ left) (hn : n ≤ maxLen) :
    Calls Try.prog 15 #[.agg #[.int .i64 N, .slice A n c], .int .i64 left] w fun e w' => e = .returned (.int .i64 (-1)) ∧ Below w.heap.size w w' := by
  have Hn := Lib.hid hn; clear hn
  go_enter Try.func15, Try.ntmps15
  go_wp2_with fail
  refine (szPauliS_big _ _ _ _ _ h h0 Hn.out).mono ?_
  rintro e w' ⟨rfl, hw'⟩
  rw [hw']
  clear hw' w'
  go_wp2_with fail
  go_ret
  refine ⟨rfl, ?_⟩
  repeat' (first | (with_reducible exact Below.refl _ _) | (with_reducible refine below_drewN ?_ _) | (with_reducible refine Below.drew ?_) | (with_reducible refine Below.alloc ?_ ?_ _) | (with_reducible refine Below.setCell ?_ ?_ _) | (with_reducible refine Below.trans ?_ (Below.mono (by with_reducible assumption) ?_)) | go_size | (with_reducible refine Nat.le_trans ?_ (Below.size (by with_reducible assumption))))
theorem toTableau_any (N : Int) (A : Option Addr) (n c : Nat) (l : List Quad) (w : World) (ha : SlQ w A n l) (hn : n ≤ 1048576) :
    Calls Try.prog 17 #[.agg #[.int .i64 N, .slice A n c]] w (RetT 28 N l w) := by
  go_enter Try.func17, Try.ntmps17
  go_wp2_with fail
  refine (toPauliS_any A n c l _ (by exact ((ha.alloc _).alloc _).alloc _) hn).mono ?_
  rintro e w1 ⟨A1, c1, rfl, o1, b1⟩
  obtain ⟨hc1, hf1⟩ := bcell b1
  have hz1 := b1.size
  try simp only [World.size_alloc, World.size_setCell, World.size_drew, World.heap_drewN] at hz1
  have hl1a : w.heap.size < w1.heap.size := by omega
  have hl1b : w.heap.size + 1 < w1.heap.size := by omega
  have hl1c : w.heap.size + 1 + 1 < w1.heap.size := by omega
  go_wp2_with fail
  refine bodyPost_ret (v := .agg #[.int .i64 N, .slice A1 l.length c1]) (by simp [results, Try.results17, go_sem, *]) rfl ⟨A1, c1, rfl, ?_, ?_⟩
  · exact (((o1.setLow (by simp) _).setLow (by simp) _).setLow (by simp) _).mono (by simp; omega)
  · repeat' (first | (with_reducible exact Below.refl _ _) | (with_reducible refine below_drewN ?_ _) | (with_reducible refine Below.drew ?_) | (with_reducible refine Below.alloc ?_ ?_ _) | (with_reducible refine Below.setCell ?_ ?_ _) | (with_reducible refine Below.trans ?_ (Below.mono (by with_reducible assumption) ?_)) | go_size | (with_reducible refine Nat.le_trans ?_ (Below.size (by with_reducible assumption))))
theorem eqTableau_any (N M : Int) (A B : Option Addr) (n m c d : Nat) (l r : List Quad) (w : World) (ha : SlQ w A n l) (hb : SlQ w B m r) (hn : n ≤ 1048576) :
    Calls Try.prog 21 #[.agg #[.int .i64 N, .slice A n c], .agg #[.int .i64 M, .slice B m d]] w fun e w' => e = .returned (.bool (teq N l M r)) ∧ Below w.heap.size w w' := by
  by_cases hN : N = M
  · subst hN
    cases hq : lqeq l r with
    | true =>
      go_enter Try.func21, Try.ntmps21
      go_wp2_with fail
      refine (eqPauliS_any A B n m c d l r _ ((ha.alloc _).alloc _) ((hb.alloc _).alloc _) hn).mono ?_
      rintro e w1 ⟨rfl, b1⟩
      go_wp2_with fail
      go_ret
      refine ⟨ret_bool (by simp [teq, hq]), ?_⟩
      repeat' (first | (with_reducible exact Below.refl _ _) | (with_reducible refine below_drewN ?_ _) | (with_reducible refine Below.drew ?_) | (with_reducible refine Below.alloc ?_ ?_ _) | (with_reducible refine Below.setCell ?_ ?_ _) | (with_reducible refine Below.trans ?_ (Below.mono (by with_reducible assumption) ?_)) | go_size | (with_reducible refine Nat.le_trans ?_ (Below.size (by with_reducible assumption))))
    | false =>
      go_enter Try.func21, Try.ntmps21
      go_wp2_with fail
      refine (eqPauliS_any A B n m c d l r _ ((ha.alloc _).alloc _) ((hb.alloc _).alloc _) hn).mono ?_
      rintro e w1 ⟨rfl, b1⟩
      go_wp2_with fail
      go_ret
      refine ⟨ret_bool (by simp [teq, hq]), ?_⟩
      repeat' (first | (with_reducible exact Below.refl _ _) | (with_reducible refine below_drewN ?_ _) | (with_reducible refine Below.drew ?_) | (with_reducible refine Below.alloc ?_ ?_ _) | (with_reducible refine Below.setCell ?_ ?_ _) | (with_reducible refine Below.trans ?_ (Below.mono (by with_reducible assumption) ?_)) | go_size | (with_reducible refine Nat.le_trans ?_ (Below.size (by with_reducible assumption))))
  · have h1 : (N != M) = true := by simp [hN]
    go_enter Try.func21, Try.ntmps21
    go_wp2_with fail
    go_ret
    refine ⟨ret_bool (by simp [teq, hN]), ?_⟩
    repeat' (first | (with_reducible exact Below.refl _ _) | (with_reducible refine below_drewN ?_ _) | (with_reducible refine Below.drew ?_) | (with_reducible refine Below.alloc ?_ ?_ _) | (with_reducible refine Below.setCell ?_ ?_ _) | (with_reducible refine Below.trans ?_ (Below.mono (by with_reducible assumption) ?_)) | go_size | (with_reducible refine Nat.le_trans ?_ (Below.size (by with_reducible assumption))))
theorem guard_pauli (op : BinOp) (x y : Operand) (xs ys : Array Value) (W : World) : (eqGuard op 28 x y (.agg xs) (.agg ys)).run Try.prog W = .ok () W :=
  run_eqGuard_agg W op 28 x y xs ys (by kernel_rfl)
theorem eql_pauli (a0 a1 a2 a3 b0 b1 b2 b3 : Int) (W : World) : (binOp .eql 28 (.agg #[.int .i64 a0, .int .i64 a1, .int .i64 a2, .int .i64 a3]) (.agg #[.int .i64 b0, .int .i64 b1, .int .i64 b2, .int .i64 b3])).run Try.prog W = .ok (.bool (qeq (a0, a1, a2, a3) (b0, b1, b2, b3))) W := by
  have hp : Try.prog.stoodInHeld 28 = false := by kernel_rfl
  rw [run_eql_struct, run_equalIn_agg W 9999 28 _ _ (by simp [Program.fieldsOf, Try.underlying28]) hp, qeq_mk]
  simp [go_sem, Program.fieldsOf, Try.underlying28]
  repeat' split
  all_goals simp_all
theorem neq_pauli (a0 a1 a2 a3 b0 b1 b2 b3 : Int) (W : World) : (binOp .neq 28 (.agg #[.int .i64 a0, .int .i64 a1, .int .i64 a2, .int .i64 a3]) (.agg #[.int .i64 b0, .int .i64 b1, .int .i64 b2, .int .i64 b3])).run Try.prog W = .ok (.bool (!qeq (a0, a1, a2, a3) (b0, b1, b2, b3))) W := by
  have hp : Try.prog.stoodInHeld 28 = false := by kernel_rfl
  rw [run_neq_struct, run_equalIn_agg W 9999 28 _ _ (by simp [Program.fieldsOf, Try.underlying28]) hp, qeq_mk]
  simp [go_sem, Program.fieldsOf, Try.underlying28]
  repeat' split
  all_goals simp_all
theorem samePauli_any (A B : Option Addr) (n m c d : Nat) (l r : List Quad) (w : World) (ha : SlQ w A n l) (hb : SlQ w B m r) (hn : n ≤ 1048576) :
    Calls Try.prog 124 #[.slice A n c, .slice B m d] w fun e w' => e = .returned (.bool (lqeq l r)) ∧ Below w.heap.size w w' := by
  have hl := Lib.hid ha.1
  have hr := Lib.hid hb.1
  have hg := guard_pauli
  have hne := neq_pauli
  by_cases hnm : n = m
  · subst hnm
    go_enter Try.func124, Try.ntmps124
    go_wp2
    go_loopw [13] (fun i wr => ∃ k : Nat, k ≤ n ∧ i = .int .i64 k ∧ l.take k = r.take k ∧ Below w.heap.size w wr) (fun i _ => n - (intOf i).toNat)
    case atStart => exact ⟨0, by omega, rfl, by simp, Below.refl _ _⟩
    case round =>
      obtain ⟨k, hk, rfl, heq, hbel⟩ := hrel
      have Heq := Lib.hid heq; clear heq
      by_cases hlt : k < n
      · obtain ⟨ba, oa, a0, a1, a2, a3, rfl, la, ga, ca0, ca1, ca2, ca3⟩ := (ha.below hbel).at hlt
        obtain ⟨bb, ob, b0, b1, b2, b3, rfl, lb, gb, cb0, cb1, cb2, cb3⟩ := (hb.below hbel).at hlt
        have hk0 : (0 : Int) ≤ (k : Int) := Int.natCast_nonneg _
        have hk1 : (k : Int) < (n : Int) := by omega
        cases hq : qeq (a0, a1, a2, a3) (b0, b1, b2, b3) with
        | true =>
          have Hq := Lib.hid (qeq_true.1 hq)
          go_wp2_with fail
          refine wp_region_later (by kernel_rfl) (by kernel_rfl) ?_
          repeat (any_goals (first | go_big_quiet_step ((fail)) | quiet_step ((fail)) | (refine wpQuiet_step (fun K hK => ?_); go_simp; split <;> (refine hK _ ?_; clear hK K))))
          all_goals (refine wpQuiet_nil ?_; intro _ hw'; obtain ⟨x1, hw''⟩ := hw'; subst hw''; have b1 := later_below _ x1; generalize later _ x1 = w1 at *; clear x1)
          go_wp2
          go_roundw
          case rel => exact ⟨k + 1, by omega, by go_num, by rw [take_snoc_of ga.out, take_snoc_of gb.out, Heq.out, Hq.out], hbel.trans (b1.mono hbel.size)⟩
          case measure => simp [intOf]; omega
        | false =>
          have Hq := Lib.hid (qeq_false.1 hq)
          go_wp2_with fail
          refine wp_region_later (by kernel_rfl) (by kernel_rfl) ?_
          repeat (any_goals (first | go_big_quiet_step ((fail)) | quiet_step ((fail)) | (refine wpQuiet_step (fun K hK => ?_); go_simp; split <;> (refine hK _ ?_; clear hK K))))
          all_goals (refine wpQuiet_nil ?_; intro _ hw'; obtain ⟨x1, hw''⟩ := hw'; subst hw''; have b1 := later_below _ x1; generalize later _ x1 = w1 at *; clear x1)
          go_wp2
          go_ret
          refine ⟨ret_bool ?_, hbel.trans (b1.mono hbel.size)⟩
          symm; rw [lqeq_false]
          rintro rfl
          exact Hq.out (Option.some.inj (ga.out.symm.trans gb.out))
      · go_wp2
        go_ret
        refine ⟨ret_bool ?_, hbel⟩
        symm; rw [lqeq_true]
        have := Heq.out
        have e1 := hl.out
        have e2 := hr.out
        rwa [List.take_of_length_le (by omega), List.take_of_length_le (by omega)] at this
  · have hd : ((n : Int) == (m : Int)) = false := by simp; omega
    have hd2 : ((n : Int) != (m : Int)) = true := by simp; omega
    go_enter Try.func124, Try.ntmps124
    go_wp2
    go_ret
    refine ⟨ret_bool ?_, Below.refl _ _⟩
    symm; rw [lqeq_false]
    rintro rfl
    exact hnm (hl.out.symm.trans hr.out)
theorem equalTableau_impl (N M : Int) (A B : Option Addr) (n m c d : Nat) (l r : List Quad) (w : World) (ha : SlQ w A n l) (hb : SlQ w B m r) (hn : n ≤ 1048576) :
    Calls Try.prog 102 #[.agg #[.int .i64 N, .slice A n c], .agg #[.int .i64 M, .slice B m d]] w fun e w' => e = .returned (.bool (teq N l M r)) ∧ Below w.heap.size w w' := by
  by_cases hN : N = M
  · subst hN
    go_enter Try.func102, Try.ntmps102
    go_wp2_with fail
    refine (samePauli_any A B n m c d l r _ ((ha.alloc _).alloc _) ((hb.alloc _).alloc _) hn).mono ?_
    rintro e w1 ⟨rfl, b1⟩
    go_wp2_with fail
    go_ret
    refine ⟨ret_bool (by simp [teq]), ?_⟩
    repeat' (first | (with_reducible exact Below.refl _ _) | (with_reducible refine below_drewN ?_ _) | (with_reducible refine Below.drew ?_) | (with_reducible refine Below.alloc ?_ ?_ _) | (with_reducible refine Below.setCell ?_ ?_ _) | (with_reducible refine Below.trans ?_ (Below.mono (by with_reducible assumption) ?_)) | go_size | (with_reducible refine Nat.le_trans ?_ (Below.size (by with_reducible assumption))))
  · have h1 : (N == M) = false := by simp [hN]
    go_enter Try.func102, Try.ntmps102
    go_wp2_with fail
    go_ret
    refine ⟨ret_bool (by simp [teq, hN]), ?_⟩
    repeat' (first | (with_reducible exact Below.refl _ _) | (with_reducible refine below_drewN ?_ _) | (with_reducible refine Below.drew ?_) | (with_reducible refine Below.alloc ?_ ?_ _) | (with_reducible refine Below.setCell ?_ ?_ _) | (with_reducible refine Below.trans ?_ (Below.mono (by with_reducible assumption) ?_)) | go_size | (with_reducible refine Nat.le_trans ?_ (Below.size (by with_reducible assumption))))
set_option maxHeartbeats 1000000 in
theorem equalTableau_spec (N M : Int) (A B : Option Addr) (n m c d : Nat) (l r : List Quad) (w : World) (ha : SlQ w A n l) (hb : SlQ w B m r) (hn : n ≤ 1048576) :
    Calls Try.prog 47 #[.agg #[.int .i64 N, .slice A n c], .agg #[.int .i64 M, .slice B m d]] w fun e w' => e = .returned (.bool (teq N l M r)) ∧ Below w.heap.size w w' := by
  have hl := Lib.hid ha.1
  have hr := Lib.hid hb.1
  have hg := guard_pauli
  have hne := neq_pauli
  by_cases hN : N = M
  · subst hN
    by_cases hnm : n = m
    · subst hnm
      go_enter Try.func47, Try.ntmps47
      go_wp2
      have b0 : Below w.heap.size w ((w.alloc (.cells #[.int .i64 N, .slice A n c] 33)).alloc (.cells #[.int .i64 N, .slice B n d] 33)) := ((Below.refl _ _).alloc (Nat.le_refl _) _).alloc (by simp) _
      have c0 : ((w.alloc (.cells #[.int .i64 N, .slice A n c] 33)).alloc (.cells #[.int .i64 N, .slice B n d] 33)).heap[w.heap.size]? = some (.cells #[.int .i64 N, .slice A n c] 33 (0, 0)) := (Below.heap_alloc _ _ _ (by simp)).trans (heap_alloc_new w _)
      have c1 : ((w.alloc (.cells #[.int .i64 N, .slice A n c] 33)).alloc (.cells #[.int .i64 N, .slice B n d] 33)).heap[w.heap.size + 1]? = some (.cells #[.int .i64 N, .slice B n d] 33 (0, 0)) := by
        have := heap_alloc_new (w.alloc (.cells #[.int .i64 N, .slice A n c] 33)) (.cells #[.int .i64 N, .slice B n d] 33)
        simpa using this
      go_loopw [5] (fun i wr => ∃ k : Nat, k ≤ n ∧ i = .int .i64 k ∧ l.take k = r.take k ∧ Below w.heap.size w wr ∧ wr.heap[w.heap.size]? = some (.cells #[.int .i64 N, .slice A n c] 33 (0, 0)) ∧ wr.heap[w.heap.size + 1]? = some (.cells #[.int .i64 N, .slice B n d] 33 (0, 0)) ∧ w.heap.size + 1 < wr.heap.size) (fun i _ => n - (intOf i).toNat)
      case atStart => exact ⟨0, by omega, rfl, by simp, b0, c0, c1, by simp⟩
      case round =>
        clear b0 c0 c1
        obtain ⟨k, hk, rfl, heq, hbel, cc0, cc1, hsz⟩ := hrel
        have Heq := Lib.hid heq; clear heq
        obtain ⟨x0, x1, xf⟩ := blk2 cc0
        obtain ⟨y0, y1, yf⟩ := blk2 cc1
        have Cc0 := Lib.hid cc0; clear cc0
        have Cc1 := Lib.hid cc1; clear cc1
        have hsz0 : w.heap.size < wr.heap.size := by omega
        by_cases hlt : k < n
        · obtain ⟨ba, oa, a0, a1, a2, a3, hA, la, ga, ca0, ca1, ca2, ca3⟩ := (ha.below hbel).at hlt
          obtain ⟨bb, ob, b0, b1, b2, b3, hB, lb, gb, cb0, cb1, cb2, cb3⟩ := (hb.below hbel).at hlt
          subst hA hB
          have hk0 : (0 : Int) ≤ (k : Int) := Int.natCast_nonneg _
          have hk1 : (k : Int) < (n : Int) := by omega
          cases hq : qeq (a0, a1, a2, a3) (b0, b1, b2, b3) with
          | true =>
            have Hq := Lib.hid (qeq_true.1 hq)
            go_wp2_with fail
            refine wp_region_later (by kernel_rfl) (by kernel_rfl) ?_
            repeat (any_goals (first | go_big_quiet_step ((fail)) | quiet_step ((fail)) | (refine wpQuiet_step (fun K hK => ?_); go_simp; split <;> (refine hK _ ?_; clear hK K))))
            all_goals (refine wpQuiet_nil ?_; intro _ hw'; obtain ⟨x1, hw''⟩ := hw'; subst hw''; have b1 := later_below _ x1; generalize later _ x1 = w1 at *; clear x1)
            go_wp2
            go_roundw
            case rel => exact ⟨k + 1, by omega, by go_num, by rw [take_snoc_of ga.out, take_snoc_of gb.out, Heq.out, Hq.out], hbel.trans (b1.mono hbel.size), (b1.block _ hsz0).trans Cc0.out, (b1.block _ hsz).trans Cc1.out, Nat.lt_of_lt_of_le hsz b1.size⟩
            case measure => simp [intOf]; omega
          | false =>
            have Hq := Lib.hid (qeq_false.1 hq)
            go_wp2_with fail
            refine wp_region_later (by kernel_rfl) (by kernel_rfl) ?_
            repeat (any_goals (first | go_big_quiet_step ((fail)) | quiet_step ((fail)) | (refine wpQuiet_step (fun K hK => ?_); go_simp; split <;> (refine hK _ ?_; clear hK K))))
            all_goals (refine wpQuiet_nil ?_; intro _ hw'; obtain ⟨x1, hw''⟩ := hw'; subst hw''; have b1 := later_below _ x1; generalize later _ x1 = w1 at *; clear x1)
            go_wp2
            go_ret
            refine ⟨ret_bool ?_, hbel.trans (b1.mono hbel.size)⟩
            have : lqeq l r = false := by
              rw [lqeq_false]
              rintro rfl
              exact Hq.out (Option.some.inj (ga.out.symm.trans gb.out))
            simp [teq, this]
        · go_wp2
          go_ret
          refine ⟨ret_bool ?_, hbel⟩
          have : l = r := by
            have := Heq.out
            have e1 := hl.out
            have e2 := hr.out
            rwa [List.take_of_length_le (by omega), List.take_of_length_le (by omega)] at this
          simp [teq, this, lqeq_refl]
    · have hd : ((n : Int) == (m : Int)) = false := by simp; omega
      have hd2 : ((n : Int) != (m : Int)) = true := by simp; omega
      go_enter Try.func47, Try.ntmps47
      go_wp2
      go_ret
      refine ⟨ret_bool ?_, ?_⟩
      · have : lqeq l r = false := by
          rw [lqeq_false]
          rintro rfl
          exact hnm (hl.out.symm.trans hr.out)
        simp [teq, this]
      · repeat' (first | (with_reducible exact Below.refl _ _) | (with_reducible refine below_drewN ?_ _) | (with_reducible refine Below.drew ?_) | (with_reducible refine Below.alloc ?_ ?_ _) | (with_reducible refine Below.setCell ?_ ?_ _) | (with_reducible refine Below.trans ?_ (Below.mono (by with_reducible assumption) ?_)) | go_size | (with_reducible refine Nat.le_trans ?_ (Below.size (by with_reducible assumption))))
  · have h1 : (N != M) = true := by simp [hN]
    go_enter Try.func47, Try.ntmps47
    go_wp2
    go_ret
    refine ⟨ret_bool (by simp [teq, hN]), ?_⟩
    repeat' (first | (with_reducible exact Below.refl _ _) | (with_reducible refine below_drewN ?_ _) | (with_reducible refine Below.drew ?_) | (with_reducible refine Below.alloc ?_ ?_ _) | (with_reducible refine Below.setCell ?_ ?_ _) | (with_reducible refine Below.trans ?_ (Below.mono (by with_reducible assumption) ?_)) | go_size | (with_reducible refine Nat.le_trans ?_ (Below.size (by with_reducible assumption))))
end Go.Proofs.Ytfpfalknddfejaa
