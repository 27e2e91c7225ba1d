/- Contracts of the functions that draw: the cursor over bytes. -/
import Derived.Test.YtpahkbajeniajaaWb
import Derived.Test.YtpahkbajeniajaaMake
import Derived.Test.YtpahkbajeniajaaFr
import Derived.Test.YtpahkbajeniajaaIn
namespace Go.Proofs.Ytpahkbajeniajaa
open Go.RowKit Pop
set_option maxRecDepth 100000
set_option linter.unusedVariables false
set_option linter.unusedSimpArgs false
theorem heap_alloc_before {w : World} {o : Obj} {k : Nat} {X : Option Obj} (h : k < w.heap.size) (h2 : w.heap[k]? = X) : (w.alloc o).heap[k]? = X := (Below.heap_alloc w o k h).trans h2
theorem heap_alloc_at {w : World} {o : Obj} {k : Nat} (h : k = w.heap.size) : (w.alloc o).heap[k]? = some o := by subst h; exact heap_alloc_new w o

theorem blk3 {w : World} {g : Nat} {t : TypeId} {c0 c1 c2 : Value} (h : w.heap[g]? = some (.cells #[c0, c1, c2] t (0, 0))) :
    w.cell? ⟨g, 0, none⟩ = some c0 ∧ w.cell? ⟨g, 1, none⟩ = some c1 ∧ w.cell? ⟨g, 2, none⟩ = some c2 ∧ ∀ o, w.frozen? ⟨g, o, none⟩ = false :=
  ⟨cell_of_row w g 0 _ t (0, 0) h, cell_of_row w g 1 _ t (0, 0) h, cell_of_row w g 2 _ t (0, 0) h, fun o => frozen_of_row w g o _ t h⟩

/-- The bytes of a code lie below block B. -/
def BytesBelow (w : World) (B : Nat) (A : Option Addr) (n : Nat) (zs : List Int) : Prop :=
  zs.length = n ∧ (∀ z ∈ zs, 0 ≤ z ∧ z ≤ 255) ∧ (0 < n → ∃ b off, A = some ⟨b, off, none⟩ ∧ b < B ∧ ∀ j z, zs[j]? = some z → w.cell? ⟨b, off + j, none⟩ = some (.int .u8 z))
theorem BytesBelow.at {w : World} {B : Nat} {A : Option Addr} {n k : Nat} {zs : List Int} (h : BytesBelow w B A n zs) (hk : k < n) :
    ∃ (b off : Nat) (z : Int), A = some ⟨b, off, none⟩ ∧ b < B ∧ w.cell? ⟨b, off + k, none⟩ = some (.int .u8 z) ∧ 0 ≤ z ∧ z ≤ 255 := by
  obtain ⟨b, off, hA, hb, hc⟩ := h.2.2 (by omega)
  have hl : k < zs.length := by rw [h.1]; exact hk
  exact ⟨b, off, zs[k], hA, hb, hc k _ (List.getElem?_eq_getElem hl), h.2.1 _ (List.getElem_mem hl)⟩
theorem BytesBelow.mono {w : World} {B B' : Nat} {A : Option Addr} {n : Nat} {zs : List Int} (h : BytesBelow w B A n zs) (hB : B ≤ B') : BytesBelow w B' A n zs :=
  ⟨h.1, h.2.1, fun hn => by
    obtain ⟨b, off, hA, hb, hc⟩ := h.2.2 hn
    exact ⟨b, off, hA, by omega, hc⟩⟩
theorem BytesBelow.keep {w w' : World} {B : Nat} {A : Option Addr} {n : Nat} {zs : List Int} (h : BytesBelow w B A n zs) (hk : ∀ k, k < B → w'.heap[k]? = w.heap[k]?) : BytesBelow w' B A n zs :=
  ⟨h.1, h.2.1, fun hn => by
    obtain ⟨b, off, hA, hb, hc⟩ := h.2.2 hn
    exact ⟨b, off, hA, hb, fun j z hz => (World.cell?_of_block (hk b hb)).trans (hc j z hz)⟩⟩

/-- A cursor in block g. -/
def CurAt (w : World) (g : Nat) : Prop := ∃ (A : Option Addr) (n c : Nat) (i h : Int) (zs : List Int),
  w.heap[g]? = some (.cells #[.slice A n c, .int .i64 i, .int .i64 h] 102 (0, 0)) ∧ 0 ≤ i ∧ i ≤ n ∧ n ≤ 1048576 ∧ BytesBelow w g A n zs
theorem CurAt.lt {w : World} {g : Nat} (h : CurAt w g) : g < w.heap.size := by
  obtain ⟨A, n, c, i, h, zs, hg, _⟩ := h
  exact (Array.getElem?_eq_some_iff.1 hg).1
theorem CurAt.below {w w' : World} {g B : Nat} (h : CurAt w g) (hb : Below B w w') (hg : g < B) : CurAt w' g := by
  obtain ⟨A, n, c, i, h, zs, hh, h0, h1, h2, hz⟩ := h
  exact ⟨A, n, c, i, h, zs, (hb.block g hg).trans hh, h0, h1, h2, hz.keep fun k hk => hb.block k (by omega)⟩
theorem CurAt.alloc {w : World} {g : Nat} (h : CurAt w g) (o : Obj) : CurAt (w.alloc o) g := h.below ((Below.refl w.heap.size w).alloc (Nat.le_refl _) o) h.lt
theorem CurAt.set {w : World} {g : Nat} (h : CurAt w g) {a : Addr} (ha : g < a.block) (v : Value) : CurAt (w.setCell a v) g :=
  h.below ((Below.refl (g + 1) w).setCell (p := a) ha v) (Nat.lt_succ_self g)
/-- Only the cursor's block and new blocks have changed, and the cursor is whole. -/
def Drawn (g : Nat) (w w' : World) : Prop := CurAt w' g ∧ w.grownBy w' (some g)
theorem Drawn.cur {g : Nat} {w w' : World} (h : Drawn g w w') : CurAt w' g := h.1
theorem Drawn.refl {g : Nat} {w : World} (h : CurAt w g) : Drawn g w w := ⟨h, rfl, rfl, rfl, Nat.le_refl _, fun _ _ _ => rfl⟩
theorem Drawn.trans {g : Nat} {a b c : World} (h : Drawn g a b) (k : Drawn g b c) : Drawn g a c :=
  ⟨k.1, k.2.os.trans h.2.os, k.2.tape.trans h.2.tape, k.2.output.trans h.2.output, Nat.le_trans h.2.size k.2.size, fun i hi hne => (k.2.block i (Nat.lt_of_lt_of_le hi h.2.size) hne).trans (h.2.block i hi hne)⟩
theorem Drawn.below {g B : Nat} {w w' : World} (h : Drawn g w w') (hB : B ≤ g) (hs : B ≤ w.heap.size) : Below B w w' :=
  ⟨h.2.os, h.2.tape, h.2.output, h.2.size, fun k hk => h.2.block k (by omega) (by simp; omega)⟩
theorem Drawn.size {g : Nat} {w w' : World} (h : Drawn g w w') : w.heap.size ≤ w'.heap.size := h.2.size
theorem Drawn.of_below {g : Nat} {w w' : World} (h : CurAt w g) (hb : Below w.heap.size w w') : Drawn g w w' :=
  ⟨h.below hb h.lt, hb.os, hb.tape, hb.output, hb.size, fun k hk _ => hb.block k hk⟩
theorem Drawn.alloc {g : Nat} {w w' : World} (h : Drawn g w w') (o : Obj) : Drawn g w (w'.alloc o) := h.trans (Drawn.of_below h.cur ((Below.refl _ _).alloc (Nat.le_refl _) o))
theorem Drawn.setNew {g : Nat} {w w' : World} {a : Addr} (h : Drawn g w w') (ha : w.heap.size ≤ a.block ∧ g < w.heap.size) (v : Value) : Drawn g w (w'.setCell a v) :=
  ⟨h.cur.set (by omega) v, h.2.os, h.2.tape, h.2.output, by simpa using h.2.size, fun k hk hne => (Below.heap_setCell _ _ _ _ (by omega)).trans (h.2.block k hk hne)⟩
/-- The rules on old cells after a draw. -/
theorem Drawn.cells {g : Nat} {w w' : World} (h : Drawn g w w') : (∀ b o, b < w.heap.size → b ≠ g → w'.cell? ⟨b, o, none⟩ = w.cell? ⟨b, o, none⟩) ∧ (∀ b o, b < w.heap.size → b ≠ g → w'.frozen? ⟨b, o, none⟩ = w.frozen? ⟨b, o, none⟩) :=
  ⟨fun b o hb hne => World.cell?_of_block (h.2.block b hb (by simpa using hne)), fun b o hb hne => World.frozen?_of_block (h.2.block b hb (by simpa using hne))⟩

/-- A number below N is drawn. -/
def DrawI (N : Int) (g : Nat) (w : World) (e : Ending) (w' : World) : Prop := ∃ x : Int, e = .returned (.int .i64 x) ∧ 0 ≤ x ∧ x < N ∧ Drawn g w w'

theorem bits_and_255 (y : Int) : bits .and .i64 y 255 = y % 256 := by
  have h : ((BitVec.ofInt 64 y) &&& (BitVec.ofInt 64 255)).toNat = ((y % 256).toNat) := by
    rw [BitVec.toNat_and, BitVec.toNat_ofInt, BitVec.toNat_ofInt]
    rw [show (255 % (2 ^ 64 : Nat) : Int).toNat = 2 ^ 8 - 1 from by decide, Nat.and_two_pow_sub_one_eq_mod]
    omega
  show IntKind.i64.wrap ((BitVec.ofInt 64 y &&& BitVec.ofInt 64 255).toNat : Int) = _
  rw [h, IntKind.wrap_i64]
  omega

theorem cur_set_h {w : World} {g : Nat} {A : Option Addr} {n c : Nat} {i h : Int} {zs : List Int} (hg : w.heap[g]? = some (.cells #[.slice A n c, .int .i64 i, .int .i64 h] 102 (0, 0))) (hi : 0 ≤ i) (hn : i ≤ n) (hm : n ≤ 1048576)
    (hz : BytesBelow w g A n zs) (h' : Int) : ∃ w1, w1 = w.setCell ⟨g, 2, none⟩ (.int .i64 h') ∧ w1.heap[g]? = some (.cells #[.slice A n c, .int .i64 i, .int .i64 h'] 102 (0, 0)) ∧ BytesBelow w1 g A n zs ∧ w.grownBy w1 (some g) := by
  refine ⟨_, rfl, ?_, hz.keep fun k hk => Below.heap_setCell _ _ _ _ (by simp; omega), rfl, rfl, rfl, by simp, fun k hk hne => Below.heap_setCell _ _ _ _ (by simpa using hne)⟩
  have := heap_set_eq hg 2 (.int .i64 h'); simpa using this
theorem cur_set_i {w : World} {g : Nat} {A : Option Addr} {n c : Nat} {i h : Int} {zs : List Int} (hg : w.heap[g]? = some (.cells #[.slice A n c, .int .i64 i, .int .i64 h] 102 (0, 0))) (hi : 0 ≤ i) (hn : i < n) (hm : n ≤ 1048576)
    (hz : BytesBelow w g A n zs) : CurAt (w.setCell ⟨g, 1, none⟩ (.int .i64 (i + 1))) g := by
  refine ⟨A, n, c, i + 1, h, zs, ?_, by omega, by omega, hm, hz.keep fun k hk => Below.heap_setCell _ _ _ _ (by simp; omega)⟩
  have := heap_set_eq hg 1 (.int .i64 (i + 1)); simpa using this
theorem grownBy_drew {w w' : World} {r : Option Nat} (h : w.grownBy w' r) (k : Nat) : w.grownBy (w'.drewN k) r := ⟨h.os, h.tape, h.output, h.size, h.block⟩
theorem grownBy_set {w w' : World} {g : Nat} (h : w.grownBy w' (some g)) (i : Nat) (v : Value) : w.grownBy (w'.setCell ⟨g, i, none⟩ v) (some g) :=
  ⟨h.os, h.tape, h.output, by simpa using h.size, fun k hk hne => (Below.heap_setCell _ _ _ _ (by simpa using hne)).trans (h.block k hk hne)⟩
theorem drawI_of {x : Int} {g : Nat} {w w1 w2 : World} {N : Int} (h0 : 0 ≤ x) (h1 : x < N) (hg : w.grownBy w1 (some g)) (hb : Below w1.heap.size w1 w2) (hc : CurAt w1 g) : DrawI N g w (.returned (.int .i64 x)) w2 :=
  ⟨x, rfl, h0, h1, hc.below hb hc.lt, hb.os.trans hg.os, hb.tape.trans hg.tape, hb.output.trans hg.output, Nat.le_trans hg.size hb.size, fun k hk hne => (hb.block k (Nat.lt_of_lt_of_le hk hg.size)).trans (hg.block k hk hne)⟩
set_option maxHeartbeats 1000000 in
theorem l1Byte_any (g : Nat) (w : World) (hc : CurAt w g) : Calls Try.prog 91 #[.pointer (some ⟨g, 0, none⟩)] w (DrawI 256 g w) := by
  obtain ⟨A, n, c, i, h, zs, hg, hi0, hin, hn, hz⟩ := hc
  have h255 := bits_and_255
  obtain ⟨k0, k1, k2, kf⟩ := blk3 hg
  have hgs : g < w.heap.size := (Array.getElem?_eq_some_iff.1 hg).1
  have Hg := Lib.hid hg; clear hg
  by_cases hlt : i < n
  · obtain ⟨i, rfl⟩ := Int.eq_ofNat_of_zero_le hi0
    go_enter Try.func91, Try.ntmps91
    go_wp2_with fail
    clear k0 k1 k2 kf
    generalize wrap64 (wrap64 (h * 6364136223846793005) + 1442695040888963407) = h'
    obtain ⟨w1, hw1, hg1, hz1', gr1⟩ := cur_set_h Hg.out hi0 hin hn hz h'
    rw [← hw1]
    clear hw1
    obtain ⟨k0, k1, k2, kf⟩ := blk3 hg1
    have hgs1 : g < w1.heap.size := Nat.lt_of_lt_of_le hgs gr1.size
    obtain ⟨b, off, z, rfl, hb', hcell', hz0, hz1⟩ := hz1'.at (k := i) (by omega)
    have hbs1 : b < w1.heap.size := by omega
    have Hg1 := Lib.hid hg1; clear hg1
    refine wp_region_later (by kernel_rfl) (by kernel_rfl) ?_
    repeat (any_goals (first | go_big_quiet_step ((fail)) | quiet_step ((fail)) | (refine wpQuiet_step (fun K hK => ?_); go_simp; split <;> (refine hK _ ?_; clear hK K))))
    all_goals (refine wpQuiet_nil ?_; intro _ hw'; obtain ⟨x2, hw''⟩ := hw'; subst hw''; have b2 := later_below _ x2; generalize later _ x2 = w2 at *; clear x2)
    obtain ⟨hc2, hf2⟩ := bcell b2
    have hgs2 : g < w2.heap.size := Nat.lt_of_lt_of_le hgs1 b2.size
    have hbs2 : b < w2.heap.size := Nat.lt_of_lt_of_le hbs1 b2.size
    go_wp2_with fail
    refine wp_region_later (by kernel_rfl) (by kernel_rfl) ?_
    repeat (any_goals (first | go_big_quiet_step ((fail)) | quiet_step ((fail)) | (refine wpQuiet_step (fun K hK => ?_); go_simp; split <;> (refine hK _ ?_; clear hK K))))
    all_goals (refine wpQuiet_nil ?_; intro _ hw'; obtain ⟨x3, hw''⟩ := hw'; subst hw''; have b3 := later_below _ x3; generalize later _ x3 = w3 at *; clear x3)
    obtain ⟨hc3, hf3⟩ := bcell b3
    have hgs3 : g < w3.heap.size := Nat.lt_of_lt_of_le hgs2 b3.size
    have hbs3 : b < w3.heap.size := Nat.lt_of_lt_of_le hbs2 b3.size
    go_wp2_with fail
    refine wp_region_later (by kernel_rfl) (by kernel_rfl) ?_
    repeat (any_goals (first | go_big_quiet_step ((fail)) | quiet_step ((fail)) | (refine wpQuiet_step (fun K hK => ?_); go_simp; split <;> (refine hK _ ?_; clear hK K))))
    all_goals (refine wpQuiet_nil ?_; intro _ hw'; obtain ⟨x4, hw''⟩ := hw'; subst hw''; have b4 := later_below _ x4; generalize later _ x4 = w4 at *; clear x4)
    obtain ⟨hc4, hf4⟩ := bcell b4
    have hgs4 : g < w4.heap.size := Nat.lt_of_lt_of_le hgs3 b4.size
    go_wp2_with fail
    go_ret
    have hb : Below w1.heap.size w1 w4 := (b2.trans (b3.mono b2.size)).trans (b4.mono (Nat.le_trans b2.size b3.size))
    refine ⟨_, rfl, by omega, by omega, ?_, grownBy_set ⟨hb.os.trans gr1.os, hb.tape.trans gr1.tape, hb.output.trans gr1.output, Nat.le_trans gr1.size hb.size, fun k hk hne => (hb.block k (Nat.lt_of_lt_of_le hk gr1.size)).trans (gr1.block k hk hne)⟩ _ _⟩
    exact cur_set_i ((hb.block g hgs1).trans Hg1.out) hi0 hlt hn (hz1'.keep fun k hk => hb.block k (by omega))
  · go_enter Try.func91, Try.ntmps91
    go_wp2_with fail
    clear k0 k1 k2 kf
    generalize wrap64 (wrap64 (h * 6364136223846793005) + 1442695040888963407) = h'
    obtain ⟨w1, hw1, hg1, hz1', gr1⟩ := cur_set_h Hg.out hi0 hin hn hz h'
    rw [← hw1]
    clear hw1
    obtain ⟨k0, k1, k2, kf⟩ := blk3 hg1
    have hgs1 : g < w1.heap.size := Nat.lt_of_lt_of_le hgs gr1.size
    have Hg1 := Lib.hid hg1; clear hg1
    refine wp_region_later (by kernel_rfl) (by kernel_rfl) ?_
    repeat (any_goals (first | go_big_quiet_step ((fail)) | quiet_step ((fail)) | (refine wpQuiet_step (fun K hK => ?_); go_simp; split <;> (refine hK _ ?_; clear hK K))))
    all_goals (refine wpQuiet_nil ?_; intro _ hw'; obtain ⟨x2, hw''⟩ := hw'; subst hw''; have b2 := later_below _ x2; generalize later _ x2 = w2 at *; clear x2)
    obtain ⟨hc2, hf2⟩ := bcell b2
    have hgs2 : g < w2.heap.size := Nat.lt_of_lt_of_le hgs1 b2.size
    go_wp2_with fail
    refine wp_region_later (by kernel_rfl) (by kernel_rfl) ?_
    repeat (any_goals (first | go_big_quiet_step ((fail)) | quiet_step ((fail)) | (refine wpQuiet_step (fun K hK => ?_); go_simp; split <;> (refine hK _ ?_; clear hK K))))
    all_goals (refine wpQuiet_nil ?_; intro _ hw'; obtain ⟨x3, hw''⟩ := hw'; subst hw''; have b3 := later_below _ x3; generalize later _ x3 = w3 at *; clear x3)
    go_wp2_with fail
    go_ret
    exact drawI_of (by omega) (by omega) gr1 (b2.trans (b3.mono b2.size)) ⟨A, n, c, i, h', zs, Hg1.out, hi0, hin, hn, hz1'⟩
theorem l1Below_any (g : Nat) (n : Int) (w : World) (hc : CurAt w g) (h0 : 1 ≤ n) (h1 : n ≤ 256) : Calls Try.prog 61 #[.pointer (some ⟨g, 0, none⟩), .int .i64 n] w (DrawI n g w) := by
  go_enter Try.func61, Try.ntmps61
  go_wp2_with fail
  refine (l1Byte_any g _ hc).mono ?_
  rintro e w1 ⟨x, rfl, hx0, hx1, hd⟩
  go_wp2_with fail
  go_ret
  refine ⟨_, rfl, ?_, ?_, hd⟩
  · exact Int.emod_nonneg _ (by omega)
  · exact Int.emod_lt_of_pos _ (by omega)
def NewCur (w : World) (e : Ending) (w' : World) : Prop := ∃ g, e = .returned (.pointer (some ⟨g, 0, none⟩)) ∧ w.heap.size ≤ g ∧ CurAt w' g ∧ Below w.heap.size w w'
theorem bits_and_30 (y : Int) : bits .and .i64 y 1073741823 = y % 1073741824 := by
  have h : ((BitVec.ofInt 64 y) &&& (BitVec.ofInt 64 1073741823)).toNat = ((y % 1073741824).toNat) := by
    rw [BitVec.toNat_and, BitVec.toNat_ofInt, BitVec.toNat_ofInt]
    rw [show (1073741823 % (2 ^ 64 : Nat) : Int).toNat = 2 ^ 30 - 1 from by decide, Nat.and_two_pow_sub_one_eq_mod]
    omega
  show IntKind.i64.wrap ((BitVec.ofInt 64 y &&& BitVec.ofInt 64 1073741823).toNat : Int) = _
  rw [h, IntKind.wrap_i64]
  omega
theorem bytes_of {w : World} {A : Option Addr} {n c : Nat} {zs : List Int} (h : IsBytes w A n c zs) : BytesBelow w w.heap.size A n zs := h.2
set_option maxHeartbeats 1000000 in
theorem l1New_any (A : Option Addr) (n c B : Nat) (zs : List Int) (w : World) (hz : BytesBelow w B A n zs) (hB : B ≤ w.heap.size) (hn : n ≤ 1048576) : Calls Try.prog 60 #[.slice A n c] w (NewCur w) := by
  have h30 := bits_and_30
  go_enter Try.func60, Try.ntmps60
  go_wp2
  go_loop [3, 4] (fun h i => ∃ (k : Nat) (x : Int), k ≤ n ∧ i = .int .i64 k ∧ h = .int .i64 x ∧ 0 ≤ x ∧ x < 1073741824) (fun _ i => n - (intOf i).toNat)
  case atStart => exact ⟨0, _, by omega, rfl, rfl, by omega, by omega⟩
  case round =>
    obtain ⟨k, x, hk, rfl, rfl, hx0, hx1⟩ := hrel
    by_cases hlt : k < n
    · by_cases h4 : k < 4000
      · obtain ⟨b, off, z, rfl, hb, hcell, hz0, hz1⟩ := hz.at hlt
        go_wp2_with fail
        go_round
        case rel => exact ⟨k + 1, _, by omega, by go_num, rfl, by omega, by omega⟩
        case measure => simp [intOf]; omega
      · go_wp2_with fail
        go_ret
        exact ⟨_, rfl, Nat.le_refl _, ⟨A, n, c, 0, x, zs, heap_alloc_new _ _, by omega, by omega, hn, (hz.mono hB).keep fun k hk => Below.heap_alloc _ _ _ hk⟩, (Below.refl _ _).alloc (Nat.le_refl _) _⟩
    · go_wp2_with fail
      go_ret
      exact ⟨_, rfl, Nat.le_refl _, ⟨A, n, c, 0, x, zs, heap_alloc_new _ _, by omega, by omega, hn, (hz.mono hB).keep fun k hk => Below.heap_alloc _ _ _ hk⟩, (Below.refl _ _).alloc (Nat.le_refl _) _⟩
theorem l1PickInt_any (g : Nat) (A : Option Addr) (n c : Nat) (l : List Int) (w : World) (hc : CurAt w g) (hl : SlI w A n l) (hA : ∀ a, A = some a → a.block ≠ g) (h0 : 1 ≤ n) (h1 : n ≤ 256) :
    Calls Try.prog 92 #[.pointer (some ⟨g, 0, none⟩), .slice A n c] w fun e w' => ∃ x, e = .returned (.int .i64 x) ∧ x ∈ l ∧ Drawn g w w' := by
  have hn : (n : Int) ≤ 256 := by omega
  go_enter Try.func92, Try.ntmps92
  go_wp2_with fail
  refine (l1Below_any g n _ hc (by omega) (by omega)).mono ?_
  rintro e w1 ⟨x, rfl, hx0, hx1, hd⟩
  obtain ⟨k, rfl⟩ := Int.eq_ofNat_of_zero_le hx0
  obtain ⟨b, off, q, rfl, hb, hq, hcell⟩ := hl.at (k := k) (by omega)
  have hcell1 : w1.cell? ⟨b, off + k, none⟩ = some (.int .i64 q) := (hd.cells.1 b (off + k) hb (hA _ rfl)).trans hcell
  clear hcell
  go_wp2_with fail
  go_ret
  exact ⟨q, rfl, List.mem_of_getElem? hq.out, hd⟩
def DrawQ (P : Quad → Prop) (g : Nat) (w : World) (e : Ending) (w' : World) : Prop := ∃ n x z p : Int, e = .returned (.agg #[.int .i64 n, .int .i64 x, .int .i64 z, .int .i64 p]) ∧ P (n, x, z, p) ∧ Drawn g w w'
set_option maxHeartbeats 1000000 in
theorem l25Pauli_any (g : Nat) (n : Int) (w : World) (hc : CurAt w g) (h1 : 1 ≤ n) (h4 : n ≤ 4) : Calls Try.prog 62 #[.pointer (some ⟨g, 0, none⟩), .int .i64 n] w (DrawQ (fun q => q.1 = n ∧ validB q.1 q.2.1 q.2.2.1 q.2.2.2 = true) g w) := by
  have hgs := hc.lt
  have hne : ¬ w.heap.size = g := by omega
  have hn : n = 1 ∨ n = 2 ∨ n = 3 ∨ n = 4 := by omega
  rcases hn with rfl | rfl | rfl | rfl
  all_goals
    go_enter Try.func62, Try.ntmps62
    go_wp2_with fail
    refine (l1Below_any g _ _ (hc.alloc _) (by omega) (by omega)).mono ?_
    rintro e w1 ⟨x1, rfl, hx1a, hx1b, hd1⟩
    obtain ⟨hc1, hf1⟩ := hd1.cells
    have hz1 := hd1.size
    have cu1 := hd1.cur
    try simp only [World.size_alloc, World.size_setCell, World.size_drew, World.heap_drewN] at hz1
    have hl1 : w.heap.size < w1.heap.size := by omega
    go_wp2_with fail
    refine (l1Below_any g _ _ cu1 (by omega) (by omega)).mono ?_
    rintro e w2 ⟨x2, rfl, hx2a, hx2b, hd2⟩
    obtain ⟨hc2, hf2⟩ := hd2.cells
    have hz2 := hd2.size
    have cu2 := hd2.cur
    try simp only [World.size_alloc, World.size_setCell, World.size_drew, World.heap_drewN] at hz2
    have hl2 : w.heap.size < w2.heap.size := by omega
    go_wp2_with fail
    refine (l1Below_any g _ _ cu2 (by omega) (by omega)).mono ?_
    rintro e w3 ⟨x3, rfl, hx3a, hx3b, hd3⟩
    obtain ⟨hc3, hf3⟩ := hd3.cells
    have hz3 := hd3.size
    have cu3 := hd3.cur
    try simp only [World.size_alloc, World.size_setCell, World.size_drew, World.heap_drewN] at hz3
    have hl3 : w.heap.size < w3.heap.size := by omega
    go_wp2_with fail
    refine bodyPost_ret (v := .agg #[.int .i64 _, .int .i64 x1, .int .i64 x2, .int .i64 x3]) (by simp [results, Try.results62, go_sem, *]) rfl ⟨_, x1, x2, x3, rfl, ⟨rfl, ?_⟩, ?_⟩
    · simp only [validB, pow2_1, pow2_2, pow2_3, pow2_4, Bool.and_eq_true, inB_true]; omega
    · repeat' (first | (with_reducible exact Drawn.refl (by with_reducible assumption)) | (with_reducible assumption) | (with_reducible refine Drawn.alloc ?_ _) | (with_reducible refine Drawn.setNew ?_ ?_ _) | (with_reducible refine Drawn.trans ?_ (by with_reducible assumption)) | go_size)
      all_goals (simp; omega)
end Go.Proofs.Ytpahkbajeniajaa
