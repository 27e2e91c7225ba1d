/- Contracts on normal forms: helpers of the exact laws, EqualNormalForm, IdentityNormalForm. -/
import Derived.Test.YtpahkbajeniajaaWj
namespace Go.Proofs.Ytpahkbajeniajaa
open Go.RowKit Pop
set_option maxRecDepth 100000
set_option linter.unusedVariables false
set_option linter.unusedSimpArgs false
/-- What a call says that returns a new normal form. -/
def RetN (l : List Int) (N : Int) (r : List Quad) (w : World) (e : Ending) (w' : World) : Prop :=
  ∃ A c B d, e = .returned (.agg #[.slice A l.length c, .int .i64 N, .slice B r.length d]) ∧ OwnI w' w.heap.size 3 (.slice A l.length c) l ∧ OwnQ w' w.heap.size 25 (.slice B r.length d) r ∧ Below w.heap.size w w'
def NfΨ (l : List Int) (N : Int) (r : List Quad) (b t : Nat) (u : Value) (w : World) : Prop := ∃ A c B d, u = .agg #[.slice A l.length c, .int .i64 N, .slice B r.length d] ∧ OwnI w b 3 (.slice A l.length c) l ∧ OwnQ w b 25 (.slice B r.length d) r
theorem NfΨ.stable {l : List Int} {N : Int} {r : List Quad} {b t : Nat} {u : Value} {w w' : World} (h : NfΨ l N r b t u w) (_ : t ≤ w.heap.size) (hb : Below w.heap.size w w') : NfΨ l N r b t u w' := by
  obtain ⟨A, c, B, d, rfl, ho, hp⟩ := h
  exact ⟨A, c, B, d, rfl, ho.below hb, hp.below hb⟩
theorem RetN.made {P : Program} {f : FuncId} {args : Array Value} {l : List Int} {N : Int} {r : List Quad} {w : World} (h : Calls P f args w (RetN l N r w)) :
    Calls P f args w fun e w' => ∃ u, e = .returned u ∧ Below w.heap.size w w' ∧ NfΨ l N r w.heap.size w'.heap.size u w' :=
  h.mono fun _ _ ⟨A, c, B, d, he, ho, hp, hb⟩ => ⟨_, he, hb, A, c, B, d, rfl, ho, hp⟩
def neqB (l : List Int) (N : Int) (r : List Quad) (l' : List Int) (N' : Int) (r' : List Quad) : Bool := lieq l l' && teq N r N' r'
@[go_sem] theorem neqB_refl (l : List Int) (N : Int) (r : List Quad) : neqB l N r l N r = true := by simp [neqB, lieq_refl, teq_refl]
theorem szNormalForm_ok (A : Option Addr) (n c : Nat) (N : Int) (B : Option Addr) (m d : Nat) (left : Int) (w : World) (h : (n : Int) + m ≤ left) (hl : left ≤ 1048576) :
    Calls Try.prog 26 #[.agg #[.slice A n c, .int .i64 N, .slice B m d], .int .i64 left] w fun e w' => e = .returned (.int .i64 (left - n - m)) ∧ Below w.heap.size w w' := by
  go_enter Try.func26, Try.ntmps26
  go_wp2_with fail
  refine (szIntS_ok _ _ _ _ _ (by omega) hl).mono ?_
  rintro e w' ⟨rfl, hw'⟩
  rw [hw']
  clear hw' w'
  go_wp2_with fail
  refine (szTableau_ok _ _ _ _ _ _ (by omega) (by omega)).mono ?_
  rintro e w1 ⟨rfl, b1⟩
  go_wp2_with fail
  go_ret
  refine ⟨rfl, ?_⟩
  repeat' (first | (with_reducible exact Below.refl _ _) | (with_reducible refine below_drewN ?_ _) | (with_reducible refine Below.drew ?_) | (with_reducible refine Below.alloc ?_ ?_ _) | (with_reducible refine Below.setCell ?_ ?_ _) | (with_reducible refine Below.trans ?_ (Below.mono (by with_reducible assumption) ?_)) | go_size | (with_reducible refine Nat.le_trans ?_ (Below.size (by with_reducible assumption))))
theorem szNormalForm_big (A : Option Addr) (n c : Nat) (N : Int) (B : Option Addr) (m d : Nat) (left : Int) (w : World) (h : left < (n : Int) + m) (h0 : 0 ≤ left) (hl : left ≤ 1048576) (hn : n ≤ maxLen) (hm : m ≤ maxLen) :
    Calls Try.prog 26 #[.agg #[.slice A n c, .int .i64 N, .slice B m d], .int .i64 left] w fun e w' => e = .returned (.int .i64 (-1)) ∧ Below w.heap.size w w' := by
  have Hn := Lib.hid hn; clear hn
  have Hm := Lib.hid hm; clear hm
  by_cases h1 : (n : Int) ≤ left
  · go_enter Try.func26, Try.ntmps26
    go_wp2_with fail
    refine (szIntS_ok _ _ _ _ _ h1 hl).mono ?_
    rintro e w' ⟨rfl, hw'⟩
    rw [hw']
    clear hw' w'
    go_wp2_with fail
    refine (szTableau_big _ _ _ _ _ _ (by omega) (by omega) Hm.out).mono ?_
    rintro e w1 ⟨rfl, b1⟩
    go_wp2_with fail
    go_ret
    refine ⟨rfl, ?_⟩
    repeat' (first | (with_reducible exact Below.refl _ _) | (with_reducible refine below_drewN ?_ _) | (with_reducible refine Below.drew ?_) | (with_reducible refine Below.alloc ?_ ?_ _) | (with_reducible refine Below.setCell ?_ ?_ _) | (with_reducible refine Below.trans ?_ (Below.mono (by with_reducible assumption) ?_)) | go_size | (with_reducible refine Nat.le_trans ?_ (Below.size (by with_reducible assumption))))
  · go_enter Try.func26, Try.ntmps26
    go_wp2_with fail
    refine (szIntS_big _ _ _ _ _ (by omega) h0 Hn.out).mono ?_
    rintro e w' ⟨rfl, hw'⟩
    rw [hw']
    clear hw' w'
    go_wp2_with fail
    go_ret
    refine ⟨rfl, ?_⟩
    repeat' (first | (with_reducible exact Below.refl _ _) | (with_reducible refine below_drewN ?_ _) | (with_reducible refine Below.drew ?_) | (with_reducible refine Below.alloc ?_ ?_ _) | (with_reducible refine Below.setCell ?_ ?_ _) | (with_reducible refine Below.trans ?_ (Below.mono (by with_reducible assumption) ?_)) | go_size | (with_reducible refine Nat.le_trans ?_ (Below.size (by with_reducible assumption))))
theorem eqNormalForm_any (A : Option Addr) (n c : Nat) (N : Int) (B : Option Addr) (m d : Nat) (A' : Option Addr) (n' c' : Nat) (N' : Int) (B' : Option Addr) (m' d' : Nat) (l l' : List Int) (r r' : List Quad) (w : World)
    (ha : SlI w A n l) (hb : SlQ w B m r) (ha' : SlI w A' n' l') (hb' : SlQ w B' m' r') (hn : n ≤ 1048577) (hm : m ≤ 1048576) :
    Calls Try.prog 30 #[.agg #[.slice A n c, .int .i64 N, .slice B m d], .agg #[.slice A' n' c', .int .i64 N', .slice B' m' d']] w fun e w' => e = .returned (.bool (neqB l N r l' N' r')) ∧ Below w.heap.size w w' := by
  cases h1 : lieq l l' with
  | false =>
    go_enter Try.func30, Try.ntmps30
    go_wp2_with fail
    refine (eqIntS_any A A' n n' c c' l l' _ ((ha.alloc _).alloc _) ((ha'.alloc _).alloc _) hn).mono ?_
    rintro e w1 ⟨rfl, b1⟩
    go_wp2_with fail
    go_ret
    refine ⟨ret_bool (by simp [neqB, h1]), ?_⟩
    repeat' (first | (with_reducible exact Below.refl _ _) | (with_reducible refine below_drewN ?_ _) | (with_reducible refine Below.drew ?_) | (with_reducible refine Below.alloc ?_ ?_ _) | (with_reducible refine Below.setCell ?_ ?_ _) | (with_reducible refine Below.trans ?_ (Below.mono (by with_reducible assumption) ?_)) | go_size | (with_reducible refine Nat.le_trans ?_ (Below.size (by with_reducible assumption))))
  | true =>
    go_enter Try.func30, Try.ntmps30
    go_wp2_with fail
    refine (eqIntS_any A A' n n' c c' l l' _ ((ha.alloc _).alloc _) ((ha'.alloc _).alloc _) hn).mono ?_
    rintro e w1 ⟨rfl, b1⟩
    obtain ⟨hc1, hf1⟩ := bcell b1
    have hz1 := b1.size
    try simp only [World.size_alloc, World.size_setCell, World.size_drew, World.heap_drewN] at hz1
    have hl1a : w.heap.size < w1.heap.size := by omega
    have hl1b : w.heap.size + 1 < w1.heap.size := by omega
    go_wp2_with fail
    refine (eqTableau_any N N' B B' m m' d d' r r' _ (((hb.alloc _).alloc _).below b1) (((hb'.alloc _).alloc _).below b1) hm).mono ?_
    rintro e w2 ⟨rfl, b2⟩
    cases h2 : teq N r N' r' with
    | true =>
      go_wp2_with fail
      go_ret
      refine ⟨ret_bool (by simp [neqB, h1, h2]), ?_⟩
      repeat' (first | (with_reducible exact Below.refl _ _) | (with_reducible refine below_drewN ?_ _) | (with_reducible refine Below.drew ?_) | (with_reducible refine Below.alloc ?_ ?_ _) | (with_reducible refine Below.setCell ?_ ?_ _) | (with_reducible refine Below.trans ?_ (Below.mono (by with_reducible assumption) ?_)) | go_size | (with_reducible refine Nat.le_trans ?_ (Below.size (by with_reducible assumption))))
    | false =>
      go_wp2_with fail
      go_ret
      refine ⟨ret_bool (by simp [neqB, h1, h2]), ?_⟩
      repeat' (first | (with_reducible exact Below.refl _ _) | (with_reducible refine below_drewN ?_ _) | (with_reducible refine Below.drew ?_) | (with_reducible refine Below.alloc ?_ ?_ _) | (with_reducible refine Below.setCell ?_ ?_ _) | (with_reducible refine Below.trans ?_ (Below.mono (by with_reducible assumption) ?_)) | go_size | (with_reducible refine Nat.le_trans ?_ (Below.size (by with_reducible assumption))))
theorem equalNormalForm_spec (A : Option Addr) (n c : Nat) (N : Int) (B : Option Addr) (m d : Nat) (A' : Option Addr) (n' c' : Nat) (N' : Int) (B' : Option Addr) (m' d' : Nat) (l l' : List Int) (r r' : List Quad) (w : World)
    (ha : SlI w A n l) (hb : SlQ w B m r) (ha' : SlI w A' n' l') (hb' : SlQ w B' m' r') (hn : n ≤ 1048577) (hm : m ≤ 1048576) :
    Calls Try.prog 27 #[.agg #[.slice A n c, .int .i64 N, .slice B m d], .agg #[.slice A' n' c', .int .i64 N', .slice B' m' d']] w fun e w' => e = .returned (.bool (neqB l N r l' N' r')) ∧ Below w.heap.size w w' := by
  cases h1 : lieq l l' with
  | false =>
    go_enter Try.func27, Try.ntmps27
    go_wp2_with fail
    refine (l1Ints_any A A' n n' c c' l l' _ ((ha.alloc _).alloc _) ((ha'.alloc _).alloc _) hn).mono ?_
    rintro e w1 ⟨rfl, b1⟩
    go_wp2_with fail
    go_ret
    refine ⟨ret_bool (by simp [neqB, h1]), ?_⟩
    repeat' (first | (with_reducible exact Below.refl _ _) | (with_reducible refine below_drewN ?_ _) | (with_reducible refine Below.drew ?_) | (with_reducible refine Below.alloc ?_ ?_ _) | (with_reducible refine Below.setCell ?_ ?_ _) | (with_reducible refine Below.trans ?_ (Below.mono (by with_reducible assumption) ?_)) | go_size | (with_reducible refine Nat.le_trans ?_ (Below.size (by with_reducible assumption))))
  | true =>
    go_enter Try.func27, Try.ntmps27
    go_wp2_with fail
    refine (l1Ints_any A A' n n' c c' l l' _ ((ha.alloc _).alloc _) ((ha'.alloc _).alloc _) hn).mono ?_
    rintro e w1 ⟨rfl, b1⟩
    obtain ⟨hc1, hf1⟩ := bcell b1
    have hz1 := b1.size
    try simp only [World.size_alloc, World.size_setCell, World.size_drew, World.heap_drewN] at hz1
    have hl1a : w.heap.size < w1.heap.size := by omega
    have hl1b : w.heap.size + 1 < w1.heap.size := by omega
    go_wp2_with fail
    refine (equalTableau_spec N N' B B' m m' d d' r r' _ (((hb.alloc _).alloc _).below b1) (((hb'.alloc _).alloc _).below b1) hm).mono ?_
    rintro e w2 ⟨rfl, b2⟩
    go_wp2_with fail
    go_ret
    refine ⟨ret_bool (by simp [neqB, h1]), ?_⟩
    repeat' (first | (with_reducible exact Below.refl _ _) | (with_reducible refine below_drewN ?_ _) | (with_reducible refine Below.drew ?_) | (with_reducible refine Below.alloc ?_ ?_ _) | (with_reducible refine Below.setCell ?_ ?_ _) | (with_reducible refine Below.trans ?_ (Below.mono (by with_reducible assumption) ?_)) | go_size | (with_reducible refine Nat.le_trans ?_ (Below.size (by with_reducible assumption))))
theorem equalNormalForm_impl (A : Option Addr) (n c : Nat) (N : Int) (B : Option Addr) (m d : Nat) (A' : Option Addr) (n' c' : Nat) (N' : Int) (B' : Option Addr) (m' d' : Nat) (l l' : List Int) (r r' : List Quad) (w : World)
    (ha : SlI w A n l) (hb : SlQ w B m r) (ha' : SlI w A' n' l') (hb' : SlQ w B' m' r') (hn : n ≤ 1048577) (hm : m ≤ 1048576) :
    Calls Try.prog 29 #[.agg #[.slice A n c, .int .i64 N, .slice B m d], .agg #[.slice A' n' c', .int .i64 N', .slice B' m' d']] w fun e w' => e = .returned (.bool (neqB l N r l' N' r')) ∧ Below w.heap.size w w' := by
  cases h1 : lieq l l' with
  | false =>
    go_enter Try.func29, Try.ntmps29
    go_wp2_with fail
    refine (sameInt_any A A' n n' c c' l l' _ ((ha.alloc _).alloc _) ((ha'.alloc _).alloc _) hn).mono ?_
    rintro e w1 ⟨rfl, b1⟩
    go_wp2_with fail
    go_ret
    refine ⟨ret_bool (by simp [neqB, h1]), ?_⟩
    repeat' (first | (with_reducible exact Below.refl _ _) | (with_reducible refine below_drewN ?_ _) | (with_reducible refine Below.drew ?_) | (with_reducible refine Below.alloc ?_ ?_ _) | (with_reducible refine Below.setCell ?_ ?_ _) | (with_reducible refine Below.trans ?_ (Below.mono (by with_reducible assumption) ?_)) | go_size | (with_reducible refine Nat.le_trans ?_ (Below.size (by with_reducible assumption))))
  | true =>
    go_enter Try.func29, Try.ntmps29
    go_wp2_with fail
    refine (sameInt_any A A' n n' c c' l l' _ ((ha.alloc _).alloc _) ((ha'.alloc _).alloc _) hn).mono ?_
    rintro e w1 ⟨rfl, b1⟩
    obtain ⟨hc1, hf1⟩ := bcell b1
    have hz1 := b1.size
    try simp only [World.size_alloc, World.size_setCell, World.size_drew, World.heap_drewN] at hz1
    have hl1a : w.heap.size < w1.heap.size := by omega
    have hl1b : w.heap.size + 1 < w1.heap.size := by omega
    go_wp2_with fail
    refine (equalTableau_impl N N' B B' m m' d d' r r' _ (((hb.alloc _).alloc _).below b1) (((hb'.alloc _).alloc _).below b1) hm).mono ?_
    rintro e w2 ⟨rfl, b2⟩
    go_wp2_with fail
    go_ret
    refine ⟨ret_bool (by simp [neqB, h1]), ?_⟩
    repeat' (first | (with_reducible exact Below.refl _ _) | (with_reducible refine below_drewN ?_ _) | (with_reducible refine Below.drew ?_) | (with_reducible refine Below.alloc ?_ ?_ _) | (with_reducible refine Below.setCell ?_ ?_ _) | (with_reducible refine Below.trans ?_ (Below.mono (by with_reducible assumption) ?_)) | go_size | (with_reducible refine Nat.le_trans ?_ (Below.size (by with_reducible assumption))))
theorem toNormalForm_any (A : Option Addr) (n c : Nat) (N : Int) (B : Option Addr) (m d : Nat) (l : List Int) (r : List Quad) (w : World) (ha : SlI w A n l) (hb : SlQ w B m r) (hn : n ≤ 1048576) (hm : m ≤ 1048576) :
    Calls Try.prog 28 #[.agg #[.slice A n c, .int .i64 N, .slice B m d]] w (RetN l N r w) := by
  go_enter Try.func28, Try.ntmps28
  go_wp2_with fail
  refine (toIntS_any A n c l _ (by exact ((ha.alloc _).alloc _).alloc _) hn).mono ?_
  rintro e w1 ⟨A1, c1, rfl, o1, b1⟩
  have hz1 := b1.size
  simp only [World.size_alloc] at hz1 o1
  have hLa1 : w.heap.size < w1.heap.size := by omega
  have La1 := Lib.hid ((b1.block (w.heap.size) (by first | omega | (simp only [World.size_alloc]; done) | (simp only [World.size_alloc]; omega))).trans (by repeat' (first | (with_reducible exact (trivial).out) | ((with_reducible refine heap_alloc_at ?_); focus (first | (with_reducible rfl) | (simp only [World.size_alloc]; done))) | ((with_reducible apply heap_alloc_before); focus (first | omega | (simp only [World.size_alloc]; done) | (simp only [World.size_alloc]; omega))))))
  have hLb1 : w.heap.size + 1 < w1.heap.size := by omega
  have Lb1 := Lib.hid ((b1.block (w.heap.size + 1) (by first | omega | (simp only [World.size_alloc]; done) | (simp only [World.size_alloc]; omega))).trans (by repeat' (first | (with_reducible exact (trivial).out) | ((with_reducible refine heap_alloc_at ?_); focus (first | (with_reducible rfl) | (simp only [World.size_alloc]; done))) | ((with_reducible apply heap_alloc_before); focus (first | omega | (simp only [World.size_alloc]; done) | (simp only [World.size_alloc]; omega))))))
  have hLc1 : w.heap.size + 1 + 1 < w1.heap.size := by omega
  have Lc1 := Lib.hid ((b1.block (w.heap.size + 1 + 1) (by first | omega | (simp only [World.size_alloc]; done) | (simp only [World.size_alloc]; omega))).trans (by repeat' (first | (with_reducible exact (trivial).out) | ((with_reducible refine heap_alloc_at ?_); focus (first | (with_reducible rfl) | (simp only [World.size_alloc]; done))) | ((with_reducible apply heap_alloc_before); focus (first | omega | (simp only [World.size_alloc]; done) | (simp only [World.size_alloc]; omega))))))
  obtain ⟨q0, q1, q2, qf⟩ := blk3 La1.out
  obtain ⟨r0, r1, r2, rf⟩ := blk3 Lc1.out
  have B1 : Below w.heap.size w w1 := by
    repeat' (first | (with_reducible exact Below.refl _ _) | (with_reducible refine below_drewN ?_ _) | (with_reducible refine Below.drew ?_) | (with_reducible refine Below.alloc ?_ ?_ _) | (with_reducible refine Below.setCell ?_ ?_ _) | (with_reducible refine Below.trans ?_ (Below.mono (by with_reducible assumption) ?_)) | go_size | (with_reducible refine Nat.le_trans ?_ (Below.size (by with_reducible assumption))))
  go_wp2_with fail
  clear q0 q1 q2 qf r0 r1 r2 rf
  obtain ⟨w2, hw2, hg2, hs2, ho2, hr2, hB2⟩ := set_blk (Lc1).out 0 (.slice A1 l.length c1) (#[.slice A1 l.length c1, .int .i64 0, .slice none 0 0]) rfl
  rw [← hw2]
  clear hw2
  have B2 := hB2 _ _ B1 (by omega)
  have o2 := o1.grown hr2 (by omega)
  have Lb2 := Lib.hid ((ho2 (w.heap.size + 1) (by omega)).trans Lb1.out)
  have Lc2 := Lib.hid hg2
  clear hB2 ho2 hr2 hg2
  refine (toTableau_any N B m d r _ (hb.below B2) hm).mono ?_
  rintro e w3 ⟨B3, d3, rfl, o3, b3⟩
  have hz3 := b3.size
  have o23 := o2.below b3
  rw [hs2] at hz3
  have hLb3 : w.heap.size + 1 < w3.heap.size := by omega
  have Lb3 := Lib.hid ((b3.block (w.heap.size + 1) (by first | omega | (simp only [World.size_alloc]; done) | (simp only [World.size_alloc]; omega))).trans (by repeat' (first | (with_reducible exact (Lb2).out) | ((with_reducible refine heap_alloc_at ?_); focus (first | (with_reducible rfl) | (simp only [World.size_alloc]; done))) | ((with_reducible apply heap_alloc_before); focus (first | omega | (simp only [World.size_alloc]; done) | (simp only [World.size_alloc]; omega))))))
  have hLc3 : w.heap.size + 1 + 1 < w3.heap.size := by omega
  have Lc3 := Lib.hid ((b3.block (w.heap.size + 1 + 1) (by first | omega | (simp only [World.size_alloc]; done) | (simp only [World.size_alloc]; omega))).trans (by repeat' (first | (with_reducible exact (Lc2).out) | ((with_reducible refine heap_alloc_at ?_); focus (first | (with_reducible rfl) | (simp only [World.size_alloc]; done))) | ((with_reducible apply heap_alloc_before); focus (first | omega | (simp only [World.size_alloc]; done) | (simp only [World.size_alloc]; omega))))))
  have BB3 : Below w.heap.size w w3 := B2.trans (b3.mono (by omega))
  obtain ⟨q0, q1, q2, qf⟩ := blk3 Lb3.out
  obtain ⟨r0, r1, r2, rf⟩ := blk3 Lc3.out
  go_wp2_with fail
  clear q0 q1 q2 qf r0 r1 r2 rf
  obtain ⟨w4, hw4, hg4, hs4, ho4, hr4, hB4⟩ := set_blk (Lc3).out 1 (.int .i64 N) (#[.slice A1 l.length c1, .int .i64 N, .slice none 0 0]) rfl
  rw [← hw4]
  clear hw4
  obtain ⟨w5, hw5, hg5, hs5, ho5, hr5, hB5⟩ := set_blk (Lib.hid hg4).out 2 (.slice B3 r.length d3) (#[.slice A1 l.length c1, .int .i64 N, .slice B3 r.length d3]) rfl
  rw [← hw5]
  clear hw5
  have Lb5 := Lib.hid ((ho5 (w.heap.size + 1) (by omega)).trans ((ho4 (w.heap.size + 1) (by omega)).trans Lb3.out))
  obtain ⟨w6, hw6, hg6, hs6, ho6, hr6, hB6⟩ := set_blk (Lb5).out 0 (.slice A1 l.length c1) (#[.slice A1 l.length c1, .int .i64 0, .slice none 0 0]) rfl
  rw [← hw6]
  clear hw6
  obtain ⟨w7, hw7, hg7, hs7, ho7, hr7, hB7⟩ := set_blk (Lib.hid hg6).out 1 (.int .i64 N) (#[.slice A1 l.length c1, .int .i64 N, .slice none 0 0]) rfl
  rw [← hw7]
  clear hw7
  obtain ⟨w8, hw8, hg8, hs8, ho8, hr8, hB8⟩ := set_blk (Lib.hid hg7).out 2 (.slice B3 r.length d3) (#[.slice A1 l.length c1, .int .i64 N, .slice B3 r.length d3]) rfl
  rw [← hw8]
  clear hw8
  have o28 := ((((o23.grown hr4 (by omega)).grown hr5 (by omega)).grown hr6 (by omega)).grown hr7 (by omega)).grown hr8 (by omega)
  have o38 := ((((o3.grown hr4 (by omega)).grown hr5 (by omega)).grown hr6 (by omega)).grown hr7 (by omega)).grown hr8 (by omega)
  have BB8 := hB8 _ _ (hB7 _ _ (hB6 _ _ (hB5 _ _ (hB4 _ _ BB3 (by omega)) (by omega)) (by omega)) (by omega)) (by omega)
  obtain ⟨q0, q1, q2, qf⟩ := blk3 hg8
  clear hg4 hg5 hg6 hg7 hg8 hB4 hB5 hB6 hB7 hB8 ho4 ho5 ho6 ho7 ho8 hs4 hs5 hs6 hs7 hs8 hr4 hr5 hr6 hr7 hr8
  refine bodyPost_ret (v := .agg #[.slice A1 l.length c1, .int .i64 N, .slice B3 r.length d3]) (by simp [results, Try.results28, go_sem, *]) rfl ⟨A1, c1, B3, d3, rfl, o28.mono (by omega), o38.mono (by omega), BB8⟩
theorem identityNormalForm_spec (w : World) : Calls Try.prog 31 #[] w (RetN [] 1 (idRows 1 2) w) := by
  go_enter Try.func31, Try.ntmps31
  go_wp2_with fail
  refine (identityTableau_spec_ok 1 _ (by omega) (by omega)).mono ?_
  rintro e w1 ⟨A1, c1, rfl, o1, b1⟩
  have hz1 := b1.size
  simp only [World.size_alloc] at hz1 o1
  have o1' : OwnQ w1 (w.heap.size + 1) 25 (.slice A1 (idRows 1 2).length c1) (idRows 1 2) := o1
  clear o1
  have hLa1 : w.heap.size < w1.heap.size := by omega
  have La1 := Lib.hid ((b1.block (w.heap.size) (by first | omega | (simp only [World.size_alloc]; done) | (simp only [World.size_alloc]; omega))).trans (by repeat' (first | (with_reducible exact (trivial).out) | ((with_reducible refine heap_alloc_at ?_); focus (first | (with_reducible rfl) | (simp only [World.size_alloc]; done))) | ((with_reducible apply heap_alloc_before); focus (first | omega | (simp only [World.size_alloc]; done) | (simp only [World.size_alloc]; omega))))))
  obtain ⟨q0, q1, q2, qf⟩ := blk3 La1.out
  have B1 : Below w.heap.size w w1 := by
    repeat' (first | (with_reducible exact Below.refl _ _) | (with_reducible refine below_drewN ?_ _) | (with_reducible refine Below.drew ?_) | (with_reducible refine Below.alloc ?_ ?_ _) | (with_reducible refine Below.setCell ?_ ?_ _) | (with_reducible refine Below.trans ?_ (Below.mono (by with_reducible assumption) ?_)) | go_size | (with_reducible refine Nat.le_trans ?_ (Below.size (by with_reducible assumption))))
  go_wp2_with fail
  clear q0 q1 q2 qf
  obtain ⟨w2, hw2, hg2, hs2, ho2, hr2, hB2⟩ := set_blk (La1).out 0 (.slice none 0 0) (#[.slice none 0 0, .int .i64 0, .slice none 0 0]) rfl
  rw [← hw2]
  clear hw2
  obtain ⟨w3, hw3, hg3, hs3, ho3, hr3, hB3⟩ := set_blk (Lib.hid hg2).out 1 (.int .i64 1) (#[.slice none 0 0, .int .i64 1, .slice none 0 0]) rfl
  rw [← hw3]
  clear hw3
  obtain ⟨w4, hw4, hg4, hs4, ho4, hr4, hB4⟩ := set_blk (Lib.hid hg3).out 2 (.slice A1 (idRows 1 2).length c1) (#[.slice none 0 0, .int .i64 1, .slice A1 (idRows 1 2).length c1]) rfl
  rw [← hw4]
  clear hw4
  have o4 := ((o1'.grown hr2 (by omega)).grown hr3 (by omega)).grown hr4 (by omega)
  have B4 := hB4 _ _ (hB3 _ _ (hB2 _ _ B1 (by omega)) (by omega)) (by omega)
  obtain ⟨q0, q1, q2, qf⟩ := blk3 hg4
  clear hg2 hg3 hg4 hB2 hB3 hB4 ho2 ho3 ho4 hs2 hs3 hs4 hr2 hr3 hr4
  refine bodyPost_ret (v := .agg #[.slice none 0 0, .int .i64 1, .slice A1 (idRows 1 2).length c1]) (by simp [results, Try.results31, go_sem, q0, q1, q2]) rfl ⟨none, 0, A1, c1, rfl, OwnI.nil _ _ _, o4.mono (by omega), B4⟩
theorem identityNormalForm_impl (w : World) : Calls Try.prog 32 #[] w (RetN [] 1 (idRows 1 2) w) := by
  go_enter Try.func32, Try.ntmps32
  go_wp2_with fail
  refine (identityTableau_impl_ok 1 _ (by omega) (by omega)).mono ?_
  rintro e w1 ⟨A1, c1, rfl, o1, b1⟩
  have hz1 := b1.size
  simp only [World.size_alloc] at hz1 o1
  have o1' : OwnQ w1 (w.heap.size + 1) 25 (.slice A1 (idRows 1 2).length c1) (idRows 1 2) := o1
  clear o1
  have hLa1 : w.heap.size < w1.heap.size := by omega
  have La1 := Lib.hid ((b1.block (w.heap.size) (by first | omega | (simp only [World.size_alloc]; done) | (simp only [World.size_alloc]; omega))).trans (by repeat' (first | (with_reducible exact (trivial).out) | ((with_reducible refine heap_alloc_at ?_); focus (first | (with_reducible rfl) | (simp only [World.size_alloc]; done))) | ((with_reducible apply heap_alloc_before); focus (first | omega | (simp only [World.size_alloc]; done) | (simp only [World.size_alloc]; omega))))))
  obtain ⟨q0, q1, q2, qf⟩ := blk3 La1.out
  have B1 : Below w.heap.size w w1 := by
    repeat' (first | (with_reducible exact Below.refl _ _) | (with_reducible refine below_drewN ?_ _) | (with_reducible refine Below.drew ?_) | (with_reducible refine Below.alloc ?_ ?_ _) | (with_reducible refine Below.setCell ?_ ?_ _) | (with_reducible refine Below.trans ?_ (Below.mono (by with_reducible assumption) ?_)) | go_size | (with_reducible refine Nat.le_trans ?_ (Below.size (by with_reducible assumption))))
  go_wp2_with fail
  clear q0 q1 q2 qf
  obtain ⟨w2, hw2, hg2, hs2, ho2, hr2, hB2⟩ := set_blk (La1).out 0 (.slice none 0 0) (#[.slice none 0 0, .int .i64 0, .slice none 0 0]) rfl
  rw [← hw2]
  clear hw2
  obtain ⟨w3, hw3, hg3, hs3, ho3, hr3, hB3⟩ := set_blk (Lib.hid hg2).out 1 (.int .i64 1) (#[.slice none 0 0, .int .i64 1, .slice none 0 0]) rfl
  rw [← hw3]
  clear hw3
  obtain ⟨w4, hw4, hg4, hs4, ho4, hr4, hB4⟩ := set_blk (Lib.hid hg3).out 2 (.slice A1 (idRows 1 2).length c1) (#[.slice none 0 0, .int .i64 1, .slice A1 (idRows 1 2).length c1]) rfl
  rw [← hw4]
  clear hw4
  have o4 := ((o1'.grown hr2 (by omega)).grown hr3 (by omega)).grown hr4 (by omega)
  have B4 := hB4 _ _ (hB3 _ _ (hB2 _ _ B1 (by omega)) (by omega)) (by omega)
  obtain ⟨q0, q1, q2, qf⟩ := blk3 hg4
  clear hg2 hg3 hg4 hB2 hB3 hB4 ho2 ho3 ho4 hs2 hs3 hs4 hr2 hr3 hr4
  refine bodyPost_ret (v := .agg #[.slice none 0 0, .int .i64 1, .slice A1 (idRows 1 2).length c1]) (by simp [results, Try.results32, go_sem, q0, q1, q2]) rfl ⟨none, 0, A1, c1, rfl, OwnI.nil _ _ _, o4.mono (by omega), B4⟩
/-- Nothing that was there has changed but the blocks of the two slices. -/
def But2 (A B : Option Addr) (w w' : World) : Prop := ∀ k, k < w.heap.size → (∀ a, A = some a → a.block ≠ k) → (∀ a, B = some a → a.block ≠ k) → w'.heap[k]? = w.heap[k]?
theorem markNormalForm_but (A : Option Addr) (n c : Nat) (N : Int) (B : Option Addr) (m d base : Nat) (k : Int) (l : List Int) (r : List Quad) (w : World) (ho : OwnI w base 3 (.slice A n c) l) (hp : OwnQ w base 25 (.slice B m d) r) (hb : base ≤ w.heap.size) (hk : 0 ≤ k) (hkn : k + n + 4 * m ≤ 1000000000000) :
    Calls Try.prog 33 #[.agg #[.slice A n c, .int .i64 N, .slice B m d], .int .i64 k] w fun e w' => e = .returned (.int .i64 (k + n + 4 * m)) ∧ OwnI w' base 3 (.slice A n c) (marksI k n) ∧ OwnQ w' base 25 (.slice B m d) (marks (k + n) m) ∧ Below base w w' ∧ But2 A B w w' := by
  have hap := own_apart ho hp (by decide)
  have Hap := Lib.hid hap; clear hap
  have ho0 := ho.below ((Below.refl _ _).alloc (Nat.le_refl _) (.cells #[.slice A n c, .int .i64 N, .slice B m d] 49))
  have hp0 := hp.below ((Below.refl _ _).alloc (Nat.le_refl _) (.cells #[.slice A n c, .int .i64 N, .slice B m d] 49))
  go_enter Try.func33, Try.ntmps33
  go_wp2_with fail
  refine (markIntS_but A n c base k l _ ho0 hk (by omega)).mono ?_
  rintro e w1 ⟨rfl, o1, b1, u1⟩
  have hz1 := b1.size
  simp only [World.size_alloc] at hz1
  have p1 := hp0.but b1 u1 (fun a g ha hg => by cases B with | none => cases hg | some bb => simp only [Value.ownBlock, Option.some.injEq] at hg; subst hg; exact Hap.out a bb ha rfl)
  have La := (u1 w.heap.size (by simp) (ho.ne (.inr (Nat.le_refl _)))).trans (heap_alloc_new _ _)
  have La1 := Lib.hid La; clear La
  have hla : w.heap.size < w1.heap.size := by omega
  obtain ⟨q0, q1, q2, qf⟩ := blk3 La1.out
  go_wp2_with fail
  refine (markTableau_but N B m d base (k + n) r _ p1 (by omega) (by omega) (by omega)).mono ?_
  rintro e w2 ⟨rfl, o2, b2, u2⟩
  clear q0 q1 q2 qf
  go_wp2_with fail
  go_ret
  refine ⟨rfl, ?_, o2, (((Below.refl _ _).alloc hb _).trans b1).trans b2, fun j hj hA hB => ?_⟩
  · exact o1.but b2 u2 (fun a g ha hg => by cases A with | none => cases hg | some aa => simp only [Value.ownBlock, Option.some.injEq] at hg; subst hg; exact fun h => Hap.out aa a rfl ha h.symm)
  · exact (u2 j (by omega) hB).trans ((u1 j (by simp; omega) hA).trans (Below.heap_alloc _ _ _ hj))
theorem heldNormalForm_any (A : Option Addr) (n c : Nat) (N : Int) (B : Option Addr) (m d : Nat) (k : Int) (w : World) (ha : SlI w A n (marksI k n)) (hb : SlQ w B m (marks (k + n) m)) (hk : 0 ≤ k) (hkn : k + n + 4 * m ≤ 1000000000000) :
    Calls Try.prog 34 #[.agg #[.slice A n c, .int .i64 N, .slice B m d], .int .i64 k] w fun e w' => e = .returned (.int .i64 (k + n + 4 * m)) ∧ Below w.heap.size w w' := by
  go_enter Try.func34, Try.ntmps34
  go_wp2_with fail
  refine (heldIntS_any A n c k _ (ha.alloc _) hk (by omega)).mono ?_
  rintro e w' ⟨rfl, hw'⟩
  rw [hw']
  clear hw' w'
  go_wp2_with fail
  refine (heldTableau_any N B m d (k + n) _ (hb.alloc _) (by omega) (by omega)).mono ?_
  rintro e w1 ⟨rfl, b1⟩
  go_wp2_with fail
  go_ret
  refine ⟨rfl, ?_⟩
  repeat' (first | (with_reducible exact Below.refl _ _) | (with_reducible refine below_drewN ?_ _) | (with_reducible refine Below.drew ?_) | (with_reducible refine Below.alloc ?_ ?_ _) | (with_reducible refine Below.setCell ?_ ?_ _) | (with_reducible refine Below.trans ?_ (Below.mono (by with_reducible assumption) ?_)) | go_size | (with_reducible refine Nat.le_trans ?_ (Below.size (by with_reducible assumption))))
end Go.Proofs.Ytpahkbajeniajaa
