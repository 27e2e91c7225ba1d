/- How arguments of the statements are opened: slices read as lists. -/
import Derived.WalkKit
import Derived.Lib.Hide
import Derived.Handy
import Derived.Deep.QuietTactic
import Derived.BigQuiet
import Derived.Deep.Slices
import Derived.Deep.Fields
import Derived.Lib.SmallJoins
import Derived.Test.YtbkkfmcjfbbkaaaRows
import Derived.ProofKit
import Derived.OpenShut
import Derived.ShutString
import Derived.ChangeOld
namespace Go.Proofs.Ytbkkfmcjfbbkaaa
open Go.RowKit Go.Lib
set_option linter.unusedVariables false
set_option linter.unusedSimpArgs false
abbrev Quad := Int × Int × Int × Int
def qc (q : Quad) : List Value := [.int .i64 q.1, .int .i64 q.2.1, .int .i64 q.2.2.1, .int .i64 q.2.2.2]
def qcs (l : List Quad) : List Value := l.flatMap qc

theorem qcs_nil : qcs [] = [] := rfl
theorem qcs_cons (q : Quad) (l : List Quad) : qcs (q :: l) = qc q ++ qcs l := rfl
theorem qcs_append (l m : List Quad) : qcs (l ++ m) = qcs l ++ qcs m := by simp [qcs]
theorem qcs_length (l : List Quad) : (qcs l).length = l.length * 4 := by
  induction l with
  | nil => rfl
  | cons q l ih => rw [qcs_cons, List.length_append, ih, List.length_cons]; simp [qc]; omega
theorem qcs_get (l : List Quad) : ∀ (i j : Nat) (q : Quad), l[i]? = some q → j < 4 → (qcs l)[i * 4 + j]? = (qc q)[j]? := by
  induction l with
  | nil => intro i j q h; simp at h
  | cons p l ih =>
    intro i j q h hj
    rw [qcs_cons]
    cases i with
    | zero =>
      simp at h; subst h
      rw [Nat.zero_mul, Nat.zero_add, List.getElem?_append_left (by simp [qc]; omega)]
    | succ i =>
      rw [List.getElem?_append_right (by simp [qc]; omega)]
      rw [show (i + 1) * 4 + j - (qc p).length = i * 4 + j by simp [qc]; omega]
      exact ih i j q (by simpa using h) hj
theorem qcs_one (l : List Quad) : ∀ u ∈ qcs l, u.oneCell' = true := by
  intro u hu
  simp only [qcs, List.mem_flatMap] at hu
  obtain ⟨q, _, hq⟩ := hu
  simp only [qc, List.mem_cons, List.not_mem_nil, or_false] at hq
  rcases hq with rfl | rfl | rfl | rfl <;> rfl

/-- The slice that begins at A and has n elements reads as the list l. -/
def SlQ (w : World) (A : Option Addr) (n : Nat) (l : List Quad) : Prop :=
  l.length = n ∧ (0 < n → ∃ b off, A = some ⟨b, off, none⟩ ∧ b < w.heap.size ∧ ∀ (i : Nat) (q : Quad), l[i]? = some q →
    w.cell? ⟨b, off + i * 4, none⟩ = some (.int .i64 q.1) ∧ w.cell? ⟨b, off + i * 4 + 1, none⟩ = some (.int .i64 q.2.1) ∧
    w.cell? ⟨b, off + i * 4 + 2, none⟩ = some (.int .i64 q.2.2.1) ∧ w.cell? ⟨b, off + i * 4 + 3, none⟩ = some (.int .i64 q.2.2.2))

theorem SlQ.at {w : World} {A : Option Addr} {n k : Nat} {l : List Quad} (h : SlQ w A n l) (hk : k < n) :
    ∃ (b off : Nat) (q0 q1 q2 q3 : Int), A = some ⟨b, off, none⟩ ∧ b < w.heap.size ∧ Hid (l[k]? = some (q0, q1, q2, q3)) ∧
      w.cell? ⟨b, off + k * 4, none⟩ = some (.int .i64 q0) ∧ w.cell? ⟨b, off + k * 4 + 1, none⟩ = some (.int .i64 q1) ∧
      w.cell? ⟨b, off + k * 4 + 2, none⟩ = some (.int .i64 q2) ∧ w.cell? ⟨b, off + k * 4 + 3, none⟩ = some (.int .i64 q3) := by
  obtain ⟨b, off, hA, hb, hc⟩ := h.2 (by omega)
  have hl : k < l.length := by rw [h.1]; exact hk
  obtain ⟨c0, c1, c2, c3⟩ := hc k _ (List.getElem?_eq_getElem hl)
  exact ⟨b, off, l[k].1, l[k].2.1, l[k].2.2.1, l[k].2.2.2, hA, hb, hid (List.getElem?_eq_getElem hl), c0, c1, c2, c3⟩

theorem SlQ.keep {w w' : World} {A : Option Addr} {n : Nat} {l : List Quad} (h : SlQ w A n l) (hs : w.heap.size ≤ w'.heap.size)
    (hk : ∀ p : Addr, p.block < w.heap.size → w'.cell? p = w.cell? p) : SlQ w' A n l :=
  ⟨h.1, fun hn => by
    obtain ⟨b, off, hA, hb, hc⟩ := h.2 hn
    refine ⟨b, off, hA, by omega, fun i q hq => ?_⟩
    obtain ⟨c0, c1, c2, c3⟩ := hc i q hq
    exact ⟨(hk _ hb).trans c0, (hk _ hb).trans c1, (hk _ hb).trans c2, (hk _ hb).trans c3⟩⟩
theorem SlQ.below {w w' : World} {A : Option Addr} {n : Nat} {l : List Quad} (h : SlQ w A n l) (hb : Below w.heap.size w w') : SlQ w' A n l :=
  h.keep hb.size fun _ hp => hb.cell hp
theorem SlQ.alloc {w : World} {A : Option Addr} {n : Nat} {l : List Quad} (h : SlQ w A n l) (o : Obj) : SlQ (w.alloc o) A n l :=
  h.below ((Below.refl _ _).alloc (Nat.le_refl _) o)
theorem SlQ.drewN {w : World} {A : Option Addr} {n : Nat} {l : List Quad} (h : SlQ w A n l) (k : Nat) : SlQ (w.drewN k) A n l := h
theorem SlQ.drew {w : World} {A : Option Addr} {n : Nat} {l : List Quad} (h : SlQ w A n l) : SlQ w.drew A n l := h
theorem SlQ.nil (w : World) (A : Option Addr) : SlQ w A 0 [] := ⟨rfl, fun h => absurd h (by omega)⟩

def SlI (w : World) (A : Option Addr) (n : Nat) (l : List Int) : Prop :=
  l.length = n ∧ (0 < n → ∃ b off, A = some ⟨b, off, none⟩ ∧ b < w.heap.size ∧ ∀ (i : Nat) (q : Int), l[i]? = some q → w.cell? ⟨b, off + i, none⟩ = some (.int .i64 q))
theorem SlI.at {w : World} {A : Option Addr} {n k : Nat} {l : List Int} (h : SlI w A n l) (hk : k < n) :
    ∃ (b off : Nat) (q : Int), A = some ⟨b, off, none⟩ ∧ b < w.heap.size ∧ Hid (l[k]? = some q) ∧ w.cell? ⟨b, off + k, none⟩ = some (.int .i64 q) := by
  obtain ⟨b, off, hA, hb, hc⟩ := h.2 (by omega)
  have hl : k < l.length := by rw [h.1]; exact hk
  exact ⟨b, off, l[k], hA, hb, hid (List.getElem?_eq_getElem hl), hc k _ (List.getElem?_eq_getElem hl)⟩
theorem SlI.keep {w w' : World} {A : Option Addr} {n : Nat} {l : List Int} (h : SlI w A n l) (hs : w.heap.size ≤ w'.heap.size)
    (hk : ∀ p : Addr, p.block < w.heap.size → w'.cell? p = w.cell? p) : SlI w' A n l :=
  ⟨h.1, fun hn => by
    obtain ⟨b, off, hA, hb, hc⟩ := h.2 hn
    exact ⟨b, off, hA, by omega, fun i q hq => (hk _ hb).trans (hc i q hq)⟩⟩
theorem SlI.below {w w' : World} {A : Option Addr} {n : Nat} {l : List Int} (h : SlI w A n l) (hb : Below w.heap.size w w') : SlI w' A n l :=
  h.keep hb.size fun _ hp => hb.cell hp
theorem SlI.alloc {w : World} {A : Option Addr} {n : Nat} {l : List Int} (h : SlI w A n l) (o : Obj) : SlI (w.alloc o) A n l :=
  h.below ((Below.refl _ _).alloc (Nat.le_refl _) o)
theorem SlI.nil (w : World) (A : Option Addr) : SlI w A 0 [] := ⟨rfl, fun h => absurd h (by omega)⟩
end Go.Proofs.Ytbkkfmcjfbbkaaa
/- Common facts for the statements of this seat: how arguments are opened. -/
namespace Go.Proofs.Ytbkkfmcjfbbkaaa
open Go.ChangeShapes Go.WideShapes Go.ChangeAt Go.RowKit Go.Joins Go.Deep
set_option linter.unusedVariables false

theorem own : ownKnob Try.prog.godebug = none := by kernel_rfl
theorem laidOut : laidOutB Try.prog = true := by kernel_rfl

/-- What a walk is told of a slice of bytes that came in. -/
def IsBytes (w : World) (A : Option Addr) (n c : Nat) (zs : List Int) : Prop :=
  n ≤ maxLen ∧ zs.length = n ∧ (∀ z ∈ zs, 0 ≤ z ∧ z ≤ 255) ∧ (0 < n → ∃ b off, A = some ⟨b, off, none⟩ ∧ b < w.heap.size ∧ ∀ i z, zs[i]? = some z → w.cell? ⟨b, off + i, none⟩ = some (.int .u8 z))

section
variable {H : Type} {enc : TypeId × Value → H} {P : Program} {w : World} {base : Nat} {spare : Nat → Bool} {held : Bool}
theorem isBytes_of_trod {t e : TypeId} {A : Option Addr} {n c : Nat} {d : DataW H} {p : List MemPlace} (ht : P.underlying t = some (.slice e)) (he : P.underlying e = some (.int .u8)) (hC : P.cellsOf e = 1)
    (h : DataW.Trod enc P w base spare held t (.slice A n c) d p) : ∃ zs, IsBytes w A n c zs := by
  obtain ⟨fuel, hf⟩ := h
  rcases open_ints ht he hC hf with ⟨hcs, _⟩ | ⟨x, l, c', zs, hcs, _, hl, hm, hz, _, hcell, hwz⟩
  · simp [Value.cells] at hcs
    obtain ⟨rfl, rfl, rfl⟩ := hcs
    exact ⟨[], by simp [maxLen], rfl, by simp, fun h => absurd h (by omega)⟩
  · simp [Value.cells] at hcs
    obtain ⟨rfl, rfl, rfl⟩ := hcs
    have hlz : n ≤ zs.length := by rw [hz]; split <;> omega
    refine ⟨zs.take n, by omega, by simp; omega, fun z hz' => ?_, fun hp => ?_⟩
    · have := hwz z (List.mem_of_mem_take hz')
      have := bounds_u8 this
      omega
    · obtain ⟨b, off, spot⟩ := x
      have h0 := hcell 0 (by omega)
      have hs : spot = none := by simpa [Addr.add] using World.cell?_spot h0
      subst hs
      refine ⟨b, off, rfl, ?_, fun i z hiz => ?_⟩
      · exact World.block_lt_of_cell? w _ (by simpa [Addr.add] using h0)
      · have hi : i < n := by
          rcases Nat.lt_or_ge i n with h' | h'
          · exact h'
          · rw [List.getElem?_eq_none (by simp; omega)] at hiz; cases hiz
        have hc := hcell i (by omega)
        rw [show (⟨b, off, none⟩ : Addr).add i = ⟨b, off + i, none⟩ from by unfold Addr.add; split <;> simp_all] at hc
        rw [hc]
        have : zs.getD i 0 = z := by
          rw [List.getElem?_take, if_pos hi] at hiz
          simp [hiz]
        rw [this]

theorem quad_of_trod {e : TypeId} {f0 f1 f2 f3 : Field} {fuel : Nat} {cs : List Value} {x : DataW H × List MemPlace} (he : P.underlying e = some (.struct #[f0, f1, f2, f3])) (hone : oneCellFields P #[f0, f1, f2, f3] = true)
    (h0 : P.underlying f0.type = some (.int .i64)) (h1 : P.underlying f1.type = some (.int .i64)) (h2 : P.underlying f2.type = some (.int .i64)) (h3 : P.underlying f3.type = some (.int .i64))
    (hl : cs.length = 4) (h : DataW.trod enc P w base spare held fuel e cs = some x) : ∃ q : Quad, cs = qc q := by
  obtain ⟨xs, n, _, hx, _, hlen, hg⟩ := DataW.trod_struct he h
  obtain ⟨o0, k0⟩ := hone_of hone 0 f0 rfl
  obtain ⟨o1, k1⟩ := hone_of hone 1 f1 rfl
  obtain ⟨o2, k2⟩ := hone_of hone 2 f2 rfl
  obtain ⟨o3, k3⟩ := hone_of hone 3 f3 rfl
  match cs, hl, xs, hlen with
  | [c0, c1, c2, c3], _, [y0, y1, y2, y3], _ =>
    have g0 := hg 0 f0 rfl
    have g1 := hg 1 f1 rfl
    have g2 := hg 2 f2 rfl
    have g3 := hg 3 f3 rfl
    simp [o0, k0] at g0
    simp [o1, k1] at g1
    simp [o2, k2] at g2
    simp [o3, k3] at g3
    obtain ⟨a0, e0, _⟩ := DataW.trod_int h0 g0
    obtain ⟨a1, e1, _⟩ := DataW.trod_int h1 g1
    obtain ⟨a2, e2, _⟩ := DataW.trod_int h2 g2
    obtain ⟨a3, e3, _⟩ := DataW.trod_int h3 g3
    simp only [List.cons.injEq, and_true] at e0 e1 e2 e3
    exact ⟨(a0, a1, a2, a3), by simp [qc, e0, e1, e2, e3]⟩

/-- What a walk is told of a slice of structs with four ints that came in. -/
def IsQuads (w : World) (A : Option Addr) (n c : Nat) (l : List Quad) : Prop := (n ≤ maxLen ∧ n ≤ c) ∧ SlQ w A n l
theorem isQuads_of_cell {t e : TypeId} {f0 f1 f2 f3 : Field} {fuel : Nat} {v : Value} {x : DataW H × List MemPlace} (ht : P.underlying t = some (.slice e)) (he : P.underlying e = some (.struct #[f0, f1, f2, f3]))
    (h3 : P.underlying f0.type = some (.int .i64) ∧ P.underlying f1.type = some (.int .i64) ∧ P.underlying f2.type = some (.int .i64) ∧ P.underlying f3.type = some (.int .i64))
    (hone : oneCellFields P #[f0, f1, f2, f3] = true) (hC : P.cellsOf e = 4)
    (h : DataW.trod enc P w base spare held fuel t [v] = some x) : ∃ A n c l, v = .slice A n c ∧ IsQuads w A n c l := by
  rcases open_slice ht h with ⟨hcs, _⟩ | ⟨a, len, cap, m, k, D, Pl, hcs, hb, hl, hm, hmm, hx, hi⟩
  · simp only [List.cons.injEq, and_true] at hcs
    exact ⟨none, 0, 0, [], hcs, ⟨by simp [maxLen], Nat.le_refl _⟩, SlQ.nil w none⟩
  · simp only [List.cons.injEq, and_true] at hcs
    have hlm : len ≤ m := by rw [hmm]; split <;> omega
    have hex : ∀ i, i < len → ∃ q : Quad, ∀ j, j < 4 → w.cell? (a.add (i * 4 + j)) = (qc q)[j]? := by
      intro i hil
      obtain ⟨cs', hc, ht'⟩ := hi i (by omega)
      rw [hC] at hc
      obtain ⟨_, hcl, hat⟩ := World.cells?_some hc
      obtain ⟨q, rfl⟩ := quad_of_trod he hone h3.1 h3.2.1 h3.2.2.1 h3.2.2.2 hcl ht'
      refine ⟨q, fun j hj => ?_⟩
      have := hat j hj
      rwa [Go.Deep.add_add] at this
    let f : Nat → Quad := fun i => if h : i < len then Classical.choose (hex i h) else (0, 0, 0, 0)
    refine ⟨some a, len, cap, (List.range len).map f, hcs, ⟨by omega, hl⟩, by simp, fun hp => ?_⟩
    obtain ⟨b, off, spot⟩ := a
    have h00 := Classical.choose_spec (hex 0 hp) 0 (by omega)
    have hs : spot = none := by
      have := World.cell?_spot (w := w) (a := (⟨b, off, spot⟩ : Addr).add (0 * 4 + 0)) (v := .int .i64 (Classical.choose (hex 0 hp)).1) (by rw [h00]; rfl)
      simpa [Addr.add] using this
    subst hs
    have hadd : ∀ i, (⟨b, off, none⟩ : Addr).add i = ⟨b, off + i, none⟩ := fun i => by unfold Addr.add; split <;> simp_all
    refine ⟨b, off, rfl, ?_, fun i q hq => ?_⟩
    · rw [hadd] at h00
      exact World.block_lt_of_cell? w _ (u := .int .i64 (Classical.choose (hex 0 hp)).1) (by rw [h00]; rfl)
    · have hil : i < len := by
        rcases Nat.lt_or_ge i len with h' | h'
        · exact h'
        · rw [List.getElem?_eq_none (by simp; omega)] at hq; cases hq
      have hqq : q = Classical.choose (hex i hil) := by
        simp only [List.getElem?_map, List.getElem?_range hil, Option.map_some, Option.some.injEq] at hq
        rw [← hq]; simp only [f, dif_pos hil]
      have hc := Classical.choose_spec (hex i hil)
      rw [← hqq] at hc
      have c0 := hc 0 (by omega)
      have c1 := hc 1 (by omega)
      have c2 := hc 2 (by omega)
      have c3 := hc 3 (by omega)
      simp only [hadd, Nat.add_zero, ← Nat.add_assoc] at c0 c1 c2 c3
      exact ⟨c0, c1, c2, c3⟩
theorem isQuads_of_trod {t e : TypeId} {f0 f1 f2 f3 : Field} {A : Option Addr} {n c : Nat} {d : DataW H} {p : List MemPlace} (ht : P.underlying t = some (.slice e)) (he : P.underlying e = some (.struct #[f0, f1, f2, f3]))
    (h3 : P.underlying f0.type = some (.int .i64) ∧ P.underlying f1.type = some (.int .i64) ∧ P.underlying f2.type = some (.int .i64) ∧ P.underlying f3.type = some (.int .i64))
    (hone : oneCellFields P #[f0, f1, f2, f3] = true) (hC : P.cellsOf e = 4)
    (h : DataW.Trod enc P w base spare held t (.slice A n c) d p) : ∃ l, IsQuads w A n c l := by
  obtain ⟨fuel, hf⟩ := h
  obtain ⟨A', n', c', l, hv, hq⟩ := isQuads_of_cell ht he h3 hone hC (by simpa [Value.cells] using hf)
  injection hv with h1 h2 h3
  subst h1 h2 h3
  exact ⟨l, hq⟩
end
end Go.Proofs.Ytbkkfmcjfbbkaaa
/- How arguments that hold slices of ints are opened: []int, NormalForm. -/
namespace Go.Proofs.Ytbkkfmcjfbbkaaa
open Go.ChangeShapes Go.WideShapes Go.ChangeAt Go.RowKit Go.Joins Go.Deep
set_option linter.unusedVariables false
/-- What a walk is told of a slice of ints that came in. -/
def IsInts (w : World) (A : Option Addr) (n c : Nat) (l : List Int) : Prop := (n ≤ maxLen ∧ n ≤ c) ∧ SlI w A n l
section
variable {H : Type} {enc : TypeId × Value → H} {P : Program} {w : World} {base : Nat} {spare : Nat → Bool} {held : Bool}
theorem isInts_of_cell {t e : TypeId} {fuel : Nat} {v : Value} {x : DataW H × List MemPlace} (ht : P.underlying t = some (.slice e)) (he : P.underlying e = some (.int .i64)) (hC : P.cellsOf e = 1)
    (h : DataW.trod enc P w base spare held fuel t [v] = some x) : ∃ A n c l, v = .slice A n c ∧ IsInts w A n c l := by
  rcases open_ints ht he hC h with ⟨hcs, _⟩ | ⟨x, n, c, zs, hcs, _, hl, hm, hz, _, hcell, hwz⟩
  · simp only [List.cons.injEq, and_true] at hcs
    exact ⟨none, 0, 0, [], hcs, ⟨by simp [maxLen], Nat.le_refl _⟩, SlI.nil w none⟩
  · simp only [List.cons.injEq, and_true] at hcs
    have hlz : n ≤ zs.length := by rw [hz]; split <;> omega
    refine ⟨some x, n, c, zs.take n, hcs, ⟨by omega, hl⟩, by simp; omega, fun hp => ?_⟩
    obtain ⟨b, off, spot⟩ := x
    have h0 := hcell 0 (by omega)
    have hs : spot = none := by simpa [Addr.add] using World.cell?_spot h0
    subst hs
    refine ⟨b, off, rfl, ?_, fun i z hiz => ?_⟩
    · exact World.block_lt_of_cell? w _ (by simpa [Addr.add] using h0)
    · have hi : i < n := by
        rcases Nat.lt_or_ge i n with h' | h'
        · exact h'
        · rw [List.getElem?_eq_none (by simp; omega)] at hiz; cases hiz
      have hc := hcell i (by omega)
      rw [show (⟨b, off, none⟩ : Addr).add i = ⟨b, off + i, none⟩ from by unfold Addr.add; split <;> simp_all] at hc
      rw [hc]
      have : zs.getD i 0 = z := by
        rw [List.getElem?_take, if_pos hi] at hiz
        simp [hiz]
      rw [this]
theorem open_nf {r : Reach} {b0 : Nat} {t ti tp : TypeId} {f0 f1 g0 g1 p0 p1 p2 p3 : Field} {v : Value} {d : DataW H} {p : List MemPlace} (hs : P.underlying t = some (.struct #[f0, f1])) (hs1 : P.underlying f1.type = some (.struct #[g0, g1]))
    (hi : P.underlying f0.type = some (.slice ti)) (hii : P.underlying ti = some (.int .i64)) (hn : P.underlying g0.type = some (.int .i64)) (hp : P.underlying g1.type = some (.slice tp)) (hpp : P.underlying tp = some (.struct #[p0, p1, p2, p3]))
    (h3 : P.underlying p0.type = some (.int .i64) ∧ P.underlying p1.type = some (.int .i64) ∧ P.underlying p2.type = some (.int .i64) ∧ P.underlying p3.type = some (.int .i64))
    (ho : f0.offset = 0 ∧ f1.offset = 1 ∧ g0.offset = 0 ∧ g1.offset = 1) (hc : P.cellsOf t = 3 ∧ P.cellsOf f0.type = 1 ∧ P.cellsOf f1.type = 2 ∧ P.cellsOf g0.type = 1 ∧ P.cellsOf g1.type = 1 ∧ P.cellsOf ti = 1 ∧ P.cellsOf tp = 4)
    (hone : oneCellFields P #[p0, p1, p2, p3] = true)
    (hv : Value.okWide P w r b0 t v) (h : DataW.Trod enc P w base spare held t v d p) :
    ∃ A n c l N B m e q, v = .agg #[.slice A n c, .int .i64 N, .slice B m e] ∧ IsInts w A n c l ∧ (Lit.int .i64 N).wf = true ∧ IsQuads w B m e q := by
  obtain ⟨cs, rfl, hsz⟩ := okWide_struct hs hv
  obtain ⟨c0, c1, c2, rfl⟩ := array3 (hsz.trans hc.1)
  obtain ⟨fuel, hf⟩ := h
  obtain ⟨xs, k, _, _, _, hlen, hg⟩ := DataW.trod_struct hs hf
  match xs, hlen with
  | [y0, y1], _ =>
    have e0 := hg 0 f0 rfl
    have e1 := hg 1 f1 rfl
    simp [Value.cells, ho.1, hc.2.1] at e0
    simp [Value.cells, ho.2.1, hc.2.2.1] at e1
    obtain ⟨A, n, c, l, rfl, hA⟩ := isInts_of_cell hi hii hc.2.2.2.2.2.1 e0
    obtain ⟨xs1, k1, _, _, _, hlen1, hg1⟩ := DataW.trod_struct hs1 e1
    match xs1, hlen1 with
    | [z0, z1], _ =>
      have i0 := hg1 0 g0 rfl
      have i1 := hg1 1 g1 rfl
      simp [ho.2.2.1, hc.2.2.2.1] at i0
      simp [ho.2.2.2, hc.2.2.2.2.1] at i1
      obtain ⟨N, hN, _, wN⟩ := DataW.trod_int hn i0
      simp only [List.cons.injEq, and_true] at hN
      obtain ⟨B, m, e, q, rfl, hB⟩ := isQuads_of_cell hp hpp h3 hone hc.2.2.2.2.2.2 i1
      exact ⟨A, n, c, l, N, B, m, e, q, by rw [hN], hA, wN, hB⟩
end
end Go.Proofs.Ytbkkfmcjfbbkaaa
