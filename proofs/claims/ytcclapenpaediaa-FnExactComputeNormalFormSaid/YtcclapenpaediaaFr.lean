/- Common facts for the statements of this seat: how arguments are opened. -/
import Derived.Test.YtcclapenpaediaaRows
import Derived.Test.YtcclapenpaediaaQd
import Derived.ProofKit
import Derived.OpenShut
import Derived.ShutString
import Derived.ChangeOld
import Derived.Deep.Slices
import Derived.Deep.Fields
namespace Go.Proofs.Ytcclapenpaediaa
open Go.ChangeShapes Go.WideShapes Go.ChangeAt Go.RowKit Go.Joins Go.Deep
set_option linter.unusedVariables false

theorem own : ownKnob Try.prog.godebug = none := by kernel_rfl
theorem laidOut : laidOutB Try.prog = true := by kernel_rfl

/-- What a walk is told of a slice of bytes that came in. -/
def IsBytes (w : World) (A : Option Addr) (n c : Nat) (zs : List Int) : Prop :=
  n ≤ maxLen ∧ zs.length = n ∧ (∀ z ∈ zs, 0 ≤ z ∧ z ≤ 255) ∧ (0 < n → ∃ b off, A = some ⟨b, off, none⟩ ∧ b < w.heap.size ∧ ∀ i z, zs[i]? = some z → w.cell? ⟨b, off + i, none⟩ = some (.int .u8 z))

section
variable {H : Type} {enc : TypeId × Value → H} {P : Program} {w : World} {base : Nat} {spare : Nat → Bool} {held : Bool}
theorem isBytes_of_trod {t e : TypeId} {A : Option Addr} {n c : Nat} {d : DataW H} {p : List MemPlace} (ht : P.underlying t = some (.slice e)) (he : P.underlying e = some (.int .u8)) (hC : P.cellsOf e = 1)
    (h : DataW.Trod enc P w base spare held t (.slice A n c) d p) : ∃ zs, IsBytes w A n c zs := by
  obtain ⟨fuel, hf⟩ := h
  rcases open_ints ht he hC hf with ⟨hcs, _⟩ | ⟨x, l, c', zs, hcs, _, hl, hm, hz, _, hcell, hwz⟩
  · simp [Value.cells] at hcs
    obtain ⟨rfl, rfl, rfl⟩ := hcs
    exact ⟨[], by simp [maxLen], rfl, by simp, fun h => absurd h (by omega)⟩
  · simp [Value.cells] at hcs
    obtain ⟨rfl, rfl, rfl⟩ := hcs
    have hlz : n ≤ zs.length := by rw [hz]; split <;> omega
    refine ⟨zs.take n, by omega, by simp; omega, fun z hz' => ?_, fun hp => ?_⟩
    · have := hwz z (List.mem_of_mem_take hz')
      have := bounds_u8 this
      omega
    · obtain ⟨b, off, spot⟩ := x
      have h0 := hcell 0 (by omega)
      have hs : spot = none := by simpa [Addr.add] using World.cell?_spot h0
      subst hs
      refine ⟨b, off, rfl, ?_, fun i z hiz => ?_⟩
      · exact World.block_lt_of_cell? w _ (by simpa [Addr.add] using h0)
      · have hi : i < n := by
          rcases Nat.lt_or_ge i n with h' | h'
          · exact h'
          · rw [List.getElem?_eq_none (by simp; omega)] at hiz; cases hiz
        have hc := hcell i (by omega)
        rw [show (⟨b, off, none⟩ : Addr).add i = ⟨b, off + i, none⟩ from by unfold Addr.add; split <;> simp_all] at hc
        rw [hc]
        have : zs.getD i 0 = z := by
          rw [List.getElem?_take, if_pos hi] at hiz
          simp [hiz]
        rw [this]

theorem quad_of_trod {e : TypeId} {f0 f1 f2 f3 : Field} {fuel : Nat} {cs : List Value} {x : DataW H × List MemPlace} (he : P.underlying e = some (.struct #[f0, f1, f2, f3])) (hone : oneCellFields P #[f0, f1, f2, f3] = true)
    (h0 : P.underlying f0.type = some (.int .i64)) (h1 : P.underlying f1.type = some (.int .i64)) (h2 : P.underlying f2.type = some (.int .i64)) (h3 : P.underlying f3.type = some (.int .i64))
    (hl : cs.length = 4) (h : DataW.trod enc P w base spare held fuel e cs = some x) : ∃ q : Quad, cs = qc q := by
  obtain ⟨xs, n, _, hx, _, hlen, hg⟩ := DataW.trod_struct he h
  obtain ⟨o0, k0⟩ := hone_of hone 0 f0 rfl
  obtain ⟨o1, k1⟩ := hone_of hone 1 f1 rfl
  obtain ⟨o2, k2⟩ := hone_of hone 2 f2 rfl
  obtain ⟨o3, k3⟩ := hone_of hone 3 f3 rfl
  match cs, hl, xs, hlen with
  | [c0, c1, c2, c3], _, [y0, y1, y2, y3], _ =>
    have g0 := hg 0 f0 rfl
    have g1 := hg 1 f1 rfl
    have g2 := hg 2 f2 rfl
    have g3 := hg 3 f3 rfl
    simp [o0, k0] at g0
    simp [o1, k1] at g1
    simp [o2, k2] at g2
    simp [o3, k3] at g3
    obtain ⟨a0, e0, _⟩ := DataW.trod_int h0 g0
    obtain ⟨a1, e1, _⟩ := DataW.trod_int h1 g1
    obtain ⟨a2, e2, _⟩ := DataW.trod_int h2 g2
    obtain ⟨a3, e3, _⟩ := DataW.trod_int h3 g3
    simp only [List.cons.injEq, and_true] at e0 e1 e2 e3
    exact ⟨(a0, a1, a2, a3), by simp [qc, e0, e1, e2, e3]⟩

/-- What a walk is told of a slice of structs with four ints that came in. -/
def IsQuads (w : World) (A : Option Addr) (n c : Nat) (l : List Quad) : Prop := (n ≤ maxLen ∧ n ≤ c) ∧ SlQ w A n l
theorem isQuads_of_cell {t e : TypeId} {f0 f1 f2 f3 : Field} {fuel : Nat} {v : Value} {x : DataW H × List MemPlace} (ht : P.underlying t = some (.slice e)) (he : P.underlying e = some (.struct #[f0, f1, f2, f3]))
    (h3 : P.underlying f0.type = some (.int .i64) ∧ P.underlying f1.type = some (.int .i64) ∧ P.underlying f2.type = some (.int .i64) ∧ P.underlying f3.type = some (.int .i64))
    (hone : oneCellFields P #[f0, f1, f2, f3] = true) (hC : P.cellsOf e = 4)
    (h : DataW.trod enc P w base spare held fuel t [v] = some x) : ∃ A n c l, v = .slice A n c ∧ IsQuads w A n c l := by
  rcases open_slice ht h with ⟨hcs, _⟩ | ⟨a, len, cap, m, k, D, Pl, hcs, hb, hl, hm, hmm, hx, hi⟩
  · simp only [List.cons.injEq, and_true] at hcs
    exact ⟨none, 0, 0, [], hcs, ⟨by simp [maxLen], Nat.le_refl _⟩, SlQ.nil w none⟩
  · simp only [List.cons.injEq, and_true] at hcs
    have hlm : len ≤ m := by rw [hmm]; split <;> omega
    have hex : ∀ i, i < len → ∃ q : Quad, ∀ j, j < 4 → w.cell? (a.add (i * 4 + j)) = (qc q)[j]? := by
      intro i hil
      obtain ⟨cs', hc, ht'⟩ := hi i (by omega)
      rw [hC] at hc
      obtain ⟨_, hcl, hat⟩ := World.cells?_some hc
      obtain ⟨q, rfl⟩ := quad_of_trod he hone h3.1 h3.2.1 h3.2.2.1 h3.2.2.2 hcl ht'
      refine ⟨q, fun j hj => ?_⟩
      have := hat j hj
      rwa [Go.Deep.add_add] at this
    let f : Nat → Quad := fun i => if h : i < len then Classical.choose (hex i h) else (0, 0, 0, 0)
    refine ⟨some a, len, cap, (List.range len).map f, hcs, ⟨by omega, hl⟩, by simp, fun hp => ?_⟩
    obtain ⟨b, off, spot⟩ := a
    have h00 := Classical.choose_spec (hex 0 hp) 0 (by omega)
    have hs : spot = none := by
      have := World.cell?_spot (w := w) (a := (⟨b, off, spot⟩ : Addr).add (0 * 4 + 0)) (v := .int .i64 (Classical.choose (hex 0 hp)).1) (by rw [h00]; rfl)
      simpa [Addr.add] using this
    subst hs
    have hadd : ∀ i, (⟨b, off, none⟩ : Addr).add i = ⟨b, off + i, none⟩ := fun i => by unfold Addr.add; split <;> simp_all
    refine ⟨b, off, rfl, ?_, fun i q hq => ?_⟩
    · rw [hadd] at h00
      exact World.block_lt_of_cell? w _ (u := .int .i64 (Classical.choose (hex 0 hp)).1) (by rw [h00]; rfl)
    · have hil : i < len := by
        rcases Nat.lt_or_ge i len with h' | h'
        · exact h'
        · rw [List.getElem?_eq_none (by simp; omega)] at hq; cases hq
      have hqq : q = Classical.choose (hex i hil) := by
        simp only [List.getElem?_map, List.getElem?_range hil, Option.map_some, Option.some.injEq] at hq
        rw [← hq]; simp only [f, dif_pos hil]
      have hc := Classical.choose_spec (hex i hil)
      rw [← hqq] at hc
      have c0 := hc 0 (by omega)
      have c1 := hc 1 (by omega)
      have c2 := hc 2 (by omega)
      have c3 := hc 3 (by omega)
      simp only [hadd, Nat.add_zero, ← Nat.add_assoc] at c0 c1 c2 c3
      exact ⟨c0, c1, c2, c3⟩
theorem isQuads_of_trod {t e : TypeId} {f0 f1 f2 f3 : Field} {A : Option Addr} {n c : Nat} {d : DataW H} {p : List MemPlace} (ht : P.underlying t = some (.slice e)) (he : P.underlying e = some (.struct #[f0, f1, f2, f3]))
    (h3 : P.underlying f0.type = some (.int .i64) ∧ P.underlying f1.type = some (.int .i64) ∧ P.underlying f2.type = some (.int .i64) ∧ P.underlying f3.type = some (.int .i64))
    (hone : oneCellFields P #[f0, f1, f2, f3] = true) (hC : P.cellsOf e = 4)
    (h : DataW.Trod enc P w base spare held t (.slice A n c) d p) : ∃ l, IsQuads w A n c l := by
  obtain ⟨fuel, hf⟩ := h
  obtain ⟨A', n', c', l, hv, hq⟩ := isQuads_of_cell ht he h3 hone hC (by simpa [Value.cells] using hf)
  injection hv with h1 h2 h3
  subst h1 h2 h3
  exact ⟨l, hq⟩
end
end Go.Proofs.Ytcclapenpaediaa
