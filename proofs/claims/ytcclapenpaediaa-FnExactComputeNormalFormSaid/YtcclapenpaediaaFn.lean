/- How arguments that hold slices of ints are opened: []int, NormalForm. -/
import Derived.Test.YtcclapenpaediaaFr
import Derived.Test.YtcclapenpaediaaIn
namespace Go.Proofs.Ytcclapenpaediaa
open Go.ChangeShapes Go.WideShapes Go.ChangeAt Go.RowKit Go.Joins Go.Deep
set_option linter.unusedVariables false
/-- What a walk is told of a slice of ints that came in. -/
def IsInts (w : World) (A : Option Addr) (n c : Nat) (l : List Int) : Prop := (n ≤ maxLen ∧ n ≤ c) ∧ SlI w A n l
section
variable {H : Type} {enc : TypeId × Value → H} {P : Program} {w : World} {base : Nat} {spare : Nat → Bool} {held : Bool}
theorem isInts_of_cell {t e : TypeId} {fuel : Nat} {v : Value} {x : DataW H × List MemPlace} (ht : P.underlying t = some (.slice e)) (he : P.underlying e = some (.int .i64)) (hC : P.cellsOf e = 1)
    (h : DataW.trod enc P w base spare held fuel t [v] = some x) : ∃ A n c l, v = .slice A n c ∧ IsInts w A n c l := by
  rcases open_ints ht he hC h with ⟨hcs, _⟩ | ⟨x, n, c, zs, hcs, _, hl, hm, hz, _, hcell, hwz⟩
  · simp only [List.cons.injEq, and_true] at hcs
    exact ⟨none, 0, 0, [], hcs, ⟨by simp [maxLen], Nat.le_refl _⟩, SlI.nil w none⟩
  · simp only [List.cons.injEq, and_true] at hcs
    have hlz : n ≤ zs.length := by rw [hz]; split <;> omega
    refine ⟨some x, n, c, zs.take n, hcs, ⟨by omega, hl⟩, by simp; omega, fun hp => ?_⟩
    obtain ⟨b, off, spot⟩ := x
    have h0 := hcell 0 (by omega)
    have hs : spot = none := by simpa [Addr.add] using World.cell?_spot h0
    subst hs
    refine ⟨b, off, rfl, ?_, fun i z hiz => ?_⟩
    · exact World.block_lt_of_cell? w _ (by simpa [Addr.add] using h0)
    · have hi : i < n := by
        rcases Nat.lt_or_ge i n with h' | h'
        · exact h'
        · rw [List.getElem?_eq_none (by simp; omega)] at hiz; cases hiz
      have hc := hcell i (by omega)
      rw [show (⟨b, off, none⟩ : Addr).add i = ⟨b, off + i, none⟩ from by unfold Addr.add; split <;> simp_all] at hc
      rw [hc]
      have : zs.getD i 0 = z := by
        rw [List.getElem?_take, if_pos hi] at hiz
        simp [hiz]
      rw [this]
theorem open_nf {r : Reach} {b0 : Nat} {t ti tp : TypeId} {f0 f1 g0 g1 p0 p1 p2 p3 : Field} {v : Value} {d : DataW H} {p : List MemPlace} (hs : P.underlying t = some (.struct #[f0, f1])) (hs1 : P.underlying f1.type = some (.struct #[g0, g1]))
    (hi : P.underlying f0.type = some (.slice ti)) (hii : P.underlying ti = some (.int .i64)) (hn : P.underlying g0.type = some (.int .i64)) (hp : P.underlying g1.type = some (.slice tp)) (hpp : P.underlying tp = some (.struct #[p0, p1, p2, p3]))
    (h3 : P.underlying p0.type = some (.int .i64) ∧ P.underlying p1.type = some (.int .i64) ∧ P.underlying p2.type = some (.int .i64) ∧ P.underlying p3.type = some (.int .i64))
    (ho : f0.offset = 0 ∧ f1.offset = 1 ∧ g0.offset = 0 ∧ g1.offset = 1) (hc : P.cellsOf t = 3 ∧ P.cellsOf f0.type = 1 ∧ P.cellsOf f1.type = 2 ∧ P.cellsOf g0.type = 1 ∧ P.cellsOf g1.type = 1 ∧ P.cellsOf ti = 1 ∧ P.cellsOf tp = 4)
    (hone : oneCellFields P #[p0, p1, p2, p3] = true)
    (hv : Value.okWide P w r b0 t v) (h : DataW.Trod enc P w base spare held t v d p) :
    ∃ A n c l N B m e q, v = .agg #[.slice A n c, .int .i64 N, .slice B m e] ∧ IsInts w A n c l ∧ (Lit.int .i64 N).wf = true ∧ IsQuads w B m e q := by
  obtain ⟨cs, rfl, hsz⟩ := okWide_struct hs hv
  obtain ⟨c0, c1, c2, rfl⟩ := array3 (hsz.trans hc.1)
  obtain ⟨fuel, hf⟩ := h
  obtain ⟨xs, k, _, _, _, hlen, hg⟩ := DataW.trod_struct hs hf
  match xs, hlen with
  | [y0, y1], _ =>
    have e0 := hg 0 f0 rfl
    have e1 := hg 1 f1 rfl
    simp [Value.cells, ho.1, hc.2.1] at e0
    simp [Value.cells, ho.2.1, hc.2.2.1] at e1
    obtain ⟨A, n, c, l, rfl, hA⟩ := isInts_of_cell hi hii hc.2.2.2.2.2.1 e0
    obtain ⟨xs1, k1, _, _, _, hlen1, hg1⟩ := DataW.trod_struct hs1 e1
    match xs1, hlen1 with
    | [z0, z1], _ =>
      have i0 := hg1 0 g0 rfl
      have i1 := hg1 1 g1 rfl
      simp [ho.2.2.1, hc.2.2.2.1] at i0
      simp [ho.2.2.2, hc.2.2.2.2.1] at i1
      obtain ⟨N, hN, _, wN⟩ := DataW.trod_int hn i0
      simp only [List.cons.injEq, and_true] at hN
      obtain ⟨B, m, e, q, rfl, hB⟩ := isQuads_of_cell hp hpp h3 hone hc.2.2.2.2.2.2 i1
      exact ⟨A, n, c, l, N, B, m, e, q, by rw [hN], hA, wN, hB⟩
end
end Go.Proofs.Ytcclapenpaediaa
