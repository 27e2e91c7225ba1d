/- How an argument that is a slice of numbers of D[omega] is opened; as an abstract value. -/
import Derived.Test.YtfoiedjjhgpcpaaK1
namespace Go.Proofs.Ytfoiedjjhgpcpaa
open Go.ChangeShapes Go.WideShapes Go.ChangeAt Go.RowKit Go.Joins Go.Deep
set_option linter.unusedVariables false
set_option linter.unusedSimpArgs false
abbrev Five := Int × Int × Int × Int × Int
def fcs (q : Five) : List Value := [.int .i64 q.1, .int .i64 q.2.1, .int .i64 q.2.2.1, .int .i64 q.2.2.2.1, .int .i64 q.2.2.2.2]
/-- The slice that begins at A and has n elements reads as the list l. -/
def SlF (w : World) (A : Option Addr) (n : Nat) (l : List Five) : Prop :=
  l.length = n ∧ (0 < n → ∃ b off, A = some ⟨b, off, none⟩ ∧ b < w.heap.size ∧ ∀ (i : Nat) (q : Five), l[i]? = some q → ∀ j, j < 5 → w.cell? ⟨b, off + i * 5 + j, none⟩ = (fcs q)[j]?)
def IsFives (w : World) (A : Option Addr) (n c : Nat) (l : List Five) : Prop := (n ≤ maxLen ∧ n ≤ c) ∧ SlF w A n l
section
variable {H : Type} {enc : TypeId × Value → H} {P : Program} {w : World} {base : Nat} {spare : Nat → Bool} {held : Bool}
theorem five_of_trod {e : TypeId} {fN fE f0 f1 f2 f3 : Field} {fuel : Nat} {cs : List Value} {x : DataW H × List MemPlace} (he : P.underlying e = some (.struct #[fN, fE])) (hz : P.underlying fN.type = some (.struct #[f0, f1, f2, f3]))
    (hone : oneCellFields P #[f0, f1, f2, f3] = true) (hoff : fN.offset = 0 ∧ fE.offset = 4 ∧ P.cellsOf fN.type = 4 ∧ P.cellsOf fE.type = 1)
    (h3 : P.underlying f0.type = some (.int .i64) ∧ P.underlying f1.type = some (.int .i64) ∧ P.underlying f2.type = some (.int .i64) ∧ P.underlying f3.type = some (.int .i64)) (h4 : P.underlying fE.type = some (.int .i64))
    (hl : cs.length = 5) (h : DataW.trod enc P w base spare held fuel e cs = some x) : ∃ q : Five, cs = fcs q := by
  obtain ⟨xs, n, _, hx, _, hlen, hg⟩ := DataW.trod_struct he h
  obtain ⟨o0, o1, o2, o3⟩ := hoff
  match cs, hl, xs, hlen with
  | [c0, c1, c2, c3, c4], _, [y0, y1], _ =>
    have g0 := hg 0 fN rfl
    have g1 := hg 1 fE rfl
    simp [o0, o2] at g0
    simp [o1, o3] at g1
    obtain ⟨q, hq⟩ := quad_of_trod hz hone h3.1 h3.2.1 h3.2.2.1 h3.2.2.2 rfl g0
    obtain ⟨a4, e4, _⟩ := DataW.trod_int h4 g1
    simp only [qc, List.cons.injEq, and_true] at hq e4
    obtain ⟨rfl, rfl, rfl, rfl⟩ := hq
    subst e4
    exact ⟨(q.1, q.2.1, q.2.2.1, q.2.2.2, a4), rfl⟩
theorem isFives_of_trod {t e : TypeId} {fN fE f0 f1 f2 f3 : Field} {A : Option Addr} {n c : Nat} {d : DataW H} {p : List MemPlace} (ht : P.underlying t = some (.slice e)) (he : P.underlying e = some (.struct #[fN, fE])) (hz : P.underlying fN.type = some (.struct #[f0, f1, f2, f3]))
    (hone : oneCellFields P #[f0, f1, f2, f3] = true) (hoff : fN.offset = 0 ∧ fE.offset = 4 ∧ P.cellsOf fN.type = 4 ∧ P.cellsOf fE.type = 1)
    (h3 : P.underlying f0.type = some (.int .i64) ∧ P.underlying f1.type = some (.int .i64) ∧ P.underlying f2.type = some (.int .i64) ∧ P.underlying f3.type = some (.int .i64)) (h4 : P.underlying fE.type = some (.int .i64)) (hC : P.cellsOf e = 5)
    (h : DataW.Trod enc P w base spare held t (.slice A n c) d p) : ∃ l, IsFives w A n c l := by
  obtain ⟨fuel, hf⟩ := h
  have hf : DataW.trod enc P w base spare held fuel t [.slice A n c] = some (d, p) := by simpa [Value.cells] using hf
  rcases open_slice ht hf with ⟨hcs, _⟩ | ⟨a, len, cap, m, k, D, Pl, hcs, hb, hl, hm, hmm, hx, hi⟩
  · simp only [List.cons.injEq, and_true] at hcs
    injection hcs with h1 h2 h3'
    subst h1 h2 h3'
    exact ⟨[], ⟨by simp [maxLen], Nat.le_refl _⟩, rfl, fun h => absurd h (by omega)⟩
  · simp only [List.cons.injEq, and_true] at hcs
    injection hcs with e1 e2 e3
    subst e1 e2 e3
    have hlm : n ≤ m := by rw [hmm]; split <;> omega
    have hex : ∀ i, i < n → ∃ q : Five, ∀ j, j < 5 → w.cell? (a.add (i * 5 + j)) = (fcs q)[j]? := by
      intro i hil
      obtain ⟨cs', hc, ht'⟩ := hi i (by omega)
      rw [hC] at hc
      obtain ⟨_, hcl, hat⟩ := World.cells?_some hc
      obtain ⟨q, rfl⟩ := five_of_trod he hz hone hoff h3 h4 hcl ht'
      refine ⟨q, fun j hj => ?_⟩
      have := hat j hj
      rwa [Go.Deep.add_add] at this
    let f : Nat → Five := fun i => if h : i < n then Classical.choose (hex i h) else (0, 0, 0, 0, 0)
    refine ⟨(List.range n).map f, ⟨by omega, hl⟩, by simp, fun hp => ?_⟩
    obtain ⟨b, off, spot⟩ := a
    have h00 := Classical.choose_spec (hex 0 hp) 0 (by omega)
    have hs : spot = none := by
      have := World.cell?_spot (w := w) (a := (⟨b, off, spot⟩ : Addr).add (0 * 5 + 0)) (v := .int .i64 (Classical.choose (hex 0 hp)).1) (by rw [h00]; rfl)
      simpa [Addr.add] using this
    subst hs
    have hadd : ∀ i, (⟨b, off, none⟩ : Addr).add i = ⟨b, off + i, none⟩ := fun i => by unfold Addr.add; split <;> simp_all
    refine ⟨b, off, rfl, ?_, fun i q hq j hj => ?_⟩
    · rw [hadd] at h00
      exact World.block_lt_of_cell? w _ (u := .int .i64 (Classical.choose (hex 0 hp)).1) (by rw [h00]; rfl)
    · have hil : i < n := by
        rcases Nat.lt_or_ge i n with h' | h'
        · exact h'
        · rw [List.getElem?_eq_none (by simp; omega)] at hq; cases hq
      have hqq : q = Classical.choose (hex i hil) := by
        simp only [List.getElem?_map, List.getElem?_range hil, Option.map_some, Option.some.injEq] at hq
        rw [← hq]; simp only [f, dif_pos hil]
      have hc := Classical.choose_spec (hex i hil) j hj
      rw [← hqq, hadd, ← Nat.add_assoc] at hc
      exact hc
end
theorem pv_fives {w : World} {A : Option Addr} {n c : Nat} {l : List Five} (h : SlF w A n l) (hc : n ≤ c) : PV (wM w) (.sl (encL EIIIII l) l.length) (.slice A n c) := by
  obtain rfl := h.1
  have H := h.2
  by_cases hp : 0 < l.length
  · obtain ⟨b, off, hA, hb, hcell⟩ := H hp
    have hlen := encL_len EIIIIIl l
    have key : ∀ (i : Nat) (x : AV), (encL EIIIII l)[i]? = some x → ∃ n : Int, x = .int .i64 n ∧ w.cell? ⟨b, off + i, none⟩ = some (.int .i64 n) := by
      intro i x hx
      have hi : i < l.length * 5 := by
        rw [← hlen]
        rcases Nat.lt_or_ge i (encL EIIIII l).length with h' | h'
        · exact h'
        · rw [List.getElem?_eq_none h'] at hx; cases hx
      have hk : i / 5 < l.length := by omega
      have hq := List.getElem?_eq_getElem hk
      have e := encL_get EIIIIIl l (i / 5) (i % 5) _ hq (by omega)
      rw [show i / 5 * 5 + i % 5 = i by omega, hx] at e
      have hcl := hcell (i / 5) _ hq (i % 5) (by omega)
      have h5 : i % 5 = 0 ∨ i % 5 = 1 ∨ i % 5 = 2 ∨ i % 5 = 3 ∨ i % 5 = 4 := by omega
      have hoff : off + i = off + i / 5 * 5 + i % 5 := by omega
      rw [hoff, hcl]
      rcases h5 with h4 | h4 | h4 | h4 | h4 <;> rw [h4] at e ⊢ <;> simp only [EIIIII, List.getElem?_cons_zero, List.getElem?_cons_succ, Option.some.injEq] at e <;> exact ⟨_, e, rfl⟩
    refine .sl _ _ _ _ b off (fun i => (w.cell? ⟨b, off + i, none⟩).getD undef) (fun _ => hA) hc (fun i x hx => ?_) (fun i x hx => ?_)
    · obtain ⟨n, rfl, hn⟩ := key i x hx
      rw [wM_some hn rfl, hn]; rfl
    · obtain ⟨n, rfl, hn⟩ := key i x hx
      simp only [hn, Option.getD_some]
      exact .int ..
  · have : l = [] := List.eq_nil_of_length_eq_zero (by omega)
    subst this
    exact .sl _ _ _ _ 0 0 (fun _ => undef) (fun h => absurd h (by simp)) hc (fun i x hx => by simp [encL] at hx) (fun i x hx => by simp [encL] at hx)
end Go.Proofs.Ytfoiedjjhgpcpaa
