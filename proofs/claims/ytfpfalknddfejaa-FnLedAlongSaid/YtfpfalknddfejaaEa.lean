/- The engine, part 1: abstract values, and what they say of a world. Over any program. -/
import Derived.WalkKit
import Derived.Lib.Hide
import Derived.Handy
import Derived.Deep.Slices
import Derived.Maps.AppendAt
import Derived.Laws.CopyRow
namespace Go.Proofs.Ytfpfalknddfejaa
open Go.RowKit
set_option linter.unusedVariables false
set_option linter.unusedSimpArgs false

inductive AV where
  | int (k : IntKind) (n : Int)
  | bool (b : Bool)
  | str (s : ByteArray)
  | agg (cs : List AV)
  | tup (vs : List AV)
  | nil
  | sl (cs : List AV) (n : Nat)
  | own (s n : Nat)
  | ptr (s off : Nat)
  | eptr (cs : List AV)
  | top
instance : Inhabited AV := ⟨.top⟩

/-- Where a row lies: its block; for a slice its length and capacity; 'nl': it is a nil slice and lies nowhere. -/
structure At where
  g : Nat
  n : Nat
  cap : Nat
  nl : Bool
abbrev Imm := Nat → Nat → Option Value
abbrev Plc := Nat → Option At
def Imm.le (M M' : Imm) : Prop := ∀ b o v, M b o = some v → M' b o = some v
def Plc.le (ρ ρ' : Plc) : Prop := ∀ s x, ρ s = some x → ρ' s = some x
theorem Imm.le_refl (M : Imm) : M.le M := fun _ _ _ h => h
theorem Plc.le_refl (ρ : Plc) : ρ.le ρ := fun _ _ h => h
theorem Imm.le_trans {M M' M'' : Imm} (h : M.le M') (k : M'.le M'') : M.le M'' := fun b o v e => k b o v (h b o v e)
theorem Plc.le_trans {M M' M'' : Plc} (h : M.le M') (k : M'.le M'') : M.le M'' := fun b v e => k b v (h b v e)

/-- What holds of a value that refers to immutable cells alone. -/
inductive PV (M : Imm) : AV → Value → Prop
  | int (k n) : PV M (.int k n) (.int k n)
  | bool (b) : PV M (.bool b) (.bool b)
  | str (s) : PV M (.str s) (.string s)
  | agg (cs : List AV) (vs : Array Value) (hl : cs.length = vs.size) (h1 : ∀ v ∈ vs, v.oneCell' = true)
      (h : ∀ (i : Nat) (c : AV) (v : Value), cs[i]? = some c → vs[i]? = some v → PV M c v) : PV M (.agg cs) (.agg vs)
  | nil : PV M .nil (.slice none 0 0)
  | sl (cs : List AV) (n : Nat) (A : Option Addr) (cap b off : Nat) (f : Nat → Value) (hA : 0 < n → A = some ⟨b, off, none⟩) (hn : n ≤ cap)
      (hm : ∀ (i : Nat) (c : AV), cs[i]? = some c → M b (off + i) = some (f i)) (h : ∀ (i : Nat) (c : AV), cs[i]? = some c → PV M c (f i)) : PV M (.sl cs n) (.slice A n cap)
  | eptr (cs : List AV) (b off : Nat) (f : Nat → Value)
      (hm : ∀ (i : Nat) (c : AV), cs[i]? = some c → M b (off + i) = some (f i)) (h : ∀ (i : Nat) (c : AV), cs[i]? = some c → PV M c (f i)) : PV M (.eptr cs) (.pointer (some ⟨b, off, none⟩))
  | top (v) : PV M .top v

inductive VR (M : Imm) (ρ : Plc) : AV → Value → Prop
  | plain {a v} (h : PV M a v) : VR M ρ a v
  | own (s g n cap) (h : ρ s = some ⟨g, n, cap, false⟩) : VR M ρ (.own s n) (.slice (some ⟨g, 0, none⟩) n cap)
  | ownl (s g cap) (h : ρ s = some ⟨g, 0, cap, true⟩) : VR M ρ (.own s 0) (.slice none 0 0)
  | ptr (s off) (x : At) (h : ρ s = some x) (hx : x.nl = false) : VR M ρ (.ptr s off) (.pointer (some ⟨x.g, off, none⟩))
  | agg (cs : List AV) (vs : Array Value) (hl : cs.length = vs.size) (h1 : ∀ v ∈ vs, v.oneCell' = true)
      (h : ∀ (i : Nat) (c : AV) (v : Value), cs[i]? = some c → vs[i]? = some v → VR M ρ c v) : VR M ρ (.agg cs) (.agg vs)
  | tup (cs : List AV) (vs : Array Value) (hl : cs.length = vs.size)
      (h : ∀ (i : Nat) (c : AV) (v : Value), cs[i]? = some c → vs[i]? = some v → VR M ρ c v) : VR M ρ (.tup cs) (.tuple vs)

theorem PV.mono {M M' : Imm} (hM : M.le M') {a : AV} {v : Value} (h : PV M a v) : PV M' a v := by
  induction h with
  | int => exact .int ..
  | bool => exact .bool ..
  | str => exact .str ..
  | agg cs vs hl h1 h ih => exact .agg cs vs hl h1 ih
  | nil => exact .nil
  | sl cs n A cap b off f hA hn hm h ih => exact .sl cs n A cap b off f hA hn (fun i c hc => hM _ _ _ (hm i c hc)) ih
  | eptr cs b off f hm h ih => exact .eptr cs b off f (fun i c hc => hM _ _ _ (hm i c hc)) ih
  | top => exact .top _
theorem VR.mono {M M' : Imm} {ρ ρ' : Plc} (hM : M.le M') (hρ : ρ.le ρ') {a : AV} {v : Value} (h : VR M ρ a v) : VR M' ρ' a v := by
  induction h with
  | plain h => exact .plain (h.mono hM)
  | own s g n cap h => exact .own s g n cap (hρ _ _ h)
  | ownl s g cap h => exact .ownl s g cap (hρ _ _ h)
  | ptr s off x h hx => exact .ptr s off x (hρ _ _ h) hx
  | agg cs vs hl h1 h ih => exact .agg cs vs hl h1 ih
  | tup cs vs hl h ih => exact .tup cs vs hl ih

inductive Row where
  | box (T : TypeId) (cs : List AV)
  | row (E sz : Nat) (cs : List AV)
  | gone
def Row.solid : Row → Bool
  | .gone => false
  | _ => true

def RowAt (M : Imm) (ρ : Plc) (w : World) : Row → At → Prop
  | .box T cs, x => x.nl = false ∧ ∃ arr : Array Value, w.heap[x.g]? = some (.cells arr T (0, 0)) ∧ cs.length = arr.size ∧ (∀ v ∈ arr, v.oneCell' = true) ∧
      ∀ (i : Nat) (c : AV) (v : Value), cs[i]? = some c → arr[i]? = some v → VR M ρ c v
  | .row E sz cs, x => (x.nl = true ∧ cs = [] ∧ x.n = 0) ∨ x.nl = false ∧ ∃ xs : List Value, w.ownsRow 0 E sz (.slice (some ⟨x.g, 0, none⟩) x.n x.cap) x.n xs ∧ cs.length = xs.length ∧ (∀ v ∈ xs, v.oneCell' = true) ∧
      ∀ (i : Nat) (c : AV) (v : Value), cs[i]? = some c → xs[i]? = some v → PV M c v
  | .gone, _ => True
theorem RowAt.mono {M M' : Imm} {ρ ρ' : Plc} (hM : M.le M') (hρ : ρ.le ρ') {w : World} {r : Row} {x : At} (h : RowAt M ρ w r x) : RowAt M' ρ' w r x := by
  cases r with
  | box T cs => obtain ⟨h0, arr, h1, h2, h3, h4⟩ := h; exact ⟨h0, arr, h1, h2, h3, fun i c v a b => (h4 i c v a b).mono hM hρ⟩
  | row E sz cs =>
    rcases h with h | ⟨h0, xs, h1, h2, h3, h4⟩
    · exact .inl h
    · exact .inr ⟨h0, xs, h1, h2, h3, fun i c v a b => (h4 i c v a b).mono hM⟩
  | gone => trivial
theorem RowAt.same {M : Imm} {ρ : Plc} {w w' : World} {r : Row} {x : At} (h : RowAt M ρ w r x) (he : x.nl = false → w'.heap[x.g]? = w.heap[x.g]?) : RowAt M ρ w' r x := by
  cases r with
  | box T cs => obtain ⟨h0, arr, h1, h2⟩ := h; exact ⟨h0, arr, (he h0).trans h1, h2⟩
  | row E sz cs =>
    rcases h with h | ⟨h0, xs, h1, h2⟩
    · exact .inl h
    refine .inr ⟨h0, xs, ⟨h1.1, ?_⟩, h2⟩
    have he := he h0
    rcases h1.2 with ⟨hv, hn⟩ | ⟨g, cap, cur, hv, hb, hg, rest⟩
    · exact .inl ⟨hv, hn⟩
    · refine .inr ⟨g, cap, cur, hv, hb, ?_, rest⟩
      have hg' : x.g = g := by injection hv with h1 _ _; injection h1 with h1; injection h1
      rw [← hg', he, hg', hg]
  | gone => trivial
theorem RowAt.lt {M : Imm} {ρ : Plc} {w : World} {r : Row} {x : At} (h : RowAt M ρ w r x) (hs : r.solid = true) (hn : x.nl = false) : x.g < w.heap.size := by
  cases r with
  | box T cs => obtain ⟨h0, arr, h1, h2⟩ := h; exact (Array.getElem?_eq_some_iff.1 h1).1
  | row E sz cs =>
    rcases h with h | ⟨h0, xs, h1, h2⟩
    · rw [hn] at h; cases h.1
    exact (World.ownsRow.lt (h := h1) x.g rfl).2
  | gone => cases hs

structure MR (M : Imm) (ρ : Plc) (rows : Nat → Option Row) (w : World) : Prop where
  row : ∀ s r, rows s = some r → r.solid = true → ∃ x, ρ s = some x ∧ RowAt M ρ w r x
  inj : ∀ s s' r r' x x', rows s = some r → rows s' = some r' → r.solid = true → r'.solid = true → ρ s = some x → ρ s' = some x' → s ≠ s' → x.nl = false → x'.nl = false → x.g ≠ x'.g
  imm : ∀ b o v, M b o = some v → w.cell? ⟨b, o, none⟩ = some v ∧ v.oneCell' = true
  apt : ∀ b o v s r x, M b o = some v → rows s = some r → r.solid = true → ρ s = some x → x.nl = false → x.g ≠ b

theorem cell_lt {w : World} {b o : Nat} {v : Value} (h : w.cell? ⟨b, o, none⟩ = some v) : b < w.heap.size := by
  unfold World.cell? at h
  rcases Nat.lt_or_ge b w.heap.size with h' | h'
  · exact h'
  · simp [Array.getElem?_eq_none h'] at h
theorem cell_same {w w' : World} {b o : Nat} (h : w'.heap[b]? = w.heap[b]?) : w'.cell? ⟨b, o, none⟩ = w.cell? ⟨b, o, none⟩ := by
  simp only [World.cell?, h]
/-- Nothing that the relation speaks of has changed. -/
theorem MR.same {M : Imm} {ρ : Plc} {rows : Nat → Option Row} {w w' : World} (h : MR M ρ rows w) (he : ∀ b, b < w.heap.size → w'.heap[b]? = w.heap[b]?) : MR M ρ rows w' :=
  ⟨fun s r hr hs => let ⟨x, hx, hR⟩ := h.row s r hr hs; ⟨x, hx, hR.same fun hn => he _ (hR.lt hs hn)⟩, h.inj,
   fun b o v hM => ⟨(cell_same (he b (cell_lt (h.imm b o v hM).1))).trans (h.imm b o v hM).1, (h.imm b o v hM).2⟩, h.apt⟩

def upd {α : Type} (f : Nat → α) (k : Nat) (v : α) : Nat → α := fun j => if j = k then v else f j
theorem upd_apply {α : Type} (f : Nat → α) (k j : Nat) (v : α) : upd f k v j = if j = k then v else f j := (rfl)
theorem upd_same {α : Type} (f : Nat → α) (k : Nat) (v : α) : upd f k v k = v := by simp [upd]
theorem upd_ne {α : Type} (f : Nat → α) {k j : Nat} (v : α) (h : j ≠ k) : upd f k v j = f j := by simp [upd, h]
theorem upd_comm {α : Type} (f : Nat → α) {k j : Nat} (v u : α) (h : j ≠ k) : upd (upd f k v) j u = upd (upd f j u) k v := by
  funext i
  simp only [upd]
  split <;> split <;> simp_all

theorem Plc.le_upd {ρ : Plc} {s : Nat} {x : At} (h : ρ s = none) : ρ.le (upd ρ s (some x)) := by
  intro k y hk
  by_cases e : k = s
  · subst e; rw [h] at hk; cases hk
  · rw [upd_ne _ _ e]; exact hk

/-- A new row. -/
theorem MR.add {M : Imm} {ρ : Plc} {rows : Nat → Option Row} {w : World} (h : MR M ρ rows w) {s : Nat} {r : Row} {x : At} (hrs : rows s = none) (hρ : ρ s = none)
    (hR : r.solid = true → RowAt M (upd ρ s (some x)) w r x) (hd : ∀ s' r' x', rows s' = some r' → r'.solid = true → ρ s' = some x' → x'.nl = false → x.nl = false → x'.g ≠ x.g) (ha : ∀ b o v, M b o = some v → x.nl = false → x.g ≠ b) :
    MR M (upd ρ s (some x)) (upd rows s (some r)) w := by
  refine ⟨fun k q hk hs => ?_, fun k k' q q' y y' hk hk' hs hs' hy hy' hne hn hn' => ?_, h.imm, fun b o v k q y hM hk hs hy hn => ?_⟩
  · by_cases e : k = s
    · subst e
      rw [upd_same] at hk; injection hk with hk; subst hk
      exact ⟨x, upd_same _ _ _, hR hs⟩
    · rw [upd_ne _ _ e] at hk
      obtain ⟨y, hy, hY⟩ := h.row k q hk hs
      exact ⟨y, by rw [upd_ne _ _ e]; exact hy, hY.mono (Imm.le_refl _) (Plc.le_upd hρ)⟩
  · by_cases e : k = s
    · subst e
      have e' : k' ≠ k := fun h => hne h.symm
      rw [upd_same] at hy; injection hy with hy; subst hy
      rw [upd_ne _ _ e'] at hk' hy'
      exact fun hg => hd k' q' y' hk' hs' hy' hn' hn hg.symm
    · rw [upd_ne _ _ e] at hk hy
      by_cases e' : k' = s
      · subst e'
        rw [upd_same] at hy'; injection hy' with hy'; subst hy'
        exact hd k q y hk hs hy hn hn'
      · rw [upd_ne _ _ e'] at hk' hy'
        exact h.inj k k' q q' y y' hk hk' hs hs' hy hy' hne hn hn'
  · by_cases e : k = s
    · subst e
      rw [upd_same] at hy; injection hy with hy; subst hy
      exact ha b o v hM hn
    · rw [upd_ne _ _ e] at hk hy
      exact h.apt b o v k q y hM hk hs hy hn

/-- A row has changed, in the world and in what is said of it. -/
theorem MR.set {M : Imm} {ρ : Plc} {rows : Nat → Option Row} {w w' : World} (h : MR M ρ rows w) {s : Nat} {r r' : Row} {x : At} (hr : rows s = some r) (hs : r.solid = true) (hx : ρ s = some x)
    (hnx : x.nl = false) (he : ∀ b, b < w.heap.size → b ≠ x.g → w'.heap[b]? = w.heap[b]?) (hR : r'.solid = true → RowAt M ρ w' r' x) : MR M ρ (upd rows s (some r')) w' := by
  have hxr : ∀ k q y, rows k = some q → q.solid = true → ρ k = some y → k ≠ s → y.nl = false → y.g ≠ x.g := fun k q y hk hq hy hne hn => h.inj k s q r y x hk hr hq hs hy hx hne hn hnx
  refine ⟨fun k q hk hq => ?_, fun k k' q q' y y' hk hk' hq hq' hy hy' hne hn hn' => ?_, fun b o v hM => ?_, fun b o v k q y hM hk hq hy hn => ?_⟩
  · by_cases e : k = s
    · subst e
      rw [upd_same] at hk; injection hk with hk; subst hk
      exact ⟨x, hx, hR hq⟩
    · rw [upd_ne _ _ e] at hk
      obtain ⟨y, hy, hY⟩ := h.row k q hk hq
      exact ⟨y, hy, hY.same fun hn => he _ (hY.lt hq hn) (hxr k q y hk hq hy e hn)⟩
  · by_cases e : k = s
    · subst e
      have e' : k' ≠ k := fun h => hne h.symm
      rw [upd_ne _ _ e'] at hk'
      rw [hx] at hy; injection hy with hy; subst hy
      exact fun hg => hxr k' q' y' hk' hq' hy' e' hn' hg.symm
    · rw [upd_ne _ _ e] at hk
      by_cases e' : k' = s
      · subst e'
        rw [hx] at hy'; injection hy' with hy'; subst hy'
        exact hxr k q y hk hq hy e hn
      · rw [upd_ne _ _ e'] at hk'
        exact h.inj k k' q q' y y' hk hk' hq hq' hy hy' hne hn hn'
  · have hc := (h.imm b o v hM).1
    exact ⟨(cell_same (he b (cell_lt hc) (fun e => h.apt b o v s r x hM hr hs hx hnx e.symm))).trans hc, (h.imm b o v hM).2⟩
  · by_cases e : k = s
    · subst e
      rw [hx] at hy; injection hy with hy; subst hy
      exact h.apt b o v k r x hM hr hs hx hnx
    · rw [upd_ne _ _ e] at hk
      exact h.apt b o v k q y hM hk hq hy hn

theorem MR.empty (M : Imm) (ρ : Plc) (w : World) (h : ∀ b o v, M b o = some v → w.cell? ⟨b, o, none⟩ = some v ∧ v.oneCell' = true) : MR M ρ (fun _ => none) w :=
  ⟨(fun _ _ h => by cases h), (fun _ _ _ _ _ _ h => by cases h), h, (fun _ _ _ _ _ _ _ h => by cases h)⟩

/-- What may have changed: new blocks, and the blocks in D. -/
structure Chg (D : Nat → Prop) (w w' : World) : Prop where
  os : w'.os = w.os
  tape : w'.tape = w.tape
  output : w'.output = w.output
  size : w.heap.size ≤ w'.heap.size
  block : ∀ k, k < w.heap.size → ¬ D k → w'.heap[k]? = w.heap[k]?
theorem Chg.refl (D : Nat → Prop) (w : World) : Chg D w w := ⟨rfl, rfl, rfl, Nat.le_refl _, fun _ _ _ => rfl⟩
theorem Chg.below {w w' : World} (h : Chg (fun _ => False) w w') : Below w.heap.size w w' := ⟨h.os, h.tape, h.output, h.size, fun k hk => h.block k hk id⟩
theorem Below.chg {w w' : World} (h : Below w.heap.size w w') (D : Nat → Prop) : Chg D w w' := ⟨h.os, h.tape, h.output, h.size, fun k hk _ => h.block k hk⟩
/-- A further change of blocks that are new or may change. -/
theorem Chg.trans {D E : Nat → Prop} {w w' w'' : World} (h : Chg D w w') (k : Chg E w' w'') (hE : ∀ b, E b → D b ∨ w.heap.size ≤ b) : Chg D w w'' :=
  ⟨k.os.trans h.os, k.tape.trans h.tape, k.output.trans h.output, Nat.le_trans h.size k.size, fun b hb hD =>
    (k.block b (Nat.lt_of_lt_of_le hb h.size) (fun e => (hE b e).elim hD (fun h' => by omega))).trans (h.block b hb hD)⟩

structure St where
  tmps : Nat → AV
  rows : Nat → Option Row
  bs : Nat
/-- The call in which the code runs: the world at its start, what it may change, what it may rely on, the number of its slots. -/
structure Ctx where
  w0 : World
  D : Nat → Prop
  M0 : Imm
  ρ0 : Plc
  N : Nat
structure Rel (C : Ctx) (M : Imm) (ρ : Plc) (st : St) (a : Act) (w : World) : Prop where
  tm : ∀ t, VR M ρ (st.tmps t) (a.tmps.getD t undef)
  N : a.tmps.size = C.N
  df : a.defers = []
  mr : MR M ρ st.rows w
  chg : Chg C.D C.w0 w
  new : ∀ s r x, st.rows s = some r → r.solid = true → ρ s = some x → x.nl = false → C.D x.g ∨ C.w0.heap.size ≤ x.g
  m0 : C.M0.le M
  r0 : C.ρ0.le ρ
  mold : ∀ b, b < C.w0.heap.size → ¬ C.D b → M b = C.M0 b
  fr : ∀ s, st.rows s = none → ρ s = none
end Go.Proofs.Ytfpfalknddfejaa
