/- Texts joined by a program (short names, no comments): Ga. -/
import Derived.WalkKit
import Derived.Lib.Hide
import Derived.Handy
import Derived.Deep.Slices
import Derived.Maps.AppendAt
import Derived.Laws.CopyRow
import Derived.StillTail
namespace Go.Proofs.YtbfmljdablopjaaGreat
open Go.RowKit
set_option maxRecDepth 100000
set_option linter.unusedVariables false
set_option linter.unusedSimpArgs false
set_option linter.defProp false
set_option maxHeartbeats 4000000
section
theorem aI {a b : Prop} (x : a) (y : b) : a ∧ b := ⟨x, y⟩
open Go.RowKit
inductive AV where
 | int (k : IntKind) (n : Int)
 | bool (b : Bool)
 | str (s : ByteArray)
 | agg (cs : List AV)
 | tup (vs : List AV)
 | nil
 | sl (cs : List AV) (n : Nat)
 | own (s n : Nat)
 | ptr (s off : Nat)
 | eptr (cs : List AV)
 | fn (f : FuncId) (ps : List Nat)
 | top
instance : Inhabited AV := ⟨.top⟩
structure At where
 g : Nat
 n : Nat
 cap : Nat
 nl : Bool
abbrev Imm := Nat → Nat → Option Value
abbrev Plc := Nat → Option At
def Imm.le (M M' : Imm) : Prop := ∀ b o v, M b o = some v → M' b o = some v
def Plc.le (ρ ρ' : Plc) : Prop := ∀ s x, ρ s = some x → ρ' s = some x
theorem Imm.le_refl (M : Imm) : M.le M := fun _ _ _ h => h
theorem Plc.le_refl (ρ : Plc) : ρ.le ρ := fun _ _ h => h
theorem Imm.le_trans {M M' M'' : Imm} (h : M.le M') (k : M'.le M'') : M.le M'' := fun b o v e => k b o v (h b o v e)
theorem Plc.le_trans {M M' M'' : Plc} (h : M.le M') (k : M'.le M'') : M.le M'' := fun b v e => k b v (h b v e)
inductive PV (M : Imm) : AV → Value → Prop
 | int (k n) : PV M (.int k n) (.int k n)
 | bool (b) : PV M (.bool b) (.bool b)
 | str (s) : PV M (.str s) (.string s)
 | agg (cs : List AV) (vs : Array Value) (hl : cs.length = vs.size) (h1 : ∀ v ∈ vs, v.oneCell' = true)
   (h : ∀ (i : Nat) (c : AV) (v : Value), cs[i]? = some c → vs[i]? = some v → PV M c v) : PV M (.agg cs) (.agg vs)
 | nil : PV M .nil (.slice none 0 0)
 | sl (cs : List AV) (n : Nat) (A : Option Addr) (cap b off : Nat) (f : Nat → Value) (hA : 0 < n → A = some ⟨b, off, none⟩) (hn : n ≤ cap)
   (hm : ∀ (i : Nat) (c : AV), cs[i]? = some c → M b (off + i) = some (f i)) (h : ∀ (i : Nat) (c : AV), cs[i]? = some c → PV M c (f i)) : PV M (.sl cs n) (.slice A n cap)
 | eptr (cs : List AV) (b off : Nat) (f : Nat → Value)
   (hm : ∀ (i : Nat) (c : AV), cs[i]? = some c → M b (off + i) = some (f i)) (h : ∀ (i : Nat) (c : AV), cs[i]? = some c → PV M c (f i)) : PV M (.eptr cs) (.pointer (some ⟨b, off, none⟩))
 | top (v) : PV M .top v
inductive VR (M : Imm) (ρ : Plc) : AV → Value → Prop
 | plain {a v} (h : PV M a v) : VR M ρ a v
 | own (s g n cap) (h : ρ s = some ⟨g, n, cap, false⟩) : VR M ρ (.own s n) (.slice (some ⟨g, 0, none⟩) n cap)
 | ownl (s g cap) (h : ρ s = some ⟨g, 0, cap, true⟩) : VR M ρ (.own s 0) (.slice none 0 0)
 | ptr (s off) (x : At) (h : ρ s = some x) (hx : x.nl = false) : VR M ρ (.ptr s off) (.pointer (some ⟨x.g, off, none⟩))
 | agg (cs : List AV) (vs : Array Value) (hl : cs.length = vs.size) (h1 : ∀ v ∈ vs, v.oneCell' = true)
   (h : ∀ (i : Nat) (c : AV) (v : Value), cs[i]? = some c → vs[i]? = some v → VR M ρ c v) : VR M ρ (.agg cs) (.agg vs)
 | tup (cs : List AV) (vs : Array Value) (hl : cs.length = vs.size)
   (h : ∀ (i : Nat) (c : AV) (v : Value), cs[i]? = some c → vs[i]? = some v → VR M ρ c v) : VR M ρ (.tup cs) (.tuple vs)
 | fn (f : FuncId) (ps : List Nat) (vs : Array Value) (hl : ps.length = vs.size)
   (h : ∀ (i s : Nat) (v : Value), ps[i]? = some s → vs[i]? = some v → VR M ρ (.ptr s 0) v) : VR M ρ (.fn f ps) (.func (.func f) #[] vs)
theorem PV.mono {M M' : Imm} (hM : M.le M') {a : AV} {v : Value} (h : PV M a v) : PV M' a v := by
 induction h with
 | int => exact .int ..
 | bool => exact .bool ..
 | str => exact .str ..
 | agg cs vs hl h1 h ih => exact .agg cs vs hl h1 ih
 | nil => exact .nil
 | sl cs n A cap b off f hA hn hm h ih => exact .sl cs n A cap b off f hA hn (fun i c hc => hM _ _ _ (hm i c hc)) ih
 | eptr cs b off f hm h ih => exact .eptr cs b off f (fun i c hc => hM _ _ _ (hm i c hc)) ih
 | top => exact .top _
theorem VR.mono {M M' : Imm} {ρ ρ' : Plc} (hM : M.le M') (hρ : ρ.le ρ') {a : AV} {v : Value} (h : VR M ρ a v) : VR M' ρ' a v := by
 induction h with
 | plain h => exact .plain (h.mono hM)
 | own s g n cap h => exact .own s g n cap (hρ _ _ h)
 | ownl s g cap h => exact .ownl s g cap (hρ _ _ h)
 | ptr s off x h hx => exact .ptr s off x (hρ _ _ h) hx
 | agg cs vs hl h1 h ih => exact .agg cs vs hl h1 ih
 | tup cs vs hl h ih => exact .tup cs vs hl ih
 | fn f ps vs hl h ih => exact .fn f ps vs hl ih
inductive Row where
 | box (T : TypeId) (cs : List AV)
 | row (E sz : Nat) (cs : List AV)
 | tab (E sz : Nat) (cs : List AV)
 | gone
def Row.solid : Row → Bool
 | .gone => false
 | _ => true
def eZ (M : Imm) (ρ : Plc) (w : World) : Row → At → Prop
 | .box T cs, x => x.nl = false ∧ ∃ arr : Array Value, w.heap[x.g]? = some (.cells arr T (0, 0)) ∧ cs.length = arr.size ∧ (∀ v ∈ arr, v.oneCell' = true) ∧
   ∀ (i : Nat) (c : AV) (v : Value), cs[i]? = some c → arr[i]? = some v → VR M ρ c v
 | .row E sz cs, x => (x.nl = true ∧ cs = [] ∧ x.n = 0) ∨ x.nl = false ∧ ∃ xs : List Value, w.ownsRow 0 E sz (.slice (some ⟨x.g, 0, none⟩) x.n x.cap) x.n xs ∧ cs.length = xs.length ∧ (∀ v ∈ xs, v.oneCell' = true) ∧
   ∀ (i : Nat) (c : AV) (v : Value), cs[i]? = some c → xs[i]? = some v → PV M c v
 | .tab E sz cs, x => (x.nl = true ∧ cs = [] ∧ x.n = 0) ∨ x.nl = false ∧ ∃ xs : List Value, w.ownsRow 0 E sz (.slice (some ⟨x.g, 0, none⟩) x.n x.cap) x.n xs ∧ cs.length = xs.length ∧ (∀ v ∈ xs, v.oneCell' = true) ∧
   ∀ (i : Nat) (c : AV) (v : Value), cs[i]? = some c → xs[i]? = some v → VR M ρ c v
 | .gone, _ => True
theorem eZ.mono {M M' : Imm} {ρ ρ' : Plc} (hM : M.le M') (hρ : ρ.le ρ') {w : World} {r : Row} {x : At} (h : eZ M ρ w r x) : eZ M' ρ' w r x := by
 cases r with
 | box T cs => obtain ⟨h0, arr, h1, h2, h3, h4⟩ := h; exact ⟨h0, arr, h1, h2, h3, fun i c v a b => (h4 i c v a b).mono hM hρ⟩
 | row E sz cs =>
  rcases h with h | ⟨h0, xs, h1, h2, h3, h4⟩
  ·exact .inl h
  ·exact .inr ⟨h0, xs, h1, h2, h3, fun i c v a b => (h4 i c v a b).mono hM⟩
 | tab E sz cs =>
  rcases h with h | ⟨h0, xs, h1, h2, h3, h4⟩
  ·exact .inl h
  ·exact .inr ⟨h0, xs, h1, h2, h3, fun i c v a b => (h4 i c v a b).mono hM hρ⟩
 | gone => trivial
theorem eZ.same {M : Imm} {ρ : Plc} {w w' : World} {r : Row} {x : At} (h : eZ M ρ w r x) (he : x.nl = false → w'.heap[x.g]? = w.heap[x.g]?) : eZ M ρ w' r x := by
 cases r with
 | box T cs => obtain ⟨h0, arr, h1, h2⟩ := h; exact ⟨h0, arr, (he h0).trans h1, h2⟩
 | row E sz cs =>
  rcases h with h | ⟨h0, xs, h1, h2⟩
  ·exact .inl h
  refine .inr ⟨h0, xs, ⟨h1.1, ?_⟩, h2⟩
  have he := he h0
  rcases h1.2 with ⟨hv, hn⟩ | ⟨g, cap, cur, hv, hb, hg, rest⟩
  ·exact .inl ⟨hv, hn⟩
  ·refine .inr ⟨g, cap, cur, hv, hb, ?_, rest⟩
   have hg' : x.g = g := by injection hv with h1 _ _; injection h1 with h1; injection h1
   rw [← hg', he, hg', hg]
 | tab E sz cs =>
  rcases h with h | ⟨h0, xs, h1, h2⟩
  ·exact .inl h
  refine .inr ⟨h0, xs, ⟨h1.1, ?_⟩, h2⟩
  have he := he h0
  rcases h1.2 with ⟨hv, hn⟩ | ⟨g, cap, cur, hv, hb, hg, rest⟩
  ·exact .inl ⟨hv, hn⟩
  ·refine .inr ⟨g, cap, cur, hv, hb, ?_, rest⟩
   have hg' : x.g = g := by injection hv with h1 _ _; injection h1 with h1; injection h1
   rw [← hg', he, hg', hg]
 | gone => trivial
theorem eZ.lt {M : Imm} {ρ : Plc} {w : World} {r : Row} {x : At} (h : eZ M ρ w r x) (hs : r.solid = true) (hn : x.nl = false) : x.g < w.heap.size := by
 cases r with
 | box T cs => obtain ⟨h0, arr, h1, h2⟩ := h; exact (Array.getElem?_eq_some_iff.1 h1).1
 | row E sz cs =>
  rcases h with h | ⟨h0, xs, h1, h2⟩
  ·rw [hn] at h; cases h.1
  exact (World.ownsRow.lt (h := h1) x.g rfl).2
 | tab E sz cs =>
  rcases h with h | ⟨h0, xs, h1, h2⟩
  ·rw [hn] at h; cases h.1
  exact (World.ownsRow.lt (h := h1) x.g rfl).2
 | gone => cases hs
def slV : Value → Bool
 | .slice _ _ _ => true
 | _ => false
def rX (w : World) (b o : Nat) (v : Value) : Prop := v.oneCell' = true ∧ (slV v = true → w.frozen? ⟨b, o, none⟩ = false)
theorem rY {w w' : World} {b o : Nat} {v : Value} (h : w'.heap[b]? = w.heap[b]?) (k : rX w b o v) : rX w' b o v := ⟨k.1, fun hs => by have := k.2 hs; unfold World.frozen? at *; rw [h]; exact this⟩
theorem sh {w : World} {g o : Nat} {v : Value} {arr : Array Value} {T : TypeId} (h : w.heap[g]? = some (.cells arr T (0, 0))) (h1 : v.oneCell' = true) : rX w g o v := ⟨h1, fun _ => by unfold World.frozen?; simp [h]⟩
theorem oN {w : World} {E sz g n cap k o : Nat} {xs : List Value} {v : Value} (h : w.ownsRow 0 E sz (.slice (some ⟨g, 0, none⟩) n cap) k xs) (h1 : v.oneCell' = true) : rX w g o v := by
 rcases h.2 with ⟨h0, _⟩ | ⟨g', cap', cur, hv, _, hg, _⟩
 ·cases h0
 ·cases hv
  exact sh hg h1
structure MR (M : Imm) (ρ : Plc) (rows : Nat → Option Row) (w : World) : Prop where
 row : ∀ s r, rows s = some r → r.solid = true → ∃ x, ρ s = some x ∧ eZ M ρ w r x
 inj : ∀ s s' r r' x x', rows s = some r → rows s' = some r' → r.solid = true → r'.solid = true → ρ s = some x → ρ s' = some x' → s ≠ s' → x.nl = false → x'.nl = false → x.g ≠ x'.g
 imm : ∀ b o v, M b o = some v → w.cell? ⟨b, o, none⟩ = some v ∧ rX w b o v
 apt : ∀ b o v s r x, M b o = some v → rows s = some r → r.solid = true → ρ s = some x → x.nl = false → x.g ≠ b
theorem gm {w : World} {b o : Nat} {v : Value} (h : w.cell? ⟨b, o, none⟩ = some v) : b < w.heap.size := by
 unfold World.cell? at h
 rcases Nat.lt_or_ge b w.heap.size with h' | h'
 ·exact h'
 ·simp [Array.getElem?_eq_none h'] at h
theorem si {w w' : World} {b o : Nat} (h : w'.heap[b]? = w.heap[b]?) : w'.cell? ⟨b, o, none⟩ = w.cell? ⟨b, o, none⟩ := by
 simp only [World.cell?, h]
theorem MR.same {M : Imm} {ρ : Plc} {rows : Nat → Option Row} {w w' : World} (h : MR M ρ rows w) (he : ∀ b, b < w.heap.size → w'.heap[b]? = w.heap[b]?) : MR M ρ rows w' :=
 ⟨fun s r hr hs => let ⟨x, hx, hR⟩ := h.row s r hr hs; ⟨x, hx, hR.same fun hn => he _ (hR.lt hs hn)⟩, h.inj,
  fun b o v hM => ⟨(si (he b (gm (h.imm b o v hM).1))).trans (h.imm b o v hM).1, rY (he b (gm (h.imm b o v hM).1)) (h.imm b o v hM).2⟩, h.apt⟩
def upd {α : Type} (f : Nat → α) (k : Nat) (v : α) : Nat → α := fun j => if j = k then v else f j
theorem xi {α : Type} (f : Nat → α) (k j : Nat) (v : α) : upd f k v j = if j = k then v else f j := (rfl)
theorem ai {α : Type} (f : Nat → α) (k : Nat) (v : α) : upd f k v k = v := by simp [upd]
theorem au {α : Type} (f : Nat → α) {k j : Nat} (v : α) (h : j ≠ k) : upd f k v j = f j := by simp [upd, h]
theorem AO {α : Type} (f : Nat → α) {k j : Nat} (v u : α) (h : j ≠ k) : upd (upd f k v) j u = upd (upd f j u) k v := by
 funext i
 simp only [upd]
 split <;> split <;> simp_all
theorem Plc.le_upd {ρ : Plc} {s : Nat} {x : At} (h : ρ s = none) : ρ.le (upd ρ s (some x)) := by
 intro k y hk
 by_cases e : k = s
 ·subst e; rw [h] at hk; cases hk
 ·rw [au _ _ e]; exact hk
theorem MR.add {M : Imm} {ρ : Plc} {rows : Nat → Option Row} {w : World} (h : MR M ρ rows w) {s : Nat} {r : Row} {x : At} (hrs : rows s = none) (hρ : ρ s = none)
  (hR : r.solid = true → eZ M (upd ρ s (some x)) w r x) (hd : ∀ s' r' x', rows s' = some r' → r'.solid = true → ρ s' = some x' → x'.nl = false → x.nl = false → x'.g ≠ x.g) (ha : ∀ b o v, M b o = some v → x.nl = false → x.g ≠ b) :
  MR M (upd ρ s (some x)) (upd rows s (some r)) w := by
 refine ⟨fun k q hk hs => ?_, fun k k' q q' y y' hk hk' hs hs' hy hy' hne hn hn' => ?_, h.imm, fun b o v k q y hM hk hs hy hn => ?_⟩
 ·by_cases e : k = s
  ·subst e
   rw [ai] at hk; injection hk with hk; subst hk
   exact ⟨x, ai _ _ _, hR hs⟩
  ·rw [au _ _ e] at hk
   obtain ⟨y, hy, hY⟩ := h.row k q hk hs
   exact ⟨y, by rw [au _ _ e]; exact hy, hY.mono (Imm.le_refl _) (Plc.le_upd hρ)⟩
 ·by_cases e : k = s
  ·subst e
   have e' : k' ≠ k := fun h => hne h.symm
   rw [ai] at hy; injection hy with hy; subst hy
   rw [au _ _ e'] at hk' hy'
   exact fun hg => hd k' q' y' hk' hs' hy' hn' hn hg.symm
  ·rw [au _ _ e] at hk hy
   by_cases e' : k' = s
   ·subst e'
    rw [ai] at hy'; injection hy' with hy'; subst hy'
    exact hd k q y hk hs hy hn hn'
   ·rw [au _ _ e'] at hk' hy'
    exact h.inj k k' q q' y y' hk hk' hs hs' hy hy' hne hn hn'
 ·by_cases e : k = s
  ·subst e
   rw [ai] at hy; injection hy with hy; subst hy
   exact ha b o v hM hn
  ·rw [au _ _ e] at hk hy
   exact h.apt b o v k q y hM hk hs hy hn
theorem MR.set {M : Imm} {ρ : Plc} {rows : Nat → Option Row} {w w' : World} (h : MR M ρ rows w) {s : Nat} {r r' : Row} {x : At} (hr : rows s = some r) (hs : r.solid = true) (hx : ρ s = some x)
  (hnx : x.nl = false) (he : ∀ b, b < w.heap.size → b ≠ x.g → w'.heap[b]? = w.heap[b]?) (hR : r'.solid = true → eZ M ρ w' r' x) : MR M ρ (upd rows s (some r')) w' := by
 have hxr : ∀ k q y, rows k = some q → q.solid = true → ρ k = some y → k ≠ s → y.nl = false → y.g ≠ x.g := fun k q y hk hq hy hne hn => h.inj k s q r y x hk hr hq hs hy hx hne hn hnx
 refine ⟨fun k q hk hq => ?_, fun k k' q q' y y' hk hk' hq hq' hy hy' hne hn hn' => ?_, fun b o v hM => ?_, fun b o v k q y hM hk hq hy hn => ?_⟩
 ·by_cases e : k = s
  ·subst e
   rw [ai] at hk; injection hk with hk; subst hk
   exact ⟨x, hx, hR hq⟩
  ·rw [au _ _ e] at hk
   obtain ⟨y, hy, hY⟩ := h.row k q hk hq
   exact ⟨y, hy, hY.same fun hn => he _ (hY.lt hq hn) (hxr k q y hk hq hy e hn)⟩
 ·by_cases e : k = s
  ·subst e
   have e' : k' ≠ k := fun h => hne h.symm
   rw [au _ _ e'] at hk'
   rw [hx] at hy; injection hy with hy; subst hy
   exact fun hg => hxr k' q' y' hk' hq' hy' e' hn' hg.symm
  ·rw [au _ _ e] at hk
   by_cases e' : k' = s
   ·subst e'
    rw [hx] at hy'; injection hy' with hy'; subst hy'
    exact hxr k q y hk hq hy e hn
   ·rw [au _ _ e'] at hk'
    exact h.inj k k' q q' y y' hk hk' hq hq' hy hy' hne hn hn'
 ·have hc := (h.imm b o v hM).1
  exact ⟨(si (he b (gm hc) (fun e => h.apt b o v s r x hM hr hs hx hnx e.symm))).trans hc, rY (he b (gm hc) (fun e => h.apt b o v s r x hM hr hs hx hnx e.symm)) (h.imm b o v hM).2⟩
 ·by_cases e : k = s
  ·subst e
   rw [hx] at hy; injection hy with hy; subst hy
   exact h.apt b o v k r x hM hr hs hx hnx
  ·rw [au _ _ e] at hk
   exact h.apt b o v k q y hM hk hq hy hn
theorem MR.empty (M : Imm) (ρ : Plc) (w : World) (h : ∀ b o v, M b o = some v → w.cell? ⟨b, o, none⟩ = some v ∧ rX w b o v) : MR M ρ (fun _ => none) w :=
 ⟨(fun _ _ h => by cases h), (fun _ _ _ _ _ _ h => by cases h), h, (fun _ _ _ _ _ _ _ h => by cases h)⟩
structure Chg (D : Nat → Prop) (w w' : World) : Prop where
 os : w'.os = w.os
 tape : w'.tape = w.tape
 output : w'.output = w.output
 size : w.heap.size ≤ w'.heap.size
 block : ∀ k, k < w.heap.size → ¬ D k → w'.heap[k]? = w.heap[k]?
theorem Chg.refl (D : Nat → Prop) (w : World) : Chg D w w := ⟨rfl, rfl, rfl, Nat.le_refl _, fun _ _ _ => rfl⟩
theorem Chg.below {w w' : World} (h : Chg (fun _ => False) w w') : Below w.heap.size w w' := ⟨h.os, h.tape, h.output, h.size, fun k hk => h.block k hk id⟩
theorem Below.chg {w w' : World} (h : Below w.heap.size w w') (D : Nat → Prop) : Chg D w w' := ⟨h.os, h.tape, h.output, h.size, fun k hk _ => h.block k hk⟩
theorem Chg.trans {D E : Nat → Prop} {w w' w'' : World} (h : Chg D w w') (k : Chg E w' w'') (hE : ∀ b, E b → D b ∨ w.heap.size ≤ b) : Chg D w w'' :=
 ⟨k.os.trans h.os, k.tape.trans h.tape, k.output.trans h.output, Nat.le_trans h.size k.size, fun b hb hD =>
   (k.block b (Nat.lt_of_lt_of_le hb h.size) (fun e => (hE b e).elim hD (fun h' => by omega))).trans (h.block b hb hD)⟩
structure St where
 tmps : Nat → AV
 rows : Nat → Option Row
 bs : Nat
structure Ctx where
 w0 : World
 D : Nat → Prop
 M0 : Imm
 ρ0 : Plc
 N : Nat
structure Rel (C : Ctx) (M : Imm) (ρ : Plc) (st : St) (a : Act) (w : World) : Prop where
 tm : ∀ t, VR M ρ (st.tmps t) (a.tmps.getD t undef)
 N : a.tmps.size = C.N
 df : a.defers = []
 mr : MR M ρ st.rows w
 chg : Chg C.D C.w0 w
 new : ∀ s r x, st.rows s = some r → r.solid = true → ρ s = some x → x.nl = false → C.D x.g ∨ C.w0.heap.size ≤ x.g
 m0 : C.M0.le M
 r0 : C.ρ0.le ρ
 mold : ∀ b, b < C.w0.heap.size → ¬ C.D b → M b = C.M0 b
 fr : ∀ s, st.rows s = none → ρ s = none
end
def pA : Value → AV
 | .int k n => .int k n
 | .bool b => .bool b
 | .string s => .str s
 | .slice none 0 0 => .nil
 | _ => .top
def ofV : Value → AV
 | .agg cs => if cs.all (·.oneCell') then .agg (cs.toList.map pA) else .top
 | v => pA v
theorem tU (M : Imm) (v : Value) : PV M (pA v) v := by
 unfold pA
 split
 ·exact .int ..
 ·exact .bool ..
 ·exact .str ..
 ·exact .nil
 ·exact .top _
theorem IE (M : Imm) (v : Value) : PV M (ofV v) v := by
 unfold ofV
 split
 ·rename_i cs
  split
  ·rename_i h
   refine .agg _ _ (by simp) (fun v hv => ?_) (fun i c v hc hv => ?_)
   ·exact Array.all_eq_true_iff_forall_mem.1 h v hv
   ·rw [List.getElem?_map] at hc
    have : cs.toList[i]? = some v := by simpa using hv
    rw [this] at hc
    injection hc with hc
    subst hc
    exact tU M v
  ·exact .top _
 ·exact tU M v
def St.ev (st : St) : Operand → AV
 | .tmp t => st.tmps t
 | .const v => ofV v
 | _ => .top
def St.put (st : St) (d : Option Tmp) (v : AV) : St := match d with
 | some d => { st with tmps := upd st.tmps d v }
 | none => st
def szA (P : Program) (t : TypeId) : Option (Nat × Bool) := match P.info? t, P.underlying t with
 | some i, some d => some (i.size, match d with | .struct _ | .array _ _ => true | _ => false)
 | _, _ => none
def fG (P : Program) (t : TypeId) : Option (List AV) := match P.info? t with
 | some i => match i.zero with
  | some v => if v.cells.all (·.oneCell') then some (v.cells.toList.map pA) else none
  | none => none
 | none => none
def elA (P : Program) (t : TypeId) : Option (TypeId × Nat) := match P.underlying t with
 | some (.slice e) => match P.info? e with
  | some i => some (e, i.size)
  | none => none
 | _ => none
def dS (P : Program) (s : TypeId) (f : Nat) : Option (Nat × Nat × Bool) := match P.underlying s with
 | some (.struct fs) => match fs[f]? with
  | some x => match szA P x.type with
   | some (n, b) => if n = 0 then none else some (x.offset, n, b)
   | none => none
  | none => none
 | _ => none
def ng : Nat → List AV → Option (List AV)
 | 0, _ => some []
 | n + 1, c :: cs => match ng n cs with
  | some r => some (c :: r)
  | none => none
 | _ + 1, [] => none
def ke (ag : Bool) (sz : Nat) (cs : List AV) : Option AV := match ag with
 | true => match ng sz cs with
  | some r => some (.agg r)
  | none => none
 | false => match cs with
  | c :: _ => some c
  | [] => none
def mW (op : BinOp) (k : IntKind) (a : Int) (k' : IntKind) (b : Int) : Option AV := match op with
 | .shl => if b < 0 then none else some (.int k (k.wrap (a * 2 ^ min b.toNat k.bits)))
 | .shr => if b < 0 then none else some (.int k (a.fdiv (2 ^ min b.toNat k.bits)))
 | .add => if k = k' then some (.int k (k.wrap (a + b))) else none
 | .sub => if k = k' then some (.int k (k.wrap (a - b))) else none
 | .mul => if k = k' then some (.int k (k.wrap (a * b))) else none
 | .quo => if k = k' ∧ b ≠ 0 then some (.int k (k.wrap (a.tdiv b))) else none
 | .rem => if k = k' ∧ b ≠ 0 then some (.int k (a.tmod b)) else none
 | .and => if k = k' then some (.int k (bits .and k a b)) else none
 | .or => if k = k' then some (.int k (bits .or k a b)) else none
 | .xor => if k = k' then some (.int k (bits .xor k a b)) else none
 | .andNot => if k = k' then some (.int k (bits .andNot k a b)) else none
 | .eql => if k = k' then some (.bool (a == b)) else none
 | .neq => if k = k' then some (.bool (a != b)) else none
 | .lss => if k = k' then some (.bool (decide (a < b))) else none
 | .leq => if k = k' then some (.bool (decide (a ≤ b))) else none
 | .gtr => if k = k' then some (.bool (decide (b < a))) else none
 | .geq => if k = k' then some (.bool (decide (b ≤ a))) else none
def rZ (P : Program) (t : TypeId) : Bool := match P.underlying t with | some .string => true | _ => false
def uW (a b : ByteArray) : Bool := a.toList == b.toList
def sgt (s : ByteArray) (i : Int) : Int := match s[i.toNat]? with | some b => (b.toNat : Int) | none => 0
def oO (P : Program) (t : TypeId) : Bool := match P.underlying t with | some .bool => true | _ => false
def ph (P : Program) : Nat → TypeId → Option Nat
 | 0, _ => none
 | d + 1, t => match P.underlying t with
  | some (.int _) => some 1
  | some (.struct fs) => if P.stoodInHeld t = true ∨ P.eqGuardType P.depth t = true then none else
   fs.toList.foldl (fun (acc : Option Nat) f => match acc with
     | some off => if f.name ≠ "_" ∧ f.offset = off then (match ph P d f.type, szA P f.type with
       | some n, some (m, _) => if n = m then some (off + n) else none
       | _, _ => none) else none
     | none => none) (some 0)
  | _ => none
def eqL : List AV → List AV → Option Bool
 | [], [] => some true
 | .int k a :: cs, .int k' b :: ds => if k = k' then (match eqL cs ds with | some r => some (a == b && r) | none => none) else none
 | _, _ => none
def IF (op : BinOp) (n : Nat) (cs ds : List AV) : Option AV := if cs.length = n ∧ ds.length = n then (match eqL cs ds with
  | some b => (match op with | .eql => some (.bool b) | .neq => some (.bool !b) | _ => none)
  | none => none) else none
def pB (P : Program) (op : BinOp) (t : TypeId) : AV → AV → Option AV
 | .agg cs, .agg ds => match ph P 4 t, szA P t with
  | some n, some (m, true) => if n = m then IF op n cs ds else none
  | _, _ => none
 | .int k a, .int k' b => mW op k a k' b
 | .bool a, .bool b => if oO P t then (match op with | .eql => some (.bool (a == b)) | .neq => some (.bool (a != b)) | _ => none) else none
 | .str a, .str b => match op with | .eql => some (.bool (uW a b)) | .neq => some (.bool (!uW a b)) | _ => none
 | _, _ => none
def unA (op : UnOp) : AV → Option AV
 | .bool b => match op with | .not => some (.bool !b) | _ => none
 | .int k n => match op with | .neg => some (.int k (k.wrap (0 - n))) | _ => none
 | _ => none
def pC (P : Program) (t : TypeId) : Option IntKind := match P.underlying t with | some (.int k) => some k | _ => none
def gV (ρ : Operand → AV) : List (Nat × Operand) → List (Nat × AV)
 | [] => []
 | (i, x) :: l => (i, ρ x) :: gV ρ l
def AV.one : AV → Bool
 | .agg _ | .tup _ | .top | .fn _ _ => false
 | _ => true
def AV.cells : AV → List AV
 | .agg cs => cs
 | v => [v]
def nh (place : Nat → Option (Nat × Nat)) : List AV → List (Nat × AV) → Option (List AV)
 | cs, [] => some cs
 | cs, (i, v) :: rest => match place i with
  | some (off, size) => if v.cells.length = size ∧ off + size ≤ cs.length ∧ v.cells.all AV.one = true then nh place (cs.take off ++ v.cells ++ cs.drop (off + size)) rest else none
  | none => none
def bi (P : Program) (t : TypeId) (i : Nat) : Option (Nat × Nat) := match dS P t i with
 | some (off, n, _) => some (off, n)
 | none => none
def mX (P : Program) (t : TypeId) : Bool := match P.underlying t with | some (.slice _) => true | _ => false
def lS (P : Program) (t : TypeId) : Bool := match P.underlying t with | some (.struct fs) => fs.toList.all fun f => (P.info? f.type).isSome | _ => false
def arA (P : Program) (t : TypeId) : Option (Nat × Nat) := match P.underlying t with
 | some (.array n e) => match P.info? e with
  | some i => some (n, i.size)
  | none => none
 | _ => none
def sj : List AV → Option (List Nat)
 | [] => some []
 | .ptr s 0 :: l => match sj l with | some r => some (s :: r) | none => none
 | _ => none
def d9 (P : Program) (ρ : Operand → AV) : Op → Option AV
 | .move x => some (ρ x)
 | .assign x => some (ρ x)
 | .pick c a b => match ρ c with
  | .bool t => some (if t then ρ a else ρ b)
  | _ => none
 | .build t ps => if lS P t then (match fG P t with
   | some z => (match nh (bi P t) z (gV ρ ps.toList) with | some r => some (.agg r) | none => none)
   | none => none) else (match arA P t, ps.toList, fG P t with
     | some _, [], some z => some (.agg z)
     | _, _, _ => none)
 | .binOp op t x y _ => pB P op t (ρ x) (ρ y)
 | .unOp op _ x => unA op (ρ x)
 | .convert s d x => match pC P s, pC P d, ρ x with
  | some _, some k, .int _ n => some (.int k (k.wrap n))
  | _, _, _ => none
 | .fieldAddr s x f => match dS P s f, ρ x with
  | some (off, _, _), .ptr r o => some (.ptr r (o + off))
  | some (off, _, _), .eptr cs => some (.eptr (cs.drop off))
  | _, _ => none
 | .field s x f => match dS P s f, ρ x with
  | some (off, n, b), .agg cs => ke b n (cs.drop off)
  | _, _ => none
 | .indexAddr t x i => match elA P t, ρ x, ρ i with
  | some (_, sz), .sl cs n, .int _ i => if 0 ≤ i ∧ i < n then some (.eptr (cs.drop (i.toNat * sz))) else none
  | some (_, sz), .own s n, .int _ i => if 0 ≤ i ∧ i < n then some (.ptr s (i.toNat * sz)) else none
  | some _, _, _ => none
  | none, .ptr s o, .int _ i => (match arA P t with
    | some (n, sz) => if 0 ≤ i ∧ i < n then some (.ptr s (o + i.toNat * sz)) else none
    | none => none)
  | _, _, _ => none
 | .makeFunc fn first caps => (match fn, first.toList with
   | .func f, [] => (match sj (caps.toList.map ρ) with | some ps => some (.fn f ps) | none => none)
   | _, _ => none)
 | .extract x i => match ρ x with
  | .tup vs => vs[i]?
  | _ => none
 | .nilCheck x => match ρ x with
  | .ptr s o => some (.ptr s o)
  | _ => none
 | .slice t x lo hi none => match elA P t, ρ x with
  | some (_, sz), .sl cs n =>
   match (match hi with | some h => ρ h | none => .int .i64 n), (match lo with | some l => ρ l | none => .int .i64 0) with
   | .int _ h, .int _ l => if 0 ≤ l ∧ l ≤ h ∧ h ≤ n then some (.sl ((cs.drop (l.toNat * sz)).take ((h.toNat - l.toNat) * sz)) (h.toNat - l.toNat)) else none
   | _, _ => none
  | _, _ => none
 | .slice t x none (some hi) (some mx) => match elA P t, ρ x, ρ hi, ρ mx with
  | some (_, sz), .sl cs n, .int _ h, .int _ m => if 0 ≤ h ∧ h ≤ m ∧ m ≤ n then some (.sl ((cs.drop ((0 : Int).toNat * sz)).take ((h.toNat - (0 : Int).toNat) * sz)) (h.toNat - (0 : Int).toNat)) else none
  | _, _, _, _ => none
 | .call c => match c.callee with
  | .builtin .len => match c.argTypes[0]?, c.args[0]? with
   | some t, some x => if mX P t then (match ρ x with
     | .sl _ n => some (.int .i64 n)
     | .own _ n => some (.int .i64 n)
     | .nil => some (.int .i64 0)
     | _ => none) else if rZ P t then (match ρ x with
     | .str s => some (.int .i64 s.size)
     | _ => none) else none
   | _, _ => none
  | .builtin .min => match c.args.toList with
   | [x, y] => match ρ x, ρ y with
    | .int k a, .int k' b => if k = k' then some (.int k (if b < a then b else a)) else none
    | _, _ => none
   | _ => none
  | _ => none
 | .index t x i => match rZ P t, ρ x, ρ i with
  | true, .str s, .int _ i => if 0 ≤ i ∧ i < (s.size : Int) then some (.int .u8 (sgt s i)) else none
  | _, _, _ => none
 | _ => none
section
variable {P : Program} {M : Imm} {ρ : Plc}
theorem VR.int_inv {k n v} (h : VR M ρ (.int k n) v) : v = .int k n := by
 cases h with
 | plain h => cases h; rfl
theorem VR.bool_inv {b v} (h : VR M ρ (.bool b) v) : v = .bool b := by
 cases h with
 | plain h => cases h; rfl
theorem VR.str_inv {s v} (h : VR M ρ (.str s) v) : v = .string s := by
 cases h with
 | plain h => cases h; rfl
theorem VR.nil_inv {v} (h : VR M ρ .nil v) : v = .slice none 0 0 := by
 cases h with
 | plain h => cases h; rfl
theorem VR.ptr_inv {s off v} (h : VR M ρ (.ptr s off) v) : ∃ x, ρ s = some x ∧ x.nl = false ∧ v = .pointer (some ⟨x.g, off, none⟩) := by
 cases h with
 | plain h => cases h
 | ptr s off x h hx => exact ⟨x, h, hx, rfl⟩
theorem VR.own_inv {s n v} (h : VR M ρ (.own s n) v) : ∃ g cap, (ρ s = some ⟨g, n, cap, false⟩ ∧ v = .slice (some ⟨g, 0, none⟩) n cap) ∨ (ρ s = some ⟨g, n, cap, true⟩ ∧ n = 0 ∧ v = .slice none 0 0) := by
 cases h with
 | plain h => cases h
 | own s g n cap h => exact ⟨g, cap, .inl ⟨h, rfl⟩⟩
 | ownl s g cap h => exact ⟨g, cap, .inr ⟨h, rfl, rfl⟩⟩
theorem VR.sl_inv {cs n v} (h : VR M ρ (.sl cs n) v) : PV M (.sl cs n) v := by
 cases h with
 | plain h => exact h
theorem VR.eptr_inv {cs v} (h : VR M ρ (.eptr cs) v) : PV M (.eptr cs) v := by
 cases h with
 | plain h => exact h
theorem VR.agg_inv {cs v} (h : VR M ρ (.agg cs) v) : ∃ vs : Array Value, v = .agg vs ∧ cs.length = vs.size ∧ (∀ v ∈ vs, v.oneCell' = true) ∧ ∀ (i : Nat) (c : AV) (u : Value), cs[i]? = some c → vs[i]? = some u → VR M ρ c u := by
 cases h with
 | plain h =>
  cases h with
  | agg _ vs hl h1 h => exact ⟨vs, rfl, hl, h1, fun i c u a b => .plain (h i c u a b)⟩
 | agg _ vs hl h1 h => exact ⟨vs, rfl, hl, h1, h⟩
theorem VR.tup_inv {cs v} (h : VR M ρ (.tup cs) v) : ∃ vs : Array Value, v = .tuple vs ∧ cs.length = vs.size ∧ ∀ (i : Nat) (c : AV) (u : Value), cs[i]? = some c → vs[i]? = some u → VR M ρ c u := by
 cases h with
 | plain h => cases h
 | tup _ vs hl h => exact ⟨vs, rfl, hl, h⟩
theorem VR.fn_inv {f ps v} (h : VR M ρ (.fn f ps) v) : ∃ vs : Array Value, v = .func (.func f) #[] vs ∧ ps.length = vs.size ∧ ∀ (i s : Nat) (v : Value), ps[i]? = some s → vs[i]? = some v → VR M ρ (.ptr s 0) v := by
 cases h with
 | plain h => cases h
 | fn _ _ vs hl h => exact ⟨vs, rfl, hl, h⟩
theorem VR.one {a : AV} {v : Value} (h : VR M ρ a v) (ho : a.one = true) : v.oneCell' = true := by
 cases h with
 | plain h => cases h <;> first | rfl | cases ho
 | own => rfl
 | ownl => rfl
 | ptr => rfl
 | agg => cases ho
 | tup => cases ho
 | fn => cases ho
theorem VR.cells {a : AV} {v : Value} (h : VR M ρ a v) (ho : a.cells.all AV.one = true) : a.cells.length = v.cells.size ∧ (∀ u ∈ v.cells, u.oneCell' = true) ∧ ∀ (i : Nat) (c : AV) (u : Value), a.cells[i]? = some c → v.cells[i]? = some u → VR M ρ c u := by
 by_cases hag : ∃ cs, a = .agg cs
 ·obtain ⟨cs, rfl⟩ := hag
  obtain ⟨vs, rfl, hl, h1, h2⟩ := h.agg_inv
  exact ⟨hl, h1, h2⟩
 ·have hc : a.cells = [a] := by
   cases a <;> first | rfl | exact absurd ⟨_, rfl⟩ hag
  rw [hc] at ho ⊢
  have ho1 : a.one = true := by simpa using ho
  have h1 := h.one ho1
  have hvc : v.cells = #[v] := by
   cases v <;> first | rfl | cases h1
  rw [hvc]
  refine ⟨rfl, fun u hu => ?_, fun i c u hc hu => ?_⟩
  ·simp at hu; subst hu; exact h1
  ·cases i with
   | zero => simp at hc hu; subst hc hu; exact h
   | succ i => simp at hc
theorem pD : ∀ (n : Nat) (cs r : List AV), ng n cs = some r → r = cs.take n ∧ n ≤ cs.length
 | 0, cs, r, h => by simp [ng] at h; subst h; simp
 | n + 1, [], r, h => by simp [ng] at h
 | n + 1, c :: cs, r, h => by
  simp only [ng] at h
  split at h
  ·rename_i r' hr
   injection h with h; subst h
   obtain ⟨h1, h2⟩ := pD n cs r' hr
   exact ⟨by simp [h1], by simp; omega⟩
  ·cases h
theorem pi {t : TypeId} {n : Nat} {b : Bool} (h : szA P t = some (n, b)) (w : World) : (sizeOf t).run P w = .ok n w ∧ (isAgg t).run P w = .ok b w := by
 unfold szA at h
 split at h
 ·rename_i i d hi hd
  simp only [Option.some.injEq, Prod.mk.injEq] at h
  obtain ⟨rfl, rfl⟩ := h
  refine ⟨by simp [sizeOf, typeInfo, hi], ?_⟩
  cases d <;> simp [isAgg, underlying, hd]
 ·cases h
theorem sk {t : TypeId} {n : Nat} {b : Bool} (h : szA P t = some (n, b)) (cs : List AV) (vs : Array Value) (off : Nat) (hl : cs.length = vs.size) (h1 : ∀ v ∈ vs, v.oneCell' = true)
  (hv : ∀ (i : Nat) (c : AV) (u : Value), cs[i]? = some c → vs[i]? = some u → VR M ρ c u) {a : AV} (hp : ke b n (cs.drop off) = some a) (w : World) :
  ∃ v', (part t vs off).run P w = .ok v' w ∧ VR M ρ a v' := by
 obtain ⟨hs, hb⟩ := pi h w
 cases b with
 | true =>
  simp only [ke] at hp
  split at hp
  ·rename_i r hr
   injection hp with hp; subst hp
   obtain ⟨rfl, hn⟩ := pD _ _ _ hr
   simp only [List.length_drop] at hn
   refine ⟨.agg (vs.extract off (off + n)), by simp [part, hs, hb], .agg _ _ ?_ (fun v hv => h1 v ?_) (fun i c u hc hu => ?_)⟩
   ·simp; omega
   ·obtain ⟨j, hj, rfl⟩ := Array.mem_iff_getElem.1 hv
    simp only [Array.getElem_extract]
    exact Array.getElem_mem _
   ·rw [List.getElem?_take] at hc
    split at hc
    ·rw [List.getElem?_drop] at hc
     refine hv (off + i) c u hc ?_
     rw [Array.getElem?_extract] at hu
     split at hu
     ·exact hu
     ·cases hu
    ·cases hc
  ·cases hp
 | false =>
  simp only [ke] at hp
  split at hp
  ·rename_i c cs' hcs
   injection hp with hp; subst hp
   have hc : cs[off]? = some c := by
    have : (cs.drop off)[0]? = some c := by rw [hcs]; rfl
    simpa using this
   have hlt : off < vs.size := by
    rw [← hl]
    rcases Nat.lt_or_ge off cs.length with h' | h'
    ·exact h'
    ·rw [List.getElem?_eq_none h'] at hc; cases hc
   exact ⟨vs[off], by simp [part, hb, hlt], hv off c _ hc (Array.getElem?_eq_getElem hlt)⟩
  ·cases hp
theorem pj {s : TypeId} {f off n : Nat} {b : Bool} (h : dS P s f = some (off, n, b)) : ∃ fs x, P.underlying s = some (.struct fs) ∧ fs[f]? = some x ∧ x.offset = off ∧ szA P x.type = some (n, b) ∧ n ≠ 0 := by
 unfold dS at h
 split at h
 ·rename_i fs hfs
  split at h
  ·rename_i x hx
   split at h
   ·rename_i n' b' hn
    split at h
    ·cases h
    ·rename_i h0
     simp only [Option.some.injEq, Prod.mk.injEq] at h
     obtain ⟨rfl, rfl, rfl⟩ := h
     exact ⟨fs, x, hfs, hx, rfl, hn, h0⟩
   ·cases h
  ·cases h
 ·cases h
theorem m5 {t e : TypeId} {n : Nat} (h : elA P t = some (e, n)) : ∃ i, P.underlying t = some (.slice e) ∧ P.info? e = some i ∧ i.size = n := by
 unfold elA at h
 split at h
 ·rename_i e' he
  split at h
  ·rename_i i hi
   simp only [Option.some.injEq, Prod.mk.injEq] at h
   obtain ⟨rfl, rfl⟩ := h
   exact ⟨i, he, hi, rfl⟩
  ·cases h
 ·cases h
theorem dK (b off n : Nat) : (⟨b, off, none⟩ : Addr).add n = ⟨b, off + n, none⟩ := by unfold Addr.add; split <;> simp_all
theorem tV (place place' : Nat → Option (Nat × Nat)) (hpp : ∀ i x, place i = some x → place' i = some x) : ∀ (parts : List (Nat × AV)) (vparts : List (Nat × Value)) (cs : List AV) (arr : Array Value) (r : List AV),
  vparts.length = parts.length → (∀ (i : Nat) (x : Nat × AV) (y : Nat × Value), parts[i]? = some x → vparts[i]? = some y → x.1 = y.1 ∧ VR M ρ x.2 y.2) →
  cs.length = arr.size → (∀ v ∈ arr, v.oneCell' = true) → (∀ (i : Nat) (c : AV) (u : Value), cs[i]? = some c → arr[i]? = some u → VR M ρ c u) → nh place cs parts = some r →
  ∃ arr' : Array Value, Instr.fill place' arr vparts = some arr' ∧ r.length = arr'.size ∧ (∀ v ∈ arr', v.oneCell' = true) ∧ ∀ (i : Nat) (c : AV) (u : Value), r[i]? = some c → arr'[i]? = some u → VR M ρ c u
 | [], vparts, cs, arr, r, hl, _, h1, h2, h3, h => by
  have : vparts = [] := List.eq_nil_of_length_eq_zero hl
  subst this
  simp only [nh, Option.some.injEq] at h
  subst h
  exact ⟨arr, rfl, h1, h2, h3⟩
 | (k, a) :: parts, [], cs, arr, r, hl, _, _, _, _, _ => by simp at hl
 | (k, a) :: parts, (k', v) :: vparts, cs, arr, r, hl, hp, h1, h2, h3, h => by
  obtain ⟨hk, hav⟩ := hp 0 _ _ rfl rfl
  simp only at hk hav
  subst hk
  simp only [nh] at h
  split at h
  ·rename_i off size hpl
   split at h
   ·rename_i hcond
    obtain ⟨hc1, hc2, hc3⟩ := hcond
    obtain ⟨e1, e2, e3⟩ := hav.cells hc3
    have hset : ∀ (l : List Value) (m : Nat) (A : Array Value), m + off + l.length ≤ A.size → (l.zipIdx m).foldl (fun (cs : Array Value) (x : Value × Nat) => cs.setIfInBounds (off + x.2) x.1) A = (A.toList.take (off + m) ++ l ++ A.toList.drop (off + m + l.length)).toArray := by
     intro l
     induction l with
     | nil => intro m A _; simp
     | cons x l ih =>
      intro m A hA
      simp only [List.length_cons] at hA
      rw [List.zipIdx_cons, List.foldl_cons, ih (m + 1) _ (by simp; omega)]
      apply Array.ext'
      simp only [Array.toList_setIfInBounds, List.length_cons]
      apply List.ext_getElem?
      intro j
      have hlen : A.toList.length = A.size := by simp
      have hj : j < off + m ∨ j = off + m ∨ off + m < j := by omega
      rcases hj with hj | hj | hj
      ·rw [List.append_assoc, List.append_assoc, List.getElem?_append_left (by simp; omega), List.getElem?_append_left (by simp; omega), List.getElem?_take, List.getElem?_take, if_pos (by omega), if_pos (by omega), List.getElem?_set_ne (by omega)]
      ·subst hj
       rw [List.append_assoc, List.append_assoc, List.getElem?_append_left (by simp; omega), List.getElem?_append_right (by simp; omega), List.getElem?_take, if_pos (by omega), List.getElem?_set_self (by simp; omega)]
       simp only [List.length_take, Array.length_toList]
       rw [show off + m - min (off + m) A.size = 0 by omega]
       simp
      ·rw [List.append_assoc, List.append_assoc]
       conv => lhs; rw [List.getElem?_append_right (by simp; omega)]
       conv => rhs; rw [List.getElem?_append_right (by simp; omega)]
       simp only [List.length_take, List.length_set, Array.length_toList]
       rw [show j - min (off + m) A.size = (j - min (off + (m + 1)) A.size) + 1 by omega, List.cons_append, List.getElem?_cons_succ]
       by_cases hjl : j - min (off + (m + 1)) A.size < l.length
       ·rw [List.getElem?_append_left hjl, List.getElem?_append_left hjl]
       ·rw [List.getElem?_append_right (by omega), List.getElem?_append_right (by omega), List.getElem?_drop, List.getElem?_drop, List.getElem?_set_ne (by omega)]
        congr 1
        omega
    have harr := hset v.cells.toList 0 arr (by simp; omega)
    simp only [Nat.add_zero, Array.length_toList] at harr
    obtain ⟨arr', f1, f2, f3, f4⟩ := tV place place' hpp parts vparts (cs.take off ++ a.cells ++ cs.drop (off + size)) (arr.toList.take off ++ v.cells.toList ++ arr.toList.drop (off + v.cells.size)).toArray r (by simpa using hl)
     (fun i x y hx hy => hp (i + 1) x y (by simpa using hx) (by simpa using hy)) (by simp; omega) (fun u hu => by
       simp only [List.mem_toArray, List.mem_append] at hu
       rcases hu with (hu | hu) | hu
       · exact h2 u (by simpa using List.mem_of_mem_take hu)
       · exact e2 u (by simpa using hu)
       · exact h2 u (by simpa using List.mem_of_mem_drop hu)) (fun i c u hc hu => by
       simp only [List.getElem?_toArray] at hu
       by_cases hi : i < off
       · rw [List.append_assoc, List.getElem?_append_left (by simp; omega), List.getElem?_take, if_pos hi] at hc hu
         exact h3 i c u hc (by simpa using hu)
       · by_cases hi2 : i < off + size
         · rw [List.append_assoc, List.getElem?_append_right (by simp; omega), List.getElem?_append_left (by simp; omega)] at hc hu
           simp only [List.length_take, Array.length_toList] at hc hu
           rw [show i - min off cs.length = i - off by omega] at hc
           rw [show i - min off arr.size = i - off by omega] at hu
           exact e3 (i - off) c u hc (by simpa using hu)
         · rw [List.getElem?_append_right (by simp; omega), List.getElem?_drop] at hc hu
           simp only [List.length_append, List.length_take, Array.length_toList] at hc hu
           rw [show off + size + (i - (min off cs.length + a.cells.length)) = i by omega] at hc
           rw [show off + v.cells.size + (i - (min off arr.size + v.cells.size)) = i by omega] at hu
           exact h3 i c u hc (by simpa using hu)) h
    refine ⟨arr', ?_, f2, f3, f4⟩
    simp only [Instr.fill, hpp _ _ hpl]
    rw [if_neg (by simp; omega)]
    rw [← f1, ← harr]
    congr 1
    rw [← Array.foldl_toList]
    simp
   ·cases h
  ·cases h
end
section
variable {P : Program} {M : Imm} {ρ : Plc}
theorem uX (op : BinOp) (t : TypeId) (x y : Operand) (k k' : IntKind) (a b : Int) (w : World) : (eqGuard op t x y (.int k a) (.int k' b)).run P w = .ok () w := by
 cases op <;> rfl
theorem tW (op : BinOp) (t : TypeId) (x y : Operand) (a b : Bool) (w : World) : (eqGuard op t x y (.bool a) (.bool b)).run P w = .ok () w := by
 cases op <;> rfl
theorem IG {op : BinOp} {t : TypeId} {k k' : IntKind} {a b : Int} {r : AV} (h : mW op k a k' b = some r) (w : World) :
  ∃ v, (binOp op t (.int k a) (.int k' b)).run P w = .ok v w ∧ PV M r v := by
 cases op <;> simp only [mW] at h <;> split at h <;> first | (cases h; done) | skip
 all_goals
  rename_i hc
  injection h with h
  subst h
  first
   | (obtain ⟨rfl, hb⟩ := hc
      refine ⟨_, ?_, by first | exact .int _ _ | exact .bool _⟩
      simp [binOp, Op.intDiv, hb]
      try rfl)
   | (subst hc
      refine ⟨_, ?_, by first | exact .int _ _ | exact .bool _⟩
      first
        | (simp only [binOp, ne_eq, not_true_eq_false, if_false]; rfl)
        | (simp [binOp, Op.intArith, Op.intBits, Op.intCmp]; done)
        | (simp [binOp, Op.intArith, Op.intBits, Op.intCmp]; rfl))
   | (refine ⟨_, ?_, by first | exact .int _ _ | exact .bool _⟩
      simp [binOp, Op.shift, hc]
      try rfl)
theorem tX {t : TypeId} (hu : P.underlying t = some .bool) (d : Nat) (a b : Bool) (w : World) : (Op.equalIn (d + 1) t (.bool a) (.bool b)).run P w = .ok (a == b) w := by
 simp [Op.equalIn, run_underlying hu]
theorem ve {t : TypeId} (hu : P.underlying t = some .bool) (a b : Bool) (w : World) : (Op.equal t (.bool a) (.bool b)).run P w = .ok (a == b) w :=
 tX hu 9999 a b w
theorem uY (op : BinOp) (t : TypeId) (x y : Operand) (a b : ByteArray) (w : World) : (eqGuard op t x y (.string a) (.string b)).run P w = .ok () w := by
 cases op <;> rfl
theorem ra {t : TypeId} (h : rZ P t = true) : P.underlying t = some .string := by
 unfold rZ at h
 split at h
 ·assumption
 ·cases h
theorem IH {op : BinOp} {t : TypeId} {a b : ByteArray} {r : AV} (h : pB P op t (.str a) (.str b) = some r) (w : World) :
  ∃ v, (binOp op t (.string a) (.string b)).run P w = .ok v w ∧ PV M r v := by
 simp only [pB] at h
 cases op <;> simp only at h <;> first | (cases h; done) | skip
 all_goals
  injection h with h
  subst h
  exact ⟨_, rfl, .bool _⟩
theorem Dn {op : BinOp} {t : TypeId} {a b : Bool} {r : AV} (h : pB P op t (.bool a) (.bool b) = some r) (w : World) :
  ∃ v, (binOp op t (.bool a) (.bool b)).run P w = .ok v w ∧ PV M r v := by
 simp only [pB] at h
 split at h
 ·rename_i ht
  have hu : P.underlying t = some .bool := by
   unfold oO at ht
   split at ht
   ·assumption
   ·cases ht
  cases op <;> simp only at h <;> first | (cases h; done) | skip
  all_goals
   injection h with h
   subst h
   refine ⟨_, ?_, .bool _⟩
   simp [binOp, ve hu]
   try (cases a <;> cases b <;> rfl)
 ·cases h
theorem sm : ∀ {cs ds cs' ds' : List AV} {r : Bool}, cs.length = ds.length → eqL (cs ++ cs') (ds ++ ds') = some r → ∃ a b, eqL cs ds = some a ∧ eqL cs' ds' = some b ∧ r = (a && b)
 | [], [], cs', ds', r, _, h => ⟨true, r, rfl, h, by simp⟩
 | [], _ :: _, _, _, _, hl, _ => by simp at hl
 | _ :: _, [], _, _, _, hl, _ => by simp at hl
 | c :: cs, d :: ds, cs', ds', r, hl, h => by
  simp only [List.cons_append] at h
  unfold eqL at h
  split at h
  ·rename_i h1 h2; cases h1
  ·rename_i k a cs1 k' b ds1 h1 h2
   injection h1 with h1 h1'
   injection h2 with h2 h2'
   subst h1 h2 h1' h2'
   split at h
   ·rename_i hk
    split at h
    ·rename_i r' hr'
     injection h with h
     obtain ⟨x, y, e1, e2, rfl⟩ := sm (by simpa using hl) hr'
     refine ⟨a == b && x, y, ?_, e2, ?_⟩
     ·unfold eqL; simp only [hk, if_true, e1]
     ·rw [← h, Bool.and_assoc]
    ·cases h
   ·cases h
  ·cases h
def nD (P : Program) (d : Nat) (acc : Option Nat) (f : Field) : Option Nat := match acc with
 | some off => if f.name ≠ "_" ∧ f.offset = off then (match ph P d f.type, szA P f.type with
   | some n, some (m, _) => if n = m then some (off + n) else none
   | _, _ => none) else none
 | none => none
theorem nE (d : Nat) : ∀ fs : List Field, fs.foldl (nD P d) none = none
 | [] => rfl
 | f :: fs => nE d fs
theorem wu : ∀ (d : Nat) (t : TypeId) (n : Nat) (x y : AV) (u v : Value) (D : Nat) (w : World), ph P d t = some n → d ≤ D → VR M ρ x u → VR M ρ y v → x.cells.length = n → y.cells.length = n →
  ∀ {ag : Bool}, szA P t = some (n, ag) → (ag = true → ∃ cs ds, x = .agg cs ∧ y = .agg ds) → (ag = false → ∃ k a k' b, x = .int k a ∧ y = .int k' b) → ∀ {r : Bool}, eqL x.cells y.cells = some r → (Op.equalIn D t u v).run P w = .ok r w
 | 0, t, n, x, y, u, v, D, w, h, hD, hx, hy, hxl, hyl, ag, hsz, hag, hng, r, he => by cases h
 | d + 1, t, n, x, y, u, v, D, w, h, hD, hx, hy, hxl, hyl, ag, hsz, hag, hng, r, he => by
  obtain ⟨D, rfl⟩ : ∃ D', D = D' + 1 := ⟨D - 1, by omega⟩
  unfold ph at h
  split at h
  ·rename_i k hu
   have hagf : ag = false := by
    unfold szA at hsz
    rw [hu] at hsz
    split at hsz
    ·rename_i i dd hi hd
     injection hd with hd; subst hd
     injection hsz with hsz; injection hsz with _ hsz; exact hsz.symm
    ·cases hsz
   obtain ⟨k1, a, k2, b, rfl, rfl⟩ := hng hagf
   obtain rfl := hx.int_inv
   obtain rfl := hy.int_inv
   simp only [AV.cells, eqL] at he
   split at he
   ·rename_i hk
    subst hk
    injection he with he
    rw [Bool.and_true] at he
    rw [run_equalIn_int w D t k1 k a b hu, he]
   ·cases he
  ·rename_i fs hu
   split at h
   ·cases h
   rename_i hgd
   have hagt : ag = true := by
    unfold szA at hsz
    rw [hu] at hsz
    split at hsz
    ·rename_i i dd hi hd
     injection hd with hd; subst hd
     injection hsz with hsz; injection hsz with _ hsz; exact hsz.symm
    ·cases hsz
   obtain ⟨cs, ds, rfl, rfl⟩ := hag hagt
   obtain ⟨xs, rfl, hl1, ho1, hv1⟩ := hx.agg_inv
   obtain ⟨ys, rfl, hl2, ho2, hv2⟩ := hy.agg_inv
   simp only [AV.cells] at he hxl hyl
   have hst : P.stoodInHeld t = false := by
    cases hq : P.stoodInHeld t with
    | false => rfl
    | true => exact absurd (.inl hq) hgd
   have hfo : P.fieldsOf t = fs := by unfold Program.fieldsOf; rw [hu]
   rw [run_equalIn_struct w D t xs ys (by rw [hfo]; exact hu) hst, hfo]
   have key : ∀ (l : List Field) (off : Nat) (r : Bool) (w : World), l.foldl (nD P d) (some off) = some n → off ≤ n → eqL (cs.drop off) (ds.drop off) = some r → (Op.eqFields D xs ys l).run P w = .ok r w := by
    intro l
    induction l with
    | nil =>
     intro off r w h1 h2 h3
     simp only [List.foldl_nil, Option.some.injEq] at h1
     subst h1
     rw [List.drop_of_length_le (by omega), List.drop_of_length_le (by omega)] at h3
     simp only [eqL, Option.some.injEq] at h3
     subst h3
     rfl
    | cons f l ih =>
     intro off r w h1 h2 h3
     rw [List.foldl_cons] at h1
     cases hs : nD P d (some off) f with
     | none => rw [hs, nE] at h1; cases h1
     | some off' =>
      rw [hs] at h1
      unfold nD at hs
      simp only at hs
      split at hs
      ·rename_i hc
       obtain ⟨hname, hoff⟩ := hc
       split at hs
       ·rename_i n' m' ag' hn' hm'
        split at hs
        ·rename_i hnm
         subst hnm
         injection hs with hs
         subst hs
         have mono : ∀ (l : List Field) (o : Nat), l.foldl (nD P d) (some o) = some n → o ≤ n := by
          intro l
          induction l with
          | nil => intro o h; simp only [List.foldl_nil, Option.some.injEq] at h; omega
          | cons f l ih =>
           intro o h
           rw [List.foldl_cons] at h
           cases hs : nD P d (some o) f with
           | none => rw [hs, nE] at h; cases h
           | some o' =>
            rw [hs] at h
            have := ih o' h
            have : o ≤ o' := by
             unfold nD at hs
             simp only at hs
             split at hs
             ·split at hs
              ·split at hs
               ·injection hs with hs; omega
               ·cases hs
              ·cases hs
             ·cases hs
            omega
         have hle := mono l _ h1
         have hcl : ((cs.drop off).take n').length = ((ds.drop off).take n').length := by simp; omega
         have h3' := h3
         rw [← List.take_append_drop n' (cs.drop off), ← List.take_append_drop n' (ds.drop off)] at h3'
         obtain ⟨p, q, e1, e2, rfl⟩ := sm hcl h3'
         rw [List.drop_drop, List.drop_drop] at e2
         -- the field
         have fld : ∀ (zs : Array Value) (es : List AV), es.length = n → es.length = zs.size → (∀ v ∈ zs, v.oneCell' = true) → (∀ (i : Nat) (c : AV) (u : Value), es[i]? = some c → zs[i]? = some u → VR M ρ c u) →
           (∀ i, i < n → ∃ k a, es[i]? = some (.int k a)) → ∃ a z, ke ag' n' (es.drop off) = some a ∧ (part f.type zs f.offset).run P w = .ok z w ∧ VR M ρ a z ∧ a.cells = (es.drop off).take n' ∧ (ag' = true → ∃ q, a = .agg q) ∧ (ag' = false → ∃ k b, a = .int k b) := by
          intro zs es hel hes hzo hzv hint
          have tk : ∀ (m : Nat) (l : List AV), m ≤ l.length → ng m l = some (l.take m) := by
           intro m
           induction m with
           | zero => intro l _; simp [ng]
           | succ m ihm =>
            intro l hl
            cases l with
            | nil => simp at hl
            | cons c l => simp only [ng, ihm l (by simpa using hl), List.take_succ_cons]
          have hpk : ∃ a, ke ag' n' (es.drop off) = some a ∧ a.cells = (es.drop off).take n' ∧ (ag' = true → ∃ q, a = .agg q) ∧ (ag' = false → ∃ k b, a = .int k b) := by
           cases hag' : ag' with
           | true => exact ⟨.agg ((es.drop off).take n'), by simp only [ke, tk n' (es.drop off) (by simp; omega)], rfl, fun _ => ⟨_, rfl⟩, fun h => by cases h⟩
           | false =>
            have hn1 : n' = 1 := by
             cases d with
             | zero => cases hn'
             | succ d =>
              unfold ph at hn'
              split at hn'
              ·injection hn' with hn'; exact hn'.symm
              ·rename_i fs' hfs'
               exfalso
               unfold szA at hm'
               rw [hfs'] at hm'
               split at hm'
               ·rename_i i dd hi hd
                injection hd with hd; subst hd
                injection hm' with hm'; injection hm' with _ hm'
                rw [hag'] at hm'; cases hm'
               ·cases hm'
              ·cases hn'
            subst hn1
            obtain ⟨k, b, hkb⟩ := hint off (by omega)
            have : es.drop off = .int k b :: es.drop (off + 1) := by
             obtain ⟨hlt, he⟩ := List.getElem?_eq_some_iff.1 hkb
             rw [List.drop_eq_getElem_cons hlt, he]
            exact ⟨.int k b, by rw [this]; rfl, by rw [this]; rfl, (fun h => by cases h), fun _ => ⟨k, b, rfl⟩⟩
          obtain ⟨a, h1, h2, h3, h4⟩ := hpk
          obtain ⟨z, hz, hZ⟩ := sk (P := P) (M := M) (ρ := ρ) hm' es zs off hes hzo hzv h1 w
          exact ⟨a, z, h1, by rw [hoff]; exact hz, hZ, h2, h3, h4⟩
         have ints : ∀ (cs ds : List AV) (r : Bool), eqL cs ds = some r → (∀ i, i < cs.length → ∃ k a, cs[i]? = some (.int k a)) ∧ (∀ i, i < ds.length → ∃ k a, ds[i]? = some (.int k a)) := by
          intro cs
          induction cs with
          | nil =>
           intro ds r h
           cases ds with
           | nil => exact ⟨fun i h => by simp at h, fun i h => by simp at h⟩
           | cons d ds => cases h
          | cons c cs ihc =>
           intro ds r h
           cases ds with
           | nil => simp [eqL] at h
           | cons d ds =>
            unfold eqL at h
            split at h
            ·rename_i q1 q2; cases q1
            ·rename_i k a cs1 k' b ds1 q1 q2
             injection q1 with q1 q1'
             injection q2 with q2 q2'
             subst q1 q2 q1' q2'
             split at h
             ·split at h
              ·rename_i r' hr'
               obtain ⟨i1, i2⟩ := ihc _ _ hr'
               refine ⟨fun i hi => ?_, fun i hi => ?_⟩
               ·cases i with
                | zero => exact ⟨k, a, rfl⟩
                | succ i => exact i1 i (by simpa using hi)
               ·cases i with
                | zero => exact ⟨k', b, rfl⟩
                | succ i => exact i2 i (by simpa using hi)
              ·cases h
             ·cases h
            ·cases h
         obtain ⟨i1, i2⟩ := ints cs ds _ he
         obtain ⟨a1, z1, f1, f2, f3, f4, f5, f6⟩ := fld xs cs hxl hl1 ho1 hv1 (fun i hi => i1 i (by omega))
         obtain ⟨a2, z2, g1, g2, g3, g4, g5, g6⟩ := fld ys ds hyl hl2 ho2 hv2 (fun i hi => i2 i (by omega))
         have heq := wu d f.type n' a1 a2 z1 z2 D w hn' (by omega) f3 g3 (by rw [f4]; simp; omega) (by rw [g4]; simp; omega) hm' (fun h => by
           obtain ⟨q1, hq1⟩ := f5 h
           obtain ⟨q2, hq2⟩ := g5 h
           exact ⟨q1, q2, hq1, hq2⟩) (fun h => by
           obtain ⟨k1, b1, hq1⟩ := f6 h
           obtain ⟨k2, b2, hq2⟩ := g6 h
           exact ⟨k1, b1, k2, b2, hq1, hq2⟩) (by rw [f4, g4]; exact e1)
         have ihh := ih (off + n') q w h1 hle (by rw [← e2])
         simp only [Op.eqFields, if_pos hname, Sem.run_bind, f2, g2, heq, Result.andThen_ok, Sem.run_ite]
         cases p with
         | true => simp only [Bool.not_true, Bool.false_eq_true, if_false, ihh, Bool.true_and]
         | false => simp only [Bool.not_false, if_true, Sem.run_pure, Bool.false_and]
        ·cases hs
       ·cases hs
      ·cases hs
   exact key fs.toList 0 r w h (by omega) (by simpa using he)
  ·cases h
theorem II {op : BinOp} {t : TypeId} {x y : AV} {u v : Value} {r : AV} (h : pB P op t x y = some r) (hx : VR M ρ x u) (hy : VR M ρ y v) (ox oy : Operand) (w : World) :
  ∃ z, (do eqGuard op t ox oy u v; binOp op t u v : Sem Value).run P w = .ok z w ∧ VR M ρ r z := by
 unfold pB at h
 split at h
 ·rename_i cs ds
  split at h
  ·rename_i n m hn hm
   split at h
   ·rename_i hnm
    subst hnm
    unfold IF at h
    split at h
    ·rename_i hc
     split at h
     ·rename_i b hb
      have hguard : P.eqGuardType P.depth t = false := by
       have hn' := hn
       unfold ph at hn'
       split at hn'
       ·rename_i k hu
        exfalso
        unfold szA at hm
        rw [hu] at hm
        split at hm
        ·rename_i i dd hi hd
         injection hd with hd; subst hd
         injection hm with hm; injection hm with _ hm; cases hm
        ·cases hm
       ·split at hn'
        ·cases hn'
        ·rename_i hgd
         cases hq : P.eqGuardType P.depth t with
         | false => rfl
         | true => exact absurd (.inr hq) hgd
       ·cases hn'
      have heq := wu (P := P) 4 t n (.agg cs) (.agg ds) u v 10000 w hn (by omega) hx hy hc.1 hc.2 hm (fun _ => ⟨_, _, rfl, rfl⟩) (fun h => by cases h) hb
      obtain ⟨xs, rfl, _⟩ := hx.agg_inv
      obtain ⟨ys, rfl, _⟩ := hy.agg_inv
      cases op <;> simp only at h <;> first | (cases h; done) | skip
      ·injection h with h; subst h
       exact ⟨.bool b, by simp only [Sem.run_bind, run_eqGuard_agg w _ t ox oy xs ys hguard, Result.andThen_ok, run_eql_struct, heq], .plain (.bool _)⟩
      ·injection h with h; subst h
       exact ⟨.bool !b, by simp only [Sem.run_bind, run_eqGuard_agg w _ t ox oy xs ys hguard, Result.andThen_ok, run_neq_struct, heq], .plain (.bool _)⟩
     ·cases h
    ·cases h
   ·cases h
  ·cases h
 ·obtain rfl := hx.int_inv
  obtain rfl := hy.int_inv
  obtain ⟨z, hz, hp⟩ := IG (P := P) (M := M) (t := t) h w
  exact ⟨z, by simp [uX, hz], .plain hp⟩
 ·rename_i a b
  obtain rfl := hx.bool_inv
  obtain rfl := hy.bool_inv
  obtain ⟨z, hz, hp⟩ := Dn (P := P) (M := M) (op := op) (t := t) (a := a) (b := b) (by simpa only [pB] using h) w
  exact ⟨z, by simp [tW, hz], .plain hp⟩
 ·rename_i a b
  obtain rfl := hx.str_inv
  obtain rfl := hy.str_inv
  obtain ⟨z, hz, hp⟩ := IH (P := P) (M := M) (op := op) (t := t) (a := a) (b := b) (by simpa only [pB] using h) w
  exact ⟨z, by simp [uY, hz], .plain hp⟩
 ·cases h
theorem K2 {op : UnOp} {x r : AV} {u : Value} (h : unA op x = some r) (hx : VR M ρ x u) (w : World) : ∃ z, (Op.unary op u).run P w = .ok z w ∧ VR M ρ r z := by
 unfold unA at h
 split at h
 ·obtain rfl := hx.bool_inv
  cases op <;> simp only at h <;> first | (cases h; done) | skip
  injection h with h; subst h
  exact ⟨_, rfl, .plain (.bool _)⟩
 ·obtain rfl := hx.int_inv
  cases op <;> simp only at h <;> first | (cases h; done) | skip
  injection h with h; subst h
  exact ⟨_, rfl, .plain (.int _ _)⟩
 ·cases h
theorem jT {t : TypeId} {z : List AV} (h : fG P t = some z) : ∃ v, (∀ w, (zeroValue t).run P w = .ok v w) ∧ z.length = v.cells.size ∧ (∀ u ∈ v.cells, u.oneCell' = true) ∧
  ∀ (M : Imm) (i : Nat) (c : AV) (u : Value), z[i]? = some c → v.cells[i]? = some u → PV M c u := by
 unfold fG at h
 split at h
 ·rename_i i hi
  split at h
  ·rename_i v hv
   split at h
   ·rename_i h1
    injection h with h; subst h
    refine ⟨v, fun w => by simp [zeroValue, typeInfo, hi, hv], by simp, Array.all_eq_true_iff_forall_mem.1 h1, fun M i c u hc hu => ?_⟩
    rw [List.getElem?_map] at hc
    have : v.cells.toList[i]? = some u := by simpa using hu
    rw [this] at hc
    injection hc with hc
    subst hc
    exact tU M u
   ·cases h
  ·cases h
 ·cases h
theorem wv {t : TypeId} {n sz : Nat} (h : arA P t = some (n, sz)) : ∃ e i, P.underlying t = some (.array n e) ∧ P.info? e = some i ∧ i.size = sz := by
 unfold arA at h
 split at h
 ·rename_i n' e hu
  split at h
  ·rename_i i hi
   injection h with h; injection h with h1 h2; subst h1 h2
   exact ⟨e, i, hu, hi, rfl⟩
  ·cases h
 ·cases h
theorem sn : ∀ (l : List AV) (ps : List Nat), sj l = some ps → l = ps.map fun s => AV.ptr s 0
 | [], ps, h => by cases h; rfl
 | c :: l, ps, h => by
  unfold sj at h
  split at h
  ·rename_i hc; cases hc
  ·rename_i s l' hc
   injection hc with h1 h2; subst h1 h2
   split at h
   ·rename_i r hr
    injection h with h; subst h
    rw [sn _ _ hr]; rfl
   ·cases h
  ·cases h
theorem pE {ρA : Operand → AV} : ∀ (l : List (Nat × Operand)) (i : Nat), (gV ρA l)[i]? = (l[i]?).map fun p => (p.1, ρA p.2)
 | [], i => by simp [gV]
 | (k, x) :: l, 0 => by simp [gV]
 | (k, x) :: l, i + 1 => by simp [gV, pE l i]
theorem mJ {ρA : Operand → AV} : ∀ (l : List (Nat × Operand)), (gV ρA l).length = l.length
 | [] => rfl
 | (k, x) :: l => by simp [gV, mJ l]
theorem xj {t : TypeId} {fs : Array Field} (hu : P.underlying t = some (.struct fs)) : ∀ (l : List Field), (∀ f ∈ l, ∃ i, P.info? f.type = some i) → ∀ w : World,
  (l.mapM fun f => (do pure (f.offset, ← sizeOf f.type) : Sem (Nat × Nat))).run P w = .ok (l.map fun f => (f.offset, P.cellsOf f.type)) w := by
 intro l
 induction l with
 | nil => intro _ w; rfl
 | cons f l ih =>
  intro h w
  obtain ⟨i, hi⟩ := h f (by simp)
  have hs : (sizeOf f.type).run P w = .ok (P.cellsOf f.type) w := by simp [sizeOf, typeInfo, hi, Program.cellsOf]
  rw [List.mapM_cons]
  simp only [Sem.run_bind, hs, Result.andThen_ok, Sem.run_pure, ih (fun g hg => h g (by simp [hg])) w, List.map_cons]
theorem Do {ρA : Operand → AV} {ρC : Operand → Value} {o : Oper} {r : AV} (h : d9 P ρA o.op = some r) (hv : ∀ x, VR M ρ (ρA x) (ρC x)) (w : World) :
  ∃ v, (execOp ρC o).run P w = .ok (.value v) w ∧ VR M ρ r v := by
 have lift : ∀ {s : Sem Value} {z : Value}, s.run P w = .ok z w → (do pure (.value (← s)) : Sem Next).run P w = .ok (.value z) w := fun hs => by simp [hs]
 obtain ⟨dst, op, type, pos, after, guard⟩ := o
 cases op <;> simp only [d9] at h <;> first | (cases h; done) | skip
 case move x => injection h with h; subst h; exact ⟨_, rfl, hv x⟩
 case assign x => injection h with h; subst h; exact ⟨_, rfl, hv x⟩
 case pick c a b =>
  split at h
  ·rename_i t ht
   injection h with h; subst h
   have hc := hv c
   rw [ht] at hc
   have e := hc.bool_inv
   refine ⟨if t then ρC a else ρC b, ?_, ?_⟩
   ·simp [execOp, asBool, e]
   ·cases t
    ·exact hv b
    ·exact hv a
  ·cases h
 case build t ps =>
  split at h
  ·rename_i hst
   split at h
   ·rename_i z hz
    split at h
    ·rename_i r' hf
     injection h with h; subst h
     obtain ⟨v, z1, z2, z3, z4⟩ := jT hz
     unfold lS at hst
     split at hst
     ·rename_i fs hfs
      have hinfo : ∀ f ∈ fs.toList, ∃ i, P.info? f.type = some i := fun f hf => Option.isSome_iff_exists.1 (by simpa using List.all_eq_true.1 hst f hf)
      have hpl := xj hfs fs.toList hinfo w
      obtain ⟨arr', f1, f2, f3, f4⟩ := tV (M := M) (ρ := ρ) (bi P t) (fun i => (fs.map fun f => (f.offset, P.cellsOf f.type))[i]?) (fun i x hx => by
        unfold bi at hx
        split at hx
        · rename_i off n b hfl
          injection hx with hx; subst hx
          obtain ⟨fs', y, hu, hy, ho, hs, _⟩ := pj hfl
          rw [hfs] at hu
          injection hu with hu; injection hu with hu; subst hu
          have hc : P.cellsOf y.type = n := by
            unfold szA at hs
            split at hs
            · rename_i i d hi hd
              simp only [Option.some.injEq, Prod.mk.injEq] at hs
              simp [Program.cellsOf, hi, hs.1]
            · cases hs
          simp [hy, ho, hc]
        · cases hx) (gV ρA ps.toList) (ps.toList.map fun p => (p.1, ρC p.2)) z v.cells r' (by simp [mJ]) (fun i x y hx hy => by
          rw [pE] at hx
          rw [List.getElem?_map] at hy
          cases hp : ps.toList[i]? with
          | none => rw [hp] at hx; cases hx
          | some q =>
            rw [hp] at hx hy
            injection hx with hx; injection hy with hy
            subst hx hy
            exact ⟨rfl, hv _⟩) z2 z3 (fun i c u hc hu => .plain (z4 M i c u hc hu)) hf
      refine ⟨.agg arr', ?_, .agg _ _ f2 f3 f4⟩
      refine lift ?_
      have hpl' : (fs.mapM fun f => (do pure (f.offset, ← sizeOf f.type) : Sem (Nat × Nat))).run P w = .ok (fs.map fun f => (f.offset, P.cellsOf f.type)) w := by
       rw [← Array.toArray_toList (xs := fs), List.mapM_toArray]
       simp only [Sem.run_map, hpl, Result.andThen_ok, List.map_toArray]
      simp only [Instr.build, Sem.run_bind, z1 w, Result.andThen_ok, run_underlying hfs, hpl']
      have f1' : Instr.fill (fun x => (fs.map fun f => (f.offset, P.cellsOf f.type))[x]?) v.cells (ps.map fun x => (x.1, ρC x.2)).toList = some arr' := by
       rw [← f1]; simp
      simp only [f1']
      rfl
     ·cases hst
    ·cases h
   ·cases h
  ·split at h
   ·rename_i ar z har hps hz
    injection h with h; subst h
    obtain ⟨v, z1, z2, z3, z4⟩ := jT hz
    obtain ⟨e, inf, hu, hinf, _⟩ := wv har
    refine ⟨.agg v.cells, lift ?_, .agg _ _ z2 z3 (fun i c u hc hu => .plain (z4 M i c u hc hu))⟩
    simp [Instr.build, z1 w, run_underlying hu, sizeOf, typeInfo, hinf, hps, Instr.fill]
   ·cases h
 case binOp op t x y t2 =>
  obtain ⟨z, hz, hr⟩ := II h (hv x) (hv y) x y w
  exact ⟨z, lift hz, hr⟩
 case unOp op t x =>
  obtain ⟨z, hz, hr⟩ := K2 h (hv x) w
  exact ⟨z, lift hz, hr⟩
 case convert s d x =>
  split at h
  ·rename_i k0 k k1 n hs hd hx
   injection h with h; subst h
   have e := hv x
   rw [hx] at e
   have e := e.int_inv
   have us : P.underlying s = some (.int k0) := by
    unfold pC at hs; split at hs
    ·rename_i q hq; injection hs with hs; subst hs; exact hq
    ·cases hs
   have ud : P.underlying d = some (.int k) := by
    unfold pC at hd; split at hd
    ·rename_i q hq; injection hd with hd; subst hd; exact hq
    ·cases hd
   refine ⟨.int k (k.wrap n), lift ?_, .plain (.int _ _)⟩
   simp [convert, run_underlying us, run_underlying ud, e, Conv.intToInt]
  ·cases h
 case fieldAddr s x f =>
  split at h
  ·rename_i off n b r o hf hx
   injection h with h; subst h
   have e := hv x
   rw [hx] at e
   obtain ⟨y, hy, hyn, e⟩ := e.ptr_inv
   obtain ⟨fs, fl, hu, hfl, ho, hs, hn⟩ := pj hf
   refine ⟨.pointer (some ⟨y.g, o + off, none⟩), lift ?_, .ptr _ _ y hy hyn⟩
   simp [Instr.fieldAt, run_underlying hu, hfl, e, Instr.sureAddr, fieldPlace, (pi hs w).1, hn, dK, ho]
  ·rename_i off n b cs hf hx
   injection h with h; subst h
   have e := hv x
   rw [hx] at e
   have e := e.eptr_inv
   generalize hq : ρC x = q at e
   cases e with
   | eptr _ b off' g hm hh =>
    obtain ⟨fs, fl, hu, hfl, ho, hs, hn⟩ := pj hf
    refine ⟨.pointer (some ⟨b, off' + off, none⟩), lift ?_, .plain (.eptr _ b (off' + off) (fun i => g (off + i)) (fun i c hc => ?_) (fun i c hc => ?_))⟩
    ·simp [Instr.fieldAt, run_underlying hu, hfl, hq, Instr.sureAddr, fieldPlace, (pi hs w).1, hn, dK, ho]
    ·rw [List.getElem?_drop] at hc
     rw [Nat.add_assoc]; exact hm _ c hc
    ·rw [List.getElem?_drop] at hc
     exact hh _ c hc
  ·cases h
 case field s x f =>
  split at h
  ·rename_i off n b cs hf hx
   have e := hv x
   rw [hx] at e
   obtain ⟨vs, hvs, hl, h1, h2⟩ := e.agg_inv
   obtain ⟨fs, fl, hu, hfl, ho, hs, hn⟩ := pj hf
   obtain ⟨v', hr, hR⟩ := sk hs cs vs off hl h1 h2 h w
   refine ⟨v', lift ?_, hR⟩
   simp only [Instr.field, Sem.run_bind, run_underlying hu, Result.andThen_ok, hfl, hvs, asAgg, Sem.run_pure, ho, hr]
  ·cases h
 case indexAddr t x i =>
  split at h
  ·rename_i e' sz cs n k i' he hx hi
   split at h
   ·rename_i hc
    injection h with h; subst h
    have ex := hv x
    rw [hx] at ex
    have ex := ex.sl_inv
    have ei := hv i
    rw [hi] at ei
    have ei := ei.int_inv
    obtain ⟨inf, hu, hinf, hsz⟩ := m5 he
    generalize hq : ρC x = q at ex
    cases ex with
    | sl _ _ A cap b off g hA hn hm hh =>
     obtain rfl := hA (by omega)
     refine ⟨.pointer (some ⟨b, off + i'.toNat * sz, none⟩), lift ?_, .plain (.eptr _ b (off + i'.toNat * sz) (fun j => g (i'.toNat * sz + j)) (fun j c hc => ?_) (fun j c hc => ?_))⟩
     ·simp [Instr.indexAt, ei, asIntOf, run_underlying hu, hq, hc.1, hc.2, sizeOf, typeInfo, hinf, hsz, dK]
     ·rw [List.getElem?_drop] at hc
      rw [Nat.add_assoc]; exact hm _ c hc
     ·rw [List.getElem?_drop] at hc
      exact hh _ c hc
   ·cases h
  ·rename_i e' sz s n k i' he hx hi
   split at h
   ·rename_i hc
    injection h with h; subst h
    have ex := hv x
    rw [hx] at ex
    obtain ⟨g, cap, ⟨hs, ex⟩ | ⟨hs, hn0, ex⟩⟩ := ex.own_inv
    rotate_left
    ·omega
    have ei := hv i
    rw [hi] at ei
    have ei := ei.int_inv
    obtain ⟨inf, hu, hinf, hsz⟩ := m5 he
    refine ⟨.pointer (some ⟨g, i'.toNat * sz, none⟩), lift ?_, .ptr s _ ⟨g, n, cap, false⟩ hs rfl⟩
    simp [Instr.indexAt, ei, asIntOf, run_underlying hu, ex, hc.1, hc.2, sizeOf, typeInfo, hinf, hsz, dK]
   ·cases h
  ·cases h
  ·rename_i s o k i' hel hx hi
   split at h
   ·rename_i n sz har
    split at h
    ·rename_i hc
     injection h with h; subst h
     have ex := hv x
     rw [hx] at ex
     obtain ⟨y, hy, hyn, ex⟩ := ex.ptr_inv
     have ei := hv i
     rw [hi] at ei
     have ei := ei.int_inv
     obtain ⟨e, inf, hu, hinf, hsz⟩ := wv har
     refine ⟨.pointer (some ⟨y.g, o + i'.toNat * sz, none⟩), lift ?_, .ptr _ _ y hy hyn⟩
     simp [Instr.indexAt, ei, asIntOf, run_underlying hu, ex, Instr.sureAddr, hc.1, hc.2, sizeOf, typeInfo, hinf, hsz, dK]
    ·cases h
   ·cases h
  ·cases h
 case makeFunc fn first caps =>
  split at h
  ·rename_i f hfirst
   split at h
   ·rename_i ps hps
    injection h with h; subst h
    have hfe : first = #[] := by cases first; simpa using hfirst
    subst hfe
    have hl := sn _ _ hps
    have hln : caps.toList.length = ps.length := by have := congrArg List.length hl; simpa using this
    refine ⟨.func (.func f) #[] (caps.map ρC), lift (by simp [Instr.makeFunc]), .fn f ps _ (by simpa using hln.symm) (fun i s v hs hv' => ?_)⟩
    rw [Array.getElem?_map] at hv'
    cases hx : caps[i]? with
    | none => rw [hx] at hv'; cases hv'
    | some x =>
     rw [hx] at hv'; injection hv' with hv'; subst hv'
     have e : (caps.toList.map ρA)[i]? = some (ρA x) := by rw [List.getElem?_map]; simp [hx]
     rw [hl, List.getElem?_map, hs] at e
     injection e with e
     have := hv x
     rw [← e] at this
     exact this
   ·cases h
  ·cases h
 case extract x i =>
  split at h
  ·rename_i vs hx
   have e := hv x
   rw [hx] at e
   obtain ⟨us, e, hl, hu⟩ := e.tup_inv
   have hlt : i < us.size := by
    rw [← hl]
    rcases Nat.lt_or_ge i vs.length with h' | h'
    ·exact h'
    ·rw [List.getElem?_eq_none h'] at h; cases h
   refine ⟨us[i], lift ?_, hu i r _ h (Array.getElem?_eq_getElem hlt)⟩
   simp [Instr.extract, e, hlt]
  ·cases h
 case nilCheck x =>
  split at h
  ·rename_i s o hx
   injection h with h; subst h
   have e := hv x
   rw [hx] at e
   have e0 := e
   obtain ⟨y, hy, hyn, e⟩ := e.ptr_inv
   refine ⟨_, ?_, e0⟩
   simp [execOp, e]
  ·cases h
 case slice t x lo hi mx =>
  cases mx with
  | some mx =>
   cases lo with
   | some _ => cases h
   | none =>
    cases hi with
    | none => cases h
    | some hi =>
     simp only [d9] at h
     split at h
     ·rename_i e' sz cs n kh hh km mm he hx ehi emx
      split at h
      ·rename_i hc
       injection h with h; subst h
       have ex := hv x
       rw [hx] at ex
       have ex := ex.sl_inv
       obtain ⟨inf, hu, hinf, hsz⟩ := m5 he
       have hhi := hv hi
       rw [ehi] at hhi
       have hhi := hhi.int_inv
       have hmx := hv mx
       rw [emx] at hmx
       have hmx := hmx.int_inv
       generalize hq : ρC x = q at ex
       cases ex with
       | sl _ _ A cap b off g hA hn hm hG =>
        have bnd : (Instr.sliceBounds true n cap none (some (ρC hi)) (some (ρC mx))).run P w = .ok (0, hh.toNat, mm.toNat) w := by
         have c1 : mm ≤ (cap : Int) := by omega
         have c2 : 0 ≤ mm := by omega
         have c3 : hh ≤ mm := hc.2.1
         simp [Instr.sliceBounds, hhi, hmx, Instr.sliceBound, asIntOf, c1, c2, hc.1, c3]
         intro hlt
         omega
        simp only [Int.toNat_zero, Nat.zero_mul, List.drop_zero, Nat.sub_zero]
        refine ⟨.slice (if mm.toNat = 0 then A else A.map (·.add (0 * sz))) (hh.toNat - 0) (mm.toNat - 0), lift ?_, .plain (.sl _ _ _ _ b off g (fun hp => ?_) (by omega) (fun j c hcj => ?_) (fun j c hcj => ?_))⟩
        ·have : Instr.sliceAt t (.slice A n cap) none (some (ρC hi)) (some (ρC mx)) = (do
             match ← underlying t with
             | .array n elem =>
               let a ← Instr.sureAddr (.slice A n cap)
               let (l, h, m) ← Instr.sliceBounds false n n none (some (ρC hi)) (some (ρC mx))
               let size ← sizeOf elem
               pure (.slice (some (if m = l then a else a.add (l * size))) (h - l) (m - l))
             | _ => Instr.slice t (.slice A n cap) none (some (ρC hi)) (some (ρC mx))) := rfl
         simp [hq, Instr.sliceAt, run_underlying hu, Instr.slice, bnd, sizeOf, typeInfo, hinf, hsz]
        ·have hnp : 0 < n := by omega
         obtain rfl := hA hnp
         rw [if_neg (by omega)]
         simp [dK]
        ·rw [List.getElem?_take] at hcj
         split at hcj
         ·exact hm _ c hcj
         ·cases hcj
        ·rw [List.getElem?_take] at hcj
         split at hcj
         ·exact hG _ c hcj
         ·cases hcj
      ·cases h
     ·cases h
  | none =>
   simp only [d9] at h
   split at h
   ·rename_i e' sz cs n he hx
    split at h
    ·rename_i kh hh kl hl ehi elo
     split at h
     ·rename_i hc
      injection h with h; subst h
      have ex := hv x
      rw [hx] at ex
      have ex := ex.sl_inv
      obtain ⟨inf, hu, hinf, hsz⟩ := m5 he
      generalize hq : ρC x = q at ex
      cases ex with
      | sl _ _ A cap b off g hA hn hm hG =>
       have hhi : ∀ h', hi = some h' → ρC h' = .int kh hh := fun h' e => by
        subst e
        have := hv h'
        simp only at ehi
        rw [ehi] at this
        exact this.int_inv
       have hlo : ∀ l', lo = some l' → ρC l' = .int kl hl := fun l' e => by
        subst e
        have := hv l'
        simp only at elo
        rw [elo] at this
        exact this.int_inv
       have bnd : (Instr.sliceBounds true n cap (lo.map ρC) (hi.map ρC) none).run P w = .ok (hl.toNat, hh.toNat, cap) w := by
        have c1 : hh ≤ (cap : Int) := by omega
        have c2 : 0 ≤ hh := by omega
        have c3 : hl ≤ (hh.toNat : Int) := by omega
        cases hi with
        | none =>
         simp only at ehi
         injection ehi with _ e2
         have e3 : hh.toNat = n := by omega
         cases lo with
         | none =>
          simp only at elo
          injection elo with _ e4
          subst e4
          simp [Instr.sliceBounds, e3]
         | some l' =>
          have c4 : hl ≤ (n : Int) := by omega
          simp [Instr.sliceBounds, e3, hlo l' rfl, Instr.sliceBound, asIntOf, hc.1, c4]
        | some h' =>
         cases lo with
         | none =>
          simp only at elo
          injection elo with _ e4
          subst e4
          simp [Instr.sliceBounds, hhi h' rfl, Instr.sliceBound, asIntOf, c1, c2]
         | some l' =>
          simp [Instr.sliceBounds, hhi h' rfl, hlo l' rfl, Instr.sliceBound, asIntOf, c1, c2, hc.1]
          intro hlt
          omega
       have hnn : hh.toNat ≤ n := by omega
       refine ⟨.slice (if cap = hl.toNat then A else A.map (·.add (hl.toNat * sz))) (hh.toNat - hl.toNat) (cap - hl.toNat), lift ?_, .plain (.sl _ _ _ _ b (off + hl.toNat * sz) (fun j => g (hl.toNat * sz + j)) (fun hp => ?_) (by omega) (fun j c hcj => ?_) (fun j c hcj => ?_))⟩
       ·have : Instr.sliceAt t (.slice A n cap) (lo.map ρC) (hi.map ρC) none = (do
            match ← underlying t with
            | .array n elem =>
              let a ← Instr.sureAddr (.slice A n cap)
              let (l, h, m) ← Instr.sliceBounds false n n (lo.map ρC) (hi.map ρC) none
              let size ← sizeOf elem
              pure (.slice (some (if m = l then a else a.add (l * size))) (h - l) (m - l))
            | _ => Instr.slice t (.slice A n cap) (lo.map ρC) (hi.map ρC) none) := rfl
        simp [hq, Instr.sliceAt, run_underlying hu, Instr.slice, bnd, sizeOf, typeInfo, hinf, hsz]
       ·have hnp : 0 < n := by omega
        obtain rfl := hA hnp
        rw [if_neg (by omega)]
        simp [dK]
       ·rw [List.getElem?_take] at hcj
        split at hcj
        ·rw [List.getElem?_drop] at hcj
         rw [Nat.add_assoc]; exact hm _ c hcj
        ·cases hcj
       ·rw [List.getElem?_take] at hcj
        split at hcj
        ·rw [List.getElem?_drop] at hcj
         exact hG _ c hcj
        ·cases hcj
     ·cases h
    ·cases h
   ·cases h
 case call c =>
  split at h
  ·rename_i hcal
   split at h
   ·rename_i t x ht hx
    split at h
    ·rename_i hsl
     have hu : ∃ e, P.underlying t = some (.slice e) := by
      unfold mX at hsl
      split at hsl
      ·rename_i e he; exact ⟨e, he⟩
      ·cases hsl
     obtain ⟨e, hu⟩ := hu
     have hlen : ∀ (A : Option Addr) (n cap : Nat), ρC x = .slice A n cap → (execOp ρC ⟨dst, .call c, type, pos, after, guard⟩).run P w = .ok (.value (.int .i64 n)) w := fun A n cap hq => by
      have hargs : (c.args.map ρC)[0]? = some (.slice A n cap) := by simp [hx, hq]
      simp [execOp, resolve, hcal, invoke, builtin, Builtin.len_, ht, hargs, run_underlying hu, goInt]
     split at h
     ·rename_i cs n hxx
      injection h with h; subst h
      have ex := hv x
      rw [hxx] at ex
      have ex := ex.sl_inv
      generalize hq : ρC x = q at ex
      cases ex with
      | sl _ _ A cap b off g hA hn hm hG => exact ⟨_, hlen _ _ _ hq, .plain (.int _ _)⟩
     ·rename_i s n hxx
      injection h with h; subst h
      have ex := hv x
      rw [hxx] at ex
      obtain ⟨g, cap, ⟨hs, ey⟩ | ⟨hs, hn0, ey⟩⟩ := ex.own_inv
      ·exact ⟨_, hlen _ _ _ ey, .plain (.int _ _)⟩
      ·rw [hn0]
       exact ⟨_, hlen _ _ _ ey, .plain (.int _ _)⟩
     ·rename_i hxx
      injection h with h; subst h
      have ex := hv x
      rw [hxx] at ex
      exact ⟨_, hlen _ _ _ ex.nil_inv, .plain (.int _ _)⟩
     ·cases h
    ·split at h
     ·rename_i hst
      have hu := ra hst
      split at h
      ·rename_i s hxx
       injection h with h; subst h
       have ex := hv x
       rw [hxx] at ex
       have ex := ex.str_inv
       refine ⟨.int .i64 s.size, ?_, .plain (.int _ _)⟩
       have hargs : (c.args.map ρC)[0]? = some (.string s) := by simp [hx, ex]
       simp [execOp, resolve, hcal, invoke, builtin, Builtin.len_, ht, hargs, run_underlying hu, goInt]
      ·cases h
     ·cases h
   ·cases h
  ·rename_i hcal
   split at h
   ·rename_i x y hxy
    split at h
    ·rename_i k a k' b hxa hyb
     split at h
     ·rename_i hk
      subst hk
      injection h with h; subst h
      have ex := hv x
      rw [hxa] at ex
      have ex := ex.int_inv
      have ey := hv y
      rw [hyb] at ey
      have ey := ey.int_inv
      refine ⟨.int k (if b < a then b else a), ?_, .plain (.int _ _)⟩
      simp [execOp, resolve, hcal, invoke, builtin, Builtin.min_, hxy, ex, ey, Builtin.min2]
     ·cases h
    ·cases h
   ·cases h
  ·cases h
 case index t x i =>
  split at h
  ·rename_i s k i' hst hxx hii
   split at h
   ·rename_i hc
    injection h with h; subst h
    have hu := ra hst
    have ex := hv x
    rw [hxx] at ex
    have ex := ex.str_inv
    have ei := hv i
    rw [hii] at ei
    have ei := ei.int_inv
    have hlt : i'.toNat < s.size := by omega
    refine ⟨.int .u8 (sgt s i'), ?_, .plain (.int _ _)⟩
    have hg : s[i'.toNat]? = some s[i'.toNat] := by simp [hlt]
    have hsg : sgt s i' = (s[i'.toNat].toNat : Int) := by unfold sgt; rw [hg]
    rw [hsg]
    simp [execOp, Instr.index, asIntOf, ex, ei, run_underlying hu, hc.1, hg]
   ·cases h
  ·cases h
end
def AV.pl : AV → Bool
 | .own _ _ | .ptr _ _ | .agg _ | .tup _ | .fn _ _ => false
 | _ => true
def od : Nat → List AV → List AV
 | 0, _ => []
 | n + 1, z => z ++ od n z
def eO (P : Program) (e : TypeId) : Nat := match P.info? e with | some i => i.bytes | none => 0
def kg (ag : Bool) (sz : Nat) (rows : Nat → Option Row) : AV → Option AV
 | .ptr s off => match rows s with
  | some (.box _ cs) => ke ag sz (cs.drop off)
  | some (.row _ _ cs) => ke ag sz (cs.drop off)
  | some (.tab _ _ cs) => ke ag sz (cs.drop off)
  | _ => none
 | .eptr cs => ke ag sz cs
 | _ => none
def gW (P : Program) (e : TypeId) : Nat → Bool
 | 0 => false
 | _ + 1 => match P.underlying e with
  | some (.int _) => true
  | some .string => true
  | _ => false
def FZ (BR : Nat → Bool) (site : Nat) : Bool := BR (1000000 + site)
def nz : AV → AV
 | .nil => .sl [] 0
 | a => a
theorem PV.nz {M : Imm} {a : AV} {v : Value} (h : PV M a v) : PV M (nz a) v := by
 cases a <;> first | exact h | skip
 cases h
 exact .sl [] 0 none 0 0 0 (fun _ => undef) (fun h => by omega) (Nat.le_refl _) (fun i c hc => by simp at hc) (fun i c hc => by simp at hc)
def aMk (P : Program) (fz : Bool) (site : Nat) (ρ : Operand → AV) (rows : Nat → Option Row) : Op → Option (AV × Option Row)
 | .load t x => match szA P t with
  | some (sz, ag) => match kg ag sz rows (ρ x) with
   | some v => some (v, none)
   | none => none
  | none => none
 | .alloc t => match fG P t with
  | some z => some (.ptr site 0, some (.box t z))
  | none => none
 | .box t x => if (ρ x).cells.all AV.one then some (.ptr site 0, some (.box t (ρ x).cells)) else none
 | .buildSlice t len ps => match elA P t with
  | some (e, sz) => match fG P e with
   | some z => if z.length = sz ∧ 0 < sz ∧ len * sz ≤ 16777216 then (match nh (fun i => some (i * sz, sz)) (od len z) (gV ρ ps.toList) with
     | some cs => if cs.all AV.pl then (match fz || gW P e len with | true => some (.sl (cs.map nz) len, none) | false => some (.own site len, some (.row e sz (cs.map nz)))) else if cs.all AV.one then some (.own site len, some (.tab e sz cs)) else none
     | none => none) else none
   | none => none
  | none => none
 | .makeSlice t l c => match elA P t, ρ l, ρ c with
  | some (e, sz), .int _ n, .int _ m => match fG P e with
   | some z => if z.length = sz ∧ 0 < sz ∧ eO P e ≤ 1048576 ∧ n = m ∧ 0 ≤ n ∧ n ≤ 1048576 then some (.own site n.toNat, some (.row e sz (od n.toNat z))) else none
   | none => none
  | _, _, _ => none
 | _ => none
section
variable {P : Program} {C : Ctx} {M : Imm} {ρ : Plc} {st : St} {a : Act} {w : World}
theorem VR.pl {c : AV} {v : Value} (h : VR M ρ c v) (hp : c.pl = true) : PV M c v := by
 cases h with
 | plain h => exact h
 | own => cases hp
 | ownl => cases hp
 | ptr => cases hp
 | agg => cases hp
 | tup => cases hp
 | fn => cases hp
theorem Rel.ev (h : Rel C M ρ st a w) (x : Operand) : VR M ρ (st.ev x) (a.eval x) := by
 cases x with
 | tmp t => exact h.tm t
 | const v => exact .plain (IE M v)
 | global g => exact .plain (.top _)
 | func f => exact .plain (.top _)
theorem Rel.put (h : Rel C M ρ st a w) {d : Option Tmp} {v : AV} {u : Value} (hv : VR M ρ v u) (hd : ∀ k, d = some k → k < C.N) : Rel C M ρ (st.put d v) (a.put d u) w := by
 cases d with
 | none => exact h
 | some k =>
  refine { h with tm := fun t => ?_, N := ?_ }
  ·simp only [St.put, Act.put]
   by_cases e : t = k
   ·subst e
    rw [ai]
    have : t < a.tmps.size := by rw [h.N]; exact hd _ rfl
    simpa [this] using hv
   ·rw [au _ _ e]
    have := h.tm t
    simpa [Array.getElem?_setIfInBounds_ne (Ne.symm e)] using this
  ·simp [Act.put, h.N]
theorem Rel.drew (h : Rel C M ρ st a w) : Rel C M ρ st a { w with drawn := w.drawn + 1 } :=
 { h with mr := h.mr.same fun _ _ => rfl, chg := ⟨h.chg.os, h.chg.tape, h.chg.output, h.chg.size, h.chg.block⟩ }
theorem Rel.add (h : Rel C M ρ st a w) {s : Nat} {r : Row} {x : At} {ob : Obj} (hn : st.rows s = none) (hg : x.g = w.heap.size) (hR : r.solid = true → eZ M (upd ρ s (some x)) (w.alloc ob) r x) :
  Rel C M (upd ρ s (some x)) { st with rows := upd st.rows s (some r) } a (w.alloc ob) := by
 have hρ := h.fr s hn
 have hsame : ∀ b, b < w.heap.size → (w.alloc ob).heap[b]? = w.heap[b]? := fun b hb => by
  show (w.heap.push ob)[b]? = _
  rw [Array.getElem?_push_lt hb, Array.getElem?_eq_getElem hb]
 refine ⟨fun t => (h.tm t).mono (Imm.le_refl _) (Plc.le_upd hρ), h.N, h.df, ?_, ?_, fun k q y hk hs hy hn1 => ?_, h.m0, Plc.le_trans h.r0 (Plc.le_upd hρ), h.mold, fun k hk => ?_⟩
 ·refine (h.mr.same hsame).add hn hρ hR (fun k q y hk hs hy hn1 hn2 => ?_) (fun b o v hM hn2 => ?_)
  ·obtain ⟨y', hy', hY⟩ := h.mr.row k q hk hs
   rw [hy] at hy'; injection hy' with hy'; subst hy'
   have := hY.lt hs (by assumption)
   omega
  ·have := gm (h.mr.imm b o v hM).1
   omega
 ·exact h.chg.trans (E := fun _ => False) ⟨rfl, rfl, rfl, by simp, fun b hb _ => hsame b hb⟩ (fun _ h => h.elim)
 ·by_cases e : k = s
  ·subst e
   rw [ai] at hy; injection hy with hy; subst hy
   right; rw [hg]; exact h.chg.size
  ·have hk : upd st.rows s (some r) k = some q := hk
   rw [au _ _ e] at hk hy
   exact h.new k q y hk hs hy hn1
 ·by_cases e : k = s
  ·subst e
   have hk : upd st.rows k (some r) k = none := hk
   rw [ai] at hk; cases hk
  ·have hk : upd st.rows s (some r) k = none := hk
   rw [au _ _ e] at hk ⊢
   exact h.fr k hk
theorem Rel.set (h : Rel C M ρ st a w) {s : Nat} {r r' : Row} {x : At} {w' : World} (hr : st.rows s = some r) (hs : r.solid = true) (hx : ρ s = some x) (hnx : x.nl = false) (hc : Chg (fun b => b = x.g) w w')
  (hR : r'.solid = true → eZ M ρ w' r' x) : Rel C M ρ { st with rows := upd st.rows s (some r') } a w' := by
 refine { h with mr := h.mr.set hr hs hx hnx (fun b hb hne => hc.block b hb hne) hR, chg := h.chg.trans hc ?_, new := fun k q y hk hq hy hn1 => ?_, fr := fun k hk => ?_ }
 ·rintro b rfl
  exact h.new s r x hr hs hx hnx
 ·by_cases e : k = s
  ·subst e
   rw [hx] at hy; injection hy with hy; subst hy
   exact h.new k r x hr hs hx hn1
  ·have hk : upd st.rows s (some r') k = some q := hk
   rw [au _ _ e] at hk
   exact h.new k q y hk hq hy hn1
 ·by_cases e : k = s
  ·subst e
   have hk : upd st.rows k (some r') k = none := hk
   rw [ai] at hk; cases hk
  ·have hk : upd st.rows s (some r') k = none := hk
   rw [au _ _ e] at hk
   exact h.fr k hk
theorem Rel.addImm (h : Rel C M ρ st a w) (arr : Array Value) (T : TypeId) (h1 : ∀ v ∈ arr, v.oneCell' = true) :
  Rel C (fun b o => if b = w.heap.size then arr[o]? else M b o) ρ st a (w.alloc (.cells arr T)) := by
 have hsame : ∀ b, b < w.heap.size → (w.alloc (.cells arr T)).heap[b]? = w.heap[b]? := fun b hb => by
  show (w.heap.push _)[b]? = _
  rw [Array.getElem?_push_lt hb, Array.getElem?_eq_getElem hb]
 have hle : M.le (fun b o => if b = w.heap.size then arr[o]? else M b o) := fun b o v hM => by
  have := gm (h.mr.imm b o v hM).1
  show (if b = w.heap.size then arr[o]? else M b o) = some v
  rw [if_neg (by omega)]; exact hM
 have hm := h.mr.same hsame
 refine ⟨fun t => (h.tm t).mono hle (Plc.le_refl _), h.N, h.df, ⟨fun s r hr hs => ?_, hm.inj, fun b o v hM => ?_, fun b o v s r x hM hr hs hx hn => ?_⟩, ?_, h.new, Imm.le_trans h.m0 hle, h.r0, fun b hb hD => ?_, h.fr⟩
 ·obtain ⟨x, hx, hX⟩ := hm.row s r hr hs
  exact ⟨x, hx, hX.mono hle (Plc.le_refl _)⟩
 ·have hM : (if b = w.heap.size then arr[o]? else M b o) = some v := hM
  split at hM
  ·rename_i e
   rw [e]
   obtain ⟨ho, hv⟩ := Array.getElem?_eq_some_iff.1 hM
   refine ⟨?_, sh (heap_alloc_new w _) (h1 v (by rw [← hv]; exact Array.getElem_mem ho))⟩
   rw [cell_of_row (w.alloc (.cells arr T)) w.heap.size o arr T (0, 0) (heap_alloc_new w _)]
   exact hM
  ·exact hm.imm b o v hM
 ·have hM : (if b = w.heap.size then arr[o]? else M b o) = some v := hM
  obtain ⟨x', hx', hX⟩ := h.mr.row s r hr hs
  rw [hx] at hx'; injection hx' with hx'; subst hx'
  split at hM
  ·rename_i e
   have := hX.lt hs hn
   omega
  ·exact h.mr.apt b o v s r x hM hr hs hx hn
 ·exact h.chg.trans (E := fun _ => False) ⟨rfl, rfl, rfl, by simp, fun b hb _ => hsame b hb⟩ (fun _ h => h.elim)
 ·have := h.chg.size
  have e : (fun o => if b = w.heap.size then arr[o]? else M b o) = M b := by
   funext o
   rw [if_neg (by omega)]
  rw [e]; exact h.mold b hb hD
theorem m6 {t : TypeId} {sz : Nat} {ag : Bool} (ht : szA P t = some (sz, ag)) {cs : List AV} {v : AV} (hp : ke ag sz cs = some v) (b off : Nat) (f : Nat → Value)
  (hf : ∀ (i : Nat) (c : AV), cs[i]? = some c → w.cell? ⟨b, off + i, none⟩ = some (f i) ∧ (f i).oneCell' = true ∧ VR M ρ c (f i)) :
  ∃ u, (Instr.loadAt t (.pointer (some ⟨b, off, none⟩))).run P w = .ok u w ∧ VR M ρ v u := by
 obtain ⟨hs, hb⟩ := pi ht w
 cases ag with
 | true =>
  simp only [ke] at hp
  split at hp
  ·rename_i r hr
   injection hp with hp; subst hp
   obtain ⟨rfl, hn⟩ := pD _ _ _ hr
   have hl := run_loadCells (P := P) w ⟨b, off, none⟩ sz f (fun j hj => by
     rw [dK]
     have hj' : j < cs.length := by omega
     exact (hf j cs[j] (List.getElem?_eq_getElem hj')).1)
   refine ⟨.agg ((List.range sz).map f).toArray, ?_, .agg _ _ (by simp; omega) (fun u hu => ?_) (fun i c u hc hu => ?_)⟩
   ·simp [Instr.loadAt, Instr.sureAddr, loadVar, hb, hs, hl]
   ·simp only [List.mem_toArray, List.mem_map, List.mem_range] at hu
    obtain ⟨j, hj, rfl⟩ := hu
    have hj' : j < cs.length := by omega
    exact (hf j cs[j] (List.getElem?_eq_getElem hj')).2.1
   ·rw [List.getElem?_take] at hc
    split at hc
    ·rename_i hi
     have := (hf i c hc).2.2
     have e : u = f i := by
      simp [List.getElem?_range hi] at hu
      exact hu.symm
     rw [e]; exact this
    ·cases hc
  ·cases hp
 | false =>
  simp only [ke] at hp
  split at hp
  ·rename_i c cs'
   injection hp with hp; subst hp
   obtain ⟨h1, h2, h3⟩ := hf 0 c rfl
   refine ⟨f 0, ?_, h3⟩
   simp only [Nat.add_zero] at h1
   simp [Instr.loadAt, Instr.sureAddr, loadVar, hb, h1]
  ·cases hp
theorem uZ (z : List AV) (hz : 0 < z.length) : ∀ (n i : Nat), i < n * z.length → (od n z)[i]? = z[i % z.length]?
 | 0, i, h => by omega
 | n + 1, i, h => by
  simp only [od]
  by_cases hi : i < z.length
  ·rw [List.getElem?_append_left hi, Nat.mod_eq_of_lt hi]
  ·have hm : (n + 1) * z.length = n * z.length + z.length := by rw [Nat.add_mul, Nat.one_mul]
   rw [List.getElem?_append_right (by omega), uZ z hz n (i - z.length) (by omega)]
   rw [show i % z.length = (i - z.length) % z.length from Nat.mod_eq_sub_mod (by omega)]
theorem jz (z : List AV) : ∀ n, (od n z).length = n * z.length
 | 0 => by simp [od]
 | n + 1 => by simp [od, jz z n, Nat.add_mul]; omega
theorem ww {z : List AV} {zv : Array Value} (hl : z.length = zv.size) (hz : 0 < z.length) (h1 : ∀ u ∈ zv, u.oneCell' = true) (hp : ∀ (i : Nat) (c : AV) (u : Value), z[i]? = some c → zv[i]? = some u → PV M c u) (n : Nat) (arr : Array Value)
  (ha : arr = (Array.range (n * zv.size)).map (zv[· % zv.size]!)) : (od n z).length = arr.size ∧ (∀ u ∈ arr, u.oneCell' = true) ∧ ∀ (i : Nat) (c : AV) (u : Value), (od n z)[i]? = some c → arr[i]? = some u → PV M c u := by
 subst ha
 refine ⟨by rw [jz, hl]; simp, fun u hu => ?_, fun i c u hc hu => ?_⟩
 ·obtain ⟨j, hj, rfl⟩ := Array.mem_map.1 hu
  have hm : j % zv.size < zv.size := Nat.mod_lt _ (by omega)
  simp [hm]
  exact h1 _ (Array.getElem_mem hm)
 ·have hi : i < n * zv.size := by
   rcases Nat.lt_or_ge i (n * zv.size) with h | h
   ·exact h
   ·rw [List.getElem?_eq_none (by rw [jz, hl]; exact h)] at hc; cases hc
  rw [uZ z hz n i (by rw [hl]; exact hi)] at hc
  have hm : i % zv.size < zv.size := Nat.mod_lt _ (by omega)
  refine hp (i % z.length) c u hc ?_
  rw [hl]
  simp [hi, hm] at hu
  rw [Array.getElem?_eq_getElem hm, hu]
def Hl (rows : Nat → Option Row) (site : Nat) : Option Row → (Nat → Option Row)
 | some r => upd rows site (some r)
 | none => rows
theorem K3 {o : Oper} {fz : Bool} {site : Nat} {v : AV} {nw : Option Row} (h : aMk P fz site st.ev st.rows o.op = some (v, nw)) (hR : Rel C M ρ st a w) (hsite : nw.isSome = true → st.rows site = none) (hd : ∀ k, o.dst = some k → k < C.N) :
  ∃ u M' ρ' w', (execOp a.eval o).run P w = .ok (.value u) w' ∧ Rel C M' ρ' (({ st with rows := Hl st.rows site nw } : St).put o.dst v) (a.put o.dst u) w' := by
 have lift : ∀ {s : Sem Value} {z : Value} {w' : World}, s.run P w = .ok z w' → (do pure (.value (← s)) : Sem Next).run P w = .ok (.value z) w' := fun hs => by simp [hs]
 obtain ⟨dst, op, type, pos, after, guard⟩ := o
 have hv := hR.ev
 cases op <;> simp only [aMk] at h <;> first | (cases h; done) | skip
 case load t x =>
  split at h
  ·rename_i sz ag ht
   split at h
   ·rename_i v' hl
    simp only [Option.some.injEq, Prod.mk.injEq] at h
    obtain ⟨rfl, rfl⟩ := h
    have key : ∃ u, (Instr.loadAt t (a.eval x)).run P w = .ok u w ∧ VR M ρ v' u := by
     have ex := hv x
     unfold kg at hl
     split at hl
     ·rename_i s off hx
      rw [hx] at ex
      obtain ⟨y, hy, hyn, ex⟩ := ex.ptr_inv
      rw [ex]
      split at hl
      ·rename_i T cs hrow
       obtain ⟨y', hy', hrow'⟩ := hR.mr.row s _ hrow rfl
       rw [hy] at hy'; injection hy' with hy'; subst hy'
       obtain ⟨h0, arr, h1, h2, h3, h4⟩ := hrow'
       refine m6 ht hl y.g off (fun i => arr.getD (off + i) undef) (fun i c hc => ?_)
       rw [List.getElem?_drop] at hc
       have hlt : off + i < arr.size := by
        rw [← h2]
        rcases Nat.lt_or_ge (off + i) cs.length with h' | h'
        ·exact h'
        ·rw [List.getElem?_eq_none h'] at hc; cases hc
       have e : arr.getD (off + i) undef = arr[off + i] := by simp [hlt]
       rw [e]
       exact ⟨by rw [cell_of_row w y.g (off + i) arr T (0, 0) h1]; simp [hlt], h3 _ (Array.getElem_mem hlt), h4 _ c _ hc (Array.getElem?_eq_getElem hlt)⟩
      ·rename_i E z cs hrow
       obtain ⟨y', hy', hrow'⟩ := hR.mr.row s _ hrow rfl
       rw [hy] at hy'; injection hy' with hy'; subst hy'
       rcases hrow' with ⟨hn1, _⟩ | ⟨h0, xs, h1, h2, h3, h4⟩
       ·rw [hyn] at hn1; cases hn1
       refine m6 ht hl y.g off (fun i => xs.getD (off + i) undef) (fun i c hc => ?_)
       rw [List.getElem?_drop] at hc
       have hlt : off + i < xs.length := by
        rw [← h2]
        rcases Nat.lt_or_ge (off + i) cs.length with h' | h'
        ·exact h'
        ·rw [List.getElem?_eq_none h'] at hc; cases hc
       have e : xs.getD (off + i) undef = xs[off + i] := by simp [hlt]
       rw [e]
       refine ⟨?_, h3 _ (List.getElem_mem hlt), .plain (h4 _ c _ hc (List.getElem?_eq_getElem hlt))⟩
       have := World.ownsRow.cells h1 (g := y.g) rfl (off + i) _ (List.getElem?_eq_getElem hlt)
       rwa [dK, Nat.zero_add] at this
      ·rename_i E z cs hrow
       obtain ⟨y', hy', hrow'⟩ := hR.mr.row s _ hrow rfl
       rw [hy] at hy'; injection hy' with hy'; subst hy'
       rcases hrow' with ⟨hn1, _⟩ | ⟨h0, xs, h1, h2, h3, h4⟩
       ·rw [hyn] at hn1; cases hn1
       refine m6 ht hl y.g off (fun i => xs.getD (off + i) undef) (fun i c hc => ?_)
       rw [List.getElem?_drop] at hc
       have hlt : off + i < xs.length := by
        rw [← h2]
        rcases Nat.lt_or_ge (off + i) cs.length with h' | h'
        ·exact h'
        ·rw [List.getElem?_eq_none h'] at hc; cases hc
       have e : xs.getD (off + i) undef = xs[off + i] := by simp [hlt]
       rw [e]
       refine ⟨?_, h3 _ (List.getElem_mem hlt), h4 _ c _ hc (List.getElem?_eq_getElem hlt)⟩
       have := World.ownsRow.cells h1 (g := y.g) rfl (off + i) _ (List.getElem?_eq_getElem hlt)
       rwa [dK, Nat.zero_add] at this
      ·cases hl
     ·rename_i cs hx
      rw [hx] at ex
      have ex := ex.eptr_inv
      generalize a.eval x = q at ex
      cases ex with
      | eptr _ b off f hm hh =>
       refine m6 ht hl b off f (fun i c hc => ?_)
       have := hR.mr.imm _ _ _ (hm i c hc)
       exact ⟨this.1, this.2.1, .plain (hh i c hc)⟩
     ·cases hl
    obtain ⟨u, hu, hU⟩ := key
    exact ⟨u, M, ρ, w, lift hu, hR.put hU hd⟩
   ·cases h
  ·cases h
 case alloc t =>
  split at h
  ·rename_i z hz
   simp only [Option.some.injEq, Prod.mk.injEq] at h
   obtain ⟨rfl, rfl⟩ := h
   obtain ⟨zv, z1, z2, z3, z4⟩ := jT hz
   have hn := hsite rfl
   have hA := hR.add (s := site) (r := .box t z) (x := ⟨w.heap.size, 0, 0, false⟩) (ob := .cells zv.cells t) hn rfl (fun _ => ⟨rfl, zv.cells, heap_alloc_new w _, z2, z3, fun i c v hc hv => .plain (z4 M i c v hc hv)⟩)
   refine ⟨.pointer (some ⟨w.heap.size, 0, none⟩), M, _, _, lift ?_, hA.put (.ptr site 0 ⟨w.heap.size, 0, 0, false⟩ (ai _ _ _) rfl) hd⟩
   simp [Instr.alloc, z1 w, newVar, newRow]
  ·cases h
 case box t x =>
  split at h
  ·rename_i hone
   simp only [Option.some.injEq, Prod.mk.injEq] at h
   obtain ⟨rfl, rfl⟩ := h
   have hn := hsite rfl
   obtain ⟨e1, e2, e3⟩ := (hv x).cells hone
   have hρ := hR.fr site hn
   have hA := hR.add (s := site) (r := .box t (st.ev x).cells) (x := ⟨w.heap.size, 0, 0, false⟩) (ob := .cells (a.eval x).cells t) hn rfl (fun _ => ⟨rfl, (a.eval x).cells, heap_alloc_new w _, e1, e2, fun i c v hc hv => (e3 i c v hc hv).mono (Imm.le_refl _) (Plc.le_upd hρ)⟩)
   refine ⟨.pointer (some ⟨w.heap.size, 0, none⟩), M, _, _, lift ?_, hA.put (.ptr site 0 ⟨w.heap.size, 0, 0, false⟩ (ai _ _ _) rfl) hd⟩
   simp [Instr.box, newVar, newRow]
  ·cases h
 case buildSlice t len ps =>
  split at h
  ·rename_i e sz he
   split at h
   ·rename_i z hz
    split at h
    ·rename_i hc
     obtain ⟨c1, c2, c3⟩ := hc
     split at h
     ·rename_i cs hf
      obtain ⟨inf, hu, hinf, hsz⟩ := m5 he
      obtain ⟨zv, z1, z2, z3, z4⟩ := jT hz
      obtain ⟨r1, r2, r3⟩ := ww (M := M) z2 (by omega) z3 (z4 M) len _ rfl
      obtain ⟨arr', f1, f2, f3, f4⟩ := tV (M := M) (ρ := ρ) (fun i => some (i * sz, sz)) (fun i => some (i * sz, sz)) (fun _ _ h => h) (gV st.ev ps.toList) (ps.toList.map fun p => (p.1, a.eval p.2)) (od len z) _ cs (by simp [mJ]) (fun i x y hx hy => by
        rw [pE] at hx
        rw [List.getElem?_map] at hy
        cases hp : ps.toList[i]? with
        | none => rw [hp] at hx; cases hx
        | some q =>
          rw [hp] at hx hy
          injection hx with hx; injection hy with hy
          subst hx hy
          exact ⟨rfl, hv _⟩) r1 r2 (fun i c u hc hu => .plain (r3 i c u hc hu)) hf
      have hcl : cs.length = len * sz := by
       have : ∀ (pp : List (Nat × AV)) (q r : List AV), nh (fun i => some (i * sz, sz)) q pp = some r → r.length = q.length := by
        intro pp
        induction pp with
        | nil => intro q r h; simp [nh] at h; subst h; rfl
        | cons p pp ih =>
         intro q r h
         obtain ⟨i, v⟩ := p
         simp only [nh] at h
         split at h
         ·rename_i hcond
          rw [ih _ _ h]
          simp; omega
         ·cases h
       rw [this _ _ _ hf, jz, c1]
      have hlen : len ≤ maxLen := by
       have : len * 1 ≤ len * sz := Nat.mul_le_mul_left _ c2
       simp only [maxLen]; omega
      have hown : (w.alloc (.cells arr' e)).ownsRow 0 e sz (.slice (some ⟨w.heap.size, 0, none⟩) len len) len arr'.toList := by
       have := World.ownsRow_lit (e := e) (size := sz) (base := 0) w arr' len (Nat.zero_le _) hlen (by omega)
       exact this
      have hrun : (Instr.buildSlice t len (ps.map fun x => (x.1, a.eval x.2))).run P w = .ok (.slice (some ⟨w.heap.size, 0, none⟩) len len) (w.alloc (.cells arr' e)) := by
       have hzs : zv.cells.size = sz := by omega
       have hnot : ¬ (2 ^ 24 < len * sz) := by omega
       have f1a : len * sz = 0 → Instr.fill (fun i => some (i * sz, sz)) #[] (ps.toList.map fun x => (x.1, a.eval x.2)) = some arr' := fun h0 => by
        rw [← f1, hzs, h0]
        congr 1
        exact (Array.eq_empty_of_size_eq_zero (by simp)).symm
       have f1b : Instr.fill (fun i => some (i * sz, sz)) ((Array.range (len * sz)).map (zv.cells[· % zv.cells.size]!)) (ps.toList.map fun x => (x.1, a.eval x.2)) = some arr' := by
        rw [← f1, hzs]
       by_cases h0 : len * sz = 0
       ·have hr0 : (Array.map (fun x => (default : Value)) (Array.range 0)) = #[] := Array.eq_empty_of_size_eq_zero (by simp)
        simp [Instr.buildSlice, run_underlying hu, sizeOf, typeInfo, hinf, hsz, h0, hr0, f1a h0, newRow]
       ·simp only [Nat.not_lt] at hnot
        have hnot' : ¬ (16777216 < len * sz) := by omega
        simp [Instr.buildSlice, run_underlying hu, sizeOf, typeInfo, hinf, hsz, h0, f1b, newRow, hnot', z1 w]
      split at h
      ·rename_i hpl
       have hcells : ∀ (i : Nat) (c : AV) (v : Value), cs[i]? = some c → arr'[i]? = some v → PV M c v := fun i c v hc hv =>
        (f4 i c v hc hv).pl (by
          have := List.all_eq_true.1 hpl c (List.mem_of_getElem? hc)
          exact this)
       have hcells : ∀ (i : Nat) (c : AV) (v : Value), (cs.map nz)[i]? = some c → arr'[i]? = some v → PV M c v := fun i c v hc hv => by
        rw [List.getElem?_map] at hc
        cases hq : cs[i]? with
        | none => rw [hq] at hc; cases hc
        | some c' =>
         rw [hq] at hc; injection hc with hc; subst hc
         exact (hcells i c' v hq hv).nz
       have f2 : (cs.map nz).length = arr'.size := by rw [List.length_map]; exact f2
       generalize cs.map nz = cs at h hcells f2
       split at h
       ·simp only [Option.some.injEq, Prod.mk.injEq] at h
        obtain ⟨rfl, rfl⟩ := h
        have hA := hR.addImm arr' e f3
        have hle : M.le (fun b o => if b = w.heap.size then arr'[o]? else M b o) := fun b o v hM => by
         have := gm (hR.mr.imm b o v hM).1
         show (if b = w.heap.size then arr'[o]? else M b o) = some v
         rw [if_neg (by omega)]; exact hM
        refine ⟨.slice (some ⟨w.heap.size, 0, none⟩) len len, _, ρ, _, lift ?_, hA.put (.plain (.sl cs len _ len w.heap.size 0 (fun i => arr'.getD i undef) (fun _ => rfl) (Nat.le_refl _) (fun i c hc => ?_) (fun i c hc => ?_))) hd⟩
        ·exact hrun
        ·have hi : i < arr'.size := by
          rw [← f2]
          rcases Nat.lt_or_ge i cs.length with h' | h'
          ·exact h'
          ·rw [List.getElem?_eq_none h'] at hc; cases hc
         show (if w.heap.size = w.heap.size then arr'[0 + i]? else M w.heap.size (0 + i)) = some (arr'.getD i undef)
         rw [if_pos rfl, Nat.zero_add]
         simp [hi]
        ·have hi : i < arr'.size := by
          rw [← f2]
          rcases Nat.lt_or_ge i cs.length with h' | h'
          ·exact h'
          ·rw [List.getElem?_eq_none h'] at hc; cases hc
         have := (hcells i c arr'[i] hc (Array.getElem?_eq_getElem hi)).mono hle
         simpa [hi] using this
       ·simp only [Option.some.injEq, Prod.mk.injEq] at h
        obtain ⟨rfl, rfl⟩ := h
        have hn := hsite rfl
        have hA := hR.add (s := site) (r := .row e sz cs) (x := ⟨w.heap.size, len, len, false⟩) (ob := .cells arr' e) hn rfl (fun _ => .inr ⟨rfl, arr'.toList, hown, by simpa using f2, fun v hv => f3 v (by simpa using hv), fun i c v hc hv => hcells i c v hc (by simpa using hv)⟩)
        exact ⟨.slice (some ⟨w.heap.size, 0, none⟩) len len, M, _, _, lift hrun, hA.put (.own site w.heap.size len len (ai _ _ _)) hd⟩
      ·split at h
       ·rename_i hpl hone
        simp only [Option.some.injEq, Prod.mk.injEq] at h
        obtain ⟨rfl, rfl⟩ := h
        have hn := hsite rfl
        have hρ := hR.fr site hn
        have hA := hR.add (s := site) (r := .tab e sz cs) (x := ⟨w.heap.size, len, len, false⟩) (ob := .cells arr' e) hn rfl (fun _ => .inr ⟨rfl, arr'.toList, hown, by simpa using f2, fun v hv => f3 v (by simpa using hv), fun i c v hc hv => (f4 i c v hc (by simpa using hv)).mono (Imm.le_refl _) (Plc.le_upd hρ)⟩)
        exact ⟨.slice (some ⟨w.heap.size, 0, none⟩) len len, M, _, _, lift hrun, hA.put (.own site w.heap.size len len (ai _ _ _)) hd⟩
       ·cases h
     ·cases h
    ·cases h
   ·cases h
  ·cases h
 case makeSlice t l c =>
  split at h
  ·rename_i e sz k n k' m he hl hc
   split at h
   ·rename_i z hz
    split at h
    ·rename_i hcd
     obtain ⟨c1, c2, c3, rfl, c4, c5⟩ := hcd
     simp only [Option.some.injEq, Prod.mk.injEq] at h
     obtain ⟨rfl, rfl⟩ := h
     have hn := hsite rfl
     obtain ⟨inf, hu, hinf, hsz⟩ := m5 he
     obtain ⟨zv, z1, z2, z3, z4⟩ := jT hz
     have el := hv l
     rw [hl] at el
     have el := el.int_inv
     have ec := hv c
     rw [hc] at ec
     have ec := ec.int_inv
     have hzv : inf.zero = some zv := by
      have := z1 w
      simp only [zeroValue, typeInfo, Sem.run_bind, run_program, Result.andThen_ok, hinf, Sem.run_pure] at this
      cases hzz : inf.zero with
      | none => rw [hzz] at this; simp [unsupported] at this
      | some q => rw [hzz] at this; simp at this; first | rw [this] | (rw [← this])
     have hby : eO P e = inf.bytes := by simp [eO, hinf]
     have hbytes : (inf.bytes : Int) * n ≤ 281474976710656 := by
      have h1 : (inf.bytes : Int) ≤ 1048576 := by omega
      have h2 : (inf.bytes : Int) * n ≤ 1048576 * 1048576 := Int.mul_le_mul h1 c5 c4 (by omega)
      omega
     have hrun := run_make (P := P) w t e inf zv hu hinf hzv k k' n n c4 (Int.le_refl _) hbytes (by omega)
     rw [hsz] at hrun
     obtain ⟨r1, r2, r3⟩ := ww (M := M) (arr := madeCells zv.cells (n.toNat * sz)) z2 (by omega) z3 (z4 M) n.toNat (by rw [← c1, z2]; rfl)
     have hown : (w.alloc (.cells (madeCells zv.cells (n.toNat * sz)) e)).ownsRow 0 e sz (.slice (some ⟨w.heap.size, 0, none⟩) n.toNat n.toNat) n.toNat (madeCells zv.cells (n.toNat * sz)).toList :=
      World.ownsRow_lit (e := e) (size := sz) (base := 0) w _ n.toNat (Nat.zero_le _) (by simp only [maxLen]; omega) (by rw [← r1, jz, c1])
     have hA := hR.add (s := site) (r := .row e sz (od n.toNat z)) (x := ⟨w.heap.size, n.toNat, n.toNat, false⟩) (ob := .cells (madeCells zv.cells (n.toNat * sz)) e) hn rfl (fun _ => .inr ⟨rfl, _, hown, by simpa using r1, fun v hv => r2 v (by simpa using hv), fun i c v hc hv => r3 i c v hc (by simpa using hv)⟩)
     exact ⟨.slice (some ⟨w.heap.size, 0, none⟩) n.toNat n.toNat, M, _, _, lift (by rw [el, ec]; exact hrun), hA.put (.own site w.heap.size n.toNat n.toNat (ai _ _ _)) hd⟩
    ·cases h
   ·cases h
  ·cases h
end
def tY (sz : Nat) (rows : Nat → Option Row) : AV → Option (List AV × Nat)
 | .nil => some ([], 0)
 | .sl ys m => if ys.length = m * sz then some (ys, m) else none
 | .own s m => match rows s with
  | some (.row _ z cs) => if z = sz then some (cs, m) else none
  | _ => none
 | _ => none
def AQ (rows : Nat → Option Row) (site : Nat) (e sz k n m : Nat) : Option Row → Option Row → Option (AV × (Nat → Option Row))
 | some (.tab e' z' cs), some (.tab e2 z2 ys) => if (e' = e ∧ z' = sz) ∧ (e2 = e ∧ z2 = sz) ∧ n + m ≤ 16777216 ∧ rows site = none then some (.own site (n + m), upd (upd rows k (some .gone)) site (some (.tab e sz (cs ++ ys)))) else none
 | _, _ => none
def pF (rows : Nat → Option Row) (site : Nat) (e sz : Nat) : AV → AV → Option (AV × (Nat → Option Row))
 | .own k n, .own j m => AQ rows site e sz k n m (rows k) (rows j)
 | _, _ => none
def dL (cs : List AV) (off : Nat) (vs : List AV) : List AV := cs.take off ++ vs ++ cs.drop (off + vs.length)
def aWr (P : Program) (site : Nat) (ρ : Operand → AV) (rows : Nat → Option Row) : Op → Option (AV × (Nat → Option Row))
 | .store t x v => match szA P t, ρ x with
  | some (sz, _), .ptr s off => match rows s with
   | some (.box T cs) => if (ρ v).cells.length = sz ∧ off + sz ≤ cs.length ∧ (ρ v).cells.all AV.one = true then some (.top, upd rows s (some (.box T (dL cs off (ρ v).cells)))) else none
   | some (.row E z cs) => if (ρ v).cells.length = sz ∧ off + sz ≤ cs.length ∧ (ρ v).cells.all AV.one = true ∧ (ρ v).cells.all AV.pl = true then some (.top, upd rows s (some (.row E z (dL cs off (ρ v).cells)))) else none
   | some (.tab E z cs) => if (ρ v).cells.length = sz ∧ off + sz ≤ cs.length ∧ (ρ v).cells.all AV.one = true then some (.top, upd rows s (some (.tab E z (dL cs off (ρ v).cells)))) else none
   | _ => none
  | _, _ => none
 | .call c => match c.callee, c.args.toList, c.argTypes.toList with
  | .builtin .append, [s, x], [t, t'] => if t = t' then (match elA P t with
   | some (e, sz) => match fG P e, tY sz rows (ρ x) with
     | some z, some (ys, m) => if z.length = sz ∧ 0 < sz ∧ eO P e ≤ 8388608 then (match ρ s with
       | .nil => if m ≤ 16777216 ∧ rows site = none then some (.own site m, upd rows site (some (.row e sz ys))) else none
       | .own k n => match rows k with
         | some (.row e' z' cs) => if e' = e ∧ z' = sz ∧ n + m ≤ 16777216 ∧ rows site = none then some (.own site (n + m), upd (upd rows k (some .gone)) site (some (.row e sz (cs ++ ys)))) else none
         | _ => none
       | _ => none) else none
     | some z, none => if z.length = sz ∧ 0 < sz ∧ eO P e ≤ 8388608 then pF rows site e sz (ρ s) (ρ x) else none
     | _, _ => none
   | none => none) else none
  | _, _, _ => none
 | _ => none
def Dp (n : Nat) (rows : Nat → Option Row) (s : Nat) : Option Row → Option (AV × (Nat → Option Row))
 | some (.row E sz cs) => some (.sl cs n, upd rows s (some .gone))
 | _ => none
def Dq (rows : Nat → Option Row) : AV → Option (AV × (Nat → Option Row))
 | .own s n => Dp n rows s (rows s)
 | _ => none
def Dr : Option (AV × (Nat → Option Row)) → Option (AV × (Nat → Option Row))
 | some (v, rows) => Dq rows v
 | none => none
def pG (x : Option (AV × (Nat → Option Row))) : Bool → Option (AV × (Nat → Option Row))
 | true => Dr x
 | false => x
theorem tZ {x : Option (AV × (Nat → Option Row))} {v : AV} {rows' : Nat → Option Row} (h : pG x true = some (v, rows')) : ∃ s n rows E sz cs, x = some (.own s n, rows) ∧ rows s = some (.row E sz cs) ∧ v = .sl cs n ∧ rows' = upd rows s (some .gone) := by
 simp only [pG] at h
 unfold Dr at h
 split at h
 ·rename_i v0 rows
  unfold Dq at h
  split at h
  ·rename_i s n
   unfold Dp at h
   split at h
   ·rename_i E sz cs hr
    simp only [Option.some.injEq, Prod.mk.injEq] at h
    exact ⟨s, n, rows, E, sz, cs, rfl, hr, h.1.symm, h.2.symm⟩
   ·cases h
  ·cases h
 ·cases h
section
variable {P : Program} {C : Ctx} {M : Imm} {ρ : Plc} {st : St} {a : Act} {w : World}
theorem Rel.addAt (h : Rel C M ρ st a w) {s : Nat} {r : Row} {x : At} (hn : st.rows s = none) (hR : r.solid = true → eZ M (upd ρ s (some x)) w r x)
  (hd : ∀ s' r' x', st.rows s' = some r' → r'.solid = true → ρ s' = some x' → x'.nl = false → x.nl = false → x'.g ≠ x.g) (ha : ∀ b o v, M b o = some v → x.nl = false → x.g ≠ b) (hw : x.nl = false → C.D x.g ∨ C.w0.heap.size ≤ x.g) :
  Rel C M (upd ρ s (some x)) { st with rows := upd st.rows s (some r) } a w := by
 have hρ := h.fr s hn
 refine ⟨fun t => (h.tm t).mono (Imm.le_refl _) (Plc.le_upd hρ), h.N, h.df, h.mr.add hn hρ hR hd ha, h.chg, fun k q y hk hs hy hn1 => ?_, h.m0, Plc.le_trans h.r0 (Plc.le_upd hρ), h.mold, fun k hk => ?_⟩
 ·by_cases e : k = s
  ·subst e
   rw [ai] at hy; injection hy with hy; subst hy
   exact hw hn1
  ·have hk : upd st.rows s (some r) k = some q := hk
   rw [au _ _ e] at hk hy
   exact h.new k q y hk hs hy hn1
 ·by_cases e : k = s
  ·subst e
   have hk : upd st.rows k (some r) k = none := hk
   rw [ai] at hk; cases hk
  ·have hk : upd st.rows s (some r) k = none := hk
   rw [au _ _ e] at hk ⊢
   exact h.fr k hk
theorem Rel.same_world (h : Rel C M ρ st a w) {w' : World} (hb : Below w.heap.size w w') : Rel C M ρ st a w' :=
 { h with mr := h.mr.same fun b hb' => hb.block b hb', chg := h.chg.trans (E := fun _ => False) (Below.chg hb _) (fun _ h => h.elim) }
theorem Rel.goneRow (h : Rel C M ρ st a w) {k : Nat} (hk : st.rows k ≠ none) : Rel C M ρ { st with rows := upd st.rows k (some .gone) } a w := by
 have key : ∀ j q, upd st.rows k (some .gone) j = some q → q.solid = true → st.rows j = some q := fun j q hj hq => by
  have hjk : j ≠ k := fun e => by rw [e, ai] at hj; injection hj with hj; subst hj; cases hq
  rwa [au _ _ hjk] at hj
 refine { h with mr := ⟨fun j q hj hq => h.mr.row j q (key j q hj hq) hq, fun j j' q q' y y' hj hj' hq hq' => h.mr.inj j j' q q' y y' (key j q hj hq) (key j' q' hj' hq') hq hq', h.mr.imm, fun b o v j q y hM hj hq => h.mr.apt b o v j q y hM (key j q hj hq) hq⟩, new := fun j q y hj hq => h.new j q y (key j q hj hq) hq, fr := fun j hj => h.fr j ?_ }
 have hj : upd st.rows k (some .gone) j = none := hj
 have hjk : j ≠ k := fun e => by rw [e, ai] at hj; cases hj
 rwa [au _ _ hjk] at hj
theorem Rel.addNil (h : Rel C M ρ st a w) {s : Nat} (E sz : Nat) (hn : st.rows s = none) :
  Rel C M (upd ρ s (some ⟨0, 0, 0, true⟩)) { st with rows := upd st.rows s (some (.row E sz [])) } a w :=
 h.addAt (x := ⟨0, 0, 0, true⟩) hn (fun _ => .inl ⟨rfl, rfl, rfl⟩) (fun _ _ _ _ _ _ _ h => by cases h) (fun _ _ _ _ h => by cases h) (fun h => by cases h)
theorem dt {α : Type} (xs vs : List α) (off i : Nat) (h : off + vs.length ≤ xs.length) : (xs.take off ++ vs ++ xs.drop (off + vs.length))[i]? = if off ≤ i ∧ i < off + vs.length then vs[i - off]? else xs[i]? := by
 by_cases h1 : i < off
 ·rw [if_neg (by omega), List.append_assoc, List.getElem?_append_left (by simp; omega), List.getElem?_take, if_pos h1]
 ·by_cases h2 : i < off + vs.length
  ·rw [if_pos (by omega), List.append_assoc, List.getElem?_append_right (by simp; omega), List.getElem?_append_left (by simp; omega)]
   congr 1
   simp; omega
  ·rw [if_neg (by omega), List.getElem?_append_right (by simp; omega), List.getElem?_drop]
   congr 1
   simp; omega
theorem pH {α : Type} {xs vs : List α} {off n : Nat} {p : α → Prop} (h1 : ∀ v ∈ xs, p v) (h2 : ∀ v ∈ vs, p v) : ∀ v ∈ xs.take off ++ vs ++ xs.drop n, p v := by
 intro v hv
 simp only [List.mem_append] at hv
 rcases hv with (hv | hv) | hv
 ·exact h1 v (List.mem_of_mem_take hv)
 ·exact h2 v hv
 ·exact h1 v (List.mem_of_mem_drop hv)
theorem qR {t : TypeId} {sz : Nat} {ag : Bool} (ht : szA P t = some (sz, ag)) {g off : Nat} {v : Value} {T : TypeId} {cur : Array Value} (hg : w.heap[g]? = some (.cells cur T (0, 0))) (hl : v.cells.size = sz) (hof : off + sz ≤ cur.size) (h1 : ∀ u ∈ v.cells, u.oneCell' = true) :
  (Instr.storeAt t (.pointer (some ⟨g, off, none⟩)) v).run P w = .ok () (w.setRow g (cur.toList.take off ++ v.cells.toList ++ cur.toList.drop (off + v.cells.toList.length)).toArray) := by
 have hs := (pi ht w).1
 have hst := run_storeCells_at (P := P) g off T v.cells.toList 0 cur w hg (by simp; omega) (fun u hu => h1 u (by simpa using hu))
 simp only [Nat.add_zero] at hst
 simp only [Instr.storeAt, Instr.sureAddr, storeVar, Sem.run_bind, Sem.run_pure, Result.andThen_ok, hs, hl]
 simp [hst]
theorem pI (g : Nat) (cs : Array Value) : Chg (fun b => b = g) w (w.setRow g cs) := ⟨rfl, rfl, rfl, by simp, fun k _ hk => setRow_other w g k cs hk⟩
theorem ua {o : Oper} {t : TypeId} {x v : Operand} (hop : o.op = .store t x v) {site : Nat} {u : AV} {rows' : Nat → Option Row} (h : aWr P site st.ev st.rows o.op = some (u, rows')) (hR : Rel C M ρ st a w) (hd : ∀ k, o.dst = some k → k < C.N) :
  ∃ w', (execOp a.eval o).run P w = .ok .skip w' ∧ Rel C M ρ (({ st with rows := rows' } : St).put o.dst u) (a.put o.dst undef) w' := by
 have lift : ∀ {s : Sem Unit} {w' : World}, s.run P w = .ok () w' → (do s; pure .skip : Sem Next).run P w = .ok .skip w' := fun hs => by simp [hs]
 have hv := hR.ev
 have hex : execOp a.eval o = (do Instr.storeAt t (a.eval x) (a.eval v); pure .skip) := by unfold execOp; simp only [hop]
 rw [hop] at h
 simp only [aWr] at h
 split at h
 ·rename_i sz ag s off ht hx
  have ex := hv x
  rw [hx] at ex
  obtain ⟨y, hy, hyn, ex⟩ := ex.ptr_inv
  split at h
  ·rename_i T cs hrow
   split at h
   ·rename_i hc
    obtain ⟨c1, c2, c3⟩ := hc
    simp only [Option.some.injEq, Prod.mk.injEq] at h
    obtain ⟨rfl, rfl⟩ := h
    obtain ⟨y', hy', hrow'⟩ := hR.mr.row s _ hrow rfl
    rw [hy] at hy'; injection hy' with hy'; subst hy'
    obtain ⟨h0, arr, h1, h2, h3, h4⟩ := hrow'
    obtain ⟨e1, e2, e3⟩ := (hv v).cells c3
    have hrun := qR (P := P) (v := a.eval v) (off := off) ht h1 (by omega) (by omega) e2
    refine ⟨_, by rw [hex, ex]; exact lift hrun, (hR.set (r' := .box T (dL cs off (st.ev v).cells)) hrow rfl hy hyn (pI _ _) (fun _ => ⟨hyn, _, setRow_heap w y.g arr _ T (0, 0) h1, ?_, ?_, ?_⟩)).put (.plain (.top _)) hd⟩
    ·simp [dL]; omega
    ·intro q hq
     exact pH (p := fun v => v.oneCell' = true) (xs := arr.toList) (vs := (a.eval v).cells.toList) (off := off) (n := off + (a.eval v).cells.toList.length) (fun u hu => h3 u (by simpa using hu)) (fun u hu => e2 u (by simpa using hu)) q (by simpa using hq)
    ·intro i c q hc hq
     simp only [List.getElem?_toArray] at hq
     unfold dL at hc
     rw [dt _ _ _ _ (by omega)] at hc
     rw [dt _ _ _ _ (by simp; omega)] at hq
     simp only [Array.length_toList, ← e1] at hq
     split at hc
     ·rename_i hi
      rw [if_pos hi] at hq
      exact e3 _ c q hc (by simpa using hq)
     ·rename_i hi
      rw [if_neg hi] at hq
      exact h4 _ c q hc (by simpa using hq)
   ·cases h
  ·rename_i E z cs hrow
   split at h
   ·rename_i hc
    obtain ⟨c1, c2, c3, c4⟩ := hc
    simp only [Option.some.injEq, Prod.mk.injEq] at h
    obtain ⟨rfl, rfl⟩ := h
    obtain ⟨y', hy', hrow'⟩ := hR.mr.row s _ hrow rfl
    rw [hy] at hy'; injection hy' with hy'; subst hy'
    rcases hrow' with ⟨hn1, _⟩ | ⟨h0, xs, h1, h2, h3, h4⟩
    ·rw [hyn] at hn1; cases hn1
    obtain ⟨e1, e2, e3⟩ := (hv v).cells c3
    rcases h1.2 with ⟨hn, _⟩ | ⟨g, cap, cur, hvv, hb, hg, hcap, hmax, hcur, htake⟩
    ·cases hn
    ·have hgg : g = y.g := by injection hvv with q1 _ _; injection q1 with q1; injection q1 with q1; exact q1.symm
     have hcc : cap = y.cap := by injection hvv with _ _ q3; exact q3.symm
     subst hgg hcc
     have hxl : xs.length = y.n * z := h1.1
     have hle : y.n * z ≤ cur.size := by rw [hcur]; exact Nat.mul_le_mul_right _ hcap
     have hrun := qR (P := P) (v := a.eval v) (off := off) ht hg (by omega) (by omega) e2
     refine ⟨_, by rw [hex, ex]; exact lift hrun, (hR.set (r' := .row E z (dL cs off (st.ev v).cells)) hrow rfl hy hyn (pI _ _) (fun _ => .inr ⟨hyn, xs.take off ++ (a.eval v).cells.toList ++ xs.drop (off + (a.eval v).cells.toList.length), ⟨?_, .inr ⟨y.g, y.cap, _, rfl, Nat.zero_le _, setRow_heap w y.g cur _ E (0, 0) hg, hcap, hmax, ?_, ?_⟩⟩, ?_, ?_, ?_⟩)).put (.plain (.top _)) hd⟩
     ·simp; omega
     ·simp; omega
     ·apply List.ext_getElem?
      intro i
      rw [List.getElem?_take]
      by_cases hi : i < y.n * z
      ·rw [if_pos hi, dt _ _ _ _ (by simp; omega)]
       rw [List.toList_toArray, dt _ _ _ _ (by simp; omega)]
       split
       ·rfl
       ·rw [← htake, List.getElem?_take, if_pos hi]
      ·rw [if_neg hi, List.getElem?_eq_none (by simp; omega)]
     ·simp [dL]; omega
     ·exact pH (p := fun v => v.oneCell' = true) (vs := (a.eval v).cells.toList) h3 (fun u hu => e2 u (by simpa using hu))
     ·intro i c q hc hq
      unfold dL at hc
      rw [dt _ _ _ _ (by omega)] at hc
      rw [dt _ _ _ _ (by simp; omega)] at hq
      simp only [Array.length_toList, ← e1] at hq
      split at hc
      ·rename_i hi
       rw [if_pos hi] at hq
       exact (e3 _ c q hc (by simpa using hq)).pl (List.all_eq_true.1 c4 c (List.mem_of_getElem? hc))
      ·rename_i hi
       rw [if_neg hi] at hq
       exact h4 _ c q hc (by simpa using hq)
   ·cases h
  ·rename_i E z cs hrow
   split at h
   ·rename_i hc
    obtain ⟨c1, c2, c3⟩ := hc
    simp only [Option.some.injEq, Prod.mk.injEq] at h
    obtain ⟨rfl, rfl⟩ := h
    obtain ⟨y', hy', hrow'⟩ := hR.mr.row s _ hrow rfl
    rw [hy] at hy'; injection hy' with hy'; subst hy'
    rcases hrow' with ⟨hn1, _⟩ | ⟨h0, xs, h1, h2, h3, h4⟩
    ·rw [hyn] at hn1; cases hn1
    obtain ⟨e1, e2, e3⟩ := (hv v).cells c3
    rcases h1.2 with ⟨hn, _⟩ | ⟨g, cap, cur, hvv, hb, hg, hcap, hmax, hcur, htake⟩
    ·cases hn
    ·have hgg : g = y.g := by injection hvv with q1 _ _; injection q1 with q1; injection q1 with q1; exact q1.symm
     have hcc : cap = y.cap := by injection hvv with _ _ q3; exact q3.symm
     subst hgg hcc
     have hxl : xs.length = y.n * z := h1.1
     have hle : y.n * z ≤ cur.size := by rw [hcur]; exact Nat.mul_le_mul_right _ hcap
     have hrun := qR (P := P) (v := a.eval v) (off := off) ht hg (by omega) (by omega) e2
     refine ⟨_, by rw [hex, ex]; exact lift hrun, (hR.set (r' := .tab E z (dL cs off (st.ev v).cells)) hrow rfl hy hyn (pI _ _) (fun _ => .inr ⟨hyn, xs.take off ++ (a.eval v).cells.toList ++ xs.drop (off + (a.eval v).cells.toList.length), ⟨?_, .inr ⟨y.g, y.cap, _, rfl, Nat.zero_le _, setRow_heap w y.g cur _ E (0, 0) hg, hcap, hmax, ?_, ?_⟩⟩, ?_, ?_, ?_⟩)).put (.plain (.top _)) hd⟩
     ·simp; omega
     ·simp; omega
     ·apply List.ext_getElem?
      intro i
      rw [List.getElem?_take]
      by_cases hi : i < y.n * z
      ·rw [if_pos hi, dt _ _ _ _ (by simp; omega)]
       rw [List.toList_toArray, dt _ _ _ _ (by simp; omega)]
       split
       ·rfl
       ·rw [← htake, List.getElem?_take, if_pos hi]
      ·rw [if_neg hi, List.getElem?_eq_none (by simp; omega)]
     ·simp [dL]; omega
     ·exact pH (p := fun v => v.oneCell' = true) (vs := (a.eval v).cells.toList) h3 (fun u hu => e2 u (by simpa using hu))
     ·intro i c q hc hq
      unfold dL at hc
      rw [dt _ _ _ _ (by omega)] at hc
      rw [dt _ _ _ _ (by simp; omega)] at hq
      simp only [Array.length_toList, ← e1] at hq
      split at hc
      ·rename_i hi
       rw [if_pos hi] at hq
       exact e3 _ c q hc (by simpa using hq)
      ·rename_i hi
       rw [if_neg hi] at hq
       exact h4 _ c q hc (by simpa using hq)
   ·cases h
  ·cases h
 ·cases h
theorem fH {t ty e : TypeId} {i : TypeInfo} (ht : P.underlying t = some (.slice e)) (hi : P.info? e = some i) {v : Value} {n : Nat} {xs : List Value} (hown : w.ownsRow 0 e i.size v n xs) (c : Nat) :
  (Builtin.append_ #[t, t] ty #[v, .slice none 0 c]).run P w = .ok v w := by
 rcases hown.2 with ⟨rfl, hl0⟩ | ⟨g, cap, cur, rfl, _, _, hnc, _⟩
 ·simp [Builtin.append_, run_underlying ht, sizeOf, typeInfo, hi, Builtin.lenOf, Builtin.firstCells]
 ·simp [Builtin.append_, run_underlying ht, sizeOf, typeInfo, hi, Builtin.lenOf, Builtin.firstCells, hnc, storeCells]
theorem IJ {sz : Nat} {x : AV} {u : Value} {ys : List AV} {m : Nat} (h : tY sz st.rows x = some (ys, m)) (hR : Rel C M ρ st a w) (hv : VR M ρ x u) :
  ∃ A c, u = .slice A m c ∧ ∃ news : List Value, ys.length = m * sz ∧ news.length = m * sz ∧ (0 < m → A ≠ none) ∧ (∀ ad, A = some ad → ∀ j q, news[j]? = some q → w.cell? (ad.add j) = some q) ∧ (∀ q ∈ news, q.oneCell' = true) ∧
   ∀ (i : Nat) (c : AV) (q : Value), ys[i]? = some c → news[i]? = some q → PV M c q := by
 unfold tY at h
 split at h
 ·simp only [Option.some.injEq, Prod.mk.injEq] at h
  obtain ⟨rfl, rfl⟩ := h
  obtain rfl := hv.nil_inv
  exact ⟨none, 0, rfl, [], by simp, by simp, by simp, by simp, by simp, by simp⟩
 ·rename_i ys' m'
  split at h
  ·rename_i hl
   simp only [Option.some.injEq, Prod.mk.injEq] at h
   obtain ⟨rfl, rfl⟩ := h
   have hv := hv.sl_inv
   cases hv with
   | sl _ _ A cap b off f hA hn hm hh =>
    refine ⟨A, cap, rfl, (List.range ys'.length).map f, hl, by simpa using hl, fun hp => by rw [hA hp]; simp, fun ad had j q hq => ?_, fun q hq => ?_, fun i c q hc hq => ?_⟩
    ·have hj : j < ys'.length := by
      rcases Nat.lt_or_ge j ys'.length with h' | h'
      ·exact h'
      ·rw [List.getElem?_eq_none (by simpa using h')] at hq; cases hq
     have hmp : 0 < m' := by
      rcases Nat.eq_zero_or_pos m' with h0 | h0
      ·rw [h0] at hl; omega
      ·exact h0
     rw [hA hmp] at had
     injection had with had; subst had
     rw [dK]
     have := (hR.mr.imm _ _ _ (hm j _ (List.getElem?_eq_getElem hj))).1
     rw [this]
     simp [List.getElem?_range hj] at hq
     rw [hq]
    ·simp only [List.mem_map, List.mem_range] at hq
     obtain ⟨j, hj, rfl⟩ := hq
     exact (hR.mr.imm _ _ _ (hm j _ (List.getElem?_eq_getElem hj))).2.1
    ·have hi : i < ys'.length := by
      rcases Nat.lt_or_ge i ys'.length with h' | h'
      ·exact h'
      ·rw [List.getElem?_eq_none h'] at hc; cases hc
     simp [List.getElem?_range hi] at hq
     rw [← hq]
     exact hh i c hc
  ·cases h
 ·rename_i s m'
  split at h
  ·rename_i E z cs hrow
   split at h
   ·rename_i hz
    simp only [Option.some.injEq, Prod.mk.injEq] at h
    obtain ⟨rfl, rfl⟩ := h
    subst hz
    obtain ⟨y, hy, hY⟩ := hR.mr.row s _ hrow rfl
    obtain ⟨g, cap, ⟨hs, rfl⟩ | ⟨hs, hn0, rfl⟩⟩ := hv.own_inv
    rotate_left
    ·subst hn0
     rw [hs] at hy; injection hy with hy; subst hy
     rcases hY with ⟨_, rfl, _⟩ | ⟨hn1, _⟩
     ·exact ⟨none, 0, rfl, [], by simp, by simp, by simp, by simp, by simp, by simp⟩
     ·cases hn1
    rw [hs] at hy; injection hy with hy; subst hy
    rcases hY with ⟨hn1, _⟩ | ⟨_, xs, h1, h2, h3, h4⟩
    ·cases hn1
    refine ⟨_, _, rfl, xs, by rw [h2]; exact h1.1, h1.1, fun _ => by simp, fun ad had j q hq => ?_, h3, h4⟩
    injection had with had; subst had
    exact World.ownsRow.cells h1 (g := g) rfl j q hq
   ·cases h
  ·cases h
 ·cases h
theorem rb {rows rows' : Nat → Option Row} {site e sz : Nat} {a b v : AV} (h : pF rows site e sz a b = some (v, rows')) :
  ∃ k n j m cs ys, a = .own k n ∧ b = .own j m ∧ rows k = some (.tab e sz cs) ∧ rows j = some (.tab e sz ys) ∧ n + m ≤ 16777216 ∧ rows site = none ∧ v = .own site (n + m) ∧ rows' = upd (upd rows k (some .gone)) site (some (.tab e sz (cs ++ ys))) := by
 unfold pF at h
 split at h
 case h_2 => cases h
 rename_i k n j m
 unfold AQ at h
 split at h
 case h_2 => cases h
 rename_i e0 z0 cs e' z' ys hrow hrow2
 split at h
 case isFalse => cases h
 rename_i hcc
 obtain ⟨⟨rfl, rfl⟩, ⟨rfl, rfl⟩, hnm, hsite⟩ := hcc
 simp only [Option.some.injEq, Prod.mk.injEq] at h
 exact ⟨k, n, j, m, cs, ys, rfl, rfl, hrow, hrow2, hnm, hsite, h.1.symm, h.2.symm⟩
theorem vf {o : Oper} {t e sz : Nat} {s x : Operand} {z : List AV} (hex : ∀ {r : Value} {w' : World}, (Builtin.append_ #[t, t] o.type #[a.eval s, a.eval x]).run P w = .ok r w' → (execOp a.eval o).run P w = .ok (.value r) w') (he : elA P t = some (e, sz)) (hz : fG P e = some z)
  (c1 : z.length = sz) (c2 : 0 < sz) (c3 : eO P e ≤ 8388608) {site : Nat} {u : AV} {rows' : Nat → Option Row} (h : pF st.rows site e sz (st.ev s) (st.ev x) = some (u, rows')) (hR : Rel C M ρ st a w) (hd : ∀ k, o.dst = some k → k < C.N) :
  ∃ z ρ' w', (execOp a.eval o).run P w = .ok (.value z) w' ∧ Rel C M ρ' (({ st with rows := rows' } : St).put o.dst u) (a.put o.dst z) w' := by
 have hv := hR.ev
 unfold pF at h
 split at h
 case h_2 => cases h
 rename_i k n j m hs hx
 unfold AQ at h
 split at h
 case h_2 => cases h
 rename_i e0 z0 cs e' z' ys hrow hrow2
 split at h
 case isFalse => cases h
 rename_i hcc
 obtain ⟨⟨rfl, rfl⟩, ⟨rfl, rfl⟩, hnm, hsite⟩ := hcc
 simp only [Option.some.injEq, Prod.mk.injEq] at h
 obtain ⟨rfl, rfl⟩ := h
 obtain ⟨inf, hu, hinf, hsz⟩ := m5 he
 obtain ⟨zv, z1, z2, z3, z4⟩ := jT hz
 have hzv : inf.zero = some zv := by
  have := z1 w
  simp only [zeroValue, typeInfo, Sem.run_bind, run_program, Result.andThen_ok, hinf, Sem.run_pure] at this
  cases hzz : inf.zero with
  | none => rw [hzz] at this; simp [unsupported] at this
  | some q => rw [hzz] at this; simp at this; first | rw [this] | (rw [← this])
 have hby : eO P e' = inf.bytes := by simp [eO, hinf]
 -- the source
 have es := hv s
 rw [hs] at es
 have ex := hv x
 rw [hx] at ex
 obtain ⟨A, cx, hxv, news, l1, l2, l3, l4, l5, l6⟩ : ∃ A c, a.eval x = .slice A m c ∧ ∃ news : List Value, ys.length = m * z' ∧ news.length = m * z' ∧ (0 < m → A ≠ none) ∧ (∀ ad, A = some ad → ∀ j q, news[j]? = some q → w.cell? (ad.add j) = some q) ∧ (∀ q ∈ news, q.oneCell' = true) ∧
   ∀ (i : Nat) (c : AV) (q : Value), ys[i]? = some c → news[i]? = some q → VR M ρ c q := by
  obtain ⟨y, hy, hY⟩ := hR.mr.row j _ hrow2 rfl
  obtain ⟨g, cap, ⟨hj, e1⟩ | ⟨hj, hn0, e1⟩⟩ := ex.own_inv
  ·rw [hj] at hy; injection hy with hy; subst hy
   rcases hY with ⟨hn1, _⟩ | ⟨_, xs, h1, h2, h3, h4⟩
   ·cases hn1
   refine ⟨_, _, e1, xs, by rw [h2]; exact h1.1, h1.1, fun _ => by simp, fun ad had j q hq => ?_, h3, h4⟩
   injection had with had; subst had
   exact World.ownsRow.cells h1 (g := g) rfl j q hq
  ·subst hn0
   rw [hj] at hy; injection hy with hy; subst hy
   rcases hY with ⟨_, rfl, _⟩ | ⟨hn1, _⟩
   ·exact ⟨none, 0, e1, [], by simp, by simp, by simp, by simp, by simp, by simp⟩
   ·cases hn1
 have main : ∀ (v : Value) (n : Nat) (xs : List Value), a.eval s = v → w.ownsRow 0 e' z' v n xs → n + m ≤ 16777216 → (v ≠ .slice none 0 0 ∨ 0 < m) →
   ∃ g cap w', (Builtin.append_ #[t, t] o.type #[a.eval s, a.eval x]).run P w = .ok (.slice (some ⟨g, 0, none⟩) (n + m) cap) w' ∧ w'.ownsRow 0 e' z' (.slice (some ⟨g, 0, none⟩) (n + m) cap) (n + m) (xs ++ news) ∧ w.grownBy w' v.ownBlock ∧ (some g = v.ownBlock ∨ g = w.heap.size) := by
  intro v n xs hsv hown hnm hne
  have form : ∀ {w' : World} {v' : Value}, w'.ownsRow 0 e' z' v' (n + m) (xs ++ news) → v' ≠ .slice none 0 0 → ∃ g cap, v' = .slice (some ⟨g, 0, none⟩) (n + m) cap := fun ho hne => by
   rcases ho.2 with ⟨hv, _⟩ | ⟨g, cap, cur, hv, _⟩
   ·exact absurd hv hne
   ·exact ⟨g, cap, hv⟩
  cases A with
  | none =>
   have hm0 : m = 0 := by
    rcases Nat.eq_zero_or_pos m with h0 | h0
    ·exact h0
    ·exact absurd rfl (l3 h0)
   subst hm0
   have hnn : news = [] := List.eq_nil_of_length_eq_zero (by simpa using l2)
   subst hnn
   have hrun := fH (P := P) (w := w) (ty := o.type) (c := cx) hu hinf (by rw [hsz]; exact hown)
   have hown' : w.ownsRow 0 e' z' v (n + 0) (xs ++ []) := by simpa using hown
   obtain ⟨g, cap, rfl⟩ := form hown' (by rcases hne with h' | h'; exact h'; omega)
   exact ⟨g, cap, w, by rw [hsv, hxv]; exact hrun, hown', ⟨rfl, rfl, rfl, Nat.le_refl _, fun _ _ _ => rfl⟩, .inl rfl⟩
  | some ad =>
   have hbytes : (n + m) * inf.bytes ≤ 140737488355328 := by
    have h1 : inf.bytes ≤ 8388608 := by omega
    have h2 : (n + m) * inf.bytes ≤ 16777216 * 8388608 := Nat.mul_le_mul hnm h1
    omega
   obtain ⟨v', w', r1, r2, r3, r4, r5⟩ := run_append_own_at (P := P) w 0 t o.type e' inf zv z' inf.bytes hu hinf hzv hsz rfl (by omega) c2 v n xs hown ad m cx news l2 (l4 ad rfl) l5 (by simp only [maxLen]; omega) hbytes (Nat.zero_le _)
   have hnn : v' ≠ .slice none 0 0 := fun e => by
    obtain ⟨q1, q2⟩ := r4.1 e
    rcases hne with h' | h'
    ·exact h' q1
    ·omega
   obtain ⟨g, cap, rfl⟩ := form r2 hnn
   refine ⟨g, cap, w', by rw [hsv, hxv]; exact r1, r2, r3, ?_⟩
   rcases r5 with h' | h'
   ·exact .inl h'
   ·right; simpa [Value.ownBlock] using h'
 have hρ := hR.fr site hsite
 have cat : ∀ (x' : At) (cs : List AV) (xs : List Value), cs.length = xs.length → (∀ (i : Nat) (c : AV) (q : Value), cs[i]? = some c → xs[i]? = some q → VR M ρ c q) →
   ∀ (i : Nat) (c : AV) (q : Value), (cs ++ ys)[i]? = some c → (xs ++ news)[i]? = some q → VR M (upd ρ site (some x')) c q := by
  intro x' cs xs hl hp i c q hc hq
  refine VR.mono (Imm.le_refl _) (Plc.le_upd hρ) ?_
  by_cases hi : i < cs.length
  ·rw [List.getElem?_append_left hi] at hc
   rw [List.getElem?_append_left (by omega)] at hq
   exact hp i c q hc hq
  ·rw [List.getElem?_append_right (by omega)] at hc
   rw [List.getElem?_append_right (by omega), ← hl] at hq
   exact l6 _ c q hc hq
 obtain ⟨y, hy, hY⟩ := hR.mr.row k _ hrow rfl
 have hks : k ≠ site := fun e => by rw [e, hsite] at hrow; cases hrow
 obtain ⟨g0, cap0, ⟨hk, es1⟩ | ⟨hk, hn0, es1⟩⟩ := es.own_inv
 rotate_left
 ·-- a nil slice of the call's own
  subst hn0
  rw [hk] at hy; injection hy with hy; subst hy
  rcases hY with ⟨_, rfl, _⟩ | ⟨hn1, _⟩
  rotate_left
  ·cases hn1
  have hgone := hR.goneRow (k := k) (by rw [hrow]; simp)
  have hsite' : ({ st with rows := upd st.rows k (some .gone) } : St).rows site = none := by
   show upd st.rows k (some .gone) site = none
   rw [au _ _ (Ne.symm hks)]; exact hsite
  simp only [Nat.zero_add] at hnm ⊢
  by_cases hm : m = 0
  ·subst hm
   have hnn : news = [] := List.eq_nil_of_length_eq_zero (by simpa using l2)
   subst hnn
   have hyy : ys = [] := List.eq_nil_of_length_eq_zero (by simpa using l1)
   subst hyy
   have nilT : ∀ {a' : Act} {w' : World}, Rel C M ρ { st with rows := upd st.rows k (some .gone) } a' w' → Rel C M (upd ρ site (some ⟨0, 0, 0, true⟩)) { st with rows := upd (upd st.rows k (some .gone)) site (some (.tab e' z' ([] ++ []))) } a' w' := fun h' =>
    h'.addAt (x := ⟨0, 0, 0, true⟩) hsite' (fun _ => .inl ⟨rfl, rfl, rfl⟩) (fun _ _ _ _ _ _ _ h => by cases h) (fun _ _ _ _ h => by cases h) (fun h => by cases h)
   cases A with
   | none =>
    have hrun := fH (P := P) (w := w) (ty := o.type) (c := cx) hu hinf (w.ownsRow_nil 0 e' inf.size)
    exact ⟨_, _, w, hex (by rw [es1, hxv]; exact hrun), (nilT hgone).put (.ownl site 0 0 (ai _ _ _)) hd⟩
   | some ad =>
    obtain ⟨v', w', r1, r2, r3, r4, r5⟩ := run_append_own_at (P := P) w 0 t o.type e' inf zv z' inf.bytes hu hinf hzv hsz rfl (by omega) c2 (.slice none 0 0) 0 [] (w.ownsRow_nil 0 e' z') ad 0 cx [] (by simp) (by simp) (by simp) (by simp [maxLen]) (by simp) (Nat.zero_le _)
    have := r4.2 ⟨rfl, rfl⟩
    subst this
    have hR' := Rel.same_world hgone ⟨r3.os, r3.tape, r3.output, r3.size, fun b hb => r3.block b hb (by simp [Value.ownBlock])⟩
    exact ⟨_, _, w', hex (by rw [es1, hxv]; exact r1), (nilT hR').put (.ownl site 0 0 (ai _ _ _)) hd⟩
  ·obtain ⟨g, cap, w', r1, r2, r3, r4⟩ := main (.slice none 0 0) 0 [] es1 (w.ownsRow_nil 0 e' z') (by omega) (.inr (by omega))
   have hg : g = w.heap.size := by
    rcases r4 with h' | h'
    ·simp [Value.ownBlock] at h'
    ·exact h'
   have hR' := Rel.same_world hgone ⟨r3.os, r3.tape, r3.output, r3.size, fun b hb => r3.block b hb (by simp [Value.ownBlock])⟩
   simp only [Nat.zero_add, List.nil_append] at r1 r2
   have hA := hR'.addAt (s := site) (r := .tab e' z' ([] ++ ys)) (x := ⟨g, m, cap, false⟩) hsite' (fun _ => .inr ⟨rfl, [] ++ news, r2, by simp; omega, l5, cat _ [] [] rfl (fun i c q hc => by simp at hc)⟩) (fun k q y hk hs hy hn1 _ => by
       obtain ⟨y', hy', hY⟩ := hgone.mr.row k q hk hs
       rw [hy] at hy'; injection hy' with hy'; subst hy'
       have := hY.lt hs hn1
       simp only; omega) (fun b o v hM _ => by
       have := gm (hR.mr.imm b o v hM).1
       simp only; omega) (fun _ => .inr (by simp only; rw [hg]; exact hR.chg.size))
   exact ⟨_, _, w', hex r1, hA.put (.own site g m cap (ai _ _ _)) hd⟩
 rw [hk] at hy; injection hy with hy; subst hy
 rcases hY with ⟨hn1, _⟩ | ⟨_, xs, h1, h2, h3, h4⟩
 ·cases hn1
 simp only at h1
 obtain ⟨g, cap, w', r1, r2, r3, r4⟩ := main _ n xs es1 h1 hnm (.inl (by simp))
 have hgone := hR.set (r' := .gone) (w' := w') hrow rfl hk rfl ⟨r3.os, r3.tape, r3.output, r3.size, fun b hb hne => r3.block b hb (by simp [Value.ownBlock]; exact fun e => hne e)⟩ (fun h => by cases h)
 have hlt0 := (World.ownsRow.lt (h := h1) g0 rfl).2
 have hgr : g = g0 ∨ g = w.heap.size := by
  rcases r4 with h' | h'
  ·left; simpa [Value.ownBlock] using h'
  ·exact .inr h'
 have hA := hgone.addAt (s := site) (r := .tab e' z' (cs ++ ys)) (x := ⟨g, n + m, cap, false⟩) (by show upd st.rows k (some .gone) site = none; rw [au _ _ (Ne.symm hks)]; exact hsite)
  (fun _ => .inr ⟨rfl, xs ++ news, r2, by simp; omega, fun v hv => by
    rcases List.mem_append.1 hv with hv | hv
    · exact h3 v hv
    · exact l5 v hv, cat _ cs xs h2 h4⟩) (fun j q y hj hq hy hn1 _ => by
    have hj : upd st.rows k (some .gone) j = some q := hj
    have hjk : j ≠ k := fun e => by rw [e, ai] at hj; injection hj with hj; subst hj; cases hq
    rw [au _ _ hjk] at hj
    obtain ⟨y', hy', hY⟩ := hR.mr.row j q hj hq
    rw [hy] at hy'; injection hy' with hy'; subst hy'
    have hl := hY.lt hq hn1
    have hne := hR.mr.inj j k q _ y _ hj hrow hq rfl hy hk hjk hn1 rfl
    simp only at hne ⊢
    rcases hgr with h' | h'
    · rw [h']; exact hne
    · omega) (fun b o v hM _ => by
    have hl := gm (hR.mr.imm b o v hM).1
    have hne := hR.mr.apt b o v k _ _ hM hrow rfl hk rfl
    simp only at hne ⊢
    rcases hgr with h' | h'
    · rw [h']; exact hne
    · omega) (fun _ => by
    simp only
    rcases hgr with h' | h'
    · have := hR.new k _ _ hrow rfl hk rfl
      rw [h']; exact this
    · right; rw [h']; exact hR.chg.size)
 exact ⟨_, _, w', hex r1, hA.put (.own site g (n + m) cap (ai _ _ _)) hd⟩
theorem so {o : Oper} {c : Call} (hop : o.op = .call c) {site : Nat} {u : AV} {rows' : Nat → Option Row} (h : aWr P site st.ev st.rows o.op = some (u, rows')) (hR : Rel C M ρ st a w) (hd : ∀ k, o.dst = some k → k < C.N) :
  ∃ z ρ' w', (execOp a.eval o).run P w = .ok (.value z) w' ∧ Rel C M ρ' (({ st with rows := rows' } : St).put o.dst u) (a.put o.dst z) w' := by
 rw [hop] at h
 simp only [aWr] at h
 split at h
 case h_2 => cases h
 rename_i s x t t' hcal hargs htys
 split at h
 case isFalse => cases h
 rename_i htt
 subst htt
 have hcargs : c.args = #[s, x] := by rw [← Array.toArray_toList (xs := c.args), hargs]
 have hctys : c.argTypes = #[t, t] := by rw [← Array.toArray_toList (xs := c.argTypes), htys]
 have hex : ∀ {r : Value} {w' : World}, (Builtin.append_ #[t, t] o.type #[a.eval s, a.eval x]).run P w = .ok r w' → (execOp a.eval o).run P w = .ok (.value r) w' := fun hs => by
  unfold execOp
  simp only [hop, resolve, hcal, hcargs, hctys, invoke, builtin, Sem.run_bind, Sem.run_pure, Result.andThen_ok, List.map_toArray, List.map_cons, List.map_nil, hs]
 have hv := hR.ev
 split at h
 ·rename_i e sz he
  split at h
  ·rename_i z ys m hz hsrc
   split at h
   ·rename_i hc
    obtain ⟨c1, c2, c3⟩ := hc
    obtain ⟨inf, hu, hinf, hsz⟩ := m5 he
    obtain ⟨zv, z1, z2, z3, z4⟩ := jT hz
    have hzv : inf.zero = some zv := by
     have := z1 w
     simp only [zeroValue, typeInfo, Sem.run_bind, run_program, Result.andThen_ok, hinf, Sem.run_pure] at this
     cases hzz : inf.zero with
     | none => rw [hzz] at this; simp [unsupported] at this
     | some q => rw [hzz] at this; simp at this; first | rw [this] | (rw [← this])
    have hby : eO P e = inf.bytes := by simp [eO, hinf]
    obtain ⟨A, cx, hxv, news, l1, l2, l3, l4, l5, l6⟩ := IJ hsrc hR (hv x)
    -- what an append gives
    have main : ∀ (v : Value) (n : Nat) (xs : List Value), a.eval s = v → w.ownsRow 0 e sz v n xs → n + m ≤ 16777216 → (v ≠ .slice none 0 0 ∨ 0 < m) →
      ∃ g cap w', (Builtin.append_ #[t, t] o.type #[a.eval s, a.eval x]).run P w = .ok (.slice (some ⟨g, 0, none⟩) (n + m) cap) w' ∧ w'.ownsRow 0 e sz (.slice (some ⟨g, 0, none⟩) (n + m) cap) (n + m) (xs ++ news) ∧ w.grownBy w' v.ownBlock ∧ (some g = v.ownBlock ∨ g = w.heap.size) := by
     intro v n xs hsv hown hnm hne
     have form : ∀ {w' : World} {v' : Value}, w'.ownsRow 0 e sz v' (n + m) (xs ++ news) → v' ≠ .slice none 0 0 → ∃ g cap, v' = .slice (some ⟨g, 0, none⟩) (n + m) cap := fun ho hne => by
      rcases ho.2 with ⟨hv, _⟩ | ⟨g, cap, cur, hv, _⟩
      ·exact absurd hv hne
      ·exact ⟨g, cap, hv⟩
     cases A with
     | none =>
      have hm0 : m = 0 := by
       rcases Nat.eq_zero_or_pos m with h0 | h0
       ·exact h0
       ·exact absurd rfl (l3 h0)
      subst hm0
      have hnn : news = [] := List.eq_nil_of_length_eq_zero (by simpa using l2)
      subst hnn
      have hrun := fH (P := P) (w := w) (ty := o.type) (c := cx) hu hinf (by rw [hsz]; exact hown)
      have hown' : w.ownsRow 0 e sz v (n + 0) (xs ++ []) := by simpa using hown
      obtain ⟨g, cap, rfl⟩ := form hown' (by rcases hne with h' | h'; exact h'; omega)
      exact ⟨g, cap, w, by rw [hsv, hxv]; exact hrun, hown', ⟨rfl, rfl, rfl, Nat.le_refl _, fun _ _ _ => rfl⟩, .inl rfl⟩
     | some ad =>
      have hbytes : (n + m) * inf.bytes ≤ 140737488355328 := by
       have h1 : inf.bytes ≤ 8388608 := by omega
       have h2 : (n + m) * inf.bytes ≤ 16777216 * 8388608 := Nat.mul_le_mul hnm h1
       omega
      obtain ⟨v', w', r1, r2, r3, r4, r5⟩ := run_append_own_at (P := P) w 0 t o.type e inf zv sz inf.bytes hu hinf hzv hsz rfl (by omega) c2 v n xs hown ad m cx news l2 (l4 ad rfl) l5 (by simp only [maxLen]; omega) hbytes (Nat.zero_le _)
      have hnn : v' ≠ .slice none 0 0 := fun e => by
       obtain ⟨q1, q2⟩ := r4.1 e
       rcases hne with h' | h'
       ·exact h' q1
       ·omega
      obtain ⟨g, cap, rfl⟩ := form r2 hnn
      refine ⟨g, cap, w', by rw [hsv, hxv]; exact r1, r2, r3, ?_⟩
      rcases r5 with h' | h'
      ·exact .inl h'
      ·right; simpa [Value.ownBlock] using h'
    have cat : ∀ (cs : List AV) (xs : List Value), cs.length = xs.length → (∀ (i : Nat) (c : AV) (q : Value), cs[i]? = some c → xs[i]? = some q → PV M c q) →
      ∀ (i : Nat) (c : AV) (q : Value), (cs ++ ys)[i]? = some c → (xs ++ news)[i]? = some q → PV M c q := by
     intro cs xs hl hp i c q hc hq
     by_cases hi : i < cs.length
     ·rw [List.getElem?_append_left hi] at hc
      rw [List.getElem?_append_left (by omega)] at hq
      exact hp i c q hc hq
     ·rw [List.getElem?_append_right (by omega)] at hc
      rw [List.getElem?_append_right (by omega), ← hl] at hq
      exact l6 _ c q hc hq
    split at h
    ·rename_i hs
     have es := hv s
     rw [hs] at es
     have es := es.nil_inv
     split at h
     ·rename_i hm2
      obtain ⟨hm2, hsite⟩ := hm2
      simp only [Option.some.injEq, Prod.mk.injEq] at h
      obtain ⟨rfl, rfl⟩ := h
      by_cases hm : m = 0
      ·subst hm
       have hnn : news = [] := List.eq_nil_of_length_eq_zero (by simpa using l2)
       subst hnn
       have hyy : ys = [] := List.eq_nil_of_length_eq_zero (by simpa using l1)
       subst hyy
       cases A with
       | none =>
        have hrun := fH (P := P) (w := w) (ty := o.type) (c := cx) hu hinf (w.ownsRow_nil 0 e inf.size)
        exact ⟨_, _, w, hex (by rw [es, hxv]; exact hrun), (hR.addNil e sz hsite).put (.ownl site 0 0 (ai _ _ _)) hd⟩
       | some ad =>
        obtain ⟨v', w', r1, r2, r3, r4, r5⟩ := run_append_own_at (P := P) w 0 t o.type e inf zv sz inf.bytes hu hinf hzv hsz rfl (by omega) c2 (.slice none 0 0) 0 [] (w.ownsRow_nil 0 e sz) ad 0 cx [] (by simp) (by simp) (by simp) (by simp [maxLen]) (by simp) (Nat.zero_le _)
        have := r4.2 ⟨rfl, rfl⟩
        subst this
        have hR' : Rel C M ρ st a w' := { hR with mr := hR.mr.same fun b hb => r3.block b hb (by simp [Value.ownBlock]), chg := hR.chg.trans (E := fun _ => False) ⟨r3.os, r3.tape, r3.output, r3.size, fun b hb _ => r3.block b hb (by simp [Value.ownBlock])⟩ (fun _ h => h.elim) }
        exact ⟨_, _, w', hex (by rw [es, hxv]; exact r1), (hR'.addNil e sz hsite).put (.ownl site 0 0 (ai _ _ _)) hd⟩
      ·obtain ⟨g, cap, w', r1, r2, r3, r4⟩ := main (.slice none 0 0) 0 [] es (w.ownsRow_nil 0 e sz) (by omega) (.inr (by omega))
       have hg : g = w.heap.size := by
        rcases r4 with h' | h'
        ·simp [Value.ownBlock] at h'
        ·exact h'
       have hsame : ∀ b, b < w.heap.size → w'.heap[b]? = w.heap[b]? := fun b hb => r3.block b hb (by simp [Value.ownBlock])
       have hR' : Rel C M ρ st a w' := { hR with mr := hR.mr.same hsame, chg := hR.chg.trans (E := fun _ => False) ⟨r3.os, r3.tape, r3.output, r3.size, fun b hb _ => hsame b hb⟩ (fun _ h => h.elim) }
       simp only [Nat.zero_add, List.nil_append] at r1 r2
       have hA := hR'.addAt (s := site) (r := .row e sz ys) (x := ⟨g, m, cap, false⟩) hsite (fun _ => .inr ⟨rfl, news, r2, by omega, l5, l6⟩) (fun k q y hk hs hy hn1 _ => by
           obtain ⟨y', hy', hY⟩ := hR.mr.row k q hk hs
           rw [hy] at hy'; injection hy' with hy'; subst hy'
           have := hY.lt hs hn1
           simp only; omega) (fun b o v hM _ => by
           have := gm (hR.mr.imm b o v hM).1
           simp only; omega) (fun _ => .inr (by simp only; rw [hg]; exact hR.chg.size))
       exact ⟨_, _, w', hex r1, hA.put (.own site g m cap (ai _ _ _)) hd⟩
     ·cases h
    ·rename_i k n hs
     split at h
     ·rename_i e' z' cs hrow
      split at h
      ·rename_i hcc
       obtain ⟨rfl, rfl, hnm, hsite⟩ := hcc
       simp only [Option.some.injEq, Prod.mk.injEq] at h
       obtain ⟨rfl, rfl⟩ := h
       have es := hv s
       rw [hs] at es
       obtain ⟨y, hy, hY⟩ := hR.mr.row k _ hrow rfl
       have hks : k ≠ site := fun e => by rw [e, hsite] at hrow; cases hrow
       obtain ⟨g0, cap0, ⟨hk, es1⟩ | ⟨hk, hn0, es1⟩⟩ := es.own_inv
       rotate_left
       ·-- a nil slice of the call's own
        subst hn0
        rw [hk] at hy; injection hy with hy; subst hy
        rcases hY with ⟨_, rfl, _⟩ | ⟨hn1, _⟩
        rotate_left
        ·cases hn1
        have hgone := hR.goneRow (k := k) (by rw [hrow]; simp)
        have hsite' : ({ st with rows := upd st.rows k (some .gone) } : St).rows site = none := by
         show upd st.rows k (some .gone) site = none
         rw [au _ _ (Ne.symm hks)]; exact hsite
        simp only [Nat.zero_add] at hnm ⊢
        by_cases hm : m = 0
        ·subst hm
         have hnn : news = [] := List.eq_nil_of_length_eq_zero (by simpa using l2)
         subst hnn
         have hyy : ys = [] := List.eq_nil_of_length_eq_zero (by simpa using l1)
         subst hyy
         cases A with
         | none =>
          have hrun := fH (P := P) (w := w) (ty := o.type) (c := cx) hu hinf (w.ownsRow_nil 0 e' inf.size)
          exact ⟨_, _, w, hex (by rw [es1, hxv]; exact hrun), (hgone.addNil e' z' hsite').put (.ownl site 0 0 (ai _ _ _)) hd⟩
         | some ad =>
          obtain ⟨v', w', r1, r2, r3, r4, r5⟩ := run_append_own_at (P := P) w 0 t o.type e' inf zv z' inf.bytes hu hinf hzv hsz rfl (by omega) c2 (.slice none 0 0) 0 [] (w.ownsRow_nil 0 e' z') ad 0 cx [] (by simp) (by simp) (by simp) (by simp [maxLen]) (by simp) (Nat.zero_le _)
          have := r4.2 ⟨rfl, rfl⟩
          subst this
          have hR' := Rel.same_world hgone ⟨r3.os, r3.tape, r3.output, r3.size, fun b hb => r3.block b hb (by simp [Value.ownBlock])⟩
          exact ⟨_, _, w', hex (by rw [es1, hxv]; exact r1), (hR'.addNil e' z' hsite').put (.ownl site 0 0 (ai _ _ _)) hd⟩
        ·obtain ⟨g, cap, w', r1, r2, r3, r4⟩ := main (.slice none 0 0) 0 [] es1 (w.ownsRow_nil 0 e' z') (by omega) (.inr (by omega))
         have hg : g = w.heap.size := by
          rcases r4 with h' | h'
          ·simp [Value.ownBlock] at h'
          ·exact h'
         have hR' := Rel.same_world hgone ⟨r3.os, r3.tape, r3.output, r3.size, fun b hb => r3.block b hb (by simp [Value.ownBlock])⟩
         simp only [Nat.zero_add, List.nil_append] at r1 r2
         have hA := hR'.addAt (s := site) (r := .row e' z' ys) (x := ⟨g, m, cap, false⟩) hsite' (fun _ => .inr ⟨rfl, news, r2, by omega, l5, l6⟩) (fun k q y hk hs hy hn1 _ => by
             obtain ⟨y', hy', hY⟩ := hgone.mr.row k q hk hs
             rw [hy] at hy'; injection hy' with hy'; subst hy'
             have := hY.lt hs hn1
             simp only; omega) (fun b o v hM _ => by
             have := gm (hR.mr.imm b o v hM).1
             simp only; omega) (fun _ => .inr (by simp only; rw [hg]; exact hR.chg.size))
         exact ⟨_, _, w', hex r1, hA.put (.own site g m cap (ai _ _ _)) hd⟩
       rw [hk] at hy; injection hy with hy; subst hy
       rcases hY with ⟨hn1, _⟩ | ⟨_, xs, h1, h2, h3, h4⟩
       ·cases hn1
       simp only at h1
       obtain ⟨g, cap, w', r1, r2, r3, r4⟩ := main _ n xs es1 h1 hnm (.inl (by simp))
       have hgone := hR.set (r' := .gone) (w' := w') hrow rfl hk rfl ⟨r3.os, r3.tape, r3.output, r3.size, fun b hb hne => r3.block b hb (by simp [Value.ownBlock]; exact fun e => hne e)⟩ (fun h => by cases h)
       have hlt0 := (World.ownsRow.lt (h := h1) g0 rfl).2
       have hgr : g = g0 ∨ g = w.heap.size := by
        rcases r4 with h' | h'
        ·left; simpa [Value.ownBlock] using h'
        ·exact .inr h'
       have hA := hgone.addAt (s := site) (r := .row e' z' (cs ++ ys)) (x := ⟨g, n + m, cap, false⟩) (by show upd st.rows k (some .gone) site = none; rw [au _ _ (Ne.symm hks)]; exact hsite)
        (fun _ => .inr ⟨rfl, xs ++ news, r2, by simp; omega, fun v hv => by
          rcases List.mem_append.1 hv with hv | hv
          · exact h3 v hv
          · exact l5 v hv, cat cs xs h2 h4⟩) (fun j q y hj hq hy hn1 _ => by
          have hj : upd st.rows k (some .gone) j = some q := hj
          have hjk : j ≠ k := fun e => by rw [e, ai] at hj; injection hj with hj; subst hj; cases hq
          rw [au _ _ hjk] at hj
          obtain ⟨y', hy', hY⟩ := hR.mr.row j q hj hq
          rw [hy] at hy'; injection hy' with hy'; subst hy'
          have hl := hY.lt hq hn1
          have hne := hR.mr.inj j k q _ y _ hj hrow hq rfl hy hk hjk hn1 rfl
          simp only at hne ⊢
          rcases hgr with h' | h'
          · rw [h']; exact hne
          · omega) (fun b o v hM _ => by
          have hl := gm (hR.mr.imm b o v hM).1
          have hne := hR.mr.apt b o v k _ _ hM hrow rfl hk rfl
          simp only at hne ⊢
          rcases hgr with h' | h'
          · rw [h']; exact hne
          · omega) (fun _ => by
          simp only
          rcases hgr with h' | h'
          · have := hR.new k _ _ hrow rfl hk rfl
            rw [h']; exact this
          · right; rw [h']; exact hR.chg.size)
       exact ⟨_, _, w', hex r1, hA.put (.own site g (n + m) cap (ai _ _ _)) hd⟩
      ·cases h
     ·cases h
    ·cases h
   ·cases h
  ·rename_i z hz hsrc
   split at h
   ·rename_i hc
    exact vf hex he hz hc.1 hc.2.1 hc.2.2 h hR hd
   ·cases h
  ·cases h
 ·cases h
end
def bd (l : List Row) : Nat → Option Row := fun s => l[s]?
def DOf (ρ : Plc) (rows : Nat → Option Row) (b : Nat) : Prop := ∃ s r x, rows s = some r ∧ r.solid = true ∧ ρ s = some x ∧ x.nl = false ∧ x.g = b
def iS (P : Program) (f : FuncId) : Bool := match P.funcs[f]? with
 | some fn => fn.name != "runtime.NumGoroutine" && fn.body.isSome
 | none => false
def aU (P : Program) (f : FuncId) (args : List AV) (mem : List Row) (ret : AV) (mem' : List Row) : Prop :=
 iS P f = true ∧ ∀ (M : Imm) (ρ : Plc) (w : World) (vs : Array Value), MR M ρ (bd mem) w → (∀ s, mem.length ≤ s → ρ s = none) → args.length = vs.size →
  (∀ (i : Nat) (c : AV) (v : Value), args[i]? = some c → vs[i]? = some v → VR M ρ c v) →
  Calls P f vs w fun e w' => ∃ v M' ρ', e = .returned v ∧ M.le M' ∧ ρ.le ρ' ∧ MR M' ρ' (bd mem') w' ∧ (∀ s, mem'.length ≤ s → ρ' s = none) ∧ VR M' ρ' ret v ∧ Chg (DOf ρ (bd mem)) w w' ∧
   (∀ b, b < w.heap.size → ¬ DOf ρ (bd mem) b → M' b = M b) ∧ ∀ s r x, bd mem' s = some r → r.solid = true → ρ' s = some x → x.nl = false → DOf ρ (bd mem) x.g ∨ w.heap.size ≤ x.g
def gX (f : Nat → Nat) : AV → AV
 | .own s n => .own (f s) n
 | .ptr s o => .ptr (f s) o
 | .agg _ => .top
 | .tup _ => .top
 | .fn _ _ => .top
 | a => a
def iR (f : Nat → Nat) : AV → AV
 | .agg cs => .agg (cs.map (gX f))
 | .tup _ => .top
 | a => gX f a
def fS (f : Nat → Nat) : AV → AV
 | .tup vs => .tup (vs.map (iR f))
 | a => iR f a
def Row.ren (f : Nat → Nat) : Row → Row
 | .box T cs => .box T (cs.map (gX f))
 | .tab E sz cs => .tab E sz (cs.map (gX f))
 | r => r
section
variable {M : Imm} {ρ ρ' : Plc} {f : Nat → Nat}
theorem VR.rn1 (hf : ∀ s x, ρ s = some x → ρ' (f s) = some x) {a : AV} {v : Value} (h : VR M ρ a v) : VR M ρ' (gX f a) v := by
 cases h with
 | plain h => cases h <;> first | exact .plain (.top _) | exact .plain (by constructor <;> assumption)
 | own s g n cap h => exact .own _ g n cap (hf _ _ h)
 | ownl s g cap h => exact .ownl _ g cap (hf _ _ h)
 | ptr s off x h hx => exact .ptr _ off x (hf _ _ h) hx
 | agg => exact .plain (.top _)
 | tup => exact .plain (.top _)
 | fn => exact .plain (.top _)
theorem VR.rn2 (hf : ∀ s x, ρ s = some x → ρ' (f s) = some x) {a : AV} {v : Value} (h : VR M ρ a v) : VR M ρ' (iR f a) v := by
 by_cases hag : ∃ cs, a = .agg cs
 ·obtain ⟨cs, rfl⟩ := hag
  obtain ⟨vs, rfl, hl, h1, h2⟩ := h.agg_inv
  refine .agg _ _ (by simpa using hl) h1 (fun i c u hc hu => ?_)
  rw [List.getElem?_map] at hc
  cases hq : cs[i]? with
  | none => rw [hq] at hc; cases hc
  | some q =>
   rw [hq] at hc; injection hc with hc; subst hc
   exact (h2 i q u hq hu).rn1 hf
 ·have e : iR f a = gX f a := by cases a <;> first | rfl | exact absurd ⟨_, rfl⟩ hag
  rw [e]; exact h.rn1 hf
theorem VR.rn3 (hf : ∀ s x, ρ s = some x → ρ' (f s) = some x) {a : AV} {v : Value} (h : VR M ρ a v) : VR M ρ' (fS f a) v := by
 by_cases hag : ∃ cs, a = .tup cs
 ·obtain ⟨cs, rfl⟩ := hag
  obtain ⟨vs, rfl, hl, h2⟩ := h.tup_inv
  refine .tup _ _ (by simpa using hl) (fun i c u hc hu => ?_)
  rw [List.getElem?_map] at hc
  cases hq : cs[i]? with
  | none => rw [hq] at hc; cases hc
  | some q =>
   rw [hq] at hc; injection hc with hc; subst hc
   exact (h2 i q u hq hu).rn2 hf
 ·have e : fS f a = iR f a := by cases a <;> first | rfl | exact absurd ⟨_, rfl⟩ hag
  rw [e]; exact h.rn2 hf
theorem eZ.ren (hf : ∀ s x, ρ s = some x → ρ' (f s) = some x) {w : World} {r : Row} {x : At} (h : eZ M ρ w r x) : eZ M ρ' w (r.ren f) x := by
 cases r with
 | box T cs =>
  obtain ⟨h0, arr, h1, h2, h3, h4⟩ := h
  refine ⟨h0, arr, h1, by simpa using h2, h3, fun i c v hc hv => ?_⟩
  rw [List.getElem?_map] at hc
  cases hq : cs[i]? with
  | none => rw [hq] at hc; cases hc
  | some q =>
   rw [hq] at hc; injection hc with hc; subst hc
   exact (h4 i q v hq hv).rn1 hf
 | row E sz cs => exact h
 | tab E sz cs =>
  rcases h with ⟨a1, a2, a3⟩ | ⟨h0, xs, h1, h2, h3, h4⟩
  ·subst a2; exact .inl ⟨a1, rfl, a3⟩
  refine .inr ⟨h0, xs, h1, by simpa using h2, h3, fun i c v hc hv => ?_⟩
  rw [List.getElem?_map] at hc
  cases hq : cs[i]? with
  | none => rw [hq] at hc; cases hc
  | some q =>
   rw [hq] at hc; injection hc with hc; subst hc
   exact (h4 i q v hq hv).rn1 hf
 | gone => trivial
end
theorem Row.ren_solid (f : Nat → Nat) (r : Row) : (r.ren f).solid = r.solid := by cases r <;> rfl
inductive Free : AV → Prop
 | int (k n) : Free (.int k n)
 | bool (b) : Free (.bool b)
 | str (s) : Free (.str s)
 | nil : Free .nil
 | own (s n) : Free (.own s n)
 | ptr (s o) : Free (.ptr s o)
 | top : Free .top
 | agg (cs : List AV) (h : ∀ c ∈ cs, Free c) : Free (.agg cs)
 | tup (cs : List AV) (h : ∀ c ∈ cs, Free c) : Free (.tup cs)
theorem PV.free {M M' : Imm} {a : AV} {v : Value} (h : PV M a v) (hf : Free a) : PV M' a v := by
 induction h with
 | int => exact .int ..
 | bool => exact .bool ..
 | str => exact .str ..
 | agg cs vs hl h1 h ih =>
  cases hf with
  | agg _ hf => exact .agg cs vs hl h1 (fun i c v hc hv => ih i c v hc hv (hf c (List.mem_of_getElem? hc)))
 | nil => exact .nil
 | sl => cases hf
 | eptr => cases hf
 | top => exact .top _
theorem VR.free {M M' : Imm} {ρ : Plc} {a : AV} {v : Value} (h : VR M ρ a v) (hf : Free a) : VR M' ρ a v := by
 induction h with
 | plain h => exact .plain (h.free hf)
 | own s g n cap h => exact .own s g n cap h
 | ownl s g cap h => exact .ownl s g cap h
 | ptr s off x h hx => exact .ptr s off x h hx
 | agg cs vs hl h1 h ih =>
  cases hf with
  | agg _ hf => exact .agg cs vs hl h1 (fun i c v hc hv => ih i c v hc hv (hf c (List.mem_of_getElem? hc)))
 | tup cs vs hl h ih =>
  cases hf with
  | tup _ hf => exact .tup cs vs hl (fun i c v hc hv => ih i c v hc hv (hf c (List.mem_of_getElem? hc)))
 | fn => cases hf
def Row.cells : Row → List AV
 | .box _ cs => cs
 | .row _ _ cs => cs
 | .tab _ _ cs => cs
 | .gone => []
theorem eZ.free {M M' : Imm} {ρ : Plc} {w : World} {r : Row} {x : At} (h : eZ M ρ w r x) (hf : ∀ c ∈ r.cells, Free c) : eZ M' ρ w r x := by
 cases r with
 | box T cs => obtain ⟨h0, arr, h1, h2, h3, h4⟩ := h; exact ⟨h0, arr, h1, h2, h3, fun i c v a b => (h4 i c v a b).free (hf c (List.mem_of_getElem? a))⟩
 | row E sz cs =>
  rcases h with h | ⟨h0, xs, h1, h2, h3, h4⟩
  ·exact .inl h
  ·exact .inr ⟨h0, xs, h1, h2, h3, fun i c v a b => (h4 i c v a b).free (hf c (List.mem_of_getElem? a))⟩
 | tab E sz cs =>
  rcases h with h | ⟨h0, xs, h1, h2, h3, h4⟩
  ·exact .inl h
  ·exact .inr ⟨h0, xs, h1, h2, h3, fun i c v a b => (h4 i c v a b).free (hf c (List.mem_of_getElem? a))⟩
 | gone => trivial
def gU : List Nat → Nat → Option Nat
 | [], _ => none
 | a :: l, s => if s = a then some 0 else match gU l s with | some j => some (j + 1) | none => none
theorem hQ : ∀ {l : List Nat} {s j : Nat}, gU l s = some j → l[j]? = some s
 | [], s, j, h => by cases h
 | a :: l, s, j, h => by
  simp only [gU] at h
  split at h
  ·rename_i e; injection h with h; subst h; simp [e]
  ·split at h
   ·rename_i j' hj
    injection h with h; subst h
    simpa using hQ hj
   ·cases h
theorem pJ : ∀ {l : List Nat} {s : Nat}, gU l s = none → s ∉ l
 | [], s, h => by simp
 | a :: l, s, h => by
  simp only [gU] at h
  split at h
  ·cases h
  ·rename_i e
   split at h
   ·cases h
   ·rename_i hj
    simp only [List.mem_cons, not_or]
    exact ⟨e, pJ hj⟩
def fU (ι : List Nat) (rows : Nat → Option Row) : AV → AV
 | .own s n => match gU ι s with
  | some _ => .top
  | none => match rows s with
   | some (.row _ _ cs) => .sl cs n
   | _ => .top
 | .ptr _ _ => .top
 | .agg _ => .top
 | .tup _ => .top
 | .fn _ _ => .top
 | a => a
def bQ (ι : List Nat) (rows : Nat → Option Row) : AV → AV
 | .own s n => match gU ι s with
  | some j => .own j n
  | none => match rows s with
   | some (.row _ _ cs) => .sl cs n
   | _ => .top
 | .ptr s o => match gU ι s with
  | some j => .ptr j o
  | none => .top
 | .agg _ => .top
 | .tup _ => .top
 | .fn _ _ => .top
 | a => a
def bq (ι : List Nat) (rows : Nat → Option Row) : AV → AV
 | .agg cs => .agg (cs.map (bQ ι rows))
 | .tup _ => .top
 | a => bQ ι rows a
def ca (ι : List Nat) (rows : Nat → Option Row) : AV → AV
 | .own s n => match gU ι s with
  | some j => .own j n
  | none => match rows s with
   | some (.row _ _ cs) => .sl cs n
   | some (.tab _ _ cs) => .sl (cs.map (fU ι rows)) n
   | _ => .top
 | a => bQ ι rows a
def ee (ι : List Nat) (rows : Nat → Option Row) : AV → AV
 | .agg cs => .agg (cs.map (ca ι rows))
 | .tup _ => .top
 | a => ca ι rows a
def sp (nt : Bool) (ι : List Nat) (rows : Nat → Option Row) (a : AV) : AV := match nt with
 | true => ee ι rows a
 | false => bq ι rows a
def bS (ι : List Nat) (lnd rows : Nat → Option Row) (s : Nat) : Row := match rows s with
 | some (.box T cs) => .box T (cs.map (bQ ι lnd))
 | some (.row E sz cs) => .row E sz cs
 | some (.tab E sz cs) => .tab E sz (cs.map (bQ ι lnd))
 | _ => .gone
def mId (ι : List Nat) (site : Nat) (j : Nat) : Nat := if j < ι.length then ι.getD j 0 else site + (j - ι.length)
def ap (rows : Nat → Option Row) (s : Nat) : List Row → (Nat → Option Row)
 | [] => rows
 | r :: rs => ap (upd rows s (some r)) (s + 1) rs
def iT (rows : Nat → Option Row) : List Nat → List Row → (Nat → Option Row)
 | i :: ι, r :: rs => iT (upd rows i (some r)) ι rs
 | _, _ => rows
theorem bR (rows : Nat → Option Row) : ∀ (rs : List Row) (site s : Nat), ap rows site rs s = if site ≤ s ∧ s < site + rs.length then rs[s - site]? else rows s := by
 intro rs
 induction rs generalizing rows with
 | nil => intro site s; simp only [ap, List.length_nil]; rw [if_neg (by omega)]
 | cons r rs ih =>
  intro site s
  simp only [ap, ih]
  by_cases h1 : site + 1 ≤ s ∧ s < site + 1 + rs.length
  ·rw [if_pos h1, if_pos (by simp; omega), show s - site = (s - (site + 1)) + 1 by omega, List.getElem?_cons_succ]
  ·rw [if_neg h1]
   by_cases h2 : s = site
   ·subst h2; rw [ai, if_pos (by simp)]; simp
   ·rw [au _ _ h2, if_neg (by simp; omega)]
theorem iU (rows : Nat → Option Row) : ∀ (ι : List Nat) (rs : List Row) (s : Nat), s ∉ ι → iT rows ι rs s = rows s := by
 intro ι
 induction ι generalizing rows with
 | nil => intro rs s _; rfl
 | cons i ι ih =>
  intro rs s hs
  cases rs with
  | nil => rfl
  | cons r rs =>
   simp only [iT]
   rw [ih _ _ _ (fun h => hs (by simp [h])), au _ _ (fun e => hs (by simp [e]))]
theorem k5 (rows : Nat → Option Row) : ∀ (ι : List Nat) (rs : List Row) (j s : Nat), ι.Nodup → ι[j]? = some s → ι.length ≤ rs.length → iT rows ι rs s = rs[j]? := by
 intro ι
 induction ι generalizing rows with
 | nil => intro rs j s _ h; simp at h
 | cons i ι ih =>
  intro rs j s hn h hl
  cases rs with
  | nil => simp at hl
  | cons r rs =>
   simp only [iT]
   cases j with
   | zero =>
    simp at h; subst h
    rw [iU _ _ _ _ (List.nodup_cons.1 hn).1, ai]; rfl
   | succ j =>
    rw [ih _ _ j s (List.nodup_cons.1 hn).2 (by simpa using h) (by simpa using hl)]
    simp
def aw (ι : List Nat) (site : Nat) (rows : Nat → Option Row) (mem' : List Row) : Nat → Option Row :=
 ap (iT rows ι ((mem'.take ι.length).map (Row.ren (mId ι site)))) site ((mem'.drop ι.length).map (Row.ren (mId ι site)))
def Lnt (lnd : Nat → Option Row) (s : Nat) (cs : List AV) : Prop := ∃ E sz, lnd s = some (.row E sz cs) ∨ lnd s = some (.tab E sz cs)
open Classical in
noncomputable def lentM (M : Imm) (ρ : Plc) (lnd : Nat → Option Row) (ι : List Nat) (w : World) : Imm := fun b o =>
 if ∃ s cs x, Lnt lnd s cs ∧ s ∉ ι ∧ ρ s = some x ∧ x.nl = false ∧ x.g = b ∧ o < cs.length then w.cell? ⟨b, o, none⟩ else M b o
open Classical in
noncomputable def backM (M' : Imm) (ρ : Plc) (lnd : Nat → Option Row) (ι : List Nat) : Imm := fun b o =>
 if ∃ s cs x, Lnt lnd s cs ∧ s ∉ ι ∧ ρ s = some x ∧ x.nl = false ∧ x.g = b then none else M' b o
section
variable {P : Program} {C : Ctx} {M : Imm} {ρ : Plc} {st : St} {a : Act} {w : World}
theorem AU {o : Oper} {c : Call} {f : FuncId} (hop : o.op = .call c) (hcal : c.callee = .value (.func f)) (hc : iS P f = true) : (execOp a.eval o).run P w = .ok (.enter f (c.args.map a.eval)) w := by
 unfold iS at hc
 split at hc
 ·rename_i fn hfn
  simp only [Bool.and_eq_true, bne_iff_ne, ne_eq] at hc
  have hb : fn.body.isNone = false := by cases h : fn.body <;> simp_all
  unfold execOp
  simp [hop, resolve, hcal, Act.eval, Deferred.ofValue, invoke, callFunc, hfn, hc.1]
  intro hn
  rw [hn] at hb
  cases hb
 ·cases hc
def AY (st : St) (c : Call) (f : FuncId) (vs : List AV) : Prop :=
 (c.callee = .value (.func f) ∧ vs = c.args.toList.map st.ev) ∨ ∃ t ps, c.callee = .value (.tmp t) ∧ st.tmps t = .fn f ps ∧ vs = c.args.toList.map st.ev ++ ps.map fun s => AV.ptr s 0
theorem IK {o : Oper} {c : Call} {t : Tmp} {f : FuncId} {us : Array Value} (hop : o.op = .call c) (hcal : c.callee = .value (.tmp t)) (ht : a.eval (.tmp t) = .func (.func f) #[] us) (hc : iS P f = true) : (execOp a.eval o).run P w = .ok (.enter f (c.args.map a.eval ++ us)) w := by
 unfold iS at hc
 split at hc
 ·rename_i fn hfn
  simp only [Bool.and_eq_true, bne_iff_ne, ne_eq] at hc
  have hb : fn.body.isNone = false := by cases h : fn.body <;> simp_all
  unfold execOp
  simp [hop, resolve, hcal, ht, Deferred.ofValue, invoke, callFunc, hfn, hc.1]
  intro hn
  rw [hn] at hb
  cases hb
 ·cases hc
theorem AY.run {o : Oper} {c : Call} {f : FuncId} {vs : List AV} (h : AY st c f vs) (hop : o.op = .call c) (hR : ∀ x, VR M ρ (st.ev x) (a.eval x)) (hc : iS P f = true) :
  ∃ us : Array Value, (execOp a.eval o).run P w = .ok (.enter f us) w ∧ vs.length = us.size ∧ ∀ (i : Nat) (q : AV) (v : Value), vs[i]? = some q → us[i]? = some v → VR M ρ q v := by
 have base : ∀ (i : Nat) (q : AV) (v : Value), (c.args.toList.map st.ev)[i]? = some q → (c.args.map a.eval)[i]? = some v → VR M ρ q v := by
  intro i q v hq hv
  rw [List.getElem?_map] at hq
  have : (c.args.map a.eval)[i]? = (c.args.toList[i]?).map a.eval := by simp
  rw [this] at hv
  cases hx : c.args.toList[i]? with
  | none => rw [hx] at hq; cases hq
  | some x =>
   rw [hx] at hq hv; injection hq with hq; injection hv with hv
   subst hq hv
   exact hR x
 rcases h with ⟨hcal, rfl⟩ | ⟨t, ps, hcal, ht, rfl⟩
 ·exact ⟨_, AU hop hcal hc, by simp, base⟩
 ·have hv := hR (.tmp t)
  have e : st.ev (.tmp t) = .fn f ps := ht
  rw [e] at hv
  obtain ⟨us, hu, hl, hus⟩ := hv.fn_inv
  refine ⟨_, IK hop hcal hu hc, by simp [hl], fun i q v hq hv => ?_⟩
  have hsz : (c.args.map a.eval).size = c.args.size := by simp
  by_cases hi : i < c.args.size
  ·rw [List.getElem?_append_left (by simpa using hi)] at hq
   rw [Array.getElem?_append_left (by simpa using hi)] at hv
   exact base i q v hq hv
  ·rw [List.getElem?_append_right (by simpa using hi)] at hq
   rw [Array.getElem?_append_right (by simpa using hi)] at hv
   simp only [List.length_map, Array.length_toList, Array.size_map] at hq hv
   rw [List.getElem?_map] at hq
   cases hp : ps[i - c.args.size]? with
   | none => rw [hp] at hq; cases hq
   | some s =>
    rw [hp] at hq; injection hq with hq; subst hq
    exact hus _ s v hp hv
theorem Ds {nt : Bool} {o : Oper} {c : Call} {f : FuncId} {avs : List AV} (hop : o.op = .call c) (hcal : AY st c f avs) (hR : Rel C M ρ st a w) (ι : List Nat) (lnd : Nat → Option Row) (hlnd : ∀ s r, lnd s = some r → st.rows s = some r)
  (hnd : ι.Nodup) (hι : ∀ s ∈ ι, ∃ r, st.rows s = some r ∧ r.solid = true) {ret : AV} {mem' : List Row}
  (hS : aU P f (avs.map (sp nt ι lnd)) (ι.map (bS ι lnd st.rows)) ret mem') (hle : ι.length ≤ mem'.length)
  (hfree : (∀ s, lnd s = none) ∨ (Free ret ∧ ∀ r ∈ mem', ∀ c ∈ r.cells, Free c)) {site : Nat} (hsite : ∀ j, j < mem'.length - ι.length → st.rows (site + j) = none) (hd : ∀ k, o.dst = some k → k < C.N)
  {next : Act → World → Prop} {Q : Exit → Act → World → Prop}
  (hK : ∀ M' ρ' a' w', Rel C M' ρ' (({ st with rows := aw ι site st.rows mem' } : St).put o.dst (fS (mId ι site) ret)) a' w' → next a' w') : o.wp P a w next Q := by
 obtain ⟨hcl, hS⟩ := hS
 have hv := hR.ev
 -- the rows that are lent
 have lentRow : ∀ {s E sz cs x}, lnd s = some (.row E sz cs) → ρ s = some x → x.nl = false → ∃ xs : List Value, w.ownsRow 0 E sz (.slice (some ⟨x.g, 0, none⟩) x.n x.cap) x.n xs ∧ cs.length = xs.length ∧ (∀ v ∈ xs, v.oneCell' = true) ∧ ∀ (i : Nat) (c : AV) (v : Value), cs[i]? = some c → xs[i]? = some v → PV M c v := by
  intro s E sz cs x hs hx hn
  obtain ⟨y, hy, hY⟩ := hR.mr.row s _ (hlnd s _ hs) rfl
  rw [hx] at hy; injection hy with hy; subst hy
  rcases hY with ⟨h, _⟩ | ⟨_, h⟩
  ·rw [hn] at h; cases h
  ·exact h
 have lntR : ∀ {s cs}, Lnt lnd s cs → ∃ r, st.rows s = some r ∧ r.solid = true := by
  rintro s cs ⟨E, sz, h | h⟩
  ·exact ⟨_, hlnd s _ h, rfl⟩
  ·exact ⟨_, hlnd s _ h, rfl⟩
 have lentAny : ∀ {s cs x}, Lnt lnd s cs → ρ s = some x → x.nl = false → ∃ (E sz : Nat) (xs : List Value), w.ownsRow 0 E sz (.slice (some ⟨x.g, 0, none⟩) x.n x.cap) x.n xs ∧ cs.length = xs.length ∧ (∀ v ∈ xs, v.oneCell' = true) := by
  rintro s cs x ⟨E, sz, hs | hs⟩ hx hn
  ·obtain ⟨xs, a1, a2, a3, _⟩ := lentRow hs hx hn
   exact ⟨E, sz, xs, a1, a2, a3⟩
  ·obtain ⟨y, hy, hY⟩ := hR.mr.row s _ (hlnd s _ hs) rfl
   rw [hx] at hy; injection hy with hy; subst hy
   rcases hY with ⟨h, _⟩ | ⟨_, xs, a1, a2, a3, _⟩
   ·rw [hn] at h; cases h
   ·exact ⟨E, sz, xs, a1, a2, a3⟩
 have lentNil : ∀ {s E sz cs x}, lnd s = some (.row E sz cs) → ρ s = some x → x.nl = true → cs = [] := by
  intro s E sz cs x hs hx hn
  obtain ⟨y, hy, hY⟩ := hR.mr.row s _ (hlnd s _ hs) rfl
  rw [hx] at hy; injection hy with hy; subst hy
  rcases hY with ⟨_, h, _⟩ | ⟨h, _⟩
  ·exact h
  ·rw [hn] at h; cases h
 have M2le : M.le (lentM M ρ lnd ι w) := by
  intro b o v h
  unfold lentM
  rw [if_neg]
  ·exact h
  ·rintro ⟨s, cs, x, h1, h2, h3, hn, h4, h5⟩
   obtain ⟨r1, hr1, hs1⟩ := lntR h1
   exact hR.mr.apt b o v s r1 x h hr1 hs1 h3 hn h4
 let ρc : Plc := fun j => match ι[j]? with | some s => ρ s | none => none
 have ρc_of : ∀ {j s}, ι[j]? = some s → ρc j = ρ s := fun h => by simp only [ρc, h]
 -- what is passed
 have cellOf : ∀ {s cs x} {xs : List Value} {E sz : Nat}, Lnt lnd s cs → s ∉ ι → ρ s = some x → x.nl = false → w.ownsRow 0 E sz (.slice (some ⟨x.g, 0, none⟩) x.n x.cap) x.n xs → cs.length = xs.length → ∀ i, i < cs.length → lentM M ρ lnd ι w x.g i = some (xs.getD i undef) := by
  intro s cs x xs E sz hl hs hx hn h1 h2 i hi
  unfold lentM
  rw [if_pos ⟨s, cs, _, hl, hs, hx, hn, rfl, hi⟩]
  have hi' : i < xs.length := by omega
  have := World.ownsRow.cells h1 (g := x.g) rfl i _ (List.getElem?_eq_getElem hi')
  rw [dK, Nat.zero_add] at this
  simpa [hi'] using this
 have capOf : ∀ {x : At} {xs : List Value} {E sz : Nat}, w.ownsRow 0 E sz (.slice (some ⟨x.g, 0, none⟩) x.n x.cap) x.n xs → x.n ≤ x.cap := by
  intro x xs E sz h1
  rcases h1.2 with ⟨hn, _⟩ | ⟨g', cap', cur, hvv, hb, hg, hcap, _⟩
  ·cases hn
  ·injection hvv with _ _ q3; omega
 have ltOf : ∀ {cs : List AV} {i : Nat} {c : AV}, cs[i]? = some c → i < cs.length := fun {cs i c} hc => by
  rcases Nat.lt_or_ge i cs.length with h' | h'
  ·exact h'
  ·rw [List.getElem?_eq_none h'] at hc; cases hc
 have q0 : ∀ {s n : Nat} {v : Value} {E sz : Nat} {cs : List AV}, VR M ρ (.own s n) v → gU ι s = none → lnd s = some (.row E sz cs) → PV (lentM M ρ lnd ι w) (.sl cs n) v := by
  intro s n v E sz cs h hj hrow
  obtain ⟨g, cap, ⟨hs, rfl⟩ | ⟨hs, hn0, rfl⟩⟩ := h.own_inv
  ·obtain ⟨xs, h1, h2, h3, h4⟩ := lentRow hrow hs rfl
   refine .sl cs n _ cap g 0 (fun i => xs.getD i undef) (fun _ => rfl) (capOf h1) (fun i c hc => ?_) (fun i c hc => ?_)
   ·rw [Nat.zero_add]
    exact cellOf ⟨_, _, .inl hrow⟩ (pJ hj) hs rfl h1 h2 i (ltOf hc)
   ·have hi' : i < xs.length := by have := ltOf hc; omega
    have := (h4 i c _ hc (List.getElem?_eq_getElem hi')).mono M2le
    simpa [hi'] using this
  ·subst hn0
   rw [lentNil hrow hs rfl]
   exact .sl [] 0 none 0 0 0 (fun _ => undef) (fun h => by omega) (Nat.le_refl _) (fun i c hc => by simp at hc) (fun i c hc => by simp at hc)
 have p0 : ∀ {c : AV} {v : Value}, VR M ρ c v → PV (lentM M ρ lnd ι w) (fU ι lnd c) v := by
  intro c v h
  by_cases hown : ∃ s n, c = .own s n
  ·obtain ⟨s, n, rfl⟩ := hown
   simp only [fU]
   split
   ·exact .top _
   ·rename_i hj
    split
    ·rename_i E sz cs hrow
     exact q0 h hj hrow
    ·exact .top _
  ·cases h with
   | plain h =>
    cases h <;> first
     | exact .top _
     | exact .int ..
     | exact .bool ..
     | exact .str ..
     | exact .nil
     | exact PV.mono M2le (.sl _ _ _ _ _ _ _ (by assumption) (by assumption) (by assumption) (by assumption))
     | exact PV.mono M2le (.eptr _ _ _ _ (by assumption) (by assumption))
   | own s g n cap h => exact absurd ⟨_, _, rfl⟩ hown
   | ownl s g cap h => exact absurd ⟨_, _, rfl⟩ hown
   | ptr s off x h hx => exact .top _
   | agg => exact .top _
   | tup => exact .top _
   | fn => exact .top _
 have q1 : ∀ {s n : Nat} {v : Value} {E sz : Nat} {cs : List AV}, VR M ρ (.own s n) v → gU ι s = none → lnd s = some (.tab E sz cs) → PV (lentM M ρ lnd ι w) (.sl (cs.map (fU ι lnd)) n) v := by
  intro s n v E sz cs h hj hrow
  obtain ⟨y, hy, hY⟩ := hR.mr.row s _ (hlnd s _ hrow) rfl
  obtain ⟨g, cap, ⟨hs, rfl⟩ | ⟨hs, hn0, rfl⟩⟩ := h.own_inv
  ·rw [hs] at hy; injection hy with hy; subst hy
   rcases hY with ⟨hn1, _⟩ | ⟨_, xs, h1, h2, h3, h4⟩
   ·cases hn1
   refine .sl _ n _ cap g 0 (fun i => xs.getD i undef) (fun _ => rfl) (capOf h1) (fun i c hc => ?_) (fun i c hc => ?_)
   ·rw [Nat.zero_add]
    have hi := ltOf hc
    rw [List.length_map] at hi
    exact cellOf ⟨_, _, .inr hrow⟩ (pJ hj) hs rfl h1 h2 i hi
   ·rw [List.getElem?_map] at hc
    cases hq : cs[i]? with
    | none => rw [hq] at hc; cases hc
    | some q =>
     rw [hq] at hc; injection hc with hc; subst hc
     have hi' : i < xs.length := by have := ltOf hq; omega
     have := p0 (h4 i q _ hq (List.getElem?_eq_getElem hi'))
     simpa [hi'] using this
  ·subst hn0
   rw [hs] at hy; injection hy with hy; subst hy
   rcases hY with ⟨_, rfl, _⟩ | ⟨hn1, _⟩
   ·exact .sl [] 0 none 0 0 0 (fun _ => undef) (fun h => by omega) (Nat.le_refl _) (fun i c hc => by simp at hc) (fun i c hc => by simp at hc)
   ·cases hn1
 have p1 : ∀ {c : AV} {v : Value}, VR M ρ c v → VR (lentM M ρ lnd ι w) ρc (bQ ι lnd c) v := by
  intro c v h
  by_cases hown : ∃ s n, c = .own s n
  ·obtain ⟨s, n, rfl⟩ := hown
   simp only [bQ]
   split
   ·rename_i j hj
    obtain ⟨g, cap, ⟨hs, rfl⟩ | ⟨hs, hn0, rfl⟩⟩ := h.own_inv
    ·exact .own j g n cap (by rw [ρc_of (hQ hj)]; exact hs)
    ·subst hn0
     exact .ownl j g cap (by rw [ρc_of (hQ hj)]; exact hs)
   ·rename_i hj
    split
    ·rename_i E sz cs hrow
     exact .plain (q0 h hj hrow)
    ·exact .plain (.top _)
  ·cases h with
   | plain h =>
    cases h <;> first
     | exact .plain (.top _)
     | exact .plain (.int ..)
     | exact .plain (.bool ..)
     | exact .plain (.str ..)
     | exact .plain .nil
     | exact .plain (PV.mono M2le (.sl _ _ _ _ _ _ _ (by assumption) (by assumption) (by assumption) (by assumption)))
     | exact .plain (PV.mono M2le (.eptr _ _ _ _ (by assumption) (by assumption)))
   | own s g n cap h => exact absurd ⟨_, _, rfl⟩ hown
   | ownl s g cap h => exact absurd ⟨_, _, rfl⟩ hown
   | ptr s off x h hx =>
    simp only [bQ]
    split
    ·rename_i j hj
     exact .ptr j off x (by rw [ρc_of (hQ hj)]; exact h) hx
    ·exact .plain (.top _)
   | agg => exact .plain (.top _)
   | tup => exact .plain (.top _)
   | fn => exact .plain (.top _)
 have p2 : ∀ {c : AV} {v : Value}, VR M ρ c v → VR (lentM M ρ lnd ι w) ρc (bq ι lnd c) v := by
  intro c v h
  by_cases hag : ∃ cs, c = .agg cs
  ·obtain ⟨cs, rfl⟩ := hag
   obtain ⟨vs, rfl, hl, h1, h2⟩ := h.agg_inv
   refine .agg _ _ (by simpa using hl) h1 (fun i c u hc hu => ?_)
   rw [List.getElem?_map] at hc
   cases hq : cs[i]? with
   | none => rw [hq] at hc; cases hc
   | some q =>
    rw [hq] at hc; injection hc with hc; subst hc
    exact p1 (h2 i q u hq hu)
  ·have e : bq ι lnd c = bQ ι lnd c := by cases c <;> first | rfl | exact absurd ⟨_, rfl⟩ hag
   rw [e]; exact p1 h
 have pT1 : ∀ {c : AV} {v : Value}, VR M ρ c v → VR (lentM M ρ lnd ι w) ρc (ca ι lnd c) v := by
  intro c v h
  by_cases hown : ∃ s n, c = .own s n
  ·obtain ⟨s, n, rfl⟩ := hown
   have hp := p1 h
   simp only [bQ] at hp
   simp only [ca]
   split
   ·rename_i j hj
    rw [hj] at hp; exact hp
   ·rename_i hj
    split
    ·rename_i E sz cs hrow
     exact .plain (q0 h hj hrow)
    ·rename_i E sz cs hrow
     exact .plain (q1 h hj hrow)
    ·exact .plain (.top _)
  ·have e : ca ι lnd c = bQ ι lnd c := by cases c <;> first | rfl | exact absurd ⟨_, _, rfl⟩ hown
   rw [e]; exact p1 h
 have pX : ∀ {c : AV} {v : Value}, VR M ρ c v → VR (lentM M ρ lnd ι w) ρc (sp nt ι lnd c) v := by
  intro c v h
  cases nt with
  | false => exact p2 h
  | true =>
   show VR _ _ (ee ι lnd c) v
   by_cases hag : ∃ cs, c = .agg cs
   ·obtain ⟨cs, rfl⟩ := hag
    obtain ⟨vs, rfl, hl, h1, h2⟩ := h.agg_inv
    refine .agg _ _ (by simpa using hl) h1 (fun i c u hc hu => ?_)
    rw [List.getElem?_map] at hc
    cases hq : cs[i]? with
    | none => rw [hq] at hc; cases hc
    | some q =>
     rw [hq] at hc; injection hc with hc; subst hc
     exact pT1 (h2 i q u hq hu)
   ·have e : ee ι lnd c = ca ι lnd c ∨ ee ι lnd c = .top := by cases c <;> first | exact .inl rfl | exact .inr rfl | exact absurd ⟨_, rfl⟩ hag
    rcases e with e | e
    ·rw [e]; exact pT1 h
    ·rw [e]; exact .plain (.top _)
 have rowAtJ : ∀ {j r}, bd (ι.map (bS ι lnd st.rows)) j = some r → ∃ s r0 x, ι[j]? = some s ∧ s ∈ ι ∧ st.rows s = some r0 ∧ r0.solid = true ∧ ρ s = some x ∧ eZ M ρ w r0 x ∧ r = bS ι lnd st.rows s := by
  intro j r h
  simp only [bd, List.getElem?_map] at h
  cases hj : ι[j]? with
  | none => rw [hj] at h; cases h
  | some s =>
   rw [hj] at h; injection h with h
   have hs := List.mem_of_getElem? hj
   obtain ⟨r0, h1, h2⟩ := hι s hs
   obtain ⟨x, h3, h4⟩ := hR.mr.row s r0 h1 h2
   exact ⟨s, r0, x, rfl, hs, h1, h2, h3, h4, h.symm⟩
 have nodupJ : ∀ {i j s}, ι[i]? = some s → ι[j]? = some s → i = j := fun {i j s} hi hj => by
  have h1 : i < ι.length := by
   rcases Nat.lt_or_ge i ι.length with h' | h'
   ·exact h'
   ·rw [List.getElem?_eq_none h'] at hi; cases hi
  exact (List.getElem?_inj h1 hnd).1 (hi.trans hj.symm)
 have hmr : MR (lentM M ρ lnd ι w) ρc (bd (ι.map (bS ι lnd st.rows))) w := by
  refine ⟨fun j r hj hs => ?_, fun i j r r' x x' hi hj hs hs' hx hx' hne hn hn' => ?_, fun b o v h => ?_, fun b o v j r x h hj hs hx hn => ?_⟩
  ·obtain ⟨s, r0, x, e1, e2, e3, e4, e5, e6, rfl⟩ := rowAtJ hj
   refine ⟨x, by rw [ρc_of e1]; exact e5, ?_⟩
   unfold bS
   rw [e3]
   cases r0 with
   | box T cs =>
    obtain ⟨h0, arr, h1, h2, h3, h4⟩ := e6
    refine ⟨h0, arr, h1, by simpa using h2, h3, fun i c v hc hv => ?_⟩
    rw [List.getElem?_map] at hc
    cases hq : cs[i]? with
    | none => rw [hq] at hc; cases hc
    | some q =>
     rw [hq] at hc; injection hc with hc; subst hc
     exact p1 (h4 i q v hq hv)
   | row E sz cs =>
    rcases e6 with e6 | ⟨h0, xs, h1, h2, h3, h4⟩
    ·exact .inl e6
    ·exact .inr ⟨h0, xs, h1, h2, h3, fun i c v hc hv => (h4 i c v hc hv).mono M2le⟩
   | tab E sz cs =>
    rcases e6 with ⟨a1, a2, a3⟩ | ⟨h0, xs, h1, h2, h3, h4⟩
    ·subst a2; exact .inl ⟨a1, rfl, a3⟩
    refine .inr ⟨h0, xs, h1, by simpa using h2, h3, fun i c v hc hv => ?_⟩
    rw [List.getElem?_map] at hc
    cases hq : cs[i]? with
    | none => rw [hq] at hc; cases hc
    | some q =>
     rw [hq] at hc; injection hc with hc; subst hc
     exact p1 (h4 i q v hq hv)
   | gone => trivial
  ·obtain ⟨s, r0, y, e1, e2, e3, e4, e5, e6, rfl⟩ := rowAtJ hi
   obtain ⟨s', r0', y', e1', e2', e3', e4', e5', e6', rfl⟩ := rowAtJ hj
   rw [ρc_of e1] at hx
   rw [ρc_of e1'] at hx'
   refine hR.mr.inj s s' r0 r0' x x' e3 e3' e4 e4' hx hx' (fun e => hne ?_) hn hn'
   subst e
   exact nodupJ e1 e1'
  ·unfold lentM at h
   split at h
   ·rename_i hc
    obtain ⟨s, cs, x, h1, h2, h3, hn, h4, h5⟩ := hc
    subst h4
    obtain ⟨_, _, xs, k1, k2, k3⟩ := lentAny h1 h3 hn
    have hi' : o < xs.length := by omega
    have := World.ownsRow.cells k1 (g := x.g) rfl o _ (List.getElem?_eq_getElem hi')
    rw [dK, Nat.zero_add] at this
    rw [this] at h
    injection h with h; subst h
    exact ⟨this, oN k1 (k3 _ (List.getElem_mem hi'))⟩
   ·exact hR.mr.imm b o v h
  ·obtain ⟨s, r0, y, e1, e2, e3, e4, e5, e6, rfl⟩ := rowAtJ hj
   rw [ρc_of e1] at hx
   unfold lentM at h
   split at h
   ·rename_i hc
    obtain ⟨s', cs, x', h1, h2, h3, hn', h4, h5⟩ := hc
    subst h4
    obtain ⟨r1, hr1, hs1⟩ := lntR h1
    exact hR.mr.inj s s' r0 r1 x x' e3 hr1 e4 hs1 hx h3 (fun e => h2 (e ▸ e2)) hn hn'
   ·exact hR.mr.apt b o v s r0 x h e3 e4 hx hn
 unfold Oper.wp
 obtain ⟨us, hrun, hul, hus⟩ := hcal.run (w := w) hop hv hcl
 rw [hrun]
 refine Calls.mono (hS (lentM M ρ lnd ι w) ρc w us hmr (fun s hs => ?_) (by simpa using hul) (fun i c' v hc hv' => ?_)) (fun e w' he => ?_)
 ·simp only [List.length_map] at hs
  simp only [ρc, List.getElem?_eq_none hs]
 ·rw [List.getElem?_map] at hc
  cases hq : avs[i]? with
  | none => rw [hq] at hc; cases hc
  | some q =>
   rw [hq] at hc; injection hc with hc
   subst hc
   exact pX (hus i q v hq hv')
 ·obtain ⟨v, M', ρ', rfl, mle, rle, mr', fr', vr', chg', mold', new'⟩ := he
  -- blocks handed over
  have hD : ∀ b, DOf ρc (bd (ι.map (bS ι lnd st.rows))) b → ∃ s r x, s ∈ ι ∧ st.rows s = some r ∧ r.solid = true ∧ ρ s = some x ∧ x.nl = false ∧ x.g = b := by
   rintro b ⟨j, r, x, hj, hs, hx, hn, rfl⟩
   obtain ⟨s, r0, y, e1, e2, e3, e4, e5, e6, _⟩ := rowAtJ hj
   rw [ρc_of e1] at hx
   exact ⟨s, r0, x, e2, e3, e4, hx, hn, rfl⟩
  have hDo : ∀ {s r x}, st.rows s = some r → r.solid = true → ρ s = some x → x.nl = false → s ∉ ι → ¬ DOf ρc (bd (ι.map (bS ι lnd st.rows))) x.g := by
   intro s r x h1 h2 h3 hn h4 hd'
   obtain ⟨s', r', x', e1, e2, e3, e4, hn', e5⟩ := hD _ hd'
   exact hR.mr.inj s' s r' r x' x e2 h1 e3 h2 e4 h3 (fun e => h4 (e ▸ e1)) hn' hn e5
  have hDw : ∀ b, DOf ρc (bd (ι.map (bS ι lnd st.rows))) b → C.D b ∨ C.w0.heap.size ≤ b := by
   intro b hb
   obtain ⟨s', r', x', e1, e2, e3, e4, hn', rfl⟩ := hD _ hb
   exact hR.new s' r' x' e2 e3 e4 hn'
  have oldlt : ∀ {s r x}, st.rows s = some r → r.solid = true → ρ s = some x → x.nl = false → x.g < w.heap.size := by
   intro s r x h1 h2 h3 hn
   obtain ⟨y, hy, hY⟩ := hR.mr.row s r h1 h2
   rw [h3] at hy; injection hy with hy; subst hy
   exact hY.lt h2 hn
  -- immutable cells afterwards
  have mb : ∀ {b o v}, backM M' ρ lnd ι b o = some v → M' b o = some v ∧ ¬ ∃ s cs x, Lnt lnd s cs ∧ s ∉ ι ∧ ρ s = some x ∧ x.nl = false ∧ x.g = b := by
   intro b o v h
   unfold backM at h
   split at h
   ·cases h
   ·rename_i hc; exact ⟨h, hc⟩
  have M3le : M.le (backM M' ρ lnd ι) := by
   intro b o v h
   unfold backM
   rw [if_neg]
   ·exact mle b o v (M2le b o v h)
   ·rintro ⟨s, cs, x, h1, h2, h3, hn, h4⟩
    obtain ⟨r1, hr1, hs1⟩ := lntR h1
    exact hR.mr.apt b o v s r1 x h hr1 hs1 h3 hn h4
  have m2 : ∀ {b}, (¬ ∃ s cs x, Lnt lnd s cs ∧ s ∉ ι ∧ ρ s = some x ∧ x.nl = false ∧ x.g = b) → lentM M ρ lnd ι w b = M b := by
   intro b hb
   funext o
   unfold lentM
   rw [if_neg]
   rintro ⟨s, cs, x, h1, h2, h3, hn, h4, _⟩
   exact hb ⟨s, cs, x, h1, h2, h3, hn, h4⟩
  have toBack : ∀ {c : AV} {u : Value} {σ : Plc}, VR M' σ c u → (∀ h : Free ret ∧ ∀ r ∈ mem', ∀ c ∈ r.cells, Free c, Free c) → VR (backM M' ρ lnd ι) σ c u := by
   intro c u σ h hf
   rcases hfree with hn | hfr
   ·have : backM M' ρ lnd ι = M' := by
     funext b o
     unfold backM
     rw [if_neg]
     rintro ⟨s, cs, x, ⟨E, sz, h1 | h1⟩, _⟩ <;> (rw [hn s] at h1; cases h1)
    rw [this]; exact h
   ·exact h.free (hf hfr)
  -- where the rows lie
  let m := mId ι site
  let k := ι.length
  let ρ3 : Plc := fun s => if site ≤ s ∧ s < site + (mem'.length - k) then ρ' (k + (s - site)) else ρ s
  have newnone : ∀ s, site ≤ s ∧ s < site + (mem'.length - k) → st.rows s = none := fun s hs => by
   have := hsite (s - site) (by omega)
   rwa [show site + (s - site) = s by omega] at this
  have r3le : ρ.le ρ3 := by
   intro s x hs
   simp only [ρ3]
   rw [if_neg]
   ·exact hs
   ·intro hc
    rw [hR.fr s (newnone s hc)] at hs; cases hs
  have rm : ∀ j x, ρ' j = some x → ρ3 (m j) = some x := by
   intro j x hj
   simp only [m, mId]
   by_cases hjk : j < ι.length
   ·rw [if_pos hjk]
    have e : ι[j]? = some (ι.getD j 0) := by simp [hjk]
    obtain ⟨r0, h1, h2⟩ := hι _ (List.mem_of_getElem? e)
    obtain ⟨y, hy, _⟩ := hR.mr.row _ r0 h1 h2
    have := rle j y (by rw [ρc_of e]; exact hy)
    rw [hj] at this; injection this with this; subst this
    exact r3le _ _ hy
   ·rw [if_neg hjk]
    have hjl : j < mem'.length := by
     rcases Nat.lt_or_ge j mem'.length with h' | h'
     ·exact h'
     ·rw [fr' j h'] at hj; cases hj
    simp only [ρ3, k]
    rw [if_pos (by omega), show ι.length + (site + (j - ι.length) - site) = j by omega]
    exact hj
  -- the rows afterwards
  have rget : ∀ s r, aw ι site st.rows mem' s = some r → (∃ j r0, mem'[j]? = some r0 ∧ r = r0.ren m ∧ s = m j ∧ (s ∈ ι ∨ st.rows s = none)) ∨ (st.rows s = some r ∧ s ∉ ι) := by
   intro s r h
   unfold aw at h
   rw [bR] at h
   simp only [List.length_map, List.length_drop] at h
   split at h
   ·rename_i hc
    left
    rw [List.getElem?_map, List.getElem?_drop] at h
    cases hq : mem'[ι.length + (s - site)]? with
    | none => rw [hq] at h; cases h
    | some r0 =>
     rw [hq] at h; injection h with h
     refine ⟨_, r0, hq, h.symm, ?_, .inr (newnone s hc)⟩
     simp only [m, mId]
     rw [if_neg (by omega)]; omega
   ·by_cases hs : s ∈ ι
    ·left
     obtain ⟨j, hj, hjs⟩ := List.mem_iff_getElem.1 hs
     have e : ι[j]? = some s := by rw [List.getElem?_eq_getElem hj, hjs]
     rw [k5 _ _ _ j s hnd e (by simp; omega), List.getElem?_map, List.getElem?_take, if_pos hj] at h
     cases hq : mem'[j]? with
     | none => rw [hq] at h; cases h
     | some r0 =>
      rw [hq] at h; injection h with h
      refine ⟨j, r0, hq, h.symm, ?_, .inl hs⟩
      simp only [m, mId]
      rw [if_pos hj]
      simp [hj, hjs]
    ·rw [iU _ _ _ _ hs] at h
     exact .inr ⟨h, hs⟩
  have minj : ∀ i j, i < mem'.length → j < mem'.length → m i = m j → i = j := by
   intro i j hi hj h
   have inb : ∀ q, q < ι.length → st.rows (ι.getD q 0) ≠ none := fun q hq => by
    obtain ⟨r, hr, _⟩ := hι (ι.getD q 0) (by simp [hq])
    rw [hr]; simp
   simp only [m, mId] at h
   by_cases h1 : i < ι.length <;> by_cases h2 : j < ι.length
   ·rw [if_pos h1, if_pos h2] at h
    have e1 : ι[i]? = some (ι.getD i 0) := by simp [h1]
    have e2 : ι[j]? = some (ι.getD j 0) := by simp [h2]
    rw [← h] at e2
    exact nodupJ e1 e2
   ·rw [if_pos h1, if_neg h2] at h
    exact absurd (h ▸ hsite (j - ι.length) (by omega)) (inb i h1)
   ·rw [if_neg h1, if_pos h2] at h
    exact absurd (h ▸ hsite (i - ι.length) (by omega)) (inb j h2)
   ·rw [if_neg h1, if_neg h2] at h
    omega
  have memlt : ∀ {j r0}, mem'[j]? = some r0 → j < mem'.length := fun {j r0} h => by
   rcases Nat.lt_or_ge j mem'.length with h' | h'
   ·exact h'
   ·rw [List.getElem?_eq_none h'] at h; cases h
  have rplace : ∀ {j r0 x}, mem'[j]? = some r0 → r0.solid = true → ρ3 (m j) = some x → ρ' j = some x ∧ eZ M' ρ' w' r0 x := by
   intro j r0 x hj hs hx
   obtain ⟨y, hy, hY⟩ := mr'.row j r0 hj hs
   rw [rm j y hy] at hx
   injection hx with hx; subst hx
   exact ⟨hy, hY⟩
  refine hK (backM M' ρ lnd ι) ρ3 _ w' (Rel.put ?_ (VR.rn3 rm (toBack vr' (fun h => h.1))) hd)
  refine ⟨fun t => (hR.tm t).mono M3le r3le, hR.N, hR.df, ⟨fun s r hr hs => ?_, fun s s' r r' x x' hr hr' hs hs' hx hx' hne hn hn' => ?_, fun b o v hb => ?_, fun b o v s r x hb hr hs hx hn => ?_⟩, hR.chg.trans chg' hDw, fun s r x hr hs hx hn => ?_, Imm.le_trans hR.m0 M3le, Plc.le_trans hR.r0 r3le, fun b hb hCD => ?_, fun s hs => ?_⟩
  ·rcases rget s r hr with ⟨j, r0, hj, rfl, rfl, _⟩ | ⟨hr', hs'⟩
   ·rw [Row.ren_solid] at hs
    obtain ⟨y, hy, hY⟩ := mr'.row j r0 hj hs
    refine ⟨y, rm j y hy, eZ.ren rm ?_⟩
    rcases hfree with hn | hfr
    ·have : backM M' ρ lnd ι = M' := by
      funext b o
      unfold backM
      rw [if_neg]
      rintro ⟨s, cs, x, ⟨E, sz, h1 | h1⟩, _⟩ <;> (rw [hn s] at h1; cases h1)
     rw [this]; exact hY
    ·exact hY.free (hfr.2 r0 (List.mem_of_getElem? hj))
   ·obtain ⟨y, hy, hY⟩ := hR.mr.row s r hr' hs
    exact ⟨y, r3le _ _ hy, (hY.mono M3le r3le).same fun hn => chg'.block _ (hY.lt hs hn) (hDo hr' hs hy hn hs')⟩
  ·rcases rget s r hr with ⟨j, r0, hj, rfl, rfl, _⟩ | ⟨h1, h2⟩
   ·rw [Row.ren_solid] at hs
    obtain ⟨p, _⟩ := rplace hj hs hx
    rcases rget s' r' hr' with ⟨j', r0', hj', rfl, rfl, _⟩ | ⟨h1', h2'⟩
    ·rw [Row.ren_solid] at hs'
     obtain ⟨p', _⟩ := rplace hj' hs' hx'
     exact mr'.inj j j' r0 r0' x x' hj hj' hs hs' p p' (fun e => hne (by rw [e])) hn hn'
    ·obtain ⟨y, hy, _⟩ := hR.mr.row s' r' h1' hs'
     rw [r3le _ _ hy] at hx'; injection hx' with hx'; subst hx'
     intro e
     rcases new' j r0 x hj hs p hn with h | h
     ·exact hDo h1' hs' hy hn' h2' (e ▸ h)
     ·have := oldlt h1' hs' hy hn'; omega
   ·obtain ⟨y, hy, _⟩ := hR.mr.row s r h1 hs
    rw [r3le _ _ hy] at hx; injection hx with hx; subst hx
    rcases rget s' r' hr' with ⟨j', r0', hj', rfl, rfl, _⟩ | ⟨h1', h2'⟩
    ·rw [Row.ren_solid] at hs'
     obtain ⟨p', _⟩ := rplace hj' hs' hx'
     intro e
     rcases new' j' r0' x' hj' hs' p' hn' with h | h
     ·exact hDo h1 hs hy hn h2 (e ▸ h)
     ·have := oldlt h1 hs hy hn; omega
    ·obtain ⟨y', hy', _⟩ := hR.mr.row s' r' h1' hs'
     rw [r3le _ _ hy'] at hx'; injection hx' with hx'; subst hx'
     exact hR.mr.inj s s' r r' y y' h1 h1' hs hs' hy hy' hne hn hn'
  ·obtain ⟨hb, _⟩ := mb hb
   exact mr'.imm b o v hb
  ·obtain ⟨hb, hnl⟩ := mb hb
   rcases rget s r hr with ⟨j, r0, hj, rfl, rfl, _⟩ | ⟨h1, h2⟩
   ·rw [Row.ren_solid] at hs
    obtain ⟨p, _⟩ := rplace hj hs hx
    exact mr'.apt b o v j r0 x hb hj hs p hn
   ·obtain ⟨y, hy, _⟩ := hR.mr.row s r h1 hs
    rw [r3le _ _ hy] at hx; injection hx with hx; subst hx
    rintro rfl
    have := mold' y.g (oldlt h1 hs hy hn) (hDo h1 hs hy hn h2)
    rw [this, m2 hnl] at hb
    exact hR.mr.apt _ o v s r y hb h1 hs hy hn rfl
  ·rcases rget s r hr with ⟨j, r0, hj, rfl, rfl, _⟩ | ⟨h1, h2⟩
   ·rw [Row.ren_solid] at hs
    obtain ⟨p, _⟩ := rplace hj hs hx
    rcases new' j r0 x hj hs p hn with h | h
    ·exact hDw _ h
    ·right; exact Nat.le_trans hR.chg.size h
   ·obtain ⟨y, hy, _⟩ := hR.mr.row s r h1 hs
    rw [r3le _ _ hy] at hx; injection hx with hx; subst hx
    exact hR.new s r y h1 hs hy hn
  ·have hbl : ¬ ∃ s cs x, Lnt lnd s cs ∧ s ∉ ι ∧ ρ s = some x ∧ x.nl = false ∧ x.g = b := by
    rintro ⟨s, cs, x, h1, h2, h3, hn, rfl⟩
    obtain ⟨r1, hr1, hs1⟩ := lntR h1
    rcases hR.new s r1 x hr1 hs1 h3 hn with h | h
    ·exact hCD h
    ·omega
   have hbD : ¬ DOf ρc (bd (ι.map (bS ι lnd st.rows))) b := fun h => (hDw b h).elim hCD (fun h' => by omega)
   rw [← hR.mold b hb hCD, ← m2 hbl, ← mold' b (Nat.lt_of_lt_of_le hb hR.chg.size) hbD]
   funext o
   unfold backM
   rw [if_neg hbl]
  ·have hs' : aw ι site st.rows mem' s = none := hs
   unfold aw at hs'
   rw [bR] at hs'
   simp only [List.length_map, List.length_drop] at hs'
   split at hs'
   ·rename_i hc
    exfalso
    rw [List.getElem?_map, List.getElem?_drop, List.getElem?_eq_getElem (by omega)] at hs'
    cases hs'
   ·rename_i hc
    have hnot : s ∉ ι := fun hsι => by
     obtain ⟨j, hj, hjs⟩ := List.mem_iff_getElem.1 hsι
     have e : ι[j]? = some s := by rw [List.getElem?_eq_getElem hj, hjs]
     rw [k5 _ _ _ j s hnd e (by simp; omega), List.getElem?_map, List.getElem?_take, if_pos hj, List.getElem?_eq_getElem (by omega)] at hs'
     cases hs'
    rw [iU _ _ _ _ hnot] at hs'
    simp only [ρ3, k]
    rw [if_neg hc]
    exact hR.fr s hs'
end
def cls (BR : Nat → Bool) : Op → Nat
 | .load _ _ => 1
 | .alloc _ => 1
 | .box _ _ => 1
 | .buildSlice _ _ _ => 1
 | .makeSlice _ _ _ => 1
 | .store _ _ _ => 3
 | .call c => match c.callee with
  | .builtin .len => 0
  | .builtin .min => 0
  | .builtin .append => 3
  | .value (.func f) => if BR f then 4 else 2
  | .value (.tmp _) => 6
  | _ => 5
 | _ => 0
def St.add (st : St) (site : Nat) (new : List Row) : St := { st with rows := ap st.rows site new }
def oP (P : Program) (site : Nat) (o : Oper) (ι : List Nat) (nt : Bool) (st st' : St) : Prop :=
 ∃ (c : Call) (f : FuncId) (avs : List AV) (lnd : Nat → Option Row) (ret : AV) (mem' : List Row), o.op = .call c ∧ AY st c f avs ∧ (∀ s r, lnd s = some r → st.rows s = some r) ∧ ι.Nodup ∧ (∀ s ∈ ι, ∃ r, st.rows s = some r ∧ r.solid = true) ∧
  aU P f (avs.map (sp nt ι lnd)) (ι.map (bS ι lnd st.rows)) ret mem' ∧ ι.length ≤ mem'.length ∧ ((∀ s, lnd s = none) ∨ (Free ret ∧ ∀ r ∈ mem', ∀ c ∈ r.cells, Free c)) ∧
  (nt = false → mem'.length - ι.length ≤ 16) ∧ (∀ j, j < mem'.length - ι.length → st.rows (site + j) = none) ∧ st' = ({ st with rows := aw ι site st.rows mem' } : St).put o.dst (fS (mId ι site) ret)
def Stp (P : Program) (BR : Nat → Bool) (site : Nat) (o : Oper) (st st' : St) : Prop :=
 match cls BR o.op with
 | 0 => ∃ v, d9 P st.ev o.op = some v ∧ st' = st.put o.dst v
 | 1 => ∃ v nw, aMk P (FZ BR site) site st.ev st.rows o.op = some (v, nw) ∧ (nw.isSome = true → st.rows site = none) ∧ st' = (st.add site nw.toList).put o.dst v
 | 2 => oP P site o [] false st st'
 | 3 => ∃ v rows', pG (aWr P site st.ev st.rows o.op) (FZ BR site) = some (v, rows') ∧ st' = ({ st with rows := rows' } : St).put o.dst v
 | 4 => ∃ ι nt, oP P site o ι nt st st'
 | 6 => ∃ ι nt, oP P site o ι nt st st'
 | _ => False
def Lf (v : AV) (want : Bool) : Prop := v = .tup [] ∨ ∃ b, v = .bool b ∧ b ≠ want
def Gst (P : Program) (BR : Nat → Bool) (ops : Array Oper) (site : Nat) (o : Oper) (st st' : St) : Prop :=
 match o.guard with
 | none => Stp P BR site o st st'
 | some (g, want) => ∃ t, (ops[g]?).bind (·.dst) = some t ∧ ((st.tmps t = .bool want ∧ Stp P BR site o st st') ∨ (Lf (st.tmps t) want ∧ st' = st.put o.dst (.tup [])))
def xk : AV → Nat → Prop
 | .own s _, k => s = k
 | .ptr s _, k => s = k
 | _, _ => False
def pK : AV → Nat → Prop
 | .agg cs, k => ∃ c ∈ cs, xk c k
 | a, k => xk a k
section
variable {P : Program} {BR : Nat → Bool} {ops : Array Oper}
theorem nF {ρ ρ' : Operand → AV} : ∀ (l : List (Nat × Operand)), (∀ p ∈ l, ρ p.2 = ρ' p.2) → gV ρ l = gV ρ' l
 | [], _ => rfl
 | (i, x) :: l, h => by
  simp only [gV]
  rw [show ρ x = ρ' x from h (i, x) (by simp), nF l (fun p hp => h p (by simp [hp]))]
theorem m7 {ρ ρ' : Operand → AV} (op : Op) (h : ∀ x ∈ op.operands, ρ x = ρ' x) : d9 P ρ op = d9 P ρ' op := by
 cases op <;> simp only [Op.operands] at h <;> simp only [d9]
 case move x => rw [h x (by simp)]
 case assign x => rw [h x (by simp)]
 case pick c a b => rw [h c (by simp), h a (by simp), h b (by simp)]
 case build t ps => rw [nF ps.toList (fun p hp => h p.2 (by simp; exact ⟨p.1, by simpa using hp⟩))]
 case binOp op t x y t2 => rw [h x (by simp), h y (by simp)]
 case unOp op t x => rw [h x (by simp)]
 case convert s d x => rw [h x (by simp)]
 case fieldAddr s x f => rw [h x (by simp)]
 case field s x f => rw [h x (by simp)]
 case indexAddr t x i => rw [h x (by simp), h i (by simp)]
 case index t x i => rw [h x (by simp), h i (by simp)]
 case extract x i => rw [h x (by simp)]
 case makeFunc fn first caps =>
  have e : caps.toList.map ρ = caps.toList.map ρ' := List.map_congr_left fun x hx => h x (by simp at hx ⊢; exact .inr hx)
  rw [e]
 case nilCheck x => rw [h x (by simp)]
 case slice t x lo hi mx =>
  cases mx with
  | some mx =>
   cases lo with
   | some _ => rfl
   | none =>
    cases hi with
    | none => rfl
    | some hi =>
     simp only [d9]
     rw [h x (by simp), h hi (by simp), h mx (by simp)]
  | none =>
   simp only [d9]
   rw [h x (by simp)]
   cases lo with
   | none =>
    cases hi with
    | none => rfl
    | some hh => simp only [h hh (by simp)]
   | some l =>
    cases hi with
    | none => simp only [h l (by simp)]
    | some hh => simp only [h hh (by simp), h l (by simp)]
 case call c =>
  split
  ·split
   ·rename_i t x ht hx
    have hm : x ∈ c.args := Array.mem_of_getElem? hx
    rw [h x (by simp [Call.operands, hm])]
   ·rfl
  ·split
   ·rename_i x y hxy
    have h1 : x ∈ c.args := by rw [← Array.mem_toList_iff, hxy]; simp
    have h2 : y ∈ c.args := by rw [← Array.mem_toList_iff, hxy]; simp
    rw [h x (by simp [Call.operands, h1]), h y (by simp [Call.operands, h2])]
   ·rfl
  ·rfl
theorem oR {ρ ρ' : Operand → AV} {fz : Bool} {site : Nat} {rows rows' : Nat → Option Row} {op : Op} {r : AV × Option Row} (h : ∀ x ∈ op.operands, ρ x = ρ' x)
  (hr : ∀ x ∈ op.operands, ∀ s q, pK (ρ x) s → rows s = some q → rows' s = some q) (hm : aMk P fz site ρ rows op = some r) : aMk P fz site ρ' rows' op = some r := by
 cases op <;> simp only [Op.operands] at h hr <;> simp only [aMk] at hm ⊢ <;> first | (cases hm; done) | skip
 case load t x =>
  split at hm
  ·rename_i sz ag ht
   split at hm
   ·rename_i v hl
    have hl' : kg ag sz rows' (ρ' x) = some v := by
     rw [← h x (by simp)]
     have hrr := hr x (by simp)
     unfold kg at hl ⊢
     split at hl
     ·rename_i s off hx
      rw [hx] at hrr
      split at hl
      ·rename_i T cs hrow
       rw [hrr s _ rfl hrow]
       exact hl
      ·rename_i T z cs hrow
       rw [hrr s _ rfl hrow]
       exact hl
      ·rename_i T z cs hrow
       rw [hrr s _ rfl hrow]
       exact hl
      ·cases hl
     ·exact hl
     ·cases hl
    rw [hl']
    exact hm
   ·cases hm
  ·cases hm
 case alloc t => exact hm
 case box t x => rw [← h x (by simp)]; exact hm
 case buildSlice t n ps => rw [← nF ps.toList (fun p hp => h p.2 (by simp; exact ⟨p.1, by simpa using hp⟩))]; exact hm
 case makeSlice t l c => rw [← h l (by simp), ← h c (by simp)]; exact hm
theorem xl {ρ ρ' : Operand → AV} {site : Nat} {rows : Nat → Option Row} {op : Op} (h : ∀ x ∈ op.operands, ρ x = ρ' x) : aWr P site ρ rows op = aWr P site ρ' rows op := by
 cases op <;> simp only [Op.operands] at h <;> simp only [aWr]
 case store t x v => rw [h x (by simp), h v (by simp)]
 case call c =>
  split
  ·rename_i s x t t' hc ha ht
   have hs : s ∈ c.args := by have : s ∈ c.args.toList := by rw [ha]; simp
                              simpa using this
   have hx : x ∈ c.args := by have : x ∈ c.args.toList := by rw [ha]; simp
                              simpa using this
   rw [h s (by simp [Call.operands, hs]), h x (by simp [Call.operands, hx])]
  ·rfl
theorem St.put_rows (st : St) (d : Option Tmp) (v : AV) : (st.put d v).rows = st.rows := by cases d <;> rfl
theorem St.put_tmps_ne (st : St) (d : Option Tmp) (v : AV) (t : Nat) (h : d ≠ some t) : (st.put d v).tmps t = st.tmps t := by
 cases d with
 | none => rfl
 | some k => exact au _ _ (fun e => h (by rw [e]))
theorem St.ev_of {st st2 : St} {o : Oper} (h : ∀ t ∈ o.looksAt ops, st2.tmps t = st.tmps t) : ∀ x ∈ o.op.operands, st.ev x = st2.ev x := by
 intro x hx
 cases x with
 | tmp t =>
  refine (h t ?_).symm
  exact List.mem_append_left _ (List.mem_filterMap.2 ⟨.tmp t, by simpa using hx, rfl⟩)
 | _ => rfl
theorem iB {o : Oper} {c : Call} (hop : o.op = .call c) : ∀ x ∈ c.args.toList, x ∈ o.op.operands := by
 intro x hx
 rw [hop]
 have : x ∈ c.args := by simpa using hx
 simp [Op.operands, Call.operands, this]
theorem sU {o : Oper} {c : Call} {x : Operand} (hop : o.op = .call c) (hx : c.callee = .value x) : x ∈ o.op.operands := by
 rw [hop]
 simp [Op.operands, Call.operands, hx]
theorem sq {ι : List Nat} {lnd lnd2 : Nat → Option Row} {a : AV} (h : ∀ s, xk a s → lnd2 s = lnd s) : bQ ι lnd a = bQ ι lnd2 a := by
 cases a <;> simp only [bQ]
 case own s n => rw [h s rfl]
theorem xm {ι : List Nat} {lnd lnd2 : Nat → Option Row} {a : AV} (h : ∀ s, pK a s → lnd2 s = lnd s) : bq ι lnd a = bq ι lnd2 a := by
 cases a <;> simp only [bq] <;> first | rfl | exact sq (fun s hs => h s hs) | skip
 case agg cs =>
  congr 1
  apply List.map_congr_left
  intro c hc
  exact sq fun s hs => h s ⟨c, hc, hs⟩
theorem Stp.congr {site : Nat} {o : Oper} {st st' st2 : St} (h : Stp P BR site o st st') (hl : ∀ t ∈ o.looksAt ops, st2.tmps t = st.tmps t) (hrows : st2.rows = st.rows) :
  ∃ v rows', st' = ({ st with rows := rows' } : St).put o.dst v ∧ Stp P BR site o st2 (({ st2 with rows := rows' } : St).put o.dst v) := by
 have he := St.ev_of (st := st) (st2 := st2) hl
 have call : ∀ ι nt, oP P site o ι nt st st' → ∃ v rows', st' = ({ st with rows := rows' } : St).put o.dst v ∧ oP P site o ι nt st2 (({ st2 with rows := rows' } : St).put o.dst v) := by
  rintro ι nt ⟨c, f, avs, lnd, ret, mem', hop, hcal, h1, h2, h3, h4, h5, h6, h7, h8, rfl⟩
  have e : c.args.toList.map st2.ev = c.args.toList.map st.ev := List.map_congr_left fun x hx => (he x (iB hop x hx)).symm
  have hcal2 : AY st2 c f avs := by
   rcases hcal with ⟨k1, rfl⟩ | ⟨t, ps, k1, k2, rfl⟩
   ·exact .inl ⟨k1, e.symm⟩
   ·refine .inr ⟨t, ps, k1, ?_, by rw [e]⟩
    have := he (.tmp t) (sU hop k1)
    exact this.symm.trans k2
  refine ⟨_, _, rfl, c, f, avs, lnd, ret, mem', hop, hcal2, by rw [hrows]; exact h1, h2, by rw [hrows]; exact h3, ?_, h5, h6, h7, by rw [hrows]; exact h8, by rw [hrows]⟩
  rw [hrows]; exact h4
 unfold Stp at h ⊢
 split at h
 ·obtain ⟨v, h1, rfl⟩ := h
  exact ⟨v, st.rows, rfl, v, by rw [← m7 o.op he]; exact h1, by rw [← hrows]⟩
 ·obtain ⟨v, nw, h1, h2, rfl⟩ := h
  refine ⟨v, ap st.rows site nw.toList, rfl, v, nw, oR he (fun x hx s q _ hq => by rw [hrows]; exact hq) h1, by rw [hrows]; exact h2, ?_⟩
  simp only [St.add, hrows]
 ·exact call [] false h
 ·obtain ⟨v, rows', h1, rfl⟩ := h
  exact ⟨v, rows', rfl, v, rows', by rw [← xl he, hrows]; exact h1, rfl⟩
 ·obtain ⟨ι, nt, h⟩ := h
  obtain ⟨v, rows', h1, h2⟩ := call ι nt h
  exact ⟨v, rows', h1, ι, nt, h2⟩
 ·obtain ⟨ι, nt, h⟩ := h
  obtain ⟨v, rows', h1, h2⟩ := call ι nt h
  exact ⟨v, rows', h1, ι, nt, h2⟩
 ·exact h.elim
theorem iV {o : Oper} {g : Nat} {want : Bool} {t : Tmp} (hg : o.guard = some (g, want)) (ht : (ops[g]?).bind (·.dst) = some t) : t ∈ o.looksAt ops := by
 simp [Oper.looksAt, hg, ht]
theorem Gst.congr {site : Nat} {o : Oper} {st st' st2 : St} (h : Gst P BR ops site o st st') (hl : ∀ t ∈ o.looksAt ops, st2.tmps t = st.tmps t) (hrows : st2.rows = st.rows) :
  ∃ v rows', st' = ({ st with rows := rows' } : St).put o.dst v ∧ Gst P BR ops site o st2 (({ st2 with rows := rows' } : St).put o.dst v) := by
 unfold Gst at h ⊢
 split at h
 ·exact h.congr hl hrows
 ·rename_i g want hg
  obtain ⟨t, h1, h3⟩ := h
  have ht : st2.tmps t = st.tmps t := hl t (iV hg h1)
  rcases h3 with ⟨h3, h4⟩ | ⟨h3, rfl⟩
  ·obtain ⟨v, rows', e1, e2⟩ := h4.congr hl hrows
   exact ⟨v, rows', e1, t, h1, .inl ⟨ht.trans h3, e2⟩⟩
  ·exact ⟨.tup [], st.rows, rfl, t, h1, .inr ⟨by rw [ht]; exact h3, by rw [← hrows]⟩⟩
theorem Gst.pure {site : Nat} {o : Oper} {st st' : St} (h : Gst P BR ops site o st st') (hc : cls BR o.op = 0) :
  ∃ v, st' = st.put o.dst v ∧ ∀ st2 : St, (∀ t ∈ o.looksAt ops, st2.tmps t = st.tmps t) → Gst P BR ops site o st2 (st2.put o.dst v) := by
 unfold Gst at h
 split at h
 ·rename_i hg
  simp only [Stp, hc] at h
  obtain ⟨v, h1, rfl⟩ := h
  refine ⟨v, rfl, fun st2 hl => ?_⟩
  unfold Gst
  simp only [hg, Stp, hc]
  exact ⟨v, by rw [← m7 o.op (St.ev_of (st := st) (st2 := st2) hl)]; exact h1, rfl⟩
 ·rename_i g want hg
  obtain ⟨t, h1, h3⟩ := h
  rcases h3 with ⟨h3, h4⟩ | ⟨h3, rfl⟩
  ·simp only [Stp, hc] at h4
   obtain ⟨v, h5, rfl⟩ := h4
   refine ⟨v, rfl, fun st2 hl => ?_⟩
   unfold Gst
   simp only [hg]
   refine ⟨t, h1, .inl ⟨by rw [hl t (iV hg h1)]; exact h3, ?_⟩⟩
   simp only [Stp, hc]
   exact ⟨v, by rw [← m7 o.op (St.ev_of (st := st) (st2 := st2) hl)]; exact h5, rfl⟩
  ·refine ⟨.tup [], rfl, fun st2 hl => ?_⟩
   unfold Gst
   simp only [hg]
   exact ⟨t, h1, .inr ⟨by rw [hl t (iV hg h1)]; exact h3, by trivial⟩⟩
theorem fO (site : Nat) (rows : Nat → Option Row) (mem' : List Row) : aw [] site rows mem' = ap rows site (mem'.map (Row.ren (mId [] site))) := by
 simp [aw, iT]
open Classical in
theorem Stp.frame {site : Nat} {o : Oper} {st st' : St} (h : Stp P BR site o st st') (hc : cls BR o.op ≤ 2) :
  ∃ v new, new.length ≤ 16 ∧ (∀ j, j < new.length → st.rows (site + j) = none) ∧ st' = (st.add site new).put o.dst v ∧
   ∀ st2 : St, (∀ t ∈ o.looksAt ops, st2.tmps t = st.tmps t) → (∀ t ∈ o.looksAt ops, ∀ s q, pK (st.tmps t) s → st.rows s = some q → st2.rows s = some q) → (∀ j, j < new.length → st2.rows (site + j) = none) →
    Stp P BR site o st2 ((st2.add site new).put o.dst v) := by
 have looked : ∀ x ∈ o.op.operands, ∀ s, pK (st.ev x) s → ∃ t ∈ o.looksAt ops, pK (st.tmps t) s := by
  intro x hx s hs
  cases x with
  | tmp t => exact ⟨t, List.mem_append_left _ (List.mem_filterMap.2 ⟨.tmp t, by simpa using hx, rfl⟩), hs⟩
  | const v =>
   exfalso
   simp only [St.ev] at hs
   unfold ofV at hs
   split at hs
   ·rename_i cs
    split at hs
    ·obtain ⟨c, hc, hs⟩ := hs
     simp only [List.mem_map] at hc
     obtain ⟨v, _, rfl⟩ := hc
     unfold pA at hs
     split at hs <;> exact hs
    ·exact hs
   ·unfold pA at hs
    split at hs <;> exact hs
  | global g => exact hs.elim
  | func f => exact hs.elim
 unfold Stp at h
 split at h
 ·rename_i hcl
  obtain ⟨v, h1, rfl⟩ := h
  refine ⟨v, [], by simp, by simp, rfl, fun st2 hl _ _ => ?_⟩
  simp only [Stp, hcl]
  exact ⟨v, by rw [← m7 o.op (St.ev_of (st := st) (st2 := st2) hl)]; exact h1, rfl⟩
 ·rename_i hcl
  obtain ⟨v, nw, h1, h2, rfl⟩ := h
  have hlen : nw.toList.length ≤ 1 := by cases nw <;> simp
  have fr : ∀ {rows : Nat → Option Row}, (∀ j, j < nw.toList.length → rows (site + j) = none) ↔ (nw.isSome = true → rows site = none) := by
   intro rows
   cases nw with
   | none => simp
   | some r => simp
  refine ⟨v, nw.toList, by omega, fr.2 h2, rfl, fun st2 hl hr hf => ?_⟩
  simp only [Stp, hcl]
  refine ⟨v, nw, oR (St.ev_of (st := st) (st2 := st2) hl) (fun x hx s q hs hq => ?_) h1, fr.1 hf, rfl⟩
  obtain ⟨t, ht, hs'⟩ := looked x hx s hs
  exact hr t ht s q hs' hq
 ·rename_i hcl
  obtain ⟨c, f, avs, lnd, ret, mem', hop, hcal, h1, h2, h3, h4, h5, h6, h7, h8, rfl⟩ := h
  obtain ⟨hcal', rfl⟩ : c.callee = .value (.func f) ∧ avs = c.args.toList.map st.ev := by
   rcases hcal with hcal | ⟨t, ps, k1, _⟩
   ·exact hcal
   ·simp [cls, hop, k1] at hcl
  refine ⟨_, mem'.map (Row.ren (mId [] site)), by simpa using h7 rfl, by simpa using h8, by rw [fO]; rfl, fun st2 hl hr hf => ?_⟩
  simp only [Stp, hcl]
  refine ⟨c, f, c.args.toList.map st2.ev, (fun s => if ∃ t ∈ o.looksAt ops, pK (st.tmps t) s then lnd s else none), ret, mem', hop, .inl ⟨hcal', rfl⟩, fun s r hs => ?_, h2, by simp, ?_, h5, ?_, h7, by simpa using hf, by rw [fO]; rfl⟩
  ·have hs : (if ∃ t, t ∈ Oper.looksAt ops o ∧ pK (st.tmps t) s then lnd s else none) = some r := hs
   split at hs
   ·rename_i hq
    obtain ⟨t, ht, hs'⟩ := hq
    exact hr t ht s r hs' (h1 s r hs)
   ·cases hs
  ·have e : (c.args.toList.map st2.ev).map (sp false [] (fun s => if ∃ t ∈ o.looksAt ops, pK (st.tmps t) s then lnd s else none)) = (c.args.toList.map st.ev).map (sp false [] lnd) := by
    rw [List.map_map, List.map_map]
    refine List.map_congr_left fun x hx => ?_
    have hxo := iB hop x hx
    simp only [Function.comp]
    rw [← St.ev_of (st := st) (st2 := st2) hl x hxo]
    refine (xm fun s hs => ?_).symm
    rw [if_pos (looked x hxo s hs)]
   rw [e]; exact h4
  ·rcases h6 with h6 | h6
   ·exact .inl fun s => by simp [h6 s]
   ·exact .inr h6
 ·omega
 ·omega
 ·omega
 ·exact h.elim
theorem Gst.frame {site : Nat} {o : Oper} {st st' : St} (h : Gst P BR ops site o st st') (hc : cls BR o.op ≤ 2) :
  ∃ v new, new.length ≤ 16 ∧ (∀ j, j < new.length → st.rows (site + j) = none) ∧ st' = (st.add site new).put o.dst v ∧
   ∀ st2 : St, (∀ t ∈ o.looksAt ops, st2.tmps t = st.tmps t) → (∀ t ∈ o.looksAt ops, ∀ s q, pK (st.tmps t) s → st.rows s = some q → st2.rows s = some q) → (∀ j, j < new.length → st2.rows (site + j) = none) →
    Gst P BR ops site o st2 ((st2.add site new).put o.dst v) := by
 unfold Gst at h
 split at h
 ·rename_i hg
  obtain ⟨v, new, e1, e2, e3, e4⟩ := h.frame (ops := ops) hc
  refine ⟨v, new, e1, e2, e3, fun st2 a b c => ?_⟩
  unfold Gst
  simp only [hg]
  exact e4 st2 a b c
 ·rename_i g want hg
  obtain ⟨t, h1, h3⟩ := h
  rcases h3 with ⟨h3, h4⟩ | ⟨h3, rfl⟩
  ·obtain ⟨v, new, e1, e2, e3, e4⟩ := h4.frame (ops := ops) hc
   refine ⟨v, new, e1, e2, e3, fun st2 a b' c => ?_⟩
   unfold Gst
   simp only [hg]
   exact ⟨t, h1, .inl ⟨by rw [a t (iV hg h1)]; exact h3, e4 st2 a b' c⟩⟩
  ·refine ⟨.tup [], [], by simp, by simp, rfl, fun st2 hl _ _ => ?_⟩
   unfold Gst
   simp only [hg]
   exact ⟨t, h1, .inr ⟨by rw [hl t (iV hg h1)]; exact h3, rfl⟩⟩
def nG (BR : Nat → Bool) (ops : Array Oper) (x y : Oper) : Bool := x.apart ops y && (cls BR x.op == 0 || cls BR y.op == 0 || (decide (cls BR x.op ≤ 2) && decide (cls BR y.op ≤ 2)))
theorem fY (st : St) {x y : Option Tmp} (v u : AV) (h : ∀ d, x = some d → y ≠ some d) : (st.put x v).put y u = (st.put y u).put x v := by
 cases x with
 | none => rfl
 | some d =>
  cases y with
  | none => rfl
  | some e =>
   have hne : e ≠ d := fun he => h d rfl (by rw [he])
   simp only [St.put, AO _ _ _ hne]
theorem dP (st : St) (rows : Nat → Option Row) (d : Option Tmp) (v : AV) : ({ st.put d v with rows := rows } : St) = ({ st with rows := rows } : St).put d v := by cases d <;> rfl
theorem ta (rows : Nat → Option Row) (s s' : Nat) (l l' : List Row) (h : s + l.length ≤ s' ∨ s' + l'.length ≤ s) : ap (ap rows s l) s' l' = ap (ap rows s' l') s l := by
 funext k
 simp only [bR]
 split <;> split <;> first | rfl | omega
theorem K4 {sx sy : Nat} {x y : Oper} {st s1 s2 : St} (hx : Gst P BR ops sx x st s1) (hy : Gst P BR ops sy y s1 s2) (hi : nG BR ops y x = true) (hs : sx + 16 ≤ sy ∨ sy + 16 ≤ sx)
  (hlive : ∀ t ∈ y.looksAt ops, ∀ s, pK (st.tmps t) s → st.rows s ≠ none) : ∃ s1', Gst P BR ops sy y st s1' ∧ Gst P BR ops sx x s1' s2 := by
 unfold nG at hi
 rw [Bool.and_eq_true] at hi
 obtain ⟨a1, a2, a3⟩ := Oper.apart_spec hi.1
 have hc := hi.2
 simp only [Bool.or_eq_true, Bool.and_eq_true, beq_iff_eq, decide_eq_true_eq] at hc
 have notx : ∀ t ∈ y.looksAt ops, x.dst ≠ some t := fun t ht e => a3 t e ht
 have noty : ∀ t ∈ x.looksAt ops, y.dst ≠ some t := fun t ht e => a1 t e ht
 rcases hc with (hc | hc) | hc
 ·-- y reckons
  obtain ⟨v, rows', rfl, _⟩ := hx.congr (st2 := st) (fun _ _ => rfl) rfl
  obtain ⟨u, rfl, hy'⟩ := hy.pure hc
  have h1 := hy' st (fun t ht => by rw [St.put_tmps_ne _ _ _ _ (notx t ht)])
  refine ⟨_, h1, ?_⟩
  obtain ⟨v2, rows2, e1, h2⟩ := hx.congr (st2 := st.put y.dst u) (fun t ht => by rw [St.put_tmps_ne _ _ _ _ (noty t ht)]) (by rw [St.put_rows])
  have e2 : (({ st with rows := rows' } : St).put x.dst v).put y.dst u = ({ st.put y.dst u with rows := rows2 } : St).put x.dst v2 := by
   rw [e1, dP, fY _ _ _ (fun d hd e => a2 d e hd)]
  rw [e2]; exact h2
 ·-- x reckons
  obtain ⟨v, rfl, hx'⟩ := hx.pure hc
  obtain ⟨u, rows', rfl, _⟩ := hy.congr (st2 := st.put x.dst v) (fun _ _ => rfl) rfl
  obtain ⟨u2, rows2, e1, h2⟩ := hy.congr (st2 := st) (fun t ht => by rw [St.put_tmps_ne _ _ _ _ (notx t ht)]) (by rw [St.put_rows])
  refine ⟨_, h2, ?_⟩
  have h3 := hx' (({ st with rows := rows2 } : St).put y.dst u2) (fun t ht => by rw [St.put_tmps_ne _ _ _ _ (noty t ht)])
  have e2 : ({ st.put x.dst v with rows := rows' } : St).put y.dst u = (({ st with rows := rows2 } : St).put y.dst u2).put x.dst v := by
   rw [e1, dP, fY _ _ _ (fun d hd e => a2 d e hd)]
  rw [e2]; exact h3
 ·obtain ⟨v, new, f1, f2, rfl, f4⟩ := hx.frame hc.2
  obtain ⟨u, new', g1, g2, rfl, g4⟩ := hy.frame hc.1
  have h1 := g4 st (fun t ht => by rw [St.put_tmps_ne _ _ _ _ (notx t ht)]; rfl) (fun t ht s q hr hq => by
      rw [St.put_tmps_ne _ _ _ _ (notx t ht)] at hr
      rw [St.put_rows] at hq
      simp only [St.add, bR] at hq
      split at hq
      · rename_i hc'
        exfalso
        have := f2 (s - sx) (by omega)
        rw [show sx + (s - sx) = s by omega] at this
        exact hlive t ht s hr this
      · exact hq) (fun j hj => by
      have := g2 j hj
      rw [St.put_rows] at this
      simp only [St.add, bR] at this
      rwa [if_neg (by omega)] at this)
  refine ⟨_, h1, ?_⟩
  have h2 := f4 ((st.add sy new').put y.dst u) (fun t ht => by rw [St.put_tmps_ne _ _ _ _ (noty t ht)]; rfl) (fun t ht s q hr hq => by
      rw [St.put_rows]
      simp only [St.add, bR]
      split
      · rename_i hc'
        exfalso
        have := g2 (s - sy) (by omega)
        rw [St.put_rows] at this
        simp only [St.add, bR] at this
        rw [if_neg (by omega), show sy + (s - sy) = s by omega, hq] at this
        cases this
      · exact hq) (fun j hj => by
      rw [St.put_rows]
      simp only [St.add, bR]
      rw [if_neg (by omega)]
      exact f2 j hj)
  have e2 : (((st.add sx new).put x.dst v).add sy new').put y.dst u = (((st.add sy new').put y.dst u).add sx new).put x.dst v := by
   have ea : ∀ (q : St) (d : Option Tmp) (z : AV) (s : Nat) (l : List Row), (q.put d z).add s l = (q.add s l).put d z := fun q d z s l => by cases d <;> rfl
   rw [ea, ea, fY _ _ _ (fun d hd e => a2 d e hd)]
   congr 2
   simp only [St.add]
   congr 1
   exact ta _ _ _ _ _ (by omega)
  rw [e2]; exact h2
end
end Go.Proofs.YtbfmljdablopjaaGreat
