/- The engine, part 7: what a call says, and how a caller uses it. Over any program. -/
import Derived.Test.YtfpfalknddfejaaEf
namespace Go.Proofs.Ytfpfalknddfejaa
open Go.RowKit
set_option linter.unusedVariables false
set_option linter.unusedSimpArgs false

def rowsOf (l : List Row) : Nat → Option Row := fun s => l[s]?
def DOf (ρ : Plc) (rows : Nat → Option Row) (b : Nat) : Prop := ∃ s r x, rows s = some r ∧ r.solid = true ∧ ρ s = some x ∧ x.nl = false ∧ x.g = b
def callable (P : Program) (f : FuncId) : Bool := match P.funcs[f]? with
  | some fn => fn.name != "runtime.NumGoroutine" && fn.body.isSome
  | none => false
/-- Called with arguments that read so, the rows of 'mem' (numbered by their places) handed over, the function returns what reads as 'ret'; the rows are then those of 'mem''. -/
def Spec (P : Program) (f : FuncId) (args : List AV) (mem : List Row) (ret : AV) (mem' : List Row) : Prop :=
  callable P f = true ∧ ∀ (M : Imm) (ρ : Plc) (w : World) (vs : Array Value), MR M ρ (rowsOf mem) w → (∀ s, mem.length ≤ s → ρ s = none) → args.length = vs.size →
    (∀ (i : Nat) (c : AV) (v : Value), args[i]? = some c → vs[i]? = some v → VR M ρ c v) →
    Calls P f vs w fun e w' => ∃ v M' ρ', e = .returned v ∧ M.le M' ∧ ρ.le ρ' ∧ MR M' ρ' (rowsOf mem') w' ∧ (∀ s, mem'.length ≤ s → ρ' s = none) ∧ VR M' ρ' ret v ∧ Chg (DOf ρ (rowsOf mem)) w w' ∧
      (∀ b, b < w.heap.size → ¬ DOf ρ (rowsOf mem) b → M' b = M b) ∧ ∀ s r x, rowsOf mem' s = some r → r.solid = true → ρ' s = some x → x.nl = false → DOf ρ (rowsOf mem) x.g ∨ w.heap.size ≤ x.g

def ren1 (f : Nat → Nat) : AV → AV
  | .own s n => .own (f s) n
  | .ptr s o => .ptr (f s) o
  | .agg _ => .top
  | .tup _ => .top
  | a => a
def ren2 (f : Nat → Nat) : AV → AV
  | .agg cs => .agg (cs.map (ren1 f))
  | .tup _ => .top
  | a => ren1 f a
def ren3 (f : Nat → Nat) : AV → AV
  | .tup vs => .tup (vs.map (ren2 f))
  | a => ren2 f a
def Row.ren (f : Nat → Nat) : Row → Row
  | .box T cs => .box T (cs.map (ren1 f))
  | r => r
section
variable {M : Imm} {ρ ρ' : Plc} {f : Nat → Nat}
theorem VR.rn1 (hf : ∀ s x, ρ s = some x → ρ' (f s) = some x) {a : AV} {v : Value} (h : VR M ρ a v) : VR M ρ' (ren1 f a) v := by
  cases h with
  | plain h => cases h <;> first | exact .plain (.top _) | exact .plain (by constructor <;> assumption)
  | own s g n cap h => exact .own _ g n cap (hf _ _ h)
  | ownl s g cap h => exact .ownl _ g cap (hf _ _ h)
  | ptr s off x h hx => exact .ptr _ off x (hf _ _ h) hx
  | agg => exact .plain (.top _)
  | tup => exact .plain (.top _)
theorem VR.rn2 (hf : ∀ s x, ρ s = some x → ρ' (f s) = some x) {a : AV} {v : Value} (h : VR M ρ a v) : VR M ρ' (ren2 f a) v := by
  by_cases hag : ∃ cs, a = .agg cs
  · obtain ⟨cs, rfl⟩ := hag
    obtain ⟨vs, rfl, hl, h1, h2⟩ := h.agg_inv
    refine .agg _ _ (by simpa using hl) h1 (fun i c u hc hu => ?_)
    rw [List.getElem?_map] at hc
    cases hq : cs[i]? with
    | none => rw [hq] at hc; cases hc
    | some q =>
      rw [hq] at hc; injection hc with hc; subst hc
      exact (h2 i q u hq hu).rn1 hf
  · have e : ren2 f a = ren1 f a := by cases a <;> first | rfl | exact absurd ⟨_, rfl⟩ hag
    rw [e]; exact h.rn1 hf
theorem VR.rn3 (hf : ∀ s x, ρ s = some x → ρ' (f s) = some x) {a : AV} {v : Value} (h : VR M ρ a v) : VR M ρ' (ren3 f a) v := by
  by_cases hag : ∃ cs, a = .tup cs
  · obtain ⟨cs, rfl⟩ := hag
    obtain ⟨vs, rfl, hl, h2⟩ := h.tup_inv
    refine .tup _ _ (by simpa using hl) (fun i c u hc hu => ?_)
    rw [List.getElem?_map] at hc
    cases hq : cs[i]? with
    | none => rw [hq] at hc; cases hc
    | some q =>
      rw [hq] at hc; injection hc with hc; subst hc
      exact (h2 i q u hq hu).rn2 hf
  · have e : ren3 f a = ren2 f a := by cases a <;> first | rfl | exact absurd ⟨_, rfl⟩ hag
    rw [e]; exact h.rn2 hf
theorem RowAt.ren (hf : ∀ s x, ρ s = some x → ρ' (f s) = some x) {w : World} {r : Row} {x : At} (h : RowAt M ρ w r x) : RowAt M ρ' w (r.ren f) x := by
  cases r with
  | box T cs =>
    obtain ⟨h0, arr, h1, h2, h3, h4⟩ := h
    refine ⟨h0, arr, h1, by simpa using h2, h3, fun i c v hc hv => ?_⟩
    rw [List.getElem?_map] at hc
    cases hq : cs[i]? with
    | none => rw [hq] at hc; cases hc
    | some q =>
      rw [hq] at hc; injection hc with hc; subst hc
      exact (h4 i q v hq hv).rn1 hf
  | row E sz cs => exact h
  | gone => trivial
end
theorem Row.ren_solid (f : Nat → Nat) (r : Row) : (r.ren f).solid = r.solid := by cases r <;> rfl

/-- Nothing in it refers to immutable cells. -/
inductive Free : AV → Prop
  | int (k n) : Free (.int k n)
  | bool (b) : Free (.bool b)
  | str (s) : Free (.str s)
  | nil : Free .nil
  | own (s n) : Free (.own s n)
  | ptr (s o) : Free (.ptr s o)
  | top : Free .top
  | agg (cs : List AV) (h : ∀ c ∈ cs, Free c) : Free (.agg cs)
  | tup (cs : List AV) (h : ∀ c ∈ cs, Free c) : Free (.tup cs)
theorem PV.free {M M' : Imm} {a : AV} {v : Value} (h : PV M a v) (hf : Free a) : PV M' a v := by
  induction h with
  | int => exact .int ..
  | bool => exact .bool ..
  | str => exact .str ..
  | agg cs vs hl h1 h ih =>
    cases hf with
    | agg _ hf => exact .agg cs vs hl h1 (fun i c v hc hv => ih i c v hc hv (hf c (List.mem_of_getElem? hc)))
  | nil => exact .nil
  | sl => cases hf
  | eptr => cases hf
  | top => exact .top _
theorem VR.free {M M' : Imm} {ρ : Plc} {a : AV} {v : Value} (h : VR M ρ a v) (hf : Free a) : VR M' ρ a v := by
  induction h with
  | plain h => exact .plain (h.free hf)
  | own s g n cap h => exact .own s g n cap h
  | ownl s g cap h => exact .ownl s g cap h
  | ptr s off x h hx => exact .ptr s off x h hx
  | agg cs vs hl h1 h ih =>
    cases hf with
    | agg _ hf => exact .agg cs vs hl h1 (fun i c v hc hv => ih i c v hc hv (hf c (List.mem_of_getElem? hc)))
  | tup cs vs hl h ih =>
    cases hf with
    | tup _ hf => exact .tup cs vs hl (fun i c v hc hv => ih i c v hc hv (hf c (List.mem_of_getElem? hc)))
def Row.cells : Row → List AV
  | .box _ cs => cs
  | .row _ _ cs => cs
  | .gone => []
theorem RowAt.free {M M' : Imm} {ρ : Plc} {w : World} {r : Row} {x : At} (h : RowAt M ρ w r x) (hf : ∀ c ∈ r.cells, Free c) : RowAt M' ρ w r x := by
  cases r with
  | box T cs => obtain ⟨h0, arr, h1, h2, h3, h4⟩ := h; exact ⟨h0, arr, h1, h2, h3, fun i c v a b => (h4 i c v a b).free (hf c (List.mem_of_getElem? a))⟩
  | row E sz cs =>
    rcases h with h | ⟨h0, xs, h1, h2, h3, h4⟩
    · exact .inl h
    · exact .inr ⟨h0, xs, h1, h2, h3, fun i c v a b => (h4 i c v a b).free (hf c (List.mem_of_getElem? a))⟩
  | gone => trivial

def findI : List Nat → Nat → Option Nat
  | [], _ => none
  | a :: l, s => if s = a then some 0 else match findI l s with | some j => some (j + 1) | none => none
theorem findI_some : ∀ {l : List Nat} {s j : Nat}, findI l s = some j → l[j]? = some s
  | [], s, j, h => by cases h
  | a :: l, s, j, h => by
    simp only [findI] at h
    split at h
    · rename_i e; injection h with h; subst h; simp [e]
    · split at h
      · rename_i j' hj
        injection h with h; subst h
        simpa using findI_some hj
      · cases h
theorem findI_none : ∀ {l : List Nat} {s : Nat}, findI l s = none → s ∉ l
  | [], s, h => by simp
  | a :: l, s, h => by
    simp only [findI] at h
    split at h
    · cases h
    · rename_i e
      split at h
      · cases h
      · rename_i hj
        simp only [List.mem_cons, not_or]
        exact ⟨e, findI_none hj⟩
/-- A value as the callee sees it: rows in ι by reference, other slices lent for reading. -/
def pass1 (ι : List Nat) (rows : Nat → Option Row) : AV → AV
  | .own s n => match findI ι s with
    | some j => .own j n
    | none => match rows s with
      | some (.row _ _ cs) => .sl cs n
      | _ => .top
  | .ptr s o => match findI ι s with
    | some j => .ptr j o
    | none => .top
  | .agg _ => .top
  | .tup _ => .top
  | a => a
def pass2 (ι : List Nat) (rows : Nat → Option Row) : AV → AV
  | .agg cs => .agg (cs.map (pass1 ι rows))
  | .tup _ => .top
  | a => pass1 ι rows a
def passRow (ι : List Nat) (lnd rows : Nat → Option Row) (s : Nat) : Row := match rows s with
  | some (.box T cs) => .box T (cs.map (pass1 ι lnd))
  | some (.row E sz cs) => .row E sz cs
  | _ => .gone
def mId (ι : List Nat) (site : Nat) (j : Nat) : Nat := if j < ι.length then ι.getD j 0 else site + (j - ι.length)
def addRows (rows : Nat → Option Row) (s : Nat) : List Row → (Nat → Option Row)
  | [] => rows
  | r :: rs => addRows (upd rows s (some r)) (s + 1) rs
def setRowsI (rows : Nat → Option Row) : List Nat → List Row → (Nat → Option Row)
  | i :: ι, r :: rs => setRowsI (upd rows i (some r)) ι rs
  | _, _ => rows
theorem addRows_get (rows : Nat → Option Row) : ∀ (rs : List Row) (site s : Nat), addRows rows site rs s = if site ≤ s ∧ s < site + rs.length then rs[s - site]? else rows s := by
  intro rs
  induction rs generalizing rows with
  | nil => intro site s; simp only [addRows, List.length_nil]; rw [if_neg (by omega)]
  | cons r rs ih =>
    intro site s
    simp only [addRows, ih]
    by_cases h1 : site + 1 ≤ s ∧ s < site + 1 + rs.length
    · rw [if_pos h1, if_pos (by simp; omega), show s - site = (s - (site + 1)) + 1 by omega, List.getElem?_cons_succ]
    · rw [if_neg h1]
      by_cases h2 : s = site
      · subst h2; rw [upd_same, if_pos (by simp)]; simp
      · rw [upd_ne _ _ h2, if_neg (by simp; omega)]
theorem setRowsI_out (rows : Nat → Option Row) : ∀ (ι : List Nat) (rs : List Row) (s : Nat), s ∉ ι → setRowsI rows ι rs s = rows s := by
  intro ι
  induction ι generalizing rows with
  | nil => intro rs s _; rfl
  | cons i ι ih =>
    intro rs s hs
    cases rs with
    | nil => rfl
    | cons r rs =>
      simp only [setRowsI]
      rw [ih _ _ _ (fun h => hs (by simp [h])), upd_ne _ _ (fun e => hs (by simp [e]))]
theorem setRowsI_in (rows : Nat → Option Row) : ∀ (ι : List Nat) (rs : List Row) (j s : Nat), ι.Nodup → ι[j]? = some s → ι.length ≤ rs.length → setRowsI rows ι rs s = rs[j]? := by
  intro ι
  induction ι generalizing rows with
  | nil => intro rs j s _ h; simp at h
  | cons i ι ih =>
    intro rs j s hn h hl
    cases rs with
    | nil => simp at hl
    | cons r rs =>
      simp only [setRowsI]
      cases j with
      | zero =>
        simp at h; subst h
        rw [setRowsI_out _ _ _ _ (List.nodup_cons.1 hn).1, upd_same]; rfl
      | succ j =>
        rw [ih _ _ j s (List.nodup_cons.1 hn).2 (by simpa using h) (by simpa using hl)]
        simp
/-- The rows of the caller behind a call. -/
def rowsAfter (ι : List Nat) (site : Nat) (rows : Nat → Option Row) (mem' : List Row) : Nat → Option Row :=
  addRows (setRowsI rows ι ((mem'.take ι.length).map (Row.ren (mId ι site)))) site ((mem'.drop ι.length).map (Row.ren (mId ι site)))
end Go.Proofs.Ytfpfalknddfejaa
