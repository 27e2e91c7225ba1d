/- Slices of ints, read and owned. Over any program. -/
import Derived.Test.YtcclapenpaediaaQd
import Derived.Test.YtcclapenpaediaaAp
namespace Go.Proofs.Ytcclapenpaediaa
open Go.RowKit Go.Lib
set_option linter.unusedVariables false
set_option linter.unusedSimpArgs false

theorem heap_alloc_before {w : World} {o : Obj} {k : Nat} {X : Option Obj} (h : k < w.heap.size) (h2 : w.heap[k]? = X) : (w.alloc o).heap[k]? = X := (Below.heap_alloc w o k h).trans h2
theorem heap_alloc_at {w : World} {o : Obj} {k : Nat} (h : k = w.heap.size) : (w.alloc o).heap[k]? = some o := by subst h; exact heap_alloc_new w o

theorem blk3 {w : World} {g : Nat} {t : TypeId} {c0 c1 c2 : Value} (h : w.heap[g]? = some (.cells #[c0, c1, c2] t (0, 0))) :
    w.cell? ⟨g, 0, none⟩ = some c0 ∧ w.cell? ⟨g, 1, none⟩ = some c1 ∧ w.cell? ⟨g, 2, none⟩ = some c2 ∧ ∀ o, w.frozen? ⟨g, o, none⟩ = false :=
  ⟨cell_of_row w g 0 _ t (0, 0) h, cell_of_row w g 1 _ t (0, 0) h, cell_of_row w g 2 _ t (0, 0) h, fun o => frozen_of_row w g o _ t h⟩

theorem stored4o {w1 : World} {g : Nat} {t : TypeId} {c0 c1 c2 c3 : Value} (h : w1.heap[g]? = some (.cells #[c0, c1, c2, c3] t (0, 0))) (v0 v1 v2 v3 : Value) :
    ∃ w2, w2 = (((w1.setCell ⟨g, 0, none⟩ v0).setCell ⟨g, 1, none⟩ v1).setCell ⟨g, 2, none⟩ v2).setCell ⟨g, 3, none⟩ v3 ∧ w2.heap[g]? = some (.cells #[v0, v1, v2, v3] t (0, 0)) ∧ w2.heap.size = w1.heap.size ∧
      (∀ k, k ≠ g → w2.heap[k]? = w1.heap[k]?) ∧ ∀ B w0, Below B w0 w1 → B ≤ g → Below B w0 w2 := by
  obtain ⟨w2, hw, h1, h2, h3⟩ := stored4 h v0 v1 v2 v3
  refine ⟨w2, hw, h1, h2, fun k hk => ?_, h3⟩
  subst hw
  exact (Below.heap_setCell _ _ _ _ hk).trans ((Below.heap_setCell _ _ _ _ hk).trans ((Below.heap_setCell _ _ _ _ hk).trans (Below.heap_setCell _ _ _ _ hk)))
theorem set_blk {w1 : World} {g : Nat} {t : TypeId} {cs : Array Value} (h : w1.heap[g]? = some (.cells cs t (0, 0))) (i : Nat) (v : Value) (cs' : Array Value) (hcs : cs.setIfInBounds i v = cs') :
    ∃ w2, w2 = w1.setCell ⟨g, i, none⟩ v ∧ w2.heap[g]? = some (.cells cs' t (0, 0)) ∧ w2.heap.size = w1.heap.size ∧ (∀ k, k ≠ g → w2.heap[k]? = w1.heap[k]?) ∧ w1.grownBy w2 (some g) ∧ ∀ B w0, Below B w0 w1 → B ≤ g → Below B w0 w2 := by
  refine ⟨_, rfl, ?_, by simp, fun k hk => Below.heap_setCell _ _ _ _ hk, ⟨rfl, rfl, rfl, by simp, fun k _ hk => Below.heap_setCell _ _ _ _ (by simpa using hk)⟩, fun B w0 hb hg => hb.setCell hg _⟩
  rw [← hcs]; exact heap_set_eq h i v
def lieq (a b : List Int) : Bool := decide (a = b)
theorem lieq_true {a b : List Int} : lieq a b = true ↔ a = b := by simp [lieq]
theorem lieq_false {a b : List Int} : lieq a b = false ↔ a ≠ b := by simp [lieq]
@[go_sem] theorem lieq_refl (a : List Int) : lieq a a = true := by simp [lieq]
theorem take_snocI {l : List Int} {k : Nat} {q : Int} (h : l[k]? = some q) : l.take (k + 1) = l.take k ++ [q] := by
  rw [List.take_add_one, h]; rfl
def ics (l : List Int) : List Value := l.map (Value.int .i64)
theorem ics_length (l : List Int) : (ics l).length = l.length := by simp [ics]
theorem ics_append (l m : List Int) : ics (l ++ m) = ics l ++ ics m := by simp [ics]
theorem ics_one (l : List Int) : ∀ u ∈ ics l, u.oneCell' = true := by
  intro u hu
  simp only [ics, List.mem_map] at hu
  obtain ⟨q, _, rfl⟩ := hu
  rfl

/-- The slice that begins at A and has n elements reads as the list l. -/
def SlI (w : World) (A : Option Addr) (n : Nat) (l : List Int) : Prop :=
  l.length = n ∧ (0 < n → ∃ b off, A = some ⟨b, off, none⟩ ∧ b < w.heap.size ∧ ∀ (i : Nat) (q : Int), l[i]? = some q → w.cell? ⟨b, off + i, none⟩ = some (.int .i64 q))
theorem SlI.at {w : World} {A : Option Addr} {n k : Nat} {l : List Int} (h : SlI w A n l) (hk : k < n) :
    ∃ (b off : Nat) (q : Int), A = some ⟨b, off, none⟩ ∧ b < w.heap.size ∧ Hid (l[k]? = some q) ∧ w.cell? ⟨b, off + k, none⟩ = some (.int .i64 q) := by
  obtain ⟨b, off, hA, hb, hc⟩ := h.2 (by omega)
  have hl : k < l.length := by rw [h.1]; exact hk
  exact ⟨b, off, l[k], hA, hb, hid (List.getElem?_eq_getElem hl), hc k _ (List.getElem?_eq_getElem hl)⟩
theorem SlI.keep {w w' : World} {A : Option Addr} {n : Nat} {l : List Int} (h : SlI w A n l) (hs : w.heap.size ≤ w'.heap.size)
    (hk : ∀ p : Addr, p.block < w.heap.size → w'.cell? p = w.cell? p) : SlI w' A n l :=
  ⟨h.1, fun hn => by
    obtain ⟨b, off, hA, hb, hc⟩ := h.2 hn
    exact ⟨b, off, hA, by omega, fun i q hq => (hk _ hb).trans (hc i q hq)⟩⟩
theorem SlI.below {w w' : World} {A : Option Addr} {n : Nat} {l : List Int} (h : SlI w A n l) (hb : Below w.heap.size w w') : SlI w' A n l :=
  h.keep hb.size fun _ hp => hb.cell hp
theorem SlI.alloc {w : World} {A : Option Addr} {n : Nat} {l : List Int} (h : SlI w A n l) (o : Obj) : SlI (w.alloc o) A n l :=
  h.below ((Below.refl _ _).alloc (Nat.le_refl _) o)
theorem SlI.nil (w : World) (A : Option Addr) : SlI w A 0 [] := ⟨rfl, fun h => absurd h (by omega)⟩
theorem SlI.lit (w : World) (t : TypeId) (l : List Int) (cs : Array Value) (h : cs.toList = ics l) : SlI (w.alloc (.cells cs t)) (some ⟨w.heap.size, 0, none⟩) l.length l := by
  refine ⟨rfl, fun _ => ⟨w.heap.size, 0, rfl, by simp, fun i q hq => ?_⟩⟩
  rw [Nat.zero_add, cell_of_row _ _ _ cs t (0, 0) (heap_alloc_new w _)]
  rw [← Array.getElem?_toList, h]
  simp [ics, hq]

/-- A slice of the call's own that holds the list l. -/
def OwnI (w : World) (base : Nat) (E : TypeId) (v : Value) (l : List Int) : Prop := w.ownsRow base E 1 v l.length (ics l)
theorem OwnI.form {w : World} {base : Nat} {E : TypeId} {v : Value} {l : List Int} (h : OwnI w base E v l) : ∃ A c, v = .slice A l.length c := by
  rcases h.2 with ⟨rfl, hn⟩ | ⟨g, cap, cur, rfl, _⟩
  · exact ⟨none, 0, by rw [hn]⟩
  · exact ⟨_, _, rfl⟩
theorem OwnI.len {w : World} {base : Nat} {E : TypeId} {A : Option Addr} {n c : Nat} {l : List Int} (h : OwnI w base E (.slice A n c) l) : n = l.length := by
  rcases h.2 with ⟨hv, hn⟩ | ⟨g, cap, cur, hv, _⟩
  · injection hv with _ h2 _; omega
  · injection hv
theorem OwnI.head {w : World} {base : Nat} {E : TypeId} {A : Option Addr} {n c : Nat} {l : List Int} (h : OwnI w base E (.slice A n c) l) (hn : 0 < n) : ∃ g, A = some ⟨g, 0, none⟩ := by
  rcases h.2 with ⟨hv, hn'⟩ | ⟨g, cap, cur, hv, _⟩
  · have := h.len; omega
  · exact ⟨g, by injection hv⟩
theorem OwnI.frozen {w : World} {base : Nat} {E : TypeId} {g n c : Nat} {l : List Int} (h : OwnI w base E (.slice (some ⟨g, 0, none⟩) n c) l) (j : Nat) : w.frozen? ⟨g, j, none⟩ = false := by
  obtain rfl := h.len
  exact World.ownsRow.frozenAt (h := h) j
theorem OwnI.reads {w : World} {base : Nat} {E : TypeId} {A : Option Addr} {n c : Nat} {l : List Int} (h : OwnI w base E (.slice A n c) l) : SlI w A n l := by
  have hn : n = l.length := h.len
  subst hn
  refine ⟨rfl, fun hp => ?_⟩
  rcases h.2 with ⟨hv, hn⟩ | ⟨g, cap, cur, hv, hb, hg, rest⟩
  · omega
  · have hA : A = some ⟨g, 0, none⟩ := by injection hv
    subst hA
    have hlt : g < w.heap.size := (Array.getElem?_eq_some_iff.1 hg).1
    refine ⟨g, 0, rfl, hlt, fun i q hq => ?_⟩
    have hi : i < l.length := by
      rcases Nat.lt_or_ge i l.length with h' | h'
      · exact h'
      · rw [List.getElem?_eq_none h'] at hq; cases hq
    rw [Nat.zero_add, World.ownsRow.cellAt (h := (show w.ownsRow base E 1 (.slice (some ⟨g, 0, none⟩) l.length c) l.length (ics l) from h)) _ (by omega)]
    simp [ics, hq]
theorem OwnI.below {w w' : World} {base : Nat} {E : TypeId} {v : Value} {l : List Int} (h : OwnI w base E v l) (hb : Below w.heap.size w w') : OwnI w' base E v l :=
  World.ownsRow.kept h (row := none) ⟨hb.os, hb.tape, hb.output, hb.size, fun k hk _ => hb.block k hk⟩ (by cases hv : v.ownBlock <;> simp)
theorem OwnI.mono {w : World} {base base' : Nat} {E : TypeId} {v : Value} {l : List Int} (h : OwnI w base E v l) (hb : base' ≤ base) : OwnI w base' E v l := by
  refine ⟨h.1, ?_⟩
  rcases h.2 with hn | ⟨g, cap, cur, hv, hbb, rest⟩
  · exact .inl hn
  · exact .inr ⟨g, cap, cur, hv, by omega, rest⟩
theorem OwnI.nil (w : World) (base : Nat) (E : TypeId) : OwnI w base E (.slice none 0 0) [] := ⟨by simp [ics], .inl ⟨rfl, rfl⟩⟩
theorem OwnI.lt {w : World} {base : Nat} {E : TypeId} {g n c : Nat} {l : List Int} (h : OwnI w base E (.slice (some ⟨g, 0, none⟩) n c) l) : base ≤ g ∧ g < w.heap.size :=
  World.ownsRow.lt (h := h) g rfl
theorem OwnI.ne {w : World} {base : Nat} {E : TypeId} {A : Option Addr} {n c : Nat} {l : List Int} (h : OwnI w base E (.slice A n c) l) {b : Nat} (hb : b < base ∨ w.heap.size ≤ b) : ∀ a, A = some a → a.block ≠ b := by
  rintro a rfl
  have := World.ownsRow.lt (h := h) a.block rfl
  omega
theorem OwnI.setLow {w : World} {base : Nat} {E : TypeId} {v : Value} {l : List Int} (h : OwnI w base E v l) {a : Addr} (ha : a.block < base) (u : Value) : OwnI (w.setCell a u) base E v l := by
  refine World.ownsRow.kept h (row := some a.block) ⟨rfl, rfl, rfl, by simp, fun k _ hk => Below.heap_setCell w a u k (fun e => hk (by rw [e]))⟩ ?_
  cases hv : v.ownBlock with
  | none => exact .inl rfl
  | some g =>
    refine .inr fun e => ?_
    have hg := (World.ownsRow.lt (h := h) g hv).1
    injection e with e
    omega
theorem OwnI.grown {w w' : World} {base g : Nat} {E : TypeId} {v : Value} {l : List Int} (h : OwnI w base E v l) (hg : w.grownBy w' (some g)) (hb : g < base) : OwnI w' base E v l := by
  refine World.ownsRow.kept h hg ?_
  cases hv : v.ownBlock with
  | none => exact .inl rfl
  | some k =>
    refine .inr fun e => ?_
    have hk := (World.ownsRow.lt (h := h) k hv).1
    injection e with e
    omega
theorem OwnQ.grown {w w' : World} {base g : Nat} {E : TypeId} {v : Value} {l : List Quad} (h : OwnQ w base E v l) (hg : w.grownBy w' (some g)) (hb : g < base) : OwnQ w' base E v l := by
  refine World.ownsRow.kept h hg ?_
  cases hv : v.ownBlock with
  | none => exact .inl rfl
  | some k =>
    refine .inr fun e => ?_
    have hk := (World.ownsRow.lt (h := h) k hv).1
    injection e with e
    omega
theorem OwnI.lit {base : Nat} {E : TypeId} (w : World) (cs : Array Value) (l : List Int) (n : Nat) (hn : n = l.length) (h : cs.toList = ics l) (hb : base ≤ w.heap.size) (hm : n ≤ 1048576) :
    OwnI (w.alloc (.cells cs E)) base E (.slice (some ⟨w.heap.size, 0, none⟩) n n) l := by
  subst hn
  have hs : cs.size = l.length * 1 := by rw [← Array.length_toList, h, ics_length]; omega
  have := World.ownsRow_lit (e := E) (size := 1) (base := base) w cs l.length hb (by simp only [maxLen]; omega) hs
  rw [h] at this
  exact this
theorem SlQ.blk {w w' : World} {A : Option Addr} {n : Nat} {l : List Quad} (h : SlQ w A n l) (hs : w.heap.size ≤ w'.heap.size) (hk : ∀ a, A = some a → w'.heap[a.block]? = w.heap[a.block]?) : SlQ w' A n l :=
  ⟨h.1, fun hn => by
    obtain ⟨b, off, hA, hb, hc⟩ := h.2 hn
    have e : ∀ o, w'.cell? ⟨b, o, none⟩ = w.cell? ⟨b, o, none⟩ := fun o => World.cell?_of_block (a := ⟨b, o, none⟩) (hk ⟨b, off, none⟩ hA)
    refine ⟨b, off, hA, by omega, fun i q hq => ?_⟩
    obtain ⟨c0, c1, c2, c3⟩ := hc i q hq
    exact ⟨(e _).trans c0, (e _).trans c1, (e _).trans c2, (e _).trans c3⟩⟩
theorem OwnQ.blockLt {w : World} {base : Nat} {E : TypeId} {A : Option Addr} {n c : Nat} {l : List Quad} (h : OwnQ w base E (.slice A n c) l) : ∀ a, A = some a → base ≤ a.block ∧ a.block < w.heap.size := by
  rintro a rfl; exact World.ownsRow.lt (h := h) a.block rfl
theorem OwnI.blockLt {w : World} {base : Nat} {E : TypeId} {A : Option Addr} {n c : Nat} {l : List Int} (h : OwnI w base E (.slice A n c) l) : ∀ a, A = some a → base ≤ a.block ∧ a.block < w.heap.size := by
  rintro a rfl; exact World.ownsRow.lt (h := h) a.block rfl
def RetI (E : TypeId) (l : List Int) (w : World) (e : Ending) (w' : World) : Prop :=
  ∃ A c, e = .returned (.slice A l.length c) ∧ OwnI w' w.heap.size E (.slice A l.length c) l ∧ Below w.heap.size w w'
theorem RetI.mk {E : TypeId} {l : List Int} {w w' : World} {v : Value} (h : OwnI w' w.heap.size E v l) (hb : Below w.heap.size w w') : RetI E l w (.returned v) w' := by
  obtain ⟨A, c, rfl⟩ := h.form
  exact ⟨A, c, rfl, h, hb⟩
/-- k, k+1, k+2 .. -/
def marksI (k : Int) (n : Nat) : List Int := (List.range n).map fun i : Nat => k + (i : Int)
theorem marksI_length (k : Int) (n : Nat) : (marksI k n).length = n := by simp [marksI]
theorem marksI_get (k : Int) (n i : Nat) (h : i < n) : (marksI k n)[i]? = some (k + i) := by simp [marksI, List.getElem?_range h]
theorem marksI_succ (k : Int) (j : Nat) : marksI k (j + 1) = marksI k j ++ [k + (j : Int)] := by simp [marksI, List.range_succ]
theorem set_marksI {l : List Int} {k : Int} {j : Nat} (h : j < l.length) : (marksI k j ++ l.drop j).set j (k + (j : Int)) = marksI k (j + 1) ++ l.drop (j + 1) := by
  rw [marksI_succ, List.set_append_right _ _ (by rw [marksI_length]; exact Nat.le_refl _), marksI_length, Nat.sub_self, List.drop_eq_getElem_cons h, List.set_cons_zero, List.append_assoc]
  rfl
def zerosI (n : Nat) : List Int := List.replicate n 0
theorem set_take_zerosI {l : List Int} {k n : Nat} {q : Int} (h : l[k]? = some q) (hk : k < n) : (l.take k ++ zerosI (n - k)).set k q = l.take (k + 1) ++ zerosI (n - (k + 1)) := by
  have hl : k < l.length := by
    rcases Nat.lt_or_ge k l.length with h' | h'
    · exact h'
    · rw [List.getElem?_eq_none h'] at h; cases h
  rw [take_snocI h, List.set_append_right _ _ (by simp; omega)]
  rw [show n - k = (n - (k + 1)) + 1 by omega]
  simp only [zerosI, List.replicate_succ, List.length_take, Nat.min_eq_left (Nat.le_of_lt hl), Nat.sub_self, List.set_cons_zero, List.append_assoc, List.cons_append, List.nil_append]
def zeroCells1 (n : Nat) : Array Value := madeCells #[.int .i64 0] (n * 1)
theorem zeroCells1_toList (n : Nat) : (zeroCells1 n).toList = ics (zerosI n) := by
  apply List.ext_getElem?
  intro j
  by_cases hj : j < n
  · simp [zeroCells1, madeCells, ics, zerosI, hj, List.getElem?_replicate, Nat.mod_one]
  · rw [List.getElem?_eq_none (by simp [zeroCells1, madeCells]; omega), List.getElem?_eq_none (by rw [ics_length]; simp [zerosI]; omega)]
theorem OwnI.made (w : World) (base : Nat) (E : TypeId) (n : Nat) (hb : base ≤ w.heap.size) (hn : n ≤ 1048576) :
    OwnI (w.alloc (.cells (zeroCells1 n) E)) base E (.slice (some ⟨w.heap.size, 0, none⟩) n n) (zerosI n) := by
  have h := World.ownsRow_lit (e := E) (size := 1) (base := base) w (zeroCells1 n) n hb (by simp only [maxLen]; omega) (by simp [zeroCells1, madeCells])
  rw [zeroCells1_toList] at h
  unfold OwnI
  rw [show (zerosI n).length = n by simp [zerosI]]
  exact h
theorem run_make1 {P : Program} (t e : TypeId) (i : TypeInfo) (ht : P.underlying t = some (.slice e)) (hi : P.info? e = some i) (hz : i.zero = some (.int .i64 0))
    (hs : i.size = 1) (hby : i.bytes = 8) (n : Nat) (hn : n ≤ 1048576) (w : World) :
    (Instr.makeSlice t (.int .i64 (n : Int)) (.int .i64 (n : Int))).run P w = .ok (.slice (some ⟨w.heap.size, 0, none⟩) n n) (w.alloc (.cells (zeroCells1 n) e)) := by
  have hb : (i.bytes : Int) * (n : Int) ≤ 281474976710656 := by rw [hby]; omega
  have hr := run_make (P := P) w t e i _ ht hi hz .i64 .i64 n n (by omega) (by omega) hb (by omega)
  simp only [Int.toNat_natCast, hs] at hr
  exact hr
theorem OwnI.store {w : World} {base : Nat} {E : TypeId} {g n c : Nat} {l : List Int} (h : OwnI w base E (.slice (some ⟨g, 0, none⟩) n c) l) (i : Nat) (q : Int) :
    OwnI (w.setCell ⟨g, i, none⟩ (.int .i64 q)) base E (.slice (some ⟨g, 0, none⟩) n c) (l.set i q) := by
  obtain rfl := h.len
  have h' : w.ownsRow base E 1 (.slice (some ⟨g, 0, none⟩) l.length c) l.length (ics l) := h
  have h1 := (h'.stored i (.int .i64 q)).1
  show World.ownsRow _ base E 1 _ (l.set i q).length (ics (l.set i q))
  rw [List.length_set]
  have e : (ics l).set i (.int .i64 q) = ics (l.set i q) := by simp [ics]
  rw [e] at h1
  exact h1
theorem OwnI.at {w : World} {base : Nat} {E : TypeId} {g n c k : Nat} {l : List Int} (h : OwnI w base E (.slice (some ⟨g, 0, none⟩) n c) l) (hk : k < n) :
    ∃ (q : Int), Hid (l[k]? = some q) ∧ w.cell? ⟨g, k, none⟩ = some (.int .i64 q) := by
  obtain ⟨b, off, q0, hA, lb, gq, cq0⟩ := h.reads.at hk
  injection hA with hA; injection hA with hA1 hA2; subst hA1 hA2
  simp only [Nat.zero_add] at cq0
  exact ⟨q0, gq, cq0⟩
section
variable {P : Program}
/-- One int appended: it lies in a block of its own at g. -/
theorem wpList_appendI {w : World} {ops : Array Oper} {rest : List Oper} {o : Oper} {a : Act} {Q : Exit → Act → World → Prop} (hgd : o.guard = none) (s x : Operand) (t : TypeId)
    (ho : o.op = .call { callee := .builtin .append, args := #[s, x], argTypes := #[t, t] }) (E : TypeId) (i : TypeInfo) (ht : P.underlying t = some (.slice E)) (hi : P.info? E = some i)
    (hz : i.zero = some (.int .i64 0)) (hsize : i.size = 1) (hby : i.bytes = 8)
    (base : Nat) (v : Value) (l : List Int) (q0 : Int) (hs : a.eval s = v) (hown : OwnI w base E v l) (g : Nat) (hx : a.eval x = .slice (some ⟨g, 0, none⟩) 1 1)
    (hg : w.heap[g]? = some (.cells #[.int .i64 q0] E (0, 0))) (hlen : l.length + 1 ≤ 1048577) (hbase : base ≤ w.heap.size)
    (h : ∀ A c w', OwnI w' base E (.slice A (l.length + 1) c) (l ++ [q0]) → Below base w w' → wpList P ops Q rest (a.put o.dst (.slice A (l.length + 1) c)) w') : wpList P ops Q (o :: rest) a w := by
  have hown' : w.ownsRow base E 1 v l.length (ics l) := hown
  refine wpList_append_own_at w hgd s x t ho base E i _ 1 8 ht hi hz hsize hby rfl (by omega) v l.length (ics l) hs hown' ⟨g, 0, none⟩ 1 1 (ics [q0]) hx rfl ?_ ?_ (by simp only [maxLen]; omega) (by omega) hbase ?_
  · intro j u hu
    have hadd : (⟨g, 0, none⟩ : Addr).add j = ⟨g, j, none⟩ := by unfold Addr.add; split <;> simp_all
    rw [hadd, cell_of_row w g j _ E (0, 0) hg]
    simpa [ics] using hu
  · exact ics_one _
  · intro v' w' h1 h2 h3 h4
    have ho' : OwnI w' base E v' (l ++ [q0]) := by
      unfold OwnI
      rw [ics_append, List.length_append, List.length_singleton]
      exact h1
    obtain ⟨A, c, rfl⟩ := ho'.form
    rw [List.length_append, List.length_singleton] at ho' ⊢
    exact h A c w' ho' (grown_below h2 hbase fun k hk => (World.ownsRow.lt (h := hown') k hk).1)
/-- A whole slice appended ('append(xs, ys...)'). -/
theorem wpList_appendAllI {w : World} {ops : Array Oper} {rest : List Oper} {o : Oper} {a : Act} {Q : Exit → Act → World → Prop} (hgd : o.guard = none) (s x : Operand) (t : TypeId)
    (ho : o.op = .call { callee := .builtin .append, args := #[s, x], argTypes := #[t, t] }) (E : TypeId) (i : TypeInfo) (ht : P.underlying t = some (.slice E)) (hi : P.info? E = some i)
    (hz : i.zero = some (.int .i64 0)) (hsize : i.size = 1) (hby : i.bytes = 8)
    (base : Nat) (v : Value) (l r : List Int) (hs : a.eval s = v) (hown : OwnI w base E v l) (A : Option Addr) (n c : Nat) (hx : a.eval x = .slice A n c)
    (hr : SlI w A n r) (hlen : l.length + r.length ≤ 1048577) (hbase : base ≤ w.heap.size)
    (h : ∀ A' c' w', OwnI w' base E (.slice A' (l.length + r.length) c') (l ++ r) → Below base w w' → wpList P ops Q rest (a.put o.dst (.slice A' (l.length + r.length) c')) w') : wpList P ops Q (o :: rest) a w := by
  have hown' : w.ownsRow base E 1 v l.length (ics l) := hown
  have fin : ∀ v' w', OwnI w' base E v' (l ++ r) → Below base w w' → wpList P ops Q rest (a.put o.dst v') w' := fun v' w' ho' hb => by
    obtain ⟨A', c', rfl⟩ := ho'.form
    rw [List.length_append] at ho' ⊢
    exact h A' c' w' ho' hb
  rcases A with _ | ad
  · have hn : n = 0 := by
      rcases Nat.eq_zero_or_pos n with h0 | h0
      · exact h0
      · obtain ⟨b, off, hA, _⟩ := hr.2 h0; cases hA
    have hrn : r = [] := List.eq_nil_of_length_eq_zero (by rw [hr.1, hn])
    subst hrn
    refine wpList_plain hgd fun K hK => ?_
    have hrun : (Builtin.append_ #[t, t] o.type #[v, .slice none n c]).run P w = .ok v w := by
      subst hn
      rcases hown'.2 with ⟨rfl, hl0⟩ | ⟨g, cap, cur, rfl, _, _, hnc, _⟩
      · simp [Builtin.append_, run_underlying ht, sizeOf, typeInfo, hi, Builtin.lenOf, Builtin.firstCells]
      · simp [Builtin.append_, run_underlying ht, sizeOf, typeInfo, hi, Builtin.lenOf, Builtin.firstCells, hnc, storeCells]
    unfold Oper.wp execOp
    simp only [ho, resolve, invoke, builtin, Sem.run_bind, Sem.run_pure, Result.andThen_ok, List.map_toArray, List.map_cons, List.map_nil, hs, hx, hrun]
    exact hK _ _ (fin v w (by simpa using hown) (Below.refl _ _))
  · have hadd : ∀ j, 0 < n → ∀ b off, some ad = some (⟨b, off, none⟩ : Addr) → ad.add j = ⟨b, off + j, none⟩ := fun j _ b off e => by
      injection e with e; subst e; unfold Addr.add; split <;> simp_all
    refine wpList_append_own_at w hgd s x t ho base E i _ 1 8 ht hi hz hsize hby rfl (by omega) v l.length (ics l) hs hown' ad n c (ics r) hx (by rw [ics_length, hr.1]; omega) ?_ (ics_one r) (by simp only [maxLen]; have := hr.1; omega) (by have := hr.1; omega) hbase ?_
    · intro j u hu
      have hj : j < r.length := by
        rw [← ics_length]
        rcases Nat.lt_or_ge j (ics r).length with h' | h'
        · exact h'
        · rw [List.getElem?_eq_none h'] at hu; cases hu
      have hn : 0 < n := by have := hr.1; omega
      obtain ⟨b, off, hA, hb, hc⟩ := hr.2 hn
      rw [hadd j hn b off hA, hc j _ (List.getElem?_eq_getElem hj)]
      simpa [ics, List.getElem?_eq_getElem hj] using hu
    · intro v' w' h1 h2 h3 h4
      refine fin v' w' ?_ (grown_below h2 hbase fun k hk => (World.ownsRow.lt (h := hown') k hk).1)
      unfold OwnI
      rw [ics_append, List.length_append, hr.1]
      exact h1
end
end Go.Proofs.Ytcclapenpaediaa
