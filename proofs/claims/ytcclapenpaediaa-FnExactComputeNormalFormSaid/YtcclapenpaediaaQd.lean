/- Slices of structs with four int fields (gates, Paulis), read and owned. Over any program. -/
import Derived.WalkKit
import Derived.Lib.Hide
import Derived.Handy
import Derived.Deep.QuietTactic
import Derived.BigQuiet
import Derived.Deep.Slices
import Derived.Deep.Fields
import Derived.Lib.SmallJoins
namespace Go.Proofs.Ytcclapenpaediaa
open Go.RowKit Go.Lib
set_option linter.unusedVariables false
set_option linter.unusedSimpArgs false

/-- A world in which nothing that was there in w has changed. -/
structure Lat (w : World) where
  val : World
  ok : Below w.heap.size w val
instance (w : World) : Nonempty (Lat w) := ⟨⟨w, Below.refl _ _⟩⟩
def later (w : World) (x : Lat w) : World := x.val
theorem later_below (w : World) (x : Lat w) : Below w.heap.size w (later w x) := x.ok
@[go_sem] theorem later_cell (w : World) (x : Lat w) (b o : Nat) (h : b < w.heap.size) : (later w x).cell? ⟨b, o, none⟩ = w.cell? ⟨b, o, none⟩ := x.ok.cell (p := ⟨b, o, none⟩) h
@[go_sem] theorem later_frozen (w : World) (x : Lat w) (b o : Nat) (h : b < w.heap.size) : (later w x).frozen? ⟨b, o, none⟩ = w.frozen? ⟨b, o, none⟩ := x.ok.frozen (p := ⟨b, o, none⟩) h
theorem later_of {P : Program} {f : FuncId} {args : Array Value} {w : World} {x : Lat w} {v : Value}
    (h : Calls P f args (later w x) fun e w' => e = .returned v ∧ Below (later w x).heap.size (later w x) w') : Calls P f args (later w x) fun e w'' => e = .returned v ∧ ∃ y, w'' = later w y :=
  h.mono fun _ _ ⟨he, hb⟩ => ⟨he, ⟨_, (later_below w x).trans (hb.mono (later_below w x).size)⟩, rfl⟩
theorem later_of_same {P : Program} {f : FuncId} {args : Array Value} {w : World} {x : Lat w} {v : Value}
    (h : Calls P f args (later w x) fun e w' => e = .returned v ∧ w' = later w x) : Calls P f args (later w x) fun e w'' => e = .returned v ∧ ∃ y, w'' = later w y :=
  h.mono fun _ _ ⟨he, hb⟩ => ⟨he, x, hb⟩
theorem wp_region_later {P : Program} {id : Nat} {Q : Exit → Act → World → Prop} {a : Act} {w : World} {l : List Oper} (hm : P.follows .mixedOrders = true) (hB : Region.lexB .any l.toArray = true)
    (h : wpQuiet P l.toArray (fun w' => ∃ x, w' = later w x) (fun a' => ∀ w', (∃ x, w' = later w x) → Q .normal a' w') l a) : (Code.region id l.toArray true).wp P Q a w :=
  wp_region_quiet (C := fun w' => ∃ x, w' = later w x) hm hB ⟨⟨w.drew, (Below.refl _ _).drew⟩, rfl⟩ (by simpa using h)

abbrev Quad := Int × Int × Int × Int
def qeq (a b : Quad) : Bool := decide (a = b)
theorem qeq_true {a b : Quad} : qeq a b = true ↔ a = b := by simp [qeq]
theorem qeq_false {a b : Quad} : qeq a b = false ↔ a ≠ b := by simp [qeq]
theorem qeq_mk (a0 a1 a2 a3 b0 b1 b2 b3 : Int) : qeq (a0, a1, a2, a3) (b0, b1, b2, b3) = (decide (a0 = b0) && (decide (a1 = b1) && (decide (a2 = b2) && decide (a3 = b3)))) := by
  rw [Bool.eq_iff_iff]; simp [qeq]
def lqeq (a b : List Quad) : Bool := decide (a = b)
theorem lqeq_true {a b : List Quad} : lqeq a b = true ↔ a = b := by simp [lqeq]
theorem lqeq_false {a b : List Quad} : lqeq a b = false ↔ a ≠ b := by simp [lqeq]
@[go_sem] theorem lqeq_refl (a : List Quad) : lqeq a a = true := by simp [lqeq]
@[go_sem] theorem qeq_self (a : Quad) : qeq a a = true := by simp [qeq]
theorem take_snoc_of {l : List Quad} {k : Nat} {q : Quad} (h : l[k]? = some q) : l.take (k + 1) = l.take k ++ [q] := by
  rw [List.take_add_one, h]; rfl
def qc (q : Quad) : List Value := [.int .i64 q.1, .int .i64 q.2.1, .int .i64 q.2.2.1, .int .i64 q.2.2.2]
def qcs (l : List Quad) : List Value := l.flatMap qc

theorem qcs_nil : qcs [] = [] := rfl
theorem qcs_cons (q : Quad) (l : List Quad) : qcs (q :: l) = qc q ++ qcs l := rfl
theorem qcs_append (l m : List Quad) : qcs (l ++ m) = qcs l ++ qcs m := by simp [qcs]
theorem qcs_length (l : List Quad) : (qcs l).length = l.length * 4 := by
  induction l with
  | nil => rfl
  | cons q l ih => rw [qcs_cons, List.length_append, ih, List.length_cons]; simp [qc]; omega
theorem qcs_get (l : List Quad) : ∀ (i j : Nat) (q : Quad), l[i]? = some q → j < 4 → (qcs l)[i * 4 + j]? = (qc q)[j]? := by
  induction l with
  | nil => intro i j q h; simp at h
  | cons p l ih =>
    intro i j q h hj
    rw [qcs_cons]
    cases i with
    | zero =>
      simp at h; subst h
      rw [Nat.zero_mul, Nat.zero_add, List.getElem?_append_left (by simp [qc]; omega)]
    | succ i =>
      rw [List.getElem?_append_right (by simp [qc]; omega)]
      rw [show (i + 1) * 4 + j - (qc p).length = i * 4 + j by simp [qc]; omega]
      exact ih i j q (by simpa using h) hj
theorem qcs_one (l : List Quad) : ∀ u ∈ qcs l, u.oneCell' = true := by
  intro u hu
  simp only [qcs, List.mem_flatMap] at hu
  obtain ⟨q, _, hq⟩ := hu
  simp only [qc, List.mem_cons, List.not_mem_nil, or_false] at hq
  rcases hq with rfl | rfl | rfl | rfl <;> rfl

/-- The slice that begins at A and has n elements reads as the list l. -/
def SlQ (w : World) (A : Option Addr) (n : Nat) (l : List Quad) : Prop :=
  l.length = n ∧ (0 < n → ∃ b off, A = some ⟨b, off, none⟩ ∧ b < w.heap.size ∧ ∀ (i : Nat) (q : Quad), l[i]? = some q →
    w.cell? ⟨b, off + i * 4, none⟩ = some (.int .i64 q.1) ∧ w.cell? ⟨b, off + i * 4 + 1, none⟩ = some (.int .i64 q.2.1) ∧
    w.cell? ⟨b, off + i * 4 + 2, none⟩ = some (.int .i64 q.2.2.1) ∧ w.cell? ⟨b, off + i * 4 + 3, none⟩ = some (.int .i64 q.2.2.2))

theorem SlQ.at {w : World} {A : Option Addr} {n k : Nat} {l : List Quad} (h : SlQ w A n l) (hk : k < n) :
    ∃ (b off : Nat) (q0 q1 q2 q3 : Int), A = some ⟨b, off, none⟩ ∧ b < w.heap.size ∧ Hid (l[k]? = some (q0, q1, q2, q3)) ∧
      w.cell? ⟨b, off + k * 4, none⟩ = some (.int .i64 q0) ∧ w.cell? ⟨b, off + k * 4 + 1, none⟩ = some (.int .i64 q1) ∧
      w.cell? ⟨b, off + k * 4 + 2, none⟩ = some (.int .i64 q2) ∧ w.cell? ⟨b, off + k * 4 + 3, none⟩ = some (.int .i64 q3) := by
  obtain ⟨b, off, hA, hb, hc⟩ := h.2 (by omega)
  have hl : k < l.length := by rw [h.1]; exact hk
  obtain ⟨c0, c1, c2, c3⟩ := hc k _ (List.getElem?_eq_getElem hl)
  exact ⟨b, off, l[k].1, l[k].2.1, l[k].2.2.1, l[k].2.2.2, hA, hb, hid (List.getElem?_eq_getElem hl), c0, c1, c2, c3⟩

theorem SlQ.keep {w w' : World} {A : Option Addr} {n : Nat} {l : List Quad} (h : SlQ w A n l) (hs : w.heap.size ≤ w'.heap.size)
    (hk : ∀ p : Addr, p.block < w.heap.size → w'.cell? p = w.cell? p) : SlQ w' A n l :=
  ⟨h.1, fun hn => by
    obtain ⟨b, off, hA, hb, hc⟩ := h.2 hn
    refine ⟨b, off, hA, by omega, fun i q hq => ?_⟩
    obtain ⟨c0, c1, c2, c3⟩ := hc i q hq
    exact ⟨(hk _ hb).trans c0, (hk _ hb).trans c1, (hk _ hb).trans c2, (hk _ hb).trans c3⟩⟩
theorem SlQ.below {w w' : World} {A : Option Addr} {n : Nat} {l : List Quad} (h : SlQ w A n l) (hb : Below w.heap.size w w') : SlQ w' A n l :=
  h.keep hb.size fun _ hp => hb.cell hp
theorem SlQ.alloc {w : World} {A : Option Addr} {n : Nat} {l : List Quad} (h : SlQ w A n l) (o : Obj) : SlQ (w.alloc o) A n l :=
  h.below ((Below.refl _ _).alloc (Nat.le_refl _) o)
theorem SlQ.drewN {w : World} {A : Option Addr} {n : Nat} {l : List Quad} (h : SlQ w A n l) (k : Nat) : SlQ (w.drewN k) A n l := h
theorem SlQ.drew {w : World} {A : Option Addr} {n : Nat} {l : List Quad} (h : SlQ w A n l) : SlQ w.drew A n l := h
theorem SlQ.nil (w : World) (A : Option Addr) : SlQ w A 0 [] := ⟨rfl, fun h => absurd h (by omega)⟩

/-- A slice of the call's own that holds the list l. -/
def OwnQ (w : World) (base : Nat) (E : TypeId) (v : Value) (l : List Quad) : Prop := w.ownsRow base E 4 v l.length (qcs l)

theorem OwnQ.form {w : World} {base : Nat} {E : TypeId} {v : Value} {l : List Quad} (h : OwnQ w base E v l) : ∃ A c, v = .slice A l.length c := by
  rcases h.2 with ⟨rfl, hn⟩ | ⟨g, cap, cur, rfl, _⟩
  · exact ⟨none, 0, by rw [hn]⟩
  · exact ⟨_, _, rfl⟩
theorem OwnQ.len {w : World} {base : Nat} {E : TypeId} {A : Option Addr} {n c : Nat} {l : List Quad} (h : OwnQ w base E (.slice A n c) l) : n = l.length := by
  rcases h.2 with ⟨hv, hn⟩ | ⟨g, cap, cur, hv, _⟩
  · injection hv with _ h2 _; omega
  · injection hv
theorem OwnQ.head {w : World} {base : Nat} {E : TypeId} {A : Option Addr} {n c : Nat} {l : List Quad} (h : OwnQ w base E (.slice A n c) l) (hn : 0 < n) : ∃ g, A = some ⟨g, 0, none⟩ := by
  rcases h.2 with ⟨hv, hn'⟩ | ⟨g, cap, cur, hv, _⟩
  · have := h.len; omega
  · exact ⟨g, by injection hv⟩
theorem OwnQ.frozen {w : World} {base : Nat} {E : TypeId} {g n c : Nat} {l : List Quad} (h : OwnQ w base E (.slice (some ⟨g, 0, none⟩) n c) l) (j : Nat) : w.frozen? ⟨g, j, none⟩ = false := by
  obtain rfl := h.len
  exact World.ownsRow.frozenAt (h := h) j
theorem OwnQ.reads {w : World} {base : Nat} {E : TypeId} {A : Option Addr} {n c : Nat} {l : List Quad} (h : OwnQ w base E (.slice A n c) l) : SlQ w A n l := by
  have hn : n = l.length := by
    rcases h.2 with ⟨hv, hn⟩ | ⟨g, cap, cur, hv, _⟩
    · injection hv with _ h2 _; omega
    · injection hv
  subst hn
  refine ⟨rfl, fun hp => ?_⟩
  rcases h.2 with ⟨hv, hn⟩ | ⟨g, cap, cur, hv, hb, hg, rest⟩
  · omega
  · have hA : A = some ⟨g, 0, none⟩ := by injection hv
    subst hA
    have hlt : g < w.heap.size := (Array.getElem?_eq_some_iff.1 hg).1
    refine ⟨g, 0, rfl, hlt, fun i q hq => ?_⟩
    have hi : i < l.length := by
      rcases Nat.lt_or_ge i l.length with h' | h'
      · exact h'
      · rw [List.getElem?_eq_none h'] at hq; cases hq
    have hc : ∀ j, j < 4 → w.cell? ⟨g, 0 + i * 4 + j, none⟩ = (qc q)[j]? := fun j hj => by
      rw [Nat.zero_add, World.ownsRow.cellAt (h := (show w.ownsRow base E 4 (.slice (some ⟨g, 0, none⟩) l.length c) l.length (qcs l) from h)) _ (by omega)]
      exact qcs_get l i j q hq hj
    exact ⟨hc 0 (by omega), hc 1 (by omega), hc 2 (by omega), hc 3 (by omega)⟩
theorem OwnQ.below {w w' : World} {base : Nat} {E : TypeId} {v : Value} {l : List Quad} (h : OwnQ w base E v l) (hb : Below w.heap.size w w') : OwnQ w' base E v l :=
  World.ownsRow.kept h (row := none) ⟨hb.os, hb.tape, hb.output, hb.size, fun k hk _ => hb.block k hk⟩ (by cases hv : v.ownBlock <;> simp)
theorem OwnQ.mono {w : World} {base base' : Nat} {E : TypeId} {v : Value} {l : List Quad} (h : OwnQ w base E v l) (hb : base' ≤ base) : OwnQ w base' E v l := by
  refine ⟨h.1, ?_⟩
  rcases h.2 with hn | ⟨g, cap, cur, hv, hbb, rest⟩
  · exact .inl hn
  · exact .inr ⟨g, cap, cur, hv, by omega, rest⟩
theorem OwnQ.nil (w : World) (base : Nat) (E : TypeId) : OwnQ w base E (.slice none 0 0) [] := ⟨by simp [qcs], .inl ⟨rfl, rfl⟩⟩

/-- What a call says that returns a new slice with the list l and changes nothing that was there. -/
def RetQ (E : TypeId) (l : List Quad) (w : World) (e : Ending) (w' : World) : Prop :=
  ∃ A c, e = .returned (.slice A l.length c) ∧ OwnQ w' w.heap.size E (.slice A l.length c) l ∧ Below w.heap.size w w'
theorem RetQ.mk {E : TypeId} {l : List Quad} {w w' : World} {v : Value} (h : OwnQ w' w.heap.size E v l) (hb : Below w.heap.size w w') : RetQ E l w (.returned v) w' := by
  obtain ⟨A, c, rfl⟩ := h.form
  exact ⟨A, c, rfl, h, hb⟩

/-- k, k+1, k+2 .. laid into n structs. -/
def marks (k : Int) (n : Nat) : List Quad := (List.range n).map fun i : Nat => (k + 4 * (i : Int), k + 4 * (i : Int) + 1, k + 4 * (i : Int) + 1 + 1, k + 4 * (i : Int) + 1 + 1 + 1)
theorem marks_length (k : Int) (n : Nat) : (marks k n).length = n := by simp [marks]
theorem marks_get (k : Int) (n i : Nat) (h : i < n) : (marks k n)[i]? = some (k + 4 * i, k + 4 * i + 1, k + 4 * i + 1 + 1, k + 4 * i + 1 + 1 + 1) := by
  simp [marks, List.getElem?_range h]

/-- n structs of zeros, as make lays them. -/
def zeroCells4 (n : Nat) : Array Value := madeCells #[.int .i64 0, .int .i64 0, .int .i64 0, .int .i64 0] (n * 4)
def zeros4 (n : Nat) : List Quad := List.replicate n (0, 0, 0, 0)
theorem zeroCells4_toList (n : Nat) : (zeroCells4 n).toList = qcs (zeros4 n) := by
  apply List.ext_getElem?
  intro j
  by_cases hj : j < n * 4
  · have hq : (zeros4 n)[j / 4]? = some (0, 0, 0, 0) := by simp [zeros4, List.getElem?_replicate]; omega
    have h := qcs_get (zeros4 n) (j / 4) (j % 4) _ hq (by omega)
    rw [show j / 4 * 4 + j % 4 = j by omega] at h
    rw [h]
    have h4 : j % 4 = 0 ∨ j % 4 = 1 ∨ j % 4 = 2 ∨ j % 4 = 3 := by omega
    rcases h4 with h4 | h4 | h4 | h4 <;> simp [zeroCells4, madeCells, hj, h4, qc]
  · rw [List.getElem?_eq_none (by simp [zeroCells4, madeCells]; omega), List.getElem?_eq_none (by rw [qcs_length]; simp [zeros4]; omega)]
theorem OwnQ.made (w : World) (base : Nat) (E : TypeId) (n : Nat) (hb : base ≤ w.heap.size) (hn : n ≤ 1048576) :
    OwnQ (w.alloc (.cells (zeroCells4 n) E)) base E (.slice (some ⟨w.heap.size, 0, none⟩) n n) (zeros4 n) := by
  have h := World.ownsRow_lit (e := E) (size := 4) (base := base) w (zeroCells4 n) n hb (by simp only [maxLen]; omega) (by simp [zeroCells4, madeCells])
  rw [zeroCells4_toList] at h
  unfold OwnQ
  rw [show (zeros4 n).length = n by simp [zeros4]]
  exact h
theorem run_make4 {P : Program} (t e : TypeId) (i : TypeInfo) (ht : P.underlying t = some (.slice e)) (hi : P.info? e = some i) (hz : i.zero = some (.agg #[.int .i64 0, .int .i64 0, .int .i64 0, .int .i64 0]))
    (hs : i.size = 4) (hby : i.bytes = 32) (n : Nat) (hn : n ≤ 1048576) (w : World) :
    (Instr.makeSlice t (.int .i64 (n : Int)) (.int .i64 (n : Int))).run P w = .ok (.slice (some ⟨w.heap.size, 0, none⟩) n n) (w.alloc (.cells (zeroCells4 n) e)) := by
  have hb : (i.bytes : Int) * (n : Int) ≤ 281474976710656 := by rw [hby]; omega
  have hr := run_make (P := P) w t e i _ ht hi hz .i64 .i64 n n (by omega) (by omega) hb (by omega)
  simp only [Int.toNat_natCast, hs] at hr
  exact hr

/-- A store into an owned slice of structs: element i, field j. -/
theorem OwnQ.store {w : World} {base : Nat} {E : TypeId} {g n c : Nat} {l : List Quad} (h : OwnQ w base E (.slice (some ⟨g, 0, none⟩) n c) l) (i : Nat) (hi : i < n) (q : Quad) :
    OwnQ ((((w.setCell ⟨g, i * 4, none⟩ (.int .i64 q.1)).setCell ⟨g, i * 4 + 1, none⟩ (.int .i64 q.2.1)).setCell ⟨g, i * 4 + 2, none⟩ (.int .i64 q.2.2.1)).setCell ⟨g, i * 4 + 3, none⟩ (.int .i64 q.2.2.2)) base E (.slice (some ⟨g, 0, none⟩) n c) (l.set i q) := by
  obtain rfl := h.len
  have h' : w.ownsRow base E 4 (.slice (some ⟨g, 0, none⟩) l.length c) l.length (qcs l) := h
  have h1 := (((((((h'.stored (i * 4) (.int .i64 q.1)).1).stored (i * 4 + 1) (.int .i64 q.2.1)).1).stored (i * 4 + 2) (.int .i64 q.2.2.1)).1).stored (i * 4 + 3) (.int .i64 q.2.2.2)).1
  show World.ownsRow _ base E 4 _ (l.set i q).length (qcs (l.set i q))
  rw [List.length_set]
  have e : ((((qcs l).set (i * 4) (.int .i64 q.1)).set (i * 4 + 1) (.int .i64 q.2.1)).set (i * 4 + 2) (.int .i64 q.2.2.1)).set (i * 4 + 3) (.int .i64 q.2.2.2) = qcs (l.set i q) := by
    clear h1 h' h
    induction l generalizing i with
    | nil => simp at hi
    | cons p l ih =>
      cases i with
      | zero => simp [qcs_cons, qc]
      | succ i =>
        have := ih i (by simpa using hi)
        simp only [List.set_cons_succ, qcs_cons]
        rw [← this]
        simp only [qc, List.cons_append, List.nil_append]
        rw [show (i + 1) * 4 = i * 4 + 1 + 1 + 1 + 1 by omega]
        simp only [List.set_cons_succ]
  rw [e] at h1
  exact h1
theorem OwnQ.lt {w : World} {base : Nat} {E : TypeId} {g n c : Nat} {l : List Quad} (h : OwnQ w base E (.slice (some ⟨g, 0, none⟩) n c) l) : base ≤ g ∧ g < w.heap.size :=
  World.ownsRow.lt (h := h) g rfl
theorem set_take_zeros {l : List Quad} {k n : Nat} {q : Quad} (h : l[k]? = some q) (hk : k < n) : (l.take k ++ zeros4 (n - k)).set k q = l.take (k + 1) ++ zeros4 (n - (k + 1)) := by
  have hl : k < l.length := by
    rcases Nat.lt_or_ge k l.length with h' | h'
    · exact h'
    · rw [List.getElem?_eq_none h'] at h; cases h
  rw [take_snoc_of h, List.set_append_right _ _ (by simp; omega)]
  rw [show n - k = (n - (k + 1)) + 1 by omega]
  simp only [zeros4, List.replicate_succ, List.length_take, Nat.min_eq_left (Nat.le_of_lt hl), Nat.sub_self, List.set_cons_zero, List.append_assoc, List.cons_append, List.nil_append]
/-- The four cells of element k of an owned slice, and that they may be written. -/
theorem OwnQ.at {w : World} {base : Nat} {E : TypeId} {g n c k : Nat} {l : List Quad} (h : OwnQ w base E (.slice (some ⟨g, 0, none⟩) n c) l) (hk : k < n) :
    ∃ (q0 q1 q2 q3 : Int), Hid (l[k]? = some (q0, q1, q2, q3)) ∧ w.cell? ⟨g, k * 4, none⟩ = some (.int .i64 q0) ∧ w.cell? ⟨g, k * 4 + 1, none⟩ = some (.int .i64 q1) ∧
      w.cell? ⟨g, k * 4 + 2, none⟩ = some (.int .i64 q2) ∧ w.cell? ⟨g, k * 4 + 3, none⟩ = some (.int .i64 q3) := by
  obtain ⟨b, off, q0, q1, q2, q3, hA, lb, gq, cq0, cq1, cq2, cq3⟩ := h.reads.at hk
  injection hA with hA; injection hA with hA1 hA2; subst hA1 hA2
  simp only [Nat.zero_add] at cq0 cq1 cq2 cq3
  exact ⟨q0, q1, q2, q3, gq, cq0, cq1, cq2, cq3⟩
theorem marks_succ (k : Int) (j : Nat) : marks k (j + 1) = marks k j ++ [(k + 4 * (j : Int), k + 4 * (j : Int) + 1, k + 4 * (j : Int) + 1 + 1, k + 4 * (j : Int) + 1 + 1 + 1)] := by
  simp [marks, List.range_succ]
theorem set_marks {l : List Quad} {k : Int} {j : Nat} (h : j < l.length) : (marks k j ++ l.drop j).set j (k + 4 * (j : Int), k + 4 * (j : Int) + 1, k + 4 * (j : Int) + 1 + 1, k + 4 * (j : Int) + 1 + 1 + 1) = marks k (j + 1) ++ l.drop (j + 1) := by
  rw [marks_succ, List.set_append_right _ _ (by rw [marks_length]; exact Nat.le_refl _), marks_length, Nat.sub_self, List.drop_eq_getElem_cons h, List.set_cons_zero, List.append_assoc]
  rfl
theorem OwnQ.setLow {w : World} {base : Nat} {E : TypeId} {v : Value} {l : List Quad} (h : OwnQ w base E v l) {a : Addr} (ha : a.block < base) (u : Value) : OwnQ (w.setCell a u) base E v l := by
  refine World.ownsRow.kept h (row := some a.block) ⟨rfl, rfl, rfl, by simp, fun k _ hk => Below.heap_setCell w a u k (fun e => hk (by rw [e]))⟩ ?_
  cases hv : v.ownBlock with
  | none => exact .inl rfl
  | some g =>
    refine .inr fun e => ?_
    have hg := (World.ownsRow.lt (h := h) g hv).1
    injection e with e
    omega
end Go.Proofs.Ytcclapenpaediaa
