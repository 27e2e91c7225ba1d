/- append onto an owned slice of structs with four ints. Over any program. -/
import Derived.Test.YtcclapenpaediaaMake
import Derived.Maps.AppendAt
namespace Go.Proofs.Ytcclapenpaediaa
open Go.RowKit
set_option linter.unusedVariables false
set_option linter.unusedSimpArgs false

theorem grown_below {w w' : World} {base : Nat} {row : Option Nat} (h : w.grownBy w' row) (hb : base ≤ w.heap.size) (hr : ∀ k, row = some k → base ≤ k) : Below base w w' :=
  (Below.refl _ _).grown h hb hr

section
variable {P : Program}
/-- One struct appended: it lies in a block of its own at g. -/
theorem wpList_appendQ {w : World} {ops : Array Oper} {rest : List Oper} {o : Oper} {a : Act} {Q : Exit → Act → World → Prop} (hgd : o.guard = none) (s x : Operand) (t : TypeId)
    (ho : o.op = .call { callee := .builtin .append, args := #[s, x], argTypes := #[t, t] }) (E : TypeId) (i : TypeInfo) (ht : P.underlying t = some (.slice E)) (hi : P.info? E = some i)
    (hz : i.zero = some (.agg #[.int .i64 0, .int .i64 0, .int .i64 0, .int .i64 0])) (hsize : i.size = 4) (hby : i.bytes = 32)
    (base : Nat) (v : Value) (l : List Quad) (q0 q1 q2 q3 : Int) (hs : a.eval s = v) (hown : OwnQ w base E v l) (g : Nat) (hx : a.eval x = .slice (some ⟨g, 0, none⟩) 1 1)
    (hg : w.heap[g]? = some (.cells #[.int .i64 q0, .int .i64 q1, .int .i64 q2, .int .i64 q3] E (0, 0))) (hlen : l.length + 1 ≤ 1048576) (hbase : base ≤ w.heap.size)
    (h : ∀ A c w', OwnQ w' base E (.slice A (l.length + 1) c) (l ++ [(q0, q1, q2, q3)]) → Below base w w' → wpList P ops Q rest (a.put o.dst (.slice A (l.length + 1) c)) w') : wpList P ops Q (o :: rest) a w := by
  have hown' : w.ownsRow base E 4 v l.length (qcs l) := hown
  refine wpList_append_own_at w hgd s x t ho base E i _ 4 32 ht hi hz hsize hby rfl (by omega) v l.length (qcs l) hs hown' ⟨g, 0, none⟩ 1 1 (qc (q0, q1, q2, q3)) hx rfl ?_ ?_ (by simp only [maxLen]; omega) (by omega) hbase ?_
  · intro j u hu
    have hadd : (⟨g, 0, none⟩ : Addr).add j = ⟨g, j, none⟩ := by unfold Addr.add; split <;> simp_all
    rw [hadd, cell_of_row w g j _ E (0, 0) hg]
    simpa [qc] using hu
  · intro u hu
    simp only [qc, List.mem_cons, List.not_mem_nil, or_false] at hu
    rcases hu with rfl | rfl | rfl | rfl <;> rfl
  · intro v' w' h1 h2 h3 h4
    have ho' : OwnQ w' base E v' (l ++ [(q0, q1, q2, q3)]) := by
      unfold OwnQ
      rw [qcs_append, List.length_append, List.length_singleton]
      exact h1
    obtain ⟨A, c, rfl⟩ := ho'.form
    rw [List.length_append, List.length_singleton] at ho' ⊢
    exact h A c w' ho' (grown_below h2 hbase fun k hk => (World.ownsRow.lt (h := hown') k hk).1)

/-- A whole slice appended ('append(xs, ys...)'). -/
theorem wpList_appendAll {w : World} {ops : Array Oper} {rest : List Oper} {o : Oper} {a : Act} {Q : Exit → Act → World → Prop} (hgd : o.guard = none) (s x : Operand) (t : TypeId)
    (ho : o.op = .call { callee := .builtin .append, args := #[s, x], argTypes := #[t, t] }) (E : TypeId) (i : TypeInfo) (ht : P.underlying t = some (.slice E)) (hi : P.info? E = some i)
    (hz : i.zero = some (.agg #[.int .i64 0, .int .i64 0, .int .i64 0, .int .i64 0])) (hsize : i.size = 4) (hby : i.bytes = 32)
    (base : Nat) (v : Value) (l r : List Quad) (hs : a.eval s = v) (hown : OwnQ w base E v l) (A : Option Addr) (n c : Nat) (hx : a.eval x = .slice A n c)
    (hr : SlQ w A n r) (hlen : l.length + r.length ≤ 1048576) (hbase : base ≤ w.heap.size)
    (h : ∀ A' c' w', OwnQ w' base E (.slice A' (l.length + r.length) c') (l ++ r) → Below base w w' → wpList P ops Q rest (a.put o.dst (.slice A' (l.length + r.length) c')) w') : wpList P ops Q (o :: rest) a w := by
  have hown' : w.ownsRow base E 4 v l.length (qcs l) := hown
  have fin : ∀ v' w', OwnQ w' base E v' (l ++ r) → Below base w w' → wpList P ops Q rest (a.put o.dst v') w' := fun v' w' ho' hb => by
    obtain ⟨A', c', rfl⟩ := ho'.form
    rw [List.length_append] at ho' ⊢
    exact h A' c' w' ho' hb
  rcases A with _ | ad
  · have hn : n = 0 := by
      rcases Nat.eq_zero_or_pos n with h0 | h0
      · exact h0
      · obtain ⟨b, off, hA, _⟩ := hr.2 h0; cases hA
    have hrn : r = [] := List.eq_nil_of_length_eq_zero (by rw [hr.1, hn])
    subst hrn
    refine wpList_plain hgd fun K hK => ?_
    have hrun : (Builtin.append_ #[t, t] o.type #[v, .slice none n c]).run P w = .ok v w := by
      subst hn
      rcases hown'.2 with ⟨rfl, hl0⟩ | ⟨g, cap, cur, rfl, _, _, hnc, _⟩
      · simp [Builtin.append_, run_underlying ht, sizeOf, typeInfo, hi, Builtin.lenOf, Builtin.firstCells]
      · simp [Builtin.append_, run_underlying ht, sizeOf, typeInfo, hi, Builtin.lenOf, Builtin.firstCells, hnc, storeCells]
    unfold Oper.wp execOp
    simp only [ho, resolve, invoke, builtin, Sem.run_bind, Sem.run_pure, Result.andThen_ok, List.map_toArray, List.map_cons, List.map_nil, hs, hx, hrun]
    exact hK _ _ (fin v w (by simpa using hown) (Below.refl _ _))
  · have hadd : ∀ j, 0 < n → ∀ b off, some ad = some (⟨b, off, none⟩ : Addr) → ad.add j = ⟨b, off + j, none⟩ := fun j _ b off e => by
      injection e with e; subst e; unfold Addr.add; split <;> simp_all
    refine wpList_append_own_at w hgd s x t ho base E i _ 4 32 ht hi hz hsize hby rfl (by omega) v l.length (qcs l) hs hown' ad n c (qcs r) hx (by rw [qcs_length, hr.1]) ?_ (qcs_one r) (by simp only [maxLen]; have := hr.1; omega) (by have := hr.1; omega) hbase ?_
    · intro j u hu
      have hj : j < r.length * 4 := by
        rw [← qcs_length]
        rcases Nat.lt_or_ge j (qcs r).length with h' | h'
        · exact h'
        · rw [List.getElem?_eq_none h'] at hu; cases hu
      have hn : 0 < n := by have := hr.1; omega
      obtain ⟨b, off, hA, hb, hc⟩ := hr.2 hn
      rw [hadd j hn b off hA]
      have hk : j / 4 < r.length := by omega
      have hq : r[j / 4]? = some r[j / 4] := List.getElem?_eq_getElem hk
      obtain ⟨c0, c1, c2, c3⟩ := hc (j / 4) _ hq
      have hg := qcs_get r (j / 4) (j % 4) _ hq (by omega)
      rw [show j / 4 * 4 + j % 4 = j by omega, hu] at hg
      have h4 : j % 4 = 0 ∨ j % 4 = 1 ∨ j % 4 = 2 ∨ j % 4 = 3 := by omega
      have hjj : off + j = off + j / 4 * 4 + j % 4 := by omega
      rw [hjj]
      rcases h4 with h4 | h4 | h4 | h4 <;> rw [h4] at hg ⊢ <;> simp only [qc, List.getElem?_cons_zero, List.getElem?_cons_succ, Nat.add_zero] at hg ⊢
      · rw [c0, hg]
      · rw [c1, hg]
      · rw [c2, hg]
      · rw [c3, hg]
    · intro v' w' h1 h2 h3 h4
      refine fin v' w' ?_ (grown_below h2 hbase fun k hk => (World.ownsRow.lt (h := hown') k hk).1)
      unfold OwnQ
      rw [qcs_append, List.length_append, hr.1]
      exact h1
end
end Go.Proofs.Ytcclapenpaediaa
