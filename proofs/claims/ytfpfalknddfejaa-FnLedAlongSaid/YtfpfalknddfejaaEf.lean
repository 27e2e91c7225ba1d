/- The engine, part 6: stores and append. Over any program. -/
import Derived.Test.YtfpfalknddfejaaEe
namespace Go.Proofs.Ytfpfalknddfejaa
open Go.RowKit
set_option linter.unusedVariables false
set_option linter.unusedSimpArgs false

def srcA (sz : Nat) (rows : Nat → Option Row) : AV → Option (List AV × Nat)
  | .nil => some ([], 0)
  | .sl ys m => if ys.length = m * sz then some (ys, m) else none
  | .own s m => match rows s with
    | some (.row _ z cs) => if z = sz then some (cs, m) else none
    | _ => none
  | _ => none
def spliceA (cs : List AV) (off : Nat) (vs : List AV) : List AV := cs.take off ++ vs ++ cs.drop (off + vs.length)
/-- Operations that write: a store, an append. -/
def aWr (P : Program) (site : Nat) (ρ : Operand → AV) (rows : Nat → Option Row) : Op → Option (AV × (Nat → Option Row))
  | .store t x v => match szA P t, ρ x with
    | some (sz, _), .ptr s off => match rows s with
      | some (.box T cs) => if (ρ v).cells.length = sz ∧ off + sz ≤ cs.length ∧ (ρ v).cells.all AV.one = true then some (.top, upd rows s (some (.box T (spliceA cs off (ρ v).cells)))) else none
      | some (.row E z cs) => if (ρ v).cells.length = sz ∧ off + sz ≤ cs.length ∧ (ρ v).cells.all AV.one = true ∧ (ρ v).cells.all AV.pl = true then some (.top, upd rows s (some (.row E z (spliceA cs off (ρ v).cells)))) else none
      | _ => none
    | _, _ => none
  | .call c => match c.callee, c.args.toList, c.argTypes.toList with
   | .builtin .append, [s, x], [t, t'] => if t = t' then (match elA P t with
    | some (e, sz) => match zeroA P e, srcA sz rows (ρ x) with
      | some z, some (ys, m) => if z.length = sz ∧ 0 < sz ∧ bytesA P e ≤ 8388608 then (match ρ s with
        | .nil => if m ≤ 16777216 ∧ rows site = none then some (.own site m, upd rows site (some (.row e sz ys))) else none
        | .own k n => match rows k with
          | some (.row e' z' cs) => if e' = e ∧ z' = sz ∧ n + m ≤ 16777216 ∧ rows site = none then some (.own site (n + m), upd (upd rows k (some .gone)) site (some (.row e sz (cs ++ ys)))) else none
          | _ => none
        | _ => none) else none
      | _, _ => none
    | none => none) else none
   | _, _, _ => none
  | _ => none

/-- What an append gave counts as immutable from its birth. -/
def frzR (n : Nat) (rows : Nat → Option Row) (s : Nat) : Option Row → Option (AV × (Nat → Option Row))
  | some (.row E sz cs) => some (.sl cs n, upd rows s (some .gone))
  | _ => none
def frzV (rows : Nat → Option Row) : AV → Option (AV × (Nat → Option Row))
  | .own s n => frzR n rows s (rows s)
  | _ => none
def frzO : Option (AV × (Nat → Option Row)) → Option (AV × (Nat → Option Row))
  | some (v, rows) => frzV rows v
  | none => none
def frzW (x : Option (AV × (Nat → Option Row))) : Bool → Option (AV × (Nat → Option Row))
  | true => frzO x
  | false => x
theorem frz_inv {x : Option (AV × (Nat → Option Row))} {v : AV} {rows' : Nat → Option Row} (h : frzW x true = some (v, rows')) : ∃ s n rows E sz cs, x = some (.own s n, rows) ∧ rows s = some (.row E sz cs) ∧ v = .sl cs n ∧ rows' = upd rows s (some .gone) := by
  simp only [frzW] at h
  unfold frzO at h
  split at h
  · rename_i v0 rows
    unfold frzV at h
    split at h
    · rename_i s n
      unfold frzR at h
      split at h
      · rename_i E sz cs hr
        simp only [Option.some.injEq, Prod.mk.injEq] at h
        exact ⟨s, n, rows, E, sz, cs, rfl, hr, h.1.symm, h.2.symm⟩
      · cases h
    · cases h
  · cases h

section
variable {P : Program} {C : Ctx} {M : Imm} {ρ : Plc} {st : St} {a : Act} {w : World}
/-- A new row at a place that no row and no immutable cell has. -/
theorem Rel.addAt (h : Rel C M ρ st a w) {s : Nat} {r : Row} {x : At} (hn : st.rows s = none) (hR : r.solid = true → RowAt M (upd ρ s (some x)) w r x)
    (hd : ∀ s' r' x', st.rows s' = some r' → r'.solid = true → ρ s' = some x' → x'.nl = false → x.nl = false → x'.g ≠ x.g) (ha : ∀ b o v, M b o = some v → x.nl = false → x.g ≠ b) (hw : x.nl = false → C.D x.g ∨ C.w0.heap.size ≤ x.g) :
    Rel C M (upd ρ s (some x)) { st with rows := upd st.rows s (some r) } a w := by
  have hρ := h.fr s hn
  refine ⟨fun t => (h.tm t).mono (Imm.le_refl _) (Plc.le_upd hρ), h.N, h.df, h.mr.add hn hρ hR hd ha, h.chg, fun k q y hk hs hy hn1 => ?_, h.m0, Plc.le_trans h.r0 (Plc.le_upd hρ), h.mold, fun k hk => ?_⟩
  · by_cases e : k = s
    · subst e
      rw [upd_same] at hy; injection hy with hy; subst hy
      exact hw hn1
    · have hk : upd st.rows s (some r) k = some q := hk
      rw [upd_ne _ _ e] at hk hy
      exact h.new k q y hk hs hy hn1
  · by_cases e : k = s
    · subst e
      have hk : upd st.rows k (some r) k = none := hk
      rw [upd_same] at hk; cases hk
    · have hk : upd st.rows s (some r) k = none := hk
      rw [upd_ne _ _ e] at hk ⊢
      exact h.fr k hk

theorem Rel.same_world (h : Rel C M ρ st a w) {w' : World} (hb : Below w.heap.size w w') : Rel C M ρ st a w' :=
  { h with mr := h.mr.same fun b hb' => hb.block b hb', chg := h.chg.trans (E := fun _ => False) (Below.chg hb _) (fun _ h => h.elim) }
/-- A row is given up. -/
theorem Rel.goneRow (h : Rel C M ρ st a w) {k : Nat} (hk : st.rows k ≠ none) : Rel C M ρ { st with rows := upd st.rows k (some .gone) } a w := by
  have key : ∀ j q, upd st.rows k (some .gone) j = some q → q.solid = true → st.rows j = some q := fun j q hj hq => by
    have hjk : j ≠ k := fun e => by rw [e, upd_same] at hj; injection hj with hj; subst hj; cases hq
    rwa [upd_ne _ _ hjk] at hj
  refine { h with mr := ⟨fun j q hj hq => h.mr.row j q (key j q hj hq) hq, fun j j' q q' y y' hj hj' hq hq' => h.mr.inj j j' q q' y y' (key j q hj hq) (key j' q' hj' hq') hq hq', h.mr.imm, fun b o v j q y hM hj hq => h.mr.apt b o v j q y hM (key j q hj hq) hq⟩, new := fun j q y hj hq => h.new j q y (key j q hj hq) hq, fr := fun j hj => h.fr j ?_ }
  have hj : upd st.rows k (some .gone) j = none := hj
  have hjk : j ≠ k := fun e => by rw [e, upd_same] at hj; cases hj
  rwa [upd_ne _ _ hjk] at hj
/-- A nil slice as a row of the call's own. -/
theorem Rel.addNil (h : Rel C M ρ st a w) {s : Nat} (E sz : Nat) (hn : st.rows s = none) :
    Rel C M (upd ρ s (some ⟨0, 0, 0, true⟩)) { st with rows := upd st.rows s (some (.row E sz [])) } a w :=
  h.addAt (x := ⟨0, 0, 0, true⟩) hn (fun _ => .inl ⟨rfl, rfl, rfl⟩) (fun _ _ _ _ _ _ _ h => by cases h) (fun _ _ _ _ h => by cases h) (fun h => by cases h)

theorem splice_get {α : Type} (xs vs : List α) (off i : Nat) (h : off + vs.length ≤ xs.length) : (xs.take off ++ vs ++ xs.drop (off + vs.length))[i]? = if off ≤ i ∧ i < off + vs.length then vs[i - off]? else xs[i]? := by
  by_cases h1 : i < off
  · rw [if_neg (by omega), List.append_assoc, List.getElem?_append_left (by simp; omega), List.getElem?_take, if_pos h1]
  · by_cases h2 : i < off + vs.length
    · rw [if_pos (by omega), List.append_assoc, List.getElem?_append_right (by simp; omega), List.getElem?_append_left (by simp; omega)]
      congr 1
      simp; omega
    · rw [if_neg (by omega), List.getElem?_append_right (by simp; omega), List.getElem?_drop]
      congr 1
      simp; omega
theorem splice_mem {α : Type} {xs vs : List α} {off n : Nat} {p : α → Prop} (h1 : ∀ v ∈ xs, p v) (h2 : ∀ v ∈ vs, p v) : ∀ v ∈ xs.take off ++ vs ++ xs.drop n, p v := by
  intro v hv
  simp only [List.mem_append] at hv
  rcases hv with (hv | hv) | hv
  · exact h1 v (List.mem_of_mem_take hv)
  · exact h2 v hv
  · exact h1 v (List.mem_of_mem_drop hv)

theorem store_run {t : TypeId} {sz : Nat} {ag : Bool} (ht : szA P t = some (sz, ag)) {g off : Nat} {v : Value} {T : TypeId} {cur : Array Value} (hg : w.heap[g]? = some (.cells cur T (0, 0))) (hl : v.cells.size = sz) (hof : off + sz ≤ cur.size) (h1 : ∀ u ∈ v.cells, u.oneCell' = true) :
    (Instr.storeAt t (.pointer (some ⟨g, off, none⟩)) v).run P w = .ok () (w.setRow g (cur.toList.take off ++ v.cells.toList ++ cur.toList.drop (off + v.cells.toList.length)).toArray) := by
  have hs := (run_szA ht w).1
  have hst := run_storeCells_at (P := P) g off T v.cells.toList 0 cur w hg (by simp; omega) (fun u hu => h1 u (by simpa using hu))
  simp only [Nat.add_zero] at hst
  simp only [Instr.storeAt, Instr.sureAddr, storeVar, Sem.run_bind, Sem.run_pure, Result.andThen_ok, hs, hl]
  simp [hst]
theorem setRow_chg (g : Nat) (cs : Array Value) : Chg (fun b => b = g) w (w.setRow g cs) := ⟨rfl, rfl, rfl, by simp, fun k _ hk => setRow_other w g k cs hk⟩

theorem store_ok {o : Oper} {t : TypeId} {x v : Operand} (hop : o.op = .store t x v) {site : Nat} {u : AV} {rows' : Nat → Option Row} (h : aWr P site st.ev st.rows o.op = some (u, rows')) (hR : Rel C M ρ st a w) (hd : ∀ k, o.dst = some k → k < C.N) :
    ∃ w', (execOp a.eval o).run P w = .ok .skip w' ∧ Rel C M ρ (({ st with rows := rows' } : St).put o.dst u) (a.put o.dst undef) w' := by
  have lift : ∀ {s : Sem Unit} {w' : World}, s.run P w = .ok () w' → (do s; pure .skip : Sem Next).run P w = .ok .skip w' := fun hs => by simp [hs]
  have hv := hR.ev
  have hex : execOp a.eval o = (do Instr.storeAt t (a.eval x) (a.eval v); pure .skip) := by unfold execOp; simp only [hop]
  rw [hop] at h
  simp only [aWr] at h
  split at h
  · rename_i sz ag s off ht hx
    have ex := hv x
    rw [hx] at ex
    obtain ⟨y, hy, hyn, ex⟩ := ex.ptr_inv
    split at h
    · rename_i T cs hrow
      split at h
      · rename_i hc
        obtain ⟨c1, c2, c3⟩ := hc
        simp only [Option.some.injEq, Prod.mk.injEq] at h
        obtain ⟨rfl, rfl⟩ := h
        obtain ⟨y', hy', hrow'⟩ := hR.mr.row s _ hrow rfl
        rw [hy] at hy'; injection hy' with hy'; subst hy'
        obtain ⟨h0, arr, h1, h2, h3, h4⟩ := hrow'
        obtain ⟨e1, e2, e3⟩ := (hv v).cells c3
        have hrun := store_run (P := P) (v := a.eval v) (off := off) ht h1 (by omega) (by omega) e2
        refine ⟨_, by rw [hex, ex]; exact lift hrun, (hR.set (r' := .box T (spliceA cs off (st.ev v).cells)) hrow rfl hy hyn (setRow_chg _ _) (fun _ => ⟨hyn, _, setRow_heap w y.g arr _ T (0, 0) h1, ?_, ?_, ?_⟩)).put (.plain (.top _)) hd⟩
        · simp [spliceA]; omega
        · intro q hq
          exact splice_mem (p := fun v => v.oneCell' = true) (xs := arr.toList) (vs := (a.eval v).cells.toList) (off := off) (n := off + (a.eval v).cells.toList.length) (fun u hu => h3 u (by simpa using hu)) (fun u hu => e2 u (by simpa using hu)) q (by simpa using hq)
        · intro i c q hc hq
          simp only [List.getElem?_toArray] at hq
          unfold spliceA at hc
          rw [splice_get _ _ _ _ (by omega)] at hc
          rw [splice_get _ _ _ _ (by simp; omega)] at hq
          simp only [Array.length_toList, ← e1] at hq
          split at hc
          · rename_i hi
            rw [if_pos hi] at hq
            exact e3 _ c q hc (by simpa using hq)
          · rename_i hi
            rw [if_neg hi] at hq
            exact h4 _ c q hc (by simpa using hq)
      · cases h
    · rename_i E z cs hrow
      split at h
      · rename_i hc
        obtain ⟨c1, c2, c3, c4⟩ := hc
        simp only [Option.some.injEq, Prod.mk.injEq] at h
        obtain ⟨rfl, rfl⟩ := h
        obtain ⟨y', hy', hrow'⟩ := hR.mr.row s _ hrow rfl
        rw [hy] at hy'; injection hy' with hy'; subst hy'
        rcases hrow' with ⟨hn1, _⟩ | ⟨h0, xs, h1, h2, h3, h4⟩
        · rw [hyn] at hn1; cases hn1
        obtain ⟨e1, e2, e3⟩ := (hv v).cells c3
        rcases h1.2 with ⟨hn, _⟩ | ⟨g, cap, cur, hvv, hb, hg, hcap, hmax, hcur, htake⟩
        · cases hn
        · have hgg : g = y.g := by injection hvv with q1 _ _; injection q1 with q1; injection q1 with q1; exact q1.symm
          have hcc : cap = y.cap := by injection hvv with _ _ q3; exact q3.symm
          subst hgg hcc
          have hxl : xs.length = y.n * z := h1.1
          have hle : y.n * z ≤ cur.size := by rw [hcur]; exact Nat.mul_le_mul_right _ hcap
          have hrun := store_run (P := P) (v := a.eval v) (off := off) ht hg (by omega) (by omega) e2
          refine ⟨_, by rw [hex, ex]; exact lift hrun, (hR.set (r' := .row E z (spliceA cs off (st.ev v).cells)) hrow rfl hy hyn (setRow_chg _ _) (fun _ => .inr ⟨hyn, xs.take off ++ (a.eval v).cells.toList ++ xs.drop (off + (a.eval v).cells.toList.length), ⟨?_, .inr ⟨y.g, y.cap, _, rfl, Nat.zero_le _, setRow_heap w y.g cur _ E (0, 0) hg, hcap, hmax, ?_, ?_⟩⟩, ?_, ?_, ?_⟩)).put (.plain (.top _)) hd⟩
          · simp; omega
          · simp; omega
          · apply List.ext_getElem?
            intro i
            rw [List.getElem?_take]
            by_cases hi : i < y.n * z
            · rw [if_pos hi, splice_get _ _ _ _ (by simp; omega)]
              rw [List.toList_toArray, splice_get _ _ _ _ (by simp; omega)]
              split
              · rfl
              · rw [← htake, List.getElem?_take, if_pos hi]
            · rw [if_neg hi, List.getElem?_eq_none (by simp; omega)]
          · simp [spliceA]; omega
          · exact splice_mem (p := fun v => v.oneCell' = true) (vs := (a.eval v).cells.toList) h3 (fun u hu => e2 u (by simpa using hu))
          · intro i c q hc hq
            unfold spliceA at hc
            rw [splice_get _ _ _ _ (by omega)] at hc
            rw [splice_get _ _ _ _ (by simp; omega)] at hq
            simp only [Array.length_toList, ← e1] at hq
            split at hc
            · rename_i hi
              rw [if_pos hi] at hq
              exact (e3 _ c q hc (by simpa using hq)).pl (List.all_eq_true.1 c4 c (List.mem_of_getElem? hc))
            · rename_i hi
              rw [if_neg hi] at hq
              exact h4 _ c q hc (by simpa using hq)
      · cases h
    · cases h
  · cases h

theorem run_append_none {t ty e : TypeId} {i : TypeInfo} (ht : P.underlying t = some (.slice e)) (hi : P.info? e = some i) {v : Value} {n : Nat} {xs : List Value} (hown : w.ownsRow 0 e i.size v n xs) (c : Nat) :
    (Builtin.append_ #[t, t] ty #[v, .slice none 0 c]).run P w = .ok v w := by
  rcases hown.2 with ⟨rfl, hl0⟩ | ⟨g, cap, cur, rfl, _, _, hnc, _⟩
  · simp [Builtin.append_, run_underlying ht, sizeOf, typeInfo, hi, Builtin.lenOf, Builtin.firstCells]
  · simp [Builtin.append_, run_underlying ht, sizeOf, typeInfo, hi, Builtin.lenOf, Builtin.firstCells, hnc, storeCells]

/-- The source of an append: its concrete cells. -/
theorem src_ok {sz : Nat} {x : AV} {u : Value} {ys : List AV} {m : Nat} (h : srcA sz st.rows x = some (ys, m)) (hR : Rel C M ρ st a w) (hv : VR M ρ x u) :
    ∃ A c, u = .slice A m c ∧ ∃ news : List Value, ys.length = m * sz ∧ news.length = m * sz ∧ (0 < m → A ≠ none) ∧ (∀ ad, A = some ad → ∀ j q, news[j]? = some q → w.cell? (ad.add j) = some q) ∧ (∀ q ∈ news, q.oneCell' = true) ∧
      ∀ (i : Nat) (c : AV) (q : Value), ys[i]? = some c → news[i]? = some q → PV M c q := by
  unfold srcA at h
  split at h
  · simp only [Option.some.injEq, Prod.mk.injEq] at h
    obtain ⟨rfl, rfl⟩ := h
    obtain rfl := hv.nil_inv
    exact ⟨none, 0, rfl, [], by simp, by simp, by simp, by simp, by simp, by simp⟩
  · rename_i ys' m'
    split at h
    · rename_i hl
      simp only [Option.some.injEq, Prod.mk.injEq] at h
      obtain ⟨rfl, rfl⟩ := h
      have hv := hv.sl_inv
      cases hv with
      | sl _ _ A cap b off f hA hn hm hh =>
        refine ⟨A, cap, rfl, (List.range ys'.length).map f, hl, by simpa using hl, fun hp => by rw [hA hp]; simp, fun ad had j q hq => ?_, fun q hq => ?_, fun i c q hc hq => ?_⟩
        · have hj : j < ys'.length := by
            rcases Nat.lt_or_ge j ys'.length with h' | h'
            · exact h'
            · rw [List.getElem?_eq_none (by simpa using h')] at hq; cases hq
          have hmp : 0 < m' := by
            rcases Nat.eq_zero_or_pos m' with h0 | h0
            · rw [h0] at hl; omega
            · exact h0
          rw [hA hmp] at had
          injection had with had; subst had
          rw [add_off]
          have := (hR.mr.imm _ _ _ (hm j _ (List.getElem?_eq_getElem hj))).1
          rw [this]
          simp [List.getElem?_range hj] at hq
          rw [hq]
        · simp only [List.mem_map, List.mem_range] at hq
          obtain ⟨j, hj, rfl⟩ := hq
          exact (hR.mr.imm _ _ _ (hm j _ (List.getElem?_eq_getElem hj))).2
        · have hi : i < ys'.length := by
            rcases Nat.lt_or_ge i ys'.length with h' | h'
            · exact h'
            · rw [List.getElem?_eq_none h'] at hc; cases hc
          simp [List.getElem?_range hi] at hq
          rw [← hq]
          exact hh i c hc
    · cases h
  · rename_i s m'
    split at h
    · rename_i E z cs hrow
      split at h
      · rename_i hz
        simp only [Option.some.injEq, Prod.mk.injEq] at h
        obtain ⟨rfl, rfl⟩ := h
        subst hz
        obtain ⟨y, hy, hY⟩ := hR.mr.row s _ hrow rfl
        obtain ⟨g, cap, ⟨hs, rfl⟩ | ⟨hs, hn0, rfl⟩⟩ := hv.own_inv
        rotate_left
        · subst hn0
          rw [hs] at hy; injection hy with hy; subst hy
          rcases hY with ⟨_, rfl, _⟩ | ⟨hn1, _⟩
          · exact ⟨none, 0, rfl, [], by simp, by simp, by simp, by simp, by simp, by simp⟩
          · cases hn1
        rw [hs] at hy; injection hy with hy; subst hy
        rcases hY with ⟨hn1, _⟩ | ⟨_, xs, h1, h2, h3, h4⟩
        · cases hn1
        refine ⟨_, _, rfl, xs, by rw [h2]; exact h1.1, h1.1, fun _ => by simp, fun ad had j q hq => ?_, h3, h4⟩
        injection had with had; subst had
        exact World.ownsRow.cells h1 (g := g) rfl j q hq
      · cases h
    · cases h
  · cases h

theorem append_ok {o : Oper} {c : Call} (hop : o.op = .call c) {site : Nat} {u : AV} {rows' : Nat → Option Row} (h : aWr P site st.ev st.rows o.op = some (u, rows')) (hR : Rel C M ρ st a w) (hd : ∀ k, o.dst = some k → k < C.N) :
    ∃ z ρ' w', (execOp a.eval o).run P w = .ok (.value z) w' ∧ Rel C M ρ' (({ st with rows := rows' } : St).put o.dst u) (a.put o.dst z) w' := by
  rw [hop] at h
  simp only [aWr] at h
  split at h
  case h_2 => cases h
  rename_i s x t t' hcal hargs htys
  split at h
  case isFalse => cases h
  rename_i htt
  subst htt
  have hcargs : c.args = #[s, x] := by rw [← Array.toArray_toList (xs := c.args), hargs]
  have hctys : c.argTypes = #[t, t] := by rw [← Array.toArray_toList (xs := c.argTypes), htys]
  have hex : ∀ {r : Value} {w' : World}, (Builtin.append_ #[t, t] o.type #[a.eval s, a.eval x]).run P w = .ok r w' → (execOp a.eval o).run P w = .ok (.value r) w' := fun hs => by
    unfold execOp
    simp only [hop, resolve, hcal, hcargs, hctys, invoke, builtin, Sem.run_bind, Sem.run_pure, Result.andThen_ok, List.map_toArray, List.map_cons, List.map_nil, hs]
  have hv := hR.ev
  split at h
  · rename_i e sz he
    split at h
    · rename_i z ys m hz hsrc
      split at h
      · rename_i hc
        obtain ⟨c1, c2, c3⟩ := hc
        obtain ⟨inf, hu, hinf, hsz⟩ := elA_inv he
        obtain ⟨zv, z1, z2, z3, z4⟩ := zeroA_inv hz
        have hzv : inf.zero = some zv := by
          have := z1 w
          simp only [zeroValue, typeInfo, Sem.run_bind, run_program, Result.andThen_ok, hinf, Sem.run_pure] at this
          cases hzz : inf.zero with
          | none => rw [hzz] at this; simp [unsupported] at this
          | some q => rw [hzz] at this; simp at this; first | rw [this] | (rw [← this])
        have hby : bytesA P e = inf.bytes := by simp [bytesA, hinf]
        obtain ⟨A, cx, hxv, news, l1, l2, l3, l4, l5, l6⟩ := src_ok hsrc hR (hv x)
        -- what an append gives
        have main : ∀ (v : Value) (n : Nat) (xs : List Value), a.eval s = v → w.ownsRow 0 e sz v n xs → n + m ≤ 16777216 → (v ≠ .slice none 0 0 ∨ 0 < m) →
            ∃ g cap w', (Builtin.append_ #[t, t] o.type #[a.eval s, a.eval x]).run P w = .ok (.slice (some ⟨g, 0, none⟩) (n + m) cap) w' ∧ w'.ownsRow 0 e sz (.slice (some ⟨g, 0, none⟩) (n + m) cap) (n + m) (xs ++ news) ∧ w.grownBy w' v.ownBlock ∧ (some g = v.ownBlock ∨ g = w.heap.size) := by
          intro v n xs hsv hown hnm hne
          have form : ∀ {w' : World} {v' : Value}, w'.ownsRow 0 e sz v' (n + m) (xs ++ news) → v' ≠ .slice none 0 0 → ∃ g cap, v' = .slice (some ⟨g, 0, none⟩) (n + m) cap := fun ho hne => by
            rcases ho.2 with ⟨hv, _⟩ | ⟨g, cap, cur, hv, _⟩
            · exact absurd hv hne
            · exact ⟨g, cap, hv⟩
          cases A with
          | none =>
            have hm0 : m = 0 := by
              rcases Nat.eq_zero_or_pos m with h0 | h0
              · exact h0
              · exact absurd rfl (l3 h0)
            subst hm0
            have hnn : news = [] := List.eq_nil_of_length_eq_zero (by simpa using l2)
            subst hnn
            have hrun := run_append_none (P := P) (w := w) (ty := o.type) (c := cx) hu hinf (by rw [hsz]; exact hown)
            have hown' : w.ownsRow 0 e sz v (n + 0) (xs ++ []) := by simpa using hown
            obtain ⟨g, cap, rfl⟩ := form hown' (by rcases hne with h' | h'; exact h'; omega)
            exact ⟨g, cap, w, by rw [hsv, hxv]; exact hrun, hown', ⟨rfl, rfl, rfl, Nat.le_refl _, fun _ _ _ => rfl⟩, .inl rfl⟩
          | some ad =>
            have hbytes : (n + m) * inf.bytes ≤ 140737488355328 := by
              have h1 : inf.bytes ≤ 8388608 := by omega
              have h2 : (n + m) * inf.bytes ≤ 16777216 * 8388608 := Nat.mul_le_mul hnm h1
              omega
            obtain ⟨v', w', r1, r2, r3, r4, r5⟩ := run_append_own_at (P := P) w 0 t o.type e inf zv sz inf.bytes hu hinf hzv hsz rfl (by omega) c2 v n xs hown ad m cx news l2 (l4 ad rfl) l5 (by simp only [maxLen]; omega) hbytes (Nat.zero_le _)
            have hnn : v' ≠ .slice none 0 0 := fun e => by
              obtain ⟨q1, q2⟩ := r4.1 e
              rcases hne with h' | h'
              · exact h' q1
              · omega
            obtain ⟨g, cap, rfl⟩ := form r2 hnn
            refine ⟨g, cap, w', by rw [hsv, hxv]; exact r1, r2, r3, ?_⟩
            rcases r5 with h' | h'
            · exact .inl h'
            · right; simpa [Value.ownBlock] using h'
        have cat : ∀ (cs : List AV) (xs : List Value), cs.length = xs.length → (∀ (i : Nat) (c : AV) (q : Value), cs[i]? = some c → xs[i]? = some q → PV M c q) →
            ∀ (i : Nat) (c : AV) (q : Value), (cs ++ ys)[i]? = some c → (xs ++ news)[i]? = some q → PV M c q := by
          intro cs xs hl hp i c q hc hq
          by_cases hi : i < cs.length
          · rw [List.getElem?_append_left hi] at hc
            rw [List.getElem?_append_left (by omega)] at hq
            exact hp i c q hc hq
          · rw [List.getElem?_append_right (by omega)] at hc
            rw [List.getElem?_append_right (by omega), ← hl] at hq
            exact l6 _ c q hc hq
        split at h
        · rename_i hs
          have es := hv s
          rw [hs] at es
          have es := es.nil_inv
          split at h
          · rename_i hm2
            obtain ⟨hm2, hsite⟩ := hm2
            simp only [Option.some.injEq, Prod.mk.injEq] at h
            obtain ⟨rfl, rfl⟩ := h
            by_cases hm : m = 0
            · subst hm
              have hnn : news = [] := List.eq_nil_of_length_eq_zero (by simpa using l2)
              subst hnn
              have hyy : ys = [] := List.eq_nil_of_length_eq_zero (by simpa using l1)
              subst hyy
              cases A with
              | none =>
                have hrun := run_append_none (P := P) (w := w) (ty := o.type) (c := cx) hu hinf (w.ownsRow_nil 0 e inf.size)
                exact ⟨_, _, w, hex (by rw [es, hxv]; exact hrun), (hR.addNil e sz hsite).put (.ownl site 0 0 (upd_same _ _ _)) hd⟩
              | some ad =>
                obtain ⟨v', w', r1, r2, r3, r4, r5⟩ := run_append_own_at (P := P) w 0 t o.type e inf zv sz inf.bytes hu hinf hzv hsz rfl (by omega) c2 (.slice none 0 0) 0 [] (w.ownsRow_nil 0 e sz) ad 0 cx [] (by simp) (by simp) (by simp) (by simp [maxLen]) (by simp) (Nat.zero_le _)
                have := r4.2 ⟨rfl, rfl⟩
                subst this
                have hR' : Rel C M ρ st a w' := { hR with mr := hR.mr.same fun b hb => r3.block b hb (by simp [Value.ownBlock]), chg := hR.chg.trans (E := fun _ => False) ⟨r3.os, r3.tape, r3.output, r3.size, fun b hb _ => r3.block b hb (by simp [Value.ownBlock])⟩ (fun _ h => h.elim) }
                exact ⟨_, _, w', hex (by rw [es, hxv]; exact r1), (hR'.addNil e sz hsite).put (.ownl site 0 0 (upd_same _ _ _)) hd⟩
            · obtain ⟨g, cap, w', r1, r2, r3, r4⟩ := main (.slice none 0 0) 0 [] es (w.ownsRow_nil 0 e sz) (by omega) (.inr (by omega))
              have hg : g = w.heap.size := by
                rcases r4 with h' | h'
                · simp [Value.ownBlock] at h'
                · exact h'
              have hsame : ∀ b, b < w.heap.size → w'.heap[b]? = w.heap[b]? := fun b hb => r3.block b hb (by simp [Value.ownBlock])
              have hR' : Rel C M ρ st a w' := { hR with mr := hR.mr.same hsame, chg := hR.chg.trans (E := fun _ => False) ⟨r3.os, r3.tape, r3.output, r3.size, fun b hb _ => hsame b hb⟩ (fun _ h => h.elim) }
              simp only [Nat.zero_add, List.nil_append] at r1 r2
              have hA := hR'.addAt (s := site) (r := .row e sz ys) (x := ⟨g, m, cap, false⟩) hsite (fun _ => .inr ⟨rfl, news, r2, by omega, l5, l6⟩) (fun k q y hk hs hy hn1 _ => by
                  obtain ⟨y', hy', hY⟩ := hR.mr.row k q hk hs
                  rw [hy] at hy'; injection hy' with hy'; subst hy'
                  have := hY.lt hs hn1
                  simp only; omega) (fun b o v hM _ => by
                  have := cell_lt (hR.mr.imm b o v hM).1
                  simp only; omega) (fun _ => .inr (by simp only; rw [hg]; exact hR.chg.size))
              exact ⟨_, _, w', hex r1, hA.put (.own site g m cap (upd_same _ _ _)) hd⟩
          · cases h
        · rename_i k n hs
          split at h
          · rename_i e' z' cs hrow
            split at h
            · rename_i hcc
              obtain ⟨rfl, rfl, hnm, hsite⟩ := hcc
              simp only [Option.some.injEq, Prod.mk.injEq] at h
              obtain ⟨rfl, rfl⟩ := h
              have es := hv s
              rw [hs] at es
              obtain ⟨y, hy, hY⟩ := hR.mr.row k _ hrow rfl
              have hks : k ≠ site := fun e => by rw [e, hsite] at hrow; cases hrow
              obtain ⟨g0, cap0, ⟨hk, es1⟩ | ⟨hk, hn0, es1⟩⟩ := es.own_inv
              rotate_left
              · -- a nil slice of the call's own
                subst hn0
                rw [hk] at hy; injection hy with hy; subst hy
                rcases hY with ⟨_, rfl, _⟩ | ⟨hn1, _⟩
                rotate_left
                · cases hn1
                have hgone := hR.goneRow (k := k) (by rw [hrow]; simp)
                have hsite' : ({ st with rows := upd st.rows k (some .gone) } : St).rows site = none := by
                  show upd st.rows k (some .gone) site = none
                  rw [upd_ne _ _ (Ne.symm hks)]; exact hsite
                simp only [Nat.zero_add] at hnm ⊢
                by_cases hm : m = 0
                · subst hm
                  have hnn : news = [] := List.eq_nil_of_length_eq_zero (by simpa using l2)
                  subst hnn
                  have hyy : ys = [] := List.eq_nil_of_length_eq_zero (by simpa using l1)
                  subst hyy
                  cases A with
                  | none =>
                    have hrun := run_append_none (P := P) (w := w) (ty := o.type) (c := cx) hu hinf (w.ownsRow_nil 0 e' inf.size)
                    exact ⟨_, _, w, hex (by rw [es1, hxv]; exact hrun), (hgone.addNil e' z' hsite').put (.ownl site 0 0 (upd_same _ _ _)) hd⟩
                  | some ad =>
                    obtain ⟨v', w', r1, r2, r3, r4, r5⟩ := run_append_own_at (P := P) w 0 t o.type e' inf zv z' inf.bytes hu hinf hzv hsz rfl (by omega) c2 (.slice none 0 0) 0 [] (w.ownsRow_nil 0 e' z') ad 0 cx [] (by simp) (by simp) (by simp) (by simp [maxLen]) (by simp) (Nat.zero_le _)
                    have := r4.2 ⟨rfl, rfl⟩
                    subst this
                    have hR' := Rel.same_world hgone ⟨r3.os, r3.tape, r3.output, r3.size, fun b hb => r3.block b hb (by simp [Value.ownBlock])⟩
                    exact ⟨_, _, w', hex (by rw [es1, hxv]; exact r1), (hR'.addNil e' z' hsite').put (.ownl site 0 0 (upd_same _ _ _)) hd⟩
                · obtain ⟨g, cap, w', r1, r2, r3, r4⟩ := main (.slice none 0 0) 0 [] es1 (w.ownsRow_nil 0 e' z') (by omega) (.inr (by omega))
                  have hg : g = w.heap.size := by
                    rcases r4 with h' | h'
                    · simp [Value.ownBlock] at h'
                    · exact h'
                  have hR' := Rel.same_world hgone ⟨r3.os, r3.tape, r3.output, r3.size, fun b hb => r3.block b hb (by simp [Value.ownBlock])⟩
                  simp only [Nat.zero_add, List.nil_append] at r1 r2
                  have hA := hR'.addAt (s := site) (r := .row e' z' ys) (x := ⟨g, m, cap, false⟩) hsite' (fun _ => .inr ⟨rfl, news, r2, by omega, l5, l6⟩) (fun k q y hk hs hy hn1 _ => by
                      obtain ⟨y', hy', hY⟩ := hgone.mr.row k q hk hs
                      rw [hy] at hy'; injection hy' with hy'; subst hy'
                      have := hY.lt hs hn1
                      simp only; omega) (fun b o v hM _ => by
                      have := cell_lt (hR.mr.imm b o v hM).1
                      simp only; omega) (fun _ => .inr (by simp only; rw [hg]; exact hR.chg.size))
                  exact ⟨_, _, w', hex r1, hA.put (.own site g m cap (upd_same _ _ _)) hd⟩
              rw [hk] at hy; injection hy with hy; subst hy
              rcases hY with ⟨hn1, _⟩ | ⟨_, xs, h1, h2, h3, h4⟩
              · cases hn1
              simp only at h1
              obtain ⟨g, cap, w', r1, r2, r3, r4⟩ := main _ n xs es1 h1 hnm (.inl (by simp))
              have hgone := hR.set (r' := .gone) (w' := w') hrow rfl hk rfl ⟨r3.os, r3.tape, r3.output, r3.size, fun b hb hne => r3.block b hb (by simp [Value.ownBlock]; exact fun e => hne e)⟩ (fun h => by cases h)
              have hlt0 := (World.ownsRow.lt (h := h1) g0 rfl).2
              have hgr : g = g0 ∨ g = w.heap.size := by
                rcases r4 with h' | h'
                · left; simpa [Value.ownBlock] using h'
                · exact .inr h'
              have hA := hgone.addAt (s := site) (r := .row e' z' (cs ++ ys)) (x := ⟨g, n + m, cap, false⟩) (by show upd st.rows k (some .gone) site = none; rw [upd_ne _ _ (Ne.symm hks)]; exact hsite)
                (fun _ => .inr ⟨rfl, xs ++ news, r2, by simp; omega, fun v hv => by
                  rcases List.mem_append.1 hv with hv | hv
                  · exact h3 v hv
                  · exact l5 v hv, cat cs xs h2 h4⟩) (fun j q y hj hq hy hn1 _ => by
                  have hj : upd st.rows k (some .gone) j = some q := hj
                  have hjk : j ≠ k := fun e => by rw [e, upd_same] at hj; injection hj with hj; subst hj; cases hq
                  rw [upd_ne _ _ hjk] at hj
                  obtain ⟨y', hy', hY⟩ := hR.mr.row j q hj hq
                  rw [hy] at hy'; injection hy' with hy'; subst hy'
                  have hl := hY.lt hq hn1
                  have hne := hR.mr.inj j k q _ y _ hj hrow hq rfl hy hk hjk hn1 rfl
                  simp only at hne ⊢
                  rcases hgr with h' | h'
                  · rw [h']; exact hne
                  · omega) (fun b o v hM _ => by
                  have hl := cell_lt (hR.mr.imm b o v hM).1
                  have hne := hR.mr.apt b o v k _ _ hM hrow rfl hk rfl
                  simp only at hne ⊢
                  rcases hgr with h' | h'
                  · rw [h']; exact hne
                  · omega) (fun _ => by
                  simp only
                  rcases hgr with h' | h'
                  · have := hR.new k _ _ hrow rfl hk rfl
                    rw [h']; exact this
                  · right; rw [h']; exact hR.chg.size)
              exact ⟨_, _, w', hex r1, hA.put (.own site g (n + m) cap (upd_same _ _ _)) hd⟩
            · cases h
          · cases h
        · cases h
      · cases h
    · cases h
  · cases h
end
end Go.Proofs.Ytfpfalknddfejaa
