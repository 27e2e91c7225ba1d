/- The engine, part 9: one step, and what steps may change places. Over any program. -/
import Derived.Test.YtfpfalknddfejaaEh
import Derived.StillTail
namespace Go.Proofs.Ytfpfalknddfejaa
open Go.RowKit
set_option linter.unusedVariables false
set_option linter.unusedSimpArgs false

/-- 0: reckons; 1: reads or makes a row; 2: a call that gets no row by reference; 3: writes; 4: a call that gets rows by reference. -/
def cls (BR : Nat → Bool) : Op → Nat
  | .load _ _ => 1
  | .alloc _ => 1
  | .box _ _ => 1
  | .buildSlice _ _ _ => 1
  | .makeSlice _ _ _ => 1
  | .store _ _ _ => 3
  | .call c => match c.callee with
    | .builtin .len => 0
    | .builtin .append => 3
    | .value (.func f) => if BR f then 4 else 2
    | _ => 5
  | _ => 0
def St.add (st : St) (site : Nat) (new : List Row) : St := { st with rows := addRows st.rows site new }
/-- A call's step: the rows in ι by reference. -/
def CallStp (P : Program) (site : Nat) (o : Oper) (ι : List Nat) (st st' : St) : Prop :=
  ∃ (c : Call) (f : FuncId) (lnd : Nat → Option Row) (ret : AV) (mem' : List Row), o.op = .call c ∧ c.callee = .value (.func f) ∧ (∀ s r, lnd s = some r → st.rows s = some r) ∧ ι.Nodup ∧ (∀ s ∈ ι, ∃ r, st.rows s = some r ∧ r.solid = true) ∧
    Spec P f (c.args.toList.map fun x => pass2 ι lnd (st.ev x)) (ι.map (passRow ι lnd st.rows)) ret mem' ∧ ι.length ≤ mem'.length ∧ ((∀ s, lnd s = none) ∨ (Free ret ∧ ∀ r ∈ mem', ∀ c ∈ r.cells, Free c)) ∧
    mem'.length - ι.length ≤ 16 ∧ (∀ j, j < mem'.length - ι.length → st.rows (site + j) = none) ∧ st' = ({ st with rows := rowsAfter ι site st.rows mem' } : St).put o.dst (ren3 (mId ι site) ret)
def Stp (P : Program) (BR : Nat → Bool) (site : Nat) (o : Oper) (st st' : St) : Prop :=
  match cls BR o.op with
  | 0 => ∃ v, aPure P st.ev o.op = some v ∧ st' = st.put o.dst v
  | 1 => ∃ v nw, aMk P (FZ BR site) site st.ev st.rows o.op = some (v, nw) ∧ (nw.isSome = true → st.rows site = none) ∧ st' = (st.add site nw.toList).put o.dst v
  | 2 => CallStp P site o [] st st'
  | 3 => ∃ v rows', frzW (aWr P site st.ev st.rows o.op) (FZ BR site) = some (v, rows') ∧ st' = ({ st with rows := rows' } : St).put o.dst v
  | 4 => ∃ ι, CallStp P site o ι st st'
  | _ => False
/-- A guard that does not let the operation run. -/
def offB (v : AV) (want : Bool) : Prop := v = .tup [] ∨ ∃ b, v = .bool b ∧ b ≠ want
def Gst (P : Program) (BR : Nat → Bool) (ops : Array Oper) (site : Nat) (o : Oper) (st st' : St) : Prop :=
  match o.guard with
  | none => Stp P BR site o st st'
  | some (g, want) => ∃ t, (ops[g]?).bind (·.dst) = some t ∧ ((st.tmps t = .bool want ∧ Stp P BR site o st st') ∨ (offB (st.tmps t) want ∧ st' = st.put o.dst (.tup [])))

def ref1 : AV → Nat → Prop
  | .own s _, k => s = k
  | .ptr s _, k => s = k
  | _, _ => False
def refs : AV → Nat → Prop
  | .agg cs, k => ∃ c ∈ cs, ref1 c k
  | a, k => ref1 a k

section
variable {P : Program} {BR : Nat → Bool} {ops : Array Oper}
theorem partsA_congr {ρ ρ' : Operand → AV} : ∀ (l : List (Nat × Operand)), (∀ p ∈ l, ρ p.2 = ρ' p.2) → partsA ρ l = partsA ρ' l
  | [], _ => rfl
  | (i, x) :: l, h => by
    simp only [partsA]
    rw [show ρ x = ρ' x from h (i, x) (by simp), partsA_congr l (fun p hp => h p (by simp [hp]))]
theorem aPure_congr {ρ ρ' : Operand → AV} (op : Op) (h : ∀ x ∈ op.operands, ρ x = ρ' x) : aPure P ρ op = aPure P ρ' op := by
  cases op <;> simp only [Op.operands] at h <;> simp only [aPure]
  case move x => rw [h x (by simp)]
  case assign x => rw [h x (by simp)]
  case pick c a b => rw [h c (by simp), h a (by simp), h b (by simp)]
  case build t ps => rw [partsA_congr ps.toList (fun p hp => h p.2 (by simp; exact ⟨p.1, by simpa using hp⟩))]
  case binOp op t x y t2 => rw [h x (by simp), h y (by simp)]
  case unOp op t x => rw [h x (by simp)]
  case convert s d x => rw [h x (by simp)]
  case fieldAddr s x f => rw [h x (by simp)]
  case field s x f => rw [h x (by simp)]
  case indexAddr t x i => rw [h x (by simp), h i (by simp)]
  case extract x i => rw [h x (by simp)]
  case nilCheck x => rw [h x (by simp)]
  case slice t x lo hi mx =>
    cases mx with
    | some _ => rfl
    | none =>
      simp only [aPure]
      rw [h x (by simp)]
      cases lo with
      | none =>
        cases hi with
        | none => rfl
        | some hh => simp only [h hh (by simp)]
      | some l =>
        cases hi with
        | none => simp only [h l (by simp)]
        | some hh => simp only [h hh (by simp), h l (by simp)]
  case call c =>
    split
    · split
      · rename_i t x ht hx
        have hm : x ∈ c.args := Array.mem_of_getElem? hx
        rw [h x (by simp [Call.operands, hm])]
      · rfl
    · rfl
theorem aMk_frame {ρ ρ' : Operand → AV} {fz : Bool} {site : Nat} {rows rows' : Nat → Option Row} {op : Op} {r : AV × Option Row} (h : ∀ x ∈ op.operands, ρ x = ρ' x)
    (hr : ∀ x ∈ op.operands, ∀ s q, refs (ρ x) s → rows s = some q → rows' s = some q) (hm : aMk P fz site ρ rows op = some r) : aMk P fz site ρ' rows' op = some r := by
  cases op <;> simp only [Op.operands] at h hr <;> simp only [aMk] at hm ⊢ <;> first | (cases hm; done) | skip
  case load t x =>
    split at hm
    · rename_i sz ag ht
      split at hm
      · rename_i v hl
        have hl' : loadA ag sz rows' (ρ' x) = some v := by
          rw [← h x (by simp)]
          have hrr := hr x (by simp)
          unfold loadA at hl ⊢
          split at hl
          · rename_i s off hx
            rw [hx] at hrr
            split at hl
            · rename_i T cs hrow
              rw [hrr s _ rfl hrow]
              exact hl
            · rename_i T z cs hrow
              rw [hrr s _ rfl hrow]
              exact hl
            · cases hl
          · exact hl
          · cases hl
        rw [hl']
        exact hm
      · cases hm
    · cases hm
  case alloc t => exact hm
  case box t x => rw [← h x (by simp)]; exact hm
  case buildSlice t n ps => rw [← partsA_congr ps.toList (fun p hp => h p.2 (by simp; exact ⟨p.1, by simpa using hp⟩))]; exact hm
  case makeSlice t l c => rw [← h l (by simp), ← h c (by simp)]; exact hm
theorem aWr_congr {ρ ρ' : Operand → AV} {site : Nat} {rows : Nat → Option Row} {op : Op} (h : ∀ x ∈ op.operands, ρ x = ρ' x) : aWr P site ρ rows op = aWr P site ρ' rows op := by
  cases op <;> simp only [Op.operands] at h <;> simp only [aWr]
  case store t x v => rw [h x (by simp), h v (by simp)]
  case call c =>
    split
    · rename_i s x t t' hc ha ht
      have hs : s ∈ c.args := by have : s ∈ c.args.toList := by rw [ha]; simp
                                 simpa using this
      have hx : x ∈ c.args := by have : x ∈ c.args.toList := by rw [ha]; simp
                                 simpa using this
      rw [h s (by simp [Call.operands, hs]), h x (by simp [Call.operands, hx])]
    · rfl

theorem St.put_rows (st : St) (d : Option Tmp) (v : AV) : (st.put d v).rows = st.rows := by cases d <;> rfl
theorem St.put_bs (st : St) (d : Option Tmp) (v : AV) : (st.put d v).bs = st.bs := by cases d <;> rfl
theorem St.put_tmps_ne (st : St) (d : Option Tmp) (v : AV) (t : Nat) (h : d ≠ some t) : (st.put d v).tmps t = st.tmps t := by
  cases d with
  | none => rfl
  | some k => exact upd_ne _ _ (fun e => h (by rw [e]))
theorem St.ev_of {st st2 : St} {o : Oper} (h : ∀ t ∈ o.looksAt ops, st2.tmps t = st.tmps t) : ∀ x ∈ o.op.operands, st.ev x = st2.ev x := by
  intro x hx
  cases x with
  | tmp t =>
    refine (h t ?_).symm
    exact List.mem_append_left _ (List.mem_filterMap.2 ⟨.tmp t, by simpa using hx, rfl⟩)
  | _ => rfl
theorem args_looked {o : Oper} {c : Call} (hop : o.op = .call c) : ∀ x ∈ c.args.toList, x ∈ o.op.operands := by
  intro x hx
  rw [hop]
  have : x ∈ c.args := by simpa using hx
  simp [Op.operands, Call.operands, this]

theorem pass1_lnd {ι : List Nat} {lnd lnd2 : Nat → Option Row} {a : AV} (h : ∀ s, ref1 a s → lnd2 s = lnd s) : pass1 ι lnd a = pass1 ι lnd2 a := by
  cases a <;> simp only [pass1]
  case own s n => rw [h s rfl]
theorem pass2_lnd {ι : List Nat} {lnd lnd2 : Nat → Option Row} {a : AV} (h : ∀ s, refs a s → lnd2 s = lnd s) : pass2 ι lnd a = pass2 ι lnd2 a := by
  cases a <;> simp only [pass2] <;> first | rfl | exact pass1_lnd (fun s hs => h s hs) | skip
  case agg cs =>
    congr 1
    apply List.map_congr_left
    intro c hc
    exact pass1_lnd fun s hs => h s ⟨c, hc, hs⟩

/-- Equal where it looks, equal rows: the same step. -/
theorem Stp.congr {site : Nat} {o : Oper} {st st' st2 : St} (h : Stp P BR site o st st') (hl : ∀ t ∈ o.looksAt ops, st2.tmps t = st.tmps t) (hrows : st2.rows = st.rows) :
    ∃ v rows', st' = ({ st with rows := rows' } : St).put o.dst v ∧ Stp P BR site o st2 (({ st2 with rows := rows' } : St).put o.dst v) := by
  have he := St.ev_of (st := st) (st2 := st2) hl
  have call : ∀ ι, CallStp P site o ι st st' → ∃ v rows', st' = ({ st with rows := rows' } : St).put o.dst v ∧ CallStp P site o ι st2 (({ st2 with rows := rows' } : St).put o.dst v) := by
    rintro ι ⟨c, f, lnd, ret, mem', hop, hcal, h1, h2, h3, h4, h5, h6, h7, h8, rfl⟩
    refine ⟨_, _, rfl, c, f, lnd, ret, mem', hop, hcal, by rw [hrows]; exact h1, h2, by rw [hrows]; exact h3, ?_, h5, h6, h7, by rw [hrows]; exact h8, by rw [hrows]⟩
    have e : (c.args.toList.map fun x => pass2 ι lnd (st2.ev x)) = c.args.toList.map fun x => pass2 ι lnd (st.ev x) := List.map_congr_left fun x hx => by rw [he x (args_looked hop x hx)]
    rw [e, hrows]; exact h4
  unfold Stp at h ⊢
  split at h
  · obtain ⟨v, h1, rfl⟩ := h
    exact ⟨v, st.rows, rfl, v, by rw [← aPure_congr o.op he]; exact h1, by rw [← hrows]⟩
  · obtain ⟨v, nw, h1, h2, rfl⟩ := h
    refine ⟨v, addRows st.rows site nw.toList, rfl, v, nw, aMk_frame he (fun x hx s q _ hq => by rw [hrows]; exact hq) h1, by rw [hrows]; exact h2, ?_⟩
    simp only [St.add, hrows]
  · exact call [] h
  · obtain ⟨v, rows', h1, rfl⟩ := h
    exact ⟨v, rows', rfl, v, rows', by rw [← aWr_congr he, hrows]; exact h1, rfl⟩
  · obtain ⟨ι, h⟩ := h
    obtain ⟨v, rows', h1, h2⟩ := call ι h
    exact ⟨v, rows', h1, ι, h2⟩
  · exact h.elim
theorem guard_looked {o : Oper} {g : Nat} {want : Bool} {t : Tmp} (hg : o.guard = some (g, want)) (ht : (ops[g]?).bind (·.dst) = some t) : t ∈ o.looksAt ops := by
  simp [Oper.looksAt, hg, ht]
theorem Gst.congr {site : Nat} {o : Oper} {st st' st2 : St} (h : Gst P BR ops site o st st') (hl : ∀ t ∈ o.looksAt ops, st2.tmps t = st.tmps t) (hrows : st2.rows = st.rows) :
    ∃ v rows', st' = ({ st with rows := rows' } : St).put o.dst v ∧ Gst P BR ops site o st2 (({ st2 with rows := rows' } : St).put o.dst v) := by
  unfold Gst at h ⊢
  split at h
  · exact h.congr hl hrows
  · rename_i g want hg
    obtain ⟨t, h1, h3⟩ := h
    have ht : st2.tmps t = st.tmps t := hl t (guard_looked hg h1)
    rcases h3 with ⟨h3, h4⟩ | ⟨h3, rfl⟩
    · obtain ⟨v, rows', e1, e2⟩ := h4.congr hl hrows
      exact ⟨v, rows', e1, t, h1, .inl ⟨ht.trans h3, e2⟩⟩
    · exact ⟨.tup [], st.rows, rfl, t, h1, .inr ⟨by rw [ht]; exact h3, by rw [← hrows]⟩⟩
/-- What only reckons looks at no row. -/
theorem Gst.pure {site : Nat} {o : Oper} {st st' : St} (h : Gst P BR ops site o st st') (hc : cls BR o.op = 0) :
    ∃ v, st' = st.put o.dst v ∧ ∀ st2 : St, (∀ t ∈ o.looksAt ops, st2.tmps t = st.tmps t) → Gst P BR ops site o st2 (st2.put o.dst v) := by
  unfold Gst at h
  split at h
  · rename_i hg
    simp only [Stp, hc] at h
    obtain ⟨v, h1, rfl⟩ := h
    refine ⟨v, rfl, fun st2 hl => ?_⟩
    unfold Gst
    simp only [hg, Stp, hc]
    exact ⟨v, by rw [← aPure_congr o.op (St.ev_of (st := st) (st2 := st2) hl)]; exact h1, rfl⟩
  · rename_i g want hg
    obtain ⟨t, h1, h3⟩ := h
    rcases h3 with ⟨h3, h4⟩ | ⟨h3, rfl⟩
    · simp only [Stp, hc] at h4
      obtain ⟨v, h5, rfl⟩ := h4
      refine ⟨v, rfl, fun st2 hl => ?_⟩
      unfold Gst
      simp only [hg]
      refine ⟨t, h1, .inl ⟨by rw [hl t (guard_looked hg h1)]; exact h3, ?_⟩⟩
      simp only [Stp, hc]
      exact ⟨v, by rw [← aPure_congr o.op (St.ev_of (st := st) (st2 := st2) hl)]; exact h5, rfl⟩
    · refine ⟨.tup [], rfl, fun st2 hl => ?_⟩
      unfold Gst
      simp only [hg]
      exact ⟨t, h1, .inr ⟨by rw [hl t (guard_looked hg h1)]; exact h3, by trivial⟩⟩
theorem rowsAfter_nil (site : Nat) (rows : Nat → Option Row) (mem' : List Row) : rowsAfter [] site rows mem' = addRows rows site (mem'.map (Row.ren (mId [] site))) := by
  simp [rowsAfter, setRowsI]
open Classical in
theorem Stp.frame {site : Nat} {o : Oper} {st st' : St} (h : Stp P BR site o st st') (hc : cls BR o.op ≤ 2) :
    ∃ v new, new.length ≤ 16 ∧ (∀ j, j < new.length → st.rows (site + j) = none) ∧ st' = (st.add site new).put o.dst v ∧
      ∀ st2 : St, (∀ t ∈ o.looksAt ops, st2.tmps t = st.tmps t) → (∀ t ∈ o.looksAt ops, ∀ s q, refs (st.tmps t) s → st.rows s = some q → st2.rows s = some q) → (∀ j, j < new.length → st2.rows (site + j) = none) →
        Stp P BR site o st2 ((st2.add site new).put o.dst v) := by
  have looked : ∀ x ∈ o.op.operands, ∀ s, refs (st.ev x) s → ∃ t ∈ o.looksAt ops, refs (st.tmps t) s := by
    intro x hx s hs
    cases x with
    | tmp t => exact ⟨t, List.mem_append_left _ (List.mem_filterMap.2 ⟨.tmp t, by simpa using hx, rfl⟩), hs⟩
    | const v =>
      exfalso
      simp only [St.ev] at hs
      unfold ofV at hs
      split at hs
      · rename_i cs
        split at hs
        · obtain ⟨c, hc, hs⟩ := hs
          simp only [List.mem_map] at hc
          obtain ⟨v, _, rfl⟩ := hc
          unfold ofV1 at hs
          split at hs <;> exact hs
        · exact hs
      · unfold ofV1 at hs
        split at hs <;> exact hs
    | global g => exact hs.elim
    | func f => exact hs.elim
  unfold Stp at h
  split at h
  · rename_i hcl
    obtain ⟨v, h1, rfl⟩ := h
    refine ⟨v, [], by simp, by simp, rfl, fun st2 hl _ _ => ?_⟩
    simp only [Stp, hcl]
    exact ⟨v, by rw [← aPure_congr o.op (St.ev_of (st := st) (st2 := st2) hl)]; exact h1, rfl⟩
  · rename_i hcl
    obtain ⟨v, nw, h1, h2, rfl⟩ := h
    have hlen : nw.toList.length ≤ 1 := by cases nw <;> simp
    have fr : ∀ {rows : Nat → Option Row}, (∀ j, j < nw.toList.length → rows (site + j) = none) ↔ (nw.isSome = true → rows site = none) := by
      intro rows
      cases nw with
      | none => simp
      | some r => simp
    refine ⟨v, nw.toList, by omega, fr.2 h2, rfl, fun st2 hl hr hf => ?_⟩
    simp only [Stp, hcl]
    refine ⟨v, nw, aMk_frame (St.ev_of (st := st) (st2 := st2) hl) (fun x hx s q hs hq => ?_) h1, fr.1 hf, rfl⟩
    obtain ⟨t, ht, hs'⟩ := looked x hx s hs
    exact hr t ht s q hs' hq
  · rename_i hcl
    obtain ⟨c, f, lnd, ret, mem', hop, hcal, h1, h2, h3, h4, h5, h6, h7, h8, rfl⟩ := h
    refine ⟨_, mem'.map (Row.ren (mId [] site)), by simpa using h7, by simpa using h8, by rw [rowsAfter_nil]; rfl, fun st2 hl hr hf => ?_⟩
    simp only [Stp, hcl]
    refine ⟨c, f, (fun s => if ∃ t ∈ o.looksAt ops, refs (st.tmps t) s then lnd s else none), ret, mem', hop, hcal, fun s r hs => ?_, h2, by simp, ?_, h5, ?_, h7, by simpa using hf, by rw [rowsAfter_nil]; rfl⟩
    · have hs : (if ∃ t, t ∈ Oper.looksAt ops o ∧ refs (st.tmps t) s then lnd s else none) = some r := hs
      split at hs
      · rename_i hq
        obtain ⟨t, ht, hs'⟩ := hq
        exact hr t ht s r hs' (h1 s r hs)
      · cases hs
    · have e : (c.args.toList.map fun x => pass2 [] (fun s => if ∃ t ∈ o.looksAt ops, refs (st.tmps t) s then lnd s else none) (st2.ev x)) = c.args.toList.map fun x => pass2 [] lnd (st.ev x) := List.map_congr_left fun x hx => by
        have hxo := args_looked hop x hx
        rw [← St.ev_of (st := st) (st2 := st2) hl x hxo]
        refine (pass2_lnd fun s hs => ?_).symm
        rw [if_pos (looked x hxo s hs)]
      rw [e]; exact h4
    · rcases h6 with h6 | h6
      · exact .inl fun s => by simp [h6 s]
      · exact .inr h6
  · omega
  · omega
  · exact h.elim
theorem Gst.frame {site : Nat} {o : Oper} {st st' : St} (h : Gst P BR ops site o st st') (hc : cls BR o.op ≤ 2) :
    ∃ v new, new.length ≤ 16 ∧ (∀ j, j < new.length → st.rows (site + j) = none) ∧ st' = (st.add site new).put o.dst v ∧
      ∀ st2 : St, (∀ t ∈ o.looksAt ops, st2.tmps t = st.tmps t) → (∀ t ∈ o.looksAt ops, ∀ s q, refs (st.tmps t) s → st.rows s = some q → st2.rows s = some q) → (∀ j, j < new.length → st2.rows (site + j) = none) →
        Gst P BR ops site o st2 ((st2.add site new).put o.dst v) := by
  unfold Gst at h
  split at h
  · rename_i hg
    obtain ⟨v, new, e1, e2, e3, e4⟩ := h.frame (ops := ops) hc
    refine ⟨v, new, e1, e2, e3, fun st2 a b c => ?_⟩
    unfold Gst
    simp only [hg]
    exact e4 st2 a b c
  · rename_i g want hg
    obtain ⟨t, h1, h3⟩ := h
    rcases h3 with ⟨h3, h4⟩ | ⟨h3, rfl⟩
    · obtain ⟨v, new, e1, e2, e3, e4⟩ := h4.frame (ops := ops) hc
      refine ⟨v, new, e1, e2, e3, fun st2 a b' c => ?_⟩
      unfold Gst
      simp only [hg]
      exact ⟨t, h1, .inl ⟨by rw [a t (guard_looked hg h1)]; exact h3, e4 st2 a b' c⟩⟩
    · refine ⟨.tup [], [], by simp, by simp, rfl, fun st2 hl _ _ => ?_⟩
      unfold Gst
      simp only [hg]
      exact ⟨t, h1, .inr ⟨by rw [hl t (guard_looked hg h1)]; exact h3, rfl⟩⟩

def indepB (BR : Nat → Bool) (ops : Array Oper) (x y : Oper) : Bool := x.apart ops y && (cls BR x.op == 0 || cls BR y.op == 0 || (decide (cls BR x.op ≤ 2) && decide (cls BR y.op ≤ 2)))
theorem put_comm_st (st : St) {x y : Option Tmp} (v u : AV) (h : ∀ d, x = some d → y ≠ some d) : (st.put x v).put y u = (st.put y u).put x v := by
  cases x with
  | none => rfl
  | some d =>
    cases y with
    | none => rfl
    | some e =>
      have hne : e ≠ d := fun he => h d rfl (by rw [he])
      simp only [St.put, upd_comm _ _ _ hne]
theorem put_rows_comm (st : St) (rows : Nat → Option Row) (d : Option Tmp) (v : AV) : ({ st.put d v with rows := rows } : St) = ({ st with rows := rows } : St).put d v := by cases d <;> rfl
theorem addRows_comm (rows : Nat → Option Row) (s s' : Nat) (l l' : List Row) (h : s + l.length ≤ s' ∨ s' + l'.length ≤ s) : addRows (addRows rows s l) s' l' = addRows (addRows rows s' l') s l := by
  funext k
  simp only [addRows_get]
  split <;> split <;> first | rfl | omega
/-- Two steps that may change places: y behind x. -/
theorem swap {sx sy : Nat} {x y : Oper} {st s1 s2 : St} (hx : Gst P BR ops sx x st s1) (hy : Gst P BR ops sy y s1 s2) (hi : indepB BR ops y x = true) (hs : sx + 16 ≤ sy ∨ sy + 16 ≤ sx)
    (hlive : ∀ t ∈ y.looksAt ops, ∀ s, refs (st.tmps t) s → st.rows s ≠ none) : ∃ s1', Gst P BR ops sy y st s1' ∧ Gst P BR ops sx x s1' s2 := by
  unfold indepB at hi
  rw [Bool.and_eq_true] at hi
  obtain ⟨a1, a2, a3⟩ := Oper.apart_spec hi.1
  have hc := hi.2
  simp only [Bool.or_eq_true, Bool.and_eq_true, beq_iff_eq, decide_eq_true_eq] at hc
  have notx : ∀ t ∈ y.looksAt ops, x.dst ≠ some t := fun t ht e => a3 t e ht
  have noty : ∀ t ∈ x.looksAt ops, y.dst ≠ some t := fun t ht e => a1 t e ht
  rcases hc with (hc | hc) | hc
  · -- y reckons
    obtain ⟨v, rows', rfl, _⟩ := hx.congr (st2 := st) (fun _ _ => rfl) rfl
    obtain ⟨u, rfl, hy'⟩ := hy.pure hc
    have h1 := hy' st (fun t ht => by rw [St.put_tmps_ne _ _ _ _ (notx t ht)])
    refine ⟨_, h1, ?_⟩
    obtain ⟨v2, rows2, e1, h2⟩ := hx.congr (st2 := st.put y.dst u) (fun t ht => by rw [St.put_tmps_ne _ _ _ _ (noty t ht)]) (by rw [St.put_rows])
    have e2 : (({ st with rows := rows' } : St).put x.dst v).put y.dst u = ({ st.put y.dst u with rows := rows2 } : St).put x.dst v2 := by
      rw [e1, put_rows_comm, put_comm_st _ _ _ (fun d hd e => a2 d e hd)]
    rw [e2]; exact h2
  · -- x reckons
    obtain ⟨v, rfl, hx'⟩ := hx.pure hc
    obtain ⟨u, rows', rfl, _⟩ := hy.congr (st2 := st.put x.dst v) (fun _ _ => rfl) rfl
    obtain ⟨u2, rows2, e1, h2⟩ := hy.congr (st2 := st) (fun t ht => by rw [St.put_tmps_ne _ _ _ _ (notx t ht)]) (by rw [St.put_rows])
    refine ⟨_, h2, ?_⟩
    have h3 := hx' (({ st with rows := rows2 } : St).put y.dst u2) (fun t ht => by rw [St.put_tmps_ne _ _ _ _ (noty t ht)])
    have e2 : ({ st.put x.dst v with rows := rows' } : St).put y.dst u = (({ st with rows := rows2 } : St).put y.dst u2).put x.dst v := by
      rw [e1, put_rows_comm, put_comm_st _ _ _ (fun d hd e => a2 d e hd)]
    rw [e2]; exact h3
  · obtain ⟨v, new, f1, f2, rfl, f4⟩ := hx.frame hc.2
    obtain ⟨u, new', g1, g2, rfl, g4⟩ := hy.frame hc.1
    have h1 := g4 st (fun t ht => by rw [St.put_tmps_ne _ _ _ _ (notx t ht)]; rfl) (fun t ht s q hr hq => by
        rw [St.put_tmps_ne _ _ _ _ (notx t ht)] at hr
        rw [St.put_rows] at hq
        simp only [St.add, addRows_get] at hq
        split at hq
        · rename_i hc'
          exfalso
          have := f2 (s - sx) (by omega)
          rw [show sx + (s - sx) = s by omega] at this
          exact hlive t ht s hr this
        · exact hq) (fun j hj => by
        have := g2 j hj
        rw [St.put_rows] at this
        simp only [St.add, addRows_get] at this
        rwa [if_neg (by omega)] at this)
    refine ⟨_, h1, ?_⟩
    have h2 := f4 ((st.add sy new').put y.dst u) (fun t ht => by rw [St.put_tmps_ne _ _ _ _ (noty t ht)]; rfl) (fun t ht s q hr hq => by
        rw [St.put_rows]
        simp only [St.add, addRows_get]
        split
        · rename_i hc'
          exfalso
          have := g2 (s - sy) (by omega)
          rw [St.put_rows] at this
          simp only [St.add, addRows_get] at this
          rw [if_neg (by omega), show sy + (s - sy) = s by omega, hq] at this
          cases this
        · exact hq) (fun j hj => by
        rw [St.put_rows]
        simp only [St.add, addRows_get]
        rw [if_neg (by omega)]
        exact f2 j hj)
    have e2 : (((st.add sx new).put x.dst v).add sy new').put y.dst u = (((st.add sy new').put y.dst u).add sx new).put x.dst v := by
      have ea : ∀ (q : St) (d : Option Tmp) (z : AV) (s : Nat) (l : List Row), (q.put d z).add s l = (q.add s l).put d z := fun q d z s l => by cases d <;> rfl
      rw [ea, ea, put_comm_st _ _ _ (fun d hd e => a2 d e hd)]
      congr 2
      simp only [St.add]
      congr 1
      exact addRows_comm _ _ _ _ _ (by omega)
    rw [e2]; exact h2
end
end Go.Proofs.Ytfpfalknddfejaa
