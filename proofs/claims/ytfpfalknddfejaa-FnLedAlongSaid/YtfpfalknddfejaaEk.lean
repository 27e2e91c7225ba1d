/- The engine, part 11: code and functions. Over any program. -/
import Derived.Test.YtfpfalknddfejaaEj
import Derived.Deep.LoopGhost
namespace Go.Proofs.Ytfpfalknddfejaa
open Go.RowKit
set_option linter.unusedVariables false
set_option linter.unusedSimpArgs false

/-- The code, begun in a state that reads as st, ends so that Q. -/
def AW (P : Program) (C : Ctx) (c : Code) (st : St) (Q : Exit → St → Prop) : Prop :=
  ∀ M ρ a w, Rel C M ρ st a w → c.wp P (fun e a' w' => ∃ st' M' ρ', Q e st' ∧ Rel C M' ρ' st' a' w') a w
def thenA (k : St → Prop) (Q : Exit → St → Prop) : Exit → St → Prop
  | .normal, st => k st
  | e, st => Q e st
def blockA (id : Nat) (Q : Exit → St → Prop) : Exit → St → Prop
  | .exit i, st => if i = id then Q .normal st else Q (.exit i) st
  | e, st => Q e st
def Le (C : Ctx) (st S : St) : Prop := ∀ M ρ a w, Rel C M ρ st a w → ∃ M' ρ', Rel C M' ρ' S a w

section
variable {P : Program} {BR : Nat → Bool} {C : Ctx} {st : St} {Q : Exit → St → Prop}
theorem AW_mono {c : Code} {Q' : Exit → St → Prop} (h : AW P C c st Q) (hq : ∀ e s, Q e s → Q' e s) : AW P C c st Q' :=
  fun M ρ a w hR => Code.wp_mono (fun _ _ _ ⟨st', M', ρ', h1, h2⟩ => ⟨st', M', ρ', hq _ _ h1, h2⟩) (h M ρ a w hR)
theorem AW_skip (h : Q .normal st) : AW P C .skip st Q := fun M ρ a w hR => wp_skip ⟨st, M, ρ, h, hR⟩
theorem AW_exit {id : Nat} (h : Q (.exit id) st) : AW P C (.exit id) st Q := fun M ρ a w hR => wp_exit ⟨st, M, ρ, h, hR⟩
theorem AW_ret (h : Q .ret st) : AW P C .ret st Q := fun M ρ a w hR => wp_ret ⟨st, M, ρ, h, hR⟩
theorem AW_seq {x y : Code} (h : AW P C x st (thenA (fun st' => AW P C y st' Q) Q)) : AW P C (.seq x y) st Q := fun M ρ a w hR =>
  wp_seq (Code.wp_mono (fun e a' w' ⟨st', M', ρ', h1, h2⟩ => by
    cases e with
    | normal => exact h1 M' ρ' a' w' h2
    | _ => exact ⟨st', M', ρ', h1, h2⟩) (h M ρ a w hR))
theorem AW_block {id : Nat} {c : Code} (h : AW P C c st (blockA id Q)) : AW P C (.block id c) st Q := fun M ρ a w hR =>
  wp_block (Code.wp_mono (fun e a' w' ⟨st', M', ρ', h1, h2⟩ => by
    cases e with
    | exit i =>
      simp only [Exit.inBlock]
      simp only [blockA] at h1
      split
      · rename_i e; rw [if_pos e] at h1; exact ⟨st', M', ρ', h1, h2⟩
      · rename_i e; rw [if_neg e] at h1; exact ⟨st', M', ρ', h1, h2⟩
    | _ => exact ⟨st', M', ρ', h1, h2⟩) (h M ρ a w hR))
theorem AW_cond {c : Operand} {x y : Code} {b : Bool} (hc : st.ev c = .bool b) (ht : b = true → AW P C x st Q) (hf : b = false → AW P C y st Q) : AW P C (.cond c x y) st Q := fun M ρ a w hR => by
  have e := hR.ev c
  rw [hc] at e
  exact wp_cond_split e.bool_inv (fun h => ht h M ρ a w hR) (fun h => hf h M ρ a w hR)
theorem AW_le {c : Code} {S : St} (hl : Le C st S) (h : AW P C c S Q) : AW P C c st Q := fun M ρ a w hR => by
  obtain ⟨M', ρ', hR'⟩ := hl M ρ a w hR
  exact h M' ρ' a w hR'
theorem Le.refl : Le C st st := fun M ρ a w h => ⟨M, ρ, h⟩
theorem Le.trans {S T : St} (h : Le C st S) (k : Le C S T) : Le C st T := fun M ρ a w hR => by
  obtain ⟨M', ρ', h'⟩ := h M ρ a w hR
  exact k M' ρ' a w h'
theorem AW_loop {c : Code} (I : Nat → St → Prop) (h0 : ∃ n S, I n S ∧ Le C st S) (hr : ∀ n S, I n S → AW P C c S (thenA (fun st' => ∃ m S', m < n ∧ I m S' ∧ Le C st' S') Q)) : AW P C (.loop c) st Q := fun M ρ a w hR => by
  obtain ⟨n0, S0, hI, hL⟩ := h0
  obtain ⟨M', ρ', hR'⟩ := hL M ρ a w hR
  refine wp_loop_ghost (fun n a w => ∃ S M ρ, I n S ∧ Rel C M ρ S a w) n0 ⟨S0, M', ρ', hI, hR'⟩ ?_
  rintro n a w ⟨S, M, ρ, hI, hR⟩
  refine Code.wp_mono (fun e a' w' ⟨st', M', ρ', h1, h2⟩ => ?_) (hr n S hI M ρ a w hR)
  cases e with
  | normal =>
    obtain ⟨m, S', hm, hI', hL'⟩ := h1
    obtain ⟨M'', ρ'', hR''⟩ := hL' M' ρ' a' w' h2
    exact ⟨m, hm, S', M'', ρ'', hI', hR''⟩
  | _ => exact ⟨st', M', ρ', h1, h2⟩
def St.next (st : St) (n : Nat) : St := { st with bs := st.bs + 16 * n }
theorem Rel.next {M : Imm} {ρ : Plc} {a : Act} {w : World} (h : Rel C M ρ st a w) (b : Nat) : Rel C M ρ { st with bs := b } a w := ⟨h.tm, h.N, h.df, h.mr, h.chg, h.new, h.m0, h.r0, h.mold, h.fr⟩
theorem AW_region {id : Nat} {ops : Array Oper} {draw : Bool} (hm : draw = true → P.follows .mixedOrders = true) (hN : dstB C.N ops = true) (hB : draw = true → regB BR ops = true)
    (h : aSeq P BR ops st.bs (List.range ops.size) st (fun st' => Q .normal { st' with bs := st.bs + 16 * ops.size })) : AW P C (.region id ops draw) st Q := fun M ρ a w hR => by
  have hK : ∀ st' M' ρ' a' w', Q .normal { st' with bs := st.bs + 16 * ops.size } → Rel C M' ρ' st' a' w' → ∃ st' M' ρ', Q .normal st' ∧ Rel C M' ρ' st' a' w' := fun st' M' ρ' a' w' h1 h2 => ⟨_, M', ρ', h1, h2.next _⟩
  cases draw with
  | false => exact wp_region (aSeq_ops hN (Q := fun e a' w' => ∃ st' M' ρ', Q e st' ∧ Rel C M' ρ' st' a' w') hK _ _ _ _ _ _ _ h hR)
  | true =>
    refine wp_region_any (hm rfl) ?_
    refine aSeq_any hN (ROK.of (hB rfl)) (Q := fun e a' w' => ∃ st' M' ρ', Q e st' ∧ Rel C M' ρ' st' a' w') hK st.bs ops.size (List.range ops.size) _ st M ρ a _ (by simp) List.pairwise_lt_range (fun i => ?_) (by simp) (fun j hj => ?_) h hR.drew
    · constructor
      · intro hi
        have := List.mem_range.1 hi
        exact ⟨this, by simp [this]⟩
      · rintro ⟨hi, _⟩; exact List.mem_range.2 hi
    · rw [getD_replicate_false] at hj; cases hj

theorem load_rel {M : Imm} {ρ : Plc} {a : Act} {w : World} (hR : Rel C M ρ st a w) {t : TypeId} {sz : Nat} {ag : Bool} (ht : szA P t = some (sz, ag)) {x : Operand} {v : AV} (hl : loadA ag sz st.rows (st.ev x) = some v) :
    ∃ u, (Instr.loadAt t (a.eval x)).run P w = .ok u w ∧ VR M ρ v u := by
  have ex := hR.ev x
  unfold loadA at hl
  split at hl
  · rename_i s off hx
    rw [hx] at ex
    obtain ⟨y, hy, hyn, ex⟩ := ex.ptr_inv
    rw [ex]
    split at hl
    · rename_i T cs hrow
      obtain ⟨y', hy', hrow'⟩ := hR.mr.row s _ hrow rfl
      rw [hy] at hy'; injection hy' with hy'; subst hy'
      obtain ⟨h0, arr, h1, h2, h3, h4⟩ := hrow'
      refine load_ok ht hl y.g off (fun i => arr.getD (off + i) undef) (fun i c hc => ?_)
      rw [List.getElem?_drop] at hc
      have hlt : off + i < arr.size := by
        rw [← h2]
        rcases Nat.lt_or_ge (off + i) cs.length with h' | h'
        · exact h'
        · rw [List.getElem?_eq_none h'] at hc; cases hc
      have e : arr.getD (off + i) undef = arr[off + i] := by simp [hlt]
      rw [e]
      exact ⟨by rw [cell_of_row w y.g (off + i) arr T (0, 0) h1]; simp [hlt], h3 _ (Array.getElem_mem hlt), h4 _ c _ hc (Array.getElem?_eq_getElem hlt)⟩
    · rename_i E z cs hrow
      obtain ⟨y', hy', hrow'⟩ := hR.mr.row s _ hrow rfl
      rw [hy] at hy'; injection hy' with hy'; subst hy'
      rcases hrow' with ⟨hn1, _⟩ | ⟨h0, xs, h1, h2, h3, h4⟩
      · rw [hyn] at hn1; cases hn1
      refine load_ok ht hl y.g off (fun i => xs.getD (off + i) undef) (fun i c hc => ?_)
      rw [List.getElem?_drop] at hc
      have hlt : off + i < xs.length := by
        rw [← h2]
        rcases Nat.lt_or_ge (off + i) cs.length with h' | h'
        · exact h'
        · rw [List.getElem?_eq_none h'] at hc; cases hc
      have e : xs.getD (off + i) undef = xs[off + i] := by simp [hlt]
      rw [e]
      refine ⟨?_, h3 _ (List.getElem_mem hlt), .plain (h4 _ c _ hc (List.getElem?_eq_getElem hlt))⟩
      have := World.ownsRow.cells h1 (g := y.g) rfl (off + i) _ (List.getElem?_eq_getElem hlt)
      rwa [add_off, Nat.zero_add] at this
    · cases hl
  · rename_i cs hx
    rw [hx] at ex
    have ex := ex.eptr_inv
    generalize a.eval x = q at ex
    cases ex with
    | eptr _ b off f hm hh =>
      refine load_ok ht hl b off f (fun i c hc => ?_)
      have := hR.mr.imm _ _ _ (hm i c hc)
      exact ⟨this.1, this.2, .plain (hh i c hc)⟩
  · cases hl

/-- What the result variables hold. -/
def resA (P : Program) (st : St) : List ResultVar → Option (List AV)
  | [] => some []
  | .tmp t :: l => match resA P st l with
    | some r => some (st.tmps t :: r)
    | none => none
  | .cell t T :: l => match szA P T with
    | some (sz, ag) => match st.tmps t with
      | .ptr s off => match loadA ag sz st.rows (.ptr s off), resA P st l with
        | some v, some r => some (v :: r)
        | _, _ => none
      | _ => none
    | none => none
def one3 : List AV → AV
  | [v] => v
  | vs => .tup vs
def pass3 (ids : List Nat) : AV → AV
  | .tup vs => .tup (vs.map (pass2 ids fun _ => none))
  | a => pass2 ids (fun _ => none) a
def EndA (P : Program) (fn : Func) (k : Nat) (ret : AV) (mem' : List Row) (st : St) : Prop :=
  ∃ (rs : List AV) (ids : List Nat), resA P st fn.results.toList = some rs ∧ ids.Nodup ∧ (∀ j, j < k → ids[j]? = some j) ∧ ret = pass3 ids (one3 rs) ∧ mem' = ids.map (passRow ids (fun _ => none) st.rows)

def resM (tmps : Array Value) : ResultVar → Sem Value
  | .tmp t => pure (tmps.getD t undef)
  | .cell x t => do loadVar t (← asAddr (tmps.getD x undef))
theorem res_ok {M : Imm} {ρ : Plc} {a : Act} {w : World} (hR : Rel C M ρ st a w) : ∀ (l : List ResultVar) (rs : List AV), resA P st l = some rs →
    ∃ vs : List Value, (l.mapM (resM a.tmps)).run P w = .ok vs w ∧ rs.length = vs.length ∧ ∀ (i : Nat) (c : AV) (v : Value), rs[i]? = some c → vs[i]? = some v → VR M ρ c v
  | [], rs, h => by
    simp only [resA, Option.some.injEq] at h
    subst h
    exact ⟨[], rfl, rfl, by simp⟩
  | .tmp t :: l, rs, h => by
    simp only [resA] at h
    split at h
    · rename_i r hr
      injection h with h; subst h
      obtain ⟨vs, h1, h2, h3⟩ := res_ok hR l r hr
      refine ⟨a.tmps.getD t undef :: vs, ?_, by simp [h2], fun i c v hc hv => ?_⟩
      · rw [List.mapM_cons]
        simp only [Sem.run_bind, resM, Sem.run_pure, Result.andThen_ok, h1]
      · cases i with
        | zero => simp only [List.getElem?_cons_zero, Option.some.injEq] at hc hv; subst hc hv; exact hR.tm t
        | succ i => exact h3 i c v (by simpa using hc) (by simpa using hv)
    · cases h
  | .cell t T :: l, rs, h => by
    simp only [resA] at h
    split at h
    · rename_i sz ag ht
      split at h
      · rename_i s off hp
        split at h
        · rename_i v r hv hr
          injection h with h; subst h
          obtain ⟨vs, h1, h2, h3⟩ := res_ok hR l r hr
          obtain ⟨u, hu, hU⟩ := load_rel hR ht (x := .tmp t) (v := v) (by simp only [St.ev, hp]; exact hv)
          have ep := hR.tm t
          rw [hp] at ep
          obtain ⟨y, hy, hyn, ep⟩ := ep.ptr_inv
          have hu' : (do loadVar T (← asAddr (a.tmps.getD t undef)) : Sem Value).run P w = .ok u w := by
            rw [ep]
            have : a.eval (.tmp t) = .pointer (some ⟨y.g, off, none⟩) := ep
            rw [this] at hu
            simpa [Instr.loadAt, Instr.sureAddr, asAddr] using hu
          refine ⟨u :: vs, ?_, by simp [h2], fun i c v hc hv => ?_⟩
          · rw [List.mapM_cons]
            have hu2 : (resM a.tmps (.cell t T)).run P w = .ok u w := hu'
            simp only [Sem.run_bind, hu2, Sem.run_pure, Result.andThen_ok, h1]
          · cases i with
            | zero => simp only [List.getElem?_cons_zero, Option.some.injEq] at hc hv; subst hc hv; exact hU
            | succ i => exact h3 i c v (by simpa using hc) (by simpa using hv)
        · cases h
      · cases h
    · cases h

section
variable {M : Imm} {ρ : Plc} {ids : List Nat}
def subP (ids : List Nat) (ρ : Plc) : Plc := fun j => match ids[j]? with | some s => ρ s | none => none
theorem VR.ps1 {a : AV} {v : Value} (h : VR M ρ a v) : VR M (subP ids ρ) (pass1 ids (fun _ => none) a) v := by
  cases h with
  | plain h => cases h <;> first | exact .plain (.top _) | exact .plain (by constructor <;> assumption)
  | own s g n cap h =>
    simp only [pass1]
    split
    · rename_i j hj
      exact .own j g n cap (by simp only [subP, findI_some hj]; exact h)
    · exact .plain (.top _)
  | ownl s g cap h =>
    simp only [pass1]
    split
    · rename_i j hj
      exact .ownl j g cap (by simp only [subP, findI_some hj]; exact h)
    · exact .plain (.top _)
  | ptr s off x h hx =>
    simp only [pass1]
    split
    · rename_i j hj
      exact .ptr j off x (by simp only [subP, findI_some hj]; exact h) hx
    · exact .plain (.top _)
  | agg => exact .plain (.top _)
  | tup => exact .plain (.top _)
theorem VR.ps2 {a : AV} {v : Value} (h : VR M ρ a v) : VR M (subP ids ρ) (pass2 ids (fun _ => none) a) v := by
  by_cases hag : ∃ cs, a = .agg cs
  · obtain ⟨cs, rfl⟩ := hag
    obtain ⟨vs, rfl, hl, h1, h2⟩ := h.agg_inv
    refine .agg _ _ (by simpa using hl) h1 (fun i c u hc hu => ?_)
    rw [List.getElem?_map] at hc
    cases hq : cs[i]? with
    | none => rw [hq] at hc; cases hc
    | some q =>
      rw [hq] at hc; injection hc with hc; subst hc
      exact (h2 i q u hq hu).ps1
  · have e : pass2 ids (fun _ => none) a = pass1 ids (fun _ => none) a := by cases a <;> first | rfl | exact absurd ⟨_, rfl⟩ hag
    rw [e]; exact h.ps1
theorem VR.ps3 {a : AV} {v : Value} (h : VR M ρ a v) : VR M (subP ids ρ) (pass3 ids a) v := by
  by_cases hag : ∃ cs, a = .tup cs
  · obtain ⟨cs, rfl⟩ := hag
    obtain ⟨vs, rfl, hl, h2⟩ := h.tup_inv
    refine .tup _ _ (by simpa using hl) (fun i c u hc hu => ?_)
    rw [List.getElem?_map] at hc
    cases hq : cs[i]? with
    | none => rw [hq] at hc; cases hc
    | some q =>
      rw [hq] at hc; injection hc with hc; subst hc
      exact (h2 i q u hq hu).ps2
  · have e : pass3 ids a = pass2 ids (fun _ => none) a := by cases a <;> first | rfl | exact absurd ⟨_, rfl⟩ hag
    rw [e]; exact h.ps2
theorem sub_row {rows : Nat → Option Row} {j : Nat} {r : Row} (h : rowsOf (ids.map (passRow ids (fun _ => none) rows)) j = some r) (hs : r.solid = true) : ∃ s r0, ids[j]? = some s ∧ rows s = some r0 ∧ r0.solid = true ∧ r = passRow ids (fun _ => none) rows s := by
  simp only [rowsOf, List.getElem?_map] at h
  cases hj : ids[j]? with
  | none => rw [hj] at h; cases h
  | some s =>
    rw [hj] at h; injection h with h
    subst h
    unfold passRow at hs
    cases hr : rows s with
    | none => simp [hr, Row.solid] at hs
    | some r0 =>
      cases r0 with
      | gone => simp [hr, Row.solid] at hs
      | box T cs => exact ⟨s, _, rfl, hr, rfl, rfl⟩
      | row E sz cs => exact ⟨s, _, rfl, hr, rfl, rfl⟩
theorem MR.sub {rows : Nat → Option Row} {w : World} (h : MR M ρ rows w) (hnd : ids.Nodup) : MR M (subP ids ρ) (rowsOf (ids.map (passRow ids (fun _ => none) rows))) w := by
  refine ⟨fun j r hj hs => ?_, fun i j r r' x x' hi hj hs hs' hx hx' hne hn hn' => ?_, h.imm, fun b o v j r x hM hj hs hx hn => ?_⟩
  · obtain ⟨s, r0, e1, e2, e3, rfl⟩ := sub_row hj hs
    obtain ⟨x, hx, hX⟩ := h.row s r0 e2 e3
    refine ⟨x, by simp only [subP, e1]; exact hx, ?_⟩
    unfold passRow
    rw [e2]
    cases r0 with
    | box T cs =>
      obtain ⟨h0, arr, h1, h2, h3, h4⟩ := hX
      refine ⟨h0, arr, h1, by simpa using h2, h3, fun i c v hc hv => ?_⟩
      rw [List.getElem?_map] at hc
      cases hq : cs[i]? with
      | none => rw [hq] at hc; cases hc
      | some q =>
        rw [hq] at hc; injection hc with hc; subst hc
        exact (h4 i q v hq hv).ps1
    | row E sz cs => exact hX
    | gone => trivial
  · obtain ⟨s, r0, e1, e2, e3, rfl⟩ := sub_row hi hs
    obtain ⟨s', r0', e1', e2', e3', rfl⟩ := sub_row hj hs'
    simp only [subP, e1] at hx
    simp only [subP, e1'] at hx'
    refine h.inj s s' r0 r0' x x' e2 e2' e3 e3' hx hx' (fun e => hne ?_) hn hn'
    subst e
    have h1 : i < ids.length := by
      rcases Nat.lt_or_ge i ids.length with h' | h'
      · exact h'
      · rw [List.getElem?_eq_none h'] at e1; cases e1
    exact (List.getElem?_inj h1 hnd).1 (e1.trans e1'.symm)
  · obtain ⟨s, r0, e1, e2, e3, rfl⟩ := sub_row hj hs
    simp only [subP, e1] at hx
    exact h.apt b o v s r0 x hM e2 e3 hx hn
end

def tmps0 (i : Nat) : List AV → (Nat → AV) → (Nat → AV)
  | [], f => f
  | a :: l, f => tmps0 (i + 1) l (upd f i a)
theorem tmps0_get : ∀ (l : List AV) (i t : Nat) (f : Nat → AV), tmps0 i l f t = if i ≤ t ∧ t < i + l.length then l.getD (t - i) .top else f t
  | [], i, t, f => by simp only [tmps0, List.length_nil]; rw [if_neg (by omega)]
  | a :: l, i, t, f => by
    simp only [tmps0, tmps0_get l, List.length_cons]
    by_cases h1 : i + 1 ≤ t ∧ t < i + 1 + l.length
    · rw [if_pos h1, if_pos (by omega), show t - i = (t - (i + 1)) + 1 by omega]; simp
    · rw [if_neg h1]
      by_cases h2 : t = i
      · subst h2; rw [upd_same, if_pos (by omega)]; simp
      · rw [upd_ne _ _ h2, if_neg (by omega)]
/-- The state at the start of a function. -/
def st0 (args : List AV) (mem : List Row) : St := ⟨tmps0 0 args (fun _ => .top), rowsOf mem, 64⟩

theorem spec_of {f : FuncId} {fn : Func} {c : Code} {args : List AV} {mem mem' : List Row} {ret : AV} (hf : P.funcs[f]? = some fn) (hb : fn.body = some c) (hcl : callable P f = true) (hn : args.length ≤ fn.ntmps)
    (h : ∀ C : Ctx, C.N = fn.ntmps → (∀ s, mem.length ≤ s → C.ρ0 s = none) → AW P C c (st0 args mem) (fun e st' => (e = .normal ∨ e = .ret) ∧ EndA P fn mem.length ret mem' st')) : Spec P f args mem ret mem' := by
  refine ⟨hcl, fun M ρ w vs hmr hρ hlen hvs => ?_⟩
  refine calls_of_wp hf hb ?_
  let C : Ctx := ⟨w, DOf ρ (rowsOf mem), M, ρ, fn.ntmps⟩
  have hR : Rel C M ρ (st0 args mem) { tmps := vs ++ Array.replicate (fn.ntmps - vs.size) undef, defers := [] } w := by
    refine ⟨fun t => ?_, ?_, rfl, hmr, Chg.refl _ _, fun s r x h1 h2 h3 hn => .inl ⟨s, r, x, h1, h2, h3, hn, rfl⟩, Imm.le_refl _, Plc.le_refl _, fun _ _ _ => rfl, fun s hs => ?_⟩
    · simp only [st0, tmps0_get]
      split
      · rename_i hc
        have h1 : t < args.length := by omega
        have h2 : t < vs.size := by omega
        have e : (vs ++ Array.replicate (fn.ntmps - vs.size) undef).getD t undef = vs[t] := by
          have h3 : t < vs.size + (fn.ntmps - vs.size) := by omega
          simp [h2, h3, Array.getElem_append_left h2]
        rw [e]
        have := hvs t args[t] vs[t] (List.getElem?_eq_getElem h1) (Array.getElem?_eq_getElem h2)
        simpa [h1] using this
      · exact .plain (.top _)
    · show (vs ++ Array.replicate (fn.ntmps - vs.size) undef).size = fn.ntmps
      simp; omega
    · refine hρ s ?_
      rcases Nat.lt_or_ge s mem.length with h' | h'
      · have hs : mem[s]? = none := hs
        rw [List.getElem?_eq_getElem h'] at hs; cases hs
      · exact h'
  refine Code.wp_mono (fun e a' w' ⟨st', M', ρ', hq, hR'⟩ => ?_) (h C rfl hρ M ρ _ w hR)
  obtain ⟨he, rs, ids, hrs, hnd, hids, rfl, rfl⟩ := hq
  obtain ⟨us, hu, hul, huv⟩ := res_ok hR' _ _ hrs
  have hrun : (results fn a'.tmps).run P w' = .ok (if h : us.toArray.size = 1 then us.toArray[0] else .tuple us.toArray) w' := by
    have hre : results fn a'.tmps = (do let vs ← fn.results.mapM (resM a'.tmps); pure (if h : vs.size = 1 then vs[0] else .tuple vs)) := by
      unfold results
      congr 2
    rw [hre]
    have hm : (fn.results.mapM (resM a'.tmps)).run P w' = .ok us.toArray w' := by
      rw [← Array.toArray_toList (xs := fn.results), List.mapM_toArray]
      simp only [Sem.run_map, hu, Result.andThen_ok]
    simp only [Sem.run_bind, hm, Result.andThen_ok, Sem.run_pure]
  have hvr : VR M' ρ' (one3 rs) (if h : us.toArray.size = 1 then us.toArray[0] else .tuple us.toArray) := by
    cases rs with
    | nil =>
      have : us = [] := List.eq_nil_of_length_eq_zero (by simpa using hul.symm)
      subst this
      simp only [List.size_toArray, List.length_nil, Nat.zero_ne_one, dite_false, one3]
      exact .tup _ _ rfl (by simp)
    | cons r1 rs =>
      cases rs with
      | nil =>
        obtain ⟨u1, rfl⟩ : ∃ u1, us = [u1] := List.length_eq_one_iff.1 (by simpa using hul.symm)
        exact huv 0 r1 u1 rfl rfl
      | cons r2 rs =>
        have h1 : ¬ us.toArray.size = 1 := by simp at hul ⊢; omega
        rw [dif_neg h1]
        refine .tup _ _ (by simpa using hul) (fun i c v hc hv => huv i c v hc (by simpa using hv))
  have hpost : bodyPost P fn (fun e w'' => ∃ v M'' ρ'', e = .returned v ∧ M.le M'' ∧ ρ.le ρ'' ∧ MR M'' ρ'' (rowsOf (ids.map (passRow ids (fun _ => none) st'.rows))) w'' ∧ (∀ s, (ids.map (passRow ids (fun _ => none) st'.rows)).length ≤ s → ρ'' s = none) ∧ VR M'' ρ'' (pass3 ids (one3 rs)) v ∧ Chg (DOf ρ (rowsOf mem)) w w'' ∧
      (∀ b, b < w.heap.size → ¬ DOf ρ (rowsOf mem) b → M'' b = M b) ∧ ∀ s r x, rowsOf (ids.map (passRow ids (fun _ => none) st'.rows)) s = some r → r.solid = true → ρ'' s = some x → x.nl = false → DOf ρ (rowsOf mem) x.g ∨ w.heap.size ≤ x.g) .ret a' w' := by
    refine bodyPost_ret hrun hR'.df ⟨_, M', subP ids ρ', rfl, hR'.m0, fun s x hs => ?_, hR'.mr.sub hnd, fun s hs => ?_, hvr.ps3, hR'.chg, hR'.mold, fun s r x h1 h2 h3 hn => ?_⟩
    · have hlt : s < mem.length := by
        rcases Nat.lt_or_ge s mem.length with h' | h'
        · exact h'
        · rw [hρ s h'] at hs; cases hs
      simp only [subP, hids s hlt]
      exact hR'.r0 s x hs
    · simp only [List.length_map] at hs
      simp only [subP, List.getElem?_eq_none hs]
    · obtain ⟨s', r0, e1, e2, e3, rfl⟩ := sub_row h1 h2
      simp only [subP, e1] at h3
      exact hR'.new s' r0 x e2 e3 h3 hn
  rcases he with rfl | rfl
  · exact hpost
  · exact hpost
end
end Go.Proofs.Ytfpfalknddfejaa
