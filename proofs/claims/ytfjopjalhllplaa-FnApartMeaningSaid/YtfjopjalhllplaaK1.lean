/- Joined texts: Gt Ge Ty Gn Fs Br By. -/
import Derived.Test.YtfjopjalhllplaaKGb
import Derived.Test.YtfjopjalhllplaaProg
import Derived.WalkKit
import Derived.Lib.Hide
import Derived.Handy
import Derived.Deep.QuietTactic
import Derived.BigQuiet
import Derived.Deep.Slices
import Derived.Deep.Fields
import Derived.Lib.SmallJoins
import Derived.Test.YtfjopjalhllplaaRows
import Derived.ProofKit
import Derived.OpenShut
import Derived.ShutString
import Derived.ChangeOld
/- The engine: an own slice cut short (s = s[:k]) in a region whose order is not drawn. Over any program. -/
namespace Go.Proofs.Ytfjopjalhllplaa
open Go.RowKit
set_option maxRecDepth 100000
set_option linter.unusedVariables false
set_option linter.unusedSimpArgs false
section
variable {P : Program} {BR : Nat → Bool} {C : Ctx} {M : Imm} {ρ : Plc} {st : St} {a : Act} {w : World}
theorem aSeq_opsK {ops : Array Oper} (hN : dstB C.N ops = true) {Q : Exit → Act → World → Prop} {K : St → Prop} (L2 : List Nat) (hK : ∀ st' M' ρ' a' w', K st' → Rel C M' ρ' st' a' w' → wpOps P ops Q L2 a' w') :
  ∀ (L : List Nat) (bs : Nat) (st : St) (M : Imm) (ρ : Plc) (a : Act) (w : World), aSeq P BR ops bs L st K → Rel C M ρ st a w → wpOps P ops Q (L ++ L2) a w
 | [], bs, st, M, ρ, a, w, h, hR => hK _ _ _ _ _ h hR
 | i :: L, bs, st, M, ρ, a, w, h, hR => by
  obtain ⟨o, st', ho, hg, h⟩ := h
  rw [List.cons_append, wpOps_cons]
  exact gst_ok ho hg hR (dstB_spec hN ho) (fun M' ρ' a' w' hR' => aSeq_opsK hN L2 hK L bs st' M' ρ' a' w' h hR')
theorem aRun_seq2 {ops : List Oper} {bs : Nat} {K : St → Prop} : ∀ (l : List Oper) (i : Nat) (st : St), (∀ j, j < l.length → l[j]? = ops[i + j]?) → aRun P BR ops bs i l st K → aSeq P BR ops.toArray bs (List.range' i l.length) st K
 | [], i, st, _, h => h
 | o :: l, i, st, hl, h => by
  obtain ⟨st', h1, h2⟩ := aG_gst h
  have h0 : ops[i]? = some o := by simpa using (hl 0 (by simp)).symm
  rw [List.length_cons, List.range'_succ]
  exact ⟨o, st', by simpa using h0, h1, aRun_seq2 l (i + 1) st' (fun j hj => by have := hl (j + 1) (by simpa using hj); simpa [Nat.add_assoc, Nat.add_comm 1 j] using this) h2⟩
end
end Go.Proofs.Ytfjopjalhllplaa
/- The engine: contracts whose result is one of several; a write into an immutable cell that holds a slice. Over any program. -/
namespace Go.Proofs.Ytfjopjalhllplaa
open Go.RowKit
set_option maxRecDepth 100000
set_option linter.unusedVariables false
set_option linter.unusedSimpArgs false
/-- Of what is immutable, the cells that hold no slice. -/
def nsM (M : Imm) : Imm := fun b o => match M b o with
  | some v => if slV v then none else some v
  | none => none
theorem nsM_inv {M : Imm} {b o : Nat} {v : Value} (h : nsM M b o = some v) : M b o = some v ∧ slV v = false := by
  unfold nsM at h
  split at h
  · rename_i u hu
    split at h
    · cases h
    · rename_i h1
      injection h with h; subst h
      exact ⟨hu, by simpa using h1⟩
  · cases h
theorem nsM_some {M : Imm} {b o : Nat} {v : Value} (h : M b o = some v) (h1 : slV v = false) : nsM M b o = some v := by
  unfold nsM; simp [h, h1]
def NoSl (M : Imm) : Prop := ∀ b o v, M b o = some v → slV v = false
/-- Values that refer to nothing. -/
def flA : AV → Bool
  | .int _ _ | .bool _ | .str _ => true
  | _ => false
theorem pv_fl {M : Imm} {c : AV} {v : Value} (h : PV M c v) (hf : flA c = true) : slV v = false ∧ ∀ M', PV M' c v := by
  cases h with
  | int k n => exact ⟨rfl, fun M' => .int k n⟩
  | bool b => exact ⟨rfl, fun M' => .bool b⟩
  | str s => exact ⟨rfl, fun M' => .str s⟩
  | agg => cases hf
  | nil => cases hf
  | sl => cases hf
  | eptr => cases hf
  | top => cases hf
theorem pv_flsl {M M' : Imm} {cs : List AV} {n : Nat} {v : Value} (hc : ∀ c ∈ cs, flA c = true) (hM : ∀ b o v, M b o = some v → slV v = false → M' b o = some v) (h : PV M (.sl cs n) v) : PV M' (.sl cs n) v := by
  cases h with
  | sl _ _ A cap b off f hA hn hm hh =>
    exact .sl cs n A cap b off f hA hn (fun i c hi => hM _ _ _ (hm i c hi) (pv_fl (hh i c hi) (hc c (List.mem_of_getElem? hi))).1) (fun i c hi => (pv_fl (hh i c hi) (hc c (List.mem_of_getElem? hi))).2 M')
theorem rows_nil : rowsOf [] = fun _ => none := by funext s; simp [rowsOf]
/-- Called with arguments that read so, the function returns some of the tuples that R speaks of; nothing that was there has changed. -/
def SpecE (P : Program) (f : FuncId) (args : List AV) (R : List AV → Prop) : Prop :=
  callable P f = true ∧ ∀ (M : Imm) (w : World) (vs : Array Value), (∀ b o v, M b o = some v → w.cell? ⟨b, o, none⟩ = some v ∧ immOk w b o v) → args.length = vs.size →
    (∀ (i : Nat) (c : AV) (v : Value), args[i]? = some c → vs[i]? = some v → PV M c v) →
    Calls P f vs w fun e w' => ∃ (rets : List AV) (us : Array Value) (M' : Imm), R rets ∧ e = .returned (.tuple us) ∧ rets.length = us.size ∧ (∀ (i : Nat) (c : AV) (v : Value), rets[i]? = some c → us[i]? = some v → PV M' c v) ∧ M.le M' ∧
      (∀ b o v, M' b o = some v → w'.cell? ⟨b, o, none⟩ = some v ∧ immOk w' b o v) ∧ Chg (fun _ => False) w w' ∧ ∀ b, b < w.heap.size → M' b = M b
section
variable {P : Program}
theorem specE_of {f : FuncId} {fn : Func} {c : Code} {args : List AV} {R : List AV → Prop} (hf : P.funcs[f]? = some fn) (hb : fn.body = some c) (hcl : callable P f = true) (hn : args.length ≤ fn.ntmps)
    (hfl : ∀ (M : Imm) (i : Nat) (c : AV) (v : Value), args[i]? = some c → PV M c v → PV (nsM M) c v)
    (h : ∀ C : Ctx, C.N = fn.ntmps → (∀ s, 0 ≤ s → C.ρ0 s = none) → (∀ b, ¬ C.D b) → NoSl C.M0 → AW P C c (st0 args []) (fun e st' => (e = .normal ∨ e = .ret) ∧ ∃ rets, R rets ∧ 2 ≤ rets.length ∧ resA P st' fn.results.toList = some rets ∧ ∀ c ∈ rets, c.pl = true)) : SpecE P f args R := by
  refine ⟨hcl, fun M w vs him hlen hvs => ?_⟩
  refine calls_of_wp hf hb ?_
  let C : Ctx := ⟨w, fun _ => False, nsM M, fun _ => none, fn.ntmps⟩
  have hR : Rel C (nsM M) (fun _ => none) (st0 args []) { tmps := vs ++ Array.replicate (fn.ntmps - vs.size) undef, defers := [] } w := by
    refine ⟨fun t => ?_, ?_, rfl, ?_, Chg.refl _ _, fun s r x h1 h2 h3 hn => by simp at h3, Imm.le_refl _, Plc.le_refl _, fun _ _ _ => rfl, fun s hs => rfl⟩
    · simp only [st0, tmps0_get]
      split
      · rename_i hc
        have h1 : t < args.length := by omega
        have h2 : t < vs.size := by omega
        have e : (vs ++ Array.replicate (fn.ntmps - vs.size) undef).getD t undef = vs[t] := by
          have h3 : t < vs.size + (fn.ntmps - vs.size) := by omega
          simp [h2, h3, Array.getElem_append_left h2]
        rw [e]
        have := hfl M t args[t] vs[t] (List.getElem?_eq_getElem h1) (hvs t args[t] vs[t] (List.getElem?_eq_getElem h1) (Array.getElem?_eq_getElem h2))
        exact .plain (by simpa [h1] using this)
      · exact .plain (.top _)
    · show (vs ++ Array.replicate (fn.ntmps - vs.size) undef).size = fn.ntmps
      simp; omega
    · show MR _ _ (rowsOf []) w
      rw [rows_nil]
      exact MR.empty _ _ _ fun b o v h => him b o v (nsM_inv h).1
  refine Code.wp_mono (fun e a' w' ⟨st', M1, ρ', hq, hR'⟩ => ?_) (h C rfl (fun _ _ => rfl) (fun _ h => h) (fun b o v h => (nsM_inv h).2) (nsM M) _ _ w hR)
  obtain ⟨he, rs, hRs, h2, hrs, hpl⟩ := hq
  obtain ⟨us, hu, hul, huv⟩ := res_ok hR' _ _ hrs
  have h1 : ¬ us.toArray.size = 1 := by simp; omega
  have hrun : (results fn a'.tmps).run P w' = .ok (.tuple us.toArray) w' := by
    have hre : results fn a'.tmps = (do let vs ← fn.results.mapM (resM a'.tmps); pure (if h : vs.size = 1 then vs[0] else .tuple vs)) := by
      unfold results
      congr 2
    rw [hre]
    have hm : (fn.results.mapM (resM a'.tmps)).run P w' = .ok us.toArray w' := by
      rw [← Array.toArray_toList (xs := fn.results), List.mapM_toArray]
      simp only [Sem.run_map, hu, Result.andThen_ok]
    simp only [Sem.run_bind, hm, Result.andThen_ok, Sem.run_pure]
    rw [dif_neg h1]
  let M' : Imm := fun b => if b < w.heap.size then M b else M1 b
  have hM1 : M1.le M' := fun b o v h => by
    show (if b < w.heap.size then M b else M1 b) o = some v
    split
    · rename_i hb
      have := hR'.mold b hb (fun h => h)
      rw [this] at h
      exact (nsM_inv h).1
    · exact h
  have hpost : bodyPost P fn (fun e w'' => ∃ (rets : List AV) (us : Array Value) (M' : Imm), R rets ∧ e = .returned (.tuple us) ∧ rets.length = us.size ∧ (∀ (i : Nat) (c : AV) (v : Value), rets[i]? = some c → us[i]? = some v → PV M' c v) ∧ M.le M' ∧
      (∀ b o v, M' b o = some v → w''.cell? ⟨b, o, none⟩ = some v ∧ immOk w'' b o v) ∧ Chg (fun _ => False) w w'' ∧ ∀ b, b < w.heap.size → M' b = M b) .ret a' w' := by
    refine bodyPost_ret hrun hR'.df ⟨rs, us.toArray, M', hRs, rfl, by simpa using hul, fun i c v hc hv => ((huv i c v hc (by simpa using hv)).pl (hpl c (List.mem_of_getElem? hc))).mono hM1, fun b o v h => ?_, fun b o v h => ?_, hR'.chg, fun b hb => if_pos hb⟩
    · have := cell_lt (him b o v h).1
      show (if b < w.heap.size then M b else M1 b) o = some v
      rw [if_pos this]; exact h
    · have h : (if b < w.heap.size then M b else M1 b) o = some v := h
      split at h
      · rename_i hb
        have he := hR'.chg.block b hb (fun h => h)
        have := him b o v h
        exact ⟨(cell_same he).trans this.1, immOk_same he this.2⟩
      · exact hR'.mr.imm b o v h
  rcases he with rfl | rfl
  · exact hpost
  · exact hpost
variable {BR : Nat → Bool} {C : Ctx} {M : Imm} {ρ : Plc} {st : St} {a : Act} {w : World}
/-- Behind a call whose contract is of that kind. -/
theorem callE_ok {o : Oper} {c : Call} {f : FuncId} {args : List AV} {R : List AV → Prop} (hop : o.op = .call c) (hcal : c.callee = .value (.func f)) (ha : evL st c.args.toList = args) (hpl : ∀ c ∈ args, c.pl = true) (hR : Rel C M ρ st a w) (hS : SpecE P f args R) (hd : ∀ k, o.dst = some k → k < C.N)
    {next : Act → World → Prop} {Q : Exit → Act → World → Prop} (hK : ∀ rets M' a' w', R rets → Rel C M' ρ (st.put o.dst (.tup rets)) a' w' → next a' w') : o.wp P a w next Q := by
  obtain ⟨hcl, hS⟩ := hS
  have e0 : ∀ l : List Operand, evL st l = l.map st.ev := fun l => by induction l with
    | nil => rfl
    | cons x l ih => simp [evL, ih]
  rw [e0] at ha
  obtain ⟨us, hrun, hul, hus⟩ := CalR.run (w := w) (st := st) (vs := args) (.inl ⟨hcal, ha.symm⟩) hop hR.ev hcl
  unfold Oper.wp
  rw [hrun, Oper.upon_enter]
  refine (hS M w us hR.mr.imm hul (fun i q v hq hv => (hus i q v hq hv).pl (hpl q (List.mem_of_getElem? hq)))).mono ?_
  rintro e w' ⟨rets, vs, M', h1, rfl, h2, h3, h4, h5, h6, h7⟩
  refine hK rets M' _ w' h1 (Rel.put (v := .tup rets) (u := .tuple vs) ⟨fun t => (hR.tm t).mono h4 (Plc.le_refl _), hR.N, hR.df, ⟨fun s r hr hs => ?_, hR.mr.inj, h5, fun b o v s r x hM hr hs hx hn => ?_⟩, ?_, hR.new, Imm.le_trans hR.m0 h4, hR.r0, fun b hb hD => ?_, hR.fr⟩ (.tup _ _ h2 (fun i c v hc hv => .plain (h3 i c v hc hv))) hd)
  · obtain ⟨x, hx, hX⟩ := hR.mr.row s r hr hs
    exact ⟨x, hx, (hX.same fun hn => h6.block _ (hX.lt hs hn) (fun h => h)).mono h4 (Plc.le_refl _)⟩
  · obtain ⟨y, hy, hY⟩ := hR.mr.row s r hr hs
    rw [hx] at hy; injection hy with hy; subst hy
    intro e
    have hlt := hY.lt hs hn
    have := h7 b (e ▸ hlt)
    rw [this] at hM
    exact hR.mr.apt b o v s r x hM hr hs hx hn e
  · exact hR.chg.trans h6 (fun b h => h.elim)
  · have := hR.chg.size
    rw [h7 b (by omega)]
    exact hR.mold b hb hD
/-- One operation in the middle of a region whose order is not drawn, by a rule of its own. -/
theorem AW_mid {Q : Exit → St → Prop} {id : Nat} {ops : List Oper} (l1 : List Oper) (o : Oper) (l2 : List Oper) {T : Nat → AV} {R : Nat → Option Row} {b : Nat} (i1 : Nat) (hi1 : i1 = l1.length + 1) (hops : ops = l1 ++ o :: l2) (hg : o.guard = none)
    (hN : dstB C.N ops.toArray = true) (Z : St → Prop) (Z2 : St → Prop)
    (h1 : aRun P BR ops b 0 l1 (St.mk T R b) Z)
    (hs : ∀ (M : Imm) (ρ : Plc) (st : St) (a : Act) (w : World), Z st → Rel C M ρ st a w → ∀ (next : Act → World → Prop) (Q : Exit → Act → World → Prop), (∀ st' M' ρ' a' w', Z2 st' → Rel C M' ρ' st' a' w' → next a' w') → o.wp P a w next Q)
    (h2 : ∀ st, Z2 st → aRun P BR ops b i1 l2 st fun st' => Q .normal (St.mk st'.tmps st'.rows (b + 1024))) :
    AW P C (.region id ops.toArray false) (St.mk T R b) Q := fun M ρ a w hR => by
  subst hi1
  have hlen : ops.length = l1.length + (1 + l2.length) := by rw [hops]; simp; omega
  have e1 : List.range ops.toArray.size = List.range' 0 l1.length ++ (l1.length :: List.range' (l1.length + 1) l2.length) := by
    rw [List.size_toArray, List.range_eq_range', hlen, ← List.range'_append_1, Nat.zero_add, Nat.add_comm 1, List.range'_succ]
  refine wp_region ?_
  rw [e1]
  have s1 := aRun_seq2 l1 0 _ (fun j hj => by rw [hops, Nat.zero_add, List.getElem?_append_left hj]) h1
  refine aSeq_opsK (K := Z) hN _ (fun st1 M1 ρ1 a1 w1 ht hR1 => ?_) _ _ _ M ρ a w s1 hR
  have ho : ops.toArray[l1.length]? = some o := by rw [hops]; simp
  rw [wpOps_cons]
  unfold wpOp
  simp only [ho]
  have hw : Region.wanted o (yielded ops.toArray a1.tmps) = true := by simp [Region.wanted, hg]
  rw [if_pos hw]
  refine .inl (hs M1 ρ1 st1 a1 w1 ht hR1 _ _ (fun st2 M2 ρ2 a2 w2 hz hR2 => ?_))
  have s2 := aRun_seq2 l2 (l1.length + 1) st2 (fun j hj => by
    rw [hops, List.getElem?_append_right (by omega), show l1.length + 1 + j - l1.length = j + 1 by omega, List.getElem?_cons_succ]) (h2 st2 hz)
  refine aSeq_ops hN (Q := fun e a' w' => ∃ st' M' ρ', Q e st' ∧ Rel C M' ρ' st' a' w') (fun st' M' ρ' a' w' h1 h2 => ?_) _ _ _ _ _ _ _ s2 hR2
  exact ⟨St.mk st'.tmps st'.rows (b + 1024), M', ρ', h1, h2.next _⟩
/-- What is immutable, with one cell written. -/
def updM (M : Imm) (g off : Nat) (u : Value) : Imm := fun b o => if b = g ∧ o = off then some u else M b o
theorem updM_ns {M : Imm} {g off : Nat} {u old : Value} (ho : M g off = some old) (hs : slV old = true) : ∀ b o v, M b o = some v → slV v = false → updM M g off u b o = some v := fun b o v h h1 => by
  unfold updM
  rw [if_neg]
  · exact h
  · rintro ⟨rfl, rfl⟩
    rw [ho] at h; injection h with h; subst h
    rw [hs] at h1; cases h1
/-- A store of a slice into an immutable cell that holds a slice and lies in new memory: the old memory holds no slice of which anything is known. -/
theorem storeI_ok {o : Oper} {t : TypeId} {x v : Operand} (hop : o.op = .store t x v) (ht : szA P t = some (1, false)) {cs : List AV} {ag0 : List AV} {n0 : Nat} (hx : st.ev x = .eptr (.sl ag0 n0 :: cs)) {ag : List AV} {n : Nat} (hv : st.ev v = .sl ag n)
    (hR : Rel C M ρ st a w) (hD : ∀ b, ¬ C.D b) (hM0 : NoSl C.M0) {Z : (Nat → AV) → Prop} (hrows : ∀ s r, st.rows s = some r → (r = .gone ∨ ∃ T cs, r = .box T cs ∧ ∀ c ∈ cs, flA c = true ∨ ∃ l m, c = .sl l m ∧ ∀ q ∈ l, flA q = true))
    (hT : ∀ (g off : Nat) (u old : Value), M g off = some old → slV old = true → PV M (.sl ag0 n0) old → PV M (.sl ag n) u → ∃ T', Z T' ∧ ∀ k, VR (updM M g off u) ρ (T' k) (a.tmps.getD k undef)) (hd : o.dst = none) :
    ∃ w' M' T', Z T' ∧ (execOp a.eval o).run P w = .ok .skip w' ∧ Rel C M' ρ (St.mk T' st.rows st.bs) (a.put o.dst undef) w' := by
  have ex := hR.ev x
  rw [hx] at ex
  have ex := ex.eptr_inv
  have ev := hR.ev v
  rw [hv] at ev
  have ev := ev.sl_inv
  generalize hax : a.eval x = ax at ex
  generalize hav : a.eval v = u at ev
  cases ex with
  | eptr _ g off f hm hh =>
    have hold := hm 0 _ rfl
    have hpo := hh 0 _ rfl
    rw [Nat.add_zero] at hold
    generalize f 0 = old at hold hpo
    have hos : slV old = true := by cases hpo; rfl
    have hu1 : u.oneCell' = true ∧ u.cells = #[u] ∧ slV u = true := by cases ev; exact ⟨rfl, rfl, rfl⟩
    obtain ⟨hcell, _, hfz⟩ := hR.mr.imm g off old hold
    have hfz := hfz hos
    have hgl := cell_lt hcell
    -- the cell lies in new memory
    have hnew : C.w0.heap.size ≤ g := by
      rcases Nat.lt_or_ge g C.w0.heap.size with h' | h'
      · have := hR.mold g h' (hD g)
        rw [this] at hold
        have := hM0 _ _ _ hold
        rw [hos] at this; cases this
      · exact h'
    have hrun : (execOp a.eval o).run P w = .ok .skip (w.setCell ⟨g, off, none⟩ u) := by
      have hex : execOp a.eval o = (do Instr.storeAt t (a.eval x) (a.eval v); pure .skip) := by unfold execOp; simp only [hop]
      have hs := (run_szA ht w).1
      have hst : (Instr.storeAt t (.pointer (some ⟨g, off, none⟩)) u).run P w = .ok () (w.setCell ⟨g, off, none⟩ u) := by
        obtain ⟨A, cap, rfl⟩ : ∃ A cap, u = .slice A n cap := by cases ev; exact ⟨_, _, rfl⟩
        simp only [Instr.storeAt, Instr.sureAddr, storeVar, Sem.run_bind, Sem.run_pure, Result.andThen_ok, hs, hu1.2.1]
        simp [storeCells, store, hcell, hfz, Addr.add, Sem.run]
      rw [hex, hax, hav]
      simp [hst]
    have hother : ∀ b, b ≠ g → (w.setCell ⟨g, off, none⟩ u).heap[b]? = w.heap[b]? := fun b hb => by
      unfold World.setCell
      simp only [Array.getElem?_modify]
      rw [if_neg (fun h => hb h.symm)]
    obtain ⟨arr, TT, fr, hheap, hao⟩ : ∃ arr TT fr, w.heap[g]? = some (.cells arr TT fr) ∧ arr[off]? = some old := by
      unfold World.cell? at hcell
      split at hcell
      · rename_i c e f' hg
        exact ⟨c, e, f', hg, by simpa using hcell⟩
      · cases hcell
    have hheap' : (w.setCell ⟨g, off, none⟩ u).heap[g]? = some (.cells (arr.setIfInBounds off u) TT fr) := by
      unfold World.setCell
      simp [Array.getElem?_modify, hheap]
    obtain ⟨T', hZ, hT⟩ := hT g off u old hold hos hpo ev
    refine ⟨_, updM M g off u, T', hZ, hrun, ?_⟩
    have hput : a.put o.dst undef = a := by rw [hd]; rfl
    rw [hput]
    have hns := updM_ns (u := u) hold hos
    refine ⟨hT, hR.N, hR.df, ⟨fun s r hr hs => ?_, hR.mr.inj, fun b o' v' hM => ?_, fun b o' v' s r y hM hr hs hy hn => ?_⟩, ?_, hR.new, fun b o' v' h => hns _ _ _ (hR.m0 _ _ _ h) (hM0 _ _ _ h), hR.r0, fun b hb hDb => ?_, hR.fr⟩
    · obtain ⟨y, hy, hY⟩ := hR.mr.row s r hr hs
      rcases hrows s r hr with rfl | ⟨T, cs', rfl, hfl⟩
      · cases hs
      obtain ⟨h0, arr', a1, a2, a3, a4⟩ := hY
      have hne : y.g ≠ g := fun e => hR.mr.apt g off old s _ y hold hr rfl hy h0 e
      refine ⟨y, hy, h0, arr', (hother _ hne).trans a1, a2, a3, fun i c q hc hq => ?_⟩
      have h := a4 i c q hc hq
      rcases hfl c (List.mem_of_getElem? hc) with hf | ⟨l, m, rfl, hl⟩
      · have hp : c.pl = true := by cases c <;> first | rfl | cases hf
        exact .plain ((pv_fl (h.pl hp) hf).2 _)
      · exact .plain (pv_flsl hl hns h.sl_inv)
    · unfold updM at hM
      split at hM
      · rename_i hc
        obtain ⟨rfl, rfl⟩ := hc
        injection hM with hM; subst hM
        obtain ⟨hlt, _⟩ := Array.getElem?_eq_some_iff.1 hao
        refine ⟨?_, hu1.1, fun _ => ?_⟩
        · unfold World.cell?
          simp only [hheap']
          simp [hlt]
        · unfold World.frozen? at hfz ⊢
          simp only [hheap'] at hfz ⊢
          simp only [hheap] at hfz
          exact hfz
      · rename_i hc
        obtain ⟨k1, k2, k3⟩ := hR.mr.imm b o' v' hM
        by_cases hb : b = g
        · subst hb
          have hoo : o' ≠ off := fun e => hc ⟨rfl, e⟩
          refine ⟨?_, k2, fun h => ?_⟩
          · unfold World.cell? at k1 ⊢
            simp only [hheap'] 
            simp only [hheap] at k1
            simp only [Option.isSome_none, Bool.false_eq_true, if_false] at k1 ⊢
            rw [Array.getElem?_setIfInBounds_ne (Ne.symm hoo)]
            exact k1
          · have := k3 h
            unfold World.frozen? at this ⊢
            simp only [hheap'] 
            simp only [hheap] at this
            exact this
        · exact ⟨(cell_same (hother b hb)).trans k1, immOk_same (hother b hb) ⟨k2, k3⟩⟩
    · unfold updM at hM
      split at hM
      · rename_i hc
        obtain ⟨rfl, rfl⟩ := hc
        exact hR.mr.apt _ _ _ s r y hold hr hs hy hn
      · exact hR.mr.apt b o' v' s r y hM hr hs hy hn
    · refine hR.chg.trans (E := fun b => b = g) ⟨rfl, rfl, rfl, ?_, fun k _ hk => hother k hk⟩ (fun b hb => ?_)
      · unfold World.setCell; simp
      · subst hb
        exact .inr hnew
    · have hbg : b ≠ g := by omega
      rw [← hR.mold b hb hDb]
      funext o'
      unfold updM
      rw [if_neg (fun h => hbg h.1)]
theorem storeI_wp {o : Oper} {t : TypeId} {x v : Operand} (hop : o.op = .store t x v) (ht : szA P t = some (1, false)) {cs : List AV} {ag0 : List AV} {n0 : Nat} (hx : st.ev x = .eptr (.sl ag0 n0 :: cs)) {ag : List AV} {n : Nat} (hv : st.ev v = .sl ag n)
    (hR : Rel C M ρ st a w) (hD : ∀ b, ¬ C.D b) (hM0 : NoSl C.M0) {Z : (Nat → AV) → Prop} (hrows : ∀ s r, st.rows s = some r → (r = .gone ∨ ∃ T cs, r = .box T cs ∧ ∀ c ∈ cs, flA c = true ∨ ∃ l m, c = .sl l m ∧ ∀ q ∈ l, flA q = true))
    (hT : ∀ (g off : Nat) (u old : Value), M g off = some old → slV old = true → PV M (.sl ag0 n0) old → PV M (.sl ag n) u → ∃ T', Z T' ∧ ∀ k, VR (updM M g off u) ρ (T' k) (a.tmps.getD k undef)) (hd : o.dst = none)
    {next : Act → World → Prop} {Q : Exit → Act → World → Prop} (hK : ∀ M' T' a' w', Z T' → Rel C M' ρ (St.mk T' st.rows st.bs) a' w' → next a' w') : o.wp P a w next Q := by
  obtain ⟨w', M', T', hZ, hrun, hRel⟩ := storeI_ok hop ht hx hv hR hD hM0 hrows hT hd
  unfold Oper.wp
  rw [hrun]
  exact hK _ _ _ _ hZ hRel
end
end Go.Proofs.Ytfjopjalhllplaa
/- Facts on the program's types, printed by a program. -/
namespace Go.Proofs.Ytfjopjalhllplaa
open Go.RowKit
set_option linter.defProp false
def BR (f : Nat) : Bool := [12, 13, 20, 22, 29, 41, 43, 56, 83, 84, 85, 86, 87].contains f
theorem ty_fz (n : Nat) : FZ BR n = false := by
  show List.contains _ (1000000 + n) = false
  rw [List.contains_eq_mem]
  refine decide_eq_false ?_
  simp only [List.mem_cons, List.not_mem_nil, or_false]
  omega
theorem ty_br4 : BR 4 = false := by kernel_rfl
theorem ty_br5 : BR 5 = false := by kernel_rfl
theorem ty_br6 : BR 6 = false := by kernel_rfl
theorem ty_br7 : BR 7 = false := by kernel_rfl
theorem ty_bt4 : isBoolT Try.prog 4 = true := by kernel_rfl
theorem ty_br8 : BR 8 = false := by kernel_rfl
theorem ty_br9 : BR 9 = false := by kernel_rfl
theorem ty_sl22 : isSlT Try.prog 22 = true := by kernel_rfl
theorem ty_bt3 : isBoolT Try.prog 3 = false := by kernel_rfl
theorem ty_br10 : BR 10 = false := by kernel_rfl
theorem ty_br11 : BR 11 = false := by kernel_rfl
theorem ty_sl24 : isSlT Try.prog 24 = true := by kernel_rfl
theorem ty_br12 : BR 12 = true := by kernel_rfl
theorem ty_br13 : BR 13 = true := by kernel_rfl
theorem ty_el24 : elA Try.prog 24 = some (38, 2) := by kernel_rfl
theorem ty_fl38_1 : fldA Try.prog 38 1 = some (1, 1, false) := by kernel_rfl
theorem ty_sz36 : szA Try.prog 36 = some (1, false) := by kernel_rfl
theorem ty_sl36 : isSlT Try.prog 36 = true := by kernel_rfl
theorem ty_el36 : elA Try.prog 36 = some (39, 1) := by kernel_rfl
theorem ty_sz39 : szA Try.prog 39 = some (1, false) := by kernel_rfl
theorem ty_br15 : BR 15 = false := by kernel_rfl
theorem ty_br14 : BR 14 = false := by kernel_rfl
theorem ty_sz38 : szA Try.prog 38 = some (2, true) := by kernel_rfl
theorem ty_br16 : BR 16 = false := by kernel_rfl
theorem ty_im3_0 : immB Try.prog 3 0 = false := by kernel_rfl
theorem ty_by3 : bytesA Try.prog 3 = 8 := by kernel_rfl
theorem ty_el27 : elA Try.prog 27 = some (3, 1) := by kernel_rfl
theorem ty_zr3 : zeroA Try.prog 3 = some ([.int .i64 0]) := by kernel_rfl
theorem ty_br17 : BR 17 = false := by kernel_rfl
theorem ty_im3_1 : immB Try.prog 3 1 = true := by kernel_rfl
theorem ty_br18 : BR 18 = false := by kernel_rfl
theorem ty_sl27 : isSlT Try.prog 27 = true := by kernel_rfl
theorem ty_sz3 : szA Try.prog 3 = some (1, false) := by kernel_rfl
theorem ty_el22 : elA Try.prog 22 = some (5, 1) := by kernel_rfl
theorem ty_sz5 : szA Try.prog 5 = some (1, false) := by kernel_rfl
theorem ty_it5 : isIntT Try.prog 5 = some (.u8) := by kernel_rfl
theorem ty_it3 : isIntT Try.prog 3 = some (.i64) := by kernel_rfl
theorem ty_zr52 : zeroA Try.prog 52 = some ([.nil, .int .i64 0, .int .i64 0]) := by kernel_rfl
theorem ty_st52 : isStT Try.prog 52 = true := by kernel_rfl
theorem ty_pl52_0 : placeA Try.prog 52 0 = some (0, 1) := by kernel_rfl
theorem ty_pl52_2 : placeA Try.prog 52 2 = some (2, 1) := by kernel_rfl
theorem ty_br20 : BR 20 = true := by kernel_rfl
theorem ty_br19 : BR 19 = false := by kernel_rfl
theorem ty_im38_0 : immB Try.prog 38 0 = false := by kernel_rfl
theorem ty_by38 : bytesA Try.prog 38 = 32 := by kernel_rfl
theorem ty_zr38 : zeroA Try.prog 38 = some ([.int .i64 0, .nil]) := by kernel_rfl
theorem ty_fl38_0 : fldA Try.prog 38 0 = some (0, 1, false) := by kernel_rfl
theorem ty_br21 : BR 21 = false := by kernel_rfl
theorem ty_st38 : isStT Try.prog 38 = true := by kernel_rfl
theorem ty_pl38_0 : placeA Try.prog 38 0 = some (0, 1) := by kernel_rfl
theorem ty_pl38_1 : placeA Try.prog 38 1 = some (1, 1) := by kernel_rfl
theorem ty_im38_1 : immB Try.prog 38 1 = false := by kernel_rfl
theorem ty_br22 : BR 22 = true := by kernel_rfl
theorem ty_im45_0 : immB Try.prog 45 0 = false := by kernel_rfl
theorem ty_by45 : bytesA Try.prog 45 = 40 := by kernel_rfl
theorem ty_el39 : elA Try.prog 39 = some (45, 5) := by kernel_rfl
theorem ty_zr45 : zeroA Try.prog 45 = some ([.int .i64 0, .int .i64 0, .int .i64 0, .int .i64 0, .int .i64 0]) := by kernel_rfl
theorem ty_sl39 : isSlT Try.prog 39 = true := by kernel_rfl
theorem ty_sz45 : szA Try.prog 45 = some (5, true) := by kernel_rfl
theorem ty_br23 : BR 23 = false := by kernel_rfl
theorem ty_br24 : BR 24 = false := by kernel_rfl
theorem ty_im45_1 : immB Try.prog 45 1 = false := by kernel_rfl
theorem ty_zr43 : zeroA Try.prog 43 = some ([.int .i64 0, .int .i64 0, .int .i64 0, .int .i64 0]) := by kernel_rfl
theorem ty_st43 : isStT Try.prog 43 = true := by kernel_rfl
theorem ty_pl43_0 : placeA Try.prog 43 0 = some (0, 1) := by kernel_rfl
theorem ty_pl43_1 : placeA Try.prog 43 1 = some (1, 1) := by kernel_rfl
theorem ty_pl43_2 : placeA Try.prog 43 2 = some (2, 1) := by kernel_rfl
theorem ty_pl43_3 : placeA Try.prog 43 3 = some (3, 1) := by kernel_rfl
theorem ty_im43_8 : immB Try.prog 43 8 = false := by kernel_rfl
theorem ty_by43 : bytesA Try.prog 43 = 32 := by kernel_rfl
theorem ty_el64 : elA Try.prog 64 = some (43, 4) := by kernel_rfl
theorem ty_sz43 : szA Try.prog 43 = some (4, true) := by kernel_rfl
theorem ty_st45 : isStT Try.prog 45 = true := by kernel_rfl
theorem ty_pl45_0 : placeA Try.prog 45 0 = some (0, 4) := by kernel_rfl
theorem ty_br26 : BR 26 = false := by kernel_rfl
theorem ty_br25 : BR 25 = false := by kernel_rfl
theorem ty_fn45 : flatN Try.prog 4 45 = some 5 := by kernel_rfl
theorem ty_br27 : BR 27 = false := by kernel_rfl
theorem ty_sz57 : szA Try.prog 57 = some (4, true) := by kernel_rfl
theorem ty_fl57_3 : fldA Try.prog 57 3 = some (3, 1, false) := by kernel_rfl
theorem ty_sz55 : szA Try.prog 55 = some (1, false) := by kernel_rfl
theorem ty_sl55 : isSlT Try.prog 55 = true := by kernel_rfl
theorem ty_br28 : BR 28 = false := by kernel_rfl
theorem ty_zr57 : zeroA Try.prog 57 = some ([.int .i64 0, .int .i64 0, .int .i64 0, .nil]) := by kernel_rfl
theorem ty_st57 : isStT Try.prog 57 = true := by kernel_rfl
theorem ty_pl57_0 : placeA Try.prog 57 0 = some (0, 1) := by kernel_rfl
theorem ty_pl57_1 : placeA Try.prog 57 1 = some (1, 1) := by kernel_rfl
theorem ty_fl57_1 : fldA Try.prog 57 1 = some (1, 1, false) := by kernel_rfl
theorem ty_fl57_2 : fldA Try.prog 57 2 = some (2, 1, false) := by kernel_rfl
theorem ty_zr70 : zeroA Try.prog 70 = some ([.int .i64 0, .int .i64 0, .int .i64 0, .int .i64 0, .int .i64 0, .int .i64 0, .int .i64 0, .int .i64 0]) := by kernel_rfl
theorem ty_st70 : isStT Try.prog 70 = true := by kernel_rfl
theorem ty_pl70_0 : placeA Try.prog 70 0 = some (0, 1) := by kernel_rfl
theorem ty_pl70_2 : placeA Try.prog 70 2 = some (5, 1) := by kernel_rfl
theorem ty_pl70_3 : placeA Try.prog 70 3 = some (6, 1) := by kernel_rfl
theorem ty_im70_1 : immB Try.prog 70 1 = false := by kernel_rfl
theorem ty_by70 : bytesA Try.prog 70 = 64 := by kernel_rfl
theorem ty_el55 : elA Try.prog 55 = some (70, 8) := by kernel_rfl
theorem ty_br29 : BR 29 = true := by kernel_rfl
theorem ty_pl70_1 : placeA Try.prog 70 1 = some (1, 4) := by kernel_rfl
theorem ty_sz70 : szA Try.prog 70 = some (8, true) := by kernel_rfl
theorem ty_fl70_4 : fldA Try.prog 70 4 = some (7, 1, false) := by kernel_rfl
theorem ty_im39_0 : immB Try.prog 39 0 = false := by kernel_rfl
theorem ty_by39 : bytesA Try.prog 39 = 24 := by kernel_rfl
theorem ty_zr39 : zeroA Try.prog 39 = some ([.nil]) := by kernel_rfl
theorem ty_br30 : BR 30 = false := by kernel_rfl
theorem ty_im39_1 : immB Try.prog 39 1 = false := by kernel_rfl
theorem ty_fl52_2 : fldA Try.prog 52 2 = some (2, 1, false) := by kernel_rfl
theorem ty_fl52_1 : fldA Try.prog 52 1 = some (1, 1, false) := by kernel_rfl
theorem ty_fl52_0 : fldA Try.prog 52 0 = some (0, 1, false) := by kernel_rfl
theorem ty_sz22 : szA Try.prog 22 = some (1, false) := by kernel_rfl
theorem ty_fl45_0 : fldA Try.prog 45 0 = some (0, 4, true) := by kernel_rfl
theorem ty_br31 : BR 31 = false := by kernel_rfl
theorem ty_br32 : BR 32 = false := by kernel_rfl
theorem ty_fl45_1 : fldA Try.prog 45 1 = some (4, 1, false) := by kernel_rfl
theorem ty_br33 : BR 33 = false := by kernel_rfl
theorem ty_br34 : BR 34 = false := by kernel_rfl
theorem ty_br35 : BR 35 = false := by kernel_rfl
theorem ty_br36 : BR 36 = false := by kernel_rfl
theorem ty_br37 : BR 37 = false := by kernel_rfl
theorem ty_fl43_0 : fldA Try.prog 43 0 = some (0, 1, false) := by kernel_rfl
theorem ty_fl43_1 : fldA Try.prog 43 1 = some (1, 1, false) := by kernel_rfl
theorem ty_fl43_2 : fldA Try.prog 43 2 = some (2, 1, false) := by kernel_rfl
theorem ty_fl43_3 : fldA Try.prog 43 3 = some (3, 1, false) := by kernel_rfl
theorem ty_br38 : BR 38 = false := by kernel_rfl
theorem ty_fl57_0 : fldA Try.prog 57 0 = some (0, 1, false) := by kernel_rfl
theorem ty_br39 : BR 39 = false := by kernel_rfl
theorem ty_br40 : BR 40 = false := by kernel_rfl
theorem ty_sz68 : szA Try.prog 68 = some (4, true) := by kernel_rfl
theorem ty_zr68 : zeroA Try.prog 68 = some ([.int .i64 0, .int .i64 0, .int .i64 0, .int .i64 0]) := by kernel_rfl
theorem ty_im3_5 : immB Try.prog 3 5 = true := by kernel_rfl
theorem ty_im3_8 : immB Try.prog 3 8 = true := by kernel_rfl
theorem ty_br41 : BR 41 = true := by kernel_rfl
theorem ty_br42 : BR 42 = false := by kernel_rfl
theorem ty_br43 : BR 43 = true := by kernel_rfl
theorem ty_br44 : BR 44 = false := by kernel_rfl
theorem ty_br45 : BR 45 = false := by kernel_rfl
theorem ty_br46 : BR 46 = false := by kernel_rfl
theorem ty_br47 : BR 47 = false := by kernel_rfl
theorem ty_pl45_1 : placeA Try.prog 45 1 = some (4, 1) := by kernel_rfl
theorem ty_it73 : isIntT Try.prog 73 = some (.u64) := by kernel_rfl
theorem ty_br48 : BR 48 = false := by kernel_rfl
theorem ty_br49 : BR 49 = false := by kernel_rfl
theorem ty_br50 : BR 50 = false := by kernel_rfl
theorem ty_br51 : BR 51 = false := by kernel_rfl
theorem ty_br52 : BR 52 = false := by kernel_rfl
theorem ty_fl70_0 : fldA Try.prog 70 0 = some (0, 1, false) := by kernel_rfl
theorem ty_fl70_3 : fldA Try.prog 70 3 = some (6, 1, false) := by kernel_rfl
theorem ty_br53 : BR 53 = false := by kernel_rfl
theorem ty_br54 : BR 54 = false := by kernel_rfl
theorem ty_fl70_2 : fldA Try.prog 70 2 = some (5, 1, false) := by kernel_rfl
theorem ty_br55 : BR 55 = false := by kernel_rfl
theorem ty_br56 : BR 56 = true := by kernel_rfl
theorem ty_st68 : isStT Try.prog 68 = true := by kernel_rfl
theorem ty_pl68_0 : placeA Try.prog 68 0 = some (0, 1) := by kernel_rfl
theorem ty_pl68_1 : placeA Try.prog 68 1 = some (1, 1) := by kernel_rfl
theorem ty_fl68_2 : fldA Try.prog 68 2 = some (2, 1, false) := by kernel_rfl
theorem ty_fl68_3 : fldA Try.prog 68 3 = some (3, 1, false) := by kernel_rfl
theorem ty_br57 : BR 57 = false := by kernel_rfl
theorem ty_fl70_1 : fldA Try.prog 70 1 = some (1, 4, true) := by kernel_rfl
theorem ty_pl70_4 : placeA Try.prog 70 4 = some (7, 1) := by kernel_rfl
theorem ty_fn70 : flatN Try.prog 4 70 = some 8 := by kernel_rfl
theorem ty_br58 : BR 58 = false := by kernel_rfl
theorem ty_br59 : BR 59 = false := by kernel_rfl
theorem ty_br60 : BR 60 = false := by kernel_rfl
theorem ty_br61 : BR 61 = false := by kernel_rfl
theorem ty_br62 : BR 62 = false := by kernel_rfl
theorem ty_br63 : BR 63 = false := by kernel_rfl
theorem ty_fl68_1 : fldA Try.prog 68 1 = some (1, 1, false) := by kernel_rfl
theorem ty_im3_3 : immB Try.prog 3 3 = true := by kernel_rfl
theorem ty_br64 : BR 64 = false := by kernel_rfl
theorem ty_br65 : BR 65 = false := by kernel_rfl
theorem ty_sl102 : isSlT Try.prog 102 = true := by kernel_rfl
theorem ty_el102 : elA Try.prog 102 = some (105, 6) := by kernel_rfl
theorem ty_fl105_1 : fldA Try.prog 105 1 = some (1, 5, true) := by kernel_rfl
theorem ty_fl105_0 : fldA Try.prog 105 0 = some (0, 1, false) := by kernel_rfl
theorem ty_br66 : BR 66 = false := by kernel_rfl
theorem ty_fl68_0 : fldA Try.prog 68 0 = some (0, 1, false) := by kernel_rfl
theorem ty_br67 : BR 67 = false := by kernel_rfl
theorem ty_zr105 : zeroA Try.prog 105 = some ([.int .i64 0, .int .i64 0, .int .i64 0, .int .i64 0, .int .i64 0, .int .i64 0]) := by kernel_rfl
theorem ty_st105 : isStT Try.prog 105 = true := by kernel_rfl
theorem ty_pl105_0 : placeA Try.prog 105 0 = some (0, 1) := by kernel_rfl
theorem ty_pl105_1 : placeA Try.prog 105 1 = some (1, 5) := by kernel_rfl
theorem ty_im105_1 : immB Try.prog 105 1 = false := by kernel_rfl
theorem ty_by105 : bytesA Try.prog 105 = 48 := by kernel_rfl
theorem ty_br68 : BR 68 = false := by kernel_rfl
theorem ty_br69 : BR 69 = false := by kernel_rfl
theorem ty_br70 : BR 70 = false := by kernel_rfl
theorem ty_im105_2 : immB Try.prog 105 2 = false := by kernel_rfl
theorem ty_br71 : BR 71 = false := by kernel_rfl
theorem ty_br72 : BR 72 = false := by kernel_rfl
theorem ty_br73 : BR 73 = false := by kernel_rfl
theorem ty_br74 : BR 74 = false := by kernel_rfl
def TY :=
 (aI
 (aI
 (aI
 (aI
 (aI
 (aI
 (aI
 ty_fz
 (aI
 ty_br4
 ty_br5))
 (aI
 ty_br6
 (aI
 ty_br7
 ty_bt4)))
 (aI
 (aI
 ty_br8
 (aI
 ty_br9
 ty_sl22))
 (aI
 ty_bt3
 (aI
 ty_br10
 ty_br11))))
 (aI
 (aI
 (aI
 ty_sl24
 (aI
 ty_br12
 ty_br13))
 (aI
 ty_el24
 (aI
 ty_fl38_1
 ty_sz36)))
 (aI
 (aI
 ty_sl36
 (aI
 ty_el36
 ty_sz39))
 (aI
 ty_br15
 (aI
 ty_br14
 ty_sz38)))))
 (aI
 (aI
 (aI
 (aI
 ty_br16
 (aI
 ty_im3_0
 ty_by3))
 (aI
 ty_el27
 (aI
 ty_zr3
 ty_br17)))
 (aI
 (aI
 ty_im3_1
 (aI
 ty_br18
 ty_sl27))
 (aI
 ty_sz3
 (aI
 ty_el22
 ty_sz5))))
 (aI
 (aI
 (aI
 ty_it5
 (aI
 ty_it3
 ty_zr52))
 (aI
 ty_st52
 (aI
 ty_pl52_0
 ty_pl52_2)))
 (aI
 (aI
 ty_br20
 (aI
 ty_br19
 ty_im38_0))
 (aI
 ty_by38
 (aI
 ty_zr38
 ty_fl38_0))))))
 (aI
 (aI
 (aI
 (aI
 (aI
 ty_br21
 (aI
 ty_st38
 ty_pl38_0))
 (aI
 ty_pl38_1
 (aI
 ty_im38_1
 ty_br22)))
 (aI
 (aI
 ty_im45_0
 (aI
 ty_by45
 ty_el39))
 (aI
 ty_zr45
 (aI
 ty_sl39
 ty_sz45))))
 (aI
 (aI
 (aI
 ty_br23
 (aI
 ty_br24
 ty_im45_1))
 (aI
 ty_zr43
 (aI
 ty_st43
 ty_pl43_0)))
 (aI
 (aI
 ty_pl43_1
 (aI
 ty_pl43_2
 ty_pl43_3))
 (aI
 ty_im43_8
 (aI
 ty_by43
 ty_el64)))))
 (aI
 (aI
 (aI
 (aI
 ty_sz43
 (aI
 ty_st45
 ty_pl45_0))
 (aI
 ty_br26
 (aI
 ty_br25
 ty_fn45)))
 (aI
 (aI
 ty_br27
 (aI
 ty_sz57
 ty_fl57_3))
 (aI
 ty_sz55
 (aI
 ty_sl55
 ty_br28))))
 (aI
 (aI
 (aI
 ty_zr57
 (aI
 ty_st57
 ty_pl57_0))
 (aI
 ty_pl57_1
 (aI
 ty_fl57_1
 ty_fl57_2)))
 (aI
 (aI
 ty_zr70
 (aI
 ty_st70
 ty_pl70_0))
 (aI
 ty_pl70_2
 (aI
 ty_pl70_3
 ty_im70_1)))))))
 (aI
 (aI
 (aI
 (aI
 (aI
 (aI
 ty_by70
 (aI
 ty_el55
 ty_br29))
 (aI
 ty_pl70_1
 (aI
 ty_sz70
 ty_fl70_4)))
 (aI
 (aI
 ty_im39_0
 (aI
 ty_by39
 ty_zr39))
 (aI
 ty_br30
 (aI
 ty_im39_1
 ty_fl52_2))))
 (aI
 (aI
 (aI
 ty_fl52_1
 (aI
 ty_fl52_0
 ty_sz22))
 (aI
 ty_fl45_0
 (aI
 ty_br31
 ty_br32)))
 (aI
 (aI
 ty_fl45_1
 (aI
 ty_br33
 ty_br34))
 (aI
 ty_br35
 (aI
 ty_br36
 ty_br37)))))
 (aI
 (aI
 (aI
 (aI
 ty_fl43_0
 (aI
 ty_fl43_1
 ty_fl43_2))
 (aI
 ty_fl43_3
 (aI
 ty_br38
 ty_fl57_0)))
 (aI
 (aI
 ty_br39
 (aI
 ty_br40
 ty_sz68))
 (aI
 ty_zr68
 (aI
 ty_im3_5
 ty_im3_8))))
 (aI
 (aI
 (aI
 ty_br41
 (aI
 ty_br42
 ty_br43))
 (aI
 ty_br44
 (aI
 ty_br45
 ty_br46)))
 (aI
 (aI
 ty_br47
 (aI
 ty_pl45_1
 ty_it73))
 (aI
 ty_br48
 (aI
 ty_br49
 ty_br50))))))
 (aI
 (aI
 (aI
 (aI
 (aI
 ty_br51
 (aI
 ty_br52
 ty_fl70_0))
 (aI
 ty_fl70_3
 (aI
 ty_br53
 ty_br54)))
 (aI
 (aI
 ty_fl70_2
 (aI
 ty_br55
 ty_br56))
 (aI
 ty_st68
 (aI
 ty_pl68_0
 ty_pl68_1))))
 (aI
 (aI
 (aI
 ty_fl68_2
 (aI
 ty_fl68_3
 ty_br57))
 (aI
 ty_fl70_1
 (aI
 ty_pl70_4
 ty_fn70)))
 (aI
 (aI
 ty_br58
 (aI
 ty_br59
 ty_br60))
 (aI
 ty_br61
 (aI
 ty_br62
 ty_br63)))))
 (aI
 (aI
 (aI
 (aI
 ty_fl68_1
 (aI
 ty_im3_3
 ty_br64))
 (aI
 ty_br65
 (aI
 ty_sl102
 ty_el102)))
 (aI
 (aI
 ty_fl105_1
 (aI
 ty_fl105_0
 ty_br66))
 (aI
 ty_fl68_0
 (aI
 ty_br67
 ty_zr105))))
 (aI
 (aI
 (aI
 ty_st105
 (aI
 ty_pl105_0
 ty_pl105_1))
 (aI
 ty_im105_1
 (aI
 ty_by105
 ty_br68)))
 (aI
 (aI
 ty_br69
 (aI
 ty_br70
 ty_im105_2))
 (aI
 (aI
 ty_br71
 ty_br72)
 (aI
 ty_br73
 ty_br74))))))))
end Go.Proofs.Ytfjopjalhllplaa
/- Encodings of the program's types; printed. -/
namespace Go.Proofs.Ytfjopjalhllplaa
open Go.RowKit
set_option maxRecDepth 100000
set_option linter.unusedVariables false
set_option linter.unusedSimpArgs false
set_option linter.defProp false
set_option maxHeartbeats 4000000
theorem FM : Try.prog.follows .mixedOrders = true := by kernel_rfl
def EI (q : Int) : List AV := [.int .i64 q]
theorem EIl : ∀ q, (EI q).length = 1 := fun _ => rfl
theorem EIe (q : Int) : EI q = [.int .i64 q] := (rfl)
theorem EIf : ∀ l, (∀ c ∈ encL EI l, Free c) = True := free_enc fun q => by simp only [EIe, AL, and_self]
def EB (q : Int) : List AV := [.int .u8 q]
theorem EBl : ∀ q, (EB q).length = 1 := fun _ => rfl
theorem EBe (q : Int) : EB q = [.int .u8 q] := (rfl)
theorem EBf : ∀ l, (∀ c ∈ encL EB l, Free c) = True := free_enc fun q => by simp only [EBe, AL, and_self]
def EIIIII (q : Int × Int × Int × Int × Int) : List AV := [.int .i64 q.1, .int .i64 q.2.1, .int .i64 q.2.2.1, .int .i64 q.2.2.2.1, .int .i64 q.2.2.2.2]
theorem EIIIIIl : ∀ q, (EIIIII q).length = 5 := fun _ => rfl
theorem EIIIIIe (q : Int × Int × Int × Int × Int) : EIIIII q = [.int .i64 q.1, .int .i64 q.2.1, .int .i64 q.2.2.1, .int .i64 q.2.2.2.1, .int .i64 q.2.2.2.2] := (rfl)
theorem EIIIIIf : ∀ l, (∀ c ∈ encL EIIIII l, Free c) = True := free_enc fun q => by simp only [EIIIIIe, AL, and_self]
def EIIII (q : Int × Int × Int × Int) : List AV := [.int .i64 q.1, .int .i64 q.2.1, .int .i64 q.2.2.1, .int .i64 q.2.2.2]
theorem EIIIIl : ∀ q, (EIIII q).length = 4 := fun _ => rfl
theorem EIIIIe (q : Int × Int × Int × Int) : EIIII q = [.int .i64 q.1, .int .i64 q.2.1, .int .i64 q.2.2.1, .int .i64 q.2.2.2] := (rfl)
theorem EIIIIf : ∀ l, (∀ c ∈ encL EIIII l, Free c) = True := free_enc fun q => by simp only [EIIIIe, AL, and_self]
def EIIIIII (q : Int × Int × Int × Int × Int × Int) : List AV := [.int .i64 q.1, .int .i64 q.2.1, .int .i64 q.2.2.1, .int .i64 q.2.2.2.1, .int .i64 q.2.2.2.2.1, .int .i64 q.2.2.2.2.2]
theorem EIIIIIIl : ∀ q, (EIIIIII q).length = 6 := fun _ => rfl
theorem EIIIIIIe (q : Int × Int × Int × Int × Int × Int) : EIIIIII q = [.int .i64 q.1, .int .i64 q.2.1, .int .i64 q.2.2.1, .int .i64 q.2.2.2.1, .int .i64 q.2.2.2.2.1, .int .i64 q.2.2.2.2.2] := (rfl)
theorem EIIIIIIf : ∀ l, (∀ c ∈ encL EIIIIII l, Free c) = True := free_enc fun q => by simp only [EIIIIIIe, AL, and_self]
def EIIIIIIII (q : Int × Int × Int × Int × Int × Int × Int × Int) : List AV := [.int .i64 q.1, .int .i64 q.2.1, .int .i64 q.2.2.1, .int .i64 q.2.2.2.1, .int .i64 q.2.2.2.2.1, .int .i64 q.2.2.2.2.2.1, .int .i64 q.2.2.2.2.2.2.1, .int .i64 q.2.2.2.2.2.2.2]
theorem EIIIIIIIIl : ∀ q, (EIIIIIIII q).length = 8 := fun _ => rfl
theorem EIIIIIIIIe (q : Int × Int × Int × Int × Int × Int × Int × Int) : EIIIIIIII q = [.int .i64 q.1, .int .i64 q.2.1, .int .i64 q.2.2.1, .int .i64 q.2.2.2.1, .int .i64 q.2.2.2.2.1, .int .i64 q.2.2.2.2.2.1, .int .i64 q.2.2.2.2.2.2.1, .int .i64 q.2.2.2.2.2.2.2] := (rfl)
theorem EIIIIIIIIf : ∀ l, (∀ c ∈ encL EIIIIIIII l, Free c) = True := free_enc fun q => by simp only [EIIIIIIIIe, AL, and_self]
def ELIIIIIE (q : List (Int × Int × Int × Int × Int)) : List AV := [.sl (encL EIIIII q) q.length]
theorem ELIIIIIEl : ∀ q, (ELIIIIIE q).length = 1 := fun _ => rfl
theorem ELIIIIIEe (q : List (Int × Int × Int × Int × Int)) : ELIIIIIE q = [.sl (encL EIIIII q) q.length] := (rfl)
def EILLIIIIIEE (q : Int × List (List (Int × Int × Int × Int × Int))) : List AV := [.int .i64 q.1, .sl (encL ELIIIIIE q.2) q.2.length]
theorem EILLIIIIIEEl : ∀ q, (EILLIIIIIEE q).length = 2 := fun _ => rfl
theorem EILLIIIIIEEe (q : Int × List (List (Int × Int × Int × Int × Int))) : EILLIIIIIEE q = [.int .i64 q.1, .sl (encL ELIIIIIE q.2) q.2.length] := (rfl)
def EN := (aI (aI (aI @EIe @EBe) (aI @EIIIIIe @EIIIIe)) (aI (aI @EIIIIIIe @EIIIIIIIIe) (aI @ELIIIIIEe @EILLIIIIIEEe)))
def EF := (aI (aI @EIf (aI @EBf @EIIIIIf)) (aI @EIIIIf (aI @EIIIIIIf @EIIIIIIIIf)))
theorem lap_n {α : Type} (m : List α) : List.append [] m = m := (rfl)
theorem lap_c {α : Type} (a : α) (l m : List α) : List.append (a :: l) m = a :: List.append l m := (rfl)
def EV := aI (aI @lap_n @lap_c) (aI AE (aI TY EN))
abbrev LF := List (Int × Int × Int × Int × Int)
theorem le_d {n m : Nat} (h : Nat.ble n m = true) : n ≤ m := Nat.le_of_ble_eq_true h
theorem no_j {n : Nat} {p : Nat → Prop} (h : Nat.ble n 0 = true) : ∀ j, j < n → p j := fun j hj => absurd (Nat.lt_of_lt_of_le hj (Nat.le_of_ble_eq_true h)) (Nat.not_lt_zero _)
def RSS := (aI (aI (aI (aI (aI (aI @Try.results4 @Try.results6) (aI @Try.results7 @Try.results8)) (aI (aI @Try.results9 @Try.results10) (aI @Try.results11 @Try.results12))) (aI (aI (aI @Try.results13 @Try.results14) (aI @Try.results15 @Try.results16)) (aI (aI @Try.results17 @Try.results18) (aI @Try.results19 (aI @Try.results20 @Try.results21))))) (aI (aI (aI (aI @Try.results22 @Try.results23) (aI @Try.results24 @Try.results25)) (aI (aI @Try.results26 @Try.results27) (aI @Try.results28 (aI @Try.results29 @Try.results30)))) (aI (aI (aI @Try.results31 @Try.results32) (aI @Try.results33 @Try.results34)) (aI (aI @Try.results35 @Try.results36) (aI @Try.results37 (aI @Try.results38 @Try.results39)))))) (aI (aI (aI (aI (aI @Try.results40 @Try.results41) (aI @Try.results42 @Try.results43)) (aI (aI @Try.results44 @Try.results45) (aI @Try.results46 @Try.results47))) (aI (aI (aI @Try.results48 @Try.results49) (aI @Try.results50 @Try.results51)) (aI (aI @Try.results52 @Try.results53) (aI @Try.results54 (aI @Try.results55 @Try.results56))))) (aI (aI (aI (aI @Try.results57 @Try.results58) (aI @Try.results59 @Try.results60)) (aI (aI @Try.results61 @Try.results62) (aI @Try.results63 (aI @Try.results64 @Try.results65)))) (aI (aI (aI @Try.results66 @Try.results67) (aI @Try.results68 @Try.results69)) (aI (aI @Try.results70 @Try.results71) (aI @Try.results72 (aI @Try.results73 @Try.results74)))))))
section
variable {C : Ctx} {Q : Exit → St → Prop} {T : Nat → AV} {R : Nat → Option Row} {b n : Nat} {ops : List Oper} {st : St}
theorem AR {id : Nat} {draw : Bool} {y : Code} (hC : C.N = n) (h : ∀ K : St → Prop, (∀ T' R' b', AW Try.prog C y (St.mk T' R' (b + 1024)) Q → K (St.mk T' R' b')) → aRun Try.prog BR ops b 0 ops (St.mk T R b) K) (hN : dstB n ops.toArray = true := by kernel_rfl) (hB : (!draw || regB BR ops.toArray) = true := by kernel_rfl) :
    AW Try.prog C (.seq (.region id ops.toArray draw) y) (St.mk T R b) Q := AW_rs (BR := BR) FM (by rw [hC]; exact hN) hB h
theorem AS {id : Nat} {draw : Bool} (hC : C.N = n) (h : ∀ K : St → Prop, (∀ T' R' b', Q .normal (St.mk T' R' (b + 1024)) → K (St.mk T' R' b')) → aRun Try.prog BR ops b 0 ops (St.mk T R b) K) (hN : dstB n ops.toArray = true := by kernel_rfl) (hB : (!draw || regB BR ops.toArray) = true := by kernel_rfl) :
    AW Try.prog C (.region id ops.toArray draw) (St.mk T R b) Q := AW_re (BR := BR) FM (by rw [hC]; exact hN) hB h
theorem AJ {id : Nat} {draw : Bool} {y : Code} (J : St → Prop) (hC : C.N = n) (h : ∀ K : St → Prop, (∀ T' R' b', cutK C J (St.mk T' R' b') → K (St.mk T' R' b')) → aRun Try.prog BR ops b 0 ops (St.mk T R b) K) (h2 : ∀ S, J S → AW Try.prog C y S Q) (hN : dstB n ops.toArray = true := by kernel_rfl) (hB : (!draw || regB BR ops.toArray) = true := by kernel_rfl) :
    AW Try.prog C (.seq (.region id ops.toArray draw) y) (St.mk T R b) Q := AW_rsJ (BR := BR) J FM (by rw [hC]; exact hN) hB h h2
theorem SO {f : FuncId} {fn : Func} {c : Code} {args : List AV} {mem mem' : List Row} {ret : AV} (hf : Try.prog.funcs[f]? = some fn) (hb : fn.body = some c) (hn : fn.ntmps = n)
    (h : ∀ C : Ctx, C.N = n → (∀ s, mem.length ≤ s → C.ρ0 s = none) → AW Try.prog C c (st0 args mem) (fun e st' => (e = .normal ∨ e = .ret) ∧ EndA Try.prog fn mem.length ret mem' st')) (hcl : callable Try.prog f = true := by kernel_rfl)
    (hl : args.length ≤ n := by simp only [List.length_cons, List.length_nil, Nat.reduceAdd, Nat.reduceLeDiff]) : Spec Try.prog f args mem ret mem' := spec_of hf hb hcl (hn ▸ hl) fun C hN hρ => h C (hN.trans hn) hρ
theorem AB {β : Type} {c : Operand} {x y : Code} {d : Bool} {X Y : Option β} {r : β} (h : br d X Y = some r) (ht : d = true → X = some r → AW Try.prog C x st Q) (hf : d = false → Y = some r → AW Try.prog C y st Q) (hc : st.ev c = .bool d := by simp only [EV, seval]) :
    AW Try.prog C (.cond c x y) st Q := AW_condK hc (brK h ht hf)
theorem AK {c : Code} (h : AW Try.prog C c st Q) : AW Try.prog C c st Q := h
theorem EQ {k : Nat} {fn : Func} {ret : AV} {mem' : List Row} (ids : List Nat) (h : endR Try.prog st fn.results.toList k ids ret mem' := by simp only [EV, RSS, seval]) (hnd : nodB ids = true := by kernel_rfl)
    (hk : upB k (fun j => match ids[j]? with | some i => i == j | none => false) = true := by kernel_rfl) : (Exit.ret = .normal ∨ Exit.ret = .ret) ∧ EndA Try.prog fn k ret mem' st := end_q ids (.inr rfl) hnd hk h
theorem AX {k b' : Nat} (lt : List (Nat × AV)) (lr : List (Nat × Row)) (G : List (Nat × Option Nat)) (fz : List Nat) (hρ : ∀ s, k ≤ s → C.ρ0 s = none) (h : Q .ret ⟨mkT lt, mkR lr, b'⟩)
    (hG : gOK k G fz (lr.map fun x => (x.1, x.2.solid)) = true := by kernel_rfl) (hT : leT (lk G) (fzF fz R) T lt := by simp only [AL, EV, seval]) (hR : leR (lk G) (fzF fz R) R lr := by simp only [AL, EV, seval]) : AW Try.prog C .ret ⟨T, R, b⟩ Q :=
  AW_le (Le_can (b' := b') G fz hρ hG hT hR) (AW_ret h)
theorem AC {J : St → Prop} {k b' : Nat} {lt : List (Nat × AV)} {lr : List (Nat × Row)} (hJ : J ⟨mkT lt, mkR lr, b'⟩) (G : List (Nat × Option Nat)) (fz : List Nat) (hρ : ∀ s, k ≤ s → C.ρ0 s = none) (hG : gOK k G fz (lr.map fun x => (x.1, x.2.solid)) = true := by kernel_rfl)
    (hT : leT (lk G) (fzF fz R) T lt := by simp only [AL, EV, seval]) (hR : leR (lk G) (fzF fz R) R lr := by simp only [AL, EV, seval]) : cutK C J ⟨T, R, b⟩ := cutL hJ (Le_can G fz hρ hG hT hR)
theorem AN {id b' : Nat} {draw : Bool} {y : Code} {T' : Nat → AV} {R' : Nat → Option Row} (hC : C.N = n) (h : AW Try.prog C y (St.mk T' R' (b + 1024)) Q) (he : ∀ K : St → Prop, K (St.mk T' R' b') → aRun Try.prog BR ops b 0 ops (St.mk T R b) K := by intro K h; simp only [EV, seval]; exact h) (hN : dstB n ops.toArray = true := by kernel_rfl) (hB : (!draw || regB BR ops.toArray) = true := by kernel_rfl) :
    AW Try.prog C (.seq (.region id ops.toArray draw) y) (St.mk T R b) Q := AR hC (fun K hK => he K (hK _ _ _ h)) hN hB
theorem CP {BR : Nat → Bool} {i : Nat} {bs : Nat} {l : List Oper} {K : St → Prop} {f : FuncId} {args args' : List AV} {dst : Option Tmp} {ret : AV} {mem' : List Row} (hS : Spec Try.prog f args' [] ret mem')
    (hK : aRun Try.prog BR ops bs (i + 1) l (({ st with rows := addRows st.rows (bs + 16 * i) (mem'.map (Row.ren (mId [] (bs + 16 * i)))) } : St).put dst (ren3 (mId [] (bs + 16 * i)) ret)) K)
    (ha : cvA (args.map (pass2 [] fun _ => none)) args' := by simp only [AL, EV, seval]) (hl : mem'.length ≤ 16 := by exact le_d rfl) (hs : ∀ j, j < mem'.length → st.rows (bs + 16 * i + j) = none := by exact no_j rfl) :
    rC Try.prog BR ops bs i l st K f args dst := rC_p hS ha hl hs hK
theorem AP {id b' : Nat} {draw : Bool} {y : Code} {T' : Nat → AV} {R' : Nat → Option Row} {f : FuncId} {args' : List AV} {ret : AV} {mem' : List Row} (hC : C.N = n) (hS : Spec Try.prog f args' [] ret mem') (h : AW Try.prog C y (St.mk T' R' (b + 1024)) Q) (he : ∀ K : St → Prop, Spec Try.prog f args' [] ret mem' → K (St.mk T' R' b') → aRun Try.prog BR ops b 0 ops (St.mk T R b) K := by intro K hS h; simp only [EV, seval]; refine CP hS ?_; simp only [EV, seval]; exact h) (hN : dstB n ops.toArray = true := by kernel_rfl) (hB : (!draw || regB BR ops.toArray) = true := by kernel_rfl) :
    AW Try.prog C (.seq (.region id ops.toArray draw) y) (St.mk T R b) Q := AR hC (fun K hK => he K hS (hK _ _ _ h)) hN hB
end
end Go.Proofs.Ytfjopjalhllplaa
/- How arguments of the statements are opened: slices read as lists. -/
namespace Go.Proofs.Ytfjopjalhllplaa
open Go.RowKit Go.Lib
set_option linter.unusedVariables false
set_option linter.unusedSimpArgs false
abbrev Quad := Int × Int × Int × Int
/-- The slice that begins at A and has n elements reads as the list l. -/
def SlQ (w : World) (A : Option Addr) (n : Nat) (l : List Quad) : Prop :=
 l.length = n ∧ (0 < n → ∃ b off, A = some ⟨b, off, none⟩ ∧ b < w.heap.size ∧ ∀ (i : Nat) (q : Quad), l[i]? = some q →
   w.cell? ⟨b, off + i * 4, none⟩ = some (.int .i64 q.1) ∧ w.cell? ⟨b, off + i * 4 + 1, none⟩ = some (.int .i64 q.2.1) ∧
   w.cell? ⟨b, off + i * 4 + 2, none⟩ = some (.int .i64 q.2.2.1) ∧ w.cell? ⟨b, off + i * 4 + 3, none⟩ = some (.int .i64 q.2.2.2))

theorem SlQ.at {w : World} {A : Option Addr} {n k : Nat} {l : List Quad} (h : SlQ w A n l) (hk : k < n) :
  ∃ (b off : Nat) (q0 q1 q2 q3 : Int), A = some ⟨b, off, none⟩ ∧ b < w.heap.size ∧ Hid (l[k]? = some (q0, q1, q2, q3)) ∧
   w.cell? ⟨b, off + k * 4, none⟩ = some (.int .i64 q0) ∧ w.cell? ⟨b, off + k * 4 + 1, none⟩ = some (.int .i64 q1) ∧
   w.cell? ⟨b, off + k * 4 + 2, none⟩ = some (.int .i64 q2) ∧ w.cell? ⟨b, off + k * 4 + 3, none⟩ = some (.int .i64 q3) := by
 obtain ⟨b, off, hA, hb, hc⟩ := h.2 (by omega)
 have hl : k < l.length := by rw [h.1]; exact hk
 obtain ⟨c0, c1, c2, c3⟩ := hc k _ (List.getElem?_eq_getElem hl)
 exact ⟨b, off, l[k].1, l[k].2.1, l[k].2.2.1, l[k].2.2.2, hA, hb, hid (List.getElem?_eq_getElem hl), c0, c1, c2, c3⟩

theorem SlQ.keep {w w' : World} {A : Option Addr} {n : Nat} {l : List Quad} (h : SlQ w A n l) (hs : w.heap.size ≤ w'.heap.size)
  (hk : ∀ p : Addr, p.block < w.heap.size → w'.cell? p = w.cell? p) : SlQ w' A n l :=
 ⟨h.1, fun hn => by
   obtain ⟨b, off, hA, hb, hc⟩ := h.2 hn
   refine ⟨b, off, hA, by omega, fun i q hq => ?_⟩
   obtain ⟨c0, c1, c2, c3⟩ := hc i q hq
   exact ⟨(hk _ hb).trans c0, (hk _ hb).trans c1, (hk _ hb).trans c2, (hk _ hb).trans c3⟩⟩
theorem SlQ.below {w w' : World} {A : Option Addr} {n : Nat} {l : List Quad} (h : SlQ w A n l) (hb : Below w.heap.size w w') : SlQ w' A n l :=
 h.keep hb.size fun _ hp => hb.cell hp
theorem SlQ.alloc {w : World} {A : Option Addr} {n : Nat} {l : List Quad} (h : SlQ w A n l) (o : Obj) : SlQ (w.alloc o) A n l :=
 h.below ((Below.refl _ _).alloc (Nat.le_refl _) o)
theorem SlQ.drew {w : World} {A : Option Addr} {n : Nat} {l : List Quad} (h : SlQ w A n l) : SlQ w.drew A n l := h
theorem SlQ.nil (w : World) (A : Option Addr) : SlQ w A 0 [] := ⟨rfl, fun h => absurd h (by omega)⟩

def SlI (w : World) (A : Option Addr) (n : Nat) (l : List Int) : Prop :=
 l.length = n ∧ (0 < n → ∃ b off, A = some ⟨b, off, none⟩ ∧ b < w.heap.size ∧ ∀ (i : Nat) (q : Int), l[i]? = some q → w.cell? ⟨b, off + i, none⟩ = some (.int .i64 q))
theorem SlI.at {w : World} {A : Option Addr} {n k : Nat} {l : List Int} (h : SlI w A n l) (hk : k < n) :
  ∃ (b off : Nat) (q : Int), A = some ⟨b, off, none⟩ ∧ b < w.heap.size ∧ Hid (l[k]? = some q) ∧ w.cell? ⟨b, off + k, none⟩ = some (.int .i64 q) := by
 obtain ⟨b, off, hA, hb, hc⟩ := h.2 (by omega)
 have hl : k < l.length := by rw [h.1]; exact hk
 exact ⟨b, off, l[k], hA, hb, hid (List.getElem?_eq_getElem hl), hc k _ (List.getElem?_eq_getElem hl)⟩
theorem SlI.keep {w w' : World} {A : Option Addr} {n : Nat} {l : List Int} (h : SlI w A n l) (hs : w.heap.size ≤ w'.heap.size)
  (hk : ∀ p : Addr, p.block < w.heap.size → w'.cell? p = w.cell? p) : SlI w' A n l :=
 ⟨h.1, fun hn => by
   obtain ⟨b, off, hA, hb, hc⟩ := h.2 hn
   exact ⟨b, off, hA, by omega, fun i q hq => (hk _ hb).trans (hc i q hq)⟩⟩
theorem SlI.below {w w' : World} {A : Option Addr} {n : Nat} {l : List Int} (h : SlI w A n l) (hb : Below w.heap.size w w') : SlI w' A n l :=
 h.keep hb.size fun _ hp => hb.cell hp
theorem SlI.alloc {w : World} {A : Option Addr} {n : Nat} {l : List Int} (h : SlI w A n l) (o : Obj) : SlI (w.alloc o) A n l :=
 h.below ((Below.refl _ _).alloc (Nat.le_refl _) o)
theorem SlI.nil (w : World) (A : Option Addr) : SlI w A 0 [] := ⟨rfl, fun h => absurd h (by omega)⟩
end Go.Proofs.Ytfjopjalhllplaa
/- Common facts for the statements of this seat: how arguments are opened. -/
namespace Go.Proofs.Ytfjopjalhllplaa
open Go.ChangeShapes Go.WideShapes Go.ChangeAt Go.RowKit Go.Joins Go.Deep
set_option linter.unusedVariables false

theorem own : ownKnob Try.prog.godebug = none := by kernel_rfl
theorem laidOut : laidOutB Try.prog = true := by kernel_rfl

section
variable {H : Type} {enc : TypeId × Value → H} {P : Program} {w : World} {base : Nat} {spare : Nat → Bool} {held : Bool}
end
end Go.Proofs.Ytfjopjalhllplaa
/- How arguments that hold slices of ints are opened: []int, NormalForm. -/
namespace Go.Proofs.Ytfjopjalhllplaa
open Go.ChangeShapes Go.WideShapes Go.ChangeAt Go.RowKit Go.Joins Go.Deep
set_option linter.unusedVariables false
section
variable {H : Type} {enc : TypeId × Value → H} {P : Program} {w : World} {base : Nat} {spare : Nat → Bool} {held : Bool}
end
end Go.Proofs.Ytfjopjalhllplaa
/- From a contract on abstract values to calls in a given world; what comes in, as abstract values over the printed encodings. -/
namespace Go.Proofs.Ytfjopjalhllplaa
open Go.RowKit
set_option maxRecDepth 100000
set_option linter.unusedVariables false
set_option linter.unusedSimpArgs false
def wM (w : World) : Imm := fun b o => match w.cell? ⟨b, o, none⟩ with
 | some v => if v.oneCell' && !slV v then some v else none
 | none => none
theorem wM_some {w : World} {b o : Nat} {v : Value} (h : w.cell? ⟨b, o, none⟩ = some v) (h1 : v.oneCell' = true) (h2 : slV v = false := by rfl) : wM w b o = some v := by simp [wM, h, h1, h2]
theorem wM_inv {w : World} {b o : Nat} {v : Value} (h : wM w b o = some v) : w.cell? ⟨b, o, none⟩ = some v ∧ immOk w b o v := by
 unfold wM at h
 split at h
 ·rename_i u hu
  split at h
  ·rename_i h1
   injection h with h; subst h
   rw [Bool.and_eq_true, Bool.not_eq_true'] at h1
   exact ⟨hu, h1.1, fun h => by rw [h1.2] at h; cases h⟩
  ·cases h
 ·cases h
theorem spec_calls {P : Program} {f : FuncId} {args : List AV} {b : Bool} {vs : Array Value} {w : World} (hS : Spec P f args [] (.bool b) []) (hlen : args.length = vs.size)
  (hv : ∀ (i : Nat) (c : AV) (v : Value), args[i]? = some c → vs[i]? = some v → VR (wM w) (fun _ => none) c v) : Calls P f vs w fun e w' => e = .returned (.bool b) ∧ Below w.heap.size w w' := by
 refine (hS.2 (wM w) (fun _ => none) w vs (MR.empty _ _ _ fun b o v h => wM_inv h) (fun _ _ => rfl) hlen hv).mono ?_
 rintro e w' ⟨v, M', ρ', rfl, _, _, _, _, hr, hc, _, _⟩
 obtain rfl := hr.bool_inv
 refine ⟨rfl, hc.os, hc.tape, hc.output, hc.size, fun k hk => hc.block k hk ?_⟩
 rintro ⟨s, r, x, hs, _⟩
 simp [rowsOf] at hs
theorem encL_get {α : Type} {e : α → List AV} {sz : Nat} (h : ∀ x, (e x).length = sz) : ∀ (l : List α) (k j : Nat) (q : α), l[k]? = some q → j < sz → (encL e l)[k * sz + j]? = (e q)[j]?
 | x :: l, 0, j, q, hq, hj => by
  simp only [List.getElem?_cons_zero, Option.some.injEq] at hq
  subst hq
  rw [encL_cons, Nat.zero_mul, Nat.zero_add, List.getElem?_append_left (by rw [h]; exact hj)]
 | x :: l, k + 1, j, q, hq, hj => by
  rw [encL_cons, List.getElem?_append_right (by rw [h, Nat.succ_mul]; omega), h, show (k + 1) * sz + j - sz = k * sz + j by rw [Nat.succ_mul]; omega]
  exact encL_get h l k j q (by simpa using hq) hj
theorem args1 {M : Imm} {ρ : Plc} {x : AV} {u : Value} (h1 : VR M ρ x u) : ∀ (i : Nat) (c : AV) (w : Value), [x][i]? = some c → #[u][i]? = some w → VR M ρ c w := by
 intro i c w hc hw
 match i with
 | 0 => simp at hc hw; subst hc hw; exact h1
 | i + 1 => simp at hc
end Go.Proofs.Ytfjopjalhllplaa
/- How an argument []byte is opened, with its capacity; as an abstract value. -/
namespace Go.Proofs.Ytfjopjalhllplaa
open Go.ChangeShapes Go.WideShapes Go.ChangeAt Go.RowKit Go.Joins Go.Deep
set_option linter.unusedVariables false
set_option linter.unusedSimpArgs false
def IsBytesC (w : World) (A : Option Addr) (n c : Nat) (zs : List Int) : Prop :=
 n ≤ maxLen ∧ n ≤ c ∧ zs.length = n ∧ (∀ z ∈ zs, 0 ≤ z ∧ z ≤ 255) ∧ (0 < n → ∃ b off, A = some ⟨b, off, none⟩ ∧ b < w.heap.size ∧ ∀ i z, zs[i]? = some z → w.cell? ⟨b, off + i, none⟩ = some (.int .u8 z))
section
variable {H : Type} {enc : TypeId × Value → H} {P : Program} {w : World} {base : Nat} {spare : Nat → Bool} {held : Bool}
theorem isBytesC_of_trod {t e : TypeId} {A : Option Addr} {n c : Nat} {d : DataW H} {p : List MemPlace} (ht : P.underlying t = some (.slice e)) (he : P.underlying e = some (.int .u8)) (hC : P.cellsOf e = 1)
  (h : DataW.Trod enc P w base spare held t (.slice A n c) d p) : ∃ zs, IsBytesC w A n c zs := by
 obtain ⟨fuel, hf⟩ := h
 rcases open_ints ht he hC hf with ⟨hcs, _⟩ | ⟨x, l, c', zs, hcs, _, hl, hm, hz, _, hcell, hwz⟩
 ·simp [Value.cells] at hcs
  obtain ⟨rfl, rfl, rfl⟩ := hcs
  exact ⟨[], by simp [maxLen], Nat.le_refl _, rfl, by simp, fun h => absurd h (by omega)⟩
 ·simp [Value.cells] at hcs
  obtain ⟨rfl, rfl, rfl⟩ := hcs
  have hlz : n ≤ zs.length := by rw [hz]; split <;> omega
  refine ⟨zs.take n, by omega, hl, by simp; omega, fun z hz' => ?_, fun hp => ?_⟩
  ·have := hwz z (List.mem_of_mem_take hz')
   have := bounds_u8 this
   omega
  ·obtain ⟨b, off, spot⟩ := x
   have h0 := hcell 0 (by omega)
   have hs : spot = none := by simpa [Addr.add] using World.cell?_spot h0
   subst hs
   refine ⟨b, off, rfl, ?_, fun i z hiz => ?_⟩
   ·exact World.block_lt_of_cell? w _ (by simpa [Addr.add] using h0)
   ·have hi : i < n := by
     rcases Nat.lt_or_ge i n with h' | h'
     ·exact h'
     ·rw [List.getElem?_eq_none (by simp; omega)] at hiz; cases hiz
    have hc := hcell i (by omega)
    rw [show (⟨b, off, none⟩ : Addr).add i = ⟨b, off + i, none⟩ from by unfold Addr.add; split <;> simp_all] at hc
    rw [hc]
    have : zs.getD i 0 = z := by
     rw [List.getElem?_take, if_pos hi] at hiz
     simp [hiz]
    rw [this]

end
theorem pv_bytes {w : World} {A : Option Addr} {n c : Nat} {l : List Int} (h : IsBytesC w A n c l) : PV (wM w) (.sl (encL EB l) l.length) (.slice A n c) := by
 obtain rfl := h.2.2.1
 have hc := h.2.1
 have H := h.2.2.2.2
 by_cases hp : 0 < l.length
 ·obtain ⟨b, off, hA, hb, hcell⟩ := H hp
  have hlen := encL_len EBl l
  have key : ∀ (i : Nat) (x : AV), (encL EB l)[i]? = some x → ∃ n : Int, x = .int .u8 n ∧ w.cell? ⟨b, off + i, none⟩ = some (.int .u8 n) := by
   intro i x hx
   have hi : i < l.length := by
    have : i < l.length * 1 := by
     rw [← hlen]
     rcases Nat.lt_or_ge i (encL EB l).length with h' | h'
     ·exact h'
     ·rw [List.getElem?_eq_none h'] at hx; cases hx
    omega
   have hq := List.getElem?_eq_getElem hi
   have e := encL_get EBl l i 0 _ hq (by omega)
   rw [show i * 1 + 0 = i by omega, hx] at e
   simp only [EB, List.getElem?_cons_zero, Option.some.injEq] at e
   exact ⟨_, e, hcell i _ hq⟩
  refine .sl _ _ _ _ b off (fun i => (w.cell? ⟨b, off + i, none⟩).getD undef) (fun _ => hA) hc (fun i x hx => ?_) (fun i x hx => ?_)
  ·obtain ⟨n, rfl, hn⟩ := key i x hx
   rw [wM_some hn rfl, hn]; rfl
  ·obtain ⟨n, rfl, hn⟩ := key i x hx
   simp only [hn, Option.getD_some]
   exact .int ..
 ·have : l = [] := List.eq_nil_of_length_eq_zero (by omega)
  subst this
  exact .sl _ _ _ _ 0 0 (fun _ => undef) (fun h => absurd h (by simp)) hc (fun i x hx => by simp [encL] at hx) (fun i x hx => by simp [encL] at hx)
end Go.Proofs.Ytfjopjalhllplaa
