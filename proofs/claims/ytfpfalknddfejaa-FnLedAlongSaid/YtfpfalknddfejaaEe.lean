/- The engine, part 5: operations that read memory, make new memory, or write. Over any program. -/
import Derived.Test.YtfpfalknddfejaaEd
namespace Go.Proofs.Ytfpfalknddfejaa
open Go.RowKit
set_option linter.unusedVariables false
set_option linter.unusedSimpArgs false

def AV.pl : AV → Bool
  | .own _ _ | .ptr _ _ | .agg _ | .tup _ => false
  | _ => true
def zrow : Nat → List AV → List AV
  | 0, _ => []
  | n + 1, z => z ++ zrow n z
def bytesA (P : Program) (e : TypeId) : Nat := match P.info? e with | some i => i.bytes | none => 0
def loadA (ag : Bool) (sz : Nat) (rows : Nat → Option Row) : AV → Option AV
  | .ptr s off => match rows s with
    | some (.box _ cs) => pickA ag sz (cs.drop off)
    | some (.row _ _ cs) => pickA ag sz (cs.drop off)
    | _ => none
  | .eptr cs => pickA ag sz cs
  | _ => none
/-- A literal slice of numbers or strings that is not empty counts as immutable from its birth. -/
def immB (P : Program) (e : TypeId) : Nat → Bool
  | 0 => false
  | _ + 1 => match P.underlying e with
    | some (.int _) => true
    | some .string => true
    | _ => false
/-- Must what an operation makes count as immutable from its birth? (Said by what the region is walked with.) -/
def FZ (BR : Nat → Bool) (site : Nat) : Bool := BR (1000000 + site)
/-- Loads and operations that make one new row (at 'site'). -/
def aMk (P : Program) (fz : Bool) (site : Nat) (ρ : Operand → AV) (rows : Nat → Option Row) : Op → Option (AV × Option Row)
  | .load t x => match szA P t with
    | some (sz, ag) => match loadA ag sz rows (ρ x) with
      | some v => some (v, none)
      | none => none
    | none => none
  | .alloc t => match zeroA P t with
    | some z => some (.ptr site 0, some (.box t z))
    | none => none
  | .box t x => if (ρ x).cells.all AV.one then some (.ptr site 0, some (.box t (ρ x).cells)) else none
  | .buildSlice t len ps => match elA P t with
    | some (e, sz) => match zeroA P e with
      | some z => if z.length = sz ∧ 0 < sz ∧ len * sz ≤ 16777216 then (match fillA (fun i => some (i * sz, sz)) (zrow len z) (partsA ρ ps.toList) with
        | some cs => if cs.all AV.pl then (match fz || immB P e len with | true => some (.sl cs len, none) | false => some (.own site len, some (.row e sz cs))) else none
        | none => none) else none
      | none => none
    | none => none
  | .makeSlice t l c => match elA P t, ρ l, ρ c with
    | some (e, sz), .int _ n, .int _ m => match zeroA P e with
      | some z => if z.length = sz ∧ 0 < sz ∧ bytesA P e ≤ 1048576 ∧ n = m ∧ 0 ≤ n ∧ n ≤ 1048576 then some (.own site n.toNat, some (.row e sz (zrow n.toNat z))) else none
      | none => none
    | _, _, _ => none
  | _ => none

section
variable {P : Program} {C : Ctx} {M : Imm} {ρ : Plc} {st : St} {a : Act} {w : World}
theorem VR.pl {c : AV} {v : Value} (h : VR M ρ c v) (hp : c.pl = true) : PV M c v := by
  cases h with
  | plain h => exact h
  | own => cases hp
  | ownl => cases hp
  | ptr => cases hp
  | agg => cases hp
  | tup => cases hp
theorem Rel.ev (h : Rel C M ρ st a w) (x : Operand) : VR M ρ (st.ev x) (a.eval x) := by
  cases x with
  | tmp t => exact h.tm t
  | const v => exact .plain (ofV_ok M v)
  | global g => exact .plain (.top _)
  | func f => exact .plain (.top _)
theorem Rel.put (h : Rel C M ρ st a w) {d : Option Tmp} {v : AV} {u : Value} (hv : VR M ρ v u) (hd : ∀ k, d = some k → k < C.N) : Rel C M ρ (st.put d v) (a.put d u) w := by
  cases d with
  | none => exact h
  | some k =>
    refine { h with tm := fun t => ?_, N := ?_ }
    · simp only [St.put, Act.put]
      by_cases e : t = k
      · subst e
        rw [upd_same]
        have : t < a.tmps.size := by rw [h.N]; exact hd _ rfl
        simpa [this] using hv
      · rw [upd_ne _ _ e]
        have := h.tm t
        simpa [Array.getElem?_setIfInBounds_ne (Ne.symm e)] using this
    · simp [Act.put, h.N]
theorem Rel.drew (h : Rel C M ρ st a w) : Rel C M ρ st a { w with drawn := w.drawn + 1 } :=
  { h with mr := h.mr.same fun _ _ => rfl, chg := ⟨h.chg.os, h.chg.tape, h.chg.output, h.chg.size, h.chg.block⟩ }
theorem Rel.add (h : Rel C M ρ st a w) {s : Nat} {r : Row} {x : At} {ob : Obj} (hn : st.rows s = none) (hg : x.g = w.heap.size) (hR : r.solid = true → RowAt M (upd ρ s (some x)) (w.alloc ob) r x) :
    Rel C M (upd ρ s (some x)) { st with rows := upd st.rows s (some r) } a (w.alloc ob) := by
  have hρ := h.fr s hn
  have hsame : ∀ b, b < w.heap.size → (w.alloc ob).heap[b]? = w.heap[b]? := fun b hb => by
    show (w.heap.push ob)[b]? = _
    rw [Array.getElem?_push_lt hb, Array.getElem?_eq_getElem hb]
  refine ⟨fun t => (h.tm t).mono (Imm.le_refl _) (Plc.le_upd hρ), h.N, h.df, ?_, ?_, fun k q y hk hs hy hn1 => ?_, h.m0, Plc.le_trans h.r0 (Plc.le_upd hρ), h.mold, fun k hk => ?_⟩
  · refine (h.mr.same hsame).add hn hρ hR (fun k q y hk hs hy hn1 hn2 => ?_) (fun b o v hM hn2 => ?_)
    · obtain ⟨y', hy', hY⟩ := h.mr.row k q hk hs
      rw [hy] at hy'; injection hy' with hy'; subst hy'
      have := hY.lt hs (by assumption)
      omega
    · have := cell_lt (h.mr.imm b o v hM).1
      omega
  · exact h.chg.trans (E := fun _ => False) ⟨rfl, rfl, rfl, by simp, fun b hb _ => hsame b hb⟩ (fun _ h => h.elim)
  · by_cases e : k = s
    · subst e
      rw [upd_same] at hy; injection hy with hy; subst hy
      right; rw [hg]; exact h.chg.size
    · have hk : upd st.rows s (some r) k = some q := hk
      rw [upd_ne _ _ e] at hk hy
      exact h.new k q y hk hs hy hn1
  · by_cases e : k = s
    · subst e
      have hk : upd st.rows k (some r) k = none := hk
      rw [upd_same] at hk; cases hk
    · have hk : upd st.rows s (some r) k = none := hk
      rw [upd_ne _ _ e] at hk ⊢
      exact h.fr k hk
theorem Rel.set (h : Rel C M ρ st a w) {s : Nat} {r r' : Row} {x : At} {w' : World} (hr : st.rows s = some r) (hs : r.solid = true) (hx : ρ s = some x) (hnx : x.nl = false) (hc : Chg (fun b => b = x.g) w w')
    (hR : r'.solid = true → RowAt M ρ w' r' x) : Rel C M ρ { st with rows := upd st.rows s (some r') } a w' := by
  refine { h with mr := h.mr.set hr hs hx hnx (fun b hb hne => hc.block b hb hne) hR, chg := h.chg.trans hc ?_, new := fun k q y hk hq hy hn1 => ?_, fr := fun k hk => ?_ }
  · rintro b rfl
    exact h.new s r x hr hs hx hnx
  · by_cases e : k = s
    · subst e
      rw [hx] at hy; injection hy with hy; subst hy
      exact h.new k r x hr hs hx hn1
    · have hk : upd st.rows s (some r') k = some q := hk
      rw [upd_ne _ _ e] at hk
      exact h.new k q y hk hq hy hn1
  · by_cases e : k = s
    · subst e
      have hk : upd st.rows k (some r') k = none := hk
      rw [upd_same] at hk; cases hk
    · have hk : upd st.rows s (some r') k = none := hk
      rw [upd_ne _ _ e] at hk
      exact h.fr k hk

/-- A new block of immutable cells. -/
theorem Rel.addImm (h : Rel C M ρ st a w) (arr : Array Value) (T : TypeId) (h1 : ∀ v ∈ arr, v.oneCell' = true) :
    Rel C (fun b o => if b = w.heap.size then arr[o]? else M b o) ρ st a (w.alloc (.cells arr T)) := by
  have hsame : ∀ b, b < w.heap.size → (w.alloc (.cells arr T)).heap[b]? = w.heap[b]? := fun b hb => by
    show (w.heap.push _)[b]? = _
    rw [Array.getElem?_push_lt hb, Array.getElem?_eq_getElem hb]
  have hle : M.le (fun b o => if b = w.heap.size then arr[o]? else M b o) := fun b o v hM => by
    have := cell_lt (h.mr.imm b o v hM).1
    show (if b = w.heap.size then arr[o]? else M b o) = some v
    rw [if_neg (by omega)]; exact hM
  have hm := h.mr.same hsame
  refine ⟨fun t => (h.tm t).mono hle (Plc.le_refl _), h.N, h.df, ⟨fun s r hr hs => ?_, hm.inj, fun b o v hM => ?_, fun b o v s r x hM hr hs hx hn => ?_⟩, ?_, h.new, Imm.le_trans h.m0 hle, h.r0, fun b hb hD => ?_, h.fr⟩
  · obtain ⟨x, hx, hX⟩ := hm.row s r hr hs
    exact ⟨x, hx, hX.mono hle (Plc.le_refl _)⟩
  · have hM : (if b = w.heap.size then arr[o]? else M b o) = some v := hM
    split at hM
    · rename_i e
      rw [e]
      obtain ⟨ho, hv⟩ := Array.getElem?_eq_some_iff.1 hM
      refine ⟨?_, h1 v (by rw [← hv]; exact Array.getElem_mem ho)⟩
      rw [cell_of_row (w.alloc (.cells arr T)) w.heap.size o arr T (0, 0) (heap_alloc_new w _)]
      exact hM
    · exact hm.imm b o v hM
  · have hM : (if b = w.heap.size then arr[o]? else M b o) = some v := hM
    obtain ⟨x', hx', hX⟩ := h.mr.row s r hr hs
    rw [hx] at hx'; injection hx' with hx'; subst hx'
    split at hM
    · rename_i e
      have := hX.lt hs hn
      omega
    · exact h.mr.apt b o v s r x hM hr hs hx hn
  · exact h.chg.trans (E := fun _ => False) ⟨rfl, rfl, rfl, by simp, fun b hb _ => hsame b hb⟩ (fun _ h => h.elim)
  · have := h.chg.size
    have e : (fun o => if b = w.heap.size then arr[o]? else M b o) = M b := by
      funext o
      rw [if_neg (by omega)]
    rw [e]; exact h.mold b hb hD
/-- Reading at a place whose cells are known. -/
theorem load_ok {t : TypeId} {sz : Nat} {ag : Bool} (ht : szA P t = some (sz, ag)) {cs : List AV} {v : AV} (hp : pickA ag sz cs = some v) (b off : Nat) (f : Nat → Value)
    (hf : ∀ (i : Nat) (c : AV), cs[i]? = some c → w.cell? ⟨b, off + i, none⟩ = some (f i) ∧ (f i).oneCell' = true ∧ VR M ρ c (f i)) :
    ∃ u, (Instr.loadAt t (.pointer (some ⟨b, off, none⟩))).run P w = .ok u w ∧ VR M ρ v u := by
  obtain ⟨hs, hb⟩ := run_szA ht w
  cases ag with
  | true =>
    simp only [pickA] at hp
    split at hp
    · rename_i r hr
      injection hp with hp; subst hp
      obtain ⟨rfl, hn⟩ := takeA_spec _ _ _ hr
      have hl := run_loadCells (P := P) w ⟨b, off, none⟩ sz f (fun j hj => by
        rw [add_off]
        have hj' : j < cs.length := by omega
        exact (hf j cs[j] (List.getElem?_eq_getElem hj')).1)
      refine ⟨.agg ((List.range sz).map f).toArray, ?_, .agg _ _ (by simp; omega) (fun u hu => ?_) (fun i c u hc hu => ?_)⟩
      · simp [Instr.loadAt, Instr.sureAddr, loadVar, hb, hs, hl]
      · simp only [List.mem_toArray, List.mem_map, List.mem_range] at hu
        obtain ⟨j, hj, rfl⟩ := hu
        have hj' : j < cs.length := by omega
        exact (hf j cs[j] (List.getElem?_eq_getElem hj')).2.1
      · rw [List.getElem?_take] at hc
        split at hc
        · rename_i hi
          have := (hf i c hc).2.2
          have e : u = f i := by
            simp [List.getElem?_range hi] at hu
            exact hu.symm
          rw [e]; exact this
        · cases hc
    · cases hp
  | false =>
    simp only [pickA] at hp
    split at hp
    · rename_i c cs'
      injection hp with hp; subst hp
      obtain ⟨h1, h2, h3⟩ := hf 0 c rfl
      refine ⟨f 0, ?_, h3⟩
      simp only [Nat.add_zero] at h1
      simp [Instr.loadAt, Instr.sureAddr, loadVar, hb, h1]
    · cases hp
theorem zrow_get (z : List AV) (hz : 0 < z.length) : ∀ (n i : Nat), i < n * z.length → (zrow n z)[i]? = z[i % z.length]?
  | 0, i, h => by omega
  | n + 1, i, h => by
    simp only [zrow]
    by_cases hi : i < z.length
    · rw [List.getElem?_append_left hi, Nat.mod_eq_of_lt hi]
    · have hm : (n + 1) * z.length = n * z.length + z.length := by rw [Nat.add_mul, Nat.one_mul]
      rw [List.getElem?_append_right (by omega), zrow_get z hz n (i - z.length) (by omega)]
      rw [show i % z.length = (i - z.length) % z.length from Nat.mod_eq_sub_mod (by omega)]
theorem zrow_length (z : List AV) : ∀ n, (zrow n z).length = n * z.length
  | 0 => by simp [zrow]
  | n + 1 => by simp [zrow, zrow_length z n, Nat.add_mul]; omega
/-- A row of zeros, concretely. -/
theorem zrow_ok {z : List AV} {zv : Array Value} (hl : z.length = zv.size) (hz : 0 < z.length) (h1 : ∀ u ∈ zv, u.oneCell' = true) (hp : ∀ (i : Nat) (c : AV) (u : Value), z[i]? = some c → zv[i]? = some u → PV M c u) (n : Nat) (arr : Array Value)
    (ha : arr = (Array.range (n * zv.size)).map (zv[· % zv.size]!)) : (zrow n z).length = arr.size ∧ (∀ u ∈ arr, u.oneCell' = true) ∧ ∀ (i : Nat) (c : AV) (u : Value), (zrow n z)[i]? = some c → arr[i]? = some u → PV M c u := by
  subst ha
  refine ⟨by rw [zrow_length, hl]; simp, fun u hu => ?_, fun i c u hc hu => ?_⟩
  · obtain ⟨j, hj, rfl⟩ := Array.mem_map.1 hu
    have hm : j % zv.size < zv.size := Nat.mod_lt _ (by omega)
    simp [hm]
    exact h1 _ (Array.getElem_mem hm)
  · have hi : i < n * zv.size := by
      rcases Nat.lt_or_ge i (n * zv.size) with h | h
      · exact h
      · rw [List.getElem?_eq_none (by rw [zrow_length, hl]; exact h)] at hc; cases hc
    rw [zrow_get z hz n i (by rw [hl]; exact hi)] at hc
    have hm : i % zv.size < zv.size := Nat.mod_lt _ (by omega)
    refine hp (i % z.length) c u hc ?_
    rw [hl]
    simp [hi, hm] at hu
    rw [Array.getElem?_eq_getElem hm, hu]

def addNw (rows : Nat → Option Row) (site : Nat) : Option Row → (Nat → Option Row)
  | some r => upd rows site (some r)
  | none => rows
theorem mk_ok {o : Oper} {fz : Bool} {site : Nat} {v : AV} {nw : Option Row} (h : aMk P fz site st.ev st.rows o.op = some (v, nw)) (hR : Rel C M ρ st a w) (hsite : nw.isSome = true → st.rows site = none) (hd : ∀ k, o.dst = some k → k < C.N) :
    ∃ u M' ρ' w', (execOp a.eval o).run P w = .ok (.value u) w' ∧ Rel C M' ρ' (({ st with rows := addNw st.rows site nw } : St).put o.dst v) (a.put o.dst u) w' := by
  have lift : ∀ {s : Sem Value} {z : Value} {w' : World}, s.run P w = .ok z w' → (do pure (.value (← s)) : Sem Next).run P w = .ok (.value z) w' := fun hs => by simp [hs]
  obtain ⟨dst, op, type, pos, after, guard⟩ := o
  have hv := hR.ev
  cases op <;> simp only [aMk] at h <;> first | (cases h; done) | skip
  case load t x =>
    split at h
    · rename_i sz ag ht
      split at h
      · rename_i v' hl
        simp only [Option.some.injEq, Prod.mk.injEq] at h
        obtain ⟨rfl, rfl⟩ := h
        have key : ∃ u, (Instr.loadAt t (a.eval x)).run P w = .ok u w ∧ VR M ρ v' u := by
          have ex := hv x
          unfold loadA at hl
          split at hl
          · rename_i s off hx
            rw [hx] at ex
            obtain ⟨y, hy, hyn, ex⟩ := ex.ptr_inv
            rw [ex]
            split at hl
            · rename_i T cs hrow
              obtain ⟨y', hy', hrow'⟩ := hR.mr.row s _ hrow rfl
              rw [hy] at hy'; injection hy' with hy'; subst hy'
              obtain ⟨h0, arr, h1, h2, h3, h4⟩ := hrow'
              refine load_ok ht hl y.g off (fun i => arr.getD (off + i) undef) (fun i c hc => ?_)
              rw [List.getElem?_drop] at hc
              have hlt : off + i < arr.size := by
                rw [← h2]
                rcases Nat.lt_or_ge (off + i) cs.length with h' | h'
                · exact h'
                · rw [List.getElem?_eq_none h'] at hc; cases hc
              have e : arr.getD (off + i) undef = arr[off + i] := by simp [hlt]
              rw [e]
              exact ⟨by rw [cell_of_row w y.g (off + i) arr T (0, 0) h1]; simp [hlt], h3 _ (Array.getElem_mem hlt), h4 _ c _ hc (Array.getElem?_eq_getElem hlt)⟩
            · rename_i E z cs hrow
              obtain ⟨y', hy', hrow'⟩ := hR.mr.row s _ hrow rfl
              rw [hy] at hy'; injection hy' with hy'; subst hy'
              rcases hrow' with ⟨hn1, _⟩ | ⟨h0, xs, h1, h2, h3, h4⟩
              · rw [hyn] at hn1; cases hn1
              refine load_ok ht hl y.g off (fun i => xs.getD (off + i) undef) (fun i c hc => ?_)
              rw [List.getElem?_drop] at hc
              have hlt : off + i < xs.length := by
                rw [← h2]
                rcases Nat.lt_or_ge (off + i) cs.length with h' | h'
                · exact h'
                · rw [List.getElem?_eq_none h'] at hc; cases hc
              have e : xs.getD (off + i) undef = xs[off + i] := by simp [hlt]
              rw [e]
              refine ⟨?_, h3 _ (List.getElem_mem hlt), .plain (h4 _ c _ hc (List.getElem?_eq_getElem hlt))⟩
              have := World.ownsRow.cells h1 (g := y.g) rfl (off + i) _ (List.getElem?_eq_getElem hlt)
              rwa [add_off, Nat.zero_add] at this
            · cases hl
          · rename_i cs hx
            rw [hx] at ex
            have ex := ex.eptr_inv
            generalize a.eval x = q at ex
            cases ex with
            | eptr _ b off f hm hh =>
              refine load_ok ht hl b off f (fun i c hc => ?_)
              have := hR.mr.imm _ _ _ (hm i c hc)
              exact ⟨this.1, this.2, .plain (hh i c hc)⟩
          · cases hl
        obtain ⟨u, hu, hU⟩ := key
        exact ⟨u, M, ρ, w, lift hu, hR.put hU hd⟩
      · cases h
    · cases h
  case alloc t =>
    split at h
    · rename_i z hz
      simp only [Option.some.injEq, Prod.mk.injEq] at h
      obtain ⟨rfl, rfl⟩ := h
      obtain ⟨zv, z1, z2, z3, z4⟩ := zeroA_inv hz
      have hn := hsite rfl
      have hA := hR.add (s := site) (r := .box t z) (x := ⟨w.heap.size, 0, 0, false⟩) (ob := .cells zv.cells t) hn rfl (fun _ => ⟨rfl, zv.cells, heap_alloc_new w _, z2, z3, fun i c v hc hv => .plain (z4 M i c v hc hv)⟩)
      refine ⟨.pointer (some ⟨w.heap.size, 0, none⟩), M, _, _, lift ?_, hA.put (.ptr site 0 ⟨w.heap.size, 0, 0, false⟩ (upd_same _ _ _) rfl) hd⟩
      simp [Instr.alloc, z1 w, newVar, newRow]
    · cases h
  case box t x =>
    split at h
    · rename_i hone
      simp only [Option.some.injEq, Prod.mk.injEq] at h
      obtain ⟨rfl, rfl⟩ := h
      have hn := hsite rfl
      obtain ⟨e1, e2, e3⟩ := (hv x).cells hone
      have hρ := hR.fr site hn
      have hA := hR.add (s := site) (r := .box t (st.ev x).cells) (x := ⟨w.heap.size, 0, 0, false⟩) (ob := .cells (a.eval x).cells t) hn rfl (fun _ => ⟨rfl, (a.eval x).cells, heap_alloc_new w _, e1, e2, fun i c v hc hv => (e3 i c v hc hv).mono (Imm.le_refl _) (Plc.le_upd hρ)⟩)
      refine ⟨.pointer (some ⟨w.heap.size, 0, none⟩), M, _, _, lift ?_, hA.put (.ptr site 0 ⟨w.heap.size, 0, 0, false⟩ (upd_same _ _ _) rfl) hd⟩
      simp [Instr.box, newVar, newRow]
    · cases h
  case buildSlice t len ps =>
    split at h
    · rename_i e sz he
      split at h
      · rename_i z hz
        split at h
        · rename_i hc
          obtain ⟨c1, c2, c3⟩ := hc
          split at h
          · rename_i cs hf
            split at h
            · rename_i hpl
              obtain ⟨inf, hu, hinf, hsz⟩ := elA_inv he
              obtain ⟨zv, z1, z2, z3, z4⟩ := zeroA_inv hz
              obtain ⟨r1, r2, r3⟩ := zrow_ok (M := M) z2 (by omega) z3 (z4 M) len _ rfl
              obtain ⟨arr', f1, f2, f3, f4⟩ := fill_ok (M := M) (ρ := ρ) (fun i => some (i * sz, sz)) (fun i => some (i * sz, sz)) (fun _ _ h => h) (partsA st.ev ps.toList) (ps.toList.map fun p => (p.1, a.eval p.2)) (zrow len z) _ cs (by simp [partsA_length]) (fun i x y hx hy => by
                rw [partsA_get] at hx
                rw [List.getElem?_map] at hy
                cases hp : ps.toList[i]? with
                | none => rw [hp] at hx; cases hx
                | some q =>
                  rw [hp] at hx hy
                  injection hx with hx; injection hy with hy
                  subst hx hy
                  exact ⟨rfl, hv _⟩) r1 r2 (fun i c u hc hu => .plain (r3 i c u hc hu)) hf
              have hcl : cs.length = len * sz := by
                have : ∀ (pp : List (Nat × AV)) (q r : List AV), fillA (fun i => some (i * sz, sz)) q pp = some r → r.length = q.length := by
                  intro pp
                  induction pp with
                  | nil => intro q r h; simp [fillA] at h; subst h; rfl
                  | cons p pp ih =>
                    intro q r h
                    obtain ⟨i, v⟩ := p
                    simp only [fillA] at h
                    split at h
                    · rename_i hcond
                      rw [ih _ _ h]
                      simp; omega
                    · cases h
                rw [this _ _ _ hf, zrow_length, c1]
              have hlen : len ≤ maxLen := by
                have : len * 1 ≤ len * sz := Nat.mul_le_mul_left _ c2
                simp only [maxLen]; omega
              have hown : (w.alloc (.cells arr' e)).ownsRow 0 e sz (.slice (some ⟨w.heap.size, 0, none⟩) len len) len arr'.toList := by
                have := World.ownsRow_lit (e := e) (size := sz) (base := 0) w arr' len (Nat.zero_le _) hlen (by omega)
                exact this
              have hcells : ∀ (i : Nat) (c : AV) (v : Value), cs[i]? = some c → arr'[i]? = some v → PV M c v := fun i c v hc hv =>
                (f4 i c v hc hv).pl (by
                  have := List.all_eq_true.1 hpl c (List.mem_of_getElem? hc)
                  exact this)
              have hrun : (Instr.buildSlice t len (ps.map fun x => (x.1, a.eval x.2))).run P w = .ok (.slice (some ⟨w.heap.size, 0, none⟩) len len) (w.alloc (.cells arr' e)) := by
                have hzs : zv.cells.size = sz := by omega
                have hnot : ¬ (2 ^ 24 < len * sz) := by omega
                have f1a : len * sz = 0 → Instr.fill (fun i => some (i * sz, sz)) #[] (ps.toList.map fun x => (x.1, a.eval x.2)) = some arr' := fun h0 => by
                  rw [← f1, hzs, h0]
                  congr 1
                  exact (Array.eq_empty_of_size_eq_zero (by simp)).symm
                have f1b : Instr.fill (fun i => some (i * sz, sz)) ((Array.range (len * sz)).map (zv.cells[· % zv.cells.size]!)) (ps.toList.map fun x => (x.1, a.eval x.2)) = some arr' := by
                  rw [← f1, hzs]
                by_cases h0 : len * sz = 0
                · have hr0 : (Array.map (fun x => (default : Value)) (Array.range 0)) = #[] := Array.eq_empty_of_size_eq_zero (by simp)
                  simp [Instr.buildSlice, run_underlying hu, sizeOf, typeInfo, hinf, hsz, h0, hr0, f1a h0, newRow]
                · simp only [Nat.not_lt] at hnot
                  have hnot' : ¬ (16777216 < len * sz) := by omega
                  simp [Instr.buildSlice, run_underlying hu, sizeOf, typeInfo, hinf, hsz, h0, f1b, newRow, hnot', z1 w]
              split at h
              · simp only [Option.some.injEq, Prod.mk.injEq] at h
                obtain ⟨rfl, rfl⟩ := h
                have hA := hR.addImm arr' e f3
                have hle : M.le (fun b o => if b = w.heap.size then arr'[o]? else M b o) := fun b o v hM => by
                  have := cell_lt (hR.mr.imm b o v hM).1
                  show (if b = w.heap.size then arr'[o]? else M b o) = some v
                  rw [if_neg (by omega)]; exact hM
                refine ⟨.slice (some ⟨w.heap.size, 0, none⟩) len len, _, ρ, _, lift ?_, hA.put (.plain (.sl cs len _ len w.heap.size 0 (fun i => arr'.getD i undef) (fun _ => rfl) (Nat.le_refl _) (fun i c hc => ?_) (fun i c hc => ?_))) hd⟩
                · exact hrun
                · have hi : i < arr'.size := by
                    rw [← f2]
                    rcases Nat.lt_or_ge i cs.length with h' | h'
                    · exact h'
                    · rw [List.getElem?_eq_none h'] at hc; cases hc
                  show (if w.heap.size = w.heap.size then arr'[0 + i]? else M w.heap.size (0 + i)) = some (arr'.getD i undef)
                  rw [if_pos rfl, Nat.zero_add]
                  simp [hi]
                · have hi : i < arr'.size := by
                    rw [← f2]
                    rcases Nat.lt_or_ge i cs.length with h' | h'
                    · exact h'
                    · rw [List.getElem?_eq_none h'] at hc; cases hc
                  have := (hcells i c arr'[i] hc (Array.getElem?_eq_getElem hi)).mono hle
                  simpa [hi] using this
              · simp only [Option.some.injEq, Prod.mk.injEq] at h
                obtain ⟨rfl, rfl⟩ := h
                have hn := hsite rfl
                have hA := hR.add (s := site) (r := .row e sz cs) (x := ⟨w.heap.size, len, len, false⟩) (ob := .cells arr' e) hn rfl (fun _ => .inr ⟨rfl, arr'.toList, hown, by simpa using f2, fun v hv => f3 v (by simpa using hv), fun i c v hc hv => hcells i c v hc (by simpa using hv)⟩)
                exact ⟨.slice (some ⟨w.heap.size, 0, none⟩) len len, M, _, _, lift hrun, hA.put (.own site w.heap.size len len (upd_same _ _ _)) hd⟩
            · cases h
          · cases h
        · cases h
      · cases h
    · cases h
  case makeSlice t l c =>
    split at h
    · rename_i e sz k n k' m he hl hc
      split at h
      · rename_i z hz
        split at h
        · rename_i hcd
          obtain ⟨c1, c2, c3, rfl, c4, c5⟩ := hcd
          simp only [Option.some.injEq, Prod.mk.injEq] at h
          obtain ⟨rfl, rfl⟩ := h
          have hn := hsite rfl
          obtain ⟨inf, hu, hinf, hsz⟩ := elA_inv he
          obtain ⟨zv, z1, z2, z3, z4⟩ := zeroA_inv hz
          have el := hv l
          rw [hl] at el
          have el := el.int_inv
          have ec := hv c
          rw [hc] at ec
          have ec := ec.int_inv
          have hzv : inf.zero = some zv := by
            have := z1 w
            simp only [zeroValue, typeInfo, Sem.run_bind, run_program, Result.andThen_ok, hinf, Sem.run_pure] at this
            cases hzz : inf.zero with
            | none => rw [hzz] at this; simp [unsupported] at this
            | some q => rw [hzz] at this; simp at this; first | rw [this] | (rw [← this])
          have hby : bytesA P e = inf.bytes := by simp [bytesA, hinf]
          have hbytes : (inf.bytes : Int) * n ≤ 281474976710656 := by
            have h1 : (inf.bytes : Int) ≤ 1048576 := by omega
            have h2 : (inf.bytes : Int) * n ≤ 1048576 * 1048576 := Int.mul_le_mul h1 c5 c4 (by omega)
            omega
          have hrun := run_make (P := P) w t e inf zv hu hinf hzv k k' n n c4 (Int.le_refl _) hbytes (by omega)
          rw [hsz] at hrun
          obtain ⟨r1, r2, r3⟩ := zrow_ok (M := M) (arr := madeCells zv.cells (n.toNat * sz)) z2 (by omega) z3 (z4 M) n.toNat (by rw [← c1, z2]; rfl)
          have hown : (w.alloc (.cells (madeCells zv.cells (n.toNat * sz)) e)).ownsRow 0 e sz (.slice (some ⟨w.heap.size, 0, none⟩) n.toNat n.toNat) n.toNat (madeCells zv.cells (n.toNat * sz)).toList :=
            World.ownsRow_lit (e := e) (size := sz) (base := 0) w _ n.toNat (Nat.zero_le _) (by simp only [maxLen]; omega) (by rw [← r1, zrow_length, c1])
          have hA := hR.add (s := site) (r := .row e sz (zrow n.toNat z)) (x := ⟨w.heap.size, n.toNat, n.toNat, false⟩) (ob := .cells (madeCells zv.cells (n.toNat * sz)) e) hn rfl (fun _ => .inr ⟨rfl, _, hown, by simpa using r1, fun v hv => r2 v (by simpa using hv), fun i c v hc hv => r3 i c v hc (by simpa using hv)⟩)
          exact ⟨.slice (some ⟨w.heap.size, 0, none⟩) n.toNat n.toNat, M, _, _, lift (by rw [el, ec]; exact hrun), hA.put (.own site w.heap.size n.toNat n.toNat (upd_same _ _ _)) hd⟩
        · cases h
      · cases h
    · cases h
end
end Go.Proofs.Ytfpfalknddfejaa
