/- The engine, part 8: a call. Over any program. -/
import Derived.Test.YtfpfalknddfejaaEg
namespace Go.Proofs.Ytfpfalknddfejaa
open Go.RowKit
set_option linter.unusedVariables false
set_option linter.unusedSimpArgs false
open Classical in
/-- The immutable cells during a call: those of before, and those of the slices that are lent. -/
noncomputable def lentM (M : Imm) (ρ : Plc) (lnd : Nat → Option Row) (ι : List Nat) (w : World) : Imm := fun b o =>
  if ∃ s E sz cs x, lnd s = some (.row E sz cs) ∧ s ∉ ι ∧ ρ s = some x ∧ x.nl = false ∧ x.g = b ∧ o < cs.length then w.cell? ⟨b, o, none⟩ else M b o
open Classical in
noncomputable def backM (M' : Imm) (ρ : Plc) (lnd : Nat → Option Row) (ι : List Nat) : Imm := fun b o =>
  if ∃ s E sz cs x, lnd s = some (.row E sz cs) ∧ s ∉ ι ∧ ρ s = some x ∧ x.nl = false ∧ x.g = b then none else M' b o

section
variable {P : Program} {C : Ctx} {M : Imm} {ρ : Plc} {st : St} {a : Act} {w : World}
theorem run_call {o : Oper} {c : Call} {f : FuncId} (hop : o.op = .call c) (hcal : c.callee = .value (.func f)) (hc : callable P f = true) : (execOp a.eval o).run P w = .ok (.enter f (c.args.map a.eval)) w := by
  unfold callable at hc
  split at hc
  · rename_i fn hfn
    simp only [Bool.and_eq_true, bne_iff_ne, ne_eq] at hc
    have hb : fn.body.isNone = false := by cases h : fn.body <;> simp_all
    unfold execOp
    simp [hop, resolve, hcal, Act.eval, Deferred.ofValue, invoke, callFunc, hfn, hc.1]
    intro hn
    rw [hn] at hb
    cases hb
  · cases hc

theorem call_ok {o : Oper} {c : Call} {f : FuncId} (hop : o.op = .call c) (hcal : c.callee = .value (.func f)) (hR : Rel C M ρ st a w) (ι : List Nat) (lnd : Nat → Option Row) (hlnd : ∀ s r, lnd s = some r → st.rows s = some r)
    (hnd : ι.Nodup) (hι : ∀ s ∈ ι, ∃ r, st.rows s = some r ∧ r.solid = true) {ret : AV} {mem' : List Row}
    (hS : Spec P f (c.args.toList.map fun x => pass2 ι lnd (st.ev x)) (ι.map (passRow ι lnd st.rows)) ret mem') (hle : ι.length ≤ mem'.length)
    (hfree : (∀ s, lnd s = none) ∨ (Free ret ∧ ∀ r ∈ mem', ∀ c ∈ r.cells, Free c)) {site : Nat} (hsite : ∀ j, j < mem'.length - ι.length → st.rows (site + j) = none) (hd : ∀ k, o.dst = some k → k < C.N)
    {next : Act → World → Prop} {Q : Exit → Act → World → Prop}
    (hK : ∀ M' ρ' a' w', Rel C M' ρ' (({ st with rows := rowsAfter ι site st.rows mem' } : St).put o.dst (ren3 (mId ι site) ret)) a' w' → next a' w') : o.wp P a w next Q := by
  obtain ⟨hcl, hS⟩ := hS
  have hv := hR.ev
  -- the rows that are lent
  have lentRow : ∀ {s E sz cs x}, lnd s = some (.row E sz cs) → ρ s = some x → x.nl = false → ∃ xs : List Value, w.ownsRow 0 E sz (.slice (some ⟨x.g, 0, none⟩) x.n x.cap) x.n xs ∧ cs.length = xs.length ∧ (∀ v ∈ xs, v.oneCell' = true) ∧ ∀ (i : Nat) (c : AV) (v : Value), cs[i]? = some c → xs[i]? = some v → PV M c v := by
    intro s E sz cs x hs hx hn
    obtain ⟨y, hy, hY⟩ := hR.mr.row s _ (hlnd s _ hs) rfl
    rw [hx] at hy; injection hy with hy; subst hy
    rcases hY with ⟨h, _⟩ | ⟨_, h⟩
    · rw [hn] at h; cases h
    · exact h
  have lentNil : ∀ {s E sz cs x}, lnd s = some (.row E sz cs) → ρ s = some x → x.nl = true → cs = [] := by
    intro s E sz cs x hs hx hn
    obtain ⟨y, hy, hY⟩ := hR.mr.row s _ (hlnd s _ hs) rfl
    rw [hx] at hy; injection hy with hy; subst hy
    rcases hY with ⟨_, h, _⟩ | ⟨h, _⟩
    · exact h
    · rw [hn] at h; cases h
  have M2le : M.le (lentM M ρ lnd ι w) := by
    intro b o v h
    unfold lentM
    rw [if_neg]
    · exact h
    · rintro ⟨s, E, sz, cs, x, h1, h2, h3, hn, h4, h5⟩
      exact hR.mr.apt b o v s _ x h (hlnd s _ h1) rfl h3 hn h4
  let ρc : Plc := fun j => match ι[j]? with | some s => ρ s | none => none
  have ρc_of : ∀ {j s}, ι[j]? = some s → ρc j = ρ s := fun h => by simp only [ρc, h]
  -- what is passed
  have p1 : ∀ {c : AV} {v : Value}, VR M ρ c v → VR (lentM M ρ lnd ι w) ρc (pass1 ι lnd c) v := by
    intro c v h
    by_cases hown : ∃ s n, c = .own s n
    · obtain ⟨s, n, rfl⟩ := hown
      obtain ⟨g, cap, ⟨hs, rfl⟩ | ⟨hs, hn0, rfl⟩⟩ := h.own_inv
      rotate_left
      · subst hn0
        simp only [pass1]
        split
        · rename_i j hj
          exact .ownl j g cap (by rw [ρc_of (findI_some hj)]; exact hs)
        · split
          · rename_i E sz cs hrow
            rw [lentNil hrow hs rfl]
            exact .plain (.sl [] 0 none 0 0 0 (fun _ => undef) (fun h => by omega) (Nat.le_refl _) (fun i c hc => by simp at hc) (fun i c hc => by simp at hc))
          · exact .plain (.top _)
      simp only [pass1]
      split
      · rename_i j hj
        exact .own j g n cap (by rw [ρc_of (findI_some hj)]; exact hs)
      · rename_i hj
        split
        · rename_i E sz cs hrow
          obtain ⟨xs, h1, h2, h3, h4⟩ := lentRow hrow hs rfl
          simp only at h1
          have hcell : ∀ i, i < cs.length → lentM M ρ lnd ι w g i = some (xs.getD i undef) := fun i hi => by
            unfold lentM
            rw [if_pos ⟨s, E, sz, cs, _, hrow, findI_none hj, hs, rfl, rfl, hi⟩]
            have hi' : i < xs.length := by omega
            have := World.ownsRow.cells h1 (g := g) rfl i _ (List.getElem?_eq_getElem hi')
            rw [add_off, Nat.zero_add] at this
            simpa [hi'] using this
          have hn : n ≤ cap := by
            rcases h1.2 with ⟨hn, _⟩ | ⟨g', cap', cur, hvv, hb, hg, hcap, _⟩
            · cases hn
            · injection hvv with _ _ q3; omega
          refine .plain (.sl cs n _ cap g 0 (fun i => xs.getD i undef) (fun _ => rfl) hn (fun i c hc => ?_) (fun i c hc => ?_))
          · rw [Nat.zero_add]
            exact hcell i (by
              rcases Nat.lt_or_ge i cs.length with h' | h'
              · exact h'
              · rw [List.getElem?_eq_none h'] at hc; cases hc)
          · have hi : i < cs.length := by
              rcases Nat.lt_or_ge i cs.length with h' | h'
              · exact h'
              · rw [List.getElem?_eq_none h'] at hc; cases hc
            have hi' : i < xs.length := by omega
            have := (h4 i c _ hc (List.getElem?_eq_getElem hi')).mono M2le
            simpa [hi'] using this
        · exact .plain (.top _)
    · cases h with
      | plain h =>
        cases h <;> first
          | exact .plain (.top _)
          | exact .plain (.int ..)
          | exact .plain (.bool ..)
          | exact .plain (.str ..)
          | exact .plain .nil
          | exact .plain (PV.mono M2le (.sl _ _ _ _ _ _ _ (by assumption) (by assumption) (by assumption) (by assumption)))
          | exact .plain (PV.mono M2le (.eptr _ _ _ _ (by assumption) (by assumption)))
      | own s g n cap h => exact absurd ⟨_, _, rfl⟩ hown
      | ownl s g cap h => exact absurd ⟨_, _, rfl⟩ hown
      | ptr s off x h hx =>
        simp only [pass1]
        split
        · rename_i j hj
          exact .ptr j off x (by rw [ρc_of (findI_some hj)]; exact h) hx
        · exact .plain (.top _)
      | agg => exact .plain (.top _)
      | tup => exact .plain (.top _)
  have p2 : ∀ {c : AV} {v : Value}, VR M ρ c v → VR (lentM M ρ lnd ι w) ρc (pass2 ι lnd c) v := by
    intro c v h
    by_cases hag : ∃ cs, c = .agg cs
    · obtain ⟨cs, rfl⟩ := hag
      obtain ⟨vs, rfl, hl, h1, h2⟩ := h.agg_inv
      refine .agg _ _ (by simpa using hl) h1 (fun i c u hc hu => ?_)
      rw [List.getElem?_map] at hc
      cases hq : cs[i]? with
      | none => rw [hq] at hc; cases hc
      | some q =>
        rw [hq] at hc; injection hc with hc; subst hc
        exact p1 (h2 i q u hq hu)
    · have e : pass2 ι lnd c = pass1 ι lnd c := by cases c <;> first | rfl | exact absurd ⟨_, rfl⟩ hag
      rw [e]; exact p1 h
  have rowAtJ : ∀ {j r}, rowsOf (ι.map (passRow ι lnd st.rows)) j = some r → ∃ s r0 x, ι[j]? = some s ∧ s ∈ ι ∧ st.rows s = some r0 ∧ r0.solid = true ∧ ρ s = some x ∧ RowAt M ρ w r0 x ∧ r = passRow ι lnd st.rows s := by
    intro j r h
    simp only [rowsOf, List.getElem?_map] at h
    cases hj : ι[j]? with
    | none => rw [hj] at h; cases h
    | some s =>
      rw [hj] at h; injection h with h
      have hs := List.mem_of_getElem? hj
      obtain ⟨r0, h1, h2⟩ := hι s hs
      obtain ⟨x, h3, h4⟩ := hR.mr.row s r0 h1 h2
      exact ⟨s, r0, x, rfl, hs, h1, h2, h3, h4, h.symm⟩
  have nodupJ : ∀ {i j s}, ι[i]? = some s → ι[j]? = some s → i = j := fun {i j s} hi hj => by
    have h1 : i < ι.length := by
      rcases Nat.lt_or_ge i ι.length with h' | h'
      · exact h'
      · rw [List.getElem?_eq_none h'] at hi; cases hi
    exact (List.getElem?_inj h1 hnd).1 (hi.trans hj.symm)
  have hmr : MR (lentM M ρ lnd ι w) ρc (rowsOf (ι.map (passRow ι lnd st.rows))) w := by
    refine ⟨fun j r hj hs => ?_, fun i j r r' x x' hi hj hs hs' hx hx' hne hn hn' => ?_, fun b o v h => ?_, fun b o v j r x h hj hs hx hn => ?_⟩
    · obtain ⟨s, r0, x, e1, e2, e3, e4, e5, e6, rfl⟩ := rowAtJ hj
      refine ⟨x, by rw [ρc_of e1]; exact e5, ?_⟩
      unfold passRow
      rw [e3]
      cases r0 with
      | box T cs =>
        obtain ⟨h0, arr, h1, h2, h3, h4⟩ := e6
        refine ⟨h0, arr, h1, by simpa using h2, h3, fun i c v hc hv => ?_⟩
        rw [List.getElem?_map] at hc
        cases hq : cs[i]? with
        | none => rw [hq] at hc; cases hc
        | some q =>
          rw [hq] at hc; injection hc with hc; subst hc
          exact p1 (h4 i q v hq hv)
      | row E sz cs =>
        rcases e6 with e6 | ⟨h0, xs, h1, h2, h3, h4⟩
        · exact .inl e6
        · exact .inr ⟨h0, xs, h1, h2, h3, fun i c v hc hv => (h4 i c v hc hv).mono M2le⟩
      | gone => trivial
    · obtain ⟨s, r0, y, e1, e2, e3, e4, e5, e6, rfl⟩ := rowAtJ hi
      obtain ⟨s', r0', y', e1', e2', e3', e4', e5', e6', rfl⟩ := rowAtJ hj
      rw [ρc_of e1] at hx
      rw [ρc_of e1'] at hx'
      refine hR.mr.inj s s' r0 r0' x x' e3 e3' e4 e4' hx hx' (fun e => hne ?_) hn hn'
      subst e
      exact nodupJ e1 e1'
    · unfold lentM at h
      split at h
      · rename_i hc
        obtain ⟨s, E, sz, cs, x, h1, h2, h3, hn, h4, h5⟩ := hc
        subst h4
        obtain ⟨xs, k1, k2, k3, k4⟩ := lentRow h1 h3 hn
        have hi' : o < xs.length := by omega
        have := World.ownsRow.cells k1 (g := x.g) rfl o _ (List.getElem?_eq_getElem hi')
        rw [add_off, Nat.zero_add] at this
        rw [this] at h
        injection h with h; subst h
        exact ⟨this, k3 _ (List.getElem_mem hi')⟩
      · exact hR.mr.imm b o v h
    · obtain ⟨s, r0, y, e1, e2, e3, e4, e5, e6, rfl⟩ := rowAtJ hj
      rw [ρc_of e1] at hx
      unfold lentM at h
      split at h
      · rename_i hc
        obtain ⟨s', E, sz, cs, x', h1, h2, h3, hn', h4, h5⟩ := hc
        subst h4
        exact hR.mr.inj s s' r0 _ x x' e3 (hlnd s' _ h1) e4 rfl hx h3 (fun e => h2 (e ▸ e2)) hn hn'
      · exact hR.mr.apt b o v s r0 x h e3 e4 hx hn
  unfold Oper.wp
  rw [run_call hop hcal hcl]
  refine Calls.mono (hS (lentM M ρ lnd ι w) ρc w (c.args.map a.eval) hmr (fun s hs => ?_) (by simp) (fun i c' v hc hv' => ?_)) (fun e w' he => ?_)
  · simp only [List.length_map] at hs
    simp only [ρc, List.getElem?_eq_none hs]
  · rw [List.getElem?_map] at hc
    have : (c.args.map a.eval)[i]? = (c.args.toList[i]?).map a.eval := by simp
    rw [this] at hv'
    cases hq : c.args.toList[i]? with
    | none => rw [hq] at hc; cases hc
    | some q =>
      rw [hq] at hc hv'; injection hc with hc; injection hv' with hv'
      subst hc hv'
      exact p2 (hv q)
  · obtain ⟨v, M', ρ', rfl, mle, rle, mr', fr', vr', chg', mold', new'⟩ := he
    -- blocks handed over
    have hD : ∀ b, DOf ρc (rowsOf (ι.map (passRow ι lnd st.rows))) b → ∃ s r x, s ∈ ι ∧ st.rows s = some r ∧ r.solid = true ∧ ρ s = some x ∧ x.nl = false ∧ x.g = b := by
      rintro b ⟨j, r, x, hj, hs, hx, hn, rfl⟩
      obtain ⟨s, r0, y, e1, e2, e3, e4, e5, e6, _⟩ := rowAtJ hj
      rw [ρc_of e1] at hx
      exact ⟨s, r0, x, e2, e3, e4, hx, hn, rfl⟩
    have hDo : ∀ {s r x}, st.rows s = some r → r.solid = true → ρ s = some x → x.nl = false → s ∉ ι → ¬ DOf ρc (rowsOf (ι.map (passRow ι lnd st.rows))) x.g := by
      intro s r x h1 h2 h3 hn h4 hd'
      obtain ⟨s', r', x', e1, e2, e3, e4, hn', e5⟩ := hD _ hd'
      exact hR.mr.inj s' s r' r x' x e2 h1 e3 h2 e4 h3 (fun e => h4 (e ▸ e1)) hn' hn e5
    have hDw : ∀ b, DOf ρc (rowsOf (ι.map (passRow ι lnd st.rows))) b → C.D b ∨ C.w0.heap.size ≤ b := by
      intro b hb
      obtain ⟨s', r', x', e1, e2, e3, e4, hn', rfl⟩ := hD _ hb
      exact hR.new s' r' x' e2 e3 e4 hn'
    have oldlt : ∀ {s r x}, st.rows s = some r → r.solid = true → ρ s = some x → x.nl = false → x.g < w.heap.size := by
      intro s r x h1 h2 h3 hn
      obtain ⟨y, hy, hY⟩ := hR.mr.row s r h1 h2
      rw [h3] at hy; injection hy with hy; subst hy
      exact hY.lt h2 hn
    -- immutable cells afterwards
    have mb : ∀ {b o v}, backM M' ρ lnd ι b o = some v → M' b o = some v ∧ ¬ ∃ s E sz cs x, lnd s = some (.row E sz cs) ∧ s ∉ ι ∧ ρ s = some x ∧ x.nl = false ∧ x.g = b := by
      intro b o v h
      unfold backM at h
      split at h
      · cases h
      · rename_i hc; exact ⟨h, hc⟩
    have M3le : M.le (backM M' ρ lnd ι) := by
      intro b o v h
      unfold backM
      rw [if_neg]
      · exact mle b o v (M2le b o v h)
      · rintro ⟨s, E, sz, cs, x, h1, h2, h3, hn, h4⟩
        exact hR.mr.apt b o v s _ x h (hlnd s _ h1) rfl h3 hn h4
    have m2 : ∀ {b}, (¬ ∃ s E sz cs x, lnd s = some (.row E sz cs) ∧ s ∉ ι ∧ ρ s = some x ∧ x.nl = false ∧ x.g = b) → lentM M ρ lnd ι w b = M b := by
      intro b hb
      funext o
      unfold lentM
      rw [if_neg]
      rintro ⟨s, E, sz, cs, x, h1, h2, h3, hn, h4, _⟩
      exact hb ⟨s, E, sz, cs, x, h1, h2, h3, hn, h4⟩
    have toBack : ∀ {c : AV} {u : Value} {σ : Plc}, VR M' σ c u → (∀ h : Free ret ∧ ∀ r ∈ mem', ∀ c ∈ r.cells, Free c, Free c) → VR (backM M' ρ lnd ι) σ c u := by
      intro c u σ h hf
      rcases hfree with hn | hfr
      · have : backM M' ρ lnd ι = M' := by
          funext b o
          unfold backM
          rw [if_neg]
          rintro ⟨s, E, sz, cs, x, h1, _⟩
          rw [hn s] at h1; cases h1
        rw [this]; exact h
      · exact h.free (hf hfr)
    -- where the rows lie
    let m := mId ι site
    let k := ι.length
    let ρ3 : Plc := fun s => if site ≤ s ∧ s < site + (mem'.length - k) then ρ' (k + (s - site)) else ρ s
    have newnone : ∀ s, site ≤ s ∧ s < site + (mem'.length - k) → st.rows s = none := fun s hs => by
      have := hsite (s - site) (by omega)
      rwa [show site + (s - site) = s by omega] at this
    have r3le : ρ.le ρ3 := by
      intro s x hs
      simp only [ρ3]
      rw [if_neg]
      · exact hs
      · intro hc
        rw [hR.fr s (newnone s hc)] at hs; cases hs
    have rm : ∀ j x, ρ' j = some x → ρ3 (m j) = some x := by
      intro j x hj
      simp only [m, mId]
      by_cases hjk : j < ι.length
      · rw [if_pos hjk]
        have e : ι[j]? = some (ι.getD j 0) := by simp [hjk]
        obtain ⟨r0, h1, h2⟩ := hι _ (List.mem_of_getElem? e)
        obtain ⟨y, hy, _⟩ := hR.mr.row _ r0 h1 h2
        have := rle j y (by rw [ρc_of e]; exact hy)
        rw [hj] at this; injection this with this; subst this
        exact r3le _ _ hy
      · rw [if_neg hjk]
        have hjl : j < mem'.length := by
          rcases Nat.lt_or_ge j mem'.length with h' | h'
          · exact h'
          · rw [fr' j h'] at hj; cases hj
        simp only [ρ3, k]
        rw [if_pos (by omega), show ι.length + (site + (j - ι.length) - site) = j by omega]
        exact hj
    -- the rows afterwards
    have rget : ∀ s r, rowsAfter ι site st.rows mem' s = some r → (∃ j r0, mem'[j]? = some r0 ∧ r = r0.ren m ∧ s = m j ∧ (s ∈ ι ∨ st.rows s = none)) ∨ (st.rows s = some r ∧ s ∉ ι) := by
      intro s r h
      unfold rowsAfter at h
      rw [addRows_get] at h
      simp only [List.length_map, List.length_drop] at h
      split at h
      · rename_i hc
        left
        rw [List.getElem?_map, List.getElem?_drop] at h
        cases hq : mem'[ι.length + (s - site)]? with
        | none => rw [hq] at h; cases h
        | some r0 =>
          rw [hq] at h; injection h with h
          refine ⟨_, r0, hq, h.symm, ?_, .inr (newnone s hc)⟩
          simp only [m, mId]
          rw [if_neg (by omega)]; omega
      · by_cases hs : s ∈ ι
        · left
          obtain ⟨j, hj, hjs⟩ := List.mem_iff_getElem.1 hs
          have e : ι[j]? = some s := by rw [List.getElem?_eq_getElem hj, hjs]
          rw [setRowsI_in _ _ _ j s hnd e (by simp; omega), List.getElem?_map, List.getElem?_take, if_pos hj] at h
          cases hq : mem'[j]? with
          | none => rw [hq] at h; cases h
          | some r0 =>
            rw [hq] at h; injection h with h
            refine ⟨j, r0, hq, h.symm, ?_, .inl hs⟩
            simp only [m, mId]
            rw [if_pos hj]
            simp [hj, hjs]
        · rw [setRowsI_out _ _ _ _ hs] at h
          exact .inr ⟨h, hs⟩
    have minj : ∀ i j, i < mem'.length → j < mem'.length → m i = m j → i = j := by
      intro i j hi hj h
      have inb : ∀ q, q < ι.length → st.rows (ι.getD q 0) ≠ none := fun q hq => by
        obtain ⟨r, hr, _⟩ := hι (ι.getD q 0) (by simp [hq])
        rw [hr]; simp
      simp only [m, mId] at h
      by_cases h1 : i < ι.length <;> by_cases h2 : j < ι.length
      · rw [if_pos h1, if_pos h2] at h
        have e1 : ι[i]? = some (ι.getD i 0) := by simp [h1]
        have e2 : ι[j]? = some (ι.getD j 0) := by simp [h2]
        rw [← h] at e2
        exact nodupJ e1 e2
      · rw [if_pos h1, if_neg h2] at h
        exact absurd (h ▸ hsite (j - ι.length) (by omega)) (inb i h1)
      · rw [if_neg h1, if_pos h2] at h
        exact absurd (h ▸ hsite (i - ι.length) (by omega)) (inb j h2)
      · rw [if_neg h1, if_neg h2] at h
        omega
    have memlt : ∀ {j r0}, mem'[j]? = some r0 → j < mem'.length := fun {j r0} h => by
      rcases Nat.lt_or_ge j mem'.length with h' | h'
      · exact h'
      · rw [List.getElem?_eq_none h'] at h; cases h
    have rplace : ∀ {j r0 x}, mem'[j]? = some r0 → r0.solid = true → ρ3 (m j) = some x → ρ' j = some x ∧ RowAt M' ρ' w' r0 x := by
      intro j r0 x hj hs hx
      obtain ⟨y, hy, hY⟩ := mr'.row j r0 hj hs
      rw [rm j y hy] at hx
      injection hx with hx; subst hx
      exact ⟨hy, hY⟩
    refine hK (backM M' ρ lnd ι) ρ3 _ w' (Rel.put ?_ (VR.rn3 rm (toBack vr' (fun h => h.1))) hd)
    refine ⟨fun t => (hR.tm t).mono M3le r3le, hR.N, hR.df, ⟨fun s r hr hs => ?_, fun s s' r r' x x' hr hr' hs hs' hx hx' hne hn hn' => ?_, fun b o v hb => ?_, fun b o v s r x hb hr hs hx hn => ?_⟩, hR.chg.trans chg' hDw, fun s r x hr hs hx hn => ?_, Imm.le_trans hR.m0 M3le, Plc.le_trans hR.r0 r3le, fun b hb hCD => ?_, fun s hs => ?_⟩
    · rcases rget s r hr with ⟨j, r0, hj, rfl, rfl, _⟩ | ⟨hr', hs'⟩
      · rw [Row.ren_solid] at hs
        obtain ⟨y, hy, hY⟩ := mr'.row j r0 hj hs
        refine ⟨y, rm j y hy, RowAt.ren rm ?_⟩
        rcases hfree with hn | hfr
        · have : backM M' ρ lnd ι = M' := by
            funext b o
            unfold backM
            rw [if_neg]
            rintro ⟨s, E, sz, cs, x, h1, _⟩
            rw [hn s] at h1; cases h1
          rw [this]; exact hY
        · exact hY.free (hfr.2 r0 (List.mem_of_getElem? hj))
      · obtain ⟨y, hy, hY⟩ := hR.mr.row s r hr' hs
        exact ⟨y, r3le _ _ hy, (hY.mono M3le r3le).same fun hn => chg'.block _ (hY.lt hs hn) (hDo hr' hs hy hn hs')⟩
    · rcases rget s r hr with ⟨j, r0, hj, rfl, rfl, _⟩ | ⟨h1, h2⟩
      · rw [Row.ren_solid] at hs
        obtain ⟨p, _⟩ := rplace hj hs hx
        rcases rget s' r' hr' with ⟨j', r0', hj', rfl, rfl, _⟩ | ⟨h1', h2'⟩
        · rw [Row.ren_solid] at hs'
          obtain ⟨p', _⟩ := rplace hj' hs' hx'
          exact mr'.inj j j' r0 r0' x x' hj hj' hs hs' p p' (fun e => hne (by rw [e])) hn hn'
        · obtain ⟨y, hy, _⟩ := hR.mr.row s' r' h1' hs'
          rw [r3le _ _ hy] at hx'; injection hx' with hx'; subst hx'
          intro e
          rcases new' j r0 x hj hs p hn with h | h
          · exact hDo h1' hs' hy hn' h2' (e ▸ h)
          · have := oldlt h1' hs' hy hn'; omega
      · obtain ⟨y, hy, _⟩ := hR.mr.row s r h1 hs
        rw [r3le _ _ hy] at hx; injection hx with hx; subst hx
        rcases rget s' r' hr' with ⟨j', r0', hj', rfl, rfl, _⟩ | ⟨h1', h2'⟩
        · rw [Row.ren_solid] at hs'
          obtain ⟨p', _⟩ := rplace hj' hs' hx'
          intro e
          rcases new' j' r0' x' hj' hs' p' hn' with h | h
          · exact hDo h1 hs hy hn h2 (e ▸ h)
          · have := oldlt h1 hs hy hn; omega
        · obtain ⟨y', hy', _⟩ := hR.mr.row s' r' h1' hs'
          rw [r3le _ _ hy'] at hx'; injection hx' with hx'; subst hx'
          exact hR.mr.inj s s' r r' y y' h1 h1' hs hs' hy hy' hne hn hn'
    · obtain ⟨hb, _⟩ := mb hb
      exact mr'.imm b o v hb
    · obtain ⟨hb, hnl⟩ := mb hb
      rcases rget s r hr with ⟨j, r0, hj, rfl, rfl, _⟩ | ⟨h1, h2⟩
      · rw [Row.ren_solid] at hs
        obtain ⟨p, _⟩ := rplace hj hs hx
        exact mr'.apt b o v j r0 x hb hj hs p hn
      · obtain ⟨y, hy, _⟩ := hR.mr.row s r h1 hs
        rw [r3le _ _ hy] at hx; injection hx with hx; subst hx
        rintro rfl
        have := mold' y.g (oldlt h1 hs hy hn) (hDo h1 hs hy hn h2)
        rw [this, m2 hnl] at hb
        exact hR.mr.apt _ o v s r y hb h1 hs hy hn rfl
    · rcases rget s r hr with ⟨j, r0, hj, rfl, rfl, _⟩ | ⟨h1, h2⟩
      · rw [Row.ren_solid] at hs
        obtain ⟨p, _⟩ := rplace hj hs hx
        rcases new' j r0 x hj hs p hn with h | h
        · exact hDw _ h
        · right; exact Nat.le_trans hR.chg.size h
      · obtain ⟨y, hy, _⟩ := hR.mr.row s r h1 hs
        rw [r3le _ _ hy] at hx; injection hx with hx; subst hx
        exact hR.new s r y h1 hs hy hn
    · have hbl : ¬ ∃ s E sz cs x, lnd s = some (.row E sz cs) ∧ s ∉ ι ∧ ρ s = some x ∧ x.nl = false ∧ x.g = b := by
        rintro ⟨s, E, sz, cs, x, h1, h2, h3, hn, rfl⟩
        rcases hR.new s _ x (hlnd s _ h1) rfl h3 hn with h | h
        · exact hCD h
        · omega
      have hbD : ¬ DOf ρc (rowsOf (ι.map (passRow ι lnd st.rows))) b := fun h => (hDw b h).elim hCD (fun h' => by omega)
      rw [← hR.mold b hb hCD, ← m2 hbl, ← mold' b (Nat.lt_of_lt_of_le hb hR.chg.size) hbD]
      funext o
      unfold backM
      rw [if_neg hbl]
    · have hs' : rowsAfter ι site st.rows mem' s = none := hs
      unfold rowsAfter at hs'
      rw [addRows_get] at hs'
      simp only [List.length_map, List.length_drop] at hs'
      split at hs'
      · rename_i hc
        exfalso
        rw [List.getElem?_map, List.getElem?_drop, List.getElem?_eq_getElem (by omega)] at hs'
        cases hs'
      · rename_i hc
        have hnot : s ∉ ι := fun hsι => by
          obtain ⟨j, hj, hjs⟩ := List.mem_iff_getElem.1 hsι
          have e : ι[j]? = some s := by rw [List.getElem?_eq_getElem hj, hjs]
          rw [setRowsI_in _ _ _ j s hnd e (by simp; omega), List.getElem?_map, List.getElem?_take, if_pos hj, List.getElem?_eq_getElem (by omega)] at hs'
          cases hs'
        rw [setRowsI_out _ _ _ _ hnot] at hs'
        simp only [ρ3, k]
        rw [if_neg hc]
        exact hR.fr s hs'
end
end Go.Proofs.Ytfpfalknddfejaa
