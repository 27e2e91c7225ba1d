/- The engine, part 10: regions in whatever order. Over any program. -/
import Derived.Test.YtfpfalknddfejaaEi
namespace Go.Proofs.Ytfpfalknddfejaa
open Go.RowKit
set_option linter.unusedVariables false
set_option linter.unusedSimpArgs false

section
variable {P : Program} {BR : Nat → Bool} {ops : Array Oper} {C : Ctx} {M : Imm} {ρ : Plc} {st : St} {a : Act} {w : World}

open Classical in
/-- A row of the call's own is frozen. -/
theorem Rel.freeze (h : Rel C M ρ st a w) {s E sz : Nat} {cs : List AV} (hrow : st.rows s = some (.row E sz cs)) :
    ∃ M', Rel C M' ρ { st with rows := upd st.rows s (some .gone) } a w ∧ ∀ n v, VR M ρ (.own s n) v → VR M' ρ (.sl cs n) v := by
  obtain ⟨x, hx, hX⟩ := h.mr.row s _ hrow rfl
  by_cases hnl : x.nl = true
  · rcases hX with ⟨_, rfl, _⟩ | ⟨h0, _⟩
    · refine ⟨M, h.goneRow (by rw [hrow]; simp), fun n v hv => ?_⟩
      obtain ⟨g, cap, ⟨hs, rfl⟩ | ⟨hs, hn0, rfl⟩⟩ := hv.own_inv
      · rw [hx] at hs; injection hs with hs; subst hs; cases hnl
      · subst hn0
        exact .plain (.sl [] 0 none 0 0 0 (fun _ => undef) (fun h => by omega) (Nat.le_refl _) (fun i c hc => by simp at hc) (fun i c hc => by simp at hc))
    · rw [hnl] at h0; cases h0
  have hnl : x.nl = false := by simpa using hnl
  rcases hX with ⟨h0, _⟩ | ⟨_, xs, h1, h2, h3, h4⟩
  · rw [hnl] at h0; cases h0
  have apt : ∀ o v, M x.g o ≠ some v := fun o v hM => h.mr.apt _ _ _ s _ x hM hrow rfl hx hnl rfl
  have hcell : ∀ i, i < cs.length → w.cell? ⟨x.g, i, none⟩ = some (xs.getD i undef) := fun i hi => by
    have hi' : i < xs.length := by omega
    have := World.ownsRow.cells h1 (g := x.g) rfl i _ (List.getElem?_eq_getElem hi')
    rw [add_off, Nat.zero_add] at this
    simpa [hi'] using this
  let M' : Imm := fun b o => if b = x.g then (if o < cs.length then some (xs.getD o undef) else none) else M b o
  have hle : M.le M' := fun b o v hM => by
    have hb : b ≠ x.g := fun e => by subst e; exact apt _ _ hM
    show (if b = x.g then _ else M b o) = some v
    rw [if_neg hb]; exact hM
  have hR := h.goneRow (k := s) (by rw [hrow]; simp)
  refine ⟨M', ⟨fun t => (hR.tm t).mono hle (Plc.le_refl _), hR.N, hR.df, ⟨fun k q hk hq => ?_, hR.mr.inj, fun b o v hM => ?_, fun b o v k q y hM hk hq hy hn => ?_⟩, hR.chg, hR.new, Imm.le_trans hR.m0 hle, hR.r0, fun b hb hD => ?_, hR.fr⟩, fun n v hv => ?_⟩
  · obtain ⟨y, hy, hY⟩ := hR.mr.row k q hk hq
    exact ⟨y, hy, hY.mono hle (Plc.le_refl _)⟩
  · by_cases hb : b = x.g
    · subst hb
      have hM : (if x.g = x.g then (if o < cs.length then some (xs.getD o undef) else none) else M x.g o) = some v := hM
      rw [if_pos rfl] at hM
      split at hM
      · rename_i ho
        injection hM with hM; subst hM
        refine ⟨hcell o ho, ?_⟩
        have ho' : o < xs.length := by omega
        have := h3 _ (List.getElem_mem ho')
        simpa [ho'] using this
      · cases hM
    · have hM : (if b = x.g then (if o < cs.length then some (xs.getD o undef) else none) else M b o) = some v := hM
      rw [if_neg hb] at hM
      exact h.mr.imm b o v hM
  · by_cases hb : b = x.g
    · subst hb
      have hk' : upd st.rows s (some .gone) k = some q := hk
      have hks : k ≠ s := fun e => by subst e; rw [upd_same] at hk'; injection hk' with hk'; subst hk'; cases hq
      rw [upd_ne _ _ hks] at hk'
      exact h.mr.inj k s q _ y x hk' hrow hq rfl hy hx hks hn hnl
    · have hM : (if b = x.g then (if o < cs.length then some (xs.getD o undef) else none) else M b o) = some v := hM
      rw [if_neg hb] at hM
      exact hR.mr.apt b o v k q y hM hk hq hy hn
  · have hbx : b ≠ x.g := fun e => by
      subst e
      rcases h.new s _ x hrow rfl hx hnl with h' | h'
      · exact hD h'
      · omega
    rw [← h.mold b hb hD]
    funext o
    show (if b = x.g then _ else M b o) = M b o
    rw [if_neg hbx]
  · obtain ⟨g, cap, ⟨hs, rfl⟩ | ⟨hs, hn0, rfl⟩⟩ := hv.own_inv
    · rw [hx] at hs; injection hs with hs; subst hs
      have hn : n ≤ cap := by
        rcases h1.2 with ⟨hn, _⟩ | ⟨g', cap', cur, hvv, hb, hg, hcap, _⟩
        · cases hn
        · injection hvv with _ _ q3; simp only at hcap q3; omega
      have lt : ∀ (i : Nat) (c : AV), cs[i]? = some c → i < cs.length := fun i c hc => by
        rcases Nat.lt_or_ge i cs.length with h' | h'
        · exact h'
        · rw [List.getElem?_eq_none h'] at hc; cases hc
      refine .plain (.sl cs n _ cap g 0 (fun i => xs.getD i undef) (fun _ => rfl) hn (fun i c hc => ?_) (fun i c hc => ?_))
      · rw [Nat.zero_add]
        show (if g = g then (if i < cs.length then some (xs.getD i undef) else none) else M g i) = _
        rw [if_pos rfl, if_pos (lt i c hc)]
      · have hi' : i < xs.length := by have := lt i c hc; omega
        have := (h4 i c _ hc (List.getElem?_eq_getElem hi')).mono hle
        simpa [hi'] using this
    · rw [hx] at hs; injection hs with hs; subst hs; cases hnl
theorem Rel.freezePut {d : Option Tmp} {s n E sz : Nat} {cs : List AV} {rows : Nat → Option Row} (hR : Rel C M ρ (({ st with rows := rows } : St).put d (.own s n)) a w) (hrow : rows s = some (.row E sz cs)) :
    ∃ M', Rel C M' ρ (({ st with rows := upd rows s (some .gone) } : St).put d (.sl cs n)) a w := by
  obtain ⟨M', h1, h2⟩ := hR.freeze (s := s) (by rw [St.put_rows]; exact hrow)
  refine ⟨M', ?_⟩
  cases d with
  | none => exact h1
  | some d =>
    refine { h1 with tm := fun t => ?_ }
    show VR M' ρ (upd st.tmps d (.sl cs n) t) _
    by_cases e : t = d
    · subst e
      rw [upd_same]
      refine h2 _ _ ?_
      have := hR.tm t
      simp only [St.put, upd_same] at this
      exact this
    · rw [upd_ne _ _ e]
      have := h1.tm t
      simp only [St.put, upd_ne _ _ e] at this
      exact this

theorem stp_ok {site : Nat} {o : Oper} {st' : St} (h : Stp P BR site o st st') (hR : Rel C M ρ st a w) (hd : ∀ k, o.dst = some k → k < C.N) {K : Act → World → Prop} {Q : Exit → Act → World → Prop}
    (hK : ∀ M' ρ' a' w', Rel C M' ρ' st' a' w' → K a' w') : o.wp P a w K Q := by
  have call : ∀ ι, CallStp P site o ι st st' → o.wp P a w K Q := by
    rintro ι ⟨c, f, lnd, ret, mem', hop, hcal, h1, h2, h3, h4, h5, h6, h7, h8, rfl⟩
    exact call_ok hop hcal hR ι lnd h1 h2 h3 h4 h5 h6 h8 hd hK
  unfold Stp at h
  split at h
  · obtain ⟨v, h1, rfl⟩ := h
    obtain ⟨u, hu, hU⟩ := pure_ok h1 hR.ev w
    unfold Oper.wp
    rw [hu]
    exact hK _ _ _ _ (hR.put hU hd)
  · obtain ⟨v, nw, h1, h2, rfl⟩ := h
    obtain ⟨u, M', ρ', w', hu, hU⟩ := mk_ok h1 hR h2 hd
    unfold Oper.wp
    rw [hu]
    refine hK M' ρ' _ _ ?_
    have e : ({ st with rows := addNw st.rows site nw } : St) = st.add site nw.toList := by cases nw <;> rfl
    rw [← e]; exact hU
  · exact call [] h
  · rename_i hc
    obtain ⟨v, rows', h1, rfl⟩ := h
    have : (∃ t x v, o.op = .store t x v) ∨ ∃ c, o.op = .call c := by
      unfold cls at hc
      split at hc <;> first | (simp at hc; done) | skip
      · exact .inl ⟨_, _, _, by assumption⟩
      · exact .inr ⟨_, by assumption⟩
    cases hfz : FZ BR site with
    | false =>
      rw [hfz] at h1
      simp only [frzW] at h1
      rcases this with ⟨t, x, v', hop⟩ | ⟨c, hop⟩
      · obtain ⟨w', hu, hU⟩ := store_ok hop h1 hR hd
        unfold Oper.wp
        rw [hu]
        exact hK _ _ _ _ hU
      · obtain ⟨z, ρ', w', hu, hU⟩ := append_ok hop h1 hR hd
        unfold Oper.wp
        rw [hu]
        exact hK _ _ _ _ hU
    | true =>
      rw [hfz] at h1
      obtain ⟨s, n, rows, E, sz, cs, h2, h3, rfl, rfl⟩ := frz_inv h1
      rcases this with ⟨t, x, v', hop⟩ | ⟨c, hop⟩
      · obtain ⟨w', hu, hU⟩ := store_ok hop h2 hR hd
        obtain ⟨M', hV⟩ := hU.freezePut h3
        unfold Oper.wp
        rw [hu]
        exact hK _ _ _ _ hV
      · obtain ⟨z, ρ', w', hu, hU⟩ := append_ok hop h2 hR hd
        obtain ⟨M', hV⟩ := hU.freezePut h3
        unfold Oper.wp
        rw [hu]
        exact hK _ _ _ _ hV
  · obtain ⟨ι, h⟩ := h
    exact call ι h
  · exact h.elim

theorem gst_ok {i site : Nat} {o : Oper} {st' : St} (ho : ops[i]? = some o) (h : Gst P BR ops site o st st') (hR : Rel C M ρ st a w) (hd : ∀ k, o.dst = some k → k < C.N) {K : Act → World → Prop} {Q : Exit → Act → World → Prop}
    (hK : ∀ M' ρ' a' w', Rel C M' ρ' st' a' w' → K a' w') : wpOp P ops Q i K a w := by
  unfold wpOp
  simp only [ho]
  unfold Gst at h
  split at h
  · rename_i hg
    have hw : Region.wanted o (yielded ops a.tmps) = true := by simp [Region.wanted, hg]
    rw [if_pos hw]
    exact .inl (stp_ok h hR hd hK)
  · rename_i g want hg
    obtain ⟨t, h1, h3⟩ := h
    have ht := hR.tm t
    have yb : ∀ b, st.tmps t = .bool b → yielded ops a.tmps g = some b := fun b h2 => by
      rw [h2] at ht
      have ht := ht.bool_inv
      unfold yielded
      rw [h1]
      have : a.tmps[t]? = some (.bool b) := by
        cases hq : a.tmps[t]? with
        | none => simp [hq, undef] at ht
        | some q => simp [hq] at ht; rw [ht]
      simp [this]
    rcases h3 with ⟨h3, h4⟩ | ⟨h3, rfl⟩
    · have hw : Region.wanted o (yielded ops a.tmps) = true := by simp [Region.wanted, hg, yb _ h3]
      rw [if_pos hw]
      exact .inl (stp_ok h4 hR hd hK)
    · have hw : ¬ Region.wanted o (yielded ops a.tmps) = true := by
        rcases h3 with h3 | ⟨b, h3, hne⟩
        · have hy : yielded ops a.tmps g = none := by
            rw [h3] at ht
            obtain ⟨vs, hv, hl, _⟩ := ht.tup_inv
            unfold yielded
            rw [h1]
            cases hq : a.tmps[t]? with
            | none => simp [hq]
            | some q => simp [hq] at hv; simp [hq, hv]
          simp [Region.wanted, hg, hy]
        · simp [Region.wanted, hg, yb _ h3, hne]
      rw [if_neg hw]
      exact hK _ _ _ _ (hR.put (.tup [] #[] rfl (by simp)) hd)

/-- The operations in the list, one after the other. -/
def aSeq (P : Program) (BR : Nat → Bool) (ops : Array Oper) (bs : Nat) : List Nat → St → (St → Prop) → Prop
  | [], st, K => K st
  | i :: L, st, K => ∃ o st', ops[i]? = some o ∧ Gst P BR ops (bs + 16 * i) o st st' ∧ aSeq P BR ops bs L st' K
def dstB (N : Nat) (ops : Array Oper) : Bool := ops.toList.all fun o => match o.dst with | some d => decide (d < N) | none => true
theorem dstB_spec {N : Nat} (h : dstB N ops = true) {i : Nat} {o : Oper} (ho : ops[i]? = some o) : ∀ k, o.dst = some k → k < N := by
  intro k hk
  have hm : o ∈ ops.toList := by simpa using Array.mem_of_getElem? ho
  have := List.all_eq_true.1 h o hm
  simpa [hk] using this

theorem aSeq_ops (hN : dstB C.N ops = true) {Q : Exit → Act → World → Prop} {K : St → Prop} (hK : ∀ st' M' ρ' a' w', K st' → Rel C M' ρ' st' a' w' → Q .normal a' w') :
    ∀ (L : List Nat) (bs : Nat) (st : St) (M : Imm) (ρ : Plc) (a : Act) (w : World), aSeq P BR ops bs L st K → Rel C M ρ st a w → wpOps P ops Q L a w
  | [], bs, st, M, ρ, a, w, h, hR => hK _ _ _ _ _ h hR
  | i :: L, bs, st, M, ρ, a, w, h, hR => by
    obtain ⟨o, st', ho, hg, h⟩ := h
    rw [wpOps_cons]
    exact gst_ok ho hg hR (dstB_spec hN ho) (fun M' ρ' a' w' hR' => aSeq_ops hN hK L bs st' M' ρ' a' w' h hR')

-- what comes before what
def depsOf' (ops : Array Oper) (i : Nat) : List Nat := match ops[i]? with
  | some o => (o.after.toList.filter (Region.binds .any)).map (·.on)
  | none => []
def ancGo' (ops : Array Oper) : Nat → List Nat → List Nat
  | 0, acc => acc
  | k + 1, acc => if acc.contains k then ancGo' ops k (depsOf' ops k ++ acc) else ancGo' ops k acc
def Closed' (ops : Array Oper) (listed : Array Bool) : Prop := ∀ j, listed.getD j false = true → ∀ k ∈ depsOf' ops j, listed.getD k false = true
theorem ancGo'_listed {listed : Array Bool} (hc : Closed' ops listed) : ∀ (k : Nat) (acc : List Nat), (∀ x ∈ acc, listed.getD x false = true) → ∀ x ∈ ancGo' ops k acc, listed.getD x false = true
  | 0, acc, h => h
  | k + 1, acc, h => by
    unfold ancGo'
    split
    · rename_i hk
      refine ancGo'_listed hc k _ fun x hx => ?_
      rcases List.mem_append.1 hx with hx | hx
      · exact hc k (h k (by simpa using hk)) x hx
      · exact h x hx
    · exact ancGo'_listed hc k acc h
theorem ready_deps' {listed : Array Bool} {i : Nat} (hr : i ∈ Region.ready .any ops listed) : ∀ k ∈ depsOf' ops i, listed.getD k false = true := by
  obtain ⟨_, o, ho, hall⟩ := mem_ready.1 hr
  intro k hk
  simp only [depsOf', ho, List.mem_map, List.mem_filter] at hk
  obtain ⟨e, ⟨he, hb⟩, rfl⟩ := hk
  exact hall e (by simpa using he) hb
theorem Closed'.set {listed : Array Bool} (hc : Closed' ops listed) {i : Nat} (hr : i ∈ Region.ready .any ops listed) : Closed' ops (listed.setIfInBounds i true) := by
  intro j hj k hk
  by_cases hij : j = i
  · subst hij; exact getD_set_true (ready_deps' hr k hk)
  · rw [getD_set_ne false (Ne.symm hij)] at hj
    exact getD_set_true (hc j hj k hk)
/-- Whatever is not ordered may change places; the text's order is one of the orders. -/
def regB (BR : Nat → Bool) (ops : Array Oper) : Bool :=
  (List.range ops.size).all fun i => match ops[i]? with
    | some o => (depsOf' ops i).all (fun k => decide (k < i)) && (let an := ancGo' ops i (depsOf' ops i); (List.range i).all fun k => an.contains k || match ops[k]? with | some x => indepB BR ops o x | none => false)
    | none => false
structure ROK (BR : Nat → Bool) (ops : Array Oper) : Prop where
  deps : ∀ i, i < ops.size → ∀ k ∈ depsOf' ops i, k < i
  ind : ∀ i k o x, k < i → ops[i]? = some o → ops[k]? = some x → k ∈ ancGo' ops i (depsOf' ops i) ∨ indepB BR ops o x = true
theorem ROK.of (h : regB BR ops = true) : ROK BR ops := by
  unfold regB at h
  refine ⟨fun i hi k hk => ?_, fun i k o x hki ho hx => ?_⟩
  · have := List.all_eq_true.1 h i (List.mem_range.2 hi)
    rw [Array.getElem?_eq_getElem hi] at this
    simp only [Bool.and_eq_true] at this
    simpa using List.all_eq_true.1 this.1 k hk
  · have hi : i < ops.size := (Array.getElem?_eq_some_iff.1 ho).1
    have := List.all_eq_true.1 h i (List.mem_range.2 hi)
    rw [ho] at this
    simp only [Bool.and_eq_true] at this
    have := List.all_eq_true.1 this.2 k (List.mem_range.2 hki)
    rw [hx] at this
    simpa using this

theorem rel_live (hR : Rel C M ρ st a w) (t s : Nat) (h : refs (st.tmps t) s) : st.rows s ≠ none := by
  intro hn
  have hρ := hR.fr s hn
  have hv := hR.tm t
  have one : ∀ {c : AV} {v : Value}, VR M ρ c v → ref1 c s → False := by
    intro c v hv hr
    cases c <;> simp only [ref1] at hr
    case own s' n =>
      subst hr
      obtain ⟨g, cap, ⟨h1, _⟩ | ⟨h1, _⟩⟩ := hv.own_inv
      · rw [hρ] at h1; cases h1
      · rw [hρ] at h1; cases h1
    case ptr s' n =>
      subst hr
      obtain ⟨x, h1, _⟩ := hv.ptr_inv
      rw [hρ] at h1; cases h1
  by_cases hag : ∃ cs, st.tmps t = .agg cs
  · obtain ⟨cs, e⟩ := hag
    rw [e] at h hv
    obtain ⟨c, hc, hr⟩ := h
    obtain ⟨vs, _, hl, _, h2⟩ := hv.agg_inv
    obtain ⟨i, hi, rfl⟩ := List.mem_iff_getElem.1 hc
    exact one (h2 i _ _ (List.getElem?_eq_getElem hi) (Array.getElem?_eq_getElem (by omega))) hr
  · have e : refs (st.tmps t) s = ref1 (st.tmps t) s := by
      cases hq : st.tmps t <;> first | rfl | exact absurd ⟨_, hq⟩ hag
    rw [e] at h
    exact one hv h

theorem gst_keep {site : Nat} {o : Oper} {st' : St} (h : Gst P BR ops site o st st') : ∀ s, st.rows s ≠ none → st'.rows s ≠ none := by
  have aft : ∀ (ι : List Nat) (mem' : List Row) (s : Nat), ι.Nodup → ι.length ≤ mem'.length → st.rows s ≠ none → rowsAfter ι site st.rows mem' s ≠ none := by
    intro ι mem' s hnd hle hs
    unfold rowsAfter
    rw [addRows_get]
    split
    · rename_i hc
      simp only [List.length_map, List.length_drop] at hc
      rw [List.getElem?_map, List.getElem?_drop, List.getElem?_eq_getElem (by omega)]
      simp
    · by_cases hsι : s ∈ ι
      · obtain ⟨j, hj, hjs⟩ := List.mem_iff_getElem.1 hsι
        have e : ι[j]? = some s := by rw [List.getElem?_eq_getElem hj, hjs]
        rw [setRowsI_in _ _ _ j s hnd e (by simp; omega), List.getElem?_map, List.getElem?_take, if_pos hj, List.getElem?_eq_getElem (by omega)]
        simp
      · rw [setRowsI_out _ _ _ _ hsι]; exact hs
  have stp : Stp P BR site o st st' → ∀ s, st.rows s ≠ none → st'.rows s ≠ none := by
    intro h s hs
    unfold Stp at h
    split at h
    · obtain ⟨v, h1, rfl⟩ := h
      rw [St.put_rows]; exact hs
    · obtain ⟨v, nw, h1, h2, rfl⟩ := h
      rw [St.put_rows]
      simp only [St.add, addRows_get]
      split
      · rename_i hc; rw [List.getElem?_eq_getElem (by omega)]; simp
      · exact hs
    · obtain ⟨c, f, lnd, ret, mem', hop, hcal, h1, h2, h3, h4, h5, h6, h7, h8, rfl⟩ := h
      rw [St.put_rows]
      exact aft [] mem' s h2 h5 hs
    · obtain ⟨v, rows', h1, rfl⟩ := h
      rw [St.put_rows]
      show rows' s ≠ none
      have u : ∀ (f : Nat → Option Row) (k : Nat) (r : Row) (s : Nat), f s ≠ none → upd f k (some r) s ≠ none := fun f k r s hf => by
        unfold upd; split
        · simp
        · exact hf
      have h1 : ∃ v rows2, aWr P site st.ev st.rows o.op = some (v, rows2) ∧ (rows2 s ≠ none → rows' s ≠ none) := by
        cases hfz : FZ BR site with
        | false => rw [hfz] at h1; exact ⟨_, _, h1, id⟩
        | true =>
          rw [hfz] at h1
          obtain ⟨s', n, rows, E, sz, cs, h2, h3, rfl, rfl⟩ := frz_inv h1
          exact ⟨_, _, h2, u _ _ _ _⟩
      obtain ⟨v2, rows2, h1, h2⟩ := h1
      refine h2 ?_
      clear h2
      unfold aWr at h1
      split at h1
      · repeat' split at h1
        all_goals first | (cases h1; done) | skip
        all_goals
          simp only [Option.some.injEq, Prod.mk.injEq] at h1
          rw [← h1.2]
          exact u _ _ _ _ hs
      · repeat' split at h1
        all_goals first | (cases h1; done) | skip
        all_goals
          simp only [Option.some.injEq, Prod.mk.injEq] at h1
          rw [← h1.2]
          first | exact hs | exact u _ _ _ _ hs | exact u _ _ _ _ (u _ _ _ _ hs)
      · cases h1
    · obtain ⟨ι, c, f, lnd, ret, mem', hop, hcal, h1, h2, h3, h4, h5, h6, h7, h8, rfl⟩ := h
      rw [St.put_rows]
      exact aft ι mem' s h2 h5 hs
    · exact h.elim
  unfold Gst at h
  split at h
  · exact stp h
  · obtain ⟨t, h1, h3⟩ := h
    rcases h3 with ⟨h3, h4⟩ | ⟨h3, rfl⟩
    · exact stp h4
    · intro s hs; rw [St.put_rows]; exact hs
theorem gst_tmps {site : Nat} {o : Oper} {st' : St} (h : Gst P BR ops site o st st') (t : Nat) (ht : o.dst ≠ some t) : st'.tmps t = st.tmps t := by
  obtain ⟨v, rows', rfl, _⟩ := h.congr (st2 := st) (fun _ _ => rfl) rfl
  rw [St.put_tmps_ne _ _ _ _ ht]
/-- An operation that waits for none of those before it may come first. -/
theorem aSeq_front {bs : Nat} {K : St → Prop} {i : Nat} {o : Oper} (ho : ops[i]? = some o) : ∀ (L1 L2 : List Nat) (st : St), (∀ k ∈ L1, k ≠ i ∧ ∀ x, ops[k]? = some x → indepB BR ops o x = true) →
    (∀ t ∈ o.looksAt ops, ∀ s, refs (st.tmps t) s → st.rows s ≠ none) → aSeq P BR ops bs (L1 ++ i :: L2) st K → aSeq P BR ops bs (i :: (L1 ++ L2)) st K
  | [], L2, st, _, _, h => h
  | k :: L1, L2, st, hL, hlive, h => by
    obtain ⟨x, s1, hx, hg, h⟩ := h
    obtain ⟨hki, hind⟩ := hL k (by simp)
    have hi := hind x hx
    have ha : o.apart ops x = true := by unfold indepB at hi; rw [Bool.and_eq_true] at hi; exact hi.1
    obtain ⟨a1, a2, a3⟩ := Oper.apart_spec ha
    have ih := aSeq_front ho L1 L2 s1 (fun k' hk' => hL k' (by simp [hk'])) (fun t ht s hr => by
      rw [gst_tmps hg t (fun e => a3 t e ht)] at hr
      exact gst_keep hg s (hlive t ht s hr)) h
    obtain ⟨o', s2, ho', hg2, h2⟩ := ih
    rw [ho] at ho'; injection ho' with ho'; subst ho'
    obtain ⟨s1', e1, e2⟩ := swap hg hg2 hi (by omega) hlive
    exact ⟨o, s1', ho, e1, x, s2, hx, e2, h2⟩

theorem aSeq_any (hN : dstB C.N ops = true) (hOK : ROK BR ops) {Q : Exit → Act → World → Prop} {K : St → Prop} (hK : ∀ st' M' ρ' a' w', K st' → Rel C M' ρ' st' a' w' → Q .normal a' w') (bs : Nat) :
    ∀ (n : Nat) (L : List Nat) (listed : Array Bool) (st : St) (M : Imm) (ρ : Plc) (a : Act) (w : World), L.length = n → L.Pairwise (· < ·) → (∀ i, i ∈ L ↔ i < ops.size ∧ listed.getD i true = false) → listed.size = ops.size → Closed' ops listed →
      aSeq P BR ops bs L st K → Rel C M ρ st a w → wpAny P .any ops Q n listed a w := by
  intro n
  induction n with
  | zero =>
    intro L listed st M ρ a w hl hp hL hsz hc h hR
    have : L = [] := List.eq_nil_of_length_eq_zero hl
    subst this
    refine ⟨?_, hK _ _ _ _ _ h hR⟩
    cases hq : Region.ready .any ops listed with
    | nil => rfl
    | cons i r =>
      exfalso
      have hr : i ∈ Region.ready .any ops listed := by rw [hq]; simp
      obtain ⟨h1, o, ho, _⟩ := mem_ready.1 hr
      have := (hL i).2 ⟨(Array.getElem?_eq_some_iff.1 ho).1, h1⟩
      simp at this
  | succ n ih =>
    intro L listed st M ρ a w hl hp hL hsz hc h hR
    have lof : ∀ k, k < ops.size → k ∉ L → listed.getD k false = true := fun k hk hn => by
      have hk' : k < listed.size := by omega
      cases hq : listed[k] with
      | true => simp [hk', hq]
      | false =>
        exfalso
        exact hn ((hL k).2 ⟨hk, by simp [hk', hq]⟩)
    refine ⟨fun h0 => ?_, fun i hi => ?_⟩
    · exfalso
      cases L with
      | nil => simp at hl
      | cons i L =>
        have hiL := (hL i).1 (by simp)
        have ho : ops[i]? = some ops[i] := Array.getElem?_eq_getElem hiL.1
        have hr : i ∈ Region.ready .any ops listed := mem_ready.2 ⟨hiL.2, _, ho, fun e he hb => by
          have hk : e.on ∈ depsOf' ops i := by
            simp only [depsOf', ho, List.mem_map, List.mem_filter]
            exact ⟨e, ⟨by simpa using he, hb⟩, rfl⟩
          have hlt := hOK.deps i hiL.1 _ hk
          refine lof _ (by omega) (fun hm => ?_)
          rcases List.mem_cons.1 hm with hm | hm
          · omega
          · have := (List.pairwise_cons.1 hp).1 _ hm
            omega⟩
        rw [h0] at hr; cases hr
    · obtain ⟨h1, o, ho, _⟩ := mem_ready.1 hi
      have hiL : i ∈ L := (hL i).2 ⟨(Array.getElem?_eq_some_iff.1 ho).1, h1⟩
      obtain ⟨L1, L2, rfl⟩ := List.append_of_mem hiL
      have hlt1 : ∀ k ∈ L1, k < i := fun k hk => (List.pairwise_append.1 hp).2.2 k hk i (by simp)
      have hunl : ∀ k ∈ L1, listed.getD k false = true → False := fun k hk ht => by
        have := ((hL k).1 (by simp [hk])).2
        have hk' : k < listed.size := by have := ((hL k).1 (by simp [hk])).1; omega
        simp [hk'] at this ht
        rw [this] at ht; cases ht
      have hf := aSeq_front ho L1 L2 st (fun k hk => ⟨by have := hlt1 k hk; omega, fun x hx => by
        rcases hOK.ind i k o x (hlt1 k hk) ho hx with h' | h'
        · exact (hunl k hk (ancGo'_listed hc i _ (ready_deps' hi) k h')).elim
        · exact h'⟩) (fun t ht s hr => rel_live hR t s hr) h
      obtain ⟨o', st', ho', hg, hrest⟩ := hf
      rw [ho] at ho'; injection ho' with ho'; subst ho'
      have hpw : (L1 ++ L2).Pairwise (· < ·) := by
        rw [List.pairwise_append] at hp ⊢
        exact ⟨hp.1, (List.pairwise_cons.1 hp.2.1).2, fun x hx y hy => hp.2.2 x hx y (by simp [hy])⟩
      have hni : i ∉ L1 ++ L2 := by
        intro hm
        rcases List.mem_append.1 hm with hm | hm
        · have := hlt1 i hm; omega
        · have := (List.pairwise_cons.1 (List.pairwise_append.1 hp).2.1).1 i hm; omega
      refine gst_ok ho hg hR (dstB_spec hN ho) (fun M' ρ' a' w' hR' => ih (L1 ++ L2) _ st' M' ρ' a' w' (by simp at hl ⊢; omega) hpw (fun j => ?_) (by simpa using hsz) (hc.set hi) hrest hR')
      by_cases hji : j = i
      · subst hji
        have hjs : j < listed.size := by rw [hsz]; exact (Array.getElem?_eq_some_iff.1 ho).1
        constructor
        · intro hm; exact absurd hm hni
        · rintro ⟨_, hm⟩; simp [hjs] at hm
      · rw [getD_set_ne true (Ne.symm hji), ← hL j]
        simp [hji]
end
end Go.Proofs.Ytfpfalknddfejaa
