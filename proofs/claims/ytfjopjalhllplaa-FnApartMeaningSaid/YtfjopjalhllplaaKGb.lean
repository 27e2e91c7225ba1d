/- The engine, part 10: regions in whatever order. Over any program. -/
import Derived.Test.YtfjopjalhllplaaKGa
import Derived.Deep.LoopGhost
namespace Go.Proofs.Ytfjopjalhllplaa
open Go.RowKit
set_option linter.unusedVariables false
set_option linter.unusedSimpArgs false

section
variable {P : Program} {BR : Nat → Bool} {ops : Array Oper} {C : Ctx} {M : Imm} {ρ : Plc} {st : St} {a : Act} {w : World}

open Classical in
/-- A row of the call's own is frozen. -/
theorem Rel.freeze (h : Rel C M ρ st a w) {s E sz : Nat} {cs : List AV} (hrow : st.rows s = some (.row E sz cs)) :
  ∃ M', Rel C M' ρ { st with rows := upd st.rows s (some .gone) } a w ∧ ∀ n v, VR M ρ (.own s n) v → VR M' ρ (.sl cs n) v := by
 obtain ⟨x, hx, hX⟩ := h.mr.row s _ hrow rfl
 by_cases hnl : x.nl = true
 ·rcases hX with ⟨_, rfl, _⟩ | ⟨h0, _⟩
  ·refine ⟨M, h.goneRow (by rw [hrow]; simp), fun n v hv => ?_⟩
   obtain ⟨g, cap, ⟨hs, rfl⟩ | ⟨hs, hn0, rfl⟩⟩ := hv.own_inv
   ·rw [hx] at hs; injection hs with hs; subst hs; cases hnl
   ·subst hn0
    exact .plain (.sl [] 0 none 0 0 0 (fun _ => undef) (fun h => by omega) (Nat.le_refl _) (fun i c hc => by simp at hc) (fun i c hc => by simp at hc))
  ·rw [hnl] at h0; cases h0
 have hnl : x.nl = false := by simpa using hnl
 rcases hX with ⟨h0, _⟩ | ⟨_, xs, h1, h2, h3, h4⟩
 ·rw [hnl] at h0; cases h0
 have apt : ∀ o v, M x.g o ≠ some v := fun o v hM => h.mr.apt _ _ _ s _ x hM hrow rfl hx hnl rfl
 have hcell : ∀ i, i < cs.length → w.cell? ⟨x.g, i, none⟩ = some (xs.getD i undef) := fun i hi => by
  have hi' : i < xs.length := by omega
  have := World.ownsRow.cells h1 (g := x.g) rfl i _ (List.getElem?_eq_getElem hi')
  rw [add_off, Nat.zero_add] at this
  simpa [hi'] using this
 let M' : Imm := fun b o => if b = x.g then (if o < cs.length then some (xs.getD o undef) else none) else M b o
 have hle : M.le M' := fun b o v hM => by
  have hb : b ≠ x.g := fun e => by subst e; exact apt _ _ hM
  show (if b = x.g then _ else M b o) = some v
  rw [if_neg hb]; exact hM
 have hR := h.goneRow (k := s) (by rw [hrow]; simp)
 refine ⟨M', ⟨fun t => (hR.tm t).mono hle (Plc.le_refl _), hR.N, hR.df, ⟨fun k q hk hq => ?_, hR.mr.inj, fun b o v hM => ?_, fun b o v k q y hM hk hq hy hn => ?_⟩, hR.chg, hR.new, Imm.le_trans hR.m0 hle, hR.r0, fun b hb hD => ?_, hR.fr⟩, fun n v hv => ?_⟩
 ·obtain ⟨y, hy, hY⟩ := hR.mr.row k q hk hq
  exact ⟨y, hy, hY.mono hle (Plc.le_refl _)⟩
 ·by_cases hb : b = x.g
  ·subst hb
   have hM : (if x.g = x.g then (if o < cs.length then some (xs.getD o undef) else none) else M x.g o) = some v := hM
   rw [if_pos rfl] at hM
   split at hM
   ·rename_i ho
    injection hM with hM; subst hM
    refine ⟨hcell o ho, ?_⟩
    have ho' : o < xs.length := by omega
    have := immOk_row (o := o) h1 (h3 _ (List.getElem_mem ho'))
    simpa [ho'] using this
   ·cases hM
  ·have hM : (if b = x.g then (if o < cs.length then some (xs.getD o undef) else none) else M b o) = some v := hM
   rw [if_neg hb] at hM
   exact h.mr.imm b o v hM
 ·by_cases hb : b = x.g
  ·subst hb
   have hk' : upd st.rows s (some .gone) k = some q := hk
   have hks : k ≠ s := fun e => by subst e; rw [upd_same] at hk'; injection hk' with hk'; subst hk'; cases hq
   rw [upd_ne _ _ hks] at hk'
   exact h.mr.inj k s q _ y x hk' hrow hq rfl hy hx hks hn hnl
  ·have hM : (if b = x.g then (if o < cs.length then some (xs.getD o undef) else none) else M b o) = some v := hM
   rw [if_neg hb] at hM
   exact hR.mr.apt b o v k q y hM hk hq hy hn
 ·have hbx : b ≠ x.g := fun e => by
   subst e
   rcases h.new s _ x hrow rfl hx hnl with h' | h'
   ·exact hD h'
   ·omega
  rw [← h.mold b hb hD]
  funext o
  show (if b = x.g then _ else M b o) = M b o
  rw [if_neg hbx]
 ·obtain ⟨g, cap, ⟨hs, rfl⟩ | ⟨hs, hn0, rfl⟩⟩ := hv.own_inv
  ·rw [hx] at hs; injection hs with hs; subst hs
   have hn : n ≤ cap := by
    rcases h1.2 with ⟨hn, _⟩ | ⟨g', cap', cur, hvv, hb, hg, hcap, _⟩
    ·cases hn
    ·injection hvv with _ _ q3; simp only at hcap q3; omega
   have lt : ∀ (i : Nat) (c : AV), cs[i]? = some c → i < cs.length := fun i c hc => by
    rcases Nat.lt_or_ge i cs.length with h' | h'
    ·exact h'
    ·rw [List.getElem?_eq_none h'] at hc; cases hc
   refine .plain (.sl cs n _ cap g 0 (fun i => xs.getD i undef) (fun _ => rfl) hn (fun i c hc => ?_) (fun i c hc => ?_))
   ·rw [Nat.zero_add]
    show (if g = g then (if i < cs.length then some (xs.getD i undef) else none) else M g i) = _
    rw [if_pos rfl, if_pos (lt i c hc)]
   ·have hi' : i < xs.length := by have := lt i c hc; omega
    have := (h4 i c _ hc (List.getElem?_eq_getElem hi')).mono hle
    simpa [hi'] using this
  ·rw [hx] at hs; injection hs with hs; subst hs; cases hnl
theorem Rel.freezePut {d : Option Tmp} {s n E sz : Nat} {cs : List AV} {rows : Nat → Option Row} (hR : Rel C M ρ (({ st with rows := rows } : St).put d (.own s n)) a w) (hrow : rows s = some (.row E sz cs)) :
  ∃ M', Rel C M' ρ (({ st with rows := upd rows s (some .gone) } : St).put d (.sl cs n)) a w := by
 obtain ⟨M', h1, h2⟩ := hR.freeze (s := s) (by rw [St.put_rows]; exact hrow)
 refine ⟨M', ?_⟩
 cases d with
 | none => exact h1
 | some d =>
  refine { h1 with tm := fun t => ?_ }
  show VR M' ρ (upd st.tmps d (.sl cs n) t) _
  by_cases e : t = d
  ·subst e
   rw [upd_same]
   refine h2 _ _ ?_
   have := hR.tm t
   simp only [St.put, upd_same] at this
   exact this
  ·rw [upd_ne _ _ e]
   have := h1.tm t
   simp only [St.put, upd_ne _ _ e] at this
   exact this

theorem stp_ok {site : Nat} {o : Oper} {st' : St} (h : Stp P BR site o st st') (hR : Rel C M ρ st a w) (hd : ∀ k, o.dst = some k → k < C.N) {K : Act → World → Prop} {Q : Exit → Act → World → Prop}
  (hK : ∀ M' ρ' a' w', Rel C M' ρ' st' a' w' → K a' w') : o.wp P a w K Q := by
 have call : ∀ ι nt, CallStp P site o ι nt st st' → o.wp P a w K Q := by
  rintro ι nt ⟨c, f, avs, lnd, ret, mem', hop, hcal, h1, h2, h3, h4, h5, h6, h7, h8, rfl⟩
  exact call_ok hop hcal hR ι lnd h1 h2 h3 h4 h5 h6 h8 hd hK
 unfold Stp at h
 split at h
 ·obtain ⟨v, h1, rfl⟩ := h
  obtain ⟨u, hu, hU⟩ := pure_ok h1 hR.ev w
  unfold Oper.wp
  rw [hu]
  exact hK _ _ _ _ (hR.put hU hd)
 ·obtain ⟨v, nw, h1, h2, rfl⟩ := h
  obtain ⟨u, M', ρ', w', hu, hU⟩ := mk_ok h1 hR h2 hd
  unfold Oper.wp
  rw [hu]
  refine hK M' ρ' _ _ ?_
  have e : ({ st with rows := addNw st.rows site nw } : St) = st.add site nw.toList := by cases nw <;> rfl
  rw [← e]; exact hU
 ·exact call [] false h
 ·rename_i hc
  obtain ⟨v, rows', h1, rfl⟩ := h
  have : (∃ t x v, o.op = .store t x v) ∨ ∃ c, o.op = .call c := by
   unfold cls at hc
   split at hc <;> first | (simp at hc; done) | skip
   ·exact .inl ⟨_, _, _, by assumption⟩
   ·exact .inr ⟨_, by assumption⟩
  cases hfz : FZ BR site with
  | false =>
   rw [hfz] at h1
   simp only [frzW] at h1
   rcases this with ⟨t, x, v', hop⟩ | ⟨c, hop⟩
   ·obtain ⟨w', hu, hU⟩ := store_ok hop h1 hR hd
    unfold Oper.wp
    rw [hu]
    exact hK _ _ _ _ hU
   ·obtain ⟨z, ρ', w', hu, hU⟩ := append_ok hop h1 hR hd
    unfold Oper.wp
    rw [hu]
    exact hK _ _ _ _ hU
  | true =>
   rw [hfz] at h1
   obtain ⟨s, n, rows, E, sz, cs, h2, h3, rfl, rfl⟩ := frz_inv h1
   rcases this with ⟨t, x, v', hop⟩ | ⟨c, hop⟩
   ·obtain ⟨w', hu, hU⟩ := store_ok hop h2 hR hd
    obtain ⟨M', hV⟩ := hU.freezePut h3
    unfold Oper.wp
    rw [hu]
    exact hK _ _ _ _ hV
   ·obtain ⟨z, ρ', w', hu, hU⟩ := append_ok hop h2 hR hd
    obtain ⟨M', hV⟩ := hU.freezePut h3
    unfold Oper.wp
    rw [hu]
    exact hK _ _ _ _ hV
 ·obtain ⟨ι, nt, h⟩ := h
  exact call ι nt h
 ·obtain ⟨ι, nt, h⟩ := h
  exact call ι nt h
 ·exact h.elim

theorem gst_ok {i site : Nat} {o : Oper} {st' : St} (ho : ops[i]? = some o) (h : Gst P BR ops site o st st') (hR : Rel C M ρ st a w) (hd : ∀ k, o.dst = some k → k < C.N) {K : Act → World → Prop} {Q : Exit → Act → World → Prop}
  (hK : ∀ M' ρ' a' w', Rel C M' ρ' st' a' w' → K a' w') : wpOp P ops Q i K a w := by
 unfold wpOp
 simp only [ho]
 unfold Gst at h
 split at h
 ·rename_i hg
  have hw : Region.wanted o (yielded ops a.tmps) = true := by simp [Region.wanted, hg]
  rw [if_pos hw]
  exact .inl (stp_ok h hR hd hK)
 ·rename_i g want hg
  obtain ⟨t, h1, h3⟩ := h
  have ht := hR.tm t
  have yb : ∀ b, st.tmps t = .bool b → yielded ops a.tmps g = some b := fun b h2 => by
   rw [h2] at ht
   have ht := ht.bool_inv
   unfold yielded
   rw [h1]
   have : a.tmps[t]? = some (.bool b) := by
    cases hq : a.tmps[t]? with
    | none => simp [hq, undef] at ht
    | some q => simp [hq] at ht; rw [ht]
   simp [this]
  rcases h3 with ⟨h3, h4⟩ | ⟨h3, rfl⟩
  ·have hw : Region.wanted o (yielded ops a.tmps) = true := by simp [Region.wanted, hg, yb _ h3]
   rw [if_pos hw]
   exact .inl (stp_ok h4 hR hd hK)
  ·have hw : ¬ Region.wanted o (yielded ops a.tmps) = true := by
    rcases h3 with h3 | ⟨b, h3, hne⟩
    ·have hy : yielded ops a.tmps g = none := by
      rw [h3] at ht
      obtain ⟨vs, hv, hl, _⟩ := ht.tup_inv
      unfold yielded
      rw [h1]
      cases hq : a.tmps[t]? with
      | none => simp [hq]
      | some q => simp [hq] at hv; simp [hq, hv]
     simp [Region.wanted, hg, hy]
    ·simp [Region.wanted, hg, yb _ h3, hne]
   rw [if_neg hw]
   exact hK _ _ _ _ (hR.put (.tup [] #[] rfl (by simp)) hd)

/-- The operations in the list, one after the other. -/
def aSeq (P : Program) (BR : Nat → Bool) (ops : Array Oper) (bs : Nat) : List Nat → St → (St → Prop) → Prop
 | [], st, K => K st
 | i :: L, st, K => ∃ o st', ops[i]? = some o ∧ Gst P BR ops (bs + 16 * i) o st st' ∧ aSeq P BR ops bs L st' K
def dstB (N : Nat) (ops : Array Oper) : Bool := ops.toList.all fun o => match o.dst with | some d => decide (d < N) | none => true
theorem dstB_spec {N : Nat} (h : dstB N ops = true) {i : Nat} {o : Oper} (ho : ops[i]? = some o) : ∀ k, o.dst = some k → k < N := by
 intro k hk
 have hm : o ∈ ops.toList := by simpa using Array.mem_of_getElem? ho
 have := List.all_eq_true.1 h o hm
 simpa [hk] using this

theorem aSeq_ops (hN : dstB C.N ops = true) {Q : Exit → Act → World → Prop} {K : St → Prop} (hK : ∀ st' M' ρ' a' w', K st' → Rel C M' ρ' st' a' w' → Q .normal a' w') :
  ∀ (L : List Nat) (bs : Nat) (st : St) (M : Imm) (ρ : Plc) (a : Act) (w : World), aSeq P BR ops bs L st K → Rel C M ρ st a w → wpOps P ops Q L a w
 | [], bs, st, M, ρ, a, w, h, hR => hK _ _ _ _ _ h hR
 | i :: L, bs, st, M, ρ, a, w, h, hR => by
  obtain ⟨o, st', ho, hg, h⟩ := h
  rw [wpOps_cons]
  exact gst_ok ho hg hR (dstB_spec hN ho) (fun M' ρ' a' w' hR' => aSeq_ops hN hK L bs st' M' ρ' a' w' h hR')

def depsOf' (ops : Array Oper) (i : Nat) : List Nat := match ops[i]? with
 | some o => (o.after.toList.filter (Region.binds .any)).map (·.on)
 | none => []
def ancGo' (ops : Array Oper) : Nat → List Nat → List Nat
 | 0, acc => acc
 | k + 1, acc => if acc.contains k then ancGo' ops k (depsOf' ops k ++ acc) else ancGo' ops k acc
def Closed' (ops : Array Oper) (listed : Array Bool) : Prop := ∀ j, listed.getD j false = true → ∀ k ∈ depsOf' ops j, listed.getD k false = true
theorem ancGo'_listed {listed : Array Bool} (hc : Closed' ops listed) : ∀ (k : Nat) (acc : List Nat), (∀ x ∈ acc, listed.getD x false = true) → ∀ x ∈ ancGo' ops k acc, listed.getD x false = true
 | 0, acc, h => h
 | k + 1, acc, h => by
  unfold ancGo'
  split
  ·rename_i hk
   refine ancGo'_listed hc k _ fun x hx => ?_
   rcases List.mem_append.1 hx with hx | hx
   ·exact hc k (h k (by simpa using hk)) x hx
   ·exact h x hx
  ·exact ancGo'_listed hc k acc h
theorem ready_deps' {listed : Array Bool} {i : Nat} (hr : i ∈ Region.ready .any ops listed) : ∀ k ∈ depsOf' ops i, listed.getD k false = true := by
 obtain ⟨_, o, ho, hall⟩ := mem_ready.1 hr
 intro k hk
 simp only [depsOf', ho, List.mem_map, List.mem_filter] at hk
 obtain ⟨e, ⟨he, hb⟩, rfl⟩ := hk
 exact hall e (by simpa using he) hb
theorem Closed'.set {listed : Array Bool} (hc : Closed' ops listed) {i : Nat} (hr : i ∈ Region.ready .any ops listed) : Closed' ops (listed.setIfInBounds i true) := by
 intro j hj k hk
 by_cases hij : j = i
 ·subst hij; exact getD_set_true (ready_deps' hr k hk)
 ·rw [getD_set_ne false (Ne.symm hij)] at hj
  exact getD_set_true (hc j hj k hk)
/-- Whatever is not ordered may change places; the text's order is one of the orders. -/
def regB (BR : Nat → Bool) (ops : Array Oper) : Bool :=
 (List.range ops.size).all fun i => match ops[i]? with
  | some o => (depsOf' ops i).all (fun k => decide (k < i)) && (let an := ancGo' ops i (depsOf' ops i); (List.range i).all fun k => an.contains k || match ops[k]? with | some x => indepB BR ops o x | none => false)
  | none => false
structure ROK (BR : Nat → Bool) (ops : Array Oper) : Prop where
 deps : ∀ i, i < ops.size → ∀ k ∈ depsOf' ops i, k < i
 ind : ∀ i k o x, k < i → ops[i]? = some o → ops[k]? = some x → k ∈ ancGo' ops i (depsOf' ops i) ∨ indepB BR ops o x = true
theorem ROK.of (h : regB BR ops = true) : ROK BR ops := by
 unfold regB at h
 refine ⟨fun i hi k hk => ?_, fun i k o x hki ho hx => ?_⟩
 ·have := List.all_eq_true.1 h i (List.mem_range.2 hi)
  rw [Array.getElem?_eq_getElem hi] at this
  simp only [Bool.and_eq_true] at this
  simpa using List.all_eq_true.1 this.1 k hk
 ·have hi : i < ops.size := (Array.getElem?_eq_some_iff.1 ho).1
  have := List.all_eq_true.1 h i (List.mem_range.2 hi)
  rw [ho] at this
  simp only [Bool.and_eq_true] at this
  have := List.all_eq_true.1 this.2 k (List.mem_range.2 hki)
  rw [hx] at this
  simpa using this

theorem rel_live (hR : Rel C M ρ st a w) (t s : Nat) (h : refs (st.tmps t) s) : st.rows s ≠ none := by
 intro hn
 have hρ := hR.fr s hn
 have hv := hR.tm t
 have one : ∀ {c : AV} {v : Value}, VR M ρ c v → ref1 c s → False := by
  intro c v hv hr
  cases c <;> simp only [ref1] at hr
  case own s' n =>
   subst hr
   obtain ⟨g, cap, ⟨h1, _⟩ | ⟨h1, _⟩⟩ := hv.own_inv
   ·rw [hρ] at h1; cases h1
   ·rw [hρ] at h1; cases h1
  case ptr s' n =>
   subst hr
   obtain ⟨x, h1, _⟩ := hv.ptr_inv
   rw [hρ] at h1; cases h1
 by_cases hag : ∃ cs, st.tmps t = .agg cs
 ·obtain ⟨cs, e⟩ := hag
  rw [e] at h hv
  obtain ⟨c, hc, hr⟩ := h
  obtain ⟨vs, _, hl, _, h2⟩ := hv.agg_inv
  obtain ⟨i, hi, rfl⟩ := List.mem_iff_getElem.1 hc
  exact one (h2 i _ _ (List.getElem?_eq_getElem hi) (Array.getElem?_eq_getElem (by omega))) hr
 ·have e : refs (st.tmps t) s = ref1 (st.tmps t) s := by
   cases hq : st.tmps t <;> first | rfl | exact absurd ⟨_, hq⟩ hag
  rw [e] at h
  exact one hv h

theorem gst_keep {site : Nat} {o : Oper} {st' : St} (h : Gst P BR ops site o st st') : ∀ s, st.rows s ≠ none → st'.rows s ≠ none := by
 have aft : ∀ (ι : List Nat) (mem' : List Row) (s : Nat), ι.Nodup → ι.length ≤ mem'.length → st.rows s ≠ none → rowsAfter ι site st.rows mem' s ≠ none := by
  intro ι mem' s hnd hle hs
  unfold rowsAfter
  rw [addRows_get]
  split
  ·rename_i hc
   simp only [List.length_map, List.length_drop] at hc
   rw [List.getElem?_map, List.getElem?_drop, List.getElem?_eq_getElem (by omega)]
   simp
  ·by_cases hsι : s ∈ ι
   ·obtain ⟨j, hj, hjs⟩ := List.mem_iff_getElem.1 hsι
    have e : ι[j]? = some s := by rw [List.getElem?_eq_getElem hj, hjs]
    rw [setRowsI_in _ _ _ j s hnd e (by simp; omega), List.getElem?_map, List.getElem?_take, if_pos hj, List.getElem?_eq_getElem (by omega)]
    simp
   ·rw [setRowsI_out _ _ _ _ hsι]; exact hs
 have stp : Stp P BR site o st st' → ∀ s, st.rows s ≠ none → st'.rows s ≠ none := by
  intro h s hs
  unfold Stp at h
  split at h
  ·obtain ⟨v, h1, rfl⟩ := h
   rw [St.put_rows]; exact hs
  ·obtain ⟨v, nw, h1, h2, rfl⟩ := h
   rw [St.put_rows]
   simp only [St.add, addRows_get]
   split
   ·rename_i hc; rw [List.getElem?_eq_getElem (by omega)]; simp
   ·exact hs
  ·obtain ⟨c, f, avs, lnd, ret, mem', hop, hcal, h1, h2, h3, h4, h5, h6, h7, h8, rfl⟩ := h
   rw [St.put_rows]
   exact aft [] mem' s h2 h5 hs
  ·obtain ⟨v, rows', h1, rfl⟩ := h
   rw [St.put_rows]
   show rows' s ≠ none
   have u : ∀ (f : Nat → Option Row) (k : Nat) (r : Row) (s : Nat), f s ≠ none → upd f k (some r) s ≠ none := fun f k r s hf => by
    unfold upd; split
    ·simp
    ·exact hf
   have h1 : ∃ v rows2, aWr P site st.ev st.rows o.op = some (v, rows2) ∧ (rows2 s ≠ none → rows' s ≠ none) := by
    cases hfz : FZ BR site with
    | false => rw [hfz] at h1; exact ⟨_, _, h1, id⟩
    | true =>
     rw [hfz] at h1
     obtain ⟨s', n, rows, E, sz, cs, h2, h3, rfl, rfl⟩ := frz_inv h1
     exact ⟨_, _, h2, u _ _ _ _⟩
   obtain ⟨v2, rows2, h1, h2⟩ := h1
   refine h2 ?_
   clear h2
   unfold aWr at h1
   split at h1
   ·repeat' split at h1
    all_goals first | (cases h1; done) | skip
    all_goals
     simp only [Option.some.injEq, Prod.mk.injEq] at h1
     rw [← h1.2]
     exact u _ _ _ _ hs
   ·repeat' split at h1
    all_goals first | (cases h1; done) | skip
    all_goals first
     | (obtain ⟨_, _, _, _, _, _, _, _, _, _, _, _, _, e⟩ := tabApp_inv h1
        rw [e]
        exact u _ _ _ _ (u _ _ _ _ hs))
     | (simp only [Option.some.injEq, Prod.mk.injEq] at h1
        rw [← h1.2]
        first | exact hs | exact u _ _ _ _ hs | exact u _ _ _ _ (u _ _ _ _ hs))
   ·cases h1
  ·obtain ⟨ι, nt, c, f, avs, lnd, ret, mem', hop, hcal, h1, h2, h3, h4, h5, h6, h7, h8, rfl⟩ := h
   rw [St.put_rows]
   exact aft ι mem' s h2 h5 hs
  ·obtain ⟨ι, nt, c, f, avs, lnd, ret, mem', hop, hcal, h1, h2, h3, h4, h5, h6, h7, h8, rfl⟩ := h
   rw [St.put_rows]
   exact aft ι mem' s h2 h5 hs
  ·exact h.elim
 unfold Gst at h
 split at h
 ·exact stp h
 ·obtain ⟨t, h1, h3⟩ := h
  rcases h3 with ⟨h3, h4⟩ | ⟨h3, rfl⟩
  ·exact stp h4
  ·intro s hs; rw [St.put_rows]; exact hs
theorem gst_tmps {site : Nat} {o : Oper} {st' : St} (h : Gst P BR ops site o st st') (t : Nat) (ht : o.dst ≠ some t) : st'.tmps t = st.tmps t := by
 obtain ⟨v, rows', rfl, _⟩ := h.congr (st2 := st) (fun _ _ => rfl) rfl
 rw [St.put_tmps_ne _ _ _ _ ht]
/-- An operation that waits for none of those before it may come first. -/
theorem aSeq_front {bs : Nat} {K : St → Prop} {i : Nat} {o : Oper} (ho : ops[i]? = some o) : ∀ (L1 L2 : List Nat) (st : St), (∀ k ∈ L1, k ≠ i ∧ ∀ x, ops[k]? = some x → indepB BR ops o x = true) →
  (∀ t ∈ o.looksAt ops, ∀ s, refs (st.tmps t) s → st.rows s ≠ none) → aSeq P BR ops bs (L1 ++ i :: L2) st K → aSeq P BR ops bs (i :: (L1 ++ L2)) st K
 | [], L2, st, _, _, h => h
 | k :: L1, L2, st, hL, hlive, h => by
  obtain ⟨x, s1, hx, hg, h⟩ := h
  obtain ⟨hki, hind⟩ := hL k (by simp)
  have hi := hind x hx
  have ha : o.apart ops x = true := by unfold indepB at hi; rw [Bool.and_eq_true] at hi; exact hi.1
  obtain ⟨a1, a2, a3⟩ := Oper.apart_spec ha
  have ih := aSeq_front ho L1 L2 s1 (fun k' hk' => hL k' (by simp [hk'])) (fun t ht s hr => by
    rw [gst_tmps hg t (fun e => a3 t e ht)] at hr
    exact gst_keep hg s (hlive t ht s hr)) h
  obtain ⟨o', s2, ho', hg2, h2⟩ := ih
  rw [ho] at ho'; injection ho' with ho'; subst ho'
  obtain ⟨s1', e1, e2⟩ := swap hg hg2 hi (by omega) hlive
  exact ⟨o, s1', ho, e1, x, s2, hx, e2, h2⟩

theorem aSeq_any (hN : dstB C.N ops = true) (hOK : ROK BR ops) {Q : Exit → Act → World → Prop} {K : St → Prop} (hK : ∀ st' M' ρ' a' w', K st' → Rel C M' ρ' st' a' w' → Q .normal a' w') (bs : Nat) :
  ∀ (n : Nat) (L : List Nat) (listed : Array Bool) (st : St) (M : Imm) (ρ : Plc) (a : Act) (w : World), L.length = n → L.Pairwise (· < ·) → (∀ i, i ∈ L ↔ i < ops.size ∧ listed.getD i true = false) → listed.size = ops.size → Closed' ops listed →
   aSeq P BR ops bs L st K → Rel C M ρ st a w → wpAny P .any ops Q n listed a w := by
 intro n
 induction n with
 | zero =>
  intro L listed st M ρ a w hl hp hL hsz hc h hR
  have : L = [] := List.eq_nil_of_length_eq_zero hl
  subst this
  refine ⟨?_, hK _ _ _ _ _ h hR⟩
  cases hq : Region.ready .any ops listed with
  | nil => rfl
  | cons i r =>
   exfalso
   have hr : i ∈ Region.ready .any ops listed := by rw [hq]; simp
   obtain ⟨h1, o, ho, _⟩ := mem_ready.1 hr
   have := (hL i).2 ⟨(Array.getElem?_eq_some_iff.1 ho).1, h1⟩
   simp at this
 | succ n ih =>
  intro L listed st M ρ a w hl hp hL hsz hc h hR
  have lof : ∀ k, k < ops.size → k ∉ L → listed.getD k false = true := fun k hk hn => by
   have hk' : k < listed.size := by omega
   cases hq : listed[k] with
   | true => simp [hk', hq]
   | false =>
    exfalso
    exact hn ((hL k).2 ⟨hk, by simp [hk', hq]⟩)
  refine ⟨fun h0 => ?_, fun i hi => ?_⟩
  ·exfalso
   cases L with
   | nil => simp at hl
   | cons i L =>
    have hiL := (hL i).1 (by simp)
    have ho : ops[i]? = some ops[i] := Array.getElem?_eq_getElem hiL.1
    have hr : i ∈ Region.ready .any ops listed := mem_ready.2 ⟨hiL.2, _, ho, fun e he hb => by
      have hk : e.on ∈ depsOf' ops i := by
        simp only [depsOf', ho, List.mem_map, List.mem_filter]
        exact ⟨e, ⟨by simpa using he, hb⟩, rfl⟩
      have hlt := hOK.deps i hiL.1 _ hk
      refine lof _ (by omega) (fun hm => ?_)
      rcases List.mem_cons.1 hm with hm | hm
      · omega
      · have := (List.pairwise_cons.1 hp).1 _ hm
        omega⟩
    rw [h0] at hr; cases hr
  ·obtain ⟨h1, o, ho, _⟩ := mem_ready.1 hi
   have hiL : i ∈ L := (hL i).2 ⟨(Array.getElem?_eq_some_iff.1 ho).1, h1⟩
   obtain ⟨L1, L2, rfl⟩ := List.append_of_mem hiL
   have hlt1 : ∀ k ∈ L1, k < i := fun k hk => (List.pairwise_append.1 hp).2.2 k hk i (by simp)
   have hunl : ∀ k ∈ L1, listed.getD k false = true → False := fun k hk ht => by
    have := ((hL k).1 (by simp [hk])).2
    have hk' : k < listed.size := by have := ((hL k).1 (by simp [hk])).1; omega
    simp [hk'] at this ht
    rw [this] at ht; cases ht
   have hf := aSeq_front ho L1 L2 st (fun k hk => ⟨by have := hlt1 k hk; omega, fun x hx => by
     rcases hOK.ind i k o x (hlt1 k hk) ho hx with h' | h'
     · exact (hunl k hk (ancGo'_listed hc i _ (ready_deps' hi) k h')).elim
     · exact h'⟩) (fun t ht s hr => rel_live hR t s hr) h
   obtain ⟨o', st', ho', hg, hrest⟩ := hf
   rw [ho] at ho'; injection ho' with ho'; subst ho'
   have hpw : (L1 ++ L2).Pairwise (· < ·) := by
    rw [List.pairwise_append] at hp ⊢
    exact ⟨hp.1, (List.pairwise_cons.1 hp.2.1).2, fun x hx y hy => hp.2.2 x hx y (by simp [hy])⟩
   have hni : i ∉ L1 ++ L2 := by
    intro hm
    rcases List.mem_append.1 hm with hm | hm
    ·have := hlt1 i hm; omega
    ·have := (List.pairwise_cons.1 (List.pairwise_append.1 hp).2.1).1 i hm; omega
   refine gst_ok ho hg hR (dstB_spec hN ho) (fun M' ρ' a' w' hR' => ih (L1 ++ L2) _ st' M' ρ' a' w' (by simp at hl ⊢; omega) hpw (fun j => ?_) (by simpa using hsz) (hc.set hi) hrest hR')
   by_cases hji : j = i
   ·subst hji
    have hjs : j < listed.size := by rw [hsz]; exact (Array.getElem?_eq_some_iff.1 ho).1
    constructor
    ·intro hm; exact absurd hm hni
    ·rintro ⟨_, hm⟩; simp [hjs] at hm
   ·rw [getD_set_ne true (Ne.symm hji), ← hL j]
    simp [hji]
end
end Go.Proofs.Ytfjopjalhllplaa
/- The engine, part 11: code and functions. Over any program. -/
namespace Go.Proofs.Ytfjopjalhllplaa
open Go.RowKit
set_option linter.unusedVariables false
set_option linter.unusedSimpArgs false

/-- The code, begun in a state that reads as st, ends so that Q. -/
def AW (P : Program) (C : Ctx) (c : Code) (st : St) (Q : Exit → St → Prop) : Prop :=
 ∀ M ρ a w, Rel C M ρ st a w → c.wp P (fun e a' w' => ∃ st' M' ρ', Q e st' ∧ Rel C M' ρ' st' a' w') a w
def thenA (k : St → Prop) (Q : Exit → St → Prop) : Exit → St → Prop
 | .normal, st => k st
 | e, st => Q e st
def blockA (id : Nat) (Q : Exit → St → Prop) : Exit → St → Prop
 | .exit i, st => if i = id then Q .normal st else Q (.exit i) st
 | e, st => Q e st
def Le (C : Ctx) (st S : St) : Prop := ∀ M ρ a w, Rel C M ρ st a w → ∃ M' ρ', Rel C M' ρ' S a w

section
variable {P : Program} {BR : Nat → Bool} {C : Ctx} {st : St} {Q : Exit → St → Prop}
theorem AW_mono {c : Code} {Q' : Exit → St → Prop} (h : AW P C c st Q) (hq : ∀ e s, Q e s → Q' e s) : AW P C c st Q' :=
 fun M ρ a w hR => Code.wp_mono (fun _ _ _ ⟨st', M', ρ', h1, h2⟩ => ⟨st', M', ρ', hq _ _ h1, h2⟩) (h M ρ a w hR)
theorem AW_skip (h : Q .normal st) : AW P C .skip st Q := fun M ρ a w hR => wp_skip ⟨st, M, ρ, h, hR⟩
theorem AW_exit {id : Nat} (h : Q (.exit id) st) : AW P C (.exit id) st Q := fun M ρ a w hR => wp_exit ⟨st, M, ρ, h, hR⟩
theorem AW_ret (h : Q .ret st) : AW P C .ret st Q := fun M ρ a w hR => wp_ret ⟨st, M, ρ, h, hR⟩
theorem AW_seq {x y : Code} (h : AW P C x st (thenA (fun st' => AW P C y st' Q) Q)) : AW P C (.seq x y) st Q := fun M ρ a w hR =>
 wp_seq (Code.wp_mono (fun e a' w' ⟨st', M', ρ', h1, h2⟩ => by
   cases e with
   | normal => exact h1 M' ρ' a' w' h2
   | _ => exact ⟨st', M', ρ', h1, h2⟩) (h M ρ a w hR))
theorem AW_block {id : Nat} {c : Code} (h : AW P C c st (blockA id Q)) : AW P C (.block id c) st Q := fun M ρ a w hR =>
 wp_block (Code.wp_mono (fun e a' w' ⟨st', M', ρ', h1, h2⟩ => by
   cases e with
   | exit i =>
     simp only [Exit.inBlock]
     simp only [blockA] at h1
     split
     · rename_i e; rw [if_pos e] at h1; exact ⟨st', M', ρ', h1, h2⟩
     · rename_i e; rw [if_neg e] at h1; exact ⟨st', M', ρ', h1, h2⟩
   | _ => exact ⟨st', M', ρ', h1, h2⟩) (h M ρ a w hR))
theorem AW_cond {c : Operand} {x y : Code} {b : Bool} (hc : st.ev c = .bool b) (ht : b = true → AW P C x st Q) (hf : b = false → AW P C y st Q) : AW P C (.cond c x y) st Q := fun M ρ a w hR => by
 have e := hR.ev c
 rw [hc] at e
 exact wp_cond_split e.bool_inv (fun h => ht h M ρ a w hR) (fun h => hf h M ρ a w hR)
theorem AW_le {c : Code} {S : St} (hl : Le C st S) (h : AW P C c S Q) : AW P C c st Q := fun M ρ a w hR => by
 obtain ⟨M', ρ', hR'⟩ := hl M ρ a w hR
 exact h M' ρ' a w hR'
theorem Le.refl : Le C st st := fun M ρ a w h => ⟨M, ρ, h⟩
theorem Le.trans {S T : St} (h : Le C st S) (k : Le C S T) : Le C st T := fun M ρ a w hR => by
 obtain ⟨M', ρ', h'⟩ := h M ρ a w hR
 exact k M' ρ' a w h'
theorem AW_loop {c : Code} (I : Nat → St → Prop) (h0 : ∃ n S, I n S ∧ Le C st S) (hr : ∀ n S, I n S → AW P C c S (thenA (fun st' => ∃ m S', m < n ∧ I m S' ∧ Le C st' S') Q)) : AW P C (.loop c) st Q := fun M ρ a w hR => by
 obtain ⟨n0, S0, hI, hL⟩ := h0
 obtain ⟨M', ρ', hR'⟩ := hL M ρ a w hR
 refine wp_loop_ghost (fun n a w => ∃ S M ρ, I n S ∧ Rel C M ρ S a w) n0 ⟨S0, M', ρ', hI, hR'⟩ ?_
 rintro n a w ⟨S, M, ρ, hI, hR⟩
 refine Code.wp_mono (fun e a' w' ⟨st', M', ρ', h1, h2⟩ => ?_) (hr n S hI M ρ a w hR)
 cases e with
 | normal =>
  obtain ⟨m, S', hm, hI', hL'⟩ := h1
  obtain ⟨M'', ρ'', hR''⟩ := hL' M' ρ' a' w' h2
  exact ⟨m, hm, S', M'', ρ'', hI', hR''⟩
 | _ => exact ⟨st', M', ρ', h1, h2⟩
def St.next (st : St) (n : Nat) : St := { st with bs := st.bs + 16 * n }
theorem Rel.next {M : Imm} {ρ : Plc} {a : Act} {w : World} (h : Rel C M ρ st a w) (b : Nat) : Rel C M ρ { st with bs := b } a w := ⟨h.tm, h.N, h.df, h.mr, h.chg, h.new, h.m0, h.r0, h.mold, h.fr⟩
theorem AW_region {id : Nat} {ops : Array Oper} {draw : Bool} (hm : draw = true → P.follows .mixedOrders = true) (hN : dstB C.N ops = true) (hB : draw = true → regB BR ops = true)
  (h : aSeq P BR ops st.bs (List.range ops.size) st (fun st' => Q .normal { st' with bs := st.bs + 16 * ops.size })) : AW P C (.region id ops draw) st Q := fun M ρ a w hR => by
 have hK : ∀ st' M' ρ' a' w', Q .normal { st' with bs := st.bs + 16 * ops.size } → Rel C M' ρ' st' a' w' → ∃ st' M' ρ', Q .normal st' ∧ Rel C M' ρ' st' a' w' := fun st' M' ρ' a' w' h1 h2 => ⟨_, M', ρ', h1, h2.next _⟩
 cases draw with
 | false => exact wp_region (aSeq_ops hN (Q := fun e a' w' => ∃ st' M' ρ', Q e st' ∧ Rel C M' ρ' st' a' w') hK _ _ _ _ _ _ _ h hR)
 | true =>
  refine wp_region_any (hm rfl) ?_
  refine aSeq_any hN (ROK.of (hB rfl)) (Q := fun e a' w' => ∃ st' M' ρ', Q e st' ∧ Rel C M' ρ' st' a' w') hK st.bs ops.size (List.range ops.size) _ st M ρ a _ (by simp) List.pairwise_lt_range (fun i => ?_) (by simp) (fun j hj => ?_) h hR.drew
  ·constructor
   ·intro hi
    have := List.mem_range.1 hi
    exact ⟨this, by simp [this]⟩
   ·rintro ⟨hi, _⟩; exact List.mem_range.2 hi
  ·rw [getD_replicate_false] at hj; cases hj

theorem load_rel {M : Imm} {ρ : Plc} {a : Act} {w : World} (hR : Rel C M ρ st a w) {t : TypeId} {sz : Nat} {ag : Bool} (ht : szA P t = some (sz, ag)) {x : Operand} {v : AV} (hl : loadA ag sz st.rows (st.ev x) = some v) :
  ∃ u, (Instr.loadAt t (a.eval x)).run P w = .ok u w ∧ VR M ρ v u := by
 have ex := hR.ev x
 unfold loadA at hl
 split at hl
 ·rename_i s off hx
  rw [hx] at ex
  obtain ⟨y, hy, hyn, ex⟩ := ex.ptr_inv
  rw [ex]
  split at hl
  ·rename_i T cs hrow
   obtain ⟨y', hy', hrow'⟩ := hR.mr.row s _ hrow rfl
   rw [hy] at hy'; injection hy' with hy'; subst hy'
   obtain ⟨h0, arr, h1, h2, h3, h4⟩ := hrow'
   refine load_ok ht hl y.g off (fun i => arr.getD (off + i) undef) (fun i c hc => ?_)
   rw [List.getElem?_drop] at hc
   have hlt : off + i < arr.size := by
    rw [← h2]
    rcases Nat.lt_or_ge (off + i) cs.length with h' | h'
    ·exact h'
    ·rw [List.getElem?_eq_none h'] at hc; cases hc
   have e : arr.getD (off + i) undef = arr[off + i] := by simp [hlt]
   rw [e]
   exact ⟨by rw [cell_of_row w y.g (off + i) arr T (0, 0) h1]; simp [hlt], h3 _ (Array.getElem_mem hlt), h4 _ c _ hc (Array.getElem?_eq_getElem hlt)⟩
  ·rename_i E z cs hrow
   obtain ⟨y', hy', hrow'⟩ := hR.mr.row s _ hrow rfl
   rw [hy] at hy'; injection hy' with hy'; subst hy'
   rcases hrow' with ⟨hn1, _⟩ | ⟨h0, xs, h1, h2, h3, h4⟩
   ·rw [hyn] at hn1; cases hn1
   refine load_ok ht hl y.g off (fun i => xs.getD (off + i) undef) (fun i c hc => ?_)
   rw [List.getElem?_drop] at hc
   have hlt : off + i < xs.length := by
    rw [← h2]
    rcases Nat.lt_or_ge (off + i) cs.length with h' | h'
    ·exact h'
    ·rw [List.getElem?_eq_none h'] at hc; cases hc
   have e : xs.getD (off + i) undef = xs[off + i] := by simp [hlt]
   rw [e]
   refine ⟨?_, h3 _ (List.getElem_mem hlt), .plain (h4 _ c _ hc (List.getElem?_eq_getElem hlt))⟩
   have := World.ownsRow.cells h1 (g := y.g) rfl (off + i) _ (List.getElem?_eq_getElem hlt)
   rwa [add_off, Nat.zero_add] at this
  ·rename_i E z cs hrow
   obtain ⟨y', hy', hrow'⟩ := hR.mr.row s _ hrow rfl
   rw [hy] at hy'; injection hy' with hy'; subst hy'
   rcases hrow' with ⟨hn1, _⟩ | ⟨h0, xs, h1, h2, h3, h4⟩
   ·rw [hyn] at hn1; cases hn1
   refine load_ok ht hl y.g off (fun i => xs.getD (off + i) undef) (fun i c hc => ?_)
   rw [List.getElem?_drop] at hc
   have hlt : off + i < xs.length := by
    rw [← h2]
    rcases Nat.lt_or_ge (off + i) cs.length with h' | h'
    ·exact h'
    ·rw [List.getElem?_eq_none h'] at hc; cases hc
   have e : xs.getD (off + i) undef = xs[off + i] := by simp [hlt]
   rw [e]
   refine ⟨?_, h3 _ (List.getElem_mem hlt), h4 _ c _ hc (List.getElem?_eq_getElem hlt)⟩
   have := World.ownsRow.cells h1 (g := y.g) rfl (off + i) _ (List.getElem?_eq_getElem hlt)
   rwa [add_off, Nat.zero_add] at this
  ·cases hl
 ·rename_i cs hx
  rw [hx] at ex
  have ex := ex.eptr_inv
  generalize a.eval x = q at ex
  cases ex with
  | eptr _ b off f hm hh =>
   refine load_ok ht hl b off f (fun i c hc => ?_)
   have := hR.mr.imm _ _ _ (hm i c hc)
   exact ⟨this.1, this.2.1, .plain (hh i c hc)⟩
 ·cases hl

/-- What the result variables hold. -/
def resA (P : Program) (st : St) : List ResultVar → Option (List AV)
 | [] => some []
 | .tmp t :: l => match resA P st l with
  | some r => some (st.tmps t :: r)
  | none => none
 | .cell t T :: l => match szA P T with
  | some (sz, ag) => match st.tmps t with
   | .ptr s off => match loadA ag sz st.rows (.ptr s off), resA P st l with
    | some v, some r => some (v :: r)
    | _, _ => none
   | _ => none
  | none => none
def one3 : List AV → AV
 | [v] => v
 | vs => .tup vs
def pass3 (ids : List Nat) : AV → AV
 | .tup vs => .tup (vs.map (pass2 ids fun _ => none))
 | a => pass2 ids (fun _ => none) a
def EndA (P : Program) (fn : Func) (k : Nat) (ret : AV) (mem' : List Row) (st : St) : Prop :=
 ∃ (rs : List AV) (ids : List Nat), resA P st fn.results.toList = some rs ∧ ids.Nodup ∧ (∀ j, j < k → ids[j]? = some j) ∧ ret = pass3 ids (one3 rs) ∧ mem' = ids.map (passRow ids (fun _ => none) st.rows)

def resM (tmps : Array Value) : ResultVar → Sem Value
 | .tmp t => pure (tmps.getD t undef)
 | .cell x t => do loadVar t (← asAddr (tmps.getD x undef))
theorem res_ok {M : Imm} {ρ : Plc} {a : Act} {w : World} (hR : Rel C M ρ st a w) : ∀ (l : List ResultVar) (rs : List AV), resA P st l = some rs →
  ∃ vs : List Value, (l.mapM (resM a.tmps)).run P w = .ok vs w ∧ rs.length = vs.length ∧ ∀ (i : Nat) (c : AV) (v : Value), rs[i]? = some c → vs[i]? = some v → VR M ρ c v
 | [], rs, h => by
  simp only [resA, Option.some.injEq] at h
  subst h
  exact ⟨[], rfl, rfl, by simp⟩
 | .tmp t :: l, rs, h => by
  simp only [resA] at h
  split at h
  ·rename_i r hr
   injection h with h; subst h
   obtain ⟨vs, h1, h2, h3⟩ := res_ok hR l r hr
   refine ⟨a.tmps.getD t undef :: vs, ?_, by simp [h2], fun i c v hc hv => ?_⟩
   ·rw [List.mapM_cons]
    simp only [Sem.run_bind, resM, Sem.run_pure, Result.andThen_ok, h1]
   ·cases i with
    | zero => simp only [List.getElem?_cons_zero, Option.some.injEq] at hc hv; subst hc hv; exact hR.tm t
    | succ i => exact h3 i c v (by simpa using hc) (by simpa using hv)
  ·cases h
 | .cell t T :: l, rs, h => by
  simp only [resA] at h
  split at h
  ·rename_i sz ag ht
   split at h
   ·rename_i s off hp
    split at h
    ·rename_i v r hv hr
     injection h with h; subst h
     obtain ⟨vs, h1, h2, h3⟩ := res_ok hR l r hr
     obtain ⟨u, hu, hU⟩ := load_rel hR ht (x := .tmp t) (v := v) (by simp only [St.ev, hp]; exact hv)
     have ep := hR.tm t
     rw [hp] at ep
     obtain ⟨y, hy, hyn, ep⟩ := ep.ptr_inv
     have hu' : (do loadVar T (← asAddr (a.tmps.getD t undef)) : Sem Value).run P w = .ok u w := by
      rw [ep]
      have : a.eval (.tmp t) = .pointer (some ⟨y.g, off, none⟩) := ep
      rw [this] at hu
      simpa [Instr.loadAt, Instr.sureAddr, asAddr] using hu
     refine ⟨u :: vs, ?_, by simp [h2], fun i c v hc hv => ?_⟩
     ·rw [List.mapM_cons]
      have hu2 : (resM a.tmps (.cell t T)).run P w = .ok u w := hu'
      simp only [Sem.run_bind, hu2, Sem.run_pure, Result.andThen_ok, h1]
     ·cases i with
      | zero => simp only [List.getElem?_cons_zero, Option.some.injEq] at hc hv; subst hc hv; exact hU
      | succ i => exact h3 i c v (by simpa using hc) (by simpa using hv)
    ·cases h
   ·cases h
  ·cases h

section
variable {M : Imm} {ρ : Plc} {ids : List Nat}
def subP (ids : List Nat) (ρ : Plc) : Plc := fun j => match ids[j]? with | some s => ρ s | none => none
theorem VR.ps1 {a : AV} {v : Value} (h : VR M ρ a v) : VR M (subP ids ρ) (pass1 ids (fun _ => none) a) v := by
 cases h with
 | plain h => cases h <;> first | exact .plain (.top _) | exact .plain (by constructor <;> assumption)
 | own s g n cap h =>
  simp only [pass1]
  split
  ·rename_i j hj
   exact .own j g n cap (by simp only [subP, findI_some hj]; exact h)
  ·exact .plain (.top _)
 | ownl s g cap h =>
  simp only [pass1]
  split
  ·rename_i j hj
   exact .ownl j g cap (by simp only [subP, findI_some hj]; exact h)
  ·exact .plain (.top _)
 | ptr s off x h hx =>
  simp only [pass1]
  split
  ·rename_i j hj
   exact .ptr j off x (by simp only [subP, findI_some hj]; exact h) hx
  ·exact .plain (.top _)
 | agg => exact .plain (.top _)
 | tup => exact .plain (.top _)
 | fn => exact .plain (.top _)
theorem VR.ps2 {a : AV} {v : Value} (h : VR M ρ a v) : VR M (subP ids ρ) (pass2 ids (fun _ => none) a) v := by
 by_cases hag : ∃ cs, a = .agg cs
 ·obtain ⟨cs, rfl⟩ := hag
  obtain ⟨vs, rfl, hl, h1, h2⟩ := h.agg_inv
  refine .agg _ _ (by simpa using hl) h1 (fun i c u hc hu => ?_)
  rw [List.getElem?_map] at hc
  cases hq : cs[i]? with
  | none => rw [hq] at hc; cases hc
  | some q =>
   rw [hq] at hc; injection hc with hc; subst hc
   exact (h2 i q u hq hu).ps1
 ·have e : pass2 ids (fun _ => none) a = pass1 ids (fun _ => none) a := by cases a <;> first | rfl | exact absurd ⟨_, rfl⟩ hag
  rw [e]; exact h.ps1
theorem VR.ps3 {a : AV} {v : Value} (h : VR M ρ a v) : VR M (subP ids ρ) (pass3 ids a) v := by
 by_cases hag : ∃ cs, a = .tup cs
 ·obtain ⟨cs, rfl⟩ := hag
  obtain ⟨vs, rfl, hl, h2⟩ := h.tup_inv
  refine .tup _ _ (by simpa using hl) (fun i c u hc hu => ?_)
  rw [List.getElem?_map] at hc
  cases hq : cs[i]? with
  | none => rw [hq] at hc; cases hc
  | some q =>
   rw [hq] at hc; injection hc with hc; subst hc
   exact (h2 i q u hq hu).ps2
 ·have e : pass3 ids a = pass2 ids (fun _ => none) a := by cases a <;> first | rfl | exact absurd ⟨_, rfl⟩ hag
  rw [e]; exact h.ps2
theorem sub_row {rows : Nat → Option Row} {j : Nat} {r : Row} (h : rowsOf (ids.map (passRow ids (fun _ => none) rows)) j = some r) (hs : r.solid = true) : ∃ s r0, ids[j]? = some s ∧ rows s = some r0 ∧ r0.solid = true ∧ r = passRow ids (fun _ => none) rows s := by
 simp only [rowsOf, List.getElem?_map] at h
 cases hj : ids[j]? with
 | none => rw [hj] at h; cases h
 | some s =>
  rw [hj] at h; injection h with h
  subst h
  unfold passRow at hs
  cases hr : rows s with
  | none => simp [hr, Row.solid] at hs
  | some r0 =>
   cases r0 with
   | gone => simp [hr, Row.solid] at hs
   | box T cs => exact ⟨s, _, rfl, hr, rfl, rfl⟩
   | row E sz cs => exact ⟨s, _, rfl, hr, rfl, rfl⟩
   | tab E sz cs => exact ⟨s, _, rfl, hr, rfl, rfl⟩
theorem MR.sub {rows : Nat → Option Row} {w : World} (h : MR M ρ rows w) (hnd : ids.Nodup) : MR M (subP ids ρ) (rowsOf (ids.map (passRow ids (fun _ => none) rows))) w := by
 refine ⟨fun j r hj hs => ?_, fun i j r r' x x' hi hj hs hs' hx hx' hne hn hn' => ?_, h.imm, fun b o v j r x hM hj hs hx hn => ?_⟩
 ·obtain ⟨s, r0, e1, e2, e3, rfl⟩ := sub_row hj hs
  obtain ⟨x, hx, hX⟩ := h.row s r0 e2 e3
  refine ⟨x, by simp only [subP, e1]; exact hx, ?_⟩
  unfold passRow
  rw [e2]
  cases r0 with
  | box T cs =>
   obtain ⟨h0, arr, h1, h2, h3, h4⟩ := hX
   refine ⟨h0, arr, h1, by simpa using h2, h3, fun i c v hc hv => ?_⟩
   rw [List.getElem?_map] at hc
   cases hq : cs[i]? with
   | none => rw [hq] at hc; cases hc
   | some q =>
    rw [hq] at hc; injection hc with hc; subst hc
    exact (h4 i q v hq hv).ps1
  | row E sz cs => exact hX
  | tab E sz cs =>
   rcases hX with ⟨a1, a2, a3⟩ | ⟨h0, xs, h1, h2, h3, h4⟩
   ·subst a2; exact .inl ⟨a1, rfl, a3⟩
   refine .inr ⟨h0, xs, h1, by simpa using h2, h3, fun i c v hc hv => ?_⟩
   rw [List.getElem?_map] at hc
   cases hq : cs[i]? with
   | none => rw [hq] at hc; cases hc
   | some q =>
    rw [hq] at hc; injection hc with hc; subst hc
    exact (h4 i q v hq hv).ps1
  | gone => trivial
 ·obtain ⟨s, r0, e1, e2, e3, rfl⟩ := sub_row hi hs
  obtain ⟨s', r0', e1', e2', e3', rfl⟩ := sub_row hj hs'
  simp only [subP, e1] at hx
  simp only [subP, e1'] at hx'
  refine h.inj s s' r0 r0' x x' e2 e2' e3 e3' hx hx' (fun e => hne ?_) hn hn'
  subst e
  have h1 : i < ids.length := by
   rcases Nat.lt_or_ge i ids.length with h' | h'
   ·exact h'
   ·rw [List.getElem?_eq_none h'] at e1; cases e1
  exact (List.getElem?_inj h1 hnd).1 (e1.trans e1'.symm)
 ·obtain ⟨s, r0, e1, e2, e3, rfl⟩ := sub_row hj hs
  simp only [subP, e1] at hx
  exact h.apt b o v s r0 x hM e2 e3 hx hn
end

def tmps0 (i : Nat) : List AV → (Nat → AV) → (Nat → AV)
 | [], f => f
 | a :: l, f => tmps0 (i + 1) l (upd f i a)
theorem tmps0_get : ∀ (l : List AV) (i t : Nat) (f : Nat → AV), tmps0 i l f t = if i ≤ t ∧ t < i + l.length then l.getD (t - i) .top else f t
 | [], i, t, f => by simp only [tmps0, List.length_nil]; rw [if_neg (by omega)]
 | a :: l, i, t, f => by
  simp only [tmps0, tmps0_get l, List.length_cons]
  by_cases h1 : i + 1 ≤ t ∧ t < i + 1 + l.length
  ·rw [if_pos h1, if_pos (by omega), show t - i = (t - (i + 1)) + 1 by omega]; simp
  ·rw [if_neg h1]
   by_cases h2 : t = i
   ·subst h2; rw [upd_same, if_pos (by omega)]; simp
   ·rw [upd_ne _ _ h2, if_neg (by omega)]
/-- The state at the start of a function. -/
def st0 (args : List AV) (mem : List Row) : St := ⟨tmps0 0 args (fun _ => .top), rowsOf mem, 64⟩

theorem spec_of {f : FuncId} {fn : Func} {c : Code} {args : List AV} {mem mem' : List Row} {ret : AV} (hf : P.funcs[f]? = some fn) (hb : fn.body = some c) (hcl : callable P f = true) (hn : args.length ≤ fn.ntmps)
  (h : ∀ C : Ctx, C.N = fn.ntmps → (∀ s, mem.length ≤ s → C.ρ0 s = none) → AW P C c (st0 args mem) (fun e st' => (e = .normal ∨ e = .ret) ∧ EndA P fn mem.length ret mem' st')) : Spec P f args mem ret mem' := by
 refine ⟨hcl, fun M ρ w vs hmr hρ hlen hvs => ?_⟩
 refine calls_of_wp hf hb ?_
 let C : Ctx := ⟨w, DOf ρ (rowsOf mem), M, ρ, fn.ntmps⟩
 have hR : Rel C M ρ (st0 args mem) { tmps := vs ++ Array.replicate (fn.ntmps - vs.size) undef, defers := [] } w := by
  refine ⟨fun t => ?_, ?_, rfl, hmr, Chg.refl _ _, fun s r x h1 h2 h3 hn => .inl ⟨s, r, x, h1, h2, h3, hn, rfl⟩, Imm.le_refl _, Plc.le_refl _, fun _ _ _ => rfl, fun s hs => ?_⟩
  ·simp only [st0, tmps0_get]
   split
   ·rename_i hc
    have h1 : t < args.length := by omega
    have h2 : t < vs.size := by omega
    have e : (vs ++ Array.replicate (fn.ntmps - vs.size) undef).getD t undef = vs[t] := by
     have h3 : t < vs.size + (fn.ntmps - vs.size) := by omega
     simp [h2, h3, Array.getElem_append_left h2]
    rw [e]
    have := hvs t args[t] vs[t] (List.getElem?_eq_getElem h1) (Array.getElem?_eq_getElem h2)
    simpa [h1] using this
   ·exact .plain (.top _)
  ·show (vs ++ Array.replicate (fn.ntmps - vs.size) undef).size = fn.ntmps
   simp; omega
  ·refine hρ s ?_
   rcases Nat.lt_or_ge s mem.length with h' | h'
   ·have hs : mem[s]? = none := hs
    rw [List.getElem?_eq_getElem h'] at hs; cases hs
   ·exact h'
 refine Code.wp_mono (fun e a' w' ⟨st', M', ρ', hq, hR'⟩ => ?_) (h C rfl hρ M ρ _ w hR)
 obtain ⟨he, rs, ids, hrs, hnd, hids, rfl, rfl⟩ := hq
 obtain ⟨us, hu, hul, huv⟩ := res_ok hR' _ _ hrs
 have hrun : (results fn a'.tmps).run P w' = .ok (if h : us.toArray.size = 1 then us.toArray[0] else .tuple us.toArray) w' := by
  have hre : results fn a'.tmps = (do let vs ← fn.results.mapM (resM a'.tmps); pure (if h : vs.size = 1 then vs[0] else .tuple vs)) := by
   unfold results
   congr 2
  rw [hre]
  have hm : (fn.results.mapM (resM a'.tmps)).run P w' = .ok us.toArray w' := by
   rw [← Array.toArray_toList (xs := fn.results), List.mapM_toArray]
   simp only [Sem.run_map, hu, Result.andThen_ok]
  simp only [Sem.run_bind, hm, Result.andThen_ok, Sem.run_pure]
 have hvr : VR M' ρ' (one3 rs) (if h : us.toArray.size = 1 then us.toArray[0] else .tuple us.toArray) := by
  cases rs with
  | nil =>
   have : us = [] := List.eq_nil_of_length_eq_zero (by simpa using hul.symm)
   subst this
   simp only [List.size_toArray, List.length_nil, Nat.zero_ne_one, dite_false, one3]
   exact .tup _ _ rfl (by simp)
  | cons r1 rs =>
   cases rs with
   | nil =>
    obtain ⟨u1, rfl⟩ : ∃ u1, us = [u1] := List.length_eq_one_iff.1 (by simpa using hul.symm)
    exact huv 0 r1 u1 rfl rfl
   | cons r2 rs =>
    have h1 : ¬ us.toArray.size = 1 := by simp at hul ⊢; omega
    rw [dif_neg h1]
    refine .tup _ _ (by simpa using hul) (fun i c v hc hv => huv i c v hc (by simpa using hv))
 have hpost : bodyPost P fn (fun e w'' => ∃ v M'' ρ'', e = .returned v ∧ M.le M'' ∧ ρ.le ρ'' ∧ MR M'' ρ'' (rowsOf (ids.map (passRow ids (fun _ => none) st'.rows))) w'' ∧ (∀ s, (ids.map (passRow ids (fun _ => none) st'.rows)).length ≤ s → ρ'' s = none) ∧ VR M'' ρ'' (pass3 ids (one3 rs)) v ∧ Chg (DOf ρ (rowsOf mem)) w w'' ∧
     (∀ b, b < w.heap.size → ¬ DOf ρ (rowsOf mem) b → M'' b = M b) ∧ ∀ s r x, rowsOf (ids.map (passRow ids (fun _ => none) st'.rows)) s = some r → r.solid = true → ρ'' s = some x → x.nl = false → DOf ρ (rowsOf mem) x.g ∨ w.heap.size ≤ x.g) .ret a' w' := by
  refine bodyPost_ret hrun hR'.df ⟨_, M', subP ids ρ', rfl, hR'.m0, fun s x hs => ?_, hR'.mr.sub hnd, fun s hs => ?_, hvr.ps3, hR'.chg, hR'.mold, fun s r x h1 h2 h3 hn => ?_⟩
  ·have hlt : s < mem.length := by
    rcases Nat.lt_or_ge s mem.length with h' | h'
    ·exact h'
    ·rw [hρ s h'] at hs; cases hs
   simp only [subP, hids s hlt]
   exact hR'.r0 s x hs
  ·simp only [List.length_map] at hs
   simp only [subP, List.getElem?_eq_none hs]
  ·obtain ⟨s', r0, e1, e2, e3, rfl⟩ := sub_row h1 h2
   simp only [subP, e1] at h3
   exact hR'.new s' r0 x e2 e3 h3 hn
 rcases he with rfl | rfl
 ·exact hpost
 ·exact hpost
end
end Go.Proofs.Ytfjopjalhllplaa
/- The engine, part 12: steps as a goal that is reckoned out. Over any program. -/
namespace Go.Proofs.Ytfjopjalhllplaa
open Go.RowKit
set_option linter.unusedVariables false
set_option linter.unusedSimpArgs false

def optK {α : Type} (x : Option α) (K : α → Prop) : Prop := match x with
 | some v => K v
 | none => False
/-- A call without rows by reference. -/
def callK (P : Program) (f : FuncId) (args : List AV) (st : St) (site : Nat) (dst : Option Tmp) (K : St → Prop) : Prop :=
 ∃ (lnd : Nat → Option Row) (ret : AV) (mem' : List Row), (∀ s r, lnd s = some r → st.rows s = some r) ∧ Spec P f (args.map (pass2 [] lnd)) [] ret mem' ∧ ((∀ s, lnd s = none) ∨ (Free ret ∧ ∀ r ∈ mem', ∀ c ∈ r.cells, Free c)) ∧
  mem'.length ≤ 16 ∧ (∀ j, j < mem'.length → st.rows (site + j) = none) ∧ K (({ st with rows := addRows st.rows site (mem'.map (Row.ren (mId [] site))) } : St).put dst (ren3 (mId [] site) ret))
def refK (P : Program) (f : FuncId) (args : List AV) (st : St) (site : Nat) (dst : Option Tmp) (K : St → Prop) : Prop :=
 ∃ (ι : List Nat) (nt : Bool) (lnd : Nat → Option Row) (ret : AV) (mem' : List Row), (∀ s r, lnd s = some r → st.rows s = some r) ∧ ι.Nodup ∧ (∀ s ∈ ι, ∃ r, st.rows s = some r ∧ r.solid = true) ∧
  Spec P f (args.map (passX nt ι lnd)) (ι.map (passRow ι lnd st.rows)) ret mem' ∧ ι.length ≤ mem'.length ∧ ((∀ s, lnd s = none) ∨ (Free ret ∧ ∀ r ∈ mem', ∀ c ∈ r.cells, Free c)) ∧
  (nt = false → mem'.length - ι.length ≤ 16) ∧ (∀ j, j < mem'.length - ι.length → st.rows (site + j) = none) ∧ K (({ st with rows := rowsAfter ι site st.rows mem' } : St).put dst (ren3 (mId ι site) ret))
def evL (st : St) : List Operand → List AV
 | [] => []
 | x :: l => st.ev x :: evL st l
/-- A call of a function value. -/
def fnK (P : Program) (v : AV) (args : List AV) (st : St) (site : Nat) (dst : Option Tmp) (K : St → Prop) : Prop := match v with
 | .fn f ps => refK P f (args ++ ps.map fun s => AV.ptr s 0) st site dst K
 | _ => False
def aO (P : Program) (BR : Nat → Bool) (site : Nat) (o : Oper) (st : St) (K : St → Prop) : Prop :=
 match cls BR o.op with
 | 0 => optK (aPure P st.ev o.op) fun v => K (st.put o.dst v)
 | 1 => optK (aMk P (FZ BR site) site st.ev st.rows o.op) fun v => (match v.2 with | some r => st.rows site = none ∧ K (({ st with rows := upd st.rows site (some r) } : St).put o.dst v.1) | none => K (st.put o.dst v.1))
 | 2 => match o.op with
  | .call c => match c.callee with
   | .value (.func f) => callK P f (evL st c.args.toList) st site o.dst K
   | _ => False
  | _ => False
 | 3 => optK (frzW (aWr P site st.ev st.rows o.op) (FZ BR site)) fun v => K (({ st with rows := v.2 } : St).put o.dst v.1)
 | 4 => match o.op with
  | .call c => match c.callee with
   | .value (.func f) => refK P f (evL st c.args.toList) st site o.dst K
   | _ => False
  | _ => False
 | 6 => match o.op with
  | .call c => match c.callee with
   | .value (.tmp t) => fnK P (st.tmps t) (evL st c.args.toList) st site o.dst K
   | _ => False
  | _ => False
 | _ => False
def gK (b want : Bool) (A B : Prop) : Prop := (b = want → A) ∧ (b = !want → B)
def aG (P : Program) (BR : Nat → Bool) (ops : List Oper) (site : Nat) (o : Oper) (st : St) (K : St → Prop) : Prop :=
 match o.guard with
 | none => aO P BR site o st K
 | some (g, want) => match (ops[g]?).bind (·.dst) with
  | some t => match st.tmps t with
   | .bool b => gK b want (aO P BR site o st K) (K (st.put o.dst (.tup [])))
   | .tup [] => K (st.put o.dst (.tup []))
   | _ => False
  | none => False
def aRun (P : Program) (BR : Nat → Bool) (ops : List Oper) (bs : Nat) : Nat → List Oper → St → (St → Prop) → Prop
 | _, [], st, K => K st
 | i, o :: l, st, K => aG P BR ops (bs + 16 * i) o st (fun st' => aRun P BR ops bs (i + 1) l st' K)

section
variable {P : Program} {BR : Nat → Bool} {ops : List Oper}
theorem evL_map (st : St) : ∀ l, evL st l = l.map st.ev
 | [] => rfl
 | x :: l => by simp [evL, evL_map st l]
theorem optK_some {α : Type} {x : Option α} {K : α → Prop} (h : optK x K) : ∃ v, x = some v ∧ K v := by
 cases x with
 | none => exact h.elim
 | some v => exact ⟨v, rfl, h⟩
theorem aO_stp {site : Nat} {o : Oper} {st : St} {K : St → Prop} (h : aO P BR site o st K) : ∃ st', Stp P BR site o st st' ∧ K st' := by
 unfold aO at h
 split at h
 ·rename_i hc
  obtain ⟨v, h1, h2⟩ := optK_some h
  simp only [Stp, hc]
  exact ⟨_, ⟨v, h1, rfl⟩, h2⟩
 ·rename_i hc
  obtain ⟨v, h1, h2⟩ := optK_some h
  obtain ⟨v, nw⟩ := v
  simp only [Stp, hc]
  cases nw with
  | none => exact ⟨_, ⟨v, none, h1, by simp, rfl⟩, h2⟩
  | some r => exact ⟨_, ⟨v, some r, h1, fun _ => h2.1, rfl⟩, h2.2⟩
 ·rename_i hc
  simp only [Stp, hc]
  split at h
  ·rename_i c hop
   split at h
   ·rename_i f hcal
    obtain ⟨lnd, ret, mem', h1, h2, h3, h4, h5, h6⟩ := h
    refine ⟨_, ⟨c, f, _, lnd, ret, mem', hop, .inl ⟨hcal, rfl⟩, h1, List.nodup_nil, by simp, ?_, by simp, h3, fun _ => by simpa using h4, by simpa using h5, rfl⟩, ?_⟩
    ·rw [evL_map] at h2; exact h2
    ·rw [rowsAfter_nil]; exact h6
   ·exact h.elim
  ·exact h.elim
 ·rename_i hc
  obtain ⟨v, h1, h2⟩ := optK_some h
  obtain ⟨v, rows'⟩ := v
  simp only [Stp, hc]
  exact ⟨_, ⟨v, rows', h1, rfl⟩, h2⟩
 ·rename_i hc
  simp only [Stp, hc]
  split at h
  ·rename_i c hop
   split at h
   ·rename_i f hcal
    obtain ⟨ι, nt, lnd, ret, mem', h1, h2, h3, h4, h5, h6, h7, h8, h9⟩ := h
    refine ⟨_, ⟨ι, nt, c, f, _, lnd, ret, mem', hop, .inl ⟨hcal, rfl⟩, h1, h2, h3, ?_, h5, h6, h7, h8, rfl⟩, h9⟩
    rw [evL_map] at h4; exact h4
   ·exact h.elim
  ·exact h.elim
 ·rename_i hc
  simp only [Stp, hc]
  split at h
  ·rename_i c hop
   split at h
   ·rename_i t hcal
    unfold fnK at h
    split at h
    ·rename_i f ps ht
     obtain ⟨ι, nt, lnd, ret, mem', h1, h2, h3, h4, h5, h6, h7, h8, h9⟩ := h
     refine ⟨_, ⟨ι, nt, c, f, _, lnd, ret, mem', hop, .inr ⟨t, ps, hcal, ht, rfl⟩, h1, h2, h3, ?_, h5, h6, h7, h8, rfl⟩, h9⟩
     rw [evL_map] at h4; exact h4
    ·exact h.elim
   ·exact h.elim
  ·exact h.elim
 ·exact h.elim
theorem aG_gst {site : Nat} {o : Oper} {st : St} {K : St → Prop} (h : aG P BR ops site o st K) : ∃ st', Gst P BR ops.toArray site o st st' ∧ K st' := by
 unfold aG at h
 split at h
 ·rename_i hg
  simp only [Gst, hg]
  exact aO_stp h
 ·rename_i g want hg
  simp only [Gst, hg]
  split at h
  ·rename_i t ht
   split at h
   ·rename_i b hb
    by_cases e : b = want
    ·obtain ⟨st', h1, h2⟩ := aO_stp (h.1 e)
     exact ⟨st', ⟨t, by simpa using ht, .inl ⟨by rw [hb, e], h1⟩⟩, h2⟩
    ·exact ⟨_, ⟨t, by simpa using ht, .inr ⟨.inr ⟨b, hb, e⟩, rfl⟩⟩, h.2 (by cases b <;> cases want <;> simp_all)⟩
   ·rename_i hb
    exact ⟨_, ⟨t, by simpa using ht, .inr ⟨.inl hb, rfl⟩⟩, h⟩
   ·exact h.elim
  ·exact h.elim
theorem aRun_seq {bs : Nat} {K : St → Prop} : ∀ (l : List Oper) (i : Nat) (st : St), (∀ j, l[j]? = ops[i + j]?) → aRun P BR ops bs i l st K → aSeq P BR ops.toArray bs (List.range' i l.length) st K
 | [], i, st, _, h => h
 | o :: l, i, st, hl, h => by
  obtain ⟨st', h1, h2⟩ := aG_gst h
  have h0 : ops[i]? = some o := by simpa using (hl 0).symm
  rw [List.length_cons, List.range'_succ]
  exact ⟨o, st', by simpa using h0, h1, aRun_seq l (i + 1) st' (fun j => by have := hl (j + 1); simpa [Nat.add_assoc, Nat.add_comm 1 j] using this) h2⟩
theorem AW_reg {C : Ctx} {st : St} {Q : Exit → St → Prop} {id : Nat} {draw : Bool} (hm : P.follows .mixedOrders = true) (hN : dstB C.N ops.toArray = true) (hB : (!draw || regB BR ops.toArray) = true)
  (h : aRun P BR ops st.bs 0 ops st (fun st' => Q .normal { st' with bs := st.bs + 16 * ops.length })) : AW P C (.region id ops.toArray draw) st Q :=
 AW_region (BR := BR) (fun _ => hm) hN (fun e => by rw [e] at hB; simpa using hB) (by
   have := aRun_seq ops 0 st (by simp) h
   rw [← List.range_eq_range'] at this
   simpa using this)
/-- A call whose arguments hold no slice of the caller's own. -/
theorem callK_plain {f : FuncId} {args : List AV} {st : St} {site : Nat} {dst : Option Tmp} {K : St → Prop} {ret : AV} {mem' : List Row} (hS : Spec P f (args.map (pass2 [] fun _ => none)) [] ret mem') (hl : mem'.length ≤ 16)
  (hs : ∀ j, j < mem'.length → st.rows (site + j) = none) (hK : K (({ st with rows := addRows st.rows site (mem'.map (Row.ren (mId [] site))) } : St).put dst (ren3 (mId [] site) ret))) : callK P f args st site dst K :=
 ⟨_, ret, mem', (fun _ _ h => by cases h), hS, .inl (fun _ => rfl), hl, hs, hK⟩
/-- A call that is lent slices. -/
theorem callK_lend {f : FuncId} {args : List AV} {st : St} {site : Nat} {dst : Option Tmp} {K : St → Prop} {ret : AV} {mem' : List Row} (hS : Spec P f (args.map (pass2 [] st.rows)) [] ret mem') (hf : Free ret ∧ ∀ r ∈ mem', ∀ c ∈ r.cells, Free c) (hl : mem'.length ≤ 16)
  (hs : ∀ j, j < mem'.length → st.rows (site + j) = none) (hK : K (({ st with rows := addRows st.rows site (mem'.map (Row.ren (mId [] site))) } : St).put dst (ren3 (mId [] site) ret))) : callK P f args st site dst K :=
 ⟨_, ret, mem', fun _ _ h => h, hS, .inr hf, hl, hs, hK⟩
theorem gK_tt (A B : Prop) : gK true true A B = A := by simp [gK]
theorem gK_tf (A B : Prop) : gK true false A B = B := by simp [gK]
theorem gK_ft (A B : Prop) : gK false true A B = B := by simp [gK]
theorem gK_ff (A B : Prop) : gK false false A B = A := by simp [gK]
end
end Go.Proofs.Ytfjopjalhllplaa
/- The engine, part 13: the steps as rules of rewriting. Over any program. -/
namespace Go.Proofs.Ytfjopjalhllplaa
open Go.RowKit
set_option linter.unusedVariables false
set_option linter.unusedSimpArgs false
section
variable (P : Program) (BR : Nat → Bool) (ops : List Oper) (bs i : Nat) (o : Oper) (l : List Oper) (st : St) (K : St → Prop)
def rV (x : Option AV) : Prop := optK x fun v => aRun P BR ops bs (i + 1) l (st.put o.dst v) K
def rF (x : Option Row) (v : AV) (r : Row) : Prop := x = none ∧ aRun P BR ops bs (i + 1) l (({ st with rows := upd st.rows (bs + 16 * i) (some r) } : St).put o.dst v) K
def rM (x : Option (AV × Option Row)) : Prop := optK x fun v => (match v.2 with | some r => st.rows (bs + 16 * i) = none ∧ aRun P BR ops bs (i + 1) l (({ st with rows := upd st.rows (bs + 16 * i) (some r) } : St).put o.dst v.1) K | none => aRun P BR ops bs (i + 1) l (st.put o.dst v.1) K)
def rW (x : Option (AV × (Nat → Option Row))) : Prop := optK x fun v => aRun P BR ops bs (i + 1) l (({ st with rows := v.2 } : St).put o.dst v.1) K
def rC (f : FuncId) (args : List AV) (dst : Option Tmp) : Prop := callK P f args st (bs + 16 * i) dst fun st' => aRun P BR ops bs (i + 1) l st' K
def rR (f : FuncId) (args : List AV) (dst : Option Tmp) : Prop := refK P f args st (bs + 16 * i) dst fun st' => aRun P BR ops bs (i + 1) l st' K
def rN (v : AV) (args : List AV) (dst : Option Tmp) : Prop := fnK P v args st (bs + 16 * i) dst fun st' => aRun P BR ops bs (i + 1) l st' K
def rO (c : Nat) : Prop := match c with
 | 0 => rV P BR ops bs i o l st K (aPure P st.ev o.op)
 | 1 => rM P BR ops bs i o l st K (aMk P (FZ BR (bs + 16 * i)) (bs + 16 * i) st.ev st.rows o.op)
 | 2 => match o.op with
  | .call c => match c.callee with
   | .value (.func f) => rC P BR ops bs i l st K f (evL st c.args.toList) o.dst
   | _ => False
  | _ => False
 | 3 => rW P BR ops bs i o l st K (frzW (aWr P (bs + 16 * i) st.ev st.rows o.op) (FZ BR (bs + 16 * i)))
 | 4 => match o.op with
  | .call c => match c.callee with
   | .value (.func f) => rR P BR ops bs i l st K f (evL st c.args.toList) o.dst
   | _ => False
  | _ => False
 | 6 => match o.op with
  | .call c => match c.callee with
   | .value (.tmp t) => rN P BR ops bs i l st K (st.tmps t) (evL st c.args.toList) o.dst
   | _ => False
  | _ => False
 | _ => False
def rK (b want : Bool) : Prop := gK b want (rO P BR ops bs i o l st K (cls BR o.op)) (aRun P BR ops bs (i + 1) l (st.put o.dst (.tup [])) K)
def rA (a : AV) (want : Bool) : Prop := match a with
 | .bool b => rK P BR ops bs i o l st K b want
 | .tup [] => aRun P BR ops bs (i + 1) l (st.put o.dst (.tup [])) K
 | _ => False
def rB (t : Option Tmp) (want : Bool) : Prop := match t with
 | some t => rA P BR ops bs i o l st K (st.tmps t) want
 | none => False
def rG (g : Option (Nat × Bool)) : Prop := match g with
 | none => rO P BR ops bs i o l st K (cls BR o.op)
 | some (j, want) => rB P BR ops bs i o l st K ((ops[j]?).bind (·.dst)) want
theorem aRun_nil : aRun P BR ops bs i [] st K = K st := (rfl)
theorem aRun_cons : aRun P BR ops bs i (o :: l) st K = rG P BR ops bs i o l st K o.guard := (rfl)
theorem rG_none : rG P BR ops bs i o l st K none = rO P BR ops bs i o l st K (cls BR o.op) := (rfl)
theorem rG_some (j : Nat) (want : Bool) : rG P BR ops bs i o l st K (some (j, want)) = rB P BR ops bs i o l st K ((ops[j]?).bind (·.dst)) want := (rfl)
theorem rB_some (t : Tmp) (want : Bool) : rB P BR ops bs i o l st K (some t) want = rA P BR ops bs i o l st K (st.tmps t) want := (rfl)
theorem rA_bool (b want : Bool) : rA P BR ops bs i o l st K (.bool b) want = rK P BR ops bs i o l st K b want := (rfl)
theorem rA_off (want : Bool) : rA P BR ops bs i o l st K (.tup []) want = aRun P BR ops bs (i + 1) l (st.put o.dst (.tup [])) K := (rfl)
theorem rK_tt : rK P BR ops bs i o l st K true true = rO P BR ops bs i o l st K (cls BR o.op) := gK_tt _ _
theorem rK_ff : rK P BR ops bs i o l st K false false = rO P BR ops bs i o l st K (cls BR o.op) := gK_ff _ _
theorem rK_tf : rK P BR ops bs i o l st K true false = aRun P BR ops bs (i + 1) l (st.put o.dst (.tup [])) K := gK_tf _ _
theorem rK_ft : rK P BR ops bs i o l st K false true = aRun P BR ops bs (i + 1) l (st.put o.dst (.tup [])) K := gK_ft _ _
theorem rO_0 : rO P BR ops bs i o l st K 0 = rV P BR ops bs i o l st K (aPure P st.ev o.op) := (rfl)
theorem rO_1 : rO P BR ops bs i o l st K 1 = rM P BR ops bs i o l st K (aMk P (FZ BR (bs + 16 * i)) (bs + 16 * i) st.ev st.rows o.op) := (rfl)
theorem rO_3 : rO P BR ops bs i o l st K 3 = rW P BR ops bs i o l st K (frzW (aWr P (bs + 16 * i) st.ev st.rows o.op) (FZ BR (bs + 16 * i))) := (rfl)
theorem rO_2 (d : Option Tmp) (f : FuncId) (args : Array Operand) (tys : Array TypeId) (t : TypeId) (p : String) (af : Array Edge) (g : Option (Nat × Bool)) :
  rO P BR ops bs i ⟨d, .call ⟨.value (.func f), args, tys⟩, t, p, af, g⟩ l st K 2 = rC P BR ops bs i l st K f (evL st args.toList) d := (rfl)
theorem rO_4 (d : Option Tmp) (f : FuncId) (args : Array Operand) (tys : Array TypeId) (t : TypeId) (p : String) (af : Array Edge) (g : Option (Nat × Bool)) :
  rO P BR ops bs i ⟨d, .call ⟨.value (.func f), args, tys⟩, t, p, af, g⟩ l st K 4 = rR P BR ops bs i l st K f (evL st args.toList) d := (rfl)
theorem rO_6 (d : Option Tmp) (t' : Tmp) (args : Array Operand) (tys : Array TypeId) (t : TypeId) (p : String) (af : Array Edge) (g : Option (Nat × Bool)) :
  rO P BR ops bs i ⟨d, .call ⟨.value (.tmp t'), args, tys⟩, t, p, af, g⟩ l st K 6 = rN P BR ops bs i l st K (st.tmps t') (evL st args.toList) d := (rfl)
theorem rN_fn (f : FuncId) (ps : List Nat) (args : List AV) (d : Option Tmp) : rN P BR ops bs i l st K (.fn f ps) args d = rR P BR ops bs i l st K f (args ++ ps.map fun s => AV.ptr s 0) d := (rfl)
theorem rV_some (v : AV) : rV P BR ops bs i o l st K (some v) = aRun P BR ops bs (i + 1) l (st.put o.dst v) K := (rfl)
theorem rM_none (v : AV) : rM P BR ops bs i o l st K (some (v, none)) = aRun P BR ops bs (i + 1) l (st.put o.dst v) K := (rfl)
theorem rM_some (v : AV) (r : Row) : rM P BR ops bs i o l st K (some (v, some r)) = rF P BR ops bs i o l st K (st.rows (bs + 16 * i)) v r := (rfl)
theorem rF_none (v : AV) (r : Row) : rF P BR ops bs i o l st K none v r = aRun P BR ops bs (i + 1) l (({ st with rows := upd st.rows (bs + 16 * i) (some r) } : St).put o.dst v) K := by simp [rF]
theorem rW_some (v : AV) (rows : Nat → Option Row) : rW P BR ops bs i o l st K (some (v, rows)) = aRun P BR ops bs (i + 1) l (({ st with rows := rows } : St).put o.dst v) K := (rfl)
end
/-- A region walked with some sites frozen. -/
def BRx (B : Nat → Bool) (l : List Nat) (f : Nat) : Bool := B f || l.contains f
theorem BRx_eq (B : Nat → Bool) (l : List Nat) (f : Nat) : BRx B l f = (B f || l.contains f) := (rfl)
theorem FZ_x (B : Nat → Bool) (l : List Nat) (n : Nat) : FZ (BRx B l) n = (FZ B n || l.contains (1000000 + n)) := (rfl)
theorem St.put_some (T : Nat → AV) (R : Nat → Option Row) (b : Nat) (d : Tmp) (v : AV) : (St.mk T R b).put (some d) v = St.mk (upd T d v) R b := (rfl)
theorem St.put_none (st : St) (v : AV) : st.put none v = st := (rfl)
theorem ev_tmp (T : Nat → AV) (R : Nat → Option Row) (b : Nat) (t : Tmp) : (St.mk T R b).ev (.tmp t) = T t := (rfl)
theorem ev_const (st : St) (v : Value) : st.ev (.const v) = ofV v := (rfl)
section
variable {P : Program} {BR : Nat → Bool} {ops : List Oper} {C : Ctx} {st : St} {Q : Exit → St → Prop}
variable {bs i : Nat} {l : List Oper} {K : St → Prop} {f : FuncId} {args : List AV} {dst : Option Tmp} {ret : AV} {mem' : List Row}
theorem rC_plain (hS : Spec P f (args.map (pass2 [] fun _ => none)) [] ret mem') (hl : mem'.length ≤ 16)
  (hs : ∀ j, j < mem'.length → st.rows (bs + 16 * i + j) = none) (hK : aRun P BR ops bs (i + 1) l (({ st with rows := addRows st.rows (bs + 16 * i) (mem'.map (Row.ren (mId [] (bs + 16 * i)))) } : St).put dst (ren3 (mId [] (bs + 16 * i)) ret)) K) : rC P BR ops bs i l st K f args dst := callK_plain hS hl hs hK
theorem rC_lend (hS : Spec P f (args.map (pass2 [] st.rows)) [] ret mem') (hf : Free ret ∧ ∀ r ∈ mem', ∀ c ∈ r.cells, Free c) (hl : mem'.length ≤ 16)
  (hs : ∀ j, j < mem'.length → st.rows (bs + 16 * i + j) = none) (hK : aRun P BR ops bs (i + 1) l (({ st with rows := addRows st.rows (bs + 16 * i) (mem'.map (Row.ren (mId [] (bs + 16 * i)))) } : St).put dst (ren3 (mId [] (bs + 16 * i)) ret)) K) : rC P BR ops bs i l st K f args dst := callK_lend hS hf hl hs hK
end
end Go.Proofs.Ytfjopjalhllplaa
/- The engine, part 14: rules for the walk over the code. Over any program. -/
namespace Go.Proofs.Ytfjopjalhllplaa
open Go.RowKit
set_option linter.unusedVariables false
set_option linter.unusedSimpArgs false
section
variable {P : Program} {BR : Nat → Bool} {ops : List Oper} {C : Ctx} {Q : Exit → St → Prop} {T : Nat → AV} {R : Nat → Option Row} {b : Nat}
/-- A region, then the rest. -/
theorem AW_rs {id : Nat} {draw : Bool} {y : Code} (hm : P.follows .mixedOrders = true) (hN : dstB C.N ops.toArray = true) (hB : (!draw || regB BR ops.toArray) = true)
  (h : ∀ K : St → Prop, (∀ T' R' b', AW P C y (St.mk T' R' (b + 1024)) Q → K (St.mk T' R' b')) → aRun P BR ops b 0 ops (St.mk T R b) K) : AW P C (.seq (.region id ops.toArray draw) y) (St.mk T R b) Q :=
 AW_seq fun M ρ a w hR => by
  have := h (fun st' => AW P C y (St.mk st'.tmps st'.rows (b + 1024)) Q) (fun T' R' b' h => h)
  refine AW_reg (BR := BR) (Q := thenA (fun st' => AW P C y (St.mk st'.tmps st'.rows (b + 1024)) Q) Q) hm hN hB this M ρ a w hR |> Code.wp_mono ?_
  rintro e a' w' ⟨st', M', ρ', h1, h2⟩
  cases e with
  | normal => exact ⟨St.mk st'.tmps st'.rows (b + 1024), M', ρ', h1, h2.next _⟩
  | _ => exact ⟨st', M', ρ', h1, h2⟩
/-- A region at the end of a piece of code. -/
theorem AW_re {id : Nat} {draw : Bool} (hm : P.follows .mixedOrders = true) (hN : dstB C.N ops.toArray = true) (hB : (!draw || regB BR ops.toArray) = true)
  (h : ∀ K : St → Prop, (∀ T' R' b', Q .normal (St.mk T' R' (b + 1024)) → K (St.mk T' R' b')) → aRun P BR ops b 0 ops (St.mk T R b) K) : AW P C (.region id ops.toArray draw) (St.mk T R b) Q := fun M ρ a w hR => by
 have := h (fun st' => Q .normal (St.mk st'.tmps st'.rows (b + 1024))) (fun T' R' b' h => h)
 refine AW_reg (BR := BR) (Q := thenA (fun st' => Q .normal (St.mk st'.tmps st'.rows (b + 1024))) Q) hm hN hB this M ρ a w hR |> Code.wp_mono ?_
 rintro e a' w' ⟨st', M', ρ', h1, h2⟩
 cases e with
 | normal => exact ⟨St.mk st'.tmps st'.rows (b + 1024), M', ρ', h1, h2.next _⟩
 | _ => exact ⟨st', M', ρ', h1, h2⟩
def condK (a : AV) (A B : Prop) : Prop := match a with
 | .bool b => (b = true → A) ∧ (b = false → B)
 | _ => False
theorem AW_condK {c : Operand} {x y : Code} {st : St} {a : AV} (hc : st.ev c = a) (h : condK a (AW P C x st Q) (AW P C y st Q)) : AW P C (.cond c x y) st Q := by
 unfold condK at h
 split at h
 ·exact AW_cond hc h.1 h.2
 ·exact h.elim
def endR (P : Program) (st : St) (l : List ResultVar) (k : Nat) (ids : List Nat) (ret : AV) (mem' : List Row) : Prop := match resA P st l with
 | some rs => ret = pass3 ids (one3 rs) ∧ mem' = ids.map (passRow ids (fun _ => none) st.rows)
 | none => False
theorem end_r {fn : Func} {st : St} {k : Nat} (ids : List Nat) {ret : AV} {mem' : List Row} {e : Exit} (he : e = .normal ∨ e = .ret) (hnd : ids.Nodup) (hk : ∀ j, j < k → ids[j]? = some j) (h : endR P st fn.results.toList k ids ret mem') : (e = .normal ∨ e = .ret) ∧ EndA P fn k ret mem' st := by
 unfold endR at h
 split at h
 ·rename_i rs hrs
  exact ⟨he, rs, ids, hrs, hnd, hk, h.1, h.2⟩
 ·exact h.elim
end

end Go.Proofs.Ytfjopjalhllplaa
/- The engine, part 15: states in a canonical form. Over any program. -/
namespace Go.Proofs.Ytfjopjalhllplaa
open Go.RowKit
set_option linter.unusedVariables false
set_option linter.unusedSimpArgs false
def mkT : List (Nat × AV) → (Nat → AV)
 | [] => fun _ => .top
 | (k, v) :: l => upd (mkT l) k v
def mkR : List (Nat × Row) → (Nat → Option Row)
 | [] => fun _ => none
 | (k, r) :: l => upd (mkR l) k (some r)
section
variable {P : Program} {C : Ctx} {Q : Exit → St → Prop} {st : St}
/-- Where ways meet. -/
theorem AW_cut {x y : Code} (J : St → Prop) (h1 : AW P C x st (thenA (fun st' => ∃ S, J S ∧ Le C st' S) Q)) (h2 : ∀ S, J S → AW P C y S Q) : AW P C (.seq x y) st Q :=
 AW_seq (AW_mono h1 fun e s h => by
   cases e with
   | normal =>
     obtain ⟨S, hJ, hL⟩ := h
     exact AW_le hL (h2 S hJ)
   | _ => exact h)
end
end Go.Proofs.Ytfjopjalhllplaa
/- The engine, part 16: where ways meet, a state in a canonical form: rows renamed or dropped, slices frozen, nil slices taken as slices of the call's own. Over any program. -/
namespace Go.Proofs.Ytfjopjalhllplaa
open Go.RowKit
set_option linter.unusedVariables false
set_option linter.unusedSimpArgs false
abbrev GMap := Nat → Option (Option Nat)
/-- What a canonical row comes from: a row, or a nil slice. -/
def lk : List (Nat × Option Nat) → GMap
 | [], _ => none
 | (k, v) :: l, s => if s = k then some v else lk l s
def fz1 (F : Nat → Option Row) : Option Row → List AV → Prop
 | some (.row _ _ cs), cs' => cs = cs'
 | some (.tab _ _ cs), cs' => cs.map (pass0 [] F) = cs'
 | _, _ => False
def cvP (g : GMap) : List Nat → List Nat → Prop
 | [], [] => True
 | s :: l, s' :: l' => g s' = some (some s) ∧ cvP g l l'
 | _, _ => False
theorem cvP_get {g : GMap} : ∀ {ps ps' : List Nat}, cvP g ps ps' → ps.length = ps'.length ∧ ∀ (i s' : Nat), ps'[i]? = some s' → ∃ s, ps[i]? = some s ∧ g s' = some (some s)
 | [], [], _ => ⟨rfl, fun i s h => by simp at h⟩
 | s :: l, s' :: l', h => by
  obtain ⟨h1, h2⟩ := cvP_get h.2
  refine ⟨by simp [h1], fun i q hq => ?_⟩
  cases i with
  | zero => simp only [List.getElem?_cons_zero, Option.some.injEq] at hq; subst hq; exact ⟨s, rfl, h.1⟩
  | succ i => exact h2 i q (by simpa using hq)
 | [], _ :: _, h => h.elim
 | _ :: _, [], h => h.elim
def cv1 (g : GMap) (F : Nat → Option Row) : AV → AV → Prop
 | _, .top => True
 | .own s n, .own s' n' => g s' = some (some s) ∧ n = n'
 | .nil, .own s' n' => g s' = some none ∧ n' = 0
 | .ptr s o, .ptr s' o' => g s' = some (some s) ∧ o = o'
 | .sl cs n, .sl cs' n' => cs = cs' ∧ n = n'
 | .nil, .sl cs' n' => cs' = [] ∧ n' = 0
 | .own s n, .sl cs' n' => fz1 F (F s) cs' ∧ n = n'
 | .int k n, .int k' n' => k = k' ∧ n = n'
 | .bool b, .bool b' => b = b'
 | .str s, .str s' => s = s'
 | .nil, .nil => True
 | .eptr cs, .eptr cs' => cs = cs'
 | .fn f ps, .fn f' ps' => f = f' ∧ cvP g ps ps'
 | _, _ => False
def cvL (g : GMap) (F : Nat → Option Row) : List AV → List AV → Prop
 | [], [] => True
 | c :: cs, c' :: cs' => cv1 g F c c' ∧ cvL g F cs cs'
 | _, _ => False
def cvV (g : GMap) (F : Nat → Option Row) : AV → AV → Prop
 | .agg cs, .agg cs' => cvL g F cs cs'
 | a, a' => cv1 g F a a'
def cvT (g : GMap) (F : Nat → Option Row) : List AV → List AV → Prop
 | [], [] => True
 | c :: cs, c' :: cs' => cvV g F c c' ∧ cvT g F cs cs'
 | _, _ => False
def cvW (g : GMap) (F : Nat → Option Row) : AV → AV → Prop
 | .tup cs, .tup cs' => cvT g F cs cs'
 | a, a' => cvV g F a a'
def cvR (g : GMap) (F : Nat → Option Row) : Row → Row → Prop
 | .box T cs, .box T' cs' => T = T' ∧ cvL g F cs cs'
 | .row E sz cs, .row E' sz' cs' => E = E' ∧ sz = sz' ∧ cs = cs'
 | .tab E sz cs, .tab E' sz' cs' => E = E' ∧ sz = sz' ∧ cvL g F cs cs'
 | .row E sz cs, .tab E' sz' cs' => E = E' ∧ sz = sz' ∧ cvL g F cs cs'
 | _, .gone => True
 | _, _ => False
def rowR (g : GMap) (F : Nat → Option Row) : Option Row → Row → Prop
 | some r, r' => cvR g F r r'
 | none, .gone => True
 | none, _ => False
def rowK (g : GMap) (F R : Nat → Option Row) : Option (Option Nat) → Row → Prop
 | some (some s), r' => rowR g F (R s) r'
 | some none, .row _ _ cs => cs = []
 | some none, .tab _ _ cs => cs = []
 | _, .gone => True
 | _, _ => False
def leT (g : GMap) (F : Nat → Option Row) (T : Nat → AV) : List (Nat × AV) → Prop
 | [] => True
 | (k, v) :: l => cvW g F (T k) v ∧ leT g F T l
def leR (g : GMap) (F R : Nat → Option Row) : List (Nat × Row) → Prop
 | [] => True
 | (k, r) :: l => rowK g F R (g k) r ∧ leR g F R l
def fzF (fz : List Nat) (R : Nat → Option Row) : Nat → Option Row := fun s => match fz.contains s with | true => R s | false => none
def srcs : List (Nat × Option Nat) → List Nat
 | [] => []
 | (_, some s) :: l => s :: srcs l
 | (_, none) :: l => srcs l
def nodB : List Nat → Bool
 | [] => true
 | a :: l => !l.contains a && nodB l
def upB : Nat → (Nat → Bool) → Bool
 | 0, _ => true
 | n + 1, f => f n && upB n f
def isIt (j : Nat) : Option (Option Nat) → Bool
 | some (some s) => s == j
 | _ => false
def solB (ks : List (Nat × Bool)) (s : Nat) : Bool := ks.any fun p => p.1 == s && p.2
def gOK (k : Nat) (G : List (Nat × Option Nat)) (fz : List Nat) (ks : List (Nat × Bool)) : Bool :=
 upB k (fun j => isIt j (lk G j)) && nodB (srcs (G.filter fun p => solB ks p.1)) && nodB (G.map (·.1)) && (srcs (G.filter fun p => solB ks p.1)).all (fun s => !fz.contains s) && (G.map (·.1)).all (fun s => ks.any fun p => p.1 == s)
theorem solOf : ∀ {lr : List (Nat × Row)} {s : Nat} {r : Row}, mkR lr s = some r → r.solid = true → solB (lr.map fun x => (x.1, x.2.solid)) s = true
 | [], _, _, h, _ => by cases h
 | (k, q) :: l, s, r, h, hs => by
  simp only [mkR] at h
  unfold solB
  simp only [List.map_cons, List.any_cons, Bool.or_eq_true, Bool.and_eq_true, beq_iff_eq]
  by_cases e : s = k
  ·subst e
   rw [upd_same] at h; injection h with h; subst h
   exact .inl ⟨rfl, hs⟩
  ·rw [upd_ne _ _ e] at h
   exact .inr (solOf h hs)

theorem upB_spec : ∀ {n : Nat} {f : Nat → Bool}, upB n f = true → ∀ j, j < n → f j = true
 | 0, _, _, j, h => by omega
 | n + 1, f, h, j, hj => by
  simp only [upB, Bool.and_eq_true] at h
  by_cases e : j = n
  ·subst e; exact h.1
  ·exact upB_spec h.2 j (by omega)
theorem nodB_spec : ∀ {l : List Nat}, nodB l = true → l.Nodup
 | [], _ => List.nodup_nil
 | a :: l, h => by
  simp only [nodB, Bool.and_eq_true, Bool.not_eq_true', List.contains_eq_mem, decide_eq_false_iff_not] at h
  exact List.nodup_cons.2 ⟨h.1, nodB_spec h.2⟩
theorem lk_mem : ∀ {G : List (Nat × Option Nat)} {s : Nat} {v : Option Nat}, lk G s = some v → (s, v) ∈ G
 | [], s, v, h => by cases h
 | (k, u) :: l, s, v, h => by
  simp only [lk] at h
  split at h
  ·rename_i e
   injection h with h
   subst e h
   simp
  ·exact List.mem_cons_of_mem _ (lk_mem h)
theorem srcs_mem : ∀ {G : List (Nat × Option Nat)} {s s' : Nat}, (s, some s') ∈ G → s' ∈ srcs G
 | [], _, _, h => by cases h
 | (k, some u) :: l, s, s', h => by
  simp only [srcs]
  rcases List.mem_cons.1 h with h | h
  ·injection h with _ h; injection h with h; subst h; simp
  ·exact List.mem_cons_of_mem _ (srcs_mem h)
 | (k, none) :: l, s, s', h => by
  simp only [srcs]
  rcases List.mem_cons.1 h with h | h
  ·injection h with _ h; cases h
  ·exact srcs_mem h
theorem srcs_inj : ∀ {G : List (Nat × Option Nat)} {s t u : Nat}, (srcs G).Nodup → (s, some u) ∈ G → (t, some u) ∈ G → s = t
 | [], _, _, _, _, h, _ => by cases h
 | (k, none) :: l, s, t, u, hn, h1, h2 => by
  rcases List.mem_cons.1 h1 with h1 | h1
  ·injection h1 with _ h1; cases h1
  rcases List.mem_cons.1 h2 with h2 | h2
  ·injection h2 with _ h2; cases h2
  exact srcs_inj (G := l) hn h1 h2
 | (k, some v) :: l, s, t, u, hn, h1, h2 => by
  simp only [srcs] at hn
  obtain ⟨n1, n2⟩ := List.nodup_cons.1 hn
  rcases List.mem_cons.1 h1 with q1 | q1
  ·injection q1 with a1 b1; injection b1 with b1; subst b1
   rcases List.mem_cons.1 h2 with q2 | q2
   ·injection q2 with a2 b2; rw [a1, a2]
   ·exact absurd (srcs_mem (G := l) q2) n1
  ·rcases List.mem_cons.1 h2 with q2 | q2
   ·injection q2 with a2 b2; injection b2 with b2; subst b2
    exact absurd (srcs_mem (G := l) q1) n1
   ·exact srcs_inj n2 q1 q2

def canP (g : GMap) (ρ : Plc) : Plc := fun s => match g s with | some (some s0) => ρ s0 | some none => some ⟨0, 0, 0, true⟩ | none => none
section
variable {C : Ctx} {T : Nat → AV} {R : Nat → Option Row} {b : Nat} {M : Imm} {ρ : Plc} {a : Act} {w : World}
theorem canP_row {g : GMap} {s s' : Nat} (h : g s' = some (some s)) : canP g ρ s' = ρ s := by unfold canP; rw [h]
theorem canP_nil {g : GMap} {s' : Nat} (h : g s' = some none) : canP g ρ s' = some ⟨0, 0, 0, true⟩ := by unfold canP; rw [h]

theorem lent_le (h : Rel C M ρ ⟨T, R, b⟩ a w) (fz : List Nat) : M.le (lentM M ρ (fzF fz R) [] w) := by
 intro b o v hM
 unfold lentM
 rw [if_neg]
 ·exact hM
 ·rintro ⟨s, cs, x, ⟨E, sz, h1⟩, h2, h3, hn, h4, h5⟩
  rcases h1 with h1 | h1
  ·have h1' : R s = some (.row E sz cs) := by
    unfold fzF at h1; split at h1
    ·exact h1
    ·cases h1
   exact h.mr.apt b o v s _ x hM h1' rfl h3 hn h4
  ·have h1' : R s = some (.tab E sz cs) := by
    unfold fzF at h1; split at h1
    ·exact h1
    ·cases h1
   exact h.mr.apt b o v s _ x hM h1' rfl h3 hn h4
theorem fzF_some {fz : List Nat} {s : Nat} {r : Row} (h : fzF fz R s = some r) : R s = some r ∧ s ∈ fz := by
 unfold fzF at h
 split at h
 ·rename_i hc; exact ⟨h, by simpa using hc⟩
 ·cases h
theorem fzL {fz : List Nat} {s : Nat} {cs : List AV} (h : Lnt (fzF fz R) s cs) : ∃ r, R s = some r ∧ r.solid = true ∧ s ∈ fz := by
 obtain ⟨E, sz, h | h⟩ := h
 ·exact ⟨_, (fzF_some h).1, rfl, (fzF_some h).2⟩
 ·exact ⟨_, (fzF_some h).1, rfl, (fzF_some h).2⟩
/-- What lies in a slice that is frozen. -/
theorem fzAny (h : Rel C M ρ ⟨T, R, b⟩ a w) {fz : List Nat} {s : Nat} {cs : List AV} {x : At} (hl : Lnt (fzF fz R) s cs) (hx : ρ s = some x) (hn : x.nl = false) :
  ∃ (E sz : Nat) (xs : List Value), w.ownsRow 0 E sz (.slice (some ⟨x.g, 0, none⟩) x.n x.cap) x.n xs ∧ cs.length = xs.length ∧ (∀ v ∈ xs, v.oneCell' = true) := by
 obtain ⟨E, sz, hs | hs⟩ := hl
 ·obtain ⟨y, hy, hY⟩ := h.mr.row s _ (fzF_some hs).1 rfl
  rw [hx] at hy; injection hy with hy; subst hy
  rcases hY with ⟨h, _⟩ | ⟨_, xs, a1, a2, a3, _⟩
  ·rw [hn] at h; cases h
  ·exact ⟨E, sz, xs, a1, a2, a3⟩
 ·obtain ⟨y, hy, hY⟩ := h.mr.row s _ (fzF_some hs).1 rfl
  rw [hx] at hy; injection hy with hy; subst hy
  rcases hY with ⟨h, _⟩ | ⟨_, xs, a1, a2, a3, _⟩
  ·rw [hn] at h; cases h
  ·exact ⟨E, sz, xs, a1, a2, a3⟩
theorem fzCell {fz : List Nat} {s : Nat} {cs : List AV} {x : At} {xs : List Value} {E sz : Nat} (hl : Lnt (fzF fz R) s cs) (hx : ρ s = some x) (hn : x.nl = false) (h1 : w.ownsRow 0 E sz (.slice (some ⟨x.g, 0, none⟩) x.n x.cap) x.n xs) (h2 : cs.length = xs.length) :
  ∀ i, i < cs.length → lentM M ρ (fzF fz R) [] w x.g i = some (xs.getD i undef) := fun i hi => by
 unfold lentM
 rw [if_pos ⟨s, cs, _, hl, by simp, hx, hn, rfl, hi⟩]
 have hi' : i < xs.length := by omega
 have := World.ownsRow.cells h1 (g := x.g) rfl i _ (List.getElem?_eq_getElem hi')
 rw [add_off, Nat.zero_add] at this
 simpa [hi'] using this
theorem capOf' {x : At} {xs : List Value} {E sz : Nat} (h1 : w.ownsRow 0 E sz (.slice (some ⟨x.g, 0, none⟩) x.n x.cap) x.n xs) : x.n ≤ x.cap := by
 rcases h1.2 with ⟨hn, _⟩ | ⟨g', cap', cur, hvv, hb, hg, hcap, _⟩
 ·cases hn
 ·injection hvv with _ _ q3; omega
theorem ltOf' {cs : List AV} {i : Nat} {c : AV} (hc : cs[i]? = some c) : i < cs.length := by
 rcases Nat.lt_or_ge i cs.length with h' | h'
 ·exact h'
 ·rw [List.getElem?_eq_none h'] at hc; cases hc
/-- A slice of the call's own that is frozen. -/
theorem frozen_pv (h : Rel C M ρ ⟨T, R, b⟩ a w) (fz : List Nat) {s n E sz : Nat} {cs : List AV} {v : Value} (hv : VR M ρ (.own s n) v) (hF : fzF fz R s = some (.row E sz cs)) : PV (lentM M ρ (fzF fz R) [] w) (.sl cs n) v := by
 have hrow := (fzF_some hF).1
 obtain ⟨y, hy, hY⟩ := h.mr.row s _ hrow rfl
 have hle := lent_le h fz
 obtain ⟨g, cap, ⟨hs, rfl⟩ | ⟨hs, hn0, rfl⟩⟩ := hv.own_inv
 ·rw [hs] at hy; injection hy with hy; subst hy
  rcases hY with ⟨hn, _⟩ | ⟨_, xs, h1, h2, h3, h4⟩
  ·cases hn
  refine .sl cs n _ cap g 0 (fun i => xs.getD i undef) (fun _ => rfl) (capOf' h1) (fun i c hc => ?_) (fun i c hc => ?_)
  ·rw [Nat.zero_add]; exact fzCell ⟨_, _, .inl hF⟩ hs rfl h1 h2 i (ltOf' hc)
  ·have hi' : i < xs.length := by have := ltOf' hc; omega
   have := (h4 i c _ hc (List.getElem?_eq_getElem hi')).mono hle
   simpa [hi'] using this
 ·rw [hs] at hy; injection hy with hy; subst hy
  rcases hY with ⟨_, rfl, _⟩ | ⟨hn, _⟩
  ·subst hn0
   exact .sl [] 0 none 0 0 0 (fun _ => undef) (fun h => by omega) (Nat.le_refl _) (fun i c hc => by simp at hc) (fun i c hc => by simp at hc)
  ·cases hn
theorem frozen_ok (h : Rel C M ρ ⟨T, R, b⟩ a w) (fz : List Nat) {s n E sz : Nat} {cs : List AV} {v : Value} {σ : Plc} (hv : VR M ρ (.own s n) v) (hF : fzF fz R s = some (.row E sz cs)) : VR (lentM M ρ (fzF fz R) [] w) σ (.sl cs n) v := .plain (frozen_pv h fz hv hF)
theorem frozen0 (h : Rel C M ρ ⟨T, R, b⟩ a w) (fz : List Nat) {c : AV} {v : Value} (hv : VR M ρ c v) : PV (lentM M ρ (fzF fz R) [] w) (pass0 [] (fzF fz R) c) v := by
 have hle := lent_le h fz
 by_cases hown : ∃ s n, c = .own s n
 ·obtain ⟨s, n, rfl⟩ := hown
  simp only [pass0, findI]
  split
  ·rename_i E sz cs hrow
   exact frozen_pv h fz hv hrow
  ·exact .top _
 ·cases hv with
  | plain hv =>
   cases hv <;> first
    | exact .top _
    | exact .int ..
    | exact .bool ..
    | exact .str ..
    | exact .nil
    | exact PV.mono hle (.sl _ _ _ _ _ _ _ (by assumption) (by assumption) (by assumption) (by assumption))
    | exact PV.mono hle (.eptr _ _ _ _ (by assumption) (by assumption))
  | own s g n cap h => exact absurd ⟨_, _, rfl⟩ hown
  | ownl s g cap h => exact absurd ⟨_, _, rfl⟩ hown
  | ptr s off x h hx => exact .top _
  | agg => exact .top _
  | tup => exact .top _
  | fn => exact .top _
/-- A table of the call's own that is frozen. -/
theorem frozen_tab (h : Rel C M ρ ⟨T, R, b⟩ a w) (fz : List Nat) {s n E sz : Nat} {cs : List AV} {v : Value} {σ : Plc} (hv : VR M ρ (.own s n) v) (hF : fzF fz R s = some (.tab E sz cs)) : VR (lentM M ρ (fzF fz R) [] w) σ (.sl (cs.map (pass0 [] (fzF fz R))) n) v := by
 have hrow := (fzF_some hF).1
 obtain ⟨y, hy, hY⟩ := h.mr.row s _ hrow rfl
 obtain ⟨g, cap, ⟨hs, rfl⟩ | ⟨hs, hn0, rfl⟩⟩ := hv.own_inv
 ·rw [hs] at hy; injection hy with hy; subst hy
  rcases hY with ⟨hn, _⟩ | ⟨_, xs, h1, h2, h3, h4⟩
  ·cases hn
  refine .plain (.sl _ n _ cap g 0 (fun i => xs.getD i undef) (fun _ => rfl) (capOf' h1) (fun i c hc => ?_) (fun i c hc => ?_))
  ·rw [Nat.zero_add]
   have hi := ltOf' hc
   rw [List.length_map] at hi
   exact fzCell ⟨_, _, .inr hF⟩ hs rfl h1 h2 i hi
  ·rw [List.getElem?_map] at hc
   cases hq : cs[i]? with
   | none => rw [hq] at hc; cases hc
   | some q =>
    rw [hq] at hc; injection hc with hc; subst hc
    have hi' : i < xs.length := by have := ltOf' hq; omega
    have := frozen0 h fz (h4 i q _ hq (List.getElem?_eq_getElem hi'))
    simpa [hi'] using this
 ·rw [hs] at hy; injection hy with hy; subst hy
  rcases hY with ⟨_, rfl, _⟩ | ⟨hn, _⟩
  ·subst hn0
   exact .plain (.sl [] 0 none 0 0 0 (fun _ => undef) (fun h => by omega) (Nat.le_refl _) (fun i c hc => by simp at hc) (fun i c hc => by simp at hc))
  ·cases hn
theorem cv1_ok (h : Rel C M ρ ⟨T, R, b⟩ a w) (fz : List Nat) {g : GMap} {c c' : AV} {v : Value} (hv : VR M ρ c v) (hc : cv1 g (fzF fz R) c c') : VR (lentM M ρ (fzF fz R) [] w) (canP g ρ) c' v := by
 have hle := lent_le h fz
 unfold cv1 at hc
 split at hc
 ·exact .plain (.top _)
 ·obtain ⟨hg, rfl⟩ := hc
  obtain ⟨g0, cap, ⟨hs, rfl⟩ | ⟨hs, hn0, rfl⟩⟩ := hv.own_inv
  ·exact .own _ g0 _ cap (by rw [canP_row hg]; exact hs)
  ·subst hn0
   exact .ownl _ g0 cap (by rw [canP_row hg]; exact hs)
 ·obtain ⟨hg, rfl⟩ := hc
  obtain rfl := hv.nil_inv
  exact .ownl _ 0 0 (canP_nil hg)
 ·obtain ⟨hg, rfl⟩ := hc
  obtain ⟨x, hx, hn, rfl⟩ := hv.ptr_inv
  exact .ptr _ _ x (by rw [canP_row hg]; exact hx) hn
 ·obtain ⟨rfl, rfl⟩ := hc
  exact .plain (hv.sl_inv.mono hle)
 ·obtain ⟨rfl, rfl⟩ := hc
  obtain rfl := hv.nil_inv
  exact .plain (.sl [] 0 none 0 0 0 (fun _ => undef) (fun h => by omega) (Nat.le_refl _) (fun i c hc => by simp at hc) (fun i c hc => by simp at hc))
 ·obtain ⟨hf, rfl⟩ := hc
  unfold fz1 at hf
  split at hf
  ·rename_i E sz cs hF
   subst hf
   exact frozen_ok h fz hv hF
  ·rename_i E sz cs hF
   subst hf
   exact frozen_tab h fz hv hF
  ·exact hf.elim
 ·obtain ⟨rfl, rfl⟩ := hc
  obtain rfl := hv.int_inv
  exact .plain (.int ..)
 ·subst hc
  obtain rfl := hv.bool_inv
  exact .plain (.bool ..)
 ·subst hc
  cases hv with
  | plain hv => exact .plain (hv.mono hle)
 ·obtain rfl := hv.nil_inv
  exact .plain .nil
 ·subst hc
  exact .plain (hv.eptr_inv.mono hle)
 ·obtain ⟨rfl, hc⟩ := hc
  obtain ⟨us, rfl, hl, hus⟩ := hv.fn_inv
  obtain ⟨e1, e2⟩ := cvP_get hc
  refine .fn _ _ us (by omega) (fun i s' v hs' hv' => ?_)
  obtain ⟨s, hs, hg⟩ := e2 i s' hs'
  obtain ⟨x, hx, hn, rfl⟩ := (hus i s v hs hv').ptr_inv
  exact .ptr _ _ x (by rw [canP_row hg]; exact hx) hn
 ·exact hc.elim
theorem cvL_get {g : GMap} {F : Nat → Option Row} : ∀ {cs cs' : List AV}, cvL g F cs cs' → cs.length = cs'.length ∧ ∀ (i : Nat) (c' : AV), cs'[i]? = some c' → ∃ c, cs[i]? = some c ∧ cv1 g F c c'
 | [], [], _ => ⟨rfl, fun i c h => by simp at h⟩
 | c :: cs, c' :: cs', h => by
  obtain ⟨h1, h2⟩ := cvL_get h.2
  refine ⟨by simp [h1], fun i q hq => ?_⟩
  cases i with
  | zero => simp only [List.getElem?_cons_zero, Option.some.injEq] at hq; subst hq; exact ⟨c, rfl, h.1⟩
  | succ i => exact h2 i q (by simpa using hq)
 | [], _ :: _, h => h.elim
 | _ :: _, [], h => h.elim
theorem cvV_ok (h : Rel C M ρ ⟨T, R, b⟩ a w) (fz : List Nat) {g : GMap} {c c' : AV} {v : Value} (hv : VR M ρ c v) (hc : cvV g (fzF fz R) c c') : VR (lentM M ρ (fzF fz R) [] w) (canP g ρ) c' v := by
 unfold cvV at hc
 split at hc
 ·rename_i cs cs'
  obtain ⟨vs, rfl, hl, h1, h2⟩ := hv.agg_inv
  obtain ⟨e1, e2⟩ := cvL_get hc
  refine .agg _ _ (by omega) h1 (fun i c' u hc' hu => ?_)
  obtain ⟨c, hc, hcc⟩ := e2 i c' hc'
  exact cv1_ok h fz (h2 i c u hc hu) hcc
 ·exact cv1_ok h fz hv hc
theorem cvT_get {g : GMap} {F : Nat → Option Row} : ∀ {cs cs' : List AV}, cvT g F cs cs' → cs.length = cs'.length ∧ ∀ (i : Nat) (c' : AV), cs'[i]? = some c' → ∃ c, cs[i]? = some c ∧ cvV g F c c'
 | [], [], _ => ⟨rfl, fun i c h => by simp at h⟩
 | c :: cs, c' :: cs', h => by
  obtain ⟨h1, h2⟩ := cvT_get h.2
  refine ⟨by simp [h1], fun i q hq => ?_⟩
  cases i with
  | zero => simp only [List.getElem?_cons_zero, Option.some.injEq] at hq; subst hq; exact ⟨c, rfl, h.1⟩
  | succ i => exact h2 i q (by simpa using hq)
 | [], _ :: _, h => h.elim
 | _ :: _, [], h => h.elim
theorem cvW_ok (h : Rel C M ρ ⟨T, R, b⟩ a w) (fz : List Nat) {g : GMap} {c c' : AV} {v : Value} (hv : VR M ρ c v) (hc : cvW g (fzF fz R) c c') : VR (lentM M ρ (fzF fz R) [] w) (canP g ρ) c' v := by
 unfold cvW at hc
 split at hc
 ·rename_i cs cs'
  obtain ⟨vs, rfl, hl, h2⟩ := hv.tup_inv
  obtain ⟨e1, e2⟩ := cvT_get hc
  refine .tup _ _ (by omega) (fun i c' u hc' hu => ?_)
  obtain ⟨c, hc, hcc⟩ := e2 i c' hc'
  exact cvV_ok h fz (h2 i c u hc hu) hcc
 ·exact cvV_ok h fz hv hc
theorem leT_get {g : GMap} {F : Nat → Option Row} : ∀ {l : List (Nat × AV)}, leT g F T l → ∀ t, mkT l t = .top ∨ cvW g F (T t) (mkT l t)
 | [], _, t => .inl rfl
 | (k, v) :: l, h, t => by
  obtain ⟨h1, h2⟩ := h
  simp only [mkT]
  by_cases e : t = k
  ·subst e; rw [upd_same]; exact .inr h1
  ·rw [upd_ne _ _ e]; exact leT_get h2 t
theorem leR_get {g : GMap} {F : Nat → Option Row} : ∀ {l : List (Nat × Row)}, leR g F R l → ∀ s r, mkR l s = some r → rowK g F R (g s) r
 | [], _, s, r, h => by cases h
 | (k, q) :: l, h, s, r, hs => by
  obtain ⟨h1, h2⟩ := h
  simp only [mkR] at hs
  by_cases e : s = k
  ·subst e; rw [upd_same] at hs; injection hs with hs; subst hs; exact h1
  ·rw [upd_ne _ _ e] at hs; exact leR_get h2 s r hs
theorem mkR_none : ∀ {l : List (Nat × Row)} {s : Nat}, mkR l s = none → s ∉ l.map (·.1)
 | [], s, _ => by simp
 | (k, q) :: l, s, h => by
  simp only [mkR] at h
  by_cases e : s = k
  ·subst e; rw [upd_same] at h; cases h
  ·rw [upd_ne _ _ e] at h
   simp only [List.map_cons, List.mem_cons, not_or]
   exact ⟨e, mkR_none h⟩
/-- What a solid canonical row comes from. -/
theorem rowK_solid {g : GMap} {F : Nat → Option Row} {o : Option (Option Nat)} {r' : Row} (h : rowK g F R o r') (hs : r'.solid = true) : (∃ s r, o = some (some s) ∧ R s = some r ∧ r.solid = true ∧ cvR g F r r') ∨ (o = some none ∧ ∃ E sz, r' = .row E sz [] ∨ r' = .tab E sz []) := by
 unfold rowK at h
 split at h
 ·rename_i s
  unfold rowR at h
  split at h
  ·rename_i r hr
   refine .inl ⟨s, r, rfl, hr, ?_, h⟩
   unfold cvR at h
   split at h
   ·rfl
   ·rfl
   ·rfl
   ·rfl
   ·cases hs
   ·exact h.elim
  ·cases hs
  ·exact h.elim
 ·subst h; exact .inr ⟨rfl, _, _, .inl rfl⟩
 ·subst h; exact .inr ⟨rfl, _, _, .inr rfl⟩
 ·cases hs
 ·exact h.elim
theorem Le_can {k : Nat} {b' : Nat} {lt : List (Nat × AV)} {lr : List (Nat × Row)} (G : List (Nat × Option Nat)) (fz : List Nat) (hρ : ∀ s, k ≤ s → C.ρ0 s = none) (hG : gOK k G fz (lr.map fun x => (x.1, x.2.solid)) = true)
  (hT : leT (lk G) (fzF fz R) T lt) (hR : leR (lk G) (fzF fz R) R lr) : Le C ⟨T, R, b⟩ ⟨mkT lt, mkR lr, b'⟩ := by
 intro M ρ a w h
 unfold gOK at hG
 simp only [Bool.and_eq_true] at hG
 obtain ⟨⟨⟨⟨g1, g2⟩, g3⟩, g4⟩, g5⟩ := hG
 have hle := lent_le h fz
 have ginj : ∀ {s t u : Nat} {r r' : Row}, mkR lr s = some r → r.solid = true → mkR lr t = some r' → r'.solid = true → lk G s = some (some u) → lk G t = some (some u) → s = t := fun m1 m2 m3 m4 h1 h2 => srcs_inj (nodB_spec g2) (List.mem_filter.2 ⟨lk_mem h1, solOf m1 m2⟩) (List.mem_filter.2 ⟨lk_mem h2, solOf m3 m4⟩)
 have gfz : ∀ {s u : Nat} {r : Row}, mkR lr s = some r → r.solid = true → lk G s = some (some u) → u ∉ fz := fun m1 m2 h1 => by
  have := List.all_eq_true.1 g4 _ (srcs_mem (List.mem_filter.2 ⟨lk_mem h1, solOf m1 m2⟩))
  simpa using this
 have sol : ∀ {s r}, mkR lr s = some r → r.solid = true → (∃ s0 r0, lk G s = some (some s0) ∧ R s0 = some r0 ∧ r0.solid = true ∧ cvR (lk G) (fzF fz R) r0 r) ∨ (lk G s = some none ∧ ∃ E sz, r = .row E sz [] ∨ r = .tab E sz []) :=
  fun hr hs => rowK_solid (leR_get hR _ _ hr) hs
 -- rows that lie somewhere come from rows
 have src : ∀ {s r x}, mkR lr s = some r → r.solid = true → canP (lk G) ρ s = some x → x.nl = false → ∃ s0 r0, lk G s = some (some s0) ∧ R s0 = some r0 ∧ r0.solid = true ∧ ρ s0 = some x := by
  intro s r x hr hs hx hn
  rcases sol hr hs with ⟨s0, r0, e1, e2, e3, e4⟩ | ⟨e1, _⟩
  ·rw [canP_row e1] at hx
   exact ⟨s0, r0, e1, e2, e3, hx⟩
  ·rw [canP_nil e1] at hx; injection hx with hx; subst hx; cases hn
 refine ⟨lentM M ρ (fzF fz R) [] w, canP (lk G) ρ, fun t => ?_, h.N, h.df, ⟨fun s r hs hsol => ?_, fun s s' r r' x x' hs hs' h1 h2 hx hx' hne hn hn' => ?_, fun b o v hM => ?_, fun b o v s r x hM hs hsol hx hn => ?_⟩, h.chg, fun s r x hs hsol hx hn => ?_, Imm.le_trans h.m0 hle, fun s x hs => ?_, fun b hb hD => ?_, fun s hs => ?_⟩
 ·show VR _ (canP (lk G) ρ) (mkT lt t) _
  rcases leT_get hT t with e | e
  ·rw [e]; exact .plain (.top _)
  ·exact cvW_ok h fz (h.tm t) e
 ·have hs : mkR lr s = some r := hs
  rcases sol hs hsol with ⟨s0, r0, e1, e2, e3, e4⟩ | ⟨e1, E, sz, rfl | rfl⟩
  ·obtain ⟨x, hx, hX⟩ := h.mr.row s0 r0 e2 e3
   refine ⟨x, by rw [canP_row e1]; exact hx, ?_⟩
   unfold cvR at e4
   split at e4
   ·obtain ⟨rfl, hL⟩ := e4
    obtain ⟨h0, arr, a1, a2, a3, a4⟩ := hX
    obtain ⟨l1, l2⟩ := cvL_get hL
    refine ⟨h0, arr, a1, by omega, a3, fun i c' v hc hv => ?_⟩
    obtain ⟨c, hc', hcc⟩ := l2 i c' hc
    exact cv1_ok h fz (a4 i c v hc' hv) hcc
   ·obtain ⟨rfl, rfl, rfl⟩ := e4
    rcases hX with hX | ⟨h0, xs, a1, a2, a3, a4⟩
    ·exact .inl hX
    ·exact .inr ⟨h0, xs, a1, a2, a3, fun i c v hc hv => (a4 i c v hc hv).mono hle⟩
   ·obtain ⟨rfl, rfl, hL⟩ := e4
    obtain ⟨l1, l2⟩ := cvL_get hL
    rcases hX with ⟨a1, a2, a3⟩ | ⟨h0, xs, a1, a2, a3, a4⟩
    ·subst a2
     exact .inl ⟨a1, List.eq_nil_of_length_eq_zero (by simpa using l1.symm), a3⟩
    ·refine .inr ⟨h0, xs, a1, by omega, a3, fun i c' v hc hv => ?_⟩
     obtain ⟨c, hc', hcc⟩ := l2 i c' hc
     exact cv1_ok h fz (a4 i c v hc' hv) hcc
   ·obtain ⟨rfl, rfl, hL⟩ := e4
    obtain ⟨l1, l2⟩ := cvL_get hL
    rcases hX with ⟨a1, a2, a3⟩ | ⟨h0, xs, a1, a2, a3, a4⟩
    ·subst a2
     exact .inl ⟨a1, List.eq_nil_of_length_eq_zero (by simpa using l1.symm), a3⟩
    ·refine .inr ⟨h0, xs, a1, by omega, a3, fun i c' v hc hv => ?_⟩
     obtain ⟨c, hc', hcc⟩ := l2 i c' hc
     exact cv1_ok h fz (.plain (a4 i c v hc' hv)) hcc
   ·cases hsol
   ·exact e4.elim
  ·exact ⟨_, canP_nil e1, .inl ⟨rfl, rfl, rfl⟩⟩
  ·exact ⟨_, canP_nil e1, .inl ⟨rfl, rfl, rfl⟩⟩
 ·obtain ⟨s0, r0, e1, e2, e3, e4⟩ := src hs h1 hx hn
  obtain ⟨s0', r0', e1', e2', e3', e4'⟩ := src hs' h2 hx' hn'
  refine h.mr.inj s0 s0' r0 r0' x x' e2 e2' e3 e3' e4 e4' (fun e => hne ?_) hn hn'
  subst e
  exact ginj hs h1 hs' h2 e1 e1'
 ·unfold lentM at hM
  split at hM
  ·rename_i hc
   obtain ⟨s, cs, x, h1, h2, h3, hn, h4, h5⟩ := hc
   subst h4
   obtain ⟨_, _, xs, k1, k2, k3⟩ := fzAny h h1 h3 hn
   have hi' : o < xs.length := by omega
   have := World.ownsRow.cells k1 (g := x.g) rfl o _ (List.getElem?_eq_getElem hi')
   rw [add_off, Nat.zero_add] at this
   rw [this] at hM
   injection hM with hM; subst hM
   exact ⟨this, immOk_row k1 (k3 _ (List.getElem_mem hi'))⟩
  ·exact h.mr.imm b o v hM
 ·obtain ⟨s0, r0, e1, e2, e3, e4⟩ := src hs hsol hx hn
  unfold lentM at hM
  split at hM
  ·rename_i hc
   obtain ⟨s', cs, x', h1, h2, h3, hn', h4, h5⟩ := hc
   subst h4
   obtain ⟨r1, hrow, hsl, hmem⟩ := fzL h1
   exact h.mr.inj s0 s' r0 r1 x x' e2 hrow e3 hsl e4 h3 (fun e => gfz hs hsol e1 (e ▸ hmem)) hn hn'
  ·exact h.mr.apt b o v s0 r0 x hM e2 e3 e4 hn
 ·obtain ⟨s0, r0, e1, e2, e3, e4⟩ := src hs hsol hx hn
  exact h.new s0 r0 x e2 e3 e4 hn
 ·have hlt : s < k := by
   rcases Nat.lt_or_ge s k with h' | h'
   ·exact h'
   ·rw [hρ s h'] at hs; cases hs
  have hg := upB_spec g1 s hlt
  have hg : lk G s = some (some s) := by
   cases hq : lk G s with
   | none => rw [hq] at hg; cases hg
   | some u =>
    cases u with
    | none => rw [hq] at hg; cases hg
    | some u => rw [hq] at hg; simp only [isIt, beq_iff_eq] at hg; rw [hg]
  rw [canP_row hg]
  exact h.r0 s x hs
 ·have hnone : ¬ ∃ s cs x, Lnt (fzF fz R) s cs ∧ s ∉ ([] : List Nat) ∧ ρ s = some x ∧ x.nl = false ∧ x.g = b := by
   rintro ⟨s, cs, x, h1, h2, h3, hn, rfl⟩
   obtain ⟨r1, hrow, hsl, hmem⟩ := fzL h1
   rcases h.new s r1 x hrow hsl h3 hn with h' | h'
   ·exact hD h'
   ·omega
  rw [← h.mold b hb hD]
  funext o
  unfold lentM
  rw [if_neg]
  rintro ⟨s, cs, x, h1, h2, h3, hn, h4, _⟩
  exact hnone ⟨s, cs, x, h1, h2, h3, hn, h4⟩
 ·have hs : mkR lr s = none := hs
  have hk := mkR_none hs
  unfold canP
  cases hq : lk G s with
  | none => rfl
  | some u =>
   exfalso
   have hm := List.all_eq_true.1 g5 s (List.mem_map.2 ⟨_, lk_mem hq, rfl⟩)
   obtain ⟨p, hp, he⟩ := List.any_eq_true.1 hm
   obtain ⟨x, hx, rfl⟩ := List.mem_map.1 hp
   exact hk (List.mem_map.2 ⟨x, hx, by simpa using he⟩)
end
def enumR : Nat → List Row → List (Nat × Row)
 | _, [] => []
 | k, r :: l => (k, r) :: enumR (k + 1) l
theorem mkR_enum : ∀ (l : List Row) (k s : Nat), mkR (enumR k l) s = if k ≤ s then l[s - k]? else none
 | [], k, s => by simp [enumR, mkR]
 | r :: l, k, s => by
  simp only [enumR, mkR]
  by_cases e : s = k
  ·subst e; rw [upd_same, if_pos (Nat.le_refl _), Nat.sub_self]; rfl
  ·rw [upd_ne _ _ e, mkR_enum l (k + 1) s]
   by_cases h : k + 1 ≤ s
   ·rw [if_pos h, if_pos (by omega), show s - k = (s - (k + 1)) + 1 by omega, List.getElem?_cons_succ]
   ·rw [if_neg h, if_neg (by omega)]
/-- A contract whose result is taken in another form: slices frozen, rows dropped. -/
theorem Spec.can {P : Program} {f : FuncId} {args : List AV} {mem mem' mem2 : List Row} {ret ret2 : AV} (h : Spec P f args mem ret mem') (G : List (Nat × Option Nat)) (fz : List Nat)
  (hG : gOK mem.length G fz ((enumR 0 mem2).map fun x => (x.1, x.2.solid)) = true) (hT : cvW (lk G) (fzF fz (rowsOf mem')) ret ret2) (hR : leR (lk G) (fzF fz (rowsOf mem')) (rowsOf mem') (enumR 0 mem2)) : Spec P f args mem ret2 mem2 := by
 refine ⟨h.1, fun M ρ w vs hmr hρ hlen hvs => (h.2 M ρ w vs hmr hρ hlen hvs).mono ?_⟩
 rintro e w' ⟨v, M', ρ', rfl, q1, q2, q3, q4, q5, q6, q7, q8⟩
 let C : Ctx := ⟨w, DOf ρ (rowsOf mem), M, ρ, 1⟩
 have hRel : Rel C M' ρ' ⟨fun t => if t = 0 then ret else .top, rowsOf mem', 0⟩ { tmps := #[v], defers := [] } w' := by
  refine ⟨fun t => ?_, rfl, rfl, q3, q6, q8, q1, q2, q7, fun s hs => ?_⟩
  ·by_cases e : t = 0
   ·subst e; simpa using q5
   ·simp only [if_neg e]; exact .plain (.top _)
  ·have hs : mem'[s]? = none := hs
   exact q4 s (by simpa using hs)
 have hrows : mkR (enumR 0 mem2) = rowsOf mem2 := by
  funext s
  rw [mkR_enum]; simp [rowsOf]
 obtain ⟨M2, ρ2, hR2⟩ := Le_can (C := C) (k := mem.length) (b' := 0) (lt := [(0, ret2)]) (lr := enumR 0 mem2) G fz hρ hG ⟨by simpa using hT, trivial⟩ hR M' ρ' _ w' hRel
 rw [hrows] at hR2
 refine ⟨v, M2, ρ2, rfl, hR2.m0, hR2.r0, hR2.mr, fun s hs => ?_, ?_, hR2.chg, hR2.mold, hR2.new⟩
 ·have hn : rowsOf mem2 s = none := by unfold rowsOf; simpa using hs
  exact hR2.fr s hn
 ·have := hR2.tm 0
  simpa [mkT, upd] using this
end Go.Proofs.Ytfjopjalhllplaa
/- The engine, part 17: words for walks that a program prints. Over any program. -/
namespace Go.Proofs.Ytfjopjalhllplaa
open Go.RowKit
set_option linter.unusedVariables false
set_option linter.unusedSimpArgs false

def FU : Nat := 4194304
section
variable {α β : Type}
def bO (x : Option α) (k : α → Option β) : Option β := match x with
 | some a => k a
 | none => none
def gd (p : Bool) (k : Option β) : Option β := match p with
 | true => k
 | false => none
def br (b : Bool) (x y : Option β) : Option β := match b with
 | true => x
 | false => y
def geti (l : List α) (i : Int) : Option α := if 0 ≤ i ∧ i < (l.length : Int) then l[i.toNat]? else none
def slc (l : List α) (a b : Int) : Option (List α) := if 0 ≤ a ∧ a ≤ b ∧ b ≤ (l.length : Int) then some ((l.drop a.toNat).take (b.toNat - a.toNat)) else none
theorem bO_inv {x : Option α} {k : α → Option β} {r : β} (h : bO x k = some r) : ∃ a, x = some a ∧ k a = some r := by
 cases x with
 | none => cases h
 | some a => exact ⟨a, rfl, h⟩
theorem gd_inv {p : Bool} {k : Option β} {r : β} (h : gd p k = some r) : p = true ∧ k = some r := by
 cases p with
 | false => cases h
 | true => exact ⟨rfl, h⟩
theorem br_inv {b : Bool} {x y : Option β} {r : β} (h : br b x y = some r) : (b = true ∧ x = some r) ∨ (b = false ∧ y = some r) := by
 cases b with
 | false => exact .inr ⟨rfl, h⟩
 | true => exact .inl ⟨rfl, h⟩
theorem geti_inv {l : List α} {i : Int} {q : α} (h : geti l i = some q) : (0 ≤ i ∧ i < (l.length : Int)) ∧ l[i.toNat]? = some q := by
 unfold geti at h
 split at h
 ·exact ⟨by assumption, h⟩
 ·cases h
theorem br_t {x y : Option β} {r : β} (h : br true x y = some r) : x = some r := h
theorem br_f {x y : Option β} {r : β} (h : br false x y = some r) : y = some r := h
theorem bO_some (a : α) (k : α → Option β) : bO (some a) k = k a := rfl
theorem gd_true (k : Option β) : gd true k = k := rfl
theorem br_true (x y : Option β) : br true x y = x := rfl
theorem br_false (x y : Option β) : br false x y = y := rfl

def encL (e : α → List AV) : List α → List AV
 | [] => []
 | x :: l => e x ++ encL e l
variable {e : α → List AV} {sz : Nat}
theorem encL_nil : encL e [] = [] := (rfl)
theorem encL_cons (x : α) (l : List α) : encL e (x :: l) = e x ++ encL e l := (rfl)
theorem encL_app : ∀ l m : List α, encL e (l ++ m) = encL e l ++ encL e m
 | [], m => rfl
 | x :: l, m => by simp [encL, encL_app l m]
theorem encL_len (h : ∀ x, (e x).length = sz) : ∀ l : List α, (encL e l).length = l.length * sz
 | [] => by simp [encL]
 | x :: l => by simp [encL, encL_len h l, h, Nat.add_mul]; omega
theorem encL_drop (h : ∀ x, (e x).length = sz) : ∀ (l : List α) (k : Nat), (encL e l).drop (k * sz) = encL e (l.drop k)
 | [], k => by simp [encL]
 | x :: l, 0 => by simp
 | x :: l, k + 1 => by
  have e1 : (k + 1) * sz = sz + k * sz := by rw [Nat.add_mul, Nat.one_mul, Nat.add_comm]
  have e2 : (e x ++ encL e l).drop sz = encL e l := by rw [List.drop_append, h, Nat.sub_self, List.drop_zero, List.drop_of_length_le (by rw [h]; omega), List.nil_append]
  rw [e1, ← List.drop_drop]
  show ((e x ++ encL e l).drop sz).drop (k * sz) = _
  rw [e2, encL_drop h l k, List.drop_succ_cons]
theorem encL_take (h : ∀ x, (e x).length = sz) : ∀ (l : List α) (k : Nat), (encL e l).take (k * sz) = encL e (l.take k)
 | [], k => by simp [encL]
 | x :: l, 0 => by simp [encL]
 | x :: l, k + 1 => by
  rw [Nat.add_mul, Nat.one_mul, Nat.add_comm]
  simp only [encL, List.take_succ_cons]
  rw [List.take_append, h, List.take_of_length_le (by rw [h]; omega), Nat.add_sub_cancel_left, encL_take h l k]
/-- An element that is there: the bounds, and what the cells are from there on. -/
theorem geti_E (h : ∀ x, (e x).length = sz) {l : List α} {i : Int} {q : α} (hq : geti l i = some q) : (0 ≤ i ∧ i < (l.length : Int)) ∧ (encL e l).drop (i.toNat * sz) = e q ++ encL e (l.drop (i.toNat + 1)) := by
 obtain ⟨h1, h2⟩ := geti_inv hq
 refine ⟨h1, ?_⟩
 rw [encL_drop h]
 obtain ⟨hlt, he⟩ := List.getElem?_eq_some_iff.1 h2
 rw [List.drop_eq_getElem_cons hlt, he]
 rfl
theorem geti_F (h : ∀ x, (e x).length = sz) (o : Nat) {l : List α} {i : Int} {q : α} (hq : geti l i = some q) : (encL e l).drop (i.toNat * sz + o) = (e q ++ encL e (l.drop (i.toNat + 1))).drop o := by
 rw [← (geti_E h hq).2, List.drop_drop]
theorem slc_E (h : ∀ x, (e x).length = sz) {l s : List α} {a b : Int} (hq : slc l a b = some s) : (0 ≤ a ∧ a ≤ b ∧ b ≤ (l.length : Int)) ∧ ((encL e l).drop (a.toNat * sz)).take (s.length * sz) = encL e s ∧ b.toNat - a.toNat = s.length := by
 unfold slc at hq
 split at hq
 ·rename_i hc
  injection hq with hq
  subst hq
  have hl : ((l.drop a.toNat).take (b.toNat - a.toNat)).length = b.toNat - a.toNat := by simp; omega
  exact ⟨hc, by rw [hl, encL_drop h, encL_take h], hl.symm⟩
 ·cases hq
theorem encL_splice (h : ∀ x, (e x).length = sz) : ∀ (l : List α) (k o : Nat) (q q' : α) (vs : List AV), l[k]? = some q → o + vs.length ≤ sz → e q' = spliceA (e q) o vs → spliceA (encL e l) (k * sz + o) vs = encL e (l.set k q')
 | [], k, o, q, q', vs, hq, _, _ => by simp at hq
 | x :: l, 0, o, q, q', vs, hq, ho, he => by
  simp at hq; subst hq
  simp only [encL, List.set_cons_zero, Nat.zero_mul, Nat.zero_add, he, spliceA]
  rw [List.take_append_of_le_length (by rw [h]; omega), List.drop_append_of_le_length (by rw [h]; omega)]
  simp only [List.append_assoc]
 | x :: l, k + 1, o, q, q', vs, hq, ho, he => by
  have ih := encL_splice h l k o q q' vs (by simpa using hq) ho he
  simp only [encL, List.set_cons_succ]
  rw [← ih]
  simp only [spliceA]
  have e1 : (k + 1) * sz + o = sz + (k * sz + o) := by rw [Nat.add_mul, Nat.one_mul]; omega
  rw [e1, List.take_append, List.take_of_length_le (by rw [h]; omega), h, Nat.add_sub_cancel_left, Nat.add_assoc, List.drop_append, List.drop_of_length_le (by rw [h]; omega), h, Nat.add_sub_cancel_left, List.nil_append]
  simp only [List.append_assoc]
theorem zrow_enc (z : α) : ∀ n, zrow n (e z) = encL e (List.replicate n z)
 | 0 => rfl
 | n + 1 => by simp only [zrow, List.replicate_succ, encL, zrow_enc z n]
/-- A store into an element. -/
theorem set_E (h : ∀ x, (e x).length = sz) {l : List α} {i : Int} {q : α} (q' : α) (o : Nat) (vs : List AV) (hq : geti l i = some q) (ho : o + vs.length ≤ sz) (he : e q' = spliceA (e q) o vs) :
  spliceA (encL e l) (i.toNat * sz + o) vs = encL e (l.set i.toNat q') ∧ i.toNat * sz + o + vs.length ≤ (encL e l).length := by
 obtain ⟨h1, h2⟩ := geti_inv hq
 refine ⟨encL_splice h l _ o q q' vs h2 ho he, ?_⟩
 rw [encL_len h]
 have h3 : i.toNat + 1 ≤ l.length := by omega
 have h4 : (i.toNat + 1) * sz ≤ l.length * sz := Nat.mul_le_mul_right _ h3
 rw [Nat.add_mul, Nat.one_mul] at h4
 omega
end

/-- What a contract takes, and more: nil for an empty slice. -/
def gid : GMap := fun s => some (some s)
def fno : Nat → Option Row := fun _ => none
def cvA : List AV → List AV → Prop
 | [], [] => True
 | a :: al, b :: bl => cvV gid fno a b ∧ cvA al bl
 | _, _ => False
def cvRs : List Row → List Row → Prop
 | [], [] => True
 | a :: al, b :: bl => cvR gid fno a b ∧ cvRs al bl
 | _, _ => False
section
variable {M : Imm} {ρ : Plc} {w : World}
theorem VR.cv1 {c c' : AV} {v : Value} (hv : VR M ρ c v) (hc : cv1 gid fno c c') : VR M ρ c' v := by
 unfold Proofs.Ytfjopjalhllplaa.cv1 at hc
 split at hc
 ·exact .plain (.top _)
 ·obtain ⟨hg, rfl⟩ := hc
  injection hg with hg; injection hg with hg; subst hg; exact hv
 ·obtain ⟨hg, rfl⟩ := hc
  injection hg with hg; cases hg
 ·obtain ⟨hg, rfl⟩ := hc
  injection hg with hg; injection hg with hg; subst hg; exact hv
 ·obtain ⟨rfl, rfl⟩ := hc; exact hv
 ·obtain ⟨rfl, rfl⟩ := hc
  obtain rfl := hv.nil_inv
  exact .plain (.sl [] 0 none 0 0 0 (fun _ => undef) (fun h => by omega) (Nat.le_refl _) (fun i c hc => by simp at hc) (fun i c hc => by simp at hc))
 ·exact hc.1.elim
 ·obtain ⟨rfl, rfl⟩ := hc; exact hv
 ·subst hc; exact hv
 ·subst hc; exact hv
 ·exact hv
 ·subst hc; exact hv
 ·obtain ⟨rfl, hc⟩ := hc
  obtain ⟨us, rfl, hl, hus⟩ := hv.fn_inv
  obtain ⟨e1, e2⟩ := cvP_get hc
  refine .fn _ _ us (by omega) (fun i s' v hs' hv' => ?_)
  obtain ⟨s, hs, hg⟩ := e2 i s' hs'
  injection hg with hg; injection hg with hg; subst hg
  exact hus i _ v hs hv'
 ·exact hc.elim
theorem VR.cvV {c c' : AV} {v : Value} (hv : VR M ρ c v) (hc : cvV gid fno c c') : VR M ρ c' v := by
 unfold Proofs.Ytfjopjalhllplaa.cvV at hc
 split at hc
 ·obtain ⟨vs, rfl, hl, h1, h2⟩ := hv.agg_inv
  obtain ⟨e1, e2⟩ := cvL_get hc
  refine .agg _ _ (by omega) h1 (fun i c' u hc' hu => ?_)
  obtain ⟨c, hc, hcc⟩ := e2 i c' hc'
  exact (h2 i c u hc hu).cv1 hcc
 ·exact hv.cv1 hc
theorem cvA_get : ∀ {al bl : List AV}, cvA al bl → al.length = bl.length ∧ ∀ (i : Nat) (b : AV), bl[i]? = some b → ∃ a, al[i]? = some a ∧ Proofs.Ytfjopjalhllplaa.cvV gid fno a b
 | [], [], _ => ⟨rfl, fun i c h => by simp at h⟩
 | a :: al, b :: bl, h => by
  obtain ⟨h1, h2⟩ := cvA_get h.2
  refine ⟨by simp [h1], fun i q hq => ?_⟩
  cases i with
  | zero => simp only [List.getElem?_cons_zero, Option.some.injEq] at hq; subst hq; exact ⟨a, rfl, h.1⟩
  | succ i => exact h2 i q (by simpa using hq)
 | [], _ :: _, h => h.elim
 | _ :: _, [], h => h.elim
theorem cvRs_get : ∀ {al bl : List Row}, cvRs al bl → al.length = bl.length ∧ ∀ (i : Nat) (b : Row), bl[i]? = some b → ∃ a, al[i]? = some a ∧ cvR gid fno a b
 | [], [], _ => ⟨rfl, fun i c h => by simp at h⟩
 | a :: al, b :: bl, h => by
  obtain ⟨h1, h2⟩ := cvRs_get h.2
  refine ⟨by simp [h1], fun i q hq => ?_⟩
  cases i with
  | zero => simp only [List.getElem?_cons_zero, Option.some.injEq] at hq; subst hq; exact ⟨a, rfl, h.1⟩
  | succ i => exact h2 i q (by simpa using hq)
 | [], _ :: _, h => h.elim
 | _ :: _, [], h => h.elim
theorem cvR_solid {g : GMap} {F : Nat → Option Row} {r r' : Row} (h : cvR g F r r') (hs : r'.solid = true) : r.solid = true := by
 unfold cvR at h
 split at h
 ·rfl
 ·rfl
 ·rfl
 ·rfl
 ·cases hs
 ·exact h.elim
theorem RowAt.cv {r r' : Row} {x : At} (h : RowAt M ρ w r x) (hc : cvR gid fno r r') : RowAt M ρ w r' x := by
 unfold cvR at hc
 split at hc
 ·obtain ⟨rfl, hL⟩ := hc
  obtain ⟨h0, arr, a1, a2, a3, a4⟩ := h
  obtain ⟨l1, l2⟩ := cvL_get hL
  refine ⟨h0, arr, a1, by omega, a3, fun i c' v hc hv => ?_⟩
  obtain ⟨c, hc', hcc⟩ := l2 i c' hc
  exact (a4 i c v hc' hv).cv1 hcc
 ·obtain ⟨rfl, rfl, rfl⟩ := hc; exact h
 ·obtain ⟨rfl, rfl, hL⟩ := hc
  obtain ⟨l1, l2⟩ := cvL_get hL
  rcases h with ⟨a1, a2, a3⟩ | ⟨h0, xs, a1, a2, a3, a4⟩
  ·subst a2
   exact .inl ⟨a1, List.eq_nil_of_length_eq_zero (by simpa using l1.symm), a3⟩
  ·refine .inr ⟨h0, xs, a1, by omega, a3, fun i c' v hc hv => ?_⟩
   obtain ⟨c, hc', hcc⟩ := l2 i c' hc
   exact (a4 i c v hc' hv).cv1 hcc
 ·obtain ⟨rfl, rfl, hL⟩ := hc
  obtain ⟨l1, l2⟩ := cvL_get hL
  rcases h with ⟨a1, a2, a3⟩ | ⟨h0, xs, a1, a2, a3, a4⟩
  ·subst a2
   exact .inl ⟨a1, List.eq_nil_of_length_eq_zero (by simpa using l1.symm), a3⟩
  ·refine .inr ⟨h0, xs, a1, by omega, a3, fun i c' v hc hv => ?_⟩
   obtain ⟨c, hc', hcc⟩ := l2 i c' hc
   exact (VR.plain (a4 i c v hc' hv)).cv1 hcc
 ·trivial
 ·exact hc.elim
theorem MR.cv {mem mem' : List Row} (h : MR M ρ (rowsOf mem) w) (hc : cvRs mem mem') : MR M ρ (rowsOf mem') w := by
 obtain ⟨hl, hg⟩ := cvRs_get hc
 refine ⟨fun s r hr hs => ?_, fun s s' r r' x x' hr hr' hs hs' hx hx' => ?_, h.imm, fun b o v s r x hM hr hs hx => ?_⟩
 ·obtain ⟨q, hq, hqc⟩ := hg s r hr
  obtain ⟨x, hx, hX⟩ := h.row s q hq (cvR_solid hqc hs)
  exact ⟨x, hx, hX.cv hqc⟩
 ·obtain ⟨q, hq, hqc⟩ := hg s r hr
  obtain ⟨q', hq', hqc'⟩ := hg s' r' hr'
  exact h.inj s s' q q' x x' hq hq' (cvR_solid hqc hs) (cvR_solid hqc' hs') hx hx'
 ·obtain ⟨q, hq, hqc⟩ := hg s r hr
  exact h.apt b o v s q x hM hq (cvR_solid hqc hs) hx
theorem Spec.le {P : Program} {f : FuncId} {args args' : List AV} {mem mem' out : List Row} {ret : AV} (h : Spec P f args' mem' ret out) (ha : cvA args args') (hm : cvRs mem mem') : Spec P f args mem ret out := by
 obtain ⟨h1, h2⟩ := h
 obtain ⟨al, ag⟩ := cvA_get ha
 obtain ⟨ml, mg⟩ := cvRs_get hm
 have hD : ∀ {ρ : Plc} {b : Nat}, DOf ρ (rowsOf mem') b → DOf ρ (rowsOf mem) b := by
  rintro ρ b ⟨s, r, x, e1, e2, e3⟩
  obtain ⟨q, hq, hqc⟩ := mg s r e1
  exact ⟨s, q, x, hq, cvR_solid hqc e2, e3⟩
 refine ⟨h1, fun M ρ w vs hmr hρ hlen hvs => ?_⟩
 refine (h2 M ρ w vs (hmr.cv hm) (fun s hs => hρ s (by omega)) (by omega) (fun i c v hc hv => ?_)).mono (fun e w' ⟨v, M', ρ', he, q1, q2, q3, q4, q5, q6, q7, q8⟩ => ⟨v, M', ρ', he, q1, q2, q3, q4, q5, ⟨q6.os, q6.tape, q6.output, q6.size, fun k hk hn => q6.block k hk fun hd => hn (hD hd)⟩, fun b hb hn => q7 b hb fun hd => hn (hD hd), fun s r x e1 e2 e3 e4 => (q8 s r x e1 e2 e3 e4).imp hD id⟩)
 obtain ⟨c0, hc0, hcc⟩ := ag i c hc
 exact (hvs i c0 v hc0 hv).cvV hcc
end

def fr1 : AV → Prop
 | .sl _ _ => False
 | .eptr _ => False
 | .agg _ => False
 | .tup _ => False
 | .fn _ _ => False
 | _ => True
def frL (f : AV → Prop) : List AV → Prop
 | [] => True
 | c :: cs => f c ∧ frL f cs
def fr2 : AV → Prop
 | .agg cs => frL fr1 cs
 | a => fr1 a
def fr3 : AV → Prop
 | .tup cs => frL fr2 cs
 | a => fr2 a
def frR : Row → Prop
 | .box _ cs => frL fr1 cs
 | .row _ _ cs => ∀ c ∈ cs, Free c
 | .tab _ _ cs => frL fr1 cs
 | .gone => True
def frRs : List Row → Prop
 | [] => True
 | r :: rs => frR r ∧ frRs rs
theorem fr1_ok {a : AV} (h : fr1 a) : Free a := by
 cases a <;> first | exact h.elim | constructor
theorem frL_mem {f : AV → Prop} : ∀ {cs : List AV}, frL f cs → ∀ c ∈ cs, f c
 | [], _, c, h => by cases h
 | c' :: cs, h, c, hc => by
  rcases List.mem_cons.1 hc with rfl | hc
  ·exact h.1
  ·exact frL_mem h.2 c hc
theorem fr2_ok {a : AV} (h : fr2 a) : Free a := by
 by_cases hag : ∃ cs, a = .agg cs
 ·obtain ⟨cs, rfl⟩ := hag
  exact .agg _ fun c hc => fr1_ok (frL_mem h c hc)
 ·have e : fr2 a = fr1 a := by cases a <;> first | rfl | exact absurd ⟨_, rfl⟩ hag
  rw [e] at h; exact fr1_ok h
theorem fr3_ok {a : AV} (h : fr3 a) : Free a := by
 by_cases hag : ∃ cs, a = .tup cs
 ·obtain ⟨cs, rfl⟩ := hag
  exact .tup _ fun c hc => fr2_ok (frL_mem h c hc)
 ·have e : fr3 a = fr2 a := by cases a <;> first | rfl | exact absurd ⟨_, rfl⟩ hag
  rw [e] at h; exact fr2_ok h
theorem frRs_ok : ∀ {rs : List Row}, frRs rs → ∀ r ∈ rs, ∀ c ∈ r.cells, Free c
 | [], _, r, h => by cases h
 | r' :: rs, h, r, hr => by
  rcases List.mem_cons.1 hr with rfl | hr
  ·intro c hc
   cases r with
   | box T cs => exact fr1_ok (frL_mem h.1 c hc)
   | row E sz cs => exact h.1 c hc
   | tab E sz cs => exact fr1_ok (frL_mem h.1 c hc)
   | gone => cases hc
  ·exact frRs_ok h.2 r hr
theorem free_enc {α : Type} {e : α → List AV} (h : ∀ x, frL fr1 (e x)) : ∀ l, (∀ c ∈ encL e l, Free c) = True
 | [] => by simp [encL]
 | x :: l => by
  refine eq_true (fun c hc => ?_)
  rcases List.mem_append.1 hc with hc | hc
  ·exact fr1_ok (frL_mem (h x) c hc)
  ·exact (of_eq_true (free_enc h l)) c hc

def cutK (C : Ctx) (J : St → Prop) (st : St) : Prop := ∃ S, J S ∧ Le C st S
section
variable {P : Program} {BR : Nat → Bool} {ops : List Oper} {C : Ctx} {Q : Exit → St → Prop} {T : Nat → AV} {R : Nat → Option Row} {b : Nat} {st : St}
theorem cutL {J : St → Prop} {S : St} (h : J S) (hl : Le C st S) : cutK C J st := ⟨S, h, hl⟩
theorem AW_cutK {x y : Code} (J : St → Prop) (h1 : AW P C x st (thenA (cutK C J) Q)) (h2 : ∀ S, J S → AW P C y S Q) : AW P C (.seq x y) st Q := AW_cut J h1 h2
theorem AW_loopF {c : Code} (I : Nat → St → Prop) (n0 : Nat) (h0 : cutK C (I n0) st) (hz : ∀ S, ¬ I 0 S) (hr : ∀ n S, I (n + 1) S → AW P C c S (thenA (cutK C (I n)) Q)) : AW P C (.loop c) st Q :=
 AW_loop I (let ⟨S, h1, h2⟩ := h0; ⟨n0, S, h1, h2⟩) fun n S hI => by
  cases n with
  | zero => exact absurd hI (hz S)
  | succ n =>
   refine AW_mono (hr n S hI) (fun e s h => ?_)
   cases e with
   | normal => obtain ⟨S', h1, h2⟩ := h; exact ⟨n, S', Nat.lt_succ_self n, h1, h2⟩
   | _ => exact h
/-- A region whose ways meet again, then the rest. -/
theorem AW_rsJ {id : Nat} {draw : Bool} {y : Code} (J : St → Prop) (hm : P.follows .mixedOrders = true) (hN : dstB C.N ops.toArray = true) (hB : (!draw || regB BR ops.toArray) = true)
  (h : ∀ K : St → Prop, (∀ T' R' b', cutK C J (St.mk T' R' b') → K (St.mk T' R' b')) → aRun P BR ops b 0 ops (St.mk T R b) K) (h2 : ∀ S, J S → AW P C y S Q) : AW P C (.seq (.region id ops.toArray draw) y) (St.mk T R b) Q :=
 AW_cutK J (fun M ρ a w hR => by
   refine AW_re (BR := BR) (Q := thenA (cutK C J) Q) hm hN hB (fun K hK => h K fun T' R' b' hc => hK T' R' b' ?_) M ρ a w hR
   obtain ⟨S, h1, h2⟩ := hc
   exact ⟨S, h1, fun M ρ a w hR => h2 M ρ a w (hR.next b')⟩) h2
theorem brK {β : Type} {c : Bool} {X Y : Option β} {r : β} {A B : Prop} (h : br c X Y = some r) (ht : c = true → X = some r → A) (hf : c = false → Y = some r → B) : condK (.bool c) A B :=
 ⟨fun e => ht e (by rw [e] at h; exact h), fun e => hf e (by rw [e] at h; exact h)⟩
variable {bs i : Nat} {l : List Oper} {K : St → Prop} {f : FuncId} {args args' : List AV} {dst : Option Tmp} {ret : AV} {mem mem' : List Row}
/-- A call: nothing lent, or what comes back needs no immutable cells. -/
theorem rC_p (hS : Spec P f args' [] ret mem') (ha : cvA (args.map (pass2 [] fun _ => none)) args') (hl : mem'.length ≤ 16)
  (hs : ∀ j, j < mem'.length → st.rows (bs + 16 * i + j) = none) (hK : aRun P BR ops bs (i + 1) l (({ st with rows := addRows st.rows (bs + 16 * i) (mem'.map (Row.ren (mId [] (bs + 16 * i)))) } : St).put dst (ren3 (mId [] (bs + 16 * i)) ret)) K) : rC P BR ops bs i l st K f args dst :=
 rC_plain (hS.le ha trivial) hl hs hK
theorem rC_l (hS : Spec P f args' [] ret mem') (ha : cvA (args.map (pass2 [] st.rows)) args') (hf : fr3 ret ∧ frRs mem') (hl : mem'.length ≤ 16)
  (hs : ∀ j, j < mem'.length → st.rows (bs + 16 * i + j) = none) (hK : aRun P BR ops bs (i + 1) l (({ st with rows := addRows st.rows (bs + 16 * i) (mem'.map (Row.ren (mId [] (bs + 16 * i)))) } : St).put dst (ren3 (mId [] (bs + 16 * i)) ret)) K) : rC P BR ops bs i l st K f args dst :=
 rC_lend (hS.le ha trivial) ⟨fr3_ok hf.1, frRs_ok hf.2⟩ hl hs hK
def solidO : Option Row → Prop
 | some (.box _ _) => True
 | some (.row _ _ _) => True
 | some (.tab _ _ _) => True
 | _ => False
theorem rR_p (ι : List Nat) (hS : Spec P f args' mem ret mem') (ha : cvA (args.map (pass2 ι fun _ => none)) args') (hm : cvRs (ι.map (passRow ι (fun _ => none) st.rows)) mem) (hn : nodB ι = true) (hι : ∀ s ∈ ι, solidO (st.rows s)) (hle : ι.length ≤ mem'.length) (hl : mem'.length - ι.length ≤ 16)
  (hs : ∀ j, j < mem'.length - ι.length → st.rows (bs + 16 * i + j) = none) (hK : aRun P BR ops bs (i + 1) l (({ st with rows := rowsAfter ι (bs + 16 * i) st.rows mem' } : St).put dst (ren3 (mId ι (bs + 16 * i)) ret)) K) : rR P BR ops bs i l st K f args dst :=
 ⟨ι, false, _, ret, mem', (fun _ _ h => by cases h), nodB_spec hn, fun s hs => by
   have := hι s hs
   unfold solidO at this
   split at this
   · exact ⟨_, by assumption, rfl⟩
   · exact ⟨_, by assumption, rfl⟩
   · exact ⟨_, by assumption, rfl⟩
   · exact this.elim, hS.le ha hm, hle, .inl (fun _ => rfl), fun _ => hl, hs, hK⟩
theorem end_q {fn : Func} {st : St} {k : Nat} (ids : List Nat) {ret : AV} {mem' : List Row} {e : Exit} (he : e = .normal ∨ e = .ret) (hnd : nodB ids = true) (hk : upB k (fun j => match ids[j]? with | some i => i == j | none => false) = true) (h : endR P st fn.results.toList k ids ret mem') : (e = .normal ∨ e = .ret) ∧ EndA P fn k ret mem' st :=
 end_r ids he (nodB_spec hnd) (fun j hj => by
   have := upB_spec hk j hj
   split at this
   · rename_i i hi
     rw [beq_iff_eq] at this
     rw [hi, this]
   · cases this) h
theorem site_1 {R : Nat → Option Row} {n : Nat} (h0 : R n = none) : ∀ j, j < 1 → R (n + j) = none := fun j hj => by
 obtain rfl : j = 0 := by omega
 exact h0
end
end Go.Proofs.Ytfjopjalhllplaa
/- The engine, part 18: its rules, bundled. Over any program. -/
namespace Go.Proofs.Ytfjopjalhllplaa
open Go.RowKit
set_option linter.unusedVariables false
set_option linter.defProp false
def AE :=
 (aI
 (aI
 (aI
 (aI
 (aI
 (aI
 (aI
 (aI
 @aRun_nil
 @aRun_cons)
 (aI
 @rG_none
 (aI
 @rG_some
 @rB_some)))
 (aI
 (aI
 @rA_bool
 (aI
 @rA_off
 @rK_tt))
 (aI
 @rK_ff
 (aI
 @rK_tf
 @rK_ft))))
 (aI
 (aI
 (aI
 @rO_0
 (aI
 @rO_1
 @rO_2))
 (aI
 @rO_3
 (aI
 @rO_4
 @rO_6)))
 (aI
 (aI
 @rN_fn
 (aI
 @rV_some
 @rM_none))
 (aI
 @rM_some
 (aI
 @rF_none
 @rW_some)))))
 (aI
 (aI
 (aI
 (aI
 @St.put_some
 @St.put_none)
 (aI
 @ev_tmp
 (aI
 @ev_const
 @upd_apply)))
 (aI
 (aI
 @cls.eq_1
 (aI
 @cls.eq_2
 @cls.eq_3))
 (aI
 @cls.eq_4
 (aI
 @cls.eq_5
 @cls.eq_6))))
 (aI
 (aI
 (aI
 @cls.eq_7
 (aI
 (fun (BR : Nat → Bool) (x : Operand) => @id (cls BR (.move x) = 0) rfl)
 (fun (BR : Nat → Bool) (x : Operand) => @id (cls BR (.assign x) = 0) rfl)))
 (aI
 (fun (BR : Nat → Bool) (c a b : Operand) => @id (cls BR (.pick c a b) = 0) rfl)
 (aI
 (fun (BR : Nat → Bool) (t : Nat) (ps : Array (Nat × Operand)) => @id (cls BR (.build t ps) = 0) rfl)
 (fun (BR : Nat → Bool) (o : BinOp) (t t2 : Nat) (x y : Operand) => @id (cls BR (.binOp o t x y t2) = 0) rfl))))
 (aI
 (aI
 (fun (BR : Nat → Bool) (o : UnOp) (t : Nat) (x : Operand) => @id (cls BR (.unOp o t x) = 0) rfl)
 (aI
 (fun (BR : Nat → Bool) (s d : Nat) (x : Operand) => @id (cls BR (.convert s d x) = 0) rfl)
 (fun (BR : Nat → Bool) (s f : Nat) (x : Operand) => @id (cls BR (.fieldAddr s x f) = 0) rfl)))
 (aI
 (fun (BR : Nat → Bool) (s f : Nat) (x : Operand) => @id (cls BR (.field s x f) = 0) rfl)
 (aI
 (fun (BR : Nat → Bool) (t : Nat) (x i : Operand) => @id (cls BR (.indexAddr t x i) = 0) rfl)
 (fun (BR : Nat → Bool) (t : Nat) (x i : Operand) => @id (cls BR (.index t x i) = 0) rfl)))))))
 (aI
 (aI
 (aI
 (aI
 (aI
 (fun (BR : Nat → Bool) (i : Nat) (x : Operand) => @id (cls BR (.extract x i) = 0) rfl)
 (fun (BR : Nat → Bool) (x : Operand) => @id (cls BR (.nilCheck x) = 0) rfl))
 (aI
 (fun (BR : Nat → Bool) (t : Nat) (x : Operand) (l h m : Option Operand) => @id (cls BR (.slice t x l h m) = 0) rfl)
 (aI
 @aPure.eq_1
 @aPure.eq_2)))
 (aI
 (aI
 @aPure.eq_3
 (aI
 @aPure.eq_4
 @aPure.eq_5))
 (aI
 @aPure.eq_6
 (aI
 @aPure.eq_7
 @aPure.eq_8))))
 (aI
 (aI
 (aI
 @aPure.eq_9
 (aI
 @aPure.eq_10
 @aPure.eq_11))
 (aI
 @aPure.eq_12
 (aI
 @aPure.eq_13
 @aPure.eq_14)))
 (aI
 (aI
 @aPure.eq_15
 (aI
 @aPure.eq_16
 @aPure.eq_17))
 (aI
 @aPure.eq_18
 (aI
 (fun (BR : Nat → Bool) (fn : Fn) (a b : Array Operand) => @id (cls BR (.makeFunc fn a b) = 0) rfl)
 @ptrsA.eq_1)))))
 (aI
 (aI
 (aI
 (aI
 @ptrsA.eq_2
 (aI
 @aMk.eq_1
 @aMk.eq_2))
 (aI
 @aMk.eq_3
 (aI
 @aMk.eq_4
 @aMk.eq_5)))
 (aI
 (aI
 @aWr.eq_1
 (aI
 @aWr.eq_2
 @binA.eq_1))
 (aI
 @binA.eq_2
 (aI
 @binA.eq_3
 @binA.eq_4))))
 (aI
 (aI
 (aI
 @unA.eq_1
 (aI
 @unA.eq_3
 @loadA.eq_1))
 (aI
 @loadA.eq_2
 (aI
 @pickA.eq_1
 @pickA.eq_2)))
 (aI
 (aI
 @takeA.eq_1
 (aI
 @takeA.eq_2
 @fillA.eq_1))
 (aI
 @fillA.eq_2
 (aI
 @partsA.eq_1
 @partsA.eq_2)))))))
 (aI
 (aI
 (aI
 (aI
 (aI
 (aI
 @spliceA.eq_1
 @srcA.eq_1)
 (aI
 @srcA.eq_2
 (aI
 @srcA.eq_3
 @tabApp.eq_1)))
 (aI
 (aI
 @tabR.eq_1
 (aI
 @zrow.eq_1
 @zrow.eq_2))
 (aI
 @ofV1.eq_1
 (aI
 @ofV1.eq_2
 @ofV1.eq_3))))
 (aI
 (aI
 (aI
 @ofV1.eq_4
 (aI
 @eqL.eq_1
 @eqL.eq_2))
 (aI
 @aggA.eq_1
 (aI
 @immB.eq_1
 @resA.eq_1)))
 (aI
 (aI
 @resA.eq_2
 (aI
 @resA.eq_3
 @one3.eq_1))
 (aI
 @endR.eq_1
 (aI
 @pass3.eq_1
 @frzW.eq_1)))))
 (aI
 (aI
 (aI
 (aI
 @frzW.eq_2
 @frzO.eq_1)
 (aI
 @frzV.eq_1
 (aI
 @frzR.eq_1
 @BRx_eq)))
 (aI
 (aI
 @FZ_x
 (aI
 @intA.eq_1
 @intA.eq_2))
 (aI
 @intA.eq_3
 (aI
 @intA.eq_4
 @intA.eq_5))))
 (aI
 (aI
 (aI
 @intA.eq_6
 (aI
 @intA.eq_7
 @intA.eq_8))
 (aI
 @intA.eq_9
 (aI
 @intA.eq_10
 @intA.eq_11)))
 (aI
 (aI
 @intA.eq_12
 (aI
 @intA.eq_13
 @intA.eq_14))
 (aI
 @intA.eq_15
 (aI
 @intA.eq_16
 @intA.eq_17))))))
 (aI
 (aI
 (aI
 (aI
 (aI
 (fun (k : IntKind) (n : Int) => @id (ofV (.int k n : Value) = ofV1 (.int k n)) rfl)
 (fun (b : Bool) => @id (ofV (.bool b : Value) = ofV1 (.bool b)) rfl))
 (aI
 (fun (s : ByteArray) => @id (ofV (.string s : Value) = ofV1 (.string s)) rfl)
 (aI
 (@id (ofV (.slice none 0 0 : Value) = ofV1 (.slice none 0 0)) rfl)
 (fun (v u : AV) (l : List AV) => @id (one3 (v :: u :: l) = .tup (v :: u :: l)) rfl))))
 (aI
 (aI
 (@id (one3 [] = .tup []) rfl)
 (aI
 @List.drop_zero.{0}
 @List.drop_succ_cons.{0}))
 (aI
 @List.take_zero.{0}
 (aI
 @List.take_succ_cons.{0}
 @List.drop_nil.{0}))))
 (aI
 (aI
 (aI
 @List.take_nil.{0}
 (aI
 @List.map_cons.{0,0}
 @List.map_nil.{0,0}))
 (aI
 @List.all_cons.{0}
 (aI
 @List.all_nil.{0}
 @List.length_cons.{0})))
 (aI
 (aI
 @List.length_nil.{0}
 (aI
 @List.cons_append.{0}
 @List.nil_append.{0}))
 (aI
 @List.append_nil.{0}
 (aI
 @List.append_assoc.{0}
 @List.length_append.{0})))))
 (aI
 (aI
 (aI
 (aI
 @List.getElem?_toArray.{0}
 (aI
 @List.getElem?_cons_zero.{0}
 @List.getElem?_cons_succ.{0}))
 (aI
 @List.getElem?_nil.{0}
 (aI
 @Option.bind_some.{0,0}
 @Bool.and_true)))
 (aI
 (aI
 @Bool.true_and
 (aI
 @Bool.and_self
 @Bool.and_false))
 (aI
 @Bool.false_and
 (aI
 @and_self
 @and_true))))
 (aI
 (aI
 (aI
 @true_and
 (aI
 @if_true.{1}
 @if_false.{1}))
 (aI
 @ite_true.{1}
 (aI
 @ite_false.{1}
 @Bool.false_eq_true)))
 (aI
 (aI
 @List.contains_cons.{0}
 (aI
 @List.contains_nil.{0}
 @Bool.or_false))
 (aI
 @Bool.false_or
 (aI
 @Bool.or_self
 @Bool.or_true))))))))
 (aI
 (aI
 (aI
 (aI
 (aI
 (aI
 (aI
 @Bool.true_or
 @Nat.zero_add)
 (aI
 @Nat.add_zero
 (aI
 @Nat.zero_mul
 @Nat.not_lt_zero)))
 (aI
 (aI
 @eq_self.{1}
 (aI
 @not_false_eq_true
 @not_true_eq_false))
 (aI
 @Bool.not_true
 (aI
 @Bool.not_false
 @ne_eq.{1}))))
 (aI
 (aI
 (aI
 @Option.some.injEq.{0}
 (aI
 @List.length_map.{0,0}
 @List.length_set.{0}))
 (aI
 @List.length_replicate.{0}
 (aI
 @encL_nil
 @encL_cons)))
 (aI
 (aI
 @encL_app
 (aI
 (fun (f : Nat → Nat) (k : IntKind) (n : Int) => @id (ren1 f (.int k n : AV) = (.int k n : AV)) rfl)
 (fun (f : Nat → Nat) (k : IntKind) (n : Int) => @id (ren2 f (.int k n : AV) = ren1 f (.int k n : AV)) rfl)))
 (aI
 (fun (f : Nat → Nat) (k : IntKind) (n : Int) => @id (ren3 f (.int k n : AV) = ren2 f (.int k n : AV)) rfl)
 (aI
 (fun (ι : List Nat) (rows : Nat → Option Row) (k : IntKind) (n : Int) => @id (pass0 ι rows (.int k n : AV) = (.int k n : AV)) rfl)
 (fun (ι : List Nat) (rows : Nat → Option Row) (k : IntKind) (n : Int) => @id (pass1 ι rows (.int k n : AV) = (.int k n : AV)) rfl))))))
 (aI
 (aI
 (aI
 (aI
 (fun (ι : List Nat) (rows : Nat → Option Row) (k : IntKind) (n : Int) => @id (pass2 ι rows (.int k n : AV) = pass1 ι rows (.int k n : AV)) rfl)
 (fun (ι : List Nat) (rows : Nat → Option Row) (k : IntKind) (n : Int) => @id (passT1 ι rows (.int k n : AV) = pass1 ι rows (.int k n : AV)) rfl))
 (aI
 (fun (ι : List Nat) (rows : Nat → Option Row) (k : IntKind) (n : Int) => @id (passT2 ι rows (.int k n : AV) = passT1 ι rows (.int k n : AV)) rfl)
 (aI
 (fun (ids : List Nat) (k : IntKind) (n : Int) => @id (pass3 ids (.int k n : AV) = pass2 ids (fun _ => none) (.int k n : AV)) rfl)
 (fun (k : IntKind) (n : Int) => @id (AV.cells (.int k n : AV) = [(.int k n : AV)]) rfl))))
 (aI
 (aI
 (fun (k : IntKind) (n : Int) => @id (AV.one (.int k n : AV) = true) rfl)
 (aI
 (fun (k : IntKind) (n : Int) => @id (AV.pl (.int k n : AV) = true) rfl)
 (fun (f : Nat → Nat) (b : Bool) => @id (ren1 f (.bool b : AV) = (.bool b : AV)) rfl)))
 (aI
 (fun (f : Nat → Nat) (b : Bool) => @id (ren2 f (.bool b : AV) = ren1 f (.bool b : AV)) rfl)
 (aI
 (fun (f : Nat → Nat) (b : Bool) => @id (ren3 f (.bool b : AV) = ren2 f (.bool b : AV)) rfl)
 (fun (ι : List Nat) (rows : Nat → Option Row) (b : Bool) => @id (pass0 ι rows (.bool b : AV) = (.bool b : AV)) rfl)))))
 (aI
 (aI
 (aI
 (fun (ι : List Nat) (rows : Nat → Option Row) (b : Bool) => @id (pass1 ι rows (.bool b : AV) = (.bool b : AV)) rfl)
 (aI
 (fun (ι : List Nat) (rows : Nat → Option Row) (b : Bool) => @id (pass2 ι rows (.bool b : AV) = pass1 ι rows (.bool b : AV)) rfl)
 (fun (ι : List Nat) (rows : Nat → Option Row) (b : Bool) => @id (passT1 ι rows (.bool b : AV) = pass1 ι rows (.bool b : AV)) rfl)))
 (aI
 (fun (ι : List Nat) (rows : Nat → Option Row) (b : Bool) => @id (passT2 ι rows (.bool b : AV) = passT1 ι rows (.bool b : AV)) rfl)
 (aI
 (fun (ids : List Nat) (b : Bool) => @id (pass3 ids (.bool b : AV) = pass2 ids (fun _ => none) (.bool b : AV)) rfl)
 (fun (b : Bool) => @id (AV.cells (.bool b : AV) = [(.bool b : AV)]) rfl))))
 (aI
 (aI
 (fun (b : Bool) => @id (AV.one (.bool b : AV) = true) rfl)
 (aI
 (fun (b : Bool) => @id (AV.pl (.bool b : AV) = true) rfl)
 (fun (f : Nat → Nat) (s : ByteArray) => @id (ren1 f (.str s : AV) = (.str s : AV)) rfl)))
 (aI
 (fun (f : Nat → Nat) (s : ByteArray) => @id (ren2 f (.str s : AV) = ren1 f (.str s : AV)) rfl)
 (aI
 (fun (f : Nat → Nat) (s : ByteArray) => @id (ren3 f (.str s : AV) = ren2 f (.str s : AV)) rfl)
 (fun (ι : List Nat) (rows : Nat → Option Row) (s : ByteArray) => @id (pass0 ι rows (.str s : AV) = (.str s : AV)) rfl)))))))
 (aI
 (aI
 (aI
 (aI
 (aI
 (fun (ι : List Nat) (rows : Nat → Option Row) (s : ByteArray) => @id (pass1 ι rows (.str s : AV) = (.str s : AV)) rfl)
 (fun (ι : List Nat) (rows : Nat → Option Row) (s : ByteArray) => @id (pass2 ι rows (.str s : AV) = pass1 ι rows (.str s : AV)) rfl))
 (aI
 (fun (ι : List Nat) (rows : Nat → Option Row) (s : ByteArray) => @id (passT1 ι rows (.str s : AV) = pass1 ι rows (.str s : AV)) rfl)
 (aI
 (fun (ι : List Nat) (rows : Nat → Option Row) (s : ByteArray) => @id (passT2 ι rows (.str s : AV) = passT1 ι rows (.str s : AV)) rfl)
 (fun (ids : List Nat) (s : ByteArray) => @id (pass3 ids (.str s : AV) = pass2 ids (fun _ => none) (.str s : AV)) rfl))))
 (aI
 (aI
 (fun (s : ByteArray) => @id (AV.cells (.str s : AV) = [(.str s : AV)]) rfl)
 (aI
 (fun (s : ByteArray) => @id (AV.one (.str s : AV) = true) rfl)
 (fun (s : ByteArray) => @id (AV.pl (.str s : AV) = true) rfl)))
 (aI
 (fun (f : Nat → Nat) (cs : List AV) => @id (ren1 f (.agg cs : AV) = .top) rfl)
 (aI
 (fun (f : Nat → Nat) (cs : List AV) => @id (ren2 f (.agg cs : AV) = .agg (cs.map (ren1 f))) rfl)
 (fun (f : Nat → Nat) (cs : List AV) => @id (ren3 f (.agg cs : AV) = ren2 f (.agg cs : AV)) rfl)))))
 (aI
 (aI
 (aI
 (fun (ι : List Nat) (rows : Nat → Option Row) (cs : List AV) => @id (pass0 ι rows (.agg cs : AV) = .top) rfl)
 (aI
 (fun (ι : List Nat) (rows : Nat → Option Row) (cs : List AV) => @id (pass1 ι rows (.agg cs : AV) = .top) rfl)
 (fun (ι : List Nat) (rows : Nat → Option Row) (cs : List AV) => @id (pass2 ι rows (.agg cs : AV) = .agg (cs.map (pass1 ι rows))) rfl)))
 (aI
 (fun (ι : List Nat) (rows : Nat → Option Row) (cs : List AV) => @id (passT1 ι rows (.agg cs : AV) = pass1 ι rows (.agg cs : AV)) rfl)
 (aI
 (fun (ι : List Nat) (rows : Nat → Option Row) (cs : List AV) => @id (passT2 ι rows (.agg cs : AV) = .agg (cs.map (passT1 ι rows))) rfl)
 (fun (ids : List Nat) (cs : List AV) => @id (pass3 ids (.agg cs : AV) = pass2 ids (fun _ => none) (.agg cs : AV)) rfl))))
 (aI
 (aI
 (fun (cs : List AV) => @id (AV.cells (.agg cs : AV) = cs) rfl)
 (aI
 (fun (cs : List AV) => @id (AV.one (.agg cs : AV) = false) rfl)
 (fun (cs : List AV) => @id (AV.pl (.agg cs : AV) = false) rfl)))
 (aI
 (fun (f : Nat → Nat) (cs : List AV) => @id (ren1 f (.tup cs : AV) = .top) rfl)
 (aI
 (fun (f : Nat → Nat) (cs : List AV) => @id (ren2 f (.tup cs : AV) = .top) rfl)
 (fun (f : Nat → Nat) (cs : List AV) => @id (ren3 f (.tup cs : AV) = .tup (cs.map (ren2 f))) rfl))))))
 (aI
 (aI
 (aI
 (aI
 (fun (ι : List Nat) (rows : Nat → Option Row) (cs : List AV) => @id (pass0 ι rows (.tup cs : AV) = .top) rfl)
 (aI
 (fun (ι : List Nat) (rows : Nat → Option Row) (cs : List AV) => @id (pass1 ι rows (.tup cs : AV) = .top) rfl)
 (fun (ι : List Nat) (rows : Nat → Option Row) (cs : List AV) => @id (pass2 ι rows (.tup cs : AV) = .top) rfl)))
 (aI
 (fun (ι : List Nat) (rows : Nat → Option Row) (cs : List AV) => @id (passT1 ι rows (.tup cs : AV) = pass1 ι rows (.tup cs : AV)) rfl)
 (aI
 (fun (ι : List Nat) (rows : Nat → Option Row) (cs : List AV) => @id (passT2 ι rows (.tup cs : AV) = .top) rfl)
 (fun (ids : List Nat) (cs : List AV) => @id (pass3 ids (.tup cs : AV) = .tup (cs.map (pass2 ids fun _ => none))) rfl))))
 (aI
 (aI
 (fun (cs : List AV) => @id (AV.cells (.tup cs : AV) = [(.tup cs : AV)]) rfl)
 (aI
 (fun (cs : List AV) => @id (AV.one (.tup cs : AV) = false) rfl)
 (fun (cs : List AV) => @id (AV.pl (.tup cs : AV) = false) rfl)))
 (aI
 (fun (f : Nat → Nat)  => @id (ren1 f (.nil : AV) = (.nil : AV)) rfl)
 (aI
 (fun (f : Nat → Nat)  => @id (ren2 f (.nil : AV) = ren1 f (.nil : AV)) rfl)
 (fun (f : Nat → Nat)  => @id (ren3 f (.nil : AV) = ren2 f (.nil : AV)) rfl)))))
 (aI
 (aI
 (aI
 (fun (ι : List Nat) (rows : Nat → Option Row)  => @id (pass0 ι rows (.nil : AV) = (.nil : AV)) rfl)
 (aI
 (fun (ι : List Nat) (rows : Nat → Option Row)  => @id (pass1 ι rows (.nil : AV) = (.nil : AV)) rfl)
 (fun (ι : List Nat) (rows : Nat → Option Row)  => @id (pass2 ι rows (.nil : AV) = pass1 ι rows (.nil : AV)) rfl)))
 (aI
 (fun (ι : List Nat) (rows : Nat → Option Row)  => @id (passT1 ι rows (.nil : AV) = pass1 ι rows (.nil : AV)) rfl)
 (aI
 (fun (ι : List Nat) (rows : Nat → Option Row)  => @id (passT2 ι rows (.nil : AV) = passT1 ι rows (.nil : AV)) rfl)
 (fun (ids : List Nat)  => @id (pass3 ids (.nil : AV) = pass2 ids (fun _ => none) (.nil : AV)) rfl))))
 (aI
 (aI
 (@id (AV.cells (.nil : AV) = [(.nil : AV)]) rfl)
 (aI
 (@id (AV.one (.nil : AV) = true) rfl)
 (@id (AV.pl (.nil : AV) = true) rfl)))
 (aI
 (fun (f : Nat → Nat) (cs : List AV) (n : Nat) => @id (ren1 f (.sl cs n : AV) = (.sl cs n : AV)) rfl)
 (aI
 (fun (f : Nat → Nat) (cs : List AV) (n : Nat) => @id (ren2 f (.sl cs n : AV) = ren1 f (.sl cs n : AV)) rfl)
 (fun (f : Nat → Nat) (cs : List AV) (n : Nat) => @id (ren3 f (.sl cs n : AV) = ren2 f (.sl cs n : AV)) rfl))))))))
 (aI
 (aI
 (aI
 (aI
 (aI
 (aI
 (fun (ι : List Nat) (rows : Nat → Option Row) (cs : List AV) (n : Nat) => @id (pass0 ι rows (.sl cs n : AV) = (.sl cs n : AV)) rfl)
 (fun (ι : List Nat) (rows : Nat → Option Row) (cs : List AV) (n : Nat) => @id (pass1 ι rows (.sl cs n : AV) = (.sl cs n : AV)) rfl))
 (aI
 (fun (ι : List Nat) (rows : Nat → Option Row) (cs : List AV) (n : Nat) => @id (pass2 ι rows (.sl cs n : AV) = pass1 ι rows (.sl cs n : AV)) rfl)
 (aI
 (fun (ι : List Nat) (rows : Nat → Option Row) (cs : List AV) (n : Nat) => @id (passT1 ι rows (.sl cs n : AV) = pass1 ι rows (.sl cs n : AV)) rfl)
 (fun (ι : List Nat) (rows : Nat → Option Row) (cs : List AV) (n : Nat) => @id (passT2 ι rows (.sl cs n : AV) = passT1 ι rows (.sl cs n : AV)) rfl))))
 (aI
 (aI
 (fun (ids : List Nat) (cs : List AV) (n : Nat) => @id (pass3 ids (.sl cs n : AV) = pass2 ids (fun _ => none) (.sl cs n : AV)) rfl)
 (aI
 (fun (cs : List AV) (n : Nat) => @id (AV.cells (.sl cs n : AV) = [(.sl cs n : AV)]) rfl)
 (fun (cs : List AV) (n : Nat) => @id (AV.one (.sl cs n : AV) = true) rfl)))
 (aI
 (fun (cs : List AV) (n : Nat) => @id (AV.pl (.sl cs n : AV) = true) rfl)
 (aI
 (fun (f : Nat → Nat) (s : Nat) (n : Nat) => @id (ren1 f (.own s n : AV) = .own (f s) n) rfl)
 (fun (f : Nat → Nat) (s : Nat) (n : Nat) => @id (ren2 f (.own s n : AV) = ren1 f (.own s n : AV)) rfl)))))
 (aI
 (aI
 (aI
 (fun (f : Nat → Nat) (s : Nat) (n : Nat) => @id (ren3 f (.own s n : AV) = ren2 f (.own s n : AV)) rfl)
 (aI
 @pass0.eq_1
 @pass1.eq_1))
 (aI
 (fun (ι : List Nat) (rows : Nat → Option Row) (s : Nat) (n : Nat) => @id (pass2 ι rows (.own s n : AV) = pass1 ι rows (.own s n : AV)) rfl)
 (aI
 @passT1.eq_1
 (fun (ι : List Nat) (rows : Nat → Option Row) (s : Nat) (n : Nat) => @id (passT2 ι rows (.own s n : AV) = passT1 ι rows (.own s n : AV)) rfl))))
 (aI
 (aI
 (fun (ids : List Nat) (s : Nat) (n : Nat) => @id (pass3 ids (.own s n : AV) = pass2 ids (fun _ => none) (.own s n : AV)) rfl)
 (aI
 (fun (s : Nat) (n : Nat) => @id (AV.cells (.own s n : AV) = [(.own s n : AV)]) rfl)
 (fun (s : Nat) (n : Nat) => @id (AV.one (.own s n : AV) = true) rfl)))
 (aI
 (fun (s : Nat) (n : Nat) => @id (AV.pl (.own s n : AV) = false) rfl)
 (aI
 (fun (f : Nat → Nat) (s : Nat) (o : Nat) => @id (ren1 f (.ptr s o : AV) = .ptr (f s) o) rfl)
 (fun (f : Nat → Nat) (s : Nat) (o : Nat) => @id (ren2 f (.ptr s o : AV) = ren1 f (.ptr s o : AV)) rfl))))))
 (aI
 (aI
 (aI
 (aI
 (fun (f : Nat → Nat) (s : Nat) (o : Nat) => @id (ren3 f (.ptr s o : AV) = ren2 f (.ptr s o : AV)) rfl)
 (aI
 (fun (ι : List Nat) (rows : Nat → Option Row) (s : Nat) (o : Nat) => @id (pass0 ι rows (.ptr s o : AV) = .top) rfl)
 @pass1.eq_2))
 (aI
 (fun (ι : List Nat) (rows : Nat → Option Row) (s : Nat) (o : Nat) => @id (pass2 ι rows (.ptr s o : AV) = pass1 ι rows (.ptr s o : AV)) rfl)
 (aI
 (fun (ι : List Nat) (rows : Nat → Option Row) (s : Nat) (o : Nat) => @id (passT1 ι rows (.ptr s o : AV) = pass1 ι rows (.ptr s o : AV)) rfl)
 (fun (ι : List Nat) (rows : Nat → Option Row) (s : Nat) (o : Nat) => @id (passT2 ι rows (.ptr s o : AV) = passT1 ι rows (.ptr s o : AV)) rfl))))
 (aI
 (aI
 (fun (ids : List Nat) (s : Nat) (o : Nat) => @id (pass3 ids (.ptr s o : AV) = pass2 ids (fun _ => none) (.ptr s o : AV)) rfl)
 (aI
 (fun (s : Nat) (o : Nat) => @id (AV.cells (.ptr s o : AV) = [(.ptr s o : AV)]) rfl)
 (fun (s : Nat) (o : Nat) => @id (AV.one (.ptr s o : AV) = true) rfl)))
 (aI
 (fun (s : Nat) (o : Nat) => @id (AV.pl (.ptr s o : AV) = false) rfl)
 (aI
 (fun (f : Nat → Nat) (cs : List AV) => @id (ren1 f (.eptr cs : AV) = (.eptr cs : AV)) rfl)
 (fun (f : Nat → Nat) (cs : List AV) => @id (ren2 f (.eptr cs : AV) = ren1 f (.eptr cs : AV)) rfl)))))
 (aI
 (aI
 (aI
 (fun (f : Nat → Nat) (cs : List AV) => @id (ren3 f (.eptr cs : AV) = ren2 f (.eptr cs : AV)) rfl)
 (aI
 (fun (ι : List Nat) (rows : Nat → Option Row) (cs : List AV) => @id (pass0 ι rows (.eptr cs : AV) = (.eptr cs : AV)) rfl)
 (fun (ι : List Nat) (rows : Nat → Option Row) (cs : List AV) => @id (pass1 ι rows (.eptr cs : AV) = (.eptr cs : AV)) rfl)))
 (aI
 (fun (ι : List Nat) (rows : Nat → Option Row) (cs : List AV) => @id (pass2 ι rows (.eptr cs : AV) = pass1 ι rows (.eptr cs : AV)) rfl)
 (aI
 (fun (ι : List Nat) (rows : Nat → Option Row) (cs : List AV) => @id (passT1 ι rows (.eptr cs : AV) = pass1 ι rows (.eptr cs : AV)) rfl)
 (fun (ι : List Nat) (rows : Nat → Option Row) (cs : List AV) => @id (passT2 ι rows (.eptr cs : AV) = passT1 ι rows (.eptr cs : AV)) rfl))))
 (aI
 (aI
 (fun (ids : List Nat) (cs : List AV) => @id (pass3 ids (.eptr cs : AV) = pass2 ids (fun _ => none) (.eptr cs : AV)) rfl)
 (aI
 (fun (cs : List AV) => @id (AV.cells (.eptr cs : AV) = [(.eptr cs : AV)]) rfl)
 (fun (cs : List AV) => @id (AV.one (.eptr cs : AV) = true) rfl)))
 (aI
 (fun (cs : List AV) => @id (AV.pl (.eptr cs : AV) = true) rfl)
 (aI
 (fun (f : Nat → Nat) (fi : FuncId) (ps : List Nat) => @id (ren1 f (.fn fi ps : AV) = .top) rfl)
 (fun (f : Nat → Nat) (fi : FuncId) (ps : List Nat) => @id (ren2 f (.fn fi ps : AV) = ren1 f (.fn fi ps : AV)) rfl)))))))
 (aI
 (aI
 (aI
 (aI
 (aI
 (fun (f : Nat → Nat) (fi : FuncId) (ps : List Nat) => @id (ren3 f (.fn fi ps : AV) = ren2 f (.fn fi ps : AV)) rfl)
 (fun (ι : List Nat) (rows : Nat → Option Row) (fi : FuncId) (ps : List Nat) => @id (pass0 ι rows (.fn fi ps : AV) = .top) rfl))
 (aI
 (fun (ι : List Nat) (rows : Nat → Option Row) (fi : FuncId) (ps : List Nat) => @id (pass1 ι rows (.fn fi ps : AV) = .top) rfl)
 (aI
 (fun (ι : List Nat) (rows : Nat → Option Row) (fi : FuncId) (ps : List Nat) => @id (pass2 ι rows (.fn fi ps : AV) = pass1 ι rows (.fn fi ps : AV)) rfl)
 (fun (ι : List Nat) (rows : Nat → Option Row) (fi : FuncId) (ps : List Nat) => @id (passT1 ι rows (.fn fi ps : AV) = pass1 ι rows (.fn fi ps : AV)) rfl))))
 (aI
 (aI
 (fun (ι : List Nat) (rows : Nat → Option Row) (fi : FuncId) (ps : List Nat) => @id (passT2 ι rows (.fn fi ps : AV) = passT1 ι rows (.fn fi ps : AV)) rfl)
 (aI
 (fun (ids : List Nat) (fi : FuncId) (ps : List Nat) => @id (pass3 ids (.fn fi ps : AV) = pass2 ids (fun _ => none) (.fn fi ps : AV)) rfl)
 (fun (fi : FuncId) (ps : List Nat) => @id (AV.cells (.fn fi ps : AV) = [(.fn fi ps : AV)]) rfl)))
 (aI
 (fun (fi : FuncId) (ps : List Nat) => @id (AV.one (.fn fi ps : AV) = false) rfl)
 (aI
 (fun (fi : FuncId) (ps : List Nat) => @id (AV.pl (.fn fi ps : AV) = false) rfl)
 (fun (f : Nat → Nat)  => @id (ren1 f (.top : AV) = (.top : AV)) rfl)))))
 (aI
 (aI
 (aI
 (fun (f : Nat → Nat)  => @id (ren2 f (.top : AV) = ren1 f (.top : AV)) rfl)
 (aI
 (fun (f : Nat → Nat)  => @id (ren3 f (.top : AV) = ren2 f (.top : AV)) rfl)
 (fun (ι : List Nat) (rows : Nat → Option Row)  => @id (pass0 ι rows (.top : AV) = (.top : AV)) rfl)))
 (aI
 (fun (ι : List Nat) (rows : Nat → Option Row)  => @id (pass1 ι rows (.top : AV) = (.top : AV)) rfl)
 (aI
 (fun (ι : List Nat) (rows : Nat → Option Row)  => @id (pass2 ι rows (.top : AV) = pass1 ι rows (.top : AV)) rfl)
 (fun (ι : List Nat) (rows : Nat → Option Row)  => @id (passT1 ι rows (.top : AV) = pass1 ι rows (.top : AV)) rfl))))
 (aI
 (aI
 (fun (ι : List Nat) (rows : Nat → Option Row)  => @id (passT2 ι rows (.top : AV) = passT1 ι rows (.top : AV)) rfl)
 (aI
 (fun (ids : List Nat)  => @id (pass3 ids (.top : AV) = pass2 ids (fun _ => none) (.top : AV)) rfl)
 (@id (AV.cells (.top : AV) = [(.top : AV)]) rfl)))
 (aI
 (@id (AV.one (.top : AV) = false) rfl)
 (aI
 (@id (AV.pl (.top : AV) = true) rfl)
 @List.getD_cons_zero.{0})))))
 (aI
 (aI
 (aI
 (aI
 @List.getD_cons_succ.{0}
 (aI
 @Row.ren.eq_1
 @mId.eq_1))
 (aI
 @addRows.eq_1
 (aI
 @addRows.eq_2
 @setRowsI.eq_1)))
 (aI
 (aI
 @findI.eq_1
 (aI
 @findI.eq_2
 @rowsOf.eq_1))
 (aI
 @rowsAfter.eq_1
 (aI
 @evL.eq_1
 @evL.eq_2))))
 (aI
 (aI
 (aI
 @mkT.eq_1
 (aI
 @mkT.eq_2
 @mkR.eq_1))
 (aI
 @mkR.eq_2
 (aI
 @tmps0.eq_1
 @tmps0.eq_2)))
 (aI
 (aI
 @st0.eq_1
 (aI
 (fun (f : Nat → Nat) (E sz : Nat) (cs : List AV) => @id (Row.ren f (.row E sz cs) = .row E sz cs) rfl)
 (fun (f : Nat → Nat) => @id (Row.ren f .gone = .gone) rfl)))
 (aI
 (fun (f : Nat → Nat) (E sz : Nat) (cs : List AV) => @id (Row.ren f (.tab E sz cs) = .tab E sz (cs.map (ren1 f))) rfl)
 (aI
 (fun (rows : Nat → Option Row) (l : List Row) => @id (setRowsI rows [] l = rows) rfl)
 @passRow.eq_1)))))))))
def AL :=
 (aI
 (aI
 (aI
 (aI
 (aI
 (aI
 (aI
 (fun (g : GMap) (F : Nat → Option Row) (k : IntKind) (n : Int) => @id (cv1 g F (.int k n : AV) .top = True) rfl)
 (fun (g : GMap) (F : Nat → Option Row) (k : IntKind) (n : Int) (x : AV) => @id (cvV g F (.int k n : AV) x = cv1 g F (.int k n : AV) x) rfl))
 (aI
 (fun (g : GMap) (F : Nat → Option Row) (k : IntKind) (n : Int) (x : AV) => @id (cvW g F (.int k n : AV) x = cvV g F (.int k n : AV) x) rfl)
 (fun (g : GMap) (F : Nat → Option Row) (b : Bool) => @id (cv1 g F (.bool b : AV) .top = True) rfl)))
 (aI
 (aI
 (fun (g : GMap) (F : Nat → Option Row) (b : Bool) (x : AV) => @id (cvV g F (.bool b : AV) x = cv1 g F (.bool b : AV) x) rfl)
 (fun (g : GMap) (F : Nat → Option Row) (b : Bool) (x : AV) => @id (cvW g F (.bool b : AV) x = cvV g F (.bool b : AV) x) rfl))
 (aI
 (fun (g : GMap) (F : Nat → Option Row) (s : ByteArray) => @id (cv1 g F (.str s : AV) .top = True) rfl)
 (fun (g : GMap) (F : Nat → Option Row) (s : ByteArray) (x : AV) => @id (cvV g F (.str s : AV) x = cv1 g F (.str s : AV) x) rfl))))
 (aI
 (aI
 (aI
 (fun (g : GMap) (F : Nat → Option Row) (s : ByteArray) (x : AV) => @id (cvW g F (.str s : AV) x = cvV g F (.str s : AV) x) rfl)
 (fun (g : GMap) (F : Nat → Option Row) (cs : List AV) => @id (cv1 g F (.agg cs : AV) .top = True) rfl))
 (aI
 (fun (g : GMap) (F : Nat → Option Row) (cs : List AV) (x : AV) => @id (cvW g F (.agg cs : AV) x = cvV g F (.agg cs : AV) x) rfl)
 (fun (g : GMap) (F : Nat → Option Row) (cs : List AV) => @id (cv1 g F (.tup cs : AV) .top = True) rfl)))
 (aI
 (aI
 (fun (g : GMap) (F : Nat → Option Row) (cs : List AV) (x : AV) => @id (cvV g F (.tup cs : AV) x = cv1 g F (.tup cs : AV) x) rfl)
 (fun (g : GMap) (F : Nat → Option Row)  => @id (cv1 g F (.nil : AV) .top = True) rfl))
 (aI
 (fun (g : GMap) (F : Nat → Option Row)  (x : AV) => @id (cvV g F (.nil : AV) x = cv1 g F (.nil : AV) x) rfl)
 (fun (g : GMap) (F : Nat → Option Row)  (x : AV) => @id (cvW g F (.nil : AV) x = cvV g F (.nil : AV) x) rfl)))))
 (aI
 (aI
 (aI
 (aI
 (fun (g : GMap) (F : Nat → Option Row) (cs : List AV) (n : Nat) => @id (cv1 g F (.sl cs n : AV) .top = True) rfl)
 (fun (g : GMap) (F : Nat → Option Row) (cs : List AV) (n : Nat) (x : AV) => @id (cvV g F (.sl cs n : AV) x = cv1 g F (.sl cs n : AV) x) rfl))
 (aI
 (fun (g : GMap) (F : Nat → Option Row) (cs : List AV) (n : Nat) (x : AV) => @id (cvW g F (.sl cs n : AV) x = cvV g F (.sl cs n : AV) x) rfl)
 (fun (g : GMap) (F : Nat → Option Row) (s : Nat) (n : Nat) => @id (cv1 g F (.own s n : AV) .top = True) rfl)))
 (aI
 (aI
 (fun (g : GMap) (F : Nat → Option Row) (s : Nat) (n : Nat) (x : AV) => @id (cvV g F (.own s n : AV) x = cv1 g F (.own s n : AV) x) rfl)
 (fun (g : GMap) (F : Nat → Option Row) (s : Nat) (n : Nat) (x : AV) => @id (cvW g F (.own s n : AV) x = cvV g F (.own s n : AV) x) rfl))
 (aI
 (fun (g : GMap) (F : Nat → Option Row) (s : Nat) (o : Nat) => @id (cv1 g F (.ptr s o : AV) .top = True) rfl)
 (fun (g : GMap) (F : Nat → Option Row) (s : Nat) (o : Nat) (x : AV) => @id (cvV g F (.ptr s o : AV) x = cv1 g F (.ptr s o : AV) x) rfl))))
 (aI
 (aI
 (aI
 (fun (g : GMap) (F : Nat → Option Row) (s : Nat) (o : Nat) (x : AV) => @id (cvW g F (.ptr s o : AV) x = cvV g F (.ptr s o : AV) x) rfl)
 (fun (g : GMap) (F : Nat → Option Row) (cs : List AV) => @id (cv1 g F (.eptr cs : AV) .top = True) rfl))
 (aI
 (fun (g : GMap) (F : Nat → Option Row) (cs : List AV) (x : AV) => @id (cvV g F (.eptr cs : AV) x = cv1 g F (.eptr cs : AV) x) rfl)
 (fun (g : GMap) (F : Nat → Option Row) (cs : List AV) (x : AV) => @id (cvW g F (.eptr cs : AV) x = cvV g F (.eptr cs : AV) x) rfl)))
 (aI
 (aI
 (fun (g : GMap) (F : Nat → Option Row) (fi : FuncId) (ps : List Nat) => @id (cv1 g F (.fn fi ps : AV) .top = True) rfl)
 (fun (g : GMap) (F : Nat → Option Row) (fi : FuncId) (ps : List Nat) (x : AV) => @id (cvV g F (.fn fi ps : AV) x = cv1 g F (.fn fi ps : AV) x) rfl))
 (aI
 (fun (g : GMap) (F : Nat → Option Row) (fi : FuncId) (ps : List Nat) (x : AV) => @id (cvW g F (.fn fi ps : AV) x = cvV g F (.fn fi ps : AV) x) rfl)
 (fun (g : GMap) (F : Nat → Option Row)  => @id (cv1 g F .top .top = True) rfl))))))
 (aI
 (aI
 (aI
 (aI
 (aI
 (fun (g : GMap) (F : Nat → Option Row)  (x : AV) => @id (cvV g F (.top : AV) x = cv1 g F (.top : AV) x) rfl)
 (fun (g : GMap) (F : Nat → Option Row)  (x : AV) => @id (cvW g F (.top : AV) x = cvV g F (.top : AV) x) rfl))
 (aI
 (fun (g : GMap) (F : Nat → Option Row) (cs cs2 : List AV) => @id (cvV g F (.agg cs) (.agg cs2) = cvL g F cs cs2) rfl)
 (fun (g : GMap) (F : Nat → Option Row) (cs : List AV) => @id (cvV g F (.agg cs) .top = True) rfl)))
 (aI
 (aI
 (fun (g : GMap) (F : Nat → Option Row) (cs cs2 : List AV) => @id (cvW g F (.tup cs) (.tup cs2) = cvT g F cs cs2) rfl)
 (fun (g : GMap) (F : Nat → Option Row) (cs : List AV) => @id (cvW g F (.tup cs) .top = True) rfl))
 (aI
 @cvT.eq_1
 @cvT.eq_2)))
 (aI
 (aI
 (aI
 @enumR.eq_1
 @enumR.eq_2)
 (aI
 (fun (g : GMap) (F : Nat → Option Row) (s n s2 n2 : Nat) => @id (cv1 g F (.own s n) (.own s2 n2) = (g s2 = some (some s) ∧ n = n2)) rfl)
 (fun (g : GMap) (F : Nat → Option Row) (s2 n2 : Nat) => @id (cv1 g F .nil (.own s2 n2) = (g s2 = some none ∧ n2 = 0)) rfl)))
 (aI
 (aI
 (fun (g : GMap) (F : Nat → Option Row) (s n s2 n2 : Nat) => @id (cv1 g F (.ptr s n) (.ptr s2 n2) = (g s2 = some (some s) ∧ n = n2)) rfl)
 (fun (g : GMap) (F : Nat → Option Row) (cs cs2 : List AV) (n n2 : Nat) => @id (cv1 g F (.sl cs n) (.sl cs2 n2) = (cs = cs2 ∧ n = n2)) rfl))
 (aI
 (fun (g : GMap) (F : Nat → Option Row) (cs2 : List AV) (n2 : Nat) => @id (cv1 g F .nil (.sl cs2 n2) = (cs2 = [] ∧ n2 = 0)) rfl)
 (fun (g : GMap) (F : Nat → Option Row) (cs2 : List AV) (s n n2 : Nat) => @id (cv1 g F (.own s n) (.sl cs2 n2) = (fz1 F (F s) cs2 ∧ n = n2)) rfl)))))
 (aI
 (aI
 (aI
 (aI
 (fun (g : GMap) (F : Nat → Option Row) (k k2 : IntKind) (n n2 : Int) => @id (cv1 g F (.int k n) (.int k2 n2) = (k = k2 ∧ n = n2)) rfl)
 (fun (g : GMap) (F : Nat → Option Row) (b b2 : Bool) => @id (cv1 g F (.bool b) (.bool b2) = (b = b2)) rfl))
 (aI
 (fun (g : GMap) (F : Nat → Option Row) (b b2 : ByteArray) => @id (cv1 g F (.str b) (.str b2) = (b = b2)) rfl)
 (fun (g : GMap) (F : Nat → Option Row)  => @id (cv1 g F .nil .nil = True) rfl)))
 (aI
 (aI
 (fun (g : GMap) (F : Nat → Option Row) (cs cs2 : List AV) => @id (cv1 g F (.eptr cs) (.eptr cs2) = (cs = cs2)) rfl)
 (fun (g : GMap) (F : Nat → Option Row) (f f2 : FuncId) (ps ps2 : List Nat) => @id (cv1 g F (.fn f ps) (.fn f2 ps2) = (f = f2 ∧ cvP g ps ps2)) rfl))
 (aI
 @cvP.eq_1
 @cvP.eq_2)))
 (aI
 (aI
 (aI
 @cvL.eq_1
 @cvL.eq_2)
 (aI
 @cvR.eq_1
 @cvR.eq_2))
 (aI
 (aI
 @cvR.eq_3
 @cvR.eq_4)
 (aI
 @rowR.eq_1
 (aI
 @rowK.eq_1
 @leT.eq_1)))))))
 (aI
 (aI
 (aI
 (aI
 (aI
 (aI
 @leT.eq_2
 @leR.eq_1)
 (aI
 @leR.eq_2
 @lk.eq_1))
 (aI
 (aI
 @lk.eq_2
 @fz1.eq_1)
 (aI
 @fz1.eq_2
 @fzF.eq_1)))
 (aI
 (aI
 (aI
 (fun (g : GMap) (F : Nat → Option Row) (T : Nat) (cs : List AV) => @id (cvR g F (.box T cs) .gone = True) rfl)
 (fun (g : GMap) (F : Nat → Option Row) (E sz : Nat) (cs : List AV) => @id (cvR g F (.row E sz cs) .gone = True) rfl))
 (aI
 (fun (g : GMap) (F : Nat → Option Row) (E sz : Nat) (cs : List AV) => @id (cvR g F (.tab E sz cs) .gone = True) rfl)
 (fun (g : GMap) (F : Nat → Option Row)  => @id (cvR g F .gone .gone = True) rfl)))
 (aI
 (aI
 (fun (g : GMap) (F : Nat → Option Row)  => @id (rowR g F none .gone = True) rfl)
 (fun (g : GMap) (F : Nat → Option Row) (R : Nat → Option Row) (E sz : Nat) (cs : List AV) => @id (rowK g F R (some none) (.row E sz cs) = (cs = [])) rfl))
 (aI
 (fun (g : GMap) (F : Nat → Option Row) (R : Nat → Option Row) (E sz : Nat) (cs : List AV) => @id (rowK g F R (some none) (.tab E sz cs) = (cs = [])) rfl)
 (fun (g : GMap) (F : Nat → Option Row) (R : Nat → Option Row) => @id (rowK g F R none .gone = True) rfl)))))
 (aI
 (aI
 (aI
 (aI
 (fun (k : IntKind) (n : Int) => @id (fr1 (.int k n : AV) = True) rfl)
 (fun (k : IntKind) (n : Int) => @id (fr2 (.int k n : AV) = fr1 (.int k n : AV)) rfl))
 (aI
 (fun (k : IntKind) (n : Int) => @id (fr3 (.int k n : AV) = fr2 (.int k n : AV)) rfl)
 (fun (b : Bool) => @id (fr1 (.bool b : AV) = True) rfl)))
 (aI
 (aI
 (fun (b : Bool) => @id (fr2 (.bool b : AV) = fr1 (.bool b : AV)) rfl)
 (fun (b : Bool) => @id (fr3 (.bool b : AV) = fr2 (.bool b : AV)) rfl))
 (aI
 (fun (s : ByteArray) => @id (fr1 (.str s : AV) = True) rfl)
 (fun (s : ByteArray) => @id (fr2 (.str s : AV) = fr1 (.str s : AV)) rfl))))
 (aI
 (aI
 (aI
 (fun (s : ByteArray) => @id (fr3 (.str s : AV) = fr2 (.str s : AV)) rfl)
 (fun (cs : List AV) => @id (fr1 (.agg cs : AV) = False) rfl))
 (aI
 (fun (cs : List AV) => @id (fr2 (.agg cs : AV) = frL fr1 cs) rfl)
 (fun (cs : List AV) => @id (fr3 (.agg cs : AV) = fr2 (.agg cs : AV)) rfl)))
 (aI
 (aI
 (fun (cs : List AV) => @id (fr1 (.tup cs : AV) = False) rfl)
 (fun (cs : List AV) => @id (fr2 (.tup cs : AV) = fr1 (.tup cs : AV)) rfl))
 (aI
 (fun (cs : List AV) => @id (fr3 (.tup cs : AV) = frL fr2 cs) rfl)
 (aI
 (@id (fr1 (.nil : AV) = True) rfl)
 (@id (fr2 (.nil : AV) = fr1 (.nil : AV)) rfl)))))))
 (aI
 (aI
 (aI
 (aI
 (aI
 (@id (fr3 (.nil : AV) = fr2 (.nil : AV)) rfl)
 (fun (cs : List AV) (n : Nat) => @id (fr1 (.sl cs n : AV) = False) rfl))
 (aI
 (fun (cs : List AV) (n : Nat) => @id (fr2 (.sl cs n : AV) = fr1 (.sl cs n : AV)) rfl)
 (fun (cs : List AV) (n : Nat) => @id (fr3 (.sl cs n : AV) = fr2 (.sl cs n : AV)) rfl)))
 (aI
 (aI
 (fun (s : Nat) (n : Nat) => @id (fr1 (.own s n : AV) = True) rfl)
 (fun (s : Nat) (n : Nat) => @id (fr2 (.own s n : AV) = fr1 (.own s n : AV)) rfl))
 (aI
 (fun (s : Nat) (n : Nat) => @id (fr3 (.own s n : AV) = fr2 (.own s n : AV)) rfl)
 (fun (s : Nat) (o : Nat) => @id (fr1 (.ptr s o : AV) = True) rfl))))
 (aI
 (aI
 (aI
 (fun (s : Nat) (o : Nat) => @id (fr2 (.ptr s o : AV) = fr1 (.ptr s o : AV)) rfl)
 (fun (s : Nat) (o : Nat) => @id (fr3 (.ptr s o : AV) = fr2 (.ptr s o : AV)) rfl))
 (aI
 (fun (cs : List AV) => @id (fr1 (.eptr cs : AV) = False) rfl)
 (fun (cs : List AV) => @id (fr2 (.eptr cs : AV) = fr1 (.eptr cs : AV)) rfl)))
 (aI
 (aI
 (fun (cs : List AV) => @id (fr3 (.eptr cs : AV) = fr2 (.eptr cs : AV)) rfl)
 (fun (fi : FuncId) (ps : List Nat) => @id (fr1 (.fn fi ps : AV) = False) rfl))
 (aI
 (fun (fi : FuncId) (ps : List Nat) => @id (fr2 (.fn fi ps : AV) = fr1 (.fn fi ps : AV)) rfl)
 (fun (fi : FuncId) (ps : List Nat) => @id (fr3 (.fn fi ps : AV) = fr2 (.fn fi ps : AV)) rfl)))))
 (aI
 (aI
 (aI
 (aI
 (@id (fr1 (.top : AV) = True) rfl)
 (@id (fr2 (.top : AV) = fr1 (.top : AV)) rfl))
 (aI
 (@id (fr3 (.top : AV) = fr2 (.top : AV)) rfl)
 @frL.eq_1))
 (aI
 (aI
 @frL.eq_2
 @frR.eq_1)
 (aI
 @frR.eq_2
 @frR.eq_3)))
 (aI
 (aI
 (aI
 @frR.eq_4
 @frRs.eq_1)
 (aI
 @frRs.eq_2
 (fun (s : Nat) => @id (gid s = some (some s)) rfl)))
 (aI
 (aI
 (fun (s : Nat) => @id (fno s = none) rfl)
 @cvA.eq_1)
 (aI
 @cvA.eq_2
 (aI
 @cvRs.eq_1
 @cvRs.eq_2))))))))
end Go.Proofs.Ytfjopjalhllplaa
/- The engine, part 19: regions in which reads and writes of different rows are not ordered. Over any program. -/
namespace Go.Proofs.Ytfjopjalhllplaa
open Go.RowKit
set_option linter.unusedVariables false
set_option linter.unusedSimpArgs false
set_option linter.defProp false

/-- Which rows an operation of the region reads (a load) or may change (what writes); empty: nothing is said. -/
abbrev Tbl := List (Nat × List Nat)
def tget : Tbl → Nat → List Nat
 | [], _ => []
 | (k, l) :: t, j => if j = k then l else tget t j
def isLoad : Op → Bool
 | .load _ _ => true
 | _ => false
def inT : AV → List Nat → Prop
 | .ptr s _, l => l.contains s = true
 | .eptr _, _ => True
 | _, _ => False
def oblL (l : List Nat) (st : St) : Op → Prop
 | .load _ x => l.isEmpty = true ∨ inT (st.ev x) l
 | _ => True
def oblW (l : List Nat) (st st' : St) : Prop := l.isEmpty = true ∨ ∀ s, l.contains s = false → st'.rows s = st.rows s
/-- A table that begins with this mark says of an operation all that it reads or changes. -/
def flg : List Nat → Bool
 | [] => false
 | k :: _ => k == 8888888
def inO (l : List Nat) : AV → Prop
 | .own s _ => l.contains s = true
 | _ => True
def inOL (l : List Nat) : List AV → Prop
 | [] => True
 | v :: vs => inO l v ∧ inOL l vs
def oblF (l : List Nat) (site : Nat) (st : St) : Op → Prop
 | .load _ x => inT (st.ev x) l
 | .alloc _ => l.contains site = true
 | .box _ _ => l.contains site = true
 | .buildSlice _ _ _ => l.contains site = true
 | .makeSlice _ _ _ => l.contains site = true
 | .store _ x _ => inT (st.ev x) l
 | .call c => match c.callee with
  | .builtin .append => l.contains site = true ∧ inOL l (evL st c.args.toList)
  | _ => False
 | _ => False
def oblX (l : List Nat) (site : Nat) (st : St) (op : Op) : Prop := flg l = false ∨ oblF l.tail site st op
def propT (BR : Nat → Bool) (l : List Nat) (site : Nat) (o : Oper) (st st' : St) : Prop := oblL l st o.op ∧ (3 ≤ cls BR o.op → oblW l st st') ∧ oblX l site st o.op
def GstT (tbl : Tbl) (P : Program) (BR : Nat → Bool) (ops : Array Oper) (k site : Nat) (o : Oper) (st st' : St) : Prop := Gst P BR ops site o st st' ∧ propT BR (tget tbl k) site o st st'
/-- Two operations with full tables that have no row in common. -/
def tab2B (tbl : Tbl) (kx ky : Nat) (x y : Oper) : Bool :=
 x.guard.isNone && (y.guard.isNone && (flg (tget tbl kx) && (flg (tget tbl ky) && (tget tbl kx).tail.all fun s => !(tget tbl ky).tail.contains s)))
def tabB (tbl : Tbl) (BR : Nat → Bool) (kx ky : Nat) (x y : Oper) : Bool :=
 x.guard.isNone && isLoad x.op && decide (3 ≤ cls BR y.op) && !(tget tbl kx).isEmpty && !(tget tbl ky).isEmpty && (tget tbl kx).all (fun s => !(tget tbl ky).contains s)
def indepT (tbl : Tbl) (BR : Nat → Bool) (ops : Array Oper) (kx ky : Nat) (x y : Oper) : Bool := indepB BR ops x y || (x.apart ops y && (tab2B tbl kx ky x y || (tabB tbl BR kx ky x y || tabB tbl BR ky kx y x)))
section
variable {P : Program} {BR : Nat → Bool} {ops : Array Oper} {tbl : Tbl}
theorem indepT_apart {kx ky : Nat} {x y : Oper} (h : indepT tbl BR ops kx ky x y = true) : x.apart ops y = true := by
 unfold indepT indepB at h
 simp only [Bool.or_eq_true, Bool.and_eq_true] at h
 rcases h with h | h
 ·exact h.1
 ·exact h.1
theorem load_cls {o : Op} (h : isLoad o = true) : cls BR o = 1 := by
 cases o <;> first | (cases h; done) | rfl
theorem oblL_cls {l : List Nat} {o : Op} {st : St} (h : 3 ≤ cls BR o) : oblL l st o := by
 by_cases hl : isLoad o = true
 ·rw [load_cls hl] at h; omega
 ·cases o <;> first | trivial | exact absurd rfl hl
theorem Gst_load {site : Nat} {o : Oper} {st st' : St} (hg : o.guard.isNone = true) (hl : isLoad o.op = true) (h : Gst P BR ops site o st st') :
  ∃ T p sz ag v, o.op = .load T p ∧ szA P T = some (sz, ag) ∧ loadA ag sz st.rows (st.ev p) = some v ∧ st' = st.put o.dst v := by
 have hg' : o.guard = none := by simpa using hg
 unfold Gst at h
 simp only [hg'] at h
 unfold Stp at h
 simp only [load_cls hl] at h
 obtain ⟨v, nw, h1, h2, rfl⟩ := h
 obtain ⟨T, p, hop⟩ : ∃ T p, o.op = .load T p := by
  cases ho : o.op <;> rw [ho] at hl <;> first | (cases hl; done) | exact ⟨_, _, rfl⟩
 rw [hop] at h1
 simp only [aMk] at h1
 split at h1
 ·rename_i sz ag hs
  split at h1
  ·rename_i v' hv
   simp only [Option.some.injEq, Prod.mk.injEq] at h1
   obtain ⟨rfl, rfl⟩ := h1
   exact ⟨T, p, sz, ag, v', hop, hs, hv, rfl⟩
  ·cases h1
 ·cases h1
theorem Gst_load_mk {site : Nat} {o : Oper} {st : St} {T : TypeId} {p : Operand} {sz : Nat} {ag : Bool} {v : AV} (hg : o.guard.isNone = true) (hop : o.op = .load T p) (hs : szA P T = some (sz, ag)) (hv : loadA ag sz st.rows (st.ev p) = some v) :
  Gst P BR ops site o st (st.put o.dst v) := by
 have hg' : o.guard = none := by simpa using hg
 unfold Gst
 simp only [hg']
 unfold Stp
 have : cls BR o.op = 1 := by rw [hop]; rfl
 simp only [this]
 exact ⟨v, none, by rw [hop]; simp only [aMk, hs, hv], (fun h => by cases h), rfl⟩
theorem loadA_congr {ag : Bool} {sz : Nat} {R R' : Nat → Option Row} {a : AV} {l : List Nat} (h : inT a l) (hr : ∀ s, l.contains s = true → R' s = R s) : loadA ag sz R' a = loadA ag sz R a := by
 unfold inT at h
 split at h
 ·simp only [loadA, hr _ h]
 ·rfl
 ·exact h.elim
theorem ev_of_apart {o : Oper} {st st2 : St} (h : ∀ t ∈ o.looksAt ops, st2.tmps t = st.tmps t) {T : TypeId} {p : Operand} (hop : o.op = .load T p) : st2.ev p = st.ev p :=
 (St.ev_of (ops := ops) h p (by rw [hop]; simp [Op.operands])).symm
theorem oblL_same {l : List Nat} {o : Oper} {st st2 : St} (h : ∀ t ∈ o.looksAt ops, st2.tmps t = st.tmps t) (hl : oblL l st o.op) : oblL l st2 o.op := by
 cases hop : o.op <;> first | trivial | skip
 rw [hop] at hl
 simp only [oblL] at hl ⊢
 rw [ev_of_apart h hop]; exact hl
/-- The rows in a list as in R, the others as in R2. -/
def mixR (l : List Nat) (R R2 : Nat → Option Row) : Nat → Option Row := fun s => match l.contains s with | true => R s | false => R2 s
theorem mixR_same {l : List Nat} {R R2 : Nat → Option Row} (h : ∀ s, l.contains s = true → R2 s = R s) : mixR l R R2 = R2 := by
 funext s
 unfold mixR
 split
 ·rename_i hs; exact (h s hs).symm
 ·rfl
theorem mixR_upd {l : List Nat} {R R2 : Nat → Option Row} {k : Nat} {v : Option Row} (h : l.contains k = true) : mixR l (upd R k v) R2 = upd (mixR l R R2) k v := by
 funext s
 by_cases e : s = k
 ·subst e
  rw [upd_same]
  unfold mixR
  rw [h, upd_same]
 ·rw [upd_ne _ _ e]
  unfold mixR
  split
  ·rw [upd_ne _ _ e]
  ·rfl
theorem evL_congr {o : Oper} {st st2 : St} (he : ∀ x ∈ o.op.operands, st.ev x = st2.ev x) : ∀ (l : List Operand), (∀ x ∈ l, x ∈ o.op.operands) → evL st2 l = evL st l
 | [], _ => rfl
 | x :: l, h => by
  simp only [evL]
  rw [evL_congr he l (fun y hy => h y (by simp [hy])), he x (h x (by simp))]
theorem oblX_same {l : List Nat} {site : Nat} {o : Oper} {st st2 : St} (h : ∀ t ∈ o.looksAt ops, st2.tmps t = st.tmps t) (hl : oblX l site st o.op) : oblX l site st2 o.op := by
 have he := St.ev_of (st := st) (st2 := st2) h
 rcases hl with hl | hl
 ·exact .inl hl
 refine .inr ?_
 cases hop : o.op <;> rw [hop] at hl he <;> simp only [oblF] at hl ⊢ <;> first | exact hl | skip
 ·rw [← he _ (by simp [Op.operands])]; exact hl
 ·rw [← he _ (by simp [Op.operands])]; exact hl
 ·rename_i c
  split at hl
  ·refine ⟨hl.1, ?_⟩
   rw [evL_congr (o := o) (st := st) (st2 := st2) (by rw [hop]; exact he) _ (fun x hx => args_looked hop x hx)]
   exact hl.2
  ·exact hl.elim
theorem srcA_congr {sz : Nat} {R R2 : Nat → Option Row} {l : List Nat} {a : AV} (h : inO l a) (hr : ∀ s, l.contains s = true → R2 s = R s) : srcA sz R2 a = srcA sz R a := by
 cases a <;> first | rfl | skip
 rename_i s m
 simp only [srcA, hr s h]
/-- A writer with a full table. -/
theorem aWr_frame {site : Nat} {st st2 : St} {op : Op} {l : List Nat} {v : AV} {rows' : Nat → Option Row} (hc : 3 ≤ cls BR op) (h : aWr P site st.ev st.rows op = some (v, rows')) (hev : ∀ x ∈ op.operands, st.ev x = st2.ev x) (ho : oblF l site st op)
  (hr : ∀ s, l.contains s = true → st2.rows s = st.rows s) : (∀ s, l.contains s = false → rows' s = st.rows s) ∧ aWr P site st2.ev st2.rows op = some (v, mixR l rows' st2.rows) ∧ (∀ s n, v = .own s n → l.contains s = true) := by
 cases op <;> simp only [aWr] at h <;> first | (cases h; done) | skip
 case store t x y =>
  simp only [oblF] at ho
  simp only [aWr]
  rw [← hev x (by simp [Op.operands]), ← hev y (by simp [Op.operands])]
  split at h
  ·rename_i sz ag s off ht hx
   rw [hx] at ho
   have hs : l.contains s = true := ho
   have key : ∀ (r : Row), (∀ k, l.contains k = false → upd st.rows s (some r) k = st.rows k) ∧ upd st2.rows s (some r) = mixR l (upd st.rows s (some r)) st2.rows := fun r =>
    ⟨fun k hk => upd_ne _ _ (fun e => by rw [e, hs] at hk; cases hk), by rw [mixR_upd hs, mixR_same hr]⟩
   try simp only [ht, hx, hr s hs]
   split at h
   ·rename_i T cs hrow
    split at h
    ·rename_i hcond
     simp only [Option.some.injEq, Prod.mk.injEq] at h
     obtain ⟨rfl, rfl⟩ := h
     try simp only [hrow]
     rw [if_pos hcond, ← (key _).2]
     exact ⟨(key _).1, rfl, fun s n h => by cases h⟩
    ·cases h
   ·rename_i T z cs hrow
    split at h
    ·rename_i hcond
     simp only [Option.some.injEq, Prod.mk.injEq] at h
     obtain ⟨rfl, rfl⟩ := h
     try simp only [hrow]
     rw [if_pos hcond, ← (key _).2]
     exact ⟨(key _).1, rfl, fun s n h => by cases h⟩
    ·cases h
   ·rename_i T z cs hrow
    split at h
    ·rename_i hcond
     simp only [Option.some.injEq, Prod.mk.injEq] at h
     obtain ⟨rfl, rfl⟩ := h
     try simp only [hrow]
     rw [if_pos hcond, ← (key _).2]
     exact ⟨(key _).1, rfl, fun s n h => by cases h⟩
    ·cases h
   ·cases h
  ·cases h
 case call c =>
  simp only [oblF] at ho
  simp only [aWr]
  split at h
  ·rename_i s x t t' hcal hargs htys
   rw [hcal] at ho
   simp only [hargs, evL, inOL, and_true] at ho
   obtain ⟨hsite, h1, h2⟩ := ho
   have es : st2.ev s = st.ev s := (hev s (args_looked (o := ⟨none, .call c, 0, "", #[], none⟩) rfl s (by rw [hargs]; simp))).symm
   have ex : st2.ev x = st.ev x := (hev x (args_looked (o := ⟨none, .call c, 0, "", #[], none⟩) rfl x (by rw [hargs]; simp))).symm
   try simp only [hcal, hargs, htys]
   split at h
   ·rename_i htt
    rw [if_pos htt]
    split at h
    ·rename_i e sz he
     try simp only [he, ex, es]
     rw [srcA_congr h2 hr]
     split at h
     ·rename_i z ys m hz hsrc
      try simp only [hz, hsrc]
      split at h
      ·rename_i hcond
       rw [if_pos hcond]
       split at h
       ·rename_i hev0
        split at h
        ·rename_i hm
         simp only [Option.some.injEq, Prod.mk.injEq] at h
         obtain ⟨rfl, rfl⟩ := h
         try simp only [hev0]
         rw [if_pos ⟨hm.1, by rw [hr site hsite]; exact hm.2⟩, mixR_upd hsite, mixR_same hr]
         exact ⟨fun k hk => upd_ne _ _ (fun e => by rw [e, hsite] at hk; cases hk), rfl, fun s n h => by injection h with h _; subst h; exact hsite⟩
        ·cases h
       ·rename_i k n hev0
        rw [hev0] at h1
        have hk : l.contains k = true := h1
        split at h
        ·rename_i e' z' cs hrow
         split at h
         ·rename_i hm
          simp only [Option.some.injEq, Prod.mk.injEq] at h
          obtain ⟨rfl, rfl⟩ := h
          try simp only [hev0, hr k hk, hrow]
          rw [if_pos ⟨hm.1, hm.2.1, hm.2.2.1, by rw [hr site hsite]; exact hm.2.2.2⟩, mixR_upd hsite, mixR_upd hk, mixR_same hr]
          refine ⟨fun j hj => ?_, rfl, fun s n h => by injection h with h _; subst h; exact hsite⟩
          rw [upd_ne _ _ (fun e => by rw [e, hsite] at hj; cases hj), upd_ne _ _ (fun e => by rw [e, hk] at hj; cases hj)]
         ·cases h
        ·cases h
       ·cases h
      ·cases h
     ·rename_i z hz hsrc
      try simp only [hz, hsrc]
      split at h
      ·rename_i hcond
       rw [if_pos hcond]
       obtain ⟨k, n, j, m, cs, ys, ea, eb, hk, hj, hnm, hsite', rfl, rfl⟩ := tabApp_inv h
       rw [ea] at h1
       rw [eb] at h2
       have hkl : l.contains k = true := h1
       have hjl : l.contains j = true := h2
       rw [ea, eb]
       simp only [tabApp, hr k hkl, hr j hjl, hk, hj, tabR]
       rw [if_pos ⟨⟨trivial, trivial⟩, ⟨trivial, trivial⟩, hnm, by rw [hr site hsite]; exact hsite'⟩, mixR_upd hsite, mixR_upd hkl, mixR_same hr]
       refine ⟨fun j hj => ?_, rfl, fun s n h => by injection h with h _; subst h; exact hsite⟩
       rw [upd_ne _ _ (fun e => by rw [e, hsite] at hj; cases hj), upd_ne _ _ (fun e => by rw [e, hkl] at hj; cases hj)]
      ·cases h
     ·cases h
    ·cases h
   ·cases h
  ·cases h
/-- An operation with a full table, without a guard. -/
theorem GstF {site : Nat} {o : Oper} {st st' : St} {l : List Nat} (hg : o.guard.isNone = true) (h : Gst P BR ops site o st st') (ho : oblF l site st o.op) :
  ∃ v, st' = (({ st with rows := st'.rows } : St).put o.dst v) ∧ (∀ s, l.contains s = false → st'.rows s = st.rows s) ∧
   ∀ st2 : St, (∀ t ∈ o.looksAt ops, st2.tmps t = st.tmps t) → (∀ s, l.contains s = true → st2.rows s = st.rows s) → Gst P BR ops site o st2 (({ st2 with rows := mixR l st'.rows st2.rows } : St).put o.dst v) := by
 have hg' : o.guard = none := by simpa using hg
 unfold Gst at h
 simp only [hg'] at h
 unfold Stp at h
 split at h
 ·rename_i hc
  exfalso
  cases hop : o.op <;> rw [hop] at hc ho <;> first | exact ho | (simp only [cls] at hc; omega) | skip
  rename_i c
  simp only [oblF] at ho
  split at ho
  ·rename_i hcal
   simp only [cls, hcal] at hc
   omega
  ·exact ho
 ·rename_i hc
  obtain ⟨v, nw, h1, h2, rfl⟩ := h
  have mk : ∀ st2 : St, (∀ t ∈ o.looksAt ops, st2.tmps t = st.tmps t) → (nw.isSome = true → st2.rows site = none) → aMk P (FZ BR site) site st2.ev st2.rows o.op = some (v, nw) → Gst P BR ops site o st2 ((st2.add site nw.toList).put o.dst v) := fun st2 _ hs hm => by
   unfold Gst
   simp only [hg']
   unfold Stp
   simp only [hc]
   exact ⟨v, nw, hm, hs, rfl⟩
  refine ⟨v, by simp only [St.put_rows, St.add], ?_⟩
  simp only [St.put_rows]
  cases hop : o.op <;> rw [hop] at h1 ho <;> first | exact ho.elim | (simp only [aMk] at h1; cases h1; done) | skip
  case load T p =>
   simp only [aMk] at h1
   split at h1
   ·rename_i sz ag hsz
    split at h1
    ·rename_i v' hl
     simp only [Option.some.injEq, Prod.mk.injEq] at h1
     obtain ⟨rfl, rfl⟩ := h1
     refine ⟨fun s _ => rfl, fun st2 ht hr => ?_⟩
     have em : mixR l ((st.add site (none : Option Row).toList).rows) st2.rows = st2.rows := mixR_same hr
     rw [em]
     refine mk st2 ht (fun h => by cases h) ?_
     rw [hop]
     simp only [aMk, hsz]
     rw [ev_of_apart ht hop, loadA_congr ho hr, hl]
    ·cases h1
   ·cases h1
  all_goals
   have hs : l.contains site = true := ho
   cases nw with
   | none =>
    refine ⟨fun s _ => rfl, fun st2 ht hr => ?_⟩
    have em : mixR l ((st.add site (none : Option Row).toList).rows) st2.rows = st2.rows := mixR_same hr
    rw [em]
    refine mk st2 ht (fun h => by cases h) ?_
    have hfr := aMk_frame (P := P) (fz := FZ BR site) (site := site) (rows := st.rows) (rows' := st.rows) (St.ev_of (ops := ops) (st := st) (st2 := st2) ht) (fun _ _ _ _ _ h => h) (by rw [hop]; exact h1)
    rw [hop] at hfr ⊢
    exact hfr
   | some r =>
    have er : (st.add site (some r).toList).rows = upd st.rows site (some r) := rfl
    refine ⟨fun s hsf => ?_, fun st2 ht hr => ?_⟩
    ·rw [er, upd_ne _ _ (fun e => by rw [e, hs] at hsf; cases hsf)]
    ·rw [er, mixR_upd hs, mixR_same hr]
     refine mk st2 ht (fun _ => by rw [hr site hs]; exact h2 rfl) ?_
     have hfr := aMk_frame (P := P) (fz := FZ BR site) (site := site) (rows := st.rows) (rows' := st.rows) (St.ev_of (ops := ops) (st := st) (st2 := st2) ht) (fun _ _ _ _ _ h => h) (by rw [hop]; exact h1)
     rw [hop] at hfr ⊢
     exact hfr
 ·rename_i hc
  exfalso
  obtain ⟨c, f, _, _, _, _, hop, hcal, _⟩ := h
  rw [hop] at ho
  rcases hcal with ⟨hcal, _⟩ | ⟨_, _, hcal, _⟩ <;> simp only [oblF, hcal] at ho
 ·rename_i hc
  obtain ⟨v, rows', h1, rfl⟩ := h
  have fin : ∀ (st2 : St), frzW (aWr P site st2.ev st2.rows o.op) (FZ BR site) = some (v, mixR l rows' st2.rows) → Gst P BR ops site o st2 (({ st2 with rows := mixR l rows' st2.rows } : St).put o.dst v) := fun st2 hm => by
   unfold Gst
   simp only [hg']
   unfold Stp
   simp only [hc]
   exact ⟨v, _, hm, rfl⟩
  refine ⟨v, by simp only [St.put_rows], ?_⟩
  simp only [St.put_rows]
  cases hfz : FZ BR site with
  | false =>
   rw [hfz] at h1 fin
   simp only [frzW] at h1 fin
   have base := aWr_frame (BR := BR) (st2 := st) (by omega) h1 (fun _ _ => rfl) ho (fun _ _ => rfl)
   refine ⟨base.1, fun st2 ht hr => fin st2 ?_⟩
   exact (aWr_frame (BR := BR) (st2 := st2) (by omega) h1 (St.ev_of (ops := ops) (st := st) (st2 := st2) ht) ho hr).2.1
  | true =>
   rw [hfz] at h1 fin
   obtain ⟨s, n, rows, E, sz, cs, g1, g2, rfl, rfl⟩ := frz_inv h1
   have base := aWr_frame (BR := BR) (st2 := st) (by omega) g1 (fun _ _ => rfl) ho (fun _ _ => rfl)
   have hs := base.2.2 s n rfl
   refine ⟨fun k hk => ?_, fun st2 ht hr => fin st2 ?_⟩
   ·rw [upd_ne _ _ (fun e => by rw [e, hs] at hk; cases hk)]; exact base.1 k hk
   ·have := (aWr_frame (BR := BR) (st2 := st2) (by omega) g1 (St.ev_of (ops := ops) (st := st) (st2 := st2) ht) ho hr).2.1
    rw [this, mixR_upd hs]
    have em : mixR l rows st2.rows s = some (.row E sz cs) := by unfold mixR; rw [hs]; exact g2
    simp only [frzW, frzO, frzV, em, frzR]
 ·rename_i hc
  exfalso
  obtain ⟨ι, nt, c, f, _, _, _, _, hop, hcal, _⟩ := h
  rw [hop] at ho
  rcases hcal with ⟨hcal, _⟩ | ⟨_, _, hcal, _⟩ <;> simp only [oblF, hcal] at ho
 ·rename_i hc
  exfalso
  obtain ⟨ι, nt, c, f, _, _, _, _, hop, hcal, _⟩ := h
  rw [hop] at ho
  rcases hcal with ⟨hcal, _⟩ | ⟨_, _, hcal, _⟩ <;> simp only [oblF, hcal] at ho
 ·exact h.elim
theorem swapF {kx ky sx sy : Nat} {x y : Oper} {st s1 s2 : St} (hx : GstT tbl P BR ops kx sx x st s1) (hy : GstT tbl P BR ops ky sy y s1 s2) (hi : tab2B tbl ky kx y x = true) (hap : y.apart ops x = true) :
  ∃ s1', GstT tbl P BR ops ky sy y st s1' ∧ GstT tbl P BR ops kx sx x s1' s2 := by
 obtain ⟨a1, a2, a3⟩ := Oper.apart_spec hap
 obtain ⟨hx, px1, px2, px3⟩ := hx
 obtain ⟨hy, py1, py2, py3⟩ := hy
 unfold tab2B at hi
 simp only [Bool.and_eq_true] at hi
 obtain ⟨g1, g2, f1, f2, hd⟩ := hi
 have dis : ∀ s, (tget tbl ky).tail.contains s = true → (tget tbl kx).tail.contains s = false := fun s hs => by
  have := List.all_eq_true.1 hd s (by simpa using hs)
  simpa using this
 have ox : oblF (tget tbl kx).tail sx st x.op := by
  rcases px3 with h | h
  ·rw [f2] at h; cases h
  ·exact h
 have yt : ∀ t ∈ y.looksAt ops, st.tmps t = s1.tmps t := fun t ht => (gst_tmps hx t (fun e => a3 t e ht)).symm
 have oy1 : oblF (tget tbl ky).tail sy s1 y.op := by
  rcases py3 with h | h
  ·rw [f1] at h; cases h
  ·exact h
 obtain ⟨v, e1, k1, F1⟩ := GstF g2 hx ox
 obtain ⟨u, e2, k2, F2⟩ := GstF g1 hy oy1
 have ny := F2 st yt (fun s hs => (k1 s (dis s hs)).symm)
 have xt : ∀ {s1' : St}, Gst P BR ops sy y st s1' → ∀ t ∈ x.looksAt ops, s1'.tmps t = st.tmps t := fun hg t ht => gst_tmps hg t (fun e => a1 t e ht)
 have nx := F1 _ (xt ny) (fun s hs => by
   rw [St.put_rows]
   show mixR (tget tbl ky).tail s2.rows st.rows s = st.rows s
   unfold mixR
   split
   · rename_i hq
     have := dis s hq
     rw [hs] at this; cases this
   · rfl)
 have er : mixR (tget tbl kx).tail s1.rows (({ st with rows := mixR (tget tbl ky).tail s2.rows st.rows } : St).put y.dst u).rows = s2.rows := by
  rw [St.put_rows]
  funext s
  show mixR (tget tbl kx).tail s1.rows (mixR (tget tbl ky).tail s2.rows st.rows) s = s2.rows s
  unfold mixR
  split
  ·rename_i hs
   refine (k2 s ?_).symm
   cases hq : (tget tbl ky).tail.contains s with
   | false => rfl
   | true => rw [dis s hq] at hs; cases hs
  ·rename_i hs
   split
   ·rfl
   ·rename_i hq
    rw [k2 s hq, k1 s hs]
 have e3 : s2 = ({ (({ st with rows := mixR (tget tbl ky).tail s2.rows st.rows } : St).put y.dst u) with rows := s2.rows } : St).put x.dst v := by
  rw [put_rows_comm]
  conv => lhs; rw [e2, e1]
  rw [put_rows_comm, put_comm_st _ _ _ (fun d hd e => a2 d e hd)]
 rw [er] at nx
 rw [← e3] at nx
 refine ⟨_, ⟨ny, oblL_same yt py1, fun hcy => ?_, oblX_same yt py3⟩, ⟨nx, oblL_same (xt ny) px1, fun hcx => ?_, oblX_same (xt ny) px3⟩⟩
 ·have := py2 hcy
  rcases this with h | h
  ·exact .inl h
  ·refine .inr fun s hs => ?_
   rw [St.put_rows]
   show mixR (tget tbl ky).tail s2.rows st.rows s = st.rows s
   unfold mixR
   split
   ·rename_i hq
    exfalso
    have : (tget tbl ky).contains s = true := by
     have h1 : s ∈ (tget tbl ky).tail := by simpa using hq
     simpa using List.mem_of_mem_tail h1
    rw [hs] at this; cases this
   ·rfl
 ·have := px2 hcx
  rcases this with h | h
  ·exact .inl h
  ·refine .inr fun s hs => ?_
   rw [St.put_rows]
   show s2.rows s = mixR (tget tbl ky).tail s2.rows st.rows s
   unfold mixR
   split
   ·rfl
   ·rename_i hq
    rw [k2 s hq, h s hs]
theorem swapT {kx ky sx sy : Nat} {x y : Oper} {st s1 s2 : St} (hx : GstT tbl P BR ops kx sx x st s1) (hy : GstT tbl P BR ops ky sy y s1 s2) (hi : indepT tbl BR ops ky kx y x = true) (hs : sx + 16 ≤ sy ∨ sy + 16 ≤ sx)
  (hlive : ∀ t ∈ y.looksAt ops, ∀ s, refs (st.tmps t) s → st.rows s ≠ none) : ∃ s1', GstT tbl P BR ops ky sy y st s1' ∧ GstT tbl P BR ops kx sx x s1' s2 := by
 obtain ⟨a1, a2, a3⟩ := Oper.apart_spec (indepT_apart hi)
 have hxT := hx
 have hyT := hy
 obtain ⟨hx, px1, px2, px3⟩ := hx
 obtain ⟨hy, py1, py2, py3⟩ := hy
 have yt : ∀ t ∈ y.looksAt ops, st.tmps t = s1.tmps t := fun t ht => (gst_tmps hx t (fun e => a3 t e ht)).symm
 have py : oblL (tget tbl ky) st y.op := oblL_same yt py1
 have xt : ∀ {s1' : St}, Gst P BR ops sy y st s1' → ∀ t ∈ x.looksAt ops, s1'.tmps t = st.tmps t := fun hg t ht => gst_tmps hg t (fun e => a1 t e ht)
 have py3' : oblX (tget tbl ky) sy st y.op := oblX_same yt py3
 have hap := indepT_apart hi
 unfold indepT at hi
 simp only [Bool.or_eq_true, Bool.and_eq_true] at hi
 rcases hi with hB | ⟨_, hT | hT | hT⟩
 ·obtain ⟨s1', g1, g2⟩ := swap hx hy hB hs hlive
  have hc := hB
  unfold indepB at hc
  simp only [Bool.or_eq_true, Bool.and_eq_true, beq_iff_eq, decide_eq_true_eq] at hc
  refine ⟨s1', ⟨g1, py, fun hcy => ?_, py3'⟩, ⟨g2, oblL_same (xt g1) px1, fun hcx => ?_, oblX_same (xt g1) px3⟩⟩
  ·have hx0 : cls BR x.op = 0 := by omega
   obtain ⟨v, rfl, _⟩ := hx.pure hx0
   obtain ⟨v', rfl, _⟩ := g2.pure hx0
   have := py2 hcy
   simp only [oblW, St.put_rows] at this ⊢
   exact this
  ·have hy0 : cls BR y.op = 0 := by omega
   obtain ⟨v, rfl, _⟩ := hy.pure hy0
   obtain ⟨v', rfl, _⟩ := g1.pure hy0
   have := px2 hcx
   simp only [oblW, St.put_rows] at this ⊢
   exact this
 ·exact swapF hxT hyT hT hap
 ·-- y reads, x writes
  unfold tabB at hT
  simp only [Bool.and_eq_true, Bool.not_eq_true', decide_eq_true_eq, List.all_eq_true] at hT
  obtain ⟨⟨⟨⟨⟨t1, t2⟩, t3⟩, t4⟩, t5⟩, t6⟩ := hT
  obtain ⟨T, p, sz, ag, u, hop, hsz, hu, rfl⟩ := Gst_load t1 t2 hy
  have ep : st.ev p = s1.ev p := ev_of_apart yt hop
  have hin : inT (st.ev p) (tget tbl ky) := by
   rw [hop] at py
   rcases py with h | h
   ·rw [h] at t4; cases t4
   ·exact h
  have hw : ∀ s, (tget tbl kx).contains s = false → s1.rows s = st.rows s := by
   rcases px2 t3 with h | h
   ·rw [h] at t5; cases t5
   ·exact h
  have hu' : loadA ag sz st.rows (st.ev p) = some u := by
   rw [← hu, ← ep]
   refine (loadA_congr hin fun s hs => (hw s ?_).symm)
   have := t6 s (by simpa using hs)
   simpa using this
  have g1 : Gst P BR ops sy y st (st.put y.dst u) := Gst_load_mk t1 hop hsz hu'
  obtain ⟨v2, rows2, e1, h2⟩ := hx.congr (st2 := st.put y.dst u) (fun t ht => by rw [St.put_tmps_ne _ _ _ _ (fun e => a1 t e ht)]) (by rw [St.put_rows])
  have e2 : s1.put y.dst u = ({ st.put y.dst u with rows := rows2 } : St).put x.dst v2 := by
   rw [e1, put_rows_comm, put_comm_st _ _ _ (fun d hd e => a2 d e hd)]
  refine ⟨_, ⟨g1, py, fun hcy => ?_, py3'⟩, ⟨by rw [e2]; exact h2, oblL_cls t3, fun _ => ?_, oblX_same (xt g1) px3⟩⟩
  ·rw [load_cls t2] at hcy; omega
  ·have := px2 t3
   simp only [oblW, St.put_rows] at this ⊢
   exact this
 ·-- x reads, y writes
  unfold tabB at hT
  simp only [Bool.and_eq_true, Bool.not_eq_true', decide_eq_true_eq, List.all_eq_true] at hT
  obtain ⟨⟨⟨⟨⟨t1, t2⟩, t3⟩, t4⟩, t5⟩, t6⟩ := hT
  obtain ⟨T, p, sz, ag, v, hop, hsz, hv, rfl⟩ := Gst_load t1 t2 hx
  have hin : inT (st.ev p) (tget tbl kx) := by
   rw [hop] at px1
   rcases px1 with h | h
   ·rw [h] at t4; cases t4
   ·exact h
  have hw : ∀ s, (tget tbl ky).contains s = false → s2.rows s = st.rows s := by
   rcases py2 t3 with h | h
   ·rw [h] at t5; cases t5
   ·simpa only [St.put_rows] using h
  obtain ⟨v2, rows2, e1, h2⟩ := hy.congr (st2 := st) (fun t ht => yt t ht) (by rw [St.put_rows])
  have er : s2.rows = rows2 := by rw [e1, St.put_rows]
  have ep : (({ st with rows := rows2 } : St).put y.dst v2).ev p = st.ev p := ev_of_apart (xt h2) hop
  have hl : loadA ag sz (({ st with rows := rows2 } : St).put y.dst v2).rows ((({ st with rows := rows2 } : St).put y.dst v2).ev p) = some v := by
   rw [ep, St.put_rows, ← hv]
   refine loadA_congr hin fun s hs => ?_
   have := t6 s (by simpa using hs)
   rw [← er]
   exact hw s (by simpa using this)
  have g2 : Gst P BR ops sx x _ _ := Gst_load_mk t1 hop hsz hl
  have e2 : s2 = (({ st with rows := rows2 } : St).put y.dst v2).put x.dst v := by
   rw [e1, put_rows_comm, put_comm_st _ _ _ (fun d hd e => a2 d e hd)]
  refine ⟨_, ⟨h2, py, fun hcy => ?_, py3'⟩, ⟨by rw [e2]; exact g2, oblL_same (xt h2) px1, fun hcx => ?_, oblX_same (xt h2) px3⟩⟩
  ·have := py2 hcy
   rw [← er] at *
   simp only [oblW, St.put_rows] at this ⊢
   exact this
  ·rw [load_cls t2] at hcx; omega
/-- The operations in the list, one after the other. -/
def aSeqT (tbl : Tbl) (P : Program) (BR : Nat → Bool) (ops : Array Oper) (bs : Nat) : List Nat → St → (St → Prop) → Prop
 | [], st, K => K st
 | i :: L, st, K => ∃ o st', ops[i]? = some o ∧ GstT tbl P BR ops i (bs + 16 * i) o st st' ∧ aSeqT tbl P BR ops bs L st' K
end
section
variable {P : Program} {BR : Nat → Bool} {ops : Array Oper} {C : Ctx} {M : Imm} {ρ : Plc} {st : St} {a : Act} {w : World} {tbl : Tbl}
/-- Whatever is not ordered may change places; the text's order is one of the orders. -/
def regT (tbl : Tbl) (BR : Nat → Bool) (ops : Array Oper) : Bool :=
 (List.range ops.size).all fun i => match ops[i]? with
  | some o => (depsOf' ops i).all (fun k => decide (k < i)) && (let an := ancGo' ops i (depsOf' ops i); (List.range i).all fun k => an.contains k || match ops[k]? with | some x => indepT tbl BR ops i k o x | none => false)
  | none => false
structure ROKT (tbl : Tbl) (BR : Nat → Bool) (ops : Array Oper) : Prop where
 deps : ∀ i, i < ops.size → ∀ k ∈ depsOf' ops i, k < i
 ind : ∀ i k o x, k < i → ops[i]? = some o → ops[k]? = some x → k ∈ ancGo' ops i (depsOf' ops i) ∨ indepT tbl BR ops i k o x = true
theorem ROKT.of (h : regT tbl BR ops = true) : ROKT tbl BR ops := by
 unfold regT at h
 refine ⟨fun i hi k hk => ?_, fun i k o x hki ho hx => ?_⟩
 ·have := List.all_eq_true.1 h i (List.mem_range.2 hi)
  rw [Array.getElem?_eq_getElem hi] at this
  simp only [Bool.and_eq_true] at this
  simpa using List.all_eq_true.1 this.1 k hk
 ·have hi : i < ops.size := (Array.getElem?_eq_some_iff.1 ho).1
  have := List.all_eq_true.1 h i (List.mem_range.2 hi)
  rw [ho] at this
  simp only [Bool.and_eq_true] at this
  have := List.all_eq_true.1 this.2 k (List.mem_range.2 hki)
  rw [hx] at this
  simpa using this

/-- An operation that waits for none of those before it may come first. -/
theorem aSeqT_front {bs : Nat} {K : St → Prop} {i : Nat} {o : Oper} (ho : ops[i]? = some o) : ∀ (L1 L2 : List Nat) (st : St), (∀ k ∈ L1, k ≠ i ∧ ∀ x, ops[k]? = some x → indepT tbl BR ops i k o x = true) →
  (∀ t ∈ o.looksAt ops, ∀ s, refs (st.tmps t) s → st.rows s ≠ none) → aSeqT tbl P BR ops bs (L1 ++ i :: L2) st K → aSeqT tbl P BR ops bs (i :: (L1 ++ L2)) st K
 | [], L2, st, _, _, h => h
 | k :: L1, L2, st, hL, hlive, h => by
  obtain ⟨x, s1, hx, hg, h⟩ := h
  obtain ⟨hki, hind⟩ := hL k (by simp)
  have hi := hind x hx
  have ha : o.apart ops x = true := indepT_apart hi
  obtain ⟨a1, a2, a3⟩ := Oper.apart_spec ha
  have ih := aSeqT_front ho L1 L2 s1 (fun k' hk' => hL k' (by simp [hk'])) (fun t ht s hr => by
    rw [gst_tmps hg.1 t (fun e => a3 t e ht)] at hr
    exact gst_keep hg.1 s (hlive t ht s hr)) h
  obtain ⟨o', s2, ho', hg2, h2⟩ := ih
  rw [ho] at ho'; injection ho' with ho'; subst ho'
  obtain ⟨s1', e1, e2⟩ := swapT hg hg2 hi (by omega) hlive
  exact ⟨o, s1', ho, e1, x, s2, hx, e2, h2⟩

theorem aSeqT_any (hN : dstB C.N ops = true) (hOK : ROKT tbl BR ops) {Q : Exit → Act → World → Prop} {K : St → Prop} (hK : ∀ st' M' ρ' a' w', K st' → Rel C M' ρ' st' a' w' → Q .normal a' w') (bs : Nat) :
  ∀ (n : Nat) (L : List Nat) (listed : Array Bool) (st : St) (M : Imm) (ρ : Plc) (a : Act) (w : World), L.length = n → L.Pairwise (· < ·) → (∀ i, i ∈ L ↔ i < ops.size ∧ listed.getD i true = false) → listed.size = ops.size → Closed' ops listed →
   aSeqT tbl P BR ops bs L st K → Rel C M ρ st a w → wpAny P .any ops Q n listed a w := by
 intro n
 induction n with
 | zero =>
  intro L listed st M ρ a w hl hp hL hsz hc h hR
  have : L = [] := List.eq_nil_of_length_eq_zero hl
  subst this
  refine ⟨?_, hK _ _ _ _ _ h hR⟩
  cases hq : Region.ready .any ops listed with
  | nil => rfl
  | cons i r =>
   exfalso
   have hr : i ∈ Region.ready .any ops listed := by rw [hq]; simp
   obtain ⟨h1, o, ho, _⟩ := mem_ready.1 hr
   have := (hL i).2 ⟨(Array.getElem?_eq_some_iff.1 ho).1, h1⟩
   simp at this
 | succ n ih =>
  intro L listed st M ρ a w hl hp hL hsz hc h hR
  have lof : ∀ k, k < ops.size → k ∉ L → listed.getD k false = true := fun k hk hn => by
   have hk' : k < listed.size := by omega
   cases hq : listed[k] with
   | true => simp [hk', hq]
   | false =>
    exfalso
    exact hn ((hL k).2 ⟨hk, by simp [hk', hq]⟩)
  refine ⟨fun h0 => ?_, fun i hi => ?_⟩
  ·exfalso
   cases L with
   | nil => simp at hl
   | cons i L =>
    have hiL := (hL i).1 (by simp)
    have ho : ops[i]? = some ops[i] := Array.getElem?_eq_getElem hiL.1
    have hr : i ∈ Region.ready .any ops listed := mem_ready.2 ⟨hiL.2, _, ho, fun e he hb => by
      have hk : e.on ∈ depsOf' ops i := by
        simp only [depsOf', ho, List.mem_map, List.mem_filter]
        exact ⟨e, ⟨by simpa using he, hb⟩, rfl⟩
      have hlt := hOK.deps i hiL.1 _ hk
      refine lof _ (by omega) (fun hm => ?_)
      rcases List.mem_cons.1 hm with hm | hm
      · omega
      · have := (List.pairwise_cons.1 hp).1 _ hm
        omega⟩
    rw [h0] at hr; cases hr
  ·obtain ⟨h1, o, ho, _⟩ := mem_ready.1 hi
   have hiL : i ∈ L := (hL i).2 ⟨(Array.getElem?_eq_some_iff.1 ho).1, h1⟩
   obtain ⟨L1, L2, rfl⟩ := List.append_of_mem hiL
   have hlt1 : ∀ k ∈ L1, k < i := fun k hk => (List.pairwise_append.1 hp).2.2 k hk i (by simp)
   have hunl : ∀ k ∈ L1, listed.getD k false = true → False := fun k hk ht => by
    have := ((hL k).1 (by simp [hk])).2
    have hk' : k < listed.size := by have := ((hL k).1 (by simp [hk])).1; omega
    simp [hk'] at this ht
    rw [this] at ht; cases ht
   have hf := aSeqT_front ho L1 L2 st (fun k hk => ⟨by have := hlt1 k hk; omega, fun x hx => by
     rcases hOK.ind i k o x (hlt1 k hk) ho hx with h' | h'
     · exact (hunl k hk (ancGo'_listed hc i _ (ready_deps' hi) k h')).elim
     · exact h'⟩) (fun t ht s hr => rel_live hR t s hr) h
   obtain ⟨o', st', ho', hg, hrest⟩ := hf
   rw [ho] at ho'; injection ho' with ho'; subst ho'
   have hpw : (L1 ++ L2).Pairwise (· < ·) := by
    rw [List.pairwise_append] at hp ⊢
    exact ⟨hp.1, (List.pairwise_cons.1 hp.2.1).2, fun x hx y hy => hp.2.2 x hx y (by simp [hy])⟩
   have hni : i ∉ L1 ++ L2 := by
    intro hm
    rcases List.mem_append.1 hm with hm | hm
    ·have := hlt1 i hm; omega
    ·have := (List.pairwise_cons.1 (List.pairwise_append.1 hp).2.1).1 i hm; omega
   refine gst_ok ho hg.1 hR (dstB_spec hN ho) (fun M' ρ' a' w' hR' => ih (L1 ++ L2) _ st' M' ρ' a' w' (by simp at hl ⊢; omega) hpw (fun j => ?_) (by simpa using hsz) (hc.set hi) hrest hR')
   by_cases hji : j = i
   ·subst hji
    have hjs : j < listed.size := by rw [hsz]; exact (Array.getElem?_eq_some_iff.1 ho).1
    constructor
    ·intro hm; exact absurd hm hni
    ·rintro ⟨_, hm⟩; simp [hjs] at hm
   ·rw [getD_set_ne true (Ne.symm hji), ← hL j]
    simp [hji]
end
section
variable {P : Program} {BR : Nat → Bool} {C : Ctx} {st : St} {Q : Exit → St → Prop} {tbl : Tbl}
theorem aSeqT_seq {ops : Array Oper} {bs : Nat} {K : St → Prop} : ∀ {L : List Nat} {st : St}, aSeqT tbl P BR ops bs L st K → aSeq P BR ops bs L st K
 | [], _, h => h
 | _ :: _, _, ⟨o, st', h1, h2, h3⟩ => ⟨o, st', h1, h2.1, aSeqT_seq h3⟩
theorem AW_regionT {id : Nat} {ops : Array Oper} {draw : Bool} (hm : draw = true → P.follows .mixedOrders = true) (hN : dstB C.N ops = true) (hB : draw = true → regT tbl BR ops = true)
  (h : aSeqT tbl P BR ops st.bs (List.range ops.size) st (fun st' => Q .normal { st' with bs := st.bs + 16 * ops.size })) : AW P C (.region id ops draw) st Q := fun M ρ a w hR => by
 have hK : ∀ st' M' ρ' a' w', Q .normal { st' with bs := st.bs + 16 * ops.size } → Rel C M' ρ' st' a' w' → ∃ st' M' ρ', Q .normal st' ∧ Rel C M' ρ' st' a' w' := fun st' M' ρ' a' w' h1 h2 => ⟨_, M', ρ', h1, h2.next _⟩
 cases draw with
 | false => exact wp_region (aSeq_ops hN (Q := fun e a' w' => ∃ st' M' ρ', Q e st' ∧ Rel C M' ρ' st' a' w') hK _ _ _ _ _ _ _ (aSeqT_seq h) hR)
 | true =>
  refine wp_region_any (hm rfl) ?_
  refine aSeqT_any hN (ROKT.of (hB rfl)) (Q := fun e a' w' => ∃ st' M' ρ', Q e st' ∧ Rel C M' ρ' st' a' w') hK st.bs ops.size (List.range ops.size) _ st M ρ a _ (by simp) List.pairwise_lt_range (fun i => ?_) (by simp) (fun j hj => ?_) h hR.drew
  ·constructor
   ·intro hi
    have := List.mem_range.1 hi
    exact ⟨this, by simp [this]⟩
   ·rintro ⟨hi, _⟩; exact List.mem_range.2 hi
  ·rw [getD_replicate_false] at hj; cases hj

end
def aOT0 (l : List Nat) (P : Program) (BR : Nat → Bool) (site : Nat) (o : Oper) (st : St) (K : St → Prop) : Prop :=
 match cls BR o.op with
 | 0 => optK (aPure P st.ev o.op) fun v => K (st.put o.dst v)
 | 1 => oblL l st o.op ∧ optK (aMk P (FZ BR site) site st.ev st.rows o.op) fun v => (match v.2 with | some r => st.rows site = none ∧ K (({ st with rows := upd st.rows site (some r) } : St).put o.dst v.1) | none => K (st.put o.dst v.1))
 | 2 => match o.op with
  | .call c => match c.callee with
   | .value (.func f) => callK P f (evL st c.args.toList) st site o.dst K
   | _ => False
  | _ => False
 | 3 => optK (frzW (aWr P site st.ev st.rows o.op) (FZ BR site)) fun v => oblW l st (({ st with rows := v.2 } : St).put o.dst v.1) ∧ K (({ st with rows := v.2 } : St).put o.dst v.1)
 | 4 => match o.op with
  | .call c => match c.callee with
   | .value (.func f) => refK P f (evL st c.args.toList) st site o.dst fun st' => oblW l st st' ∧ K st'
   | _ => False
  | _ => False
 | _ => False
def aOT (l : List Nat) (P : Program) (BR : Nat → Bool) (site : Nat) (o : Oper) (st : St) (K : St → Prop) : Prop := oblX l site st o.op ∧ aOT0 l P BR site o st K
def aGT (l : List Nat) (P : Program) (BR : Nat → Bool) (ops : List Oper) (site : Nat) (o : Oper) (st : St) (K : St → Prop) : Prop :=
 match o.guard with
 | none => aOT l P BR site o st K
 | some (g, want) => match (ops[g]?).bind (·.dst) with
  | some t => match st.tmps t with
   | .bool b => gK b want (aOT l P BR site o st K) (K (st.put o.dst (.tup [])))
   | .tup [] => K (st.put o.dst (.tup []))
   | _ => False
  | none => False
def aRunT (tbl : Tbl) (P : Program) (BR : Nat → Bool) (ops : List Oper) (bs : Nat) : Nat → List Oper → St → (St → Prop) → Prop
 | _, [], st, K => K st
 | i, o :: l, st, K => aGT (tget tbl i) P BR ops (bs + 16 * i) o st (fun st' => aRunT tbl P BR ops bs (i + 1) l st' K)

section
variable {P : Program} {BR : Nat → Bool} {ops : List Oper} {tbl : Tbl}
theorem aOT_stp {l : List Nat} {site : Nat} {o : Oper} {st : St} {K : St → Prop} (h : aOT l P BR site o st K) : ∃ st', Stp P BR site o st st' ∧ propT BR l site o st st' ∧ K st' := by
 obtain ⟨hX, h⟩ := h
 unfold aOT0 at h
 have nol : cls BR o.op ≠ 1 → oblL l st o.op := fun hc => by
  by_cases hl : isLoad o.op = true
  ·exact absurd (load_cls hl) hc
  ·cases hop : o.op <;> rw [hop] at hl <;> first | trivial | exact absurd rfl hl
 split at h
 ·rename_i hc
  obtain ⟨v, h1, h2⟩ := optK_some h
  simp only [Stp, hc]
  exact ⟨_, ⟨v, h1, rfl⟩, ⟨nol (by omega), fun h => by omega, hX⟩, h2⟩
 ·rename_i hc
  obtain ⟨h0, h⟩ := h
  obtain ⟨v, h1, h2⟩ := optK_some h
  obtain ⟨v, nw⟩ := v
  simp only [Stp, hc]
  cases nw with
  | none => exact ⟨_, ⟨v, none, h1, by simp, rfl⟩, ⟨h0, fun h => by omega, hX⟩, h2⟩
  | some r => exact ⟨_, ⟨v, some r, h1, fun _ => h2.1, rfl⟩, ⟨h0, fun h => by omega, hX⟩, h2.2⟩
 ·rename_i hc
  simp only [Stp, hc]
  split at h
  ·rename_i c hop
   split at h
   ·rename_i f hcal
    obtain ⟨lnd, ret, mem', h1, h2, h3, h4, h5, h6⟩ := h
    refine ⟨_, ⟨c, f, _, lnd, ret, mem', hop, .inl ⟨hcal, rfl⟩, h1, List.nodup_nil, by simp, ?_, by simp, h3, fun _ => by simpa using h4, by simpa using h5, rfl⟩, ⟨nol (by omega), fun h => by omega, hX⟩, ?_⟩
    ·rw [evL_map] at h2; exact h2
    ·rw [rowsAfter_nil]; exact h6
   ·exact h.elim
  ·exact h.elim
 ·rename_i hc
  obtain ⟨v, h1, h2⟩ := optK_some h
  obtain ⟨v, rows'⟩ := v
  simp only [Stp, hc]
  exact ⟨_, ⟨v, rows', h1, rfl⟩, ⟨nol (by omega), fun _ => h2.1, hX⟩, h2.2⟩
 ·rename_i hc
  simp only [Stp, hc]
  split at h
  ·rename_i c hop
   split at h
   ·rename_i f hcal
    obtain ⟨ι, nt, lnd, ret, mem', h1, h2, h3, h4, h5, h6, h7, h8, h9⟩ := h
    refine ⟨_, ⟨ι, nt, c, f, _, lnd, ret, mem', hop, .inl ⟨hcal, rfl⟩, h1, h2, h3, ?_, h5, h6, h7, h8, rfl⟩, ⟨nol (by omega), fun _ => h9.1, hX⟩, h9.2⟩
    rw [evL_map] at h4; exact h4
   ·exact h.elim
  ·exact h.elim
 ·exact h.elim
theorem aGT_gst {k site : Nat} {o : Oper} {st : St} {K : St → Prop} (h : aGT (tget tbl k) P BR ops site o st K) (hu : o.guard = none ∨ tget tbl k = []) : ∃ st', GstT tbl P BR ops.toArray k site o st st' ∧ K st' := by
 unfold aGT at h
 split at h
 ·rename_i hg
  obtain ⟨st', h1, h2, h3⟩ := aOT_stp h
  exact ⟨st', ⟨by simp only [Gst, hg]; exact h1, h2⟩, h3⟩
 ·rename_i g want hg
  have he : tget tbl k = [] := by
   rcases hu with h | h
   ·rw [hg] at h; cases h
   ·exact h
  have pT : ∀ st st', propT BR (tget tbl k) site o st st' := fun st st' => ⟨by
    rw [he]
    cases o.op <;> first | trivial | exact .inl rfl, fun _ => .inl (by rw [he]; rfl), .inl (by rw [he]; rfl)⟩
  split at h
  ·rename_i t ht
   split at h
   ·rename_i b hb
    by_cases e : b = want
    ·obtain ⟨st', h1, h2, h3⟩ := aOT_stp (h.1 e)
     exact ⟨st', ⟨by simp only [Gst, hg]; exact ⟨t, by simpa using ht, .inl ⟨by rw [hb, e], h1⟩⟩, pT _ _⟩, h3⟩
    ·exact ⟨_, ⟨by simp only [Gst, hg]; exact ⟨t, by simpa using ht, .inr ⟨.inr ⟨b, hb, e⟩, by trivial⟩⟩, pT _ _⟩, h.2 (by cases b <;> cases want <;> simp_all)⟩
   ·rename_i hb
    exact ⟨_, ⟨by simp only [Gst, hg]; exact ⟨t, by simpa using ht, .inr ⟨.inl hb, by trivial⟩⟩, pT _ _⟩, h⟩
   ·exact h.elim
  ·exact h.elim
def tblOK (tbl : Tbl) : Nat → List Oper → Bool
 | _, [] => true
 | i, o :: l => (o.guard.isNone || (tget tbl i).isEmpty) && tblOK tbl (i + 1) l
theorem aRunT_seq {bs : Nat} {K : St → Prop} : ∀ (l : List Oper) (i : Nat) (st : St), (∀ j, l[j]? = ops[i + j]?) → tblOK tbl i l = true → aRunT tbl P BR ops bs i l st K → aSeqT tbl P BR ops.toArray bs (List.range' i l.length) st K
 | [], i, st, _, _, h => h
 | o :: l, i, st, hl, hu, h => by
  simp only [tblOK, Bool.and_eq_true, Bool.or_eq_true, Option.isNone_iff_eq_none, List.isEmpty_iff] at hu
  obtain ⟨st', h1, h2⟩ := aGT_gst h hu.1
  have h0 : ops[i]? = some o := by simpa using (hl 0).symm
  rw [List.length_cons, List.range'_succ]
  exact ⟨o, st', by simpa using h0, h1, aRunT_seq l (i + 1) st' (fun j => by have := hl (j + 1); simpa [Nat.add_assoc, Nat.add_comm 1 j] using this) hu.2 h2⟩
end
section
variable (tbl : Tbl) (P : Program) (BR : Nat → Bool) (ops : List Oper) (bs i : Nat) (o : Oper) (l : List Oper) (st : St) (K : St → Prop)
def rVT (x : Option AV) : Prop := optK x fun v => aRunT tbl P BR ops bs (i + 1) l (st.put o.dst v) K
def rFT (x : Option Row) (v : AV) (r : Row) : Prop := x = none ∧ aRunT tbl P BR ops bs (i + 1) l (({ st with rows := upd st.rows (bs + 16 * i) (some r) } : St).put o.dst v) K
def rMT (x : Option (AV × Option Row)) : Prop := oblL (tget tbl i) st o.op ∧ optK x fun v => (match v.2 with | some r => st.rows (bs + 16 * i) = none ∧ aRunT tbl P BR ops bs (i + 1) l (({ st with rows := upd st.rows (bs + 16 * i) (some r) } : St).put o.dst v.1) K | none => aRunT tbl P BR ops bs (i + 1) l (st.put o.dst v.1) K)
def rWT (x : Option (AV × (Nat → Option Row))) : Prop := optK x fun v => oblW (tget tbl i) st (({ st with rows := v.2 } : St).put o.dst v.1) ∧ aRunT tbl P BR ops bs (i + 1) l (({ st with rows := v.2 } : St).put o.dst v.1) K
def rCT (f : FuncId) (args : List AV) (dst : Option Tmp) : Prop := callK P f args st (bs + 16 * i) dst fun st' => aRunT tbl P BR ops bs (i + 1) l st' K
def rRT (f : FuncId) (args : List AV) (dst : Option Tmp) : Prop := refK P f args st (bs + 16 * i) dst fun st' => oblW (tget tbl i) st st' ∧ aRunT tbl P BR ops bs (i + 1) l st' K
def rOT0 (c : Nat) : Prop := match c with
 | 0 => rVT tbl P BR ops bs i o l st K (aPure P st.ev o.op)
 | 1 => rMT tbl P BR ops bs i o l st K (aMk P (FZ BR (bs + 16 * i)) (bs + 16 * i) st.ev st.rows o.op)
 | 2 => match o.op with
  | .call c => match c.callee with
   | .value (.func f) => rCT tbl P BR ops bs i l st K f (evL st c.args.toList) o.dst
   | _ => False
  | _ => False
 | 3 => rWT tbl P BR ops bs i o l st K (frzW (aWr P (bs + 16 * i) st.ev st.rows o.op) (FZ BR (bs + 16 * i)))
 | 4 => match o.op with
  | .call c => match c.callee with
   | .value (.func f) => rRT tbl P BR ops bs i l st K f (evL st c.args.toList) o.dst
   | _ => False
  | _ => False
 | _ => False
def rOT (c : Nat) : Prop := oblX (tget tbl i) (bs + 16 * i) st o.op ∧ rOT0 tbl P BR ops bs i o l st K c
def rKT (b want : Bool) : Prop := gK b want (rOT tbl P BR ops bs i o l st K (cls BR o.op)) (aRunT tbl P BR ops bs (i + 1) l (st.put o.dst (.tup [])) K)
def rAT (a : AV) (want : Bool) : Prop := match a with
 | .bool b => rKT tbl P BR ops bs i o l st K b want
 | .tup [] => aRunT tbl P BR ops bs (i + 1) l (st.put o.dst (.tup [])) K
 | _ => False
def rBT (t : Option Tmp) (want : Bool) : Prop := match t with
 | some t => rAT tbl P BR ops bs i o l st K (st.tmps t) want
 | none => False
def rGT (g : Option (Nat × Bool)) : Prop := match g with
 | none => rOT tbl P BR ops bs i o l st K (cls BR o.op)
 | some (j, want) => rBT tbl P BR ops bs i o l st K ((ops[j]?).bind (·.dst)) want
theorem aRunT_nil : aRunT tbl P BR ops bs i [] st K = K st := (rfl)
theorem aRunT_cons : aRunT tbl P BR ops bs i (o :: l) st K = rGT tbl P BR ops bs i o l st K o.guard := (rfl)
theorem rGT_none : rGT tbl P BR ops bs i o l st K none = rOT tbl P BR ops bs i o l st K (cls BR o.op) := (rfl)
theorem rGT_some (j : Nat) (want : Bool) : rGT tbl P BR ops bs i o l st K (some (j, want)) = rBT tbl P BR ops bs i o l st K ((ops[j]?).bind (·.dst)) want := (rfl)
theorem rBT_some (t : Tmp) (want : Bool) : rBT tbl P BR ops bs i o l st K (some t) want = rAT tbl P BR ops bs i o l st K (st.tmps t) want := (rfl)
theorem rAT_bool (b want : Bool) : rAT tbl P BR ops bs i o l st K (.bool b) want = rKT tbl P BR ops bs i o l st K b want := (rfl)
theorem rAT_off (want : Bool) : rAT tbl P BR ops bs i o l st K (.tup []) want = aRunT tbl P BR ops bs (i + 1) l (st.put o.dst (.tup [])) K := (rfl)
theorem rKT_tt : rKT tbl P BR ops bs i o l st K true true = rOT tbl P BR ops bs i o l st K (cls BR o.op) := gK_tt _ _
theorem rKT_ff : rKT tbl P BR ops bs i o l st K false false = rOT tbl P BR ops bs i o l st K (cls BR o.op) := gK_ff _ _
theorem rKT_tf : rKT tbl P BR ops bs i o l st K true false = aRunT tbl P BR ops bs (i + 1) l (st.put o.dst (.tup [])) K := gK_tf _ _
theorem rKT_ft : rKT tbl P BR ops bs i o l st K false true = aRunT tbl P BR ops bs (i + 1) l (st.put o.dst (.tup [])) K := gK_ft _ _
theorem rOT0_0 : rOT0 tbl P BR ops bs i o l st K 0 = rVT tbl P BR ops bs i o l st K (aPure P st.ev o.op) := (rfl)
theorem rOT0_1 : rOT0 tbl P BR ops bs i o l st K 1 = rMT tbl P BR ops bs i o l st K (aMk P (FZ BR (bs + 16 * i)) (bs + 16 * i) st.ev st.rows o.op) := (rfl)
theorem rOT0_3 : rOT0 tbl P BR ops bs i o l st K 3 = rWT tbl P BR ops bs i o l st K (frzW (aWr P (bs + 16 * i) st.ev st.rows o.op) (FZ BR (bs + 16 * i))) := (rfl)
theorem rOT0_2 (d : Option Tmp) (f : FuncId) (args : Array Operand) (tys : Array TypeId) (t : TypeId) (p : String) (af : Array Edge) (g : Option (Nat × Bool)) :
  rOT0 tbl P BR ops bs i ⟨d, .call ⟨.value (.func f), args, tys⟩, t, p, af, g⟩ l st K 2 = rCT tbl P BR ops bs i l st K f (evL st args.toList) d := (rfl)
theorem rOT0_4 (d : Option Tmp) (f : FuncId) (args : Array Operand) (tys : Array TypeId) (t : TypeId) (p : String) (af : Array Edge) (g : Option (Nat × Bool)) :
  rOT0 tbl P BR ops bs i ⟨d, .call ⟨.value (.func f), args, tys⟩, t, p, af, g⟩ l st K 4 = rRT tbl P BR ops bs i l st K f (evL st args.toList) d := (rfl)
theorem rOT_eq (c : Nat) : rOT tbl P BR ops bs i o l st K c = (oblX (tget tbl i) (bs + 16 * i) st o.op ∧ rOT0 tbl P BR ops bs i o l st K c) := (rfl)
theorem rVT_some (v : AV) : rVT tbl P BR ops bs i o l st K (some v) = aRunT tbl P BR ops bs (i + 1) l (st.put o.dst v) K := (rfl)
theorem rMT_none (v : AV) : rMT tbl P BR ops bs i o l st K (some (v, none)) = (oblL (tget tbl i) st o.op ∧ aRunT tbl P BR ops bs (i + 1) l (st.put o.dst v) K) := (rfl)
theorem rMT_some (v : AV) (r : Row) : rMT tbl P BR ops bs i o l st K (some (v, some r)) = (oblL (tget tbl i) st o.op ∧ rFT tbl P BR ops bs i o l st K (st.rows (bs + 16 * i)) v r) := (rfl)
theorem rFT_none (v : AV) (r : Row) : rFT tbl P BR ops bs i o l st K none v r = aRunT tbl P BR ops bs (i + 1) l (({ st with rows := upd st.rows (bs + 16 * i) (some r) } : St).put o.dst v) K := by simp [rFT]
theorem rWT_some (v : AV) (rows : Nat → Option Row) : rWT tbl P BR ops bs i o l st K (some (v, rows)) = (oblW (tget tbl i) st (({ st with rows := rows } : St).put o.dst v) ∧ aRunT tbl P BR ops bs (i + 1) l (({ st with rows := rows } : St).put o.dst v) K) := (rfl)
end
section
variable {P : Program} {BR : Nat → Bool} {ops : List Oper} {C : Ctx} {Q : Exit → St → Prop} {T : Nat → AV} {R : Nat → Option Row} {b : Nat}
theorem AW_regT {st : St} (tbl : Tbl) {id : Nat} {draw : Bool} (hu : tblOK tbl 0 ops = true) (hm : P.follows .mixedOrders = true) (hN : dstB C.N ops.toArray = true) (hB : (!draw || regT tbl BR ops.toArray) = true)
  (h : aRunT tbl P BR ops st.bs 0 ops st (fun st' => Q .normal { st' with bs := st.bs + 16 * ops.length })) : AW P C (.region id ops.toArray draw) st Q :=
 AW_regionT (BR := BR) (tbl := tbl) (fun _ => hm) hN (fun e => by rw [e] at hB; simpa using hB) (by
   have := aRunT_seq ops 0 st (by simp) hu h
   rw [← List.range_eq_range'] at this
   simpa using this)
theorem AW_rsT (tbl : Tbl) {id : Nat} {draw : Bool} {y : Code} (hu : tblOK tbl 0 ops = true) (hm : P.follows .mixedOrders = true) (hN : dstB C.N ops.toArray = true) (hB : (!draw || regT tbl BR ops.toArray) = true)
  (h : ∀ K : St → Prop, (∀ T' R' b', AW P C y (St.mk T' R' (b + 1024)) Q → K (St.mk T' R' b')) → aRunT tbl P BR ops b 0 ops (St.mk T R b) K) : AW P C (.seq (.region id ops.toArray draw) y) (St.mk T R b) Q :=
 AW_seq fun M ρ a w hR => by
  have := h (fun st' => AW P C y (St.mk st'.tmps st'.rows (b + 1024)) Q) (fun T' R' b' h => h)
  refine AW_regT (BR := BR) (Q := thenA (fun st' => AW P C y (St.mk st'.tmps st'.rows (b + 1024)) Q) Q) tbl hu hm hN hB this M ρ a w hR |> Code.wp_mono ?_
  rintro e a' w' ⟨st', M', ρ', h1, h2⟩
  cases e with
  | normal => exact ⟨St.mk st'.tmps st'.rows (b + 1024), M', ρ', h1, h2.next _⟩
  | _ => exact ⟨st', M', ρ', h1, h2⟩
variable {st : St}
variable {bs i : Nat} {l : List Oper} {K : St → Prop} {f : FuncId} {args args' : List AV} {dst : Option Tmp} {ret : AV} {mem mem' : List Row}
theorem rRT_p (tbl : Tbl) (ι : List Nat) (hS : Spec P f args' mem ret mem') (ha : cvA (args.map (pass2 ι fun _ => none)) args') (hm : cvRs (ι.map (passRow ι (fun _ => none) st.rows)) mem) (hn : nodB ι = true) (hι : ∀ s ∈ ι, solidO (st.rows s)) (hle : ι.length ≤ mem'.length) (hl : mem'.length - ι.length ≤ 16)
  (hs : ∀ j, j < mem'.length - ι.length → st.rows (bs + 16 * i + j) = none) (hK : oblW (tget tbl i) st (({ st with rows := rowsAfter ι (bs + 16 * i) st.rows mem' } : St).put dst (ren3 (mId ι (bs + 16 * i)) ret)) ∧ aRunT tbl P BR ops bs (i + 1) l (({ st with rows := rowsAfter ι (bs + 16 * i) st.rows mem' } : St).put dst (ren3 (mId ι (bs + 16 * i)) ret)) K) : rRT tbl P BR ops bs i l st K f args dst :=
 ⟨ι, false, _, ret, mem', (fun _ _ h => by cases h), nodB_spec hn, fun s hs => by
   have := hι s hs
   unfold solidO at this
   split at this
   · exact ⟨_, by assumption, rfl⟩
   · exact ⟨_, by assumption, rfl⟩
   · exact ⟨_, by assumption, rfl⟩
   · exact this.elim, hS.le ha hm, hle, .inl (fun _ => rfl), fun _ => hl, hs, hK⟩
end
end Go.Proofs.Ytfjopjalhllplaa
/- The engine, part 20: the rules for regions with tables, bundled. Over any program. -/
namespace Go.Proofs.Ytfjopjalhllplaa
open Go.RowKit
set_option linter.unusedVariables false
set_option linter.defProp false
def sameOut (l : List Nat) (R R2 : Nat → Option Row) : Prop := ∀ s, l.contains s = false → R2 s = R s
theorem sameOut_refl (l : List Nat) (R : Nat → Option Row) : sameOut l R R = True := eq_true fun _ _ => rfl
theorem sameOut_r (l : List Nat) (R R2 : Nat → Option Row) (k : Nat) (v : Option Row) (h : l.contains k = true) : sameOut l R (upd R2 k v) = sameOut l R R2 := by
 refine propext (forall_congr' fun s => ?_)
 refine forall_congr' fun hs => ?_
 rw [upd_ne _ _ (fun e => by rw [e, h] at hs; cases hs)]
theorem sameOut_l (l : List Nat) (R R2 : Nat → Option Row) (k : Nat) (v : Option Row) (h : l.contains k = true) : sameOut l (upd R k v) R2 = sameOut l R R2 := by
 refine propext (forall_congr' fun s => ?_)
 refine forall_congr' fun hs => ?_
 rw [upd_ne _ _ (fun e => by rw [e, h] at hs; cases hs)]
theorem oblW_mk (l : List Nat) (T T2 : Nat → AV) (R R2 : Nat → Option Row) (b b2 : Nat) : oblW l (St.mk T R b) (St.mk T2 R2 b2) = (l.isEmpty = true ∨ sameOut l R R2) := (rfl)
theorem inT_ptr (s o : Nat) (l : List Nat) : inT (.ptr s o) l = (l.contains s = true) := (rfl)
theorem inT_eptr (cs : List AV) (l : List Nat) : inT (.eptr cs) l = True := (rfl)
theorem oblX_eq (l : List Nat) (site : Nat) (st : St) (op : Op) : oblX l site st op = (flg l = false ∨ oblF l.tail site st op) := (rfl)
theorem oblF_load (l : List Nat) (site : Nat) (st : St) (t : Nat) (x : Operand) : oblF l site st (.load t x) = inT (st.ev x) l := (rfl)
theorem oblF_alloc (l : List Nat) (site : Nat) (st : St) (t : Nat) : oblF l site st (.alloc t) = (l.contains site = true) := (rfl)
theorem oblF_box (l : List Nat) (site : Nat) (st : St) (t : Nat) (x : Operand) : oblF l site st (.box t x) = (l.contains site = true) := (rfl)
theorem oblF_bs (l : List Nat) (site : Nat) (st : St) (t n : Nat) (ps : Array (Nat × Operand)) : oblF l site st (.buildSlice t n ps) = (l.contains site = true) := (rfl)
theorem oblF_ms (l : List Nat) (site : Nat) (st : St) (t : Nat) (x y : Operand) : oblF l site st (.makeSlice t x y) = (l.contains site = true) := (rfl)
theorem oblF_store (l : List Nat) (site : Nat) (st : St) (t : Nat) (x y : Operand) : oblF l site st (.store t x y) = inT (st.ev x) l := (rfl)
theorem oblF_app (l : List Nat) (site : Nat) (st : St) (args : Array Operand) (tys : Array TypeId) : oblF l site st (.call ⟨.builtin .append, args, tys⟩) = (l.contains site = true ∧ inOL l (evL st args.toList)) := (rfl)
def AT :=
 (aI
 (aI
 (aI
 (aI
 (aI
 (aI
 @or_true
 @true_or)
 (aI
 @or_false
 @false_or))
 (aI
 (aI
 @aRunT_nil
 @aRunT_cons)
 (aI
 @rGT_none
 @rGT_some)))
 (aI
 (aI
 (aI
 @rBT_some
 @rAT_bool)
 (aI
 @rAT_off
 @rKT_tt))
 (aI
 (aI
 @rKT_ff
 @rKT_tf)
 (aI
 @rKT_ft
 @rOT_eq))))
 (aI
 (aI
 (aI
 (aI
 @rOT0_0
 @rOT0_1)
 (aI
 @rOT0_2
 @rOT0_3))
 (aI
 (aI
 @rOT0_4
 @oblX_eq)
 (aI
 @flg.eq_1
 @flg.eq_2)))
 (aI
 (aI
 (aI
 @oblF_load
 @oblF_alloc)
 (aI
 @oblF_box
 @oblF_bs))
 (aI
 (aI
 @oblF_ms
 @oblF_store)
 (aI
 @oblF_app
 (aI
 @inOL.eq_1
 @inOL.eq_2))))))
 (aI
 (aI
 (aI
 (aI
 (aI
 @List.tail_cons.{0}
 @rVT_some)
 (aI
 @rMT_none
 @rMT_some))
 (aI
 (aI
 @rFT_none
 @rWT_some)
 (aI
 @tget.eq_1
 @tget.eq_2)))
 (aI
 (aI
 (aI
 @oblL.eq_1
 @sameOut_refl)
 (aI
 @sameOut_r
 @sameOut_l))
 (aI
 (aI
 @oblW_mk
 @inT_ptr)
 (aI
 @inT_eptr
 @List.isEmpty_cons.{0}))))
 (aI
 (aI
 (aI
 (aI
 @List.isEmpty_nil.{0}
 (fun (l : List Nat) (st : St) (t : Nat) => @id (oblL l st (.alloc t) = True) rfl))
 (aI
 (fun (l : List Nat) (st : St) (t : Nat) (x : Operand) => @id (oblL l st (.box t x) = True) rfl)
 (fun (l : List Nat) (st : St) (t n : Nat) (ps : Array (Nat × Operand)) => @id (oblL l st (.buildSlice t n ps) = True) rfl)))
 (aI
 (aI
 (fun (l : List Nat) (st : St) (t : Nat) (x y : Operand) => @id (oblL l st (.makeSlice t x y) = True) rfl)
 (fun (l : List Nat) (k : IntKind) (n : Int) => @id (inO l (.int k n : AV) = True) rfl))
 (aI
 (fun (l : List Nat) (b : Bool) => @id (inO l (.bool b : AV) = True) rfl)
 (fun (l : List Nat) (s : ByteArray) => @id (inO l (.str s : AV) = True) rfl))))
 (aI
 (aI
 (aI
 (fun (l : List Nat) (cs : List AV) => @id (inO l (.agg cs : AV) = True) rfl)
 (fun (l : List Nat) (cs : List AV) => @id (inO l (.tup cs : AV) = True) rfl))
 (aI
 (fun (l : List Nat)  => @id (inO l (.nil : AV) = True) rfl)
 (fun (l : List Nat) (cs : List AV) (n : Nat) => @id (inO l (.sl cs n : AV) = True) rfl)))
 (aI
 (aI
 (fun (l : List Nat) (s : Nat) (n : Nat) => @id (inO l (.own s n : AV) = (l.contains s = true)) rfl)
 (fun (l : List Nat) (s : Nat) (o : Nat) => @id (inO l (.ptr s o : AV) = True) rfl))
 (aI
 (fun (l : List Nat) (cs : List AV) => @id (inO l (.eptr cs : AV) = True) rfl)
 (aI
 (fun (l : List Nat) (fi : FuncId) (ps : List Nat) => @id (inO l (.fn fi ps : AV) = True) rfl)
 (fun (l : List Nat)  => @id (inO l (.top : AV) = True) rfl))))))))
end Go.Proofs.Ytfjopjalhllplaa
