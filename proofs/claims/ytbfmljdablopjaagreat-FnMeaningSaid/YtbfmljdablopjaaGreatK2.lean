/- Texts joined by a program (short names, no comments): Gb Ty. -/
import Derived.Test.YtbfmljdablopjaaGreatK1
import Derived.Deep.LoopGhost
import Derived.Test.YtbfmljdablopjaaGreatProg
namespace Go.Proofs.YtbfmljdablopjaaGreat
open Go.RowKit
set_option maxRecDepth 100000
set_option linter.unusedVariables false
set_option linter.unusedSimpArgs false
set_option linter.defProp false
set_option maxHeartbeats 4000000
section
variable {P : Program} {BR : Nat → Bool} {ops : Array Oper} {C : Ctx} {M : Imm} {ρ : Plc} {st : St} {a : Act} {w : World}
open Classical in
theorem Rel.freeze (h : Rel C M ρ st a w) {s E sz : Nat} {cs : List AV} (hrow : st.rows s = some (.row E sz cs)) :
  ∃ M', Rel C M' ρ { st with rows := upd st.rows s (some .gone) } a w ∧ ∀ n v, VR M ρ (.own s n) v → VR M' ρ (.sl cs n) v := by
 obtain ⟨x, hx, hX⟩ := h.mr.row s _ hrow rfl
 by_cases hnl : x.nl = true
 ·rcases hX with ⟨_, rfl, _⟩ | ⟨h0, _⟩
  ·refine ⟨M, h.goneRow (by rw [hrow]; simp), fun n v hv => ?_⟩
   obtain ⟨g, cap, ⟨hs, rfl⟩ | ⟨hs, hn0, rfl⟩⟩ := hv.own_inv
   ·rw [hx] at hs; injection hs with hs; subst hs; cases hnl
   ·subst hn0
    exact .plain (.sl [] 0 none 0 0 0 (fun _ => undef) (fun h => by omega) (Nat.le_refl _) (fun i c hc => by simp at hc) (fun i c hc => by simp at hc))
  ·rw [hnl] at h0; cases h0
 have hnl : x.nl = false := by simpa using hnl
 rcases hX with ⟨h0, _⟩ | ⟨_, xs, h1, h2, h3, h4⟩
 ·rw [hnl] at h0; cases h0
 have apt : ∀ o v, M x.g o ≠ some v := fun o v hM => h.mr.apt _ _ _ s _ x hM hrow rfl hx hnl rfl
 have hcell : ∀ i, i < cs.length → w.cell? ⟨x.g, i, none⟩ = some (xs.getD i undef) := fun i hi => by
  have hi' : i < xs.length := by omega
  have := World.ownsRow.cells h1 (g := x.g) rfl i _ (List.getElem?_eq_getElem hi')
  rw [dS, Nat.zero_add] at this
  simpa [hi'] using this
 let M' : Imm := fun b o => if b = x.g then (if o < cs.length then some (xs.getD o undef) else none) else M b o
 have hle : M.le M' := fun b o v hM => by
  have hb : b ≠ x.g := fun e => by subst e; exact apt _ _ hM
  show (if b = x.g then _ else M b o) = some v
  rw [if_neg hb]; exact hM
 have hR := h.goneRow (k := s) (by rw [hrow]; simp)
 refine ⟨M', ⟨fun t => (hR.tm t).mono hle (Plc.le_refl _), hR.N, hR.df, ⟨fun k q hk hq => ?_, hR.mr.inj, fun b o v hM => ?_, fun b o v k q y hM hk hq hy hn => ?_⟩, hR.chg, hR.new, Imm.le_trans hR.m0 hle, hR.r0, fun b hb hD => ?_, hR.fr⟩, fun n v hv => ?_⟩
 ·obtain ⟨y, hy, hY⟩ := hR.mr.row k q hk hq
  exact ⟨y, hy, hY.mono hle (Plc.le_refl _)⟩
 ·by_cases hb : b = x.g
  ·subst hb
   have hM : (if x.g = x.g then (if o < cs.length then some (xs.getD o undef) else none) else M x.g o) = some v := hM
   rw [if_pos rfl] at hM
   split at hM
   ·rename_i ho
    injection hM with hM; subst hM
    refine ⟨hcell o ho, ?_⟩
    have ho' : o < xs.length := by omega
    have := oc (o := o) h1 (h3 _ (List.getElem_mem ho'))
    simpa [ho'] using this
   ·cases hM
  ·have hM : (if b = x.g then (if o < cs.length then some (xs.getD o undef) else none) else M b o) = some v := hM
   rw [if_neg hb] at hM
   exact h.mr.imm b o v hM
 ·by_cases hb : b = x.g
  ·subst hb
   have hk' : upd st.rows s (some .gone) k = some q := hk
   have hks : k ≠ s := fun e => by subst e; rw [ai] at hk'; injection hk' with hk'; subst hk'; cases hq
   rw [au _ _ hks] at hk'
   exact h.mr.inj k s q _ y x hk' hrow hq rfl hy hx hks hn hnl
  ·have hM : (if b = x.g then (if o < cs.length then some (xs.getD o undef) else none) else M b o) = some v := hM
   rw [if_neg hb] at hM
   exact hR.mr.apt b o v k q y hM hk hq hy hn
 ·have hbx : b ≠ x.g := fun e => by
   subst e
   rcases h.new s _ x hrow rfl hx hnl with h' | h'
   ·exact hD h'
   ·omega
  rw [← h.mold b hb hD]
  funext o
  show (if b = x.g then _ else M b o) = M b o
  rw [if_neg hbx]
 ·obtain ⟨g, cap, ⟨hs, rfl⟩ | ⟨hs, hn0, rfl⟩⟩ := hv.own_inv
  ·rw [hx] at hs; injection hs with hs; subst hs
   have hn : n ≤ cap := by
    rcases h1.2 with ⟨hn, _⟩ | ⟨g', cap', cur, hvv, hb, hg, hcap, _⟩
    ·cases hn
    ·injection hvv with _ _ q3; simp only at hcap q3; omega
   have lt : ∀ (i : Nat) (c : AV), cs[i]? = some c → i < cs.length := fun i c hc => by
    rcases Nat.lt_or_ge i cs.length with h' | h'
    ·exact h'
    ·rw [List.getElem?_eq_none h'] at hc; cases hc
   refine .plain (.sl cs n _ cap g 0 (fun i => xs.getD i undef) (fun _ => rfl) hn (fun i c hc => ?_) (fun i c hc => ?_))
   ·rw [Nat.zero_add]
    show (if g = g then (if i < cs.length then some (xs.getD i undef) else none) else M g i) = _
    rw [if_pos rfl, if_pos (lt i c hc)]
   ·have hi' : i < xs.length := by have := lt i c hc; omega
    have := (h4 i c _ hc (List.getElem?_eq_getElem hi')).mono hle
    simpa [hi'] using this
  ·rw [hx] at hs; injection hs with hs; subst hs; cases hnl
theorem Rel.freezePut {d : Option Tmp} {s n E sz : Nat} {cs : List AV} {rows : Nat → Option Row} (hR : Rel C M ρ (({ st with rows := rows } : St).put d (.own s n)) a w) (hrow : rows s = some (.row E sz cs)) :
  ∃ M', Rel C M' ρ (({ st with rows := upd rows s (some .gone) } : St).put d (.sl cs n)) a w := by
 obtain ⟨M', h1, h2⟩ := hR.freeze (s := s) (by rw [St.put_rows]; exact hrow)
 refine ⟨M', ?_⟩
 cases d with
 | none => exact h1
 | some d =>
  refine { h1 with tm := fun t => ?_ }
  show VR M' ρ (upd st.tmps d (.sl cs n) t) _
  by_cases e : t = d
  ·subst e
   rw [ai]
   refine h2 _ _ ?_
   have := hR.tm t
   simp only [St.put, ai] at this
   exact this
  ·rw [au _ _ e]
   have := h1.tm t
   simp only [St.put, au _ _ e] at this
   exact this
theorem Am {site : Nat} {o : Oper} {st' : St} (h : Stp P BR site o st st') (hR : Rel C M ρ st a w) (hd : ∀ k, o.dst = some k → k < C.N) {K : Act → World → Prop} {Q : Exit → Act → World → Prop}
  (hK : ∀ M' ρ' a' w', Rel C M' ρ' st' a' w' → K a' w') : o.wp P a w K Q := by
 have call : ∀ ι nt, oe P site o ι nt st st' → o.wp P a w K Q := by
  rintro ι nt ⟨c, f, avs, lnd, ret, mem', hop, hcal, h1, h2, h3, h4, h5, h6, h7, h8, rfl⟩
  exact Dx hop hcal hR ι lnd h1 h2 h3 h4 h5 h6 h8 hd hK
 unfold Stp at h
 split at h
 ·obtain ⟨v, h1, rfl⟩ := h
  obtain ⟨u, hu, hU⟩ := Dt h1 hR.ev w
  unfold Oper.wp
  rw [hu]
  exact hK _ _ _ _ (hR.put hU hd)
 ·obtain ⟨v, nw, h1, h2, rfl⟩ := h
  obtain ⟨u, M', ρ', w', hu, hU⟩ := K6 h1 hR h2 hd
  unfold Oper.wp
  rw [hu]
  refine hK M' ρ' _ _ ?_
  have e : ({ st with rows := Hq st.rows site nw } : St) = st.add site nw.toList := by cases nw <;> rfl
  rw [← e]; exact hU
 ·exact call [] false h
 ·rename_i hc
  obtain ⟨v, rows', h1, rfl⟩ := h
  have : (∃ t x v, o.op = .store t x v) ∨ ∃ c, o.op = .call c := by
   unfold cls at hc
   split at hc <;> first | (simp at hc; done) | skip
   ·exact .inl ⟨_, _, _, by assumption⟩
   ·exact .inr ⟨_, by assumption⟩
  cases hfz : FZ BR site with
  | false =>
   rw [hfz] at h1
   simp only [pS] at h1
   rcases this with ⟨t, x, v', hop⟩ | ⟨c, hop⟩
   ·obtain ⟨w', hu, hU⟩ := ur hop h1 hR hd
    unfold Oper.wp
    rw [hu]
    exact hK _ _ _ _ hU
   ·obtain ⟨z, ρ', w', hu, hU⟩ := tC hop h1 hR hd
    unfold Oper.wp
    rw [hu]
    exact hK _ _ _ _ hU
  | true =>
   rw [hfz] at h1
   obtain ⟨s, n, rows, E, sz, cs, h2, h3, rfl, rfl⟩ := tp h1
   rcases this with ⟨t, x, v', hop⟩ | ⟨c, hop⟩
   ·obtain ⟨w', hu, hU⟩ := ur hop h2 hR hd
    obtain ⟨M', hV⟩ := hU.freezePut h3
    unfold Oper.wp
    rw [hu]
    exact hK _ _ _ _ hV
   ·obtain ⟨z, ρ', w', hu, hU⟩ := tC hop h2 hR hd
    obtain ⟨M', hV⟩ := hU.freezePut h3
    unfold Oper.wp
    rw [hu]
    exact hK _ _ _ _ hV
 ·obtain ⟨ι, nt, h⟩ := h
  exact call ι nt h
 ·obtain ⟨ι, nt, h⟩ := h
  exact call ι nt h
 ·exact h.elim
theorem tr {i site : Nat} {o : Oper} {st' : St} (ho : ops[i]? = some o) (h : Gst P BR ops site o st st') (hR : Rel C M ρ st a w) (hd : ∀ k, o.dst = some k → k < C.N) {K : Act → World → Prop} {Q : Exit → Act → World → Prop}
  (hK : ∀ M' ρ' a' w', Rel C M' ρ' st' a' w' → K a' w') : wpOp P ops Q i K a w := by
 unfold wpOp
 simp only [ho]
 unfold Gst at h
 split at h
 ·rename_i hg
  have hw : Region.wanted o (yielded ops a.tmps) = true := by simp [Region.wanted, hg]
  rw [if_pos hw]
  exact .inl (Am h hR hd hK)
 ·rename_i g want hg
  obtain ⟨t, h1, h3⟩ := h
  have ht := hR.tm t
  have yb : ∀ b, st.tmps t = .bool b → yielded ops a.tmps g = some b := fun b h2 => by
   rw [h2] at ht
   have ht := ht.bool_inv
   unfold yielded
   rw [h1]
   have : a.tmps[t]? = some (.bool b) := by
    cases hq : a.tmps[t]? with
    | none => simp [hq, undef] at ht
    | some q => simp [hq] at ht; rw [ht]
   simp [this]
  rcases h3 with ⟨h3, h4⟩ | ⟨h3, rfl⟩
  ·have hw : Region.wanted o (yielded ops a.tmps) = true := by simp [Region.wanted, hg, yb _ h3]
   rw [if_pos hw]
   exact .inl (Am h4 hR hd hK)
  ·have hw : ¬ Region.wanted o (yielded ops a.tmps) = true := by
    rcases h3 with h3 | ⟨b, h3, hne⟩
    ·have hy : yielded ops a.tmps g = none := by
      rw [h3] at ht
      obtain ⟨vs, hv, hl, _⟩ := ht.tup_inv
      unfold yielded
      rw [h1]
      cases hq : a.tmps[t]? with
      | none => simp [hq]
      | some q => simp [hq] at hv; simp [hq, hv]
     simp [Region.wanted, hg, hy]
    ·simp [Region.wanted, hg, yb _ h3, hne]
   rw [if_neg hw]
   exact hK _ _ _ _ (hR.put (.tup [] #[] rfl (by simp)) hd)
def sj (P : Program) (BR : Nat → Bool) (ops : Array Oper) (bs : Nat) : List Nat → St → (St → Prop) → Prop
 | [], st, K => K st
 | i :: L, st, K => ∃ o st', ops[i]? = some o ∧ Gst P BR ops (bs + 16 * i) o st st' ∧ sj P BR ops bs L st' K
def mp (N : Nat) (ops : Array Oper) : Bool := ops.toList.all fun o => match o.dst with | some d => decide (d < N) | none => true
theorem oh {N : Nat} (h : mp N ops = true) {i : Nat} {o : Oper} (ho : ops[i]? = some o) : ∀ k, o.dst = some k → k < N := by
 intro k hk
 have hm : o ∈ ops.toList := by simpa using Array.mem_of_getElem? ho
 have := List.all_eq_true.1 h o hm
 simpa [hk] using this
theorem qB (hN : mp C.N ops = true) {Q : Exit → Act → World → Prop} {K : St → Prop} (hK : ∀ st' M' ρ' a' w', K st' → Rel C M' ρ' st' a' w' → Q .normal a' w') :
  ∀ (L : List Nat) (bs : Nat) (st : St) (M : Imm) (ρ : Plc) (a : Act) (w : World), sj P BR ops bs L st K → Rel C M ρ st a w → wpOps P ops Q L a w
 | [], bs, st, M, ρ, a, w, h, hR => hK _ _ _ _ _ h hR
 | i :: L, bs, st, M, ρ, a, w, h, hR => by
  obtain ⟨o, st', ho, hg, h⟩ := h
  rw [wpOps_cons]
  exact tr ho hg hR (oh hN ho) (fun M' ρ' a' w' hR' => qB hN hK L bs st' M' ρ' a' w' h hR')
def eP (ops : Array Oper) (i : Nat) : List Nat := match ops[i]? with
 | some o => (o.after.toList.filter (Region.binds .any)).map (·.on)
 | none => []
def o2 (ops : Array Oper) : Nat → List Nat → List Nat
 | 0, acc => acc
 | k + 1, acc => if acc.contains k then o2 ops k (eP ops k ++ acc) else o2 ops k acc
def oi (ops : Array Oper) (listed : Array Bool) : Prop := ∀ j, listed.getD j false = true → ∀ k ∈ eP ops j, listed.getD k false = true
theorem jz {listed : Array Bool} (hc : oi ops listed) : ∀ (k : Nat) (acc : List Nat), (∀ x ∈ acc, listed.getD x false = true) → ∀ x ∈ o2 ops k acc, listed.getD x false = true
 | 0, acc, h => h
 | k + 1, acc, h => by
  unfold o2
  split
  ·rename_i hk
   refine jz hc k _ fun x hx => ?_
   rcases List.mem_append.1 hx with hx | hx
   ·exact hc k (h k (by simpa using hk)) x hx
   ·exact h x hx
  ·exact jz hc k acc h
theorem o3 {listed : Array Bool} {i : Nat} (hr : i ∈ Region.ready .any ops listed) : ∀ k ∈ eP ops i, listed.getD k false = true := by
 obtain ⟨_, o, ho, hall⟩ := mem_ready.1 hr
 intro k hk
 simp only [eP, ho, List.mem_map, List.mem_filter] at hk
 obtain ⟨e, ⟨he, hb⟩, rfl⟩ := hk
 exact hall e (by simpa using he) hb
theorem oi.set {listed : Array Bool} (hc : oi ops listed) {i : Nat} (hr : i ∈ Region.ready .any ops listed) : oi ops (listed.setIfInBounds i true) := by
 intro j hj k hk
 by_cases hij : j = i
 ·subst hij; exact getD_set_true (o3 hr k hk)
 ·rw [getD_set_ne false (Ne.symm hij)] at hj
  exact getD_set_true (hc j hj k hk)
def rE (BR : Nat → Bool) (ops : Array Oper) : Bool :=
 (List.range ops.size).all fun i => match ops[i]? with
  | some o => (eP ops i).all (fun k => decide (k < i)) && (let an := o2 ops i (eP ops i); (List.range i).all fun k => an.contains k || match ops[k]? with | some x => nW BR ops o x | none => false)
  | none => false
structure ROK (BR : Nat → Bool) (ops : Array Oper) : Prop where
 deps : ∀ i, i < ops.size → ∀ k ∈ eP ops i, k < i
 ind : ∀ i k o x, k < i → ops[i]? = some o → ops[k]? = some x → k ∈ o2 ops i (eP ops i) ∨ nW BR ops o x = true
theorem ROK.of (h : rE BR ops = true) : ROK BR ops := by
 unfold rE at h
 refine ⟨fun i hi k hk => ?_, fun i k o x hki ho hx => ?_⟩
 ·have := List.all_eq_true.1 h i (List.mem_range.2 hi)
  rw [Array.getElem?_eq_getElem hi] at this
  simp only [Bool.and_eq_true] at this
  simpa using List.all_eq_true.1 this.1 k hk
 ·have hi : i < ops.size := (Array.getElem?_eq_some_iff.1 ho).1
  have := List.all_eq_true.1 h i (List.mem_range.2 hi)
  rw [ho] at this
  simp only [Bool.and_eq_true] at this
  have := List.all_eq_true.1 this.2 k (List.mem_range.2 hki)
  rw [hx] at this
  simpa using this
theorem ut (hR : Rel C M ρ st a w) (t s : Nat) (h : pY (st.tmps t) s) : st.rows s ≠ none := by
 intro hn
 have hρ := hR.fr s hn
 have hv := hR.tm t
 have one : ∀ {c : AV} {v : Value}, VR M ρ c v → yD c s → False := by
  intro c v hv hr
  cases c <;> simp only [yD] at hr
  case own s' n =>
   subst hr
   obtain ⟨g, cap, ⟨h1, _⟩ | ⟨h1, _⟩⟩ := hv.own_inv
   ·rw [hρ] at h1; cases h1
   ·rw [hρ] at h1; cases h1
  case ptr s' n =>
   subst hr
   obtain ⟨x, h1, _⟩ := hv.ptr_inv
   rw [hρ] at h1; cases h1
 by_cases hag : ∃ cs, st.tmps t = .agg cs
 ·obtain ⟨cs, e⟩ := hag
  rw [e] at h hv
  obtain ⟨c, hc, hr⟩ := h
  obtain ⟨vs, _, hl, _, h2⟩ := hv.agg_inv
  obtain ⟨i, hi, rfl⟩ := List.mem_iff_getElem.1 hc
  exact one (h2 i _ _ (List.getElem?_eq_getElem hi) (Array.getElem?_eq_getElem (by omega))) hr
 ·have e : pY (st.tmps t) s = yD (st.tmps t) s := by
   cases hq : st.tmps t <;> first | rfl | exact absurd ⟨_, hq⟩ hag
  rw [e] at h
  exact one hv h
theorem uu {site : Nat} {o : Oper} {st' : St} (h : Gst P BR ops site o st st') : ∀ s, st.rows s ≠ none → st'.rows s ≠ none := by
 have aft : ∀ (ι : List Nat) (mem' : List Row) (s : Nat), ι.Nodup → ι.length ≤ mem'.length → st.rows s ≠ none → az ι site st.rows mem' s ≠ none := by
  intro ι mem' s hnd hle hs
  unfold az
  rw [bR]
  split
  ·rename_i hc
   simp only [List.length_map, List.length_drop] at hc
   rw [List.getElem?_map, List.getElem?_drop, List.getElem?_eq_getElem (by omega)]
   simp
  ·by_cases hsι : s ∈ ι
   ·obtain ⟨j, hj, hjs⟩ := List.mem_iff_getElem.1 hsι
    have e : ι[j]? = some s := by rw [List.getElem?_eq_getElem hj, hjs]
    rw [kJ _ _ _ j s hnd e (by simp; omega), List.getElem?_map, List.getElem?_take, if_pos hj, List.getElem?_eq_getElem (by omega)]
    simp
   ·rw [ij _ _ _ _ hsι]; exact hs
 have stp : Stp P BR site o st st' → ∀ s, st.rows s ≠ none → st'.rows s ≠ none := by
  intro h s hs
  unfold Stp at h
  split at h
  ·obtain ⟨v, h1, rfl⟩ := h
   rw [St.put_rows]; exact hs
  ·obtain ⟨v, nw, h1, h2, rfl⟩ := h
   rw [St.put_rows]
   simp only [St.add, bR]
   split
   ·rename_i hc; rw [List.getElem?_eq_getElem (by omega)]; simp
   ·exact hs
  ·obtain ⟨c, f, avs, lnd, ret, mem', hop, hcal, h1, h2, h3, h4, h5, h6, h7, h8, rfl⟩ := h
   rw [St.put_rows]
   exact aft [] mem' s h2 h5 hs
  ·obtain ⟨v, rows', h1, rfl⟩ := h
   rw [St.put_rows]
   show rows' s ≠ none
   have u : ∀ (f : Nat → Option Row) (k : Nat) (r : Row) (s : Nat), f s ≠ none → upd f k (some r) s ≠ none := fun f k r s hf => by
    unfold upd; split
    ·simp
    ·exact hf
   have h1 : ∃ v rows2, aWr P site st.ev st.rows o.op = some (v, rows2) ∧ (rows2 s ≠ none → rows' s ≠ none) := by
    cases hfz : FZ BR site with
    | false => rw [hfz] at h1; exact ⟨_, _, h1, id⟩
    | true =>
     rw [hfz] at h1
     obtain ⟨s', n, rows, E, sz, cs, h2, h3, rfl, rfl⟩ := tp h1
     exact ⟨_, _, h2, u _ _ _ _⟩
   obtain ⟨v2, rows2, h1, h2⟩ := h1
   refine h2 ?_
   clear h2
   unfold aWr at h1
   split at h1
   ·repeat' split at h1
    all_goals first | (cases h1; done) | skip
    all_goals
     simp only [Option.some.injEq, Prod.mk.injEq] at h1
     rw [← h1.2]
     exact u _ _ _ _ hs
   ·repeat' split at h1
    all_goals first | (cases h1; done) | skip
    all_goals first
     | (obtain ⟨_, _, _, _, _, _, _, _, _, _, _, _, _, e⟩ := rp h1
        rw [e]
        exact u _ _ _ _ (u _ _ _ _ hs))
     | (simp only [Option.some.injEq, Prod.mk.injEq] at h1
        rw [← h1.2]
        first | exact hs | exact u _ _ _ _ hs | exact u _ _ _ _ (u _ _ _ _ hs))
   ·cases h1
  ·obtain ⟨ι, nt, c, f, avs, lnd, ret, mem', hop, hcal, h1, h2, h3, h4, h5, h6, h7, h8, rfl⟩ := h
   rw [St.put_rows]
   exact aft ι mem' s h2 h5 hs
  ·obtain ⟨ι, nt, c, f, avs, lnd, ret, mem', hop, hcal, h1, h2, h3, h4, h5, h6, h7, h8, rfl⟩ := h
   rw [St.put_rows]
   exact aft ι mem' s h2 h5 hs
  ·exact h.elim
 unfold Gst at h
 split at h
 ·exact stp h
 ·obtain ⟨t, h1, h3⟩ := h
  rcases h3 with ⟨h3, h4⟩ | ⟨h3, rfl⟩
  ·exact stp h4
  ·intro s hs; rw [St.put_rows]; exact hs
theorem kK {site : Nat} {o : Oper} {st' : St} (h : Gst P BR ops site o st st') (t : Nat) (ht : o.dst ≠ some t) : st'.tmps t = st.tmps t := by
 obtain ⟨v, rows', rfl, _⟩ := h.congr (st2 := st) (fun _ _ => rfl) rfl
 rw [St.put_tmps_ne _ _ _ _ ht]
theorem rq {bs : Nat} {K : St → Prop} {i : Nat} {o : Oper} (ho : ops[i]? = some o) : ∀ (L1 L2 : List Nat) (st : St), (∀ k ∈ L1, k ≠ i ∧ ∀ x, ops[k]? = some x → nW BR ops o x = true) →
  (∀ t ∈ o.looksAt ops, ∀ s, pY (st.tmps t) s → st.rows s ≠ none) → sj P BR ops bs (L1 ++ i :: L2) st K → sj P BR ops bs (i :: (L1 ++ L2)) st K
 | [], L2, st, _, _, h => h
 | k :: L1, L2, st, hL, hlive, h => by
  obtain ⟨x, s1, hx, hg, h⟩ := h
  obtain ⟨hki, hind⟩ := hL k (by simp)
  have hi := hind x hx
  have ha : o.apart ops x = true := by unfold nW at hi; rw [Bool.and_eq_true] at hi; exact hi.1
  obtain ⟨a1, a2, a3⟩ := Oper.apart_spec ha
  have ih := rq ho L1 L2 s1 (fun k' hk' => hL k' (by simp [hk'])) (fun t ht s hr => by
    rw [kK hg t (fun e => a3 t e ht)] at hr
    exact uu hg s (hlive t ht s hr)) h
  obtain ⟨o', s2, ho', hg2, h2⟩ := ih
  rw [ho] at ho'; injection ho' with ho'; subst ho'
  obtain ⟨s1', e1, e2⟩ := K7 hg hg2 hi (by omega) hlive
  exact ⟨o, s1', ho, e1, x, s2, hx, e2, h2⟩
theorem An (hN : mp C.N ops = true) (hOK : ROK BR ops) {Q : Exit → Act → World → Prop} {K : St → Prop} (hK : ∀ st' M' ρ' a' w', K st' → Rel C M' ρ' st' a' w' → Q .normal a' w') (bs : Nat) :
  ∀ (n : Nat) (L : List Nat) (listed : Array Bool) (st : St) (M : Imm) (ρ : Plc) (a : Act) (w : World), L.length = n → L.Pairwise (· < ·) → (∀ i, i ∈ L ↔ i < ops.size ∧ listed.getD i true = false) → listed.size = ops.size → oi ops listed →
   sj P BR ops bs L st K → Rel C M ρ st a w → wpAny P .any ops Q n listed a w := by
 intro n
 induction n with
 | zero =>
  intro L listed st M ρ a w hl hp hL hsz hc h hR
  have : L = [] := List.eq_nil_of_length_eq_zero hl
  subst this
  refine ⟨?_, hK _ _ _ _ _ h hR⟩
  cases hq : Region.ready .any ops listed with
  | nil => rfl
  | cons i r =>
   exfalso
   have hr : i ∈ Region.ready .any ops listed := by rw [hq]; simp
   obtain ⟨h1, o, ho, _⟩ := mem_ready.1 hr
   have := (hL i).2 ⟨(Array.getElem?_eq_some_iff.1 ho).1, h1⟩
   simp at this
 | succ n ih =>
  intro L listed st M ρ a w hl hp hL hsz hc h hR
  have lof : ∀ k, k < ops.size → k ∉ L → listed.getD k false = true := fun k hk hn => by
   have hk' : k < listed.size := by omega
   cases hq : listed[k] with
   | true => simp [hk', hq]
   | false =>
    exfalso
    exact hn ((hL k).2 ⟨hk, by simp [hk', hq]⟩)
  refine ⟨fun h0 => ?_, fun i hi => ?_⟩
  ·exfalso
   cases L with
   | nil => simp at hl
   | cons i L =>
    have hiL := (hL i).1 (by simp)
    have ho : ops[i]? = some ops[i] := Array.getElem?_eq_getElem hiL.1
    have hr : i ∈ Region.ready .any ops listed := mem_ready.2 ⟨hiL.2, _, ho, fun e he hb => by
      have hk : e.on ∈ eP ops i := by
        simp only [eP, ho, List.mem_map, List.mem_filter]
        exact ⟨e, ⟨by simpa using he, hb⟩, rfl⟩
      have hlt := hOK.deps i hiL.1 _ hk
      refine lof _ (by omega) (fun hm => ?_)
      rcases List.mem_cons.1 hm with hm | hm
      · omega
      · have := (List.pairwise_cons.1 hp).1 _ hm
        omega⟩
    rw [h0] at hr; cases hr
  ·obtain ⟨h1, o, ho, _⟩ := mem_ready.1 hi
   have hiL : i ∈ L := (hL i).2 ⟨(Array.getElem?_eq_some_iff.1 ho).1, h1⟩
   obtain ⟨L1, L2, rfl⟩ := List.append_of_mem hiL
   have hlt1 : ∀ k ∈ L1, k < i := fun k hk => (List.pairwise_append.1 hp).2.2 k hk i (by simp)
   have hunl : ∀ k ∈ L1, listed.getD k false = true → False := fun k hk ht => by
    have := ((hL k).1 (by simp [hk])).2
    have hk' : k < listed.size := by have := ((hL k).1 (by simp [hk])).1; omega
    simp [hk'] at this ht
    rw [this] at ht; cases ht
   have hf := rq ho L1 L2 st (fun k hk => ⟨by have := hlt1 k hk; omega, fun x hx => by
     rcases hOK.ind i k o x (hlt1 k hk) ho hx with h' | h'
     · exact (hunl k hk (jz hc i _ (o3 hi) k h')).elim
     · exact h'⟩) (fun t ht s hr => ut hR t s hr) h
   obtain ⟨o', st', ho', hg, hrest⟩ := hf
   rw [ho] at ho'; injection ho' with ho'; subst ho'
   have hpw : (L1 ++ L2).Pairwise (· < ·) := by
    rw [List.pairwise_append] at hp ⊢
    exact ⟨hp.1, (List.pairwise_cons.1 hp.2.1).2, fun x hx y hy => hp.2.2 x hx y (by simp [hy])⟩
   have hni : i ∉ L1 ++ L2 := by
    intro hm
    rcases List.mem_append.1 hm with hm | hm
    ·have := hlt1 i hm; omega
    ·have := (List.pairwise_cons.1 (List.pairwise_append.1 hp).2.1).1 i hm; omega
   refine tr ho hg hR (oh hN ho) (fun M' ρ' a' w' hR' => ih (L1 ++ L2) _ st' M' ρ' a' w' (by simp at hl ⊢; omega) hpw (fun j => ?_) (by simpa using hsz) (hc.set hi) hrest hR')
   by_cases hji : j = i
   ·subst hji
    have hjs : j < listed.size := by rw [hsz]; exact (Array.getElem?_eq_some_iff.1 ho).1
    constructor
    ·intro hm; exact absurd hm hni
    ·rintro ⟨_, hm⟩; simp [hjs] at hm
   ·rw [getD_set_ne true (Ne.symm hji), ← hL j]
    simp [hji]
end
def AW (P : Program) (C : Ctx) (c : Code) (st : St) (Q : Exit → St → Prop) : Prop :=
 ∀ M ρ a w, Rel C M ρ st a w → c.wp P (fun e a' w' => ∃ st' M' ρ', Q e st' ∧ Rel C M' ρ' st' a' w') a w
def pC (k : St → Prop) (Q : Exit → St → Prop) : Exit → St → Prop
 | .normal, st => k st
 | e, st => Q e st
def Ao (id : Nat) (Q : Exit → St → Prop) : Exit → St → Prop
 | .exit i, st => if i = id then Q .normal st else Q (.exit i) st
 | e, st => Q e st
def Le (C : Ctx) (st S : St) : Prop := ∀ M ρ a w, Rel C M ρ st a w → ∃ M' ρ', Rel C M' ρ' S a w
section
variable {P : Program} {BR : Nat → Bool} {C : Ctx} {st : St} {Q : Exit → St → Prop}
theorem xL {c : Code} {Q' : Exit → St → Prop} (h : AW P C c st Q) (hq : ∀ e s, Q e s → Q' e s) : AW P C c st Q' :=
 fun M ρ a w hR => Code.wp_mono (fun _ _ _ ⟨st', M', ρ', h1, h2⟩ => ⟨st', M', ρ', hq _ _ h1, h2⟩) (h M ρ a w hR)
theorem aE (h : Q .normal st) : AW P C .skip st Q := fun M ρ a w hR => wp_skip ⟨st, M, ρ, h, hR⟩
theorem aZ {id : Nat} (h : Q (.exit id) st) : AW P C (.exit id) st Q := fun M ρ a w hR => wp_exit ⟨st, M, ρ, h, hR⟩
theorem bV (h : Q .ret st) : AW P C .ret st Q := fun M ρ a w hR => wp_ret ⟨st, M, ρ, h, hR⟩
theorem aH {x y : Code} (h : AW P C x st (pC (fun st' => AW P C y st' Q) Q)) : AW P C (.seq x y) st Q := fun M ρ a w hR =>
 wp_seq (Code.wp_mono (fun e a' w' ⟨st', M', ρ', h1, h2⟩ => by
   cases e with
   | normal => exact h1 M' ρ' a' w' h2
   | _ => exact ⟨st', M', ρ', h1, h2⟩) (h M ρ a w hR))
theorem aJ {id : Nat} {c : Code} (h : AW P C c st (Ao id Q)) : AW P C (.block id c) st Q := fun M ρ a w hR =>
 wp_block (Code.wp_mono (fun e a' w' ⟨st', M', ρ', h1, h2⟩ => by
   cases e with
   | exit i =>
     simp only [Exit.inBlock]
     simp only [Ao] at h1
     split
     · rename_i e; rw [if_pos e] at h1; exact ⟨st', M', ρ', h1, h2⟩
     · rename_i e; rw [if_neg e] at h1; exact ⟨st', M', ρ', h1, h2⟩
   | _ => exact ⟨st', M', ρ', h1, h2⟩) (h M ρ a w hR))
theorem Dy {c : Operand} {x y : Code} {b : Bool} (hc : st.ev c = .bool b) (ht : b = true → AW P C x st Q) (hf : b = false → AW P C y st Q) : AW P C (.cond c x y) st Q := fun M ρ a w hR => by
 have e := hR.ev c
 rw [hc] at e
 exact wp_cond_split e.bool_inv (fun h => ht h M ρ a w hR) (fun h => hf h M ρ a w hR)
theorem bZ {c : Code} {S : St} (hl : Le C st S) (h : AW P C c S Q) : AW P C c st Q := fun M ρ a w hR => by
 obtain ⟨M', ρ', hR'⟩ := hl M ρ a w hR
 exact h M' ρ' a w hR'
theorem Le.refl : Le C st st := fun M ρ a w h => ⟨M, ρ, h⟩
theorem Le.trans {S T : St} (h : Le C st S) (k : Le C S T) : Le C st T := fun M ρ a w hR => by
 obtain ⟨M', ρ', h'⟩ := h M ρ a w hR
 exact k M' ρ' a w h'
theorem Dz {c : Code} (I : Nat → St → Prop) (h0 : ∃ n S, I n S ∧ Le C st S) (hr : ∀ n S, I n S → AW P C c S (pC (fun st' => ∃ m S', m < n ∧ I m S' ∧ Le C st' S') Q)) : AW P C (.loop c) st Q := fun M ρ a w hR => by
 obtain ⟨n0, S0, hI, hL⟩ := h0
 obtain ⟨M', ρ', hR'⟩ := hL M ρ a w hR
 refine wp_loop_ghost (fun n a w => ∃ S M ρ, I n S ∧ Rel C M ρ S a w) n0 ⟨S0, M', ρ', hI, hR'⟩ ?_
 rintro n a w ⟨S, M, ρ, hI, hR⟩
 refine Code.wp_mono (fun e a' w' ⟨st', M', ρ', h1, h2⟩ => ?_) (hr n S hI M ρ a w hR)
 cases e with
 | normal =>
  obtain ⟨m, S', hm, hI', hL'⟩ := h1
  obtain ⟨M'', ρ'', hR''⟩ := hL' M' ρ' a' w' h2
  exact ⟨m, hm, S', M'', ρ'', hI', hR''⟩
 | _ => exact ⟨st', M', ρ', h1, h2⟩
def St.next (st : St) (n : Nat) : St := { st with bs := st.bs + 16 * n }
theorem Rel.next {M : Imm} {ρ : Plc} {a : Act} {w : World} (h : Rel C M ρ st a w) (b : Nat) : Rel C M ρ { st with bs := b } a w := ⟨h.tm, h.N, h.df, h.mr, h.chg, h.new, h.m0, h.r0, h.mold, h.fr⟩
theorem yG {id : Nat} {ops : Array Oper} {draw : Bool} (hm : draw = true → P.follows .mixedOrders = true) (hN : mp C.N ops = true) (hB : draw = true → rE BR ops = true)
  (h : sj P BR ops st.bs (List.range ops.size) st (fun st' => Q .normal { st' with bs := st.bs + 16 * ops.size })) : AW P C (.region id ops draw) st Q := fun M ρ a w hR => by
 have hK : ∀ st' M' ρ' a' w', Q .normal { st' with bs := st.bs + 16 * ops.size } → Rel C M' ρ' st' a' w' → ∃ st' M' ρ', Q .normal st' ∧ Rel C M' ρ' st' a' w' := fun st' M' ρ' a' w' h1 h2 => ⟨_, M', ρ', h1, h2.next _⟩
 cases draw with
 | false => exact wp_region (qB hN (Q := fun e a' w' => ∃ st' M' ρ', Q e st' ∧ Rel C M' ρ' st' a' w') hK _ _ _ _ _ _ _ h hR)
 | true =>
  refine wp_region_any (hm rfl) ?_
  refine An hN (ROK.of (hB rfl)) (Q := fun e a' w' => ∃ st' M' ρ', Q e st' ∧ Rel C M' ρ' st' a' w') hK st.bs ops.size (List.range ops.size) _ st M ρ a _ (by simp) List.pairwise_lt_range (fun i => ?_) (by simp) (fun j hj => ?_) h hR.drew
  ·constructor
   ·intro hi
    have := List.mem_range.1 hi
    exact ⟨this, by simp [this]⟩
   ·rintro ⟨hi, _⟩; exact List.mem_range.2 hi
  ·rw [getD_replicate_false] at hj; cases hj
theorem Ap {M : Imm} {ρ : Plc} {a : Act} {w : World} (hR : Rel C M ρ st a w) {t : TypeId} {sz : Nat} {ag : Bool} (ht : szA P t = some (sz, ag)) {x : Operand} {v : AV} (hl : l9 ag sz st.rows (st.ev x) = some v) :
  ∃ u, (Instr.loadAt t (a.eval x)).run P w = .ok u w ∧ VR M ρ v u := by
 have ex := hR.ev x
 unfold l9 at hl
 split at hl
 ·rename_i s off hx
  rw [hx] at ex
  obtain ⟨y, hy, hyn, ex⟩ := ex.ptr_inv
  rw [ex]
  split at hl
  ·rename_i T cs hrow
   obtain ⟨y', hy', hrow'⟩ := hR.mr.row s _ hrow rfl
   rw [hy] at hy'; injection hy' with hy'; subst hy'
   obtain ⟨h0, arr, h1, h2, h3, h4⟩ := hrow'
   refine mI ht hl y.g off (fun i => arr.getD (off + i) undef) (fun i c hc => ?_)
   rw [List.getElem?_drop] at hc
   have hlt : off + i < arr.size := by
    rw [← h2]
    rcases Nat.lt_or_ge (off + i) cs.length with h' | h'
    ·exact h'
    ·rw [List.getElem?_eq_none h'] at hc; cases hc
   have e : arr.getD (off + i) undef = arr[off + i] := by simp [hlt]
   rw [e]
   exact ⟨by rw [cell_of_row w y.g (off + i) arr T (0, 0) h1]; simp [hlt], h3 _ (Array.getElem_mem hlt), h4 _ c _ hc (Array.getElem?_eq_getElem hlt)⟩
  ·rename_i E z cs hrow
   obtain ⟨y', hy', hrow'⟩ := hR.mr.row s _ hrow rfl
   rw [hy] at hy'; injection hy' with hy'; subst hy'
   rcases hrow' with ⟨hn1, _⟩ | ⟨h0, xs, h1, h2, h3, h4⟩
   ·rw [hyn] at hn1; cases hn1
   refine mI ht hl y.g off (fun i => xs.getD (off + i) undef) (fun i c hc => ?_)
   rw [List.getElem?_drop] at hc
   have hlt : off + i < xs.length := by
    rw [← h2]
    rcases Nat.lt_or_ge (off + i) cs.length with h' | h'
    ·exact h'
    ·rw [List.getElem?_eq_none h'] at hc; cases hc
   have e : xs.getD (off + i) undef = xs[off + i] := by simp [hlt]
   rw [e]
   refine ⟨?_, h3 _ (List.getElem_mem hlt), .plain (h4 _ c _ hc (List.getElem?_eq_getElem hlt))⟩
   have := World.ownsRow.cells h1 (g := y.g) rfl (off + i) _ (List.getElem?_eq_getElem hlt)
   rwa [dS, Nat.zero_add] at this
  ·rename_i E z cs hrow
   obtain ⟨y', hy', hrow'⟩ := hR.mr.row s _ hrow rfl
   rw [hy] at hy'; injection hy' with hy'; subst hy'
   rcases hrow' with ⟨hn1, _⟩ | ⟨h0, xs, h1, h2, h3, h4⟩
   ·rw [hyn] at hn1; cases hn1
   refine mI ht hl y.g off (fun i => xs.getD (off + i) undef) (fun i c hc => ?_)
   rw [List.getElem?_drop] at hc
   have hlt : off + i < xs.length := by
    rw [← h2]
    rcases Nat.lt_or_ge (off + i) cs.length with h' | h'
    ·exact h'
    ·rw [List.getElem?_eq_none h'] at hc; cases hc
   have e : xs.getD (off + i) undef = xs[off + i] := by simp [hlt]
   rw [e]
   refine ⟨?_, h3 _ (List.getElem_mem hlt), h4 _ c _ hc (List.getElem?_eq_getElem hlt)⟩
   have := World.ownsRow.cells h1 (g := y.g) rfl (off + i) _ (List.getElem?_eq_getElem hlt)
   rwa [dS, Nat.zero_add] at this
  ·cases hl
 ·rename_i cs hx
  rw [hx] at ex
  have ex := ex.eptr_inv
  generalize a.eval x = q at ex
  cases ex with
  | eptr _ b off f hm hh =>
   refine mI ht hl b off f (fun i c hc => ?_)
   have := hR.mr.imm _ _ _ (hm i c hc)
   exact ⟨this.1, this.2.1, .plain (hh i c hc)⟩
 ·cases hl
def rH (P : Program) (st : St) : List ResultVar → Option (List AV)
 | [] => some []
 | .tmp t :: l => match rH P st l with
  | some r => some (st.tmps t :: r)
  | none => none
 | .cell t T :: l => match szA P T with
  | some (sz, ag) => match st.tmps t with
   | .ptr s off => match l9 ag sz st.rows (.ptr s off), rH P st l with
    | some v, some r => some (v :: r)
    | _, _ => none
   | _ => none
  | none => none
def ts : List AV → AV
 | [v] => v
 | vs => .tup vs
def il (ids : List Nat) : AV → AV
 | .tup vs => .tup (vs.map (bq ids fun _ => none))
 | a => bq ids (fun _ => none) a
def yH (P : Program) (fn : Func) (k : Nat) (ret : AV) (mem' : List Row) (st : St) : Prop :=
 ∃ (rs : List AV) (ids : List Nat), rH P st fn.results.toList = some rs ∧ ids.Nodup ∧ (∀ j, j < k → ids[j]? = some j) ∧ ret = il ids (ts rs) ∧ mem' = ids.map (bT ids (fun _ => none) st.rows)
def Aq (tmps : Array Value) : ResultVar → Sem Value
 | .tmp t => pure (tmps.getD t undef)
 | .cell x t => do loadVar t (← asAddr (tmps.getD x undef))
theorem vx {M : Imm} {ρ : Plc} {a : Act} {w : World} (hR : Rel C M ρ st a w) : ∀ (l : List ResultVar) (rs : List AV), rH P st l = some rs →
  ∃ vs : List Value, (l.mapM (Aq a.tmps)).run P w = .ok vs w ∧ rs.length = vs.length ∧ ∀ (i : Nat) (c : AV) (v : Value), rs[i]? = some c → vs[i]? = some v → VR M ρ c v
 | [], rs, h => by
  simp only [rH, Option.some.injEq] at h
  subst h
  exact ⟨[], rfl, rfl, by simp⟩
 | .tmp t :: l, rs, h => by
  simp only [rH] at h
  split at h
  ·rename_i r hr
   injection h with h; subst h
   obtain ⟨vs, h1, h2, h3⟩ := vx hR l r hr
   refine ⟨a.tmps.getD t undef :: vs, ?_, by simp [h2], fun i c v hc hv => ?_⟩
   ·rw [List.mapM_cons]
    simp only [Sem.run_bind, Aq, Sem.run_pure, Result.andThen_ok, h1]
   ·cases i with
    | zero => simp only [List.getElem?_cons_zero, Option.some.injEq] at hc hv; subst hc hv; exact hR.tm t
    | succ i => exact h3 i c v (by simpa using hc) (by simpa using hv)
  ·cases h
 | .cell t T :: l, rs, h => by
  simp only [rH] at h
  split at h
  ·rename_i sz ag ht
   split at h
   ·rename_i s off hp
    split at h
    ·rename_i v r hv hr
     injection h with h; subst h
     obtain ⟨vs, h1, h2, h3⟩ := vx hR l r hr
     obtain ⟨u, hu, hU⟩ := Ap hR ht (x := .tmp t) (v := v) (by simp only [St.ev, hp]; exact hv)
     have ep := hR.tm t
     rw [hp] at ep
     obtain ⟨y, hy, hyn, ep⟩ := ep.ptr_inv
     have hu' : (do loadVar T (← asAddr (a.tmps.getD t undef)) : Sem Value).run P w = .ok u w := by
      rw [ep]
      have : a.eval (.tmp t) = .pointer (some ⟨y.g, off, none⟩) := ep
      rw [this] at hu
      simpa [Instr.loadAt, Instr.sureAddr, asAddr] using hu
     refine ⟨u :: vs, ?_, by simp [h2], fun i c v hc hv => ?_⟩
     ·rw [List.mapM_cons]
      have hu2 : (Aq a.tmps (.cell t T)).run P w = .ok u w := hu'
      simp only [Sem.run_bind, hu2, Sem.run_pure, Result.andThen_ok, h1]
     ·cases i with
      | zero => simp only [List.getElem?_cons_zero, Option.some.injEq] at hc hv; subst hc hv; exact hU
      | succ i => exact h3 i c v (by simpa using hc) (by simpa using hv)
    ·cases h
   ·cases h
  ·cases h
section
variable {M : Imm} {ρ : Plc} {ids : List Nat}
def pZ (ids : List Nat) (ρ : Plc) : Plc := fun j => match ids[j]? with | some s => ρ s | none => none
theorem VR.ps1 {a : AV} {v : Value} (h : VR M ρ a v) : VR M (pZ ids ρ) (bQ ids (fun _ => none) a) v := by
 cases h with
 | plain h => cases h <;> first | exact .plain (.top _) | exact .plain (by constructor <;> assumption)
 | own s g n cap h =>
  simp only [bQ]
  split
  ·rename_i j hj
   exact .own j g n cap (by simp only [pZ, iB hj]; exact h)
  ·exact .plain (.top _)
 | ownl s g cap h =>
  simp only [bQ]
  split
  ·rename_i j hj
   exact .ownl j g cap (by simp only [pZ, iB hj]; exact h)
  ·exact .plain (.top _)
 | ptr s off x h hx =>
  simp only [bQ]
  split
  ·rename_i j hj
   exact .ptr j off x (by simp only [pZ, iB hj]; exact h) hx
  ·exact .plain (.top _)
 | agg => exact .plain (.top _)
 | tup => exact .plain (.top _)
 | fn => exact .plain (.top _)
theorem VR.ps2 {a : AV} {v : Value} (h : VR M ρ a v) : VR M (pZ ids ρ) (bq ids (fun _ => none) a) v := by
 by_cases hag : ∃ cs, a = .agg cs
 ·obtain ⟨cs, rfl⟩ := hag
  obtain ⟨vs, rfl, hl, h1, h2⟩ := h.agg_inv
  refine .agg _ _ (by simpa using hl) h1 (fun i c u hc hu => ?_)
  rw [List.getElem?_map] at hc
  cases hq : cs[i]? with
  | none => rw [hq] at hc; cases hc
  | some q =>
   rw [hq] at hc; injection hc with hc; subst hc
   exact (h2 i q u hq hu).ps1
 ·have e : bq ids (fun _ => none) a = bQ ids (fun _ => none) a := by cases a <;> first | rfl | exact absurd ⟨_, rfl⟩ hag
  rw [e]; exact h.ps1
theorem VR.ps3 {a : AV} {v : Value} (h : VR M ρ a v) : VR M (pZ ids ρ) (il ids a) v := by
 by_cases hag : ∃ cs, a = .tup cs
 ·obtain ⟨cs, rfl⟩ := hag
  obtain ⟨vs, rfl, hl, h2⟩ := h.tup_inv
  refine .tup _ _ (by simpa using hl) (fun i c u hc hu => ?_)
  rw [List.getElem?_map] at hc
  cases hq : cs[i]? with
  | none => rw [hq] at hc; cases hc
  | some q =>
   rw [hq] at hc; injection hc with hc; subst hc
   exact (h2 i q u hq hu).ps2
 ·have e : il ids a = bq ids (fun _ => none) a := by cases a <;> first | rfl | exact absurd ⟨_, rfl⟩ hag
  rw [e]; exact h.ps2
theorem qC {rows : Nat → Option Row} {j : Nat} {r : Row} (h : bd (ids.map (bT ids (fun _ => none) rows)) j = some r) (hs : r.solid = true) : ∃ s r0, ids[j]? = some s ∧ rows s = some r0 ∧ r0.solid = true ∧ r = bT ids (fun _ => none) rows s := by
 simp only [bd, List.getElem?_map] at h
 cases hj : ids[j]? with
 | none => rw [hj] at h; cases h
 | some s =>
  rw [hj] at h; injection h with h
  subst h
  unfold bT at hs
  cases hr : rows s with
  | none => simp [hr, Row.solid] at hs
  | some r0 =>
   cases r0 with
   | gone => simp [hr, Row.solid] at hs
   | box T cs => exact ⟨s, _, rfl, hr, rfl, rfl⟩
   | row E sz cs => exact ⟨s, _, rfl, hr, rfl, rfl⟩
   | tab E sz cs => exact ⟨s, _, rfl, hr, rfl, rfl⟩
theorem MR.sub {rows : Nat → Option Row} {w : World} (h : MR M ρ rows w) (hnd : ids.Nodup) : MR M (pZ ids ρ) (bd (ids.map (bT ids (fun _ => none) rows))) w := by
 refine ⟨fun j r hj hs => ?_, fun i j r r' x x' hi hj hs hs' hx hx' hne hn hn' => ?_, h.imm, fun b o v j r x hM hj hs hx hn => ?_⟩
 ·obtain ⟨s, r0, e1, e2, e3, rfl⟩ := qC hj hs
  obtain ⟨x, hx, hX⟩ := h.row s r0 e2 e3
  refine ⟨x, by simp only [pZ, e1]; exact hx, ?_⟩
  unfold bT
  rw [e2]
  cases r0 with
  | box T cs =>
   obtain ⟨h0, arr, h1, h2, h3, h4⟩ := hX
   refine ⟨h0, arr, h1, by simpa using h2, h3, fun i c v hc hv => ?_⟩
   rw [List.getElem?_map] at hc
   cases hq : cs[i]? with
   | none => rw [hq] at hc; cases hc
   | some q =>
    rw [hq] at hc; injection hc with hc; subst hc
    exact (h4 i q v hq hv).ps1
  | row E sz cs => exact hX
  | tab E sz cs =>
   rcases hX with ⟨a1, a2, a3⟩ | ⟨h0, xs, h1, h2, h3, h4⟩
   ·subst a2; exact .inl ⟨a1, rfl, a3⟩
   refine .inr ⟨h0, xs, h1, by simpa using h2, h3, fun i c v hc hv => ?_⟩
   rw [List.getElem?_map] at hc
   cases hq : cs[i]? with
   | none => rw [hq] at hc; cases hc
   | some q =>
    rw [hq] at hc; injection hc with hc; subst hc
    exact (h4 i q v hq hv).ps1
  | gone => trivial
 ·obtain ⟨s, r0, e1, e2, e3, rfl⟩ := qC hi hs
  obtain ⟨s', r0', e1', e2', e3', rfl⟩ := qC hj hs'
  simp only [pZ, e1] at hx
  simp only [pZ, e1'] at hx'
  refine h.inj s s' r0 r0' x x' e2 e2' e3 e3' hx hx' (fun e => hne ?_) hn hn'
  subst e
  have h1 : i < ids.length := by
   rcases Nat.lt_or_ge i ids.length with h' | h'
   ·exact h'
   ·rw [List.getElem?_eq_none h'] at e1; cases e1
  exact (List.getElem?_inj h1 hnd).1 (e1.trans e1'.symm)
 ·obtain ⟨s, r0, e1, e2, e3, rfl⟩ := qC hj hs
  simp only [pZ, e1] at hx
  exact h.apt b o v s r0 x hM e2 e3 hx hn
end
def aW (i : Nat) : List AV → (Nat → AV) → (Nat → AV)
 | [], f => f
 | a :: l, f => aW (i + 1) l (upd f i a)
theorem tF : ∀ (l : List AV) (i t : Nat) (f : Nat → AV), aW i l f t = if i ≤ t ∧ t < i + l.length then l.getD (t - i) .top else f t
 | [], i, t, f => by simp only [aW, List.length_nil]; rw [if_neg (by omega)]
 | a :: l, i, t, f => by
  simp only [aW, tF l, List.length_cons]
  by_cases h1 : i + 1 ≤ t ∧ t < i + 1 + l.length
  ·rw [if_pos h1, if_pos (by omega), show t - i = (t - (i + 1)) + 1 by omega]; simp
  ·rw [if_neg h1]
   by_cases h2 : t = i
   ·subst h2; rw [ai, if_pos (by omega)]; simp
   ·rw [au _ _ h2, if_neg (by omega)]
def st0 (args : List AV) (mem : List Row) : St := ⟨aW 0 args (fun _ => .top), bd mem, 64⟩
theorem E2 {f : FuncId} {fn : Func} {c : Code} {args : List AV} {mem mem' : List Row} {ret : AV} (hf : P.funcs[f]? = some fn) (hb : fn.body = some c) (hcl : ig P f = true) (hn : args.length ≤ fn.ntmps)
  (h : ∀ C : Ctx, C.N = fn.ntmps → (∀ s, mem.length ≤ s → C.ρ0 s = none) → AW P C c (st0 args mem) (fun e st' => (e = .normal ∨ e = .ret) ∧ yH P fn mem.length ret mem' st')) : aV P f args mem ret mem' := by
 refine ⟨hcl, fun M ρ w vs hmr hρ hlen hvs => ?_⟩
 refine calls_of_wp hf hb ?_
 let C : Ctx := ⟨w, DOf ρ (bd mem), M, ρ, fn.ntmps⟩
 have hR : Rel C M ρ (st0 args mem) { tmps := vs ++ Array.replicate (fn.ntmps - vs.size) undef, defers := [] } w := by
  refine ⟨fun t => ?_, ?_, rfl, hmr, Chg.refl _ _, fun s r x h1 h2 h3 hn => .inl ⟨s, r, x, h1, h2, h3, hn, rfl⟩, Imm.le_refl _, Plc.le_refl _, fun _ _ _ => rfl, fun s hs => ?_⟩
  ·simp only [st0, tF]
   split
   ·rename_i hc
    have h1 : t < args.length := by omega
    have h2 : t < vs.size := by omega
    have e : (vs ++ Array.replicate (fn.ntmps - vs.size) undef).getD t undef = vs[t] := by
     have h3 : t < vs.size + (fn.ntmps - vs.size) := by omega
     simp [h2, h3, Array.getElem_append_left h2]
    rw [e]
    have := hvs t args[t] vs[t] (List.getElem?_eq_getElem h1) (Array.getElem?_eq_getElem h2)
    simpa [h1] using this
   ·exact .plain (.top _)
  ·show (vs ++ Array.replicate (fn.ntmps - vs.size) undef).size = fn.ntmps
   simp; omega
  ·refine hρ s ?_
   rcases Nat.lt_or_ge s mem.length with h' | h'
   ·have hs : mem[s]? = none := hs
    rw [List.getElem?_eq_getElem h'] at hs; cases hs
   ·exact h'
 refine Code.wp_mono (fun e a' w' ⟨st', M', ρ', hq, hR'⟩ => ?_) (h C rfl hρ M ρ _ w hR)
 obtain ⟨he, rs, ids, hrs, hnd, hids, rfl, rfl⟩ := hq
 obtain ⟨us, hu, hul, huv⟩ := vx hR' _ _ hrs
 have hrun : (results fn a'.tmps).run P w' = .ok (if h : us.toArray.size = 1 then us.toArray[0] else .tuple us.toArray) w' := by
  have hre : results fn a'.tmps = (do let vs ← fn.results.mapM (Aq a'.tmps); pure (if h : vs.size = 1 then vs[0] else .tuple vs)) := by
   unfold results
   congr 2
  rw [hre]
  have hm : (fn.results.mapM (Aq a'.tmps)).run P w' = .ok us.toArray w' := by
   rw [← Array.toArray_toList (xs := fn.results), List.mapM_toArray]
   simp only [Sem.run_map, hu, Result.andThen_ok]
  simp only [Sem.run_bind, hm, Result.andThen_ok, Sem.run_pure]
 have hvr : VR M' ρ' (ts rs) (if h : us.toArray.size = 1 then us.toArray[0] else .tuple us.toArray) := by
  cases rs with
  | nil =>
   have : us = [] := List.eq_nil_of_length_eq_zero (by simpa using hul.symm)
   subst this
   simp only [List.size_toArray, List.length_nil, Nat.zero_ne_one, dite_false, ts]
   exact .tup _ _ rfl (by simp)
  | cons r1 rs =>
   cases rs with
   | nil =>
    obtain ⟨u1, rfl⟩ : ∃ u1, us = [u1] := List.length_eq_one_iff.1 (by simpa using hul.symm)
    exact huv 0 r1 u1 rfl rfl
   | cons r2 rs =>
    have h1 : ¬ us.toArray.size = 1 := by simp at hul ⊢; omega
    rw [dif_neg h1]
    refine .tup _ _ (by simpa using hul) (fun i c v hc hv => huv i c v hc (by simpa using hv))
 have hpost : bodyPost P fn (fun e w'' => ∃ v M'' ρ'', e = .returned v ∧ M.le M'' ∧ ρ.le ρ'' ∧ MR M'' ρ'' (bd (ids.map (bT ids (fun _ => none) st'.rows))) w'' ∧ (∀ s, (ids.map (bT ids (fun _ => none) st'.rows)).length ≤ s → ρ'' s = none) ∧ VR M'' ρ'' (il ids (ts rs)) v ∧ Chg (DOf ρ (bd mem)) w w'' ∧
     (∀ b, b < w.heap.size → ¬ DOf ρ (bd mem) b → M'' b = M b) ∧ ∀ s r x, bd (ids.map (bT ids (fun _ => none) st'.rows)) s = some r → r.solid = true → ρ'' s = some x → x.nl = false → DOf ρ (bd mem) x.g ∨ w.heap.size ≤ x.g) .ret a' w' := by
  refine bodyPost_ret hrun hR'.df ⟨_, M', pZ ids ρ', rfl, hR'.m0, fun s x hs => ?_, hR'.mr.sub hnd, fun s hs => ?_, hvr.ps3, hR'.chg, hR'.mold, fun s r x h1 h2 h3 hn => ?_⟩
  ·have hlt : s < mem.length := by
    rcases Nat.lt_or_ge s mem.length with h' | h'
    ·exact h'
    ·rw [hρ s h'] at hs; cases hs
   simp only [pZ, hids s hlt]
   exact hR'.r0 s x hs
  ·simp only [List.length_map] at hs
   simp only [pZ, List.getElem?_eq_none hs]
  ·obtain ⟨s', r0, e1, e2, e3, rfl⟩ := qC h1 h2
   simp only [pZ, e1] at h3
   exact hR'.new s' r0 x e2 e3 h3 hn
 rcases he with rfl | rfl
 ·exact hpost
 ·exact hpost
end
def qe {α : Type} (x : Option α) (K : α → Prop) : Prop := match x with
 | some v => K v
 | none => False
def tG (P : Program) (f : FuncId) (args : List AV) (st : St) (site : Nat) (dst : Option Tmp) (K : St → Prop) : Prop :=
 ∃ (lnd : Nat → Option Row) (ret : AV) (mem' : List Row), (∀ s r, lnd s = some r → st.rows s = some r) ∧ aV P f (args.map (bq [] lnd)) [] ret mem' ∧ ((∀ s, lnd s = none) ∨ (Free ret ∧ ∀ r ∈ mem', ∀ c ∈ r.cells, Free c)) ∧
  mem'.length ≤ 16 ∧ (∀ j, j < mem'.length → st.rows (site + j) = none) ∧ K (({ st with rows := ao st.rows site (mem'.map (Row.ren (mId [] site))) } : St).put dst (fg (mId [] site) ret))
def Ar (P : Program) (f : FuncId) (args : List AV) (st : St) (site : Nat) (dst : Option Tmp) (K : St → Prop) : Prop :=
 ∃ (ι : List Nat) (nt : Bool) (lnd : Nat → Option Row) (ret : AV) (mem' : List Row), (∀ s r, lnd s = some r → st.rows s = some r) ∧ ι.Nodup ∧ (∀ s ∈ ι, ∃ r, st.rows s = some r ∧ r.solid = true) ∧
  aV P f (args.map (tD nt ι lnd)) (ι.map (bT ι lnd st.rows)) ret mem' ∧ ι.length ≤ mem'.length ∧ ((∀ s, lnd s = none) ∨ (Free ret ∧ ∀ r ∈ mem', ∀ c ∈ r.cells, Free c)) ∧
  (nt = false → mem'.length - ι.length ≤ 16) ∧ (∀ j, j < mem'.length - ι.length → st.rows (site + j) = none) ∧ K (({ st with rows := az ι site st.rows mem' } : St).put dst (fg (mId ι site) ret))
def evL (st : St) : List Operand → List AV
 | [] => []
 | x :: l => st.ev x :: evL st l
def fnK (P : Program) (v : AV) (args : List AV) (st : St) (site : Nat) (dst : Option Tmp) (K : St → Prop) : Prop := match v with
 | .fn f ps => Ar P f (args ++ ps.map fun s => AV.ptr s 0) st site dst K
 | _ => False
def aO (P : Program) (BR : Nat → Bool) (site : Nat) (o : Oper) (st : St) (K : St → Prop) : Prop :=
 match cls BR o.op with
 | 0 => qe (dE P st.ev o.op) fun v => K (st.put o.dst v)
 | 1 => qe (aMk P (FZ BR site) site st.ev st.rows o.op) fun v => (match v.2 with | some r => st.rows site = none ∧ K (({ st with rows := upd st.rows site (some r) } : St).put o.dst v.1) | none => K (st.put o.dst v.1))
 | 2 => match o.op with
  | .call c => match c.callee with
   | .value (.func f) => tG P f (evL st c.args.toList) st site o.dst K
   | _ => False
  | _ => False
 | 3 => qe (pS (aWr P site st.ev st.rows o.op) (FZ BR site)) fun v => K (({ st with rows := v.2 } : St).put o.dst v.1)
 | 4 => match o.op with
  | .call c => match c.callee with
   | .value (.func f) => Ar P f (evL st c.args.toList) st site o.dst K
   | _ => False
  | _ => False
 | 6 => match o.op with
  | .call c => match c.callee with
   | .value (.tmp t) => fnK P (st.tmps t) (evL st c.args.toList) st site o.dst K
   | _ => False
  | _ => False
 | _ => False
def gK (b want : Bool) (A B : Prop) : Prop := (b = want → A) ∧ (b = !want → B)
def aG (P : Program) (BR : Nat → Bool) (ops : List Oper) (site : Nat) (o : Oper) (st : St) (K : St → Prop) : Prop :=
 match o.guard with
 | none => aO P BR site o st K
 | some (g, want) => match (ops[g]?).bind (·.dst) with
  | some t => match st.tmps t with
   | .bool b => gK b want (aO P BR site o st K) (K (st.put o.dst (.tup [])))
   | .tup [] => K (st.put o.dst (.tup []))
   | _ => False
  | none => False
def dx (P : Program) (BR : Nat → Bool) (ops : List Oper) (bs : Nat) : Nat → List Oper → St → (St → Prop) → Prop
 | _, [], st, K => K st
 | i, o :: l, st, K => aG P BR ops (bs + 16 * i) o st (fun st' => dx P BR ops bs (i + 1) l st' K)
section
variable {P : Program} {BR : Nat → Bool} {ops : List Oper}
theorem nX (st : St) : ∀ l, evL st l = l.map st.ev
 | [] => rfl
 | x :: l => by simp [evL, nX st l]
theorem lZ {α : Type} {x : Option α} {K : α → Prop} (h : qe x K) : ∃ v, x = some v ∧ K v := by
 cases x with
 | none => exact h.elim
 | some v => exact ⟨v, rfl, h⟩
theorem As {site : Nat} {o : Oper} {st : St} {K : St → Prop} (h : aO P BR site o st K) : ∃ st', Stp P BR site o st st' ∧ K st' := by
 unfold aO at h
 split at h
 ·rename_i hc
  obtain ⟨v, h1, h2⟩ := lZ h
  simp only [Stp, hc]
  exact ⟨_, ⟨v, h1, rfl⟩, h2⟩
 ·rename_i hc
  obtain ⟨v, h1, h2⟩ := lZ h
  obtain ⟨v, nw⟩ := v
  simp only [Stp, hc]
  cases nw with
  | none => exact ⟨_, ⟨v, none, h1, by simp, rfl⟩, h2⟩
  | some r => exact ⟨_, ⟨v, some r, h1, fun _ => h2.1, rfl⟩, h2.2⟩
 ·rename_i hc
  simp only [Stp, hc]
  split at h
  ·rename_i c hop
   split at h
   ·rename_i f hcal
    obtain ⟨lnd, ret, mem', h1, h2, h3, h4, h5, h6⟩ := h
    refine ⟨_, ⟨c, f, _, lnd, ret, mem', hop, .inl ⟨hcal, rfl⟩, h1, List.nodup_nil, by simp, ?_, by simp, h3, fun _ => by simpa using h4, by simpa using h5, rfl⟩, ?_⟩
    ·rw [nX] at h2; exact h2
    ·rw [fb]; exact h6
   ·exact h.elim
  ·exact h.elim
 ·rename_i hc
  obtain ⟨v, h1, h2⟩ := lZ h
  obtain ⟨v, rows'⟩ := v
  simp only [Stp, hc]
  exact ⟨_, ⟨v, rows', h1, rfl⟩, h2⟩
 ·rename_i hc
  simp only [Stp, hc]
  split at h
  ·rename_i c hop
   split at h
   ·rename_i f hcal
    obtain ⟨ι, nt, lnd, ret, mem', h1, h2, h3, h4, h5, h6, h7, h8, h9⟩ := h
    refine ⟨_, ⟨ι, nt, c, f, _, lnd, ret, mem', hop, .inl ⟨hcal, rfl⟩, h1, h2, h3, ?_, h5, h6, h7, h8, rfl⟩, h9⟩
    rw [nX] at h4; exact h4
   ·exact h.elim
  ·exact h.elim
 ·rename_i hc
  simp only [Stp, hc]
  split at h
  ·rename_i c hop
   split at h
   ·rename_i t hcal
    unfold fnK at h
    split at h
    ·rename_i f ps ht
     obtain ⟨ι, nt, lnd, ret, mem', h1, h2, h3, h4, h5, h6, h7, h8, h9⟩ := h
     refine ⟨_, ⟨ι, nt, c, f, _, lnd, ret, mem', hop, .inr ⟨t, ps, hcal, ht, rfl⟩, h1, h2, h3, ?_, h5, h6, h7, h8, rfl⟩, h9⟩
     rw [nX] at h4; exact h4
    ·exact h.elim
   ·exact h.elim
  ·exact h.elim
 ·exact h.elim
theorem Au {site : Nat} {o : Oper} {st : St} {K : St → Prop} (h : aG P BR ops site o st K) : ∃ st', Gst P BR ops.toArray site o st st' ∧ K st' := by
 unfold aG at h
 split at h
 ·rename_i hg
  simp only [Gst, hg]
  exact As h
 ·rename_i g want hg
  simp only [Gst, hg]
  split at h
  ·rename_i t ht
   split at h
   ·rename_i b hb
    by_cases e : b = want
    ·obtain ⟨st', h1, h2⟩ := As (h.1 e)
     exact ⟨st', ⟨t, by simpa using ht, .inl ⟨by rw [hb, e], h1⟩⟩, h2⟩
    ·exact ⟨_, ⟨t, by simpa using ht, .inr ⟨.inr ⟨b, hb, e⟩, rfl⟩⟩, h.2 (by cases b <;> cases want <;> simp_all)⟩
   ·rename_i hb
    exact ⟨_, ⟨t, by simpa using ht, .inr ⟨.inl hb, rfl⟩⟩, h⟩
   ·exact h.elim
  ·exact h.elim
theorem uv {bs : Nat} {K : St → Prop} : ∀ (l : List Oper) (i : Nat) (st : St), (∀ j, l[j]? = ops[i + j]?) → dx P BR ops bs i l st K → sj P BR ops.toArray bs (List.range' i l.length) st K
 | [], i, st, _, h => h
 | o :: l, i, st, hl, h => by
  obtain ⟨st', h1, h2⟩ := Au h
  have h0 : ops[i]? = some o := by simpa using (hl 0).symm
  rw [List.length_cons, List.range'_succ]
  exact ⟨o, st', by simpa using h0, h1, uv l (i + 1) st' (fun j => by have := hl (j + 1); simpa [Nat.add_assoc, Nat.add_comm 1 j] using this) h2⟩
theorem Av {C : Ctx} {st : St} {Q : Exit → St → Prop} {id : Nat} {draw : Bool} (hm : P.follows .mixedOrders = true) (hN : mp C.N ops.toArray = true) (hB : (!draw || rE BR ops.toArray) = true)
  (h : dx P BR ops st.bs 0 ops st (fun st' => Q .normal { st' with bs := st.bs + 16 * ops.length })) : AW P C (.region id ops.toArray draw) st Q :=
 yG (BR := BR) (fun _ => hm) hN (fun e => by rw [e] at hB; simpa using hB) (by
   have := uv ops 0 st (by simp) h
   rw [← List.range_eq_range'] at this
   simpa using this)
theorem uw {f : FuncId} {args : List AV} {st : St} {site : Nat} {dst : Option Tmp} {K : St → Prop} {ret : AV} {mem' : List Row} (hS : aV P f (args.map (bq [] fun _ => none)) [] ret mem') (hl : mem'.length ≤ 16)
  (hs : ∀ j, j < mem'.length → st.rows (site + j) = none) (hK : K (({ st with rows := ao st.rows site (mem'.map (Row.ren (mId [] site))) } : St).put dst (fg (mId [] site) ret))) : tG P f args st site dst K :=
 ⟨_, ret, mem', (fun _ _ h => by cases h), hS, .inl (fun _ => rfl), hl, hs, hK⟩
theorem rr {f : FuncId} {args : List AV} {st : St} {site : Nat} {dst : Option Tmp} {K : St → Prop} {ret : AV} {mem' : List Row} (hS : aV P f (args.map (bq [] st.rows)) [] ret mem') (hf : Free ret ∧ ∀ r ∈ mem', ∀ c ∈ r.cells, Free c) (hl : mem'.length ≤ 16)
  (hs : ∀ j, j < mem'.length → st.rows (site + j) = none) (hK : K (({ st with rows := ao st.rows site (mem'.map (Row.ren (mId [] site))) } : St).put dst (fg (mId [] site) ret))) : tG P f args st site dst K :=
 ⟨_, ret, mem', fun _ _ h => h, hS, .inr hf, hl, hs, hK⟩
theorem Hr (A B : Prop) : gK true true A B = A := by simp [gK]
theorem Hs (A B : Prop) : gK true false A B = B := by simp [gK]
theorem Ht (A B : Prop) : gK false true A B = B := by simp [gK]
theorem Hu (A B : Prop) : gK false false A B = A := by simp [gK]
end
section
variable (P : Program) (BR : Nat → Bool) (ops : List Oper) (bs i : Nat) (o : Oper) (l : List Oper) (st : St) (K : St → Prop)
def rV (x : Option AV) : Prop := qe x fun v => dx P BR ops bs (i + 1) l (st.put o.dst v) K
def rF (x : Option Row) (v : AV) (r : Row) : Prop := x = none ∧ dx P BR ops bs (i + 1) l (({ st with rows := upd st.rows (bs + 16 * i) (some r) } : St).put o.dst v) K
def rM (x : Option (AV × Option Row)) : Prop := qe x fun v => (match v.2 with | some r => st.rows (bs + 16 * i) = none ∧ dx P BR ops bs (i + 1) l (({ st with rows := upd st.rows (bs + 16 * i) (some r) } : St).put o.dst v.1) K | none => dx P BR ops bs (i + 1) l (st.put o.dst v.1) K)
def rW (x : Option (AV × (Nat → Option Row))) : Prop := qe x fun v => dx P BR ops bs (i + 1) l (({ st with rows := v.2 } : St).put o.dst v.1) K
def rC (f : FuncId) (args : List AV) (dst : Option Tmp) : Prop := tG P f args st (bs + 16 * i) dst fun st' => dx P BR ops bs (i + 1) l st' K
def rR (f : FuncId) (args : List AV) (dst : Option Tmp) : Prop := Ar P f args st (bs + 16 * i) dst fun st' => dx P BR ops bs (i + 1) l st' K
def rN (v : AV) (args : List AV) (dst : Option Tmp) : Prop := fnK P v args st (bs + 16 * i) dst fun st' => dx P BR ops bs (i + 1) l st' K
def rO (c : Nat) : Prop := match c with
 | 0 => rV P BR ops bs i o l st K (dE P st.ev o.op)
 | 1 => rM P BR ops bs i o l st K (aMk P (FZ BR (bs + 16 * i)) (bs + 16 * i) st.ev st.rows o.op)
 | 2 => match o.op with
  | .call c => match c.callee with
   | .value (.func f) => rC P BR ops bs i l st K f (evL st c.args.toList) o.dst
   | _ => False
  | _ => False
 | 3 => rW P BR ops bs i o l st K (pS (aWr P (bs + 16 * i) st.ev st.rows o.op) (FZ BR (bs + 16 * i)))
 | 4 => match o.op with
  | .call c => match c.callee with
   | .value (.func f) => rR P BR ops bs i l st K f (evL st c.args.toList) o.dst
   | _ => False
  | _ => False
 | 6 => match o.op with
  | .call c => match c.callee with
   | .value (.tmp t) => rN P BR ops bs i l st K (st.tmps t) (evL st c.args.toList) o.dst
   | _ => False
  | _ => False
 | _ => False
def rK (b want : Bool) : Prop := gK b want (rO P BR ops bs i o l st K (cls BR o.op)) (dx P BR ops bs (i + 1) l (st.put o.dst (.tup [])) K)
def rA (a : AV) (want : Bool) : Prop := match a with
 | .bool b => rK P BR ops bs i o l st K b want
 | .tup [] => dx P BR ops bs (i + 1) l (st.put o.dst (.tup [])) K
 | _ => False
def rB (t : Option Tmp) (want : Bool) : Prop := match t with
 | some t => rA P BR ops bs i o l st K (st.tmps t) want
 | none => False
def rG (g : Option (Nat × Bool)) : Prop := match g with
 | none => rO P BR ops bs i o l st K (cls BR o.op)
 | some (j, want) => rB P BR ops bs i o l st K ((ops[j]?).bind (·.dst)) want
theorem Aw : dx P BR ops bs i [] st K = K st := (rfl)
theorem yI : dx P BR ops bs i (o :: l) st K = rG P BR ops bs i o l st K o.guard := (rfl)
theorem E3 : rG P BR ops bs i o l st K none = rO P BR ops bs i o l st K (cls BR o.op) := (rfl)
theorem E4 (j : Nat) (want : Bool) : rG P BR ops bs i o l st K (some (j, want)) = rB P BR ops bs i o l st K ((ops[j]?).bind (·.dst)) want := (rfl)
theorem E5 (t : Tmp) (want : Bool) : rB P BR ops bs i o l st K (some t) want = rA P BR ops bs i o l st K (st.tmps t) want := (rfl)
theorem E6 (b want : Bool) : rA P BR ops bs i o l st K (.bool b) want = rK P BR ops bs i o l st K b want := (rfl)
theorem IP (want : Bool) : rA P BR ops bs i o l st K (.tup []) want = dx P BR ops bs (i + 1) l (st.put o.dst (.tup [])) K := (rfl)
theorem K8 : rK P BR ops bs i o l st K true true = rO P BR ops bs i o l st K (cls BR o.op) := Hr _ _
theorem K9 : rK P BR ops bs i o l st K false false = rO P BR ops bs i o l st K (cls BR o.op) := Hu _ _
theorem KA : rK P BR ops bs i o l st K true false = dx P BR ops bs (i + 1) l (st.put o.dst (.tup [])) K := Hs _ _
theorem KB : rK P BR ops bs i o l st K false true = dx P BR ops bs (i + 1) l (st.put o.dst (.tup [])) K := Ht _ _
theorem Li : rO P BR ops bs i o l st K 0 = rV P BR ops bs i o l st K (dE P st.ev o.op) := (rfl)
theorem Lj : rO P BR ops bs i o l st K 1 = rM P BR ops bs i o l st K (aMk P (FZ BR (bs + 16 * i)) (bs + 16 * i) st.ev st.rows o.op) := (rfl)
theorem Lk : rO P BR ops bs i o l st K 3 = rW P BR ops bs i o l st K (pS (aWr P (bs + 16 * i) st.ev st.rows o.op) (FZ BR (bs + 16 * i))) := (rfl)
theorem Ll (d : Option Tmp) (f : FuncId) (args : Array Operand) (tys : Array TypeId) (t : TypeId) (p : String) (af : Array Edge) (g : Option (Nat × Bool)) :
  rO P BR ops bs i ⟨d, .call ⟨.value (.func f), args, tys⟩, t, p, af, g⟩ l st K 2 = rC P BR ops bs i l st K f (evL st args.toList) d := (rfl)
theorem Lm (d : Option Tmp) (f : FuncId) (args : Array Operand) (tys : Array TypeId) (t : TypeId) (p : String) (af : Array Edge) (g : Option (Nat × Bool)) :
  rO P BR ops bs i ⟨d, .call ⟨.value (.func f), args, tys⟩, t, p, af, g⟩ l st K 4 = rR P BR ops bs i l st K f (evL st args.toList) d := (rfl)
theorem Ln (d : Option Tmp) (t' : Tmp) (args : Array Operand) (tys : Array TypeId) (t : TypeId) (p : String) (af : Array Edge) (g : Option (Nat × Bool)) :
  rO P BR ops bs i ⟨d, .call ⟨.value (.tmp t'), args, tys⟩, t, p, af, g⟩ l st K 6 = rN P BR ops bs i l st K (st.tmps t') (evL st args.toList) d := (rfl)
theorem KC (f : FuncId) (ps : List Nat) (args : List AV) (d : Option Tmp) : rN P BR ops bs i l st K (.fn f ps) args d = rR P BR ops bs i l st K f (args ++ ps.map fun s => AV.ptr s 0) d := (rfl)
theorem E7 (v : AV) : rV P BR ops bs i o l st K (some v) = dx P BR ops bs (i + 1) l (st.put o.dst v) K := (rfl)
theorem E8 (v : AV) : rM P BR ops bs i o l st K (some (v, none)) = dx P BR ops bs (i + 1) l (st.put o.dst v) K := (rfl)
theorem E9 (v : AV) (r : Row) : rM P BR ops bs i o l st K (some (v, some r)) = rF P BR ops bs i o l st K (st.rows (bs + 16 * i)) v r := (rfl)
theorem EA (v : AV) (r : Row) : rF P BR ops bs i o l st K none v r = dx P BR ops bs (i + 1) l (({ st with rows := upd st.rows (bs + 16 * i) (some r) } : St).put o.dst v) K := by simp [rF]
theorem EC (v : AV) (rows : Nat → Option Row) : rW P BR ops bs i o l st K (some (v, rows)) = dx P BR ops bs (i + 1) l (({ st with rows := rows } : St).put o.dst v) K := (rfl)
end
def BRx (B : Nat → Bool) (l : List Nat) (f : Nat) : Bool := B f || l.contains f
theorem IQ (B : Nat → Bool) (l : List Nat) (f : Nat) : BRx B l f = (B f || l.contains f) := (rfl)
theorem Lo (B : Nat → Bool) (l : List Nat) (n : Nat) : FZ (BRx B l) n = (FZ B n || l.contains (1000000 + n)) := (rfl)
theorem St.put_some (T : Nat → AV) (R : Nat → Option Row) (b : Nat) (d : Tmp) (v : AV) : (St.mk T R b).put (some d) v = St.mk (upd T d v) R b := (rfl)
theorem St.put_none (st : St) (v : AV) : st.put none v = st := (rfl)
theorem IR (T : Nat → AV) (R : Nat → Option Row) (b : Nat) (t : Tmp) : (St.mk T R b).ev (.tmp t) = T t := (rfl)
theorem Ax (st : St) (v : Value) : st.ev (.const v) = ofV v := (rfl)
section
variable {P : Program} {BR : Nat → Bool} {ops : List Oper} {C : Ctx} {st : St} {Q : Exit → St → Prop}
variable {bs i : Nat} {l : List Oper} {K : St → Prop} {f : FuncId} {args : List AV} {dst : Option Tmp} {ret : AV} {mem' : List Row}
theorem Ay (hS : aV P f (args.map (bq [] fun _ => none)) [] ret mem') (hl : mem'.length ≤ 16)
  (hs : ∀ j, j < mem'.length → st.rows (bs + 16 * i + j) = none) (hK : dx P BR ops bs (i + 1) l (({ st with rows := ao st.rows (bs + 16 * i) (mem'.map (Row.ren (mId [] (bs + 16 * i)))) } : St).put dst (fg (mId [] (bs + 16 * i)) ret)) K) : rC P BR ops bs i l st K f args dst := uw hS hl hs hK
theorem ED (hS : aV P f (args.map (bq [] st.rows)) [] ret mem') (hf : Free ret ∧ ∀ r ∈ mem', ∀ c ∈ r.cells, Free c) (hl : mem'.length ≤ 16)
  (hs : ∀ j, j < mem'.length → st.rows (bs + 16 * i + j) = none) (hK : dx P BR ops bs (i + 1) l (({ st with rows := ao st.rows (bs + 16 * i) (mem'.map (Row.ren (mId [] (bs + 16 * i)))) } : St).put dst (fg (mId [] (bs + 16 * i)) ret)) K) : rC P BR ops bs i l st K f args dst := rr hS hf hl hs hK
end
section
variable {P : Program} {BR : Nat → Bool} {ops : List Oper} {C : Ctx} {Q : Exit → St → Prop} {T : Nat → AV} {R : Nat → Option Row} {b : Nat}
theorem KD {id : Nat} {draw : Bool} {y : Code} (hm : P.follows .mixedOrders = true) (hN : mp C.N ops.toArray = true) (hB : (!draw || rE BR ops.toArray) = true)
  (h : ∀ K : St → Prop, (∀ T' R' b', AW P C y (St.mk T' R' (b + 1024)) Q → K (St.mk T' R' b')) → dx P BR ops b 0 ops (St.mk T R b) K) : AW P C (.seq (.region id ops.toArray draw) y) (St.mk T R b) Q :=
 aH fun M ρ a w hR => by
  have := h (fun st' => AW P C y (St.mk st'.tmps st'.rows (b + 1024)) Q) (fun T' R' b' h => h)
  refine Av (BR := BR) (Q := pC (fun st' => AW P C y (St.mk st'.tmps st'.rows (b + 1024)) Q) Q) hm hN hB this M ρ a w hR |> Code.wp_mono ?_
  rintro e a' w' ⟨st', M', ρ', h1, h2⟩
  cases e with
  | normal => exact ⟨St.mk st'.tmps st'.rows (b + 1024), M', ρ', h1, h2.next _⟩
  | _ => exact ⟨st', M', ρ', h1, h2⟩
theorem xM {id : Nat} {draw : Bool} (hm : P.follows .mixedOrders = true) (hN : mp C.N ops.toArray = true) (hB : (!draw || rE BR ops.toArray) = true)
  (h : ∀ K : St → Prop, (∀ T' R' b', Q .normal (St.mk T' R' (b + 1024)) → K (St.mk T' R' b')) → dx P BR ops b 0 ops (St.mk T R b) K) : AW P C (.region id ops.toArray draw) (St.mk T R b) Q := fun M ρ a w hR => by
 have := h (fun st' => Q .normal (St.mk st'.tmps st'.rows (b + 1024))) (fun T' R' b' h => h)
 refine Av (BR := BR) (Q := pC (fun st' => Q .normal (St.mk st'.tmps st'.rows (b + 1024))) Q) hm hN hB this M ρ a w hR |> Code.wp_mono ?_
 rintro e a' w' ⟨st', M', ρ', h1, h2⟩
 cases e with
 | normal => exact ⟨St.mk st'.tmps st'.rows (b + 1024), M', ρ', h1, h2.next _⟩
 | _ => exact ⟨st', M', ρ', h1, h2⟩
def xN (a : AV) (A B : Prop) : Prop := match a with
 | .bool b => (b = true → A) ∧ (b = false → B)
 | _ => False
theorem ae {c : Operand} {x y : Code} {st : St} {a : AV} (hc : st.ev c = a) (h : xN a (AW P C x st Q) (AW P C y st Q)) : AW P C (.cond c x y) st Q := by
 unfold xN at h
 split at h
 ·exact Dy hc h.1 h.2
 ·exact h.elim
theorem ru {A B : Prop} (h : A) : xN (.bool true) A B := ⟨fun _ => h, fun e => by cases e⟩
def Az (P : Program) (st : St) (l : List ResultVar) (k : Nat) (ids : List Nat) (ret : AV) (mem' : List Row) : Prop := match rH P st l with
 | some rs => ret = il ids (ts rs) ∧ mem' = ids.map (bT ids (fun _ => none) st.rows)
 | none => False
theorem KE {fn : Func} {st : St} {k : Nat} (ids : List Nat) {ret : AV} {mem' : List Row} {e : Exit} (he : e = .normal ∨ e = .ret) (hnd : ids.Nodup) (hk : ∀ j, j < k → ids[j]? = some j) (h : Az P st fn.results.toList k ids ret mem') : (e = .normal ∨ e = .ret) ∧ yH P fn k ret mem' st := by
 unfold Az at h
 split at h
 ·rename_i rs hrs
  exact ⟨he, rs, ids, hrs, hnd, hk, h.1, h.2⟩
 ·exact h.elim
end
def ux : AV → Option Value
 | .int k n => some (.int k n)
 | .bool b => some (.bool b)
 | .str s => some (.string s)
 | _ => none
def uy : List AV → Option (List Value)
 | [] => some []
 | c :: cs => match ux c, uy cs with
  | some v, some vs => some (v :: vs)
  | _, _ => none
def EE : AV → Option Value
 | .agg cs => match uy cs with
  | some vs => some (.agg vs.toArray)
  | none => none
 | a => ux a
theorem tH {M : Imm} {ρ : Plc} {a : AV} {u v : Value} (h : ux a = some u) (hv : VR M ρ a v) : v = u := by
 cases a <;> simp only [ux] at h <;> first | (cases h; done) | skip
 all_goals injection h with h; subst h
 ·exact hv.int_inv
 ·exact hv.bool_inv
 ·cases hv with
  | plain h => cases h; rfl
theorem tI {M : Imm} {ρ : Plc} : ∀ {cs : List AV} {us : List Value} {vs : List Value}, uy cs = some us → cs.length = vs.length → (∀ (i : Nat) (c : AV) (u : Value), cs[i]? = some c → vs[i]? = some u → VR M ρ c u) → vs = us
 | [], us, vs, h, hl, _ => by
  simp only [uy, Option.some.injEq] at h
  subst h
  exact List.eq_nil_of_length_eq_zero (by simpa using hl.symm)
 | c :: cs, us, [], h, hl, _ => by simp at hl
 | c :: cs, us, v :: vs, h, hl, hv => by
  simp only [uy] at h
  split at h
  ·rename_i x xs hx hxs
   injection h with h; subst h
   rw [tH hx (hv 0 c v rfl rfl), tI (vs := vs) hxs (by simpa using hl) (fun i c' u hc hu => hv (i + 1) c' u (by simpa using hc) (by simpa using hu))]
  ·cases h
theorem B4 {M : Imm} {ρ : Plc} {a : AV} {u v : Value} (h : EE a = some u) (hv : VR M ρ a v) : v = u := by
 by_cases hag : ∃ cs, a = .agg cs
 ·obtain ⟨cs, rfl⟩ := hag
  simp only [EE] at h
  split at h
  ·rename_i us hus
   injection h with h; subst h
   obtain ⟨vs, rfl, hl, h1, h2⟩ := hv.agg_inv
   have := tI (vs := vs.toList) hus (by simpa using hl) (fun i c u hc hu => h2 i c u hc (by simpa using hu))
   rw [← this]
  ·cases h
 ·have e : EE a = ux a := by cases a <;> first | rfl | exact absurd ⟨_, rfl⟩ hag
  rw [e] at h
  exact tH h hv
def uz : List AV → Option (List Value)
 | [] => some []
 | c :: cs => match EE c, uz cs with
  | some v, some vs => some (v :: vs)
  | _, _ => none
theorem tJ {M : Imm} {ρ : Plc} : ∀ {cs : List AV} {us : List Value} {vs : List Value}, uz cs = some us → cs.length = vs.length → (∀ (i : Nat) (c : AV) (u : Value), cs[i]? = some c → vs[i]? = some u → VR M ρ c u) → vs = us
 | [], us, vs, h, hl, _ => by
  simp only [uz, Option.some.injEq] at h
  subst h
  exact List.eq_nil_of_length_eq_zero (by simpa using hl.symm)
 | c :: cs, us, [], h, hl, _ => by simp at hl
 | c :: cs, us, v :: vs, h, hl, hv => by
  simp only [uz] at h
  split at h
  ·rename_i x xs hx hxs
   injection h with h; subst h
   rw [B4 hx (hv 0 c v rfl rfl), tJ (vs := vs) hxs (by simpa using hl) (fun i c' u hc hu => hv (i + 1) c' u (by simpa using hc) (by simpa using hu))]
  ·cases h
theorem yJ {P : Program} {f : FuncId} {args : List AV} {vals : List Value} {ret : AV} {v : Value} (hc : ig P f = true) (hs : uz args = some vals) (hr : ∀ (M : Imm) (ρ : Plc), VR M ρ ret v)
  (h : ∀ w, Calls P f vals.toArray w fun e w' => e = .returned v ∧ Below w.heap.size w w') : aV P f args [] ret [] := by
 refine ⟨hc, fun M ρ w vs hmr hρ hlen hvs => ?_⟩
 have e : vs.toList = vals := tJ hs (by simpa using hlen) (fun i c u hc hu => hvs i c u hc (by simpa using hu))
 have e' : vs = vals.toArray := by rw [← e]
 rw [e']
 refine (h w).mono fun e w' ⟨he, hb⟩ => ⟨v, M, ρ, he, Imm.le_refl _, Plc.le_refl _, hmr.same fun b hb' => hb.block b hb', hρ, hr M ρ, Below.chg hb _, fun _ _ _ => rfl, fun s r x hs => by simp [bd] at hs⟩
def mkT : List (Nat × AV) → (Nat → AV)
 | [] => fun _ => .top
 | (k, v) :: l => upd (mkT l) k v
def mkR : List (Nat × Row) → (Nat → Option Row)
 | [] => fun _ => none
 | (k, r) :: l => upd (mkR l) k (some r)
section
variable {P : Program} {C : Ctx} {Q : Exit → St → Prop} {st : St}
theorem IS {x y : Code} (J : St → Prop) (h1 : AW P C x st (pC (fun st' => ∃ S, J S ∧ Le C st' S) Q)) (h2 : ∀ S, J S → AW P C y S Q) : AW P C (.seq x y) st Q :=
 aH (xL h1 fun e s h => by
   cases e with
   | normal =>
     obtain ⟨S, hJ, hL⟩ := h
     exact bZ hL (h2 S hJ)
   | _ => exact h)
end
abbrev bL := Nat → Option (Option Nat)
def lk : List (Nat × Option Nat) → bL
 | [], _ => none
 | (k, v) :: l, s => if s = k then some v else lk l s
def fz1 (F : Nat → Option Row) : Option Row → List AV → Prop
 | some (.row _ _ cs), cs' => cs = cs'
 | some (.tab _ _ cs), cs' => cs.map (fj [] F) = cs'
 | _, _ => False
def cvP (g : bL) : List Nat → List Nat → Prop
 | [], [] => True
 | s :: l, s' :: l' => g s' = some (some s) ∧ cvP g l l'
 | _, _ => False
theorem tt {g : bL} : ∀ {ps ps' : List Nat}, cvP g ps ps' → ps.length = ps'.length ∧ ∀ (i s' : Nat), ps'[i]? = some s' → ∃ s, ps[i]? = some s ∧ g s' = some (some s)
 | [], [], _ => ⟨rfl, fun i s h => by simp at h⟩
 | s :: l, s' :: l', h => by
  obtain ⟨h1, h2⟩ := tt h.2
  refine ⟨by simp [h1], fun i q hq => ?_⟩
  cases i with
  | zero => simp only [List.getElem?_cons_zero, Option.some.injEq] at hq; subst hq; exact ⟨s, rfl, h.1⟩
  | succ i => exact h2 i q (by simpa using hq)
 | [], _ :: _, h => h.elim
 | _ :: _, [], h => h.elim
def cv1 (g : bL) (F : Nat → Option Row) : AV → AV → Prop
 | _, .top => True
 | .own s n, .own s' n' => g s' = some (some s) ∧ n = n'
 | .nil, .own s' n' => g s' = some none ∧ n' = 0
 | .ptr s o, .ptr s' o' => g s' = some (some s) ∧ o = o'
 | .sl cs n, .sl cs' n' => cs = cs' ∧ n = n'
 | .nil, .sl cs' n' => cs' = [] ∧ n' = 0
 | .own s n, .sl cs' n' => fz1 F (F s) cs' ∧ n = n'
 | .int k n, .int k' n' => k = k' ∧ n = n'
 | .bool b, .bool b' => b = b'
 | .str s, .str s' => s = s'
 | .nil, .nil => True
 | .eptr cs, .eptr cs' => cs = cs'
 | .fn f ps, .fn f' ps' => f = f' ∧ cvP g ps ps'
 | _, _ => False
def cvL (g : bL) (F : Nat → Option Row) : List AV → List AV → Prop
 | [], [] => True
 | c :: cs, c' :: cs' => cv1 g F c c' ∧ cvL g F cs cs'
 | _, _ => False
def cvV (g : bL) (F : Nat → Option Row) : AV → AV → Prop
 | .agg cs, .agg cs' => cvL g F cs cs'
 | a, a' => cv1 g F a a'
def cvT (g : bL) (F : Nat → Option Row) : List AV → List AV → Prop
 | [], [] => True
 | c :: cs, c' :: cs' => cvV g F c c' ∧ cvT g F cs cs'
 | _, _ => False
def cvW (g : bL) (F : Nat → Option Row) : AV → AV → Prop
 | .tup cs, .tup cs' => cvT g F cs cs'
 | a, a' => cvV g F a a'
def cvR (g : bL) (F : Nat → Option Row) : Row → Row → Prop
 | .box T cs, .box T' cs' => T = T' ∧ cvL g F cs cs'
 | .row E sz cs, .row E' sz' cs' => E = E' ∧ sz = sz' ∧ cs = cs'
 | .tab E sz cs, .tab E' sz' cs' => E = E' ∧ sz = sz' ∧ cvL g F cs cs'
 | .row E sz cs, .tab E' sz' cs' => E = E' ∧ sz = sz' ∧ cvL g F cs cs'
 | _, .gone => True
 | _, _ => False
def B5 (g : bL) (F : Nat → Option Row) : Option Row → Row → Prop
 | some r, r' => cvR g F r r'
 | none, .gone => True
 | none, _ => False
def tu (g : bL) (F R : Nat → Option Row) : Option (Option Nat) → Row → Prop
 | some (some s), r' => B5 g F (R s) r'
 | some none, .row _ _ cs => cs = []
 | some none, .tab _ _ cs => cs = []
 | _, .gone => True
 | _, _ => False
def leT (g : bL) (F : Nat → Option Row) (T : Nat → AV) : List (Nat × AV) → Prop
 | [] => True
 | (k, v) :: l => cvW g F (T k) v ∧ leT g F T l
def leR (g : bL) (F R : Nat → Option Row) : List (Nat × Row) → Prop
 | [] => True
 | (k, r) :: l => tu g F R (g k) r ∧ leR g F R l
def fzF (fz : List Nat) (R : Nat → Option Row) : Nat → Option Row := fun s => match fz.contains s with | true => R s | false => none
def qD : List (Nat × Option Nat) → List Nat
 | [] => []
 | (_, some s) :: l => s :: qD l
 | (_, none) :: l => qD l
def sk : List Nat → Bool
 | [] => true
 | a :: l => !l.contains a && sk l
def upB : Nat → (Nat → Bool) → Bool
 | 0, _ => true
 | n + 1, f => f n && upB n f
def EG (j : Nat) : Option (Option Nat) → Bool
 | some (some s) => s == j
 | _ => false
def EH (ks : List (Nat × Bool)) (s : Nat) : Bool := ks.any fun p => p.1 == s && p.2
def gOK (k : Nat) (G : List (Nat × Option Nat)) (fz : List Nat) (ks : List (Nat × Bool)) : Bool :=
 upB k (fun j => EG j (lk G j)) && sk (qD (G.filter fun p => EH ks p.1)) && sk (G.map (·.1)) && (qD (G.filter fun p => EH ks p.1)).all (fun s => !fz.contains s) && (G.map (·.1)).all (fun s => ks.any fun p => p.1 == s)
theorem pD : ∀ {lr : List (Nat × Row)} {s : Nat} {r : Row}, mkR lr s = some r → r.solid = true → EH (lr.map fun x => (x.1, x.2.solid)) s = true
 | [], _, _, h, _ => by cases h
 | (k, q) :: l, s, r, h, hs => by
  simp only [mkR] at h
  unfold EH
  simp only [List.map_cons, List.any_cons, Bool.or_eq_true, Bool.and_eq_true, beq_iff_eq]
  by_cases e : s = k
  ·subst e
   rw [ai] at h; injection h with h; subst h
   exact .inl ⟨rfl, hs⟩
  ·rw [au _ _ e] at h
   exact .inr (pD h hs)
theorem o4 : ∀ {n : Nat} {f : Nat → Bool}, upB n f = true → ∀ j, j < n → f j = true
 | 0, _, _, j, h => by omega
 | n + 1, f, h, j, hj => by
  simp only [upB, Bool.and_eq_true] at h
  by_cases e : j = n
  ·subst e; exact h.1
  ·exact o4 h.2 j (by omega)
theorem iN : ∀ {l : List Nat}, sk l = true → l.Nodup
 | [], _ => List.nodup_nil
 | a :: l, h => by
  simp only [sk, Bool.and_eq_true, Bool.not_eq_true', List.contains_eq_mem, decide_eq_false_iff_not] at h
  exact List.nodup_cons.2 ⟨h.1, iN h.2⟩
theorem gi : ∀ {G : List (Nat × Option Nat)} {s : Nat} {v : Option Nat}, lk G s = some v → (s, v) ∈ G
 | [], s, v, h => by cases h
 | (k, u) :: l, s, v, h => by
  simp only [lk] at h
  split at h
  ·rename_i e
   injection h with h
   subst e h
   simp
  ·exact List.mem_cons_of_mem _ (gi h)
theorem gp : ∀ {G : List (Nat × Option Nat)} {s s' : Nat}, (s, some s') ∈ G → s' ∈ qD G
 | [], _, _, h => by cases h
 | (k, some u) :: l, s, s', h => by
  simp only [qD]
  rcases List.mem_cons.1 h with h | h
  ·injection h with _ h; injection h with h; subst h; simp
  ·exact List.mem_cons_of_mem _ (gp h)
 | (k, none) :: l, s, s', h => by
  simp only [qD]
  rcases List.mem_cons.1 h with h | h
  ·injection h with _ h; cases h
  ·exact gp h
theorem o5 : ∀ {G : List (Nat × Option Nat)} {s t u : Nat}, (qD G).Nodup → (s, some u) ∈ G → (t, some u) ∈ G → s = t
 | [], _, _, _, _, h, _ => by cases h
 | (k, none) :: l, s, t, u, hn, h1, h2 => by
  rcases List.mem_cons.1 h1 with h1 | h1
  ·injection h1 with _ h1; cases h1
  rcases List.mem_cons.1 h2 with h2 | h2
  ·injection h2 with _ h2; cases h2
  exact o5 (G := l) hn h1 h2
 | (k, some v) :: l, s, t, u, hn, h1, h2 => by
  simp only [qD] at hn
  obtain ⟨n1, n2⟩ := List.nodup_cons.1 hn
  rcases List.mem_cons.1 h1 with q1 | q1
  ·injection q1 with a1 b1; injection b1 with b1; subst b1
   rcases List.mem_cons.1 h2 with q2 | q2
   ·injection q2 with a2 b2; rw [a1, a2]
   ·exact absurd (gp (G := l) q2) n1
  ·rcases List.mem_cons.1 h2 with q2 | q2
   ·injection q2 with a2 b2; injection b2 with b2; subst b2
    exact absurd (gp (G := l) q1) n1
   ·exact o5 n2 q1 q2
def pa (g : bL) (ρ : Plc) : Plc := fun s => match g s with | some (some s0) => ρ s0 | some none => some ⟨0, 0, 0, true⟩ | none => none
section
variable {C : Ctx} {T : Nat → AV} {R : Nat → Option Row} {b : Nat} {M : Imm} {ρ : Plc} {a : Act} {w : World}
theorem gq {g : bL} {s s' : Nat} (h : g s' = some (some s)) : pa g ρ s' = ρ s := by unfold pa; rw [h]
theorem lg {g : bL} {s' : Nat} (h : g s' = some none) : pa g ρ s' = some ⟨0, 0, 0, true⟩ := by unfold pa; rw [h]
theorem qE (h : Rel C M ρ ⟨T, R, b⟩ a w) (fz : List Nat) : M.le (lentM M ρ (fzF fz R) [] w) := by
 intro b o v hM
 unfold lentM
 rw [if_neg]
 ·exact hM
 ·rintro ⟨s, cs, x, ⟨E, sz, h1⟩, h2, h3, hn, h4, h5⟩
  rcases h1 with h1 | h1
  ·have h1' : R s = some (.row E sz cs) := by
    unfold fzF at h1; split at h1
    ·exact h1
    ·cases h1
   exact h.mr.apt b o v s _ x hM h1' rfl h3 hn h4
  ·have h1' : R s = some (.tab E sz cs) := by
    unfold fzF at h1; split at h1
    ·exact h1
    ·cases h1
   exact h.mr.apt b o v s _ x hM h1' rfl h3 hn h4
theorem kL {fz : List Nat} {s : Nat} {r : Row} (h : fzF fz R s = some r) : R s = some r ∧ s ∈ fz := by
 unfold fzF at h
 split at h
 ·rename_i hc; exact ⟨h, by simpa using hc⟩
 ·cases h
theorem fzL {fz : List Nat} {s : Nat} {cs : List AV} (h : Lnt (fzF fz R) s cs) : ∃ r, R s = some r ∧ r.solid = true ∧ s ∈ fz := by
 obtain ⟨E, sz, h | h⟩ := h
 ·exact ⟨_, (kL h).1, rfl, (kL h).2⟩
 ·exact ⟨_, (kL h).1, rfl, (kL h).2⟩
theorem Hv (h : Rel C M ρ ⟨T, R, b⟩ a w) {fz : List Nat} {s : Nat} {cs : List AV} {x : At} (hl : Lnt (fzF fz R) s cs) (hx : ρ s = some x) (hn : x.nl = false) :
  ∃ (E sz : Nat) (xs : List Value), w.ownsRow 0 E sz (.slice (some ⟨x.g, 0, none⟩) x.n x.cap) x.n xs ∧ cs.length = xs.length ∧ (∀ v ∈ xs, v.oneCell' = true) := by
 obtain ⟨E, sz, hs | hs⟩ := hl
 ·obtain ⟨y, hy, hY⟩ := h.mr.row s _ (kL hs).1 rfl
  rw [hx] at hy; injection hy with hy; subst hy
  rcases hY with ⟨h, _⟩ | ⟨_, xs, a1, a2, a3, _⟩
  ·rw [hn] at h; cases h
  ·exact ⟨E, sz, xs, a1, a2, a3⟩
 ·obtain ⟨y, hy, hY⟩ := h.mr.row s _ (kL hs).1 rfl
  rw [hx] at hy; injection hy with hy; subst hy
  rcases hY with ⟨h, _⟩ | ⟨_, xs, a1, a2, a3, _⟩
  ·rw [hn] at h; cases h
  ·exact ⟨E, sz, xs, a1, a2, a3⟩
theorem B6 {fz : List Nat} {s : Nat} {cs : List AV} {x : At} {xs : List Value} {E sz : Nat} (hl : Lnt (fzF fz R) s cs) (hx : ρ s = some x) (hn : x.nl = false) (h1 : w.ownsRow 0 E sz (.slice (some ⟨x.g, 0, none⟩) x.n x.cap) x.n xs) (h2 : cs.length = xs.length) :
  ∀ i, i < cs.length → lentM M ρ (fzF fz R) [] w x.g i = some (xs.getD i undef) := fun i hi => by
 unfold lentM
 rw [if_pos ⟨s, cs, _, hl, by simp, hx, hn, rfl, hi⟩]
 have hi' : i < xs.length := by omega
 have := World.ownsRow.cells h1 (g := x.g) rfl i _ (List.getElem?_eq_getElem hi')
 rw [dS, Nat.zero_add] at this
 simpa [hi'] using this
theorem B7 {x : At} {xs : List Value} {E sz : Nat} (h1 : w.ownsRow 0 E sz (.slice (some ⟨x.g, 0, none⟩) x.n x.cap) x.n xs) : x.n ≤ x.cap := by
 rcases h1.2 with ⟨hn, _⟩ | ⟨g', cap', cur, hvv, hb, hg, hcap, _⟩
 ·cases hn
 ·injection hvv with _ _ q3; omega
theorem xO {cs : List AV} {i : Nat} {c : AV} (hc : cs[i]? = some c) : i < cs.length := by
 rcases Nat.lt_or_ge i cs.length with h' | h'
 ·exact h'
 ·rw [List.getElem?_eq_none h'] at hc; cases hc
theorem tK (h : Rel C M ρ ⟨T, R, b⟩ a w) (fz : List Nat) {s n E sz : Nat} {cs : List AV} {v : Value} (hv : VR M ρ (.own s n) v) (hF : fzF fz R s = some (.row E sz cs)) : PV (lentM M ρ (fzF fz R) [] w) (.sl cs n) v := by
 have hrow := (kL hF).1
 obtain ⟨y, hy, hY⟩ := h.mr.row s _ hrow rfl
 have hle := qE h fz
 obtain ⟨g, cap, ⟨hs, rfl⟩ | ⟨hs, hn0, rfl⟩⟩ := hv.own_inv
 ·rw [hs] at hy; injection hy with hy; subst hy
  rcases hY with ⟨hn, _⟩ | ⟨_, xs, h1, h2, h3, h4⟩
  ·cases hn
  refine .sl cs n _ cap g 0 (fun i => xs.getD i undef) (fun _ => rfl) (B7 h1) (fun i c hc => ?_) (fun i c hc => ?_)
  ·rw [Nat.zero_add]; exact B6 ⟨_, _, .inl hF⟩ hs rfl h1 h2 i (xO hc)
  ·have hi' : i < xs.length := by have := xO hc; omega
   have := (h4 i c _ hc (List.getElem?_eq_getElem hi')).mono hle
   simpa [hi'] using this
 ·rw [hs] at hy; injection hy with hy; subst hy
  rcases hY with ⟨_, rfl, _⟩ | ⟨hn, _⟩
  ·subst hn0
   exact .sl [] 0 none 0 0 0 (fun _ => undef) (fun h => by omega) (Nat.le_refl _) (fun i c hc => by simp at hc) (fun i c hc => by simp at hc)
  ·cases hn
theorem yM (h : Rel C M ρ ⟨T, R, b⟩ a w) (fz : List Nat) {s n E sz : Nat} {cs : List AV} {v : Value} {σ : Plc} (hv : VR M ρ (.own s n) v) (hF : fzF fz R s = some (.row E sz cs)) : VR (lentM M ρ (fzF fz R) [] w) σ (.sl cs n) v := .plain (tK h fz hv hF)
theorem EJ (h : Rel C M ρ ⟨T, R, b⟩ a w) (fz : List Nat) {c : AV} {v : Value} (hv : VR M ρ c v) : PV (lentM M ρ (fzF fz R) [] w) (fj [] (fzF fz R) c) v := by
 have hle := qE h fz
 by_cases hown : ∃ s n, c = .own s n
 ·obtain ⟨s, n, rfl⟩ := hown
  simp only [fj, ge]
  split
  ·rename_i E sz cs hrow
   exact tK h fz hv hrow
  ·exact .top _
 ·cases hv with
  | plain hv =>
   cases hv <;> first
    | exact .top _
    | exact .int ..
    | exact .bool ..
    | exact .str ..
    | exact .nil
    | exact PV.mono hle (.sl _ _ _ _ _ _ _ (by assumption) (by assumption) (by assumption) (by assumption))
    | exact PV.mono hle (.eptr _ _ _ _ (by assumption) (by assumption))
  | own s g n cap h => exact absurd ⟨_, _, rfl⟩ hown
  | ownl s g cap h => exact absurd ⟨_, _, rfl⟩ hown
  | ptr s off x h hx => exact .top _
  | agg => exact .top _
  | tup => exact .top _
  | fn => exact .top _
theorem vy (h : Rel C M ρ ⟨T, R, b⟩ a w) (fz : List Nat) {s n E sz : Nat} {cs : List AV} {v : Value} {σ : Plc} (hv : VR M ρ (.own s n) v) (hF : fzF fz R s = some (.tab E sz cs)) : VR (lentM M ρ (fzF fz R) [] w) σ (.sl (cs.map (fj [] (fzF fz R))) n) v := by
 have hrow := (kL hF).1
 obtain ⟨y, hy, hY⟩ := h.mr.row s _ hrow rfl
 obtain ⟨g, cap, ⟨hs, rfl⟩ | ⟨hs, hn0, rfl⟩⟩ := hv.own_inv
 ·rw [hs] at hy; injection hy with hy; subst hy
  rcases hY with ⟨hn, _⟩ | ⟨_, xs, h1, h2, h3, h4⟩
  ·cases hn
  refine .plain (.sl _ n _ cap g 0 (fun i => xs.getD i undef) (fun _ => rfl) (B7 h1) (fun i c hc => ?_) (fun i c hc => ?_))
  ·rw [Nat.zero_add]
   have hi := xO hc
   rw [List.length_map] at hi
   exact B6 ⟨_, _, .inr hF⟩ hs rfl h1 h2 i hi
  ·rw [List.getElem?_map] at hc
   cases hq : cs[i]? with
   | none => rw [hq] at hc; cases hc
   | some q =>
    rw [hq] at hc; injection hc with hc; subst hc
    have hi' : i < xs.length := by have := xO hq; omega
    have := EJ h fz (h4 i q _ hq (List.getElem?_eq_getElem hi'))
    simpa [hi'] using this
 ·rw [hs] at hy; injection hy with hy; subst hy
  rcases hY with ⟨_, rfl, _⟩ | ⟨hn, _⟩
  ·subst hn0
   exact .plain (.sl [] 0 none 0 0 0 (fun _ => undef) (fun h => by omega) (Nat.le_refl _) (fun i c hc => by simp at hc) (fun i c hc => by simp at hc))
  ·cases hn
theorem o6 (h : Rel C M ρ ⟨T, R, b⟩ a w) (fz : List Nat) {g : bL} {c c' : AV} {v : Value} (hv : VR M ρ c v) (hc : cv1 g (fzF fz R) c c') : VR (lentM M ρ (fzF fz R) [] w) (pa g ρ) c' v := by
 have hle := qE h fz
 unfold cv1 at hc
 split at hc
 ·exact .plain (.top _)
 ·obtain ⟨hg, rfl⟩ := hc
  obtain ⟨g0, cap, ⟨hs, rfl⟩ | ⟨hs, hn0, rfl⟩⟩ := hv.own_inv
  ·exact .own _ g0 _ cap (by rw [gq hg]; exact hs)
  ·subst hn0
   exact .ownl _ g0 cap (by rw [gq hg]; exact hs)
 ·obtain ⟨hg, rfl⟩ := hc
  obtain rfl := hv.nil_inv
  exact .ownl _ 0 0 (lg hg)
 ·obtain ⟨hg, rfl⟩ := hc
  obtain ⟨x, hx, hn, rfl⟩ := hv.ptr_inv
  exact .ptr _ _ x (by rw [gq hg]; exact hx) hn
 ·obtain ⟨rfl, rfl⟩ := hc
  exact .plain (hv.sl_inv.mono hle)
 ·obtain ⟨rfl, rfl⟩ := hc
  obtain rfl := hv.nil_inv
  exact .plain (.sl [] 0 none 0 0 0 (fun _ => undef) (fun h => by omega) (Nat.le_refl _) (fun i c hc => by simp at hc) (fun i c hc => by simp at hc))
 ·obtain ⟨hf, rfl⟩ := hc
  unfold fz1 at hf
  split at hf
  ·rename_i E sz cs hF
   subst hf
   exact yM h fz hv hF
  ·rename_i E sz cs hF
   subst hf
   exact vy h fz hv hF
  ·exact hf.elim
 ·obtain ⟨rfl, rfl⟩ := hc
  obtain rfl := hv.int_inv
  exact .plain (.int ..)
 ·subst hc
  obtain rfl := hv.bool_inv
  exact .plain (.bool ..)
 ·subst hc
  cases hv with
  | plain hv => exact .plain (hv.mono hle)
 ·obtain rfl := hv.nil_inv
  exact .plain .nil
 ·subst hc
  exact .plain (hv.eptr_inv.mono hle)
 ·obtain ⟨rfl, hc⟩ := hc
  obtain ⟨us, rfl, hl, hus⟩ := hv.fn_inv
  obtain ⟨e1, e2⟩ := tt hc
  refine .fn _ _ us (by omega) (fun i s' v hs' hv' => ?_)
  obtain ⟨s, hs, hg⟩ := e2 i s' hs'
  obtain ⟨x, hx, hn, rfl⟩ := (hus i s v hs hv').ptr_inv
  exact .ptr _ _ x (by rw [gq hg]; exact hx) hn
 ·exact hc.elim
theorem hQ {g : bL} {F : Nat → Option Row} : ∀ {cs cs' : List AV}, cvL g F cs cs' → cs.length = cs'.length ∧ ∀ (i : Nat) (c' : AV), cs'[i]? = some c' → ∃ c, cs[i]? = some c ∧ cv1 g F c c'
 | [], [], _ => ⟨rfl, fun i c h => by simp at h⟩
 | c :: cs, c' :: cs', h => by
  obtain ⟨h1, h2⟩ := hQ h.2
  refine ⟨by simp [h1], fun i q hq => ?_⟩
  cases i with
  | zero => simp only [List.getElem?_cons_zero, Option.some.injEq] at hq; subst hq; exact ⟨c, rfl, h.1⟩
  | succ i => exact h2 i q (by simpa using hq)
 | [], _ :: _, h => h.elim
 | _ :: _, [], h => h.elim
theorem B8 (h : Rel C M ρ ⟨T, R, b⟩ a w) (fz : List Nat) {g : bL} {c c' : AV} {v : Value} (hv : VR M ρ c v) (hc : cvV g (fzF fz R) c c') : VR (lentM M ρ (fzF fz R) [] w) (pa g ρ) c' v := by
 unfold cvV at hc
 split at hc
 ·rename_i cs cs'
  obtain ⟨vs, rfl, hl, h1, h2⟩ := hv.agg_inv
  obtain ⟨e1, e2⟩ := hQ hc
  refine .agg _ _ (by omega) h1 (fun i c' u hc' hu => ?_)
  obtain ⟨c, hc, hcc⟩ := e2 i c' hc'
  exact o6 h fz (h2 i c u hc hu) hcc
 ·exact o6 h fz hv hc
theorem xP {g : bL} {F : Nat → Option Row} : ∀ {cs cs' : List AV}, cvT g F cs cs' → cs.length = cs'.length ∧ ∀ (i : Nat) (c' : AV), cs'[i]? = some c' → ∃ c, cs[i]? = some c ∧ cvV g F c c'
 | [], [], _ => ⟨rfl, fun i c h => by simp at h⟩
 | c :: cs, c' :: cs', h => by
  obtain ⟨h1, h2⟩ := xP h.2
  refine ⟨by simp [h1], fun i q hq => ?_⟩
  cases i with
  | zero => simp only [List.getElem?_cons_zero, Option.some.injEq] at hq; subst hq; exact ⟨c, rfl, h.1⟩
  | succ i => exact h2 i q (by simpa using hq)
 | [], _ :: _, h => h.elim
 | _ :: _, [], h => h.elim
theorem B9 (h : Rel C M ρ ⟨T, R, b⟩ a w) (fz : List Nat) {g : bL} {c c' : AV} {v : Value} (hv : VR M ρ c v) (hc : cvW g (fzF fz R) c c') : VR (lentM M ρ (fzF fz R) [] w) (pa g ρ) c' v := by
 unfold cvW at hc
 split at hc
 ·rename_i cs cs'
  obtain ⟨vs, rfl, hl, h2⟩ := hv.tup_inv
  obtain ⟨e1, e2⟩ := xP hc
  refine .tup _ _ (by omega) (fun i c' u hc' hu => ?_)
  obtain ⟨c, hc, hcc⟩ := e2 i c' hc'
  exact B8 h fz (h2 i c u hc hu) hcc
 ·exact B8 h fz hv hc
theorem ra {g : bL} {F : Nat → Option Row} : ∀ {l : List (Nat × AV)}, leT g F T l → ∀ t, mkT l t = .top ∨ cvW g F (T t) (mkT l t)
 | [], _, t => .inl rfl
 | (k, v) :: l, h, t => by
  obtain ⟨h1, h2⟩ := h
  simp only [mkT]
  by_cases e : t = k
  ·subst e; rw [ai]; exact .inr h1
  ·rw [au _ _ e]; exact ra h2 t
theorem rb {g : bL} {F : Nat → Option Row} : ∀ {l : List (Nat × Row)}, leR g F R l → ∀ s r, mkR l s = some r → tu g F R (g s) r
 | [], _, s, r, h => by cases h
 | (k, q) :: l, h, s, r, hs => by
  obtain ⟨h1, h2⟩ := h
  simp only [mkR] at hs
  by_cases e : s = k
  ·subst e; rw [ai] at hs; injection hs with hs; subst hs; exact h1
  ·rw [au _ _ e] at hs; exact rb h2 s r hs
theorem qF : ∀ {l : List (Nat × Row)} {s : Nat}, mkR l s = none → s ∉ l.map (·.1)
 | [], s, _ => by simp
 | (k, q) :: l, s, h => by
  simp only [mkR] at h
  by_cases e : s = k
  ·subst e; rw [ai] at h; cases h
  ·rw [au _ _ e] at h
   simp only [List.map_cons, List.mem_cons, not_or]
   exact ⟨e, qF h⟩
theorem rv {g : bL} {F : Nat → Option Row} {o : Option (Option Nat)} {r' : Row} (h : tu g F R o r') (hs : r'.solid = true) : (∃ s r, o = some (some s) ∧ R s = some r ∧ r.solid = true ∧ cvR g F r r') ∨ (o = some none ∧ ∃ E sz, r' = .row E sz [] ∨ r' = .tab E sz []) := by
 unfold tu at h
 split at h
 ·rename_i s
  unfold B5 at h
  split at h
  ·rename_i r hr
   refine .inl ⟨s, r, rfl, hr, ?_, h⟩
   unfold cvR at h
   split at h
   ·rfl
   ·rfl
   ·rfl
   ·rfl
   ·cases hs
   ·exact h.elim
  ·cases hs
  ·exact h.elim
 ·subst h; exact .inr ⟨rfl, _, _, .inl rfl⟩
 ·subst h; exact .inr ⟨rfl, _, _, .inr rfl⟩
 ·cases hs
 ·exact h.elim
theorem aD {k : Nat} {b' : Nat} {lt : List (Nat × AV)} {lr : List (Nat × Row)} (G : List (Nat × Option Nat)) (fz : List Nat) (hρ : ∀ s, k ≤ s → C.ρ0 s = none) (hG : gOK k G fz (lr.map fun x => (x.1, x.2.solid)) = true)
  (hT : leT (lk G) (fzF fz R) T lt) (hR : leR (lk G) (fzF fz R) R lr) : Le C ⟨T, R, b⟩ ⟨mkT lt, mkR lr, b'⟩ := by
 intro M ρ a w h
 unfold gOK at hG
 simp only [Bool.and_eq_true] at hG
 obtain ⟨⟨⟨⟨g1, g2⟩, g3⟩, g4⟩, g5⟩ := hG
 have hle := qE h fz
 have ginj : ∀ {s t u : Nat} {r r' : Row}, mkR lr s = some r → r.solid = true → mkR lr t = some r' → r'.solid = true → lk G s = some (some u) → lk G t = some (some u) → s = t := fun m1 m2 m3 m4 h1 h2 => o5 (iN g2) (List.mem_filter.2 ⟨gi h1, pD m1 m2⟩) (List.mem_filter.2 ⟨gi h2, pD m3 m4⟩)
 have gfz : ∀ {s u : Nat} {r : Row}, mkR lr s = some r → r.solid = true → lk G s = some (some u) → u ∉ fz := fun m1 m2 h1 => by
  have := List.all_eq_true.1 g4 _ (gp (List.mem_filter.2 ⟨gi h1, pD m1 m2⟩))
  simpa using this
 have sol : ∀ {s r}, mkR lr s = some r → r.solid = true → (∃ s0 r0, lk G s = some (some s0) ∧ R s0 = some r0 ∧ r0.solid = true ∧ cvR (lk G) (fzF fz R) r0 r) ∨ (lk G s = some none ∧ ∃ E sz, r = .row E sz [] ∨ r = .tab E sz []) :=
  fun hr hs => rv (rb hR _ _ hr) hs
 -- rows that lie somewhere come from rows
 have src : ∀ {s r x}, mkR lr s = some r → r.solid = true → pa (lk G) ρ s = some x → x.nl = false → ∃ s0 r0, lk G s = some (some s0) ∧ R s0 = some r0 ∧ r0.solid = true ∧ ρ s0 = some x := by
  intro s r x hr hs hx hn
  rcases sol hr hs with ⟨s0, r0, e1, e2, e3, e4⟩ | ⟨e1, _⟩
  ·rw [gq e1] at hx
   exact ⟨s0, r0, e1, e2, e3, hx⟩
  ·rw [lg e1] at hx; injection hx with hx; subst hx; cases hn
 refine ⟨lentM M ρ (fzF fz R) [] w, pa (lk G) ρ, fun t => ?_, h.N, h.df, ⟨fun s r hs hsol => ?_, fun s s' r r' x x' hs hs' h1 h2 hx hx' hne hn hn' => ?_, fun b o v hM => ?_, fun b o v s r x hM hs hsol hx hn => ?_⟩, h.chg, fun s r x hs hsol hx hn => ?_, Imm.le_trans h.m0 hle, fun s x hs => ?_, fun b hb hD => ?_, fun s hs => ?_⟩
 ·show VR _ (pa (lk G) ρ) (mkT lt t) _
  rcases ra hT t with e | e
  ·rw [e]; exact .plain (.top _)
  ·exact B9 h fz (h.tm t) e
 ·have hs : mkR lr s = some r := hs
  rcases sol hs hsol with ⟨s0, r0, e1, e2, e3, e4⟩ | ⟨e1, E, sz, rfl | rfl⟩
  ·obtain ⟨x, hx, hX⟩ := h.mr.row s0 r0 e2 e3
   refine ⟨x, by rw [gq e1]; exact hx, ?_⟩
   unfold cvR at e4
   split at e4
   ·obtain ⟨rfl, hL⟩ := e4
    obtain ⟨h0, arr, a1, a2, a3, a4⟩ := hX
    obtain ⟨l1, l2⟩ := hQ hL
    refine ⟨h0, arr, a1, by omega, a3, fun i c' v hc hv => ?_⟩
    obtain ⟨c, hc', hcc⟩ := l2 i c' hc
    exact o6 h fz (a4 i c v hc' hv) hcc
   ·obtain ⟨rfl, rfl, rfl⟩ := e4
    rcases hX with hX | ⟨h0, xs, a1, a2, a3, a4⟩
    ·exact .inl hX
    ·exact .inr ⟨h0, xs, a1, a2, a3, fun i c v hc hv => (a4 i c v hc hv).mono hle⟩
   ·obtain ⟨rfl, rfl, hL⟩ := e4
    obtain ⟨l1, l2⟩ := hQ hL
    rcases hX with ⟨a1, a2, a3⟩ | ⟨h0, xs, a1, a2, a3, a4⟩
    ·subst a2
     exact .inl ⟨a1, List.eq_nil_of_length_eq_zero (by simpa using l1.symm), a3⟩
    ·refine .inr ⟨h0, xs, a1, by omega, a3, fun i c' v hc hv => ?_⟩
     obtain ⟨c, hc', hcc⟩ := l2 i c' hc
     exact o6 h fz (a4 i c v hc' hv) hcc
   ·obtain ⟨rfl, rfl, hL⟩ := e4
    obtain ⟨l1, l2⟩ := hQ hL
    rcases hX with ⟨a1, a2, a3⟩ | ⟨h0, xs, a1, a2, a3, a4⟩
    ·subst a2
     exact .inl ⟨a1, List.eq_nil_of_length_eq_zero (by simpa using l1.symm), a3⟩
    ·refine .inr ⟨h0, xs, a1, by omega, a3, fun i c' v hc hv => ?_⟩
     obtain ⟨c, hc', hcc⟩ := l2 i c' hc
     exact o6 h fz (.plain (a4 i c v hc' hv)) hcc
   ·cases hsol
   ·exact e4.elim
  ·exact ⟨_, lg e1, .inl ⟨rfl, rfl, rfl⟩⟩
  ·exact ⟨_, lg e1, .inl ⟨rfl, rfl, rfl⟩⟩
 ·obtain ⟨s0, r0, e1, e2, e3, e4⟩ := src hs h1 hx hn
  obtain ⟨s0', r0', e1', e2', e3', e4'⟩ := src hs' h2 hx' hn'
  refine h.mr.inj s0 s0' r0 r0' x x' e2 e2' e3 e3' e4 e4' (fun e => hne ?_) hn hn'
  subst e
  exact ginj hs h1 hs' h2 e1 e1'
 ·unfold lentM at hM
  split at hM
  ·rename_i hc
   obtain ⟨s, cs, x, h1, h2, h3, hn, h4, h5⟩ := hc
   subst h4
   obtain ⟨_, _, xs, k1, k2, k3⟩ := Hv h h1 h3 hn
   have hi' : o < xs.length := by omega
   have := World.ownsRow.cells k1 (g := x.g) rfl o _ (List.getElem?_eq_getElem hi')
   rw [dS, Nat.zero_add] at this
   rw [this] at hM
   injection hM with hM; subst hM
   exact ⟨this, oc k1 (k3 _ (List.getElem_mem hi'))⟩
  ·exact h.mr.imm b o v hM
 ·obtain ⟨s0, r0, e1, e2, e3, e4⟩ := src hs hsol hx hn
  unfold lentM at hM
  split at hM
  ·rename_i hc
   obtain ⟨s', cs, x', h1, h2, h3, hn', h4, h5⟩ := hc
   subst h4
   obtain ⟨r1, hrow, hsl, hmem⟩ := fzL h1
   exact h.mr.inj s0 s' r0 r1 x x' e2 hrow e3 hsl e4 h3 (fun e => gfz hs hsol e1 (e ▸ hmem)) hn hn'
  ·exact h.mr.apt b o v s0 r0 x hM e2 e3 e4 hn
 ·obtain ⟨s0, r0, e1, e2, e3, e4⟩ := src hs hsol hx hn
  exact h.new s0 r0 x e2 e3 e4 hn
 ·have hlt : s < k := by
   rcases Nat.lt_or_ge s k with h' | h'
   ·exact h'
   ·rw [hρ s h'] at hs; cases hs
  have hg := o4 g1 s hlt
  have hg : lk G s = some (some s) := by
   cases hq : lk G s with
   | none => rw [hq] at hg; cases hg
   | some u =>
    cases u with
    | none => rw [hq] at hg; cases hg
    | some u => rw [hq] at hg; simp only [EG, beq_iff_eq] at hg; rw [hg]
  rw [gq hg]
  exact h.r0 s x hs
 ·have hnone : ¬ ∃ s cs x, Lnt (fzF fz R) s cs ∧ s ∉ ([] : List Nat) ∧ ρ s = some x ∧ x.nl = false ∧ x.g = b := by
   rintro ⟨s, cs, x, h1, h2, h3, hn, rfl⟩
   obtain ⟨r1, hrow, hsl, hmem⟩ := fzL h1
   rcases h.new s r1 x hrow hsl h3 hn with h' | h'
   ·exact hD h'
   ·omega
  rw [← h.mold b hb hD]
  funext o
  unfold lentM
  rw [if_neg]
  rintro ⟨s, cs, x, h1, h2, h3, hn, h4, _⟩
  exact hnone ⟨s, cs, x, h1, h2, h3, hn, h4⟩
 ·have hs : mkR lr s = none := hs
  have hk := qF hs
  unfold pa
  cases hq : lk G s with
  | none => rfl
  | some u =>
   exfalso
   have hm := List.all_eq_true.1 g5 s (List.mem_map.2 ⟨_, gi hq, rfl⟩)
   obtain ⟨p, hp, he⟩ := List.any_eq_true.1 hm
   obtain ⟨x, hx, rfl⟩ := List.mem_map.1 hp
   exact hk (List.mem_map.2 ⟨x, hx, by simpa using he⟩)
end
def pE : Nat → List Row → List (Nat × Row)
 | _, [] => []
 | k, r :: l => (k, r) :: pE (k + 1) l
theorem vA : ∀ (l : List Row) (k s : Nat), mkR (pE k l) s = if k ≤ s then l[s - k]? else none
 | [], k, s => by simp [pE, mkR]
 | r :: l, k, s => by
  simp only [pE, mkR]
  by_cases e : s = k
  ·subst e; rw [ai, if_pos (Nat.le_refl _), Nat.sub_self]; rfl
  ·rw [au _ _ e, vA l (k + 1) s]
   by_cases h : k + 1 ≤ s
   ·rw [if_pos h, if_pos (by omega), show s - k = (s - (k + 1)) + 1 by omega, List.getElem?_cons_succ]
   ·rw [if_neg h, if_neg (by omega)]
theorem aV.can {P : Program} {f : FuncId} {args : List AV} {mem mem' mem2 : List Row} {ret ret2 : AV} (h : aV P f args mem ret mem') (G : List (Nat × Option Nat)) (fz : List Nat)
  (hG : gOK mem.length G fz ((pE 0 mem2).map fun x => (x.1, x.2.solid)) = true) (hT : cvW (lk G) (fzF fz (bd mem')) ret ret2) (hR : leR (lk G) (fzF fz (bd mem')) (bd mem') (pE 0 mem2)) : aV P f args mem ret2 mem2 := by
 refine ⟨h.1, fun M ρ w vs hmr hρ hlen hvs => (h.2 M ρ w vs hmr hρ hlen hvs).mono ?_⟩
 rintro e w' ⟨v, M', ρ', rfl, q1, q2, q3, q4, q5, q6, q7, q8⟩
 let C : Ctx := ⟨w, DOf ρ (bd mem), M, ρ, 1⟩
 have hRel : Rel C M' ρ' ⟨fun t => if t = 0 then ret else .top, bd mem', 0⟩ { tmps := #[v], defers := [] } w' := by
  refine ⟨fun t => ?_, rfl, rfl, q3, q6, q8, q1, q2, q7, fun s hs => ?_⟩
  ·by_cases e : t = 0
   ·subst e; simpa using q5
   ·simp only [if_neg e]; exact .plain (.top _)
  ·have hs : mem'[s]? = none := hs
   exact q4 s (by simpa using hs)
 have hrows : mkR (pE 0 mem2) = bd mem2 := by
  funext s
  rw [vA]; simp [bd]
 obtain ⟨M2, ρ2, hR2⟩ := aD (C := C) (k := mem.length) (b' := 0) (lt := [(0, ret2)]) (lr := pE 0 mem2) G fz hρ hG ⟨by simpa using hT, trivial⟩ hR M' ρ' _ w' hRel
 rw [hrows] at hR2
 refine ⟨v, M2, ρ2, rfl, hR2.m0, hR2.r0, hR2.mr, fun s hs => ?_, ?_, hR2.chg, hR2.mold, hR2.new⟩
 ·have hn : bd mem2 s = none := by unfold bd; simpa using hs
  exact hR2.fr s hn
 ·have := hR2.tm 0
  simpa [mkT, upd] using this
def FU : Nat := 4194304
section
variable {α β : Type}
def bO (x : Option α) (k : α → Option β) : Option β := match x with
 | some a => k a
 | none => none
def gd (p : Bool) (k : Option β) : Option β := match p with
 | true => k
 | false => none
def br (b : Bool) (x y : Option β) : Option β := match b with
 | true => x
 | false => y
def aj (l : List α) (i : Int) : Option α := if 0 ≤ i ∧ i < (l.length : Int) then l[i.toNat]? else none
def slc (l : List α) (a b : Int) : Option (List α) := if 0 ≤ a ∧ a ≤ b ∧ b ≤ (l.length : Int) then some ((l.drop a.toNat).take (b.toNat - a.toNat)) else none
theorem aA {x : Option α} {k : α → Option β} {r : β} (h : bO x k = some r) : ∃ a, x = some a ∧ k a = some r := by
 cases x with
 | none => cases h
 | some a => exact ⟨a, rfl, h⟩
theorem o7 {p : Bool} {k : Option β} {r : β} (h : gd p k = some r) : p = true ∧ k = some r := by
 cases p with
 | false => cases h
 | true => exact ⟨rfl, h⟩
theorem aR {b : Bool} {x y : Option β} {r : β} (h : br b x y = some r) : (b = true ∧ x = some r) ∨ (b = false ∧ y = some r) := by
 cases b with
 | false => exact .inr ⟨rfl, h⟩
 | true => exact .inl ⟨rfl, h⟩
theorem lh {l : List α} {i : Int} {q : α} (h : aj l i = some q) : (0 ≤ i ∧ i < (l.length : Int)) ∧ l[i.toNat]? = some q := by
 unfold aj at h
 split at h
 ·exact ⟨by assumption, h⟩
 ·cases h
theorem im {x y : Option β} {r : β} (h : br true x y = some r) : x = some r := h
theorem lE {x y : Option β} {r : β} (h : br false x y = some r) : y = some r := h
theorem aC (a : α) (k : α → Option β) : bO (some a) k = k a := rfl
theorem ba (k : Option β) : gd true k = k := rfl
theorem aT (x y : Option β) : br true x y = x := rfl
theorem aF (x y : Option β) : br false x y = y := rfl
def aB (e : α → List AV) : List α → List AV
 | [] => []
 | x :: l => e x ++ aB e l
variable {e : α → List AV} {sz : Nat}
theorem BA : aB e [] = [] := (rfl)
theorem qf (x : α) (l : List α) : aB e (x :: l) = e x ++ aB e l := (rfl)
theorem vB : ∀ l m : List α, aB e (l ++ m) = aB e l ++ aB e m
 | [], m => rfl
 | x :: l, m => by simp [aB, vB l m]
theorem io (h : ∀ x, (e x).length = sz) : ∀ l : List α, (aB e l).length = l.length * sz
 | [] => by simp [aB]
 | x :: l => by simp [aB, io h l, h, Nat.add_mul]; omega
theorem qg (h : ∀ x, (e x).length = sz) : ∀ (l : List α) (k : Nat), (aB e l).drop (k * sz) = aB e (l.drop k)
 | [], k => by simp [aB]
 | x :: l, 0 => by simp
 | x :: l, k + 1 => by
  have e1 : (k + 1) * sz = sz + k * sz := by rw [Nat.add_mul, Nat.one_mul, Nat.add_comm]
  have e2 : (e x ++ aB e l).drop sz = aB e l := by rw [List.drop_append, h, Nat.sub_self, List.drop_zero, List.drop_of_length_le (by rw [h]; omega), List.nil_append]
  rw [e1, ← List.drop_drop]
  show ((e x ++ aB e l).drop sz).drop (k * sz) = _
  rw [e2, qg h l k, List.drop_succ_cons]
theorem tL (h : ∀ x, (e x).length = sz) : ∀ (l : List α) (k : Nat), (aB e l).take (k * sz) = aB e (l.take k)
 | [], k => by simp [aB]
 | x :: l, 0 => by simp [aB]
 | x :: l, k + 1 => by
  rw [Nat.add_mul, Nat.one_mul, Nat.add_comm]
  simp only [aB, List.take_succ_cons]
  rw [List.take_append, h, List.take_of_length_le (by rw [h]; omega), Nat.add_sub_cancel_left, tL h l k]
theorem aX (h : ∀ x, (e x).length = sz) {l : List α} {i : Int} {q : α} (hq : aj l i = some q) : (0 ≤ i ∧ i < (l.length : Int)) ∧ (aB e l).drop (i.toNat * sz) = e q ++ aB e (l.drop (i.toNat + 1)) := by
 obtain ⟨h1, h2⟩ := lh hq
 refine ⟨h1, ?_⟩
 rw [qg h]
 obtain ⟨hlt, he⟩ := List.getElem?_eq_some_iff.1 h2
 rw [List.drop_eq_getElem_cons hlt, he]
 rfl
theorem IT (h : ∀ x, (e x).length = sz) (o : Nat) {l : List α} {i : Int} {q : α} (hq : aj l i = some q) : (aB e l).drop (i.toNat * sz + o) = (e q ++ aB e (l.drop (i.toNat + 1))).drop o := by
 rw [← (aX h hq).2, List.drop_drop]
theorem tM (h : ∀ x, (e x).length = sz) {l s : List α} {a b : Int} (hq : slc l a b = some s) : (0 ≤ a ∧ a ≤ b ∧ b ≤ (l.length : Int)) ∧ ((aB e l).drop (a.toNat * sz)).take (s.length * sz) = aB e s ∧ b.toNat - a.toNat = s.length := by
 unfold slc at hq
 split at hq
 ·rename_i hc
  injection hq with hq
  subst hq
  have hl : ((l.drop a.toNat).take (b.toNat - a.toNat)).length = b.toNat - a.toNat := by simp; omega
  exact ⟨hc, by rw [hl, qg h, tL h], hl.symm⟩
 ·cases hq
theorem qv (h : ∀ x, (e x).length = sz) : ∀ (l : List α) (k o : Nat) (q q' : α) (vs : List AV), l[k]? = some q → o + vs.length ≤ sz → e q' = dT (e q) o vs → dT (aB e l) (k * sz + o) vs = aB e (l.set k q')
 | [], k, o, q, q', vs, hq, _, _ => by simp at hq
 | x :: l, 0, o, q, q', vs, hq, ho, he => by
  simp at hq; subst hq
  simp only [aB, List.set_cons_zero, Nat.zero_mul, Nat.zero_add, he, dT]
  rw [List.take_append_of_le_length (by rw [h]; omega), List.drop_append_of_le_length (by rw [h]; omega)]
  simp only [List.append_assoc]
 | x :: l, k + 1, o, q, q', vs, hq, ho, he => by
  have ih := qv h l k o q q' vs (by simpa using hq) ho he
  simp only [aB, List.set_cons_succ]
  rw [← ih]
  simp only [dT]
  have e1 : (k + 1) * sz + o = sz + (k * sz + o) := by rw [Nat.add_mul, Nat.one_mul]; omega
  rw [e1, List.take_append, List.take_of_length_le (by rw [h]; omega), h, Nat.add_sub_cancel_left, Nat.add_assoc, List.drop_append, List.drop_of_length_le (by rw [h]; omega), h, Nat.add_sub_cancel_left, List.nil_append]
  simp only [List.append_assoc]
theorem mq (z : α) : ∀ n, p5 n (e z) = aB e (List.replicate n z)
 | 0 => rfl
 | n + 1 => by simp only [p5, List.replicate_succ, aB, mq z n]
theorem qw (h : ∀ x, (e x).length = sz) {l : List α} {i : Int} {q : α} (q' : α) (o : Nat) (vs : List AV) (hq : aj l i = some q) (ho : o + vs.length ≤ sz) (he : e q' = dT (e q) o vs) :
  dT (aB e l) (i.toNat * sz + o) vs = aB e (l.set i.toNat q') ∧ i.toNat * sz + o + vs.length ≤ (aB e l).length := by
 obtain ⟨h1, h2⟩ := lh hq
 refine ⟨qv h l _ o q q' vs h2 ho he, ?_⟩
 rw [io h]
 have h3 : i.toNat + 1 ≤ l.length := by omega
 have h4 : (i.toNat + 1) * sz ≤ l.length * sz := Nat.mul_le_mul_right _ h3
 rw [Nat.add_mul, Nat.one_mul] at h4
 omega
end
def gid : bL := fun s => some (some s)
def fno : Nat → Option Row := fun _ => none
def cvA : List AV → List AV → Prop
 | [], [] => True
 | a :: al, b :: bl => cvV gid fno a b ∧ cvA al bl
 | _, _ => False
def sm : List Row → List Row → Prop
 | [], [] => True
 | a :: al, b :: bl => cvR gid fno a b ∧ sm al bl
 | _, _ => False
section
variable {M : Imm} {ρ : Plc} {w : World}
theorem VR.cv1 {c c' : AV} {v : Value} (hv : VR M ρ c v) (hc : cv1 gid fno c c') : VR M ρ c' v := by
 unfold Proofs.YtbfmljdablopjaaGreat.cv1 at hc
 split at hc
 ·exact .plain (.top _)
 ·obtain ⟨hg, rfl⟩ := hc
  injection hg with hg; injection hg with hg; subst hg; exact hv
 ·obtain ⟨hg, rfl⟩ := hc
  injection hg with hg; cases hg
 ·obtain ⟨hg, rfl⟩ := hc
  injection hg with hg; injection hg with hg; subst hg; exact hv
 ·obtain ⟨rfl, rfl⟩ := hc; exact hv
 ·obtain ⟨rfl, rfl⟩ := hc
  obtain rfl := hv.nil_inv
  exact .plain (.sl [] 0 none 0 0 0 (fun _ => undef) (fun h => by omega) (Nat.le_refl _) (fun i c hc => by simp at hc) (fun i c hc => by simp at hc))
 ·exact hc.1.elim
 ·obtain ⟨rfl, rfl⟩ := hc; exact hv
 ·subst hc; exact hv
 ·subst hc; exact hv
 ·exact hv
 ·subst hc; exact hv
 ·obtain ⟨rfl, hc⟩ := hc
  obtain ⟨us, rfl, hl, hus⟩ := hv.fn_inv
  obtain ⟨e1, e2⟩ := tt hc
  refine .fn _ _ us (by omega) (fun i s' v hs' hv' => ?_)
  obtain ⟨s, hs, hg⟩ := e2 i s' hs'
  injection hg with hg; injection hg with hg; subst hg
  exact hus i _ v hs hv'
 ·exact hc.elim
theorem VR.cvV {c c' : AV} {v : Value} (hv : VR M ρ c v) (hc : cvV gid fno c c') : VR M ρ c' v := by
 unfold Proofs.YtbfmljdablopjaaGreat.cvV at hc
 split at hc
 ·obtain ⟨vs, rfl, hl, h1, h2⟩ := hv.agg_inv
  obtain ⟨e1, e2⟩ := hQ hc
  refine .agg _ _ (by omega) h1 (fun i c' u hc' hu => ?_)
  obtain ⟨c, hc, hcc⟩ := e2 i c' hc'
  exact (h2 i c u hc hu).cv1 hcc
 ·exact hv.cv1 hc
theorem xQ : ∀ {al bl : List AV}, cvA al bl → al.length = bl.length ∧ ∀ (i : Nat) (b : AV), bl[i]? = some b → ∃ a, al[i]? = some a ∧ Proofs.YtbfmljdablopjaaGreat.cvV gid fno a b
 | [], [], _ => ⟨rfl, fun i c h => by simp at h⟩
 | a :: al, b :: bl, h => by
  obtain ⟨h1, h2⟩ := xQ h.2
  refine ⟨by simp [h1], fun i q hq => ?_⟩
  cases i with
  | zero => simp only [List.getElem?_cons_zero, Option.some.injEq] at hq; subst hq; exact ⟨a, rfl, h.1⟩
  | succ i => exact h2 i q (by simpa using hq)
 | [], _ :: _, h => h.elim
 | _ :: _, [], h => h.elim
theorem rx : ∀ {al bl : List Row}, sm al bl → al.length = bl.length ∧ ∀ (i : Nat) (b : Row), bl[i]? = some b → ∃ a, al[i]? = some a ∧ cvR gid fno a b
 | [], [], _ => ⟨rfl, fun i c h => by simp at h⟩
 | a :: al, b :: bl, h => by
  obtain ⟨h1, h2⟩ := rx h.2
  refine ⟨by simp [h1], fun i q hq => ?_⟩
  cases i with
  | zero => simp only [List.getElem?_cons_zero, Option.some.injEq] at hq; subst hq; exact ⟨a, rfl, h.1⟩
  | succ i => exact h2 i q (by simpa using hq)
 | [], _ :: _, h => h.elim
 | _ :: _, [], h => h.elim
theorem ms {g : bL} {F : Nat → Option Row} {r r' : Row} (h : cvR g F r r') (hs : r'.solid = true) : r.solid = true := by
 unfold cvR at h
 split at h
 ·rfl
 ·rfl
 ·rfl
 ·rfl
 ·cases hs
 ·exact h.elim
theorem ew.cv {r r' : Row} {x : At} (h : ew M ρ w r x) (hc : cvR gid fno r r') : ew M ρ w r' x := by
 unfold cvR at hc
 split at hc
 ·obtain ⟨rfl, hL⟩ := hc
  obtain ⟨h0, arr, a1, a2, a3, a4⟩ := h
  obtain ⟨l1, l2⟩ := hQ hL
  refine ⟨h0, arr, a1, by omega, a3, fun i c' v hc hv => ?_⟩
  obtain ⟨c, hc', hcc⟩ := l2 i c' hc
  exact (a4 i c v hc' hv).cv1 hcc
 ·obtain ⟨rfl, rfl, rfl⟩ := hc; exact h
 ·obtain ⟨rfl, rfl, hL⟩ := hc
  obtain ⟨l1, l2⟩ := hQ hL
  rcases h with ⟨a1, a2, a3⟩ | ⟨h0, xs, a1, a2, a3, a4⟩
  ·subst a2
   exact .inl ⟨a1, List.eq_nil_of_length_eq_zero (by simpa using l1.symm), a3⟩
  ·refine .inr ⟨h0, xs, a1, by omega, a3, fun i c' v hc hv => ?_⟩
   obtain ⟨c, hc', hcc⟩ := l2 i c' hc
   exact (a4 i c v hc' hv).cv1 hcc
 ·obtain ⟨rfl, rfl, hL⟩ := hc
  obtain ⟨l1, l2⟩ := hQ hL
  rcases h with ⟨a1, a2, a3⟩ | ⟨h0, xs, a1, a2, a3, a4⟩
  ·subst a2
   exact .inl ⟨a1, List.eq_nil_of_length_eq_zero (by simpa using l1.symm), a3⟩
  ·refine .inr ⟨h0, xs, a1, by omega, a3, fun i c' v hc hv => ?_⟩
   obtain ⟨c, hc', hcc⟩ := l2 i c' hc
   exact (VR.plain (a4 i c v hc' hv)).cv1 hcc
 ·trivial
 ·exact hc.elim
theorem MR.cv {mem mem' : List Row} (h : MR M ρ (bd mem) w) (hc : sm mem mem') : MR M ρ (bd mem') w := by
 obtain ⟨hl, hg⟩ := rx hc
 refine ⟨fun s r hr hs => ?_, fun s s' r r' x x' hr hr' hs hs' hx hx' => ?_, h.imm, fun b o v s r x hM hr hs hx => ?_⟩
 ·obtain ⟨q, hq, hqc⟩ := hg s r hr
  obtain ⟨x, hx, hX⟩ := h.row s q hq (ms hqc hs)
  exact ⟨x, hx, hX.cv hqc⟩
 ·obtain ⟨q, hq, hqc⟩ := hg s r hr
  obtain ⟨q', hq', hqc'⟩ := hg s' r' hr'
  exact h.inj s s' q q' x x' hq hq' (ms hqc hs) (ms hqc' hs') hx hx'
 ·obtain ⟨q, hq, hqc⟩ := hg s r hr
  exact h.apt b o v s q x hM hq (ms hqc hs) hx
theorem aV.le {P : Program} {f : FuncId} {args args' : List AV} {mem mem' out : List Row} {ret : AV} (h : aV P f args' mem' ret out) (ha : cvA args args') (hm : sm mem mem') : aV P f args mem ret out := by
 obtain ⟨h1, h2⟩ := h
 obtain ⟨al, ag⟩ := xQ ha
 obtain ⟨ml, mg⟩ := rx hm
 have hD : ∀ {ρ : Plc} {b : Nat}, DOf ρ (bd mem') b → DOf ρ (bd mem) b := by
  rintro ρ b ⟨s, r, x, e1, e2, e3⟩
  obtain ⟨q, hq, hqc⟩ := mg s r e1
  exact ⟨s, q, x, hq, ms hqc e2, e3⟩
 refine ⟨h1, fun M ρ w vs hmr hρ hlen hvs => ?_⟩
 refine (h2 M ρ w vs (hmr.cv hm) (fun s hs => hρ s (by omega)) (by omega) (fun i c v hc hv => ?_)).mono (fun e w' ⟨v, M', ρ', he, q1, q2, q3, q4, q5, q6, q7, q8⟩ => ⟨v, M', ρ', he, q1, q2, q3, q4, q5, ⟨q6.os, q6.tape, q6.output, q6.size, fun k hk hn => q6.block k hk fun hd => hn (hD hd)⟩, fun b hb hn => q7 b hb fun hd => hn (hD hd), fun s r x e1 e2 e3 e4 => (q8 s r x e1 e2 e3 e4).imp hD id⟩)
 obtain ⟨c0, hc0, hcc⟩ := ag i c hc
 exact (hvs i c0 v hc0 hv).cvV hcc
end
def fr1 : AV → Prop
 | .sl _ _ => False
 | .eptr _ => False
 | .agg _ => False
 | .tup _ => False
 | .fn _ _ => False
 | _ => True
def frL (f : AV → Prop) : List AV → Prop
 | [] => True
 | c :: cs => f c ∧ frL f cs
def fr2 : AV → Prop
 | .agg cs => frL fr1 cs
 | a => fr1 a
def fr3 : AV → Prop
 | .tup cs => frL fr2 cs
 | a => fr2 a
def frR : Row → Prop
 | .box _ cs => frL fr1 cs
 | .row _ _ cs => ∀ c ∈ cs, Free c
 | .tab _ _ cs => frL fr1 cs
 | .gone => True
def w3 : List Row → Prop
 | [] => True
 | r :: rs => frR r ∧ w3 rs
theorem ry {a : AV} (h : fr1 a) : Free a := by
 cases a <;> first | exact h.elim | constructor
theorem oj {f : AV → Prop} : ∀ {cs : List AV}, frL f cs → ∀ c ∈ cs, f c
 | [], _, c, h => by cases h
 | c' :: cs, h, c, hc => by
  rcases List.mem_cons.1 hc with rfl | hc
  ·exact h.1
  ·exact oj h.2 c hc
theorem BB {a : AV} (h : fr2 a) : Free a := by
 by_cases hag : ∃ cs, a = .agg cs
 ·obtain ⟨cs, rfl⟩ := hag
  exact .agg _ fun c hc => ry (oj h c hc)
 ·have e : fr2 a = fr1 a := by cases a <;> first | rfl | exact absurd ⟨_, rfl⟩ hag
  rw [e] at h; exact ry h
theorem w4 {a : AV} (h : fr3 a) : Free a := by
 by_cases hag : ∃ cs, a = .tup cs
 ·obtain ⟨cs, rfl⟩ := hag
  exact .tup _ fun c hc => BB (oj h c hc)
 ·have e : fr3 a = fr2 a := by cases a <;> first | rfl | exact absurd ⟨_, rfl⟩ hag
  rw [e] at h; exact BB h
theorem rc : ∀ {rs : List Row}, w3 rs → ∀ r ∈ rs, ∀ c ∈ r.cells, Free c
 | [], _, r, h => by cases h
 | r' :: rs, h, r, hr => by
  rcases List.mem_cons.1 hr with rfl | hr
  ·intro c hc
   cases r with
   | box T cs => exact ry (oj h.1 c hc)
   | row E sz cs => exact h.1 c hc
   | tab E sz cs => exact ry (oj h.1 c hc)
   | gone => cases hc
  ·exact rc h.2 r hr
theorem kM {α : Type} {e : α → List AV} (h : ∀ x, frL fr1 (e x)) : ∀ l, (∀ c ∈ aB e l, Free c) = True
 | [] => by simp [aB]
 | x :: l => by
  refine eq_true (fun c hc => ?_)
  rcases List.mem_append.1 hc with hc | hc
  ·exact ry (oj (h x) c hc)
  ·exact (of_eq_true (kM h l)) c hc
def aN (C : Ctx) (J : St → Prop) (st : St) : Prop := ∃ S, J S ∧ Le C st S
section
variable {P : Program} {BR : Nat → Bool} {ops : List Oper} {C : Ctx} {Q : Exit → St → Prop} {T : Nat → AV} {R : Nat → Option Row} {b : Nat} {st : St}
theorem aP {J : St → Prop} {S : St} (h : J S) (hl : Le C st S) : aN C J st := ⟨S, h, hl⟩
theorem aQ {x y : Code} (J : St → Prop) (h1 : AW P C x st (pC (aN C J) Q)) (h2 : ∀ S, J S → AW P C y S Q) : AW P C (.seq x y) st Q := IS J h1 h2
theorem aY {c : Code} (I : Nat → St → Prop) (n0 : Nat) (h0 : aN C (I n0) st) (hz : ∀ S, ¬ I 0 S) (hr : ∀ n S, I (n + 1) S → AW P C c S (pC (aN C (I n)) Q)) : AW P C (.loop c) st Q :=
 Dz I (let ⟨S, h1, h2⟩ := h0; ⟨n0, S, h1, h2⟩) fun n S hI => by
  cases n with
  | zero => exact absurd hI (hz S)
  | succ n =>
   refine xL (hr n S hI) (fun e s h => ?_)
   cases e with
   | normal => obtain ⟨S', h1, h2⟩ := h; exact ⟨n, S', Nat.lt_succ_self n, h1, h2⟩
   | _ => exact h
theorem IU {id : Nat} {draw : Bool} {y : Code} (J : St → Prop) (hm : P.follows .mixedOrders = true) (hN : mp C.N ops.toArray = true) (hB : (!draw || rE BR ops.toArray) = true)
  (h : ∀ K : St → Prop, (∀ T' R' b', aN C J (St.mk T' R' b') → K (St.mk T' R' b')) → dx P BR ops b 0 ops (St.mk T R b) K) (h2 : ∀ S, J S → AW P C y S Q) : AW P C (.seq (.region id ops.toArray draw) y) (St.mk T R b) Q :=
 aQ J (fun M ρ a w hR => by
   refine xM (BR := BR) (Q := pC (aN C J) Q) hm hN hB (fun K hK => h K fun T' R' b' hc => hK T' R' b' ?_) M ρ a w hR
   obtain ⟨S, h1, h2⟩ := hc
   exact ⟨S, h1, fun M ρ a w hR => h2 M ρ a w (hR.next b')⟩) h2
theorem brK {β : Type} {c : Bool} {X Y : Option β} {r : β} {A B : Prop} (h : br c X Y = some r) (ht : c = true → X = some r → A) (hf : c = false → Y = some r → B) : xN (.bool c) A B :=
 ⟨fun e => ht e (by rw [e] at h; exact h), fun e => hf e (by rw [e] at h; exact h)⟩
variable {bs i : Nat} {l : List Oper} {K : St → Prop} {f : FuncId} {args args' : List AV} {dst : Option Tmp} {ret : AV} {mem mem' : List Row}
theorem ak (hS : aV P f args' [] ret mem') (ha : cvA (args.map (bq [] fun _ => none)) args') (hl : mem'.length ≤ 16)
  (hs : ∀ j, j < mem'.length → st.rows (bs + 16 * i + j) = none) (hK : dx P BR ops bs (i + 1) l (({ st with rows := ao st.rows (bs + 16 * i) (mem'.map (Row.ren (mId [] (bs + 16 * i)))) } : St).put dst (fg (mId [] (bs + 16 * i)) ret)) K) : rC P BR ops bs i l st K f args dst :=
 Ay (hS.le ha trivial) hl hs hK
theorem mt (hS : aV P f args' [] ret mem') (ha : cvA (args.map (bq [] st.rows)) args') (hf : fr3 ret ∧ w3 mem') (hl : mem'.length ≤ 16)
  (hs : ∀ j, j < mem'.length → st.rows (bs + 16 * i + j) = none) (hK : dx P BR ops bs (i + 1) l (({ st with rows := ao st.rows (bs + 16 * i) (mem'.map (Row.ren (mId [] (bs + 16 * i)))) } : St).put dst (fg (mId [] (bs + 16 * i)) ret)) K) : rC P BR ops bs i l st K f args dst :=
 ED (hS.le ha trivial) ⟨w4 hf.1, rc hf.2⟩ hl hs hK
def aa : Option Row → Prop
 | some (.box _ _) => True
 | some (.row _ _ _) => True
 | some (.tab _ _ _) => True
 | _ => False
theorem cQ (ι : List Nat) (hS : aV P f args' mem ret mem') (ha : cvA (args.map (bq ι fun _ => none)) args') (hm : sm (ι.map (bT ι (fun _ => none) st.rows)) mem) (hn : sk ι = true) (hι : ∀ s ∈ ι, aa (st.rows s)) (hle : ι.length ≤ mem'.length) (hl : mem'.length - ι.length ≤ 16)
  (hs : ∀ j, j < mem'.length - ι.length → st.rows (bs + 16 * i + j) = none) (hK : dx P BR ops bs (i + 1) l (({ st with rows := az ι (bs + 16 * i) st.rows mem' } : St).put dst (fg (mId ι (bs + 16 * i)) ret)) K) : rR P BR ops bs i l st K f args dst :=
 ⟨ι, false, _, ret, mem', (fun _ _ h => by cases h), iN hn, fun s hs => by
   have := hι s hs
   unfold aa at this
   split at this
   · exact ⟨_, by assumption, rfl⟩
   · exact ⟨_, by assumption, rfl⟩
   · exact ⟨_, by assumption, rfl⟩
   · exact this.elim, hS.le ha hm, hle, .inl (fun _ => rfl), fun _ => hl, hs, hK⟩
theorem Lp (ι : List Nat) (hS : aV P f args' mem ret mem') (ha : cvA (args.map (f0 ι fun _ => none)) args') (hm : sm (ι.map (bT ι (fun _ => none) st.rows)) mem) (hn : ι.Nodup) (hι : ∀ s ∈ ι, aa (st.rows s)) (hle : ι.length ≤ mem'.length)
  (hs : ∀ j, j < mem'.length - ι.length → st.rows (bs + 16 * i + j) = none) (hK : dx P BR ops bs (i + 1) l (({ st with rows := az ι (bs + 16 * i) st.rows mem' } : St).put dst (fg (mId ι (bs + 16 * i)) ret)) K) : rR P BR ops bs i l st K f args dst :=
 ⟨ι, true, _, ret, mem', (fun _ _ h => by cases h), hn, fun s hs => by
   have := hι s hs
   unfold aa at this
   split at this
   · exact ⟨_, by assumption, rfl⟩
   · exact ⟨_, by assumption, rfl⟩
   · exact ⟨_, by assumption, rfl⟩
   · exact this.elim, hS.le ha hm, hle, .inl (fun _ => rfl), fun h => (by cases h), hs, hK⟩
theorem Lq (hS : aV P f args' [] ret mem') (ha : cvA (args.map (f0 [] st.rows)) args') (hf : fr3 ret ∧ w3 mem')
  (hs : ∀ j, j < mem'.length → st.rows (bs + 16 * i + j) = none) (hK : dx P BR ops bs (i + 1) l (({ st with rows := ao st.rows (bs + 16 * i) (mem'.map (Row.ren (mId [] (bs + 16 * i)))) } : St).put dst (fg (mId [] (bs + 16 * i)) ret)) K) : rR P BR ops bs i l st K f args dst :=
 ⟨[], true, st.rows, ret, mem', fun _ _ h => h, List.nodup_nil, (by simp), hS.le ha trivial, (by simp), .inr ⟨w4 hf.1, rc hf.2⟩, fun h => (by cases h), (by simpa using hs), (by rw [fb]; exact hK)⟩
theorem cc {fn : Func} {st : St} {k : Nat} (ids : List Nat) {ret : AV} {mem' : List Row} {e : Exit} (he : e = .normal ∨ e = .ret) (hnd : sk ids = true) (hk : upB k (fun j => match ids[j]? with | some i => i == j | none => false) = true) (h : Az P st fn.results.toList k ids ret mem') : (e = .normal ∨ e = .ret) ∧ yH P fn k ret mem' st :=
 KE ids he (iN hnd) (fun j hj => by
   have := o4 hk j hj
   split at this
   · rename_i i hi
     rw [beq_iff_eq] at this
     rw [hi, this]
   · cases this) h
theorem ap {R : Nat → Option Row} {n : Nat} (h0 : R n = none) : ∀ j, j < 1 → R (n + j) = none := fun j hj => by
 obtain rfl : j = 0 := by omega
 exact h0
end
def AE :=
 (aI
 (aI
 (aI
 (aI
 (aI
 (aI
 (aI
 (aI
 @Aw
 (aI
 @yI
 @E3))
 (aI
 @E4
 (aI
 @E5
 @E6)))
 (aI
 (aI
 @IP
 (aI
 @K8
 @K9))
 (aI
 @KA
 (aI
 @KB
 @Li))))
 (aI
 (aI
 (aI
 @Lj
 (aI
 @Ll
 @Lk))
 (aI
 @Lm
 (aI
 @Ln
 @KC)))
 (aI
 (aI
 @E7
 (aI
 @E8
 @E9))
 (aI
 @EA
 (aI
 @EC
 @St.put_some)))))
 (aI
 (aI
 (aI
 (aI
 @St.put_none
 (aI
 @IR
 @Ax))
 (aI
 @y5
 (aI
 @cls.eq_1
 @cls.eq_2)))
 (aI
 (aI
 @cls.eq_3
 (aI
 @cls.eq_4
 @cls.eq_5))
 (aI
 @cls.eq_6
 (aI
 @cls.eq_7
 (fun (BR : Nat → Bool) (x : Operand) => @id (cls BR (.move x) = 0) rfl)))))
 (aI
 (aI
 (aI
 (fun (BR : Nat → Bool) (x : Operand) => @id (cls BR (.assign x) = 0) rfl)
 (aI
 (fun (BR : Nat → Bool) (c a b : Operand) => @id (cls BR (.pick c a b) = 0) rfl)
 (fun (BR : Nat → Bool) (t : Nat) (ps : Array (Nat × Operand)) => @id (cls BR (.build t ps) = 0) rfl)))
 (aI
 (fun (BR : Nat → Bool) (o : BinOp) (t t2 : Nat) (x y : Operand) => @id (cls BR (.binOp o t x y t2) = 0) rfl)
 (aI
 (fun (BR : Nat → Bool) (o : UnOp) (t : Nat) (x : Operand) => @id (cls BR (.unOp o t x) = 0) rfl)
 (fun (BR : Nat → Bool) (s d : Nat) (x : Operand) => @id (cls BR (.convert s d x) = 0) rfl))))
 (aI
 (aI
 (fun (BR : Nat → Bool) (s f : Nat) (x : Operand) => @id (cls BR (.fieldAddr s x f) = 0) rfl)
 (aI
 (fun (BR : Nat → Bool) (s f : Nat) (x : Operand) => @id (cls BR (.field s x f) = 0) rfl)
 (fun (BR : Nat → Bool) (t : Nat) (x i : Operand) => @id (cls BR (.indexAddr t x i) = 0) rfl)))
 (aI
 (fun (BR : Nat → Bool) (t : Nat) (x i : Operand) => @id (cls BR (.index t x i) = 0) rfl)
 (aI
 (fun (BR : Nat → Bool) (i : Nat) (x : Operand) => @id (cls BR (.extract x i) = 0) rfl)
 (fun (BR : Nat → Bool) (x : Operand) => @id (cls BR (.nilCheck x) = 0) rfl)))))))
 (aI
 (aI
 (aI
 (aI
 (aI
 (fun (BR : Nat → Bool) (t : Nat) (x : Operand) (l h m : Option Operand) => @id (cls BR (.slice t x l h m) = 0) rfl)
 (aI
 @dE.eq_1
 @dE.eq_2))
 (aI
 @dE.eq_3
 (aI
 @dE.eq_4
 @dE.eq_5)))
 (aI
 (aI
 @dE.eq_6
 (aI
 @dE.eq_7
 @dE.eq_8))
 (aI
 @dE.eq_9
 (aI
 @dE.eq_10
 @dE.eq_11))))
 (aI
 (aI
 (aI
 @dE.eq_12
 (aI
 @dE.eq_13
 @dE.eq_14))
 (aI
 @dE.eq_15
 (aI
 @dE.eq_16
 @dE.eq_17)))
 (aI
 (aI
 @dE.eq_18
 (aI
 @dE.eq_19
 (fun (BR : Nat → Bool) (fn : Fn) (a b : Array Operand) => @id (cls BR (.makeFunc fn a b) = 0) rfl)))
 (aI
 @t7.eq_1
 (aI
 @t7.eq_2
 @aMk.eq_1)))))
 (aI
 (aI
 (aI
 (aI
 @aMk.eq_2
 (aI
 @aMk.eq_3
 @aMk.eq_4))
 (aI
 @aMk.eq_5
 (aI
 @aWr.eq_1
 @aWr.eq_2)))
 (aI
 (aI
 @pN.eq_1
 (aI
 @pN.eq_2
 @pN.eq_3))
 (aI
 @pN.eq_4
 (aI
 @pN.eq_6
 @pN.eq_7))))
 (aI
 (aI
 (aI
 @unA.eq_1
 (aI
 @unA.eq_3
 @l9.eq_1))
 (aI
 @l9.eq_2
 (aI
 @l7.eq_1
 @l7.eq_2)))
 (aI
 (aI
 @o0.eq_1
 (aI
 @o0.eq_2
 @o1.eq_1))
 (aI
 (aI
 @o1.eq_2
 @gf.eq_1)
 (aI
 @gf.eq_2
 @dT.eq_1)))))))
 (aI
 (aI
 (aI
 (aI
 (aI
 (aI
 @tn.eq_1
 (aI
 @tn.eq_2
 @tn.eq_3))
 (aI
 @pR.eq_1
 (aI
 @Aj.eq_1
 @p5.eq_1)))
 (aI
 (aI
 @p5.eq_2
 (aI
 @pM.eq_1
 @pM.eq_2))
 (aI
 @pM.eq_3
 (aI
 @pM.eq_4
 @eqL.eq_1))))
 (aI
 (aI
 (aI
 @eqL.eq_2
 (aI
 @II.eq_1
 @gg.eq_1))
 (aI
 @rH.eq_1
 (aI
 @rH.eq_2
 @rH.eq_3)))
 (aI
 (aI
 @ts.eq_1
 (aI
 @Az.eq_1
 @il.eq_1))
 (aI
 @pS.eq_1
 (aI
 @pS.eq_2
 @Dw.eq_1)))))
 (aI
 (aI
 (aI
 (aI
 @Dv.eq_1
 (aI
 @Du.eq_1
 @IQ))
 (aI
 @Lo
 (aI
 @mn.eq_1
 @mn.eq_2)))
 (aI
 (aI
 @mn.eq_3
 (aI
 @mn.eq_4
 @mn.eq_5))
 (aI
 @mn.eq_6
 (aI
 @mn.eq_7
 @mn.eq_8))))
 (aI
 (aI
 (aI
 @mn.eq_9
 (aI
 @mn.eq_10
 @mn.eq_11))
 (aI
 @mn.eq_12
 (aI
 @mn.eq_13
 @mn.eq_14)))
 (aI
 (aI
 @mn.eq_15
 (aI
 @mn.eq_16
 @mn.eq_17))
 (aI
 (fun (k : IntKind) (n : Int) => @id (ofV (.int k n : Value) = pM (.int k n)) rfl)
 (aI
 (fun (b : Bool) => @id (ofV (.bool b : Value) = pM (.bool b)) rfl)
 (fun (s : ByteArray) => @id (ofV (.string s : Value) = pM (.string s)) rfl)))))))
 (aI
 (aI
 (aI
 (aI
 (aI
 (@id (ofV (.slice none 0 0 : Value) = pM (.slice none 0 0)) rfl)
 (aI
 (fun (v u : AV) (l : List AV) => @id (ts (v :: u :: l) = .tup (v :: u :: l)) rfl)
 (@id (ts [] = .tup []) rfl)))
 (aI
 @List.drop_zero.{0}
 (aI
 @List.drop_succ_cons.{0}
 @List.take_zero.{0})))
 (aI
 (aI
 @List.take_succ_cons.{0}
 (aI
 @List.drop_nil.{0}
 @List.take_nil.{0}))
 (aI
 @List.map_cons.{0,0}
 (aI
 @List.map_nil.{0,0}
 @List.all_cons.{0}))))
 (aI
 (aI
 (aI
 @List.all_nil.{0}
 (aI
 @List.length_cons.{0}
 @List.length_nil.{0}))
 (aI
 @List.cons_append.{0}
 (aI
 @List.nil_append.{0}
 @List.append_nil.{0})))
 (aI
 (aI
 @List.append_assoc.{0}
 (aI
 @List.length_append.{0}
 @List.getElem?_toArray.{0}))
 (aI
 @List.getElem?_cons_zero.{0}
 (aI
 @List.getElem?_cons_succ.{0}
 @List.getElem?_nil.{0})))))
 (aI
 (aI
 (aI
 (aI
 @Option.bind_some.{0,0}
 (aI
 @Bool.and_true
 @Bool.true_and))
 (aI
 @Bool.and_self
 (aI
 @Bool.and_false
 @Bool.false_and)))
 (aI
 (aI
 @and_self
 (aI
 @and_true
 @true_and))
 (aI
 @if_true.{1}
 (aI
 @if_false.{1}
 @ite_true.{1}))))
 (aI
 (aI
 (aI
 @ite_false.{1}
 (aI
 @Bool.false_eq_true
 @List.contains_cons.{0}))
 (aI
 @List.contains_nil.{0}
 (aI
 @Bool.or_false
 @Bool.false_or)))
 (aI
 (aI
 @Bool.or_self
 (aI
 @Bool.or_true
 @Bool.true_or))
 (aI
 (aI
 @Nat.zero_add
 @Nat.add_zero)
 (aI
 @Nat.zero_mul
 @Nat.not_lt_zero))))))))
 (aI
 (aI
 (aI
 (aI
 (aI
 (aI
 (aI
 @eq_self.{1}
 (aI
 @not_false_eq_true
 @not_true_eq_false))
 (aI
 @Bool.not_true
 (aI
 @Bool.not_false
 @ne_eq.{1})))
 (aI
 (aI
 @Option.some.injEq.{0}
 (aI
 @List.length_map.{0,0}
 @List.length_set.{0}))
 (aI
 @List.length_replicate.{0}
 (aI
 @BA
 @qf))))
 (aI
 (aI
 (aI
 @vB
 (aI
 (fun (f : Nat → Nat) (k : IntKind) (n : Int) => @id (gh f (.int k n : AV) = (.int k n : AV)) rfl)
 (fun (k : IntKind) (n : Int) => @id (nz (.int k n : AV) = (.int k n : AV)) rfl)))
 (aI
 (fun (f : Nat → Nat) (k : IntKind) (n : Int) => @id (ie f (.int k n : AV) = gh f (.int k n : AV)) rfl)
 (aI
 (fun (f : Nat → Nat) (k : IntKind) (n : Int) => @id (fg f (.int k n : AV) = ie f (.int k n : AV)) rfl)
 (fun (ι : List Nat) (rows : Nat → Option Row) (k : IntKind) (n : Int) => @id (fj ι rows (.int k n : AV) = (.int k n : AV)) rfl))))
 (aI
 (aI
 (fun (ι : List Nat) (rows : Nat → Option Row) (k : IntKind) (n : Int) => @id (bQ ι rows (.int k n : AV) = (.int k n : AV)) rfl)
 (aI
 (fun (ι : List Nat) (rows : Nat → Option Row) (k : IntKind) (n : Int) => @id (bq ι rows (.int k n : AV) = bQ ι rows (.int k n : AV)) rfl)
 (fun (ι : List Nat) (rows : Nat → Option Row) (k : IntKind) (n : Int) => @id (cf ι rows (.int k n : AV) = bQ ι rows (.int k n : AV)) rfl)))
 (aI
 (fun (ι : List Nat) (rows : Nat → Option Row) (k : IntKind) (n : Int) => @id (f0 ι rows (.int k n : AV) = cf ι rows (.int k n : AV)) rfl)
 (aI
 (fun (ids : List Nat) (k : IntKind) (n : Int) => @id (il ids (.int k n : AV) = bq ids (fun _ => none) (.int k n : AV)) rfl)
 (fun (k : IntKind) (n : Int) => @id (AV.cells (.int k n : AV) = [(.int k n : AV)]) rfl))))))
 (aI
 (aI
 (aI
 (aI
 (fun (k : IntKind) (n : Int) => @id (AV.one (.int k n : AV) = true) rfl)
 (aI
 (fun (k : IntKind) (n : Int) => @id (AV.pl (.int k n : AV) = true) rfl)
 (fun (f : Nat → Nat) (b : Bool) => @id (gh f (.bool b : AV) = (.bool b : AV)) rfl)))
 (aI
 (fun (b : Bool) => @id (nz (.bool b : AV) = (.bool b : AV)) rfl)
 (aI
 (fun (f : Nat → Nat) (b : Bool) => @id (ie f (.bool b : AV) = gh f (.bool b : AV)) rfl)
 (fun (f : Nat → Nat) (b : Bool) => @id (fg f (.bool b : AV) = ie f (.bool b : AV)) rfl))))
 (aI
 (aI
 (fun (ι : List Nat) (rows : Nat → Option Row) (b : Bool) => @id (fj ι rows (.bool b : AV) = (.bool b : AV)) rfl)
 (aI
 (fun (ι : List Nat) (rows : Nat → Option Row) (b : Bool) => @id (bQ ι rows (.bool b : AV) = (.bool b : AV)) rfl)
 (fun (ι : List Nat) (rows : Nat → Option Row) (b : Bool) => @id (bq ι rows (.bool b : AV) = bQ ι rows (.bool b : AV)) rfl)))
 (aI
 (fun (ι : List Nat) (rows : Nat → Option Row) (b : Bool) => @id (cf ι rows (.bool b : AV) = bQ ι rows (.bool b : AV)) rfl)
 (aI
 (fun (ι : List Nat) (rows : Nat → Option Row) (b : Bool) => @id (f0 ι rows (.bool b : AV) = cf ι rows (.bool b : AV)) rfl)
 (fun (ids : List Nat) (b : Bool) => @id (il ids (.bool b : AV) = bq ids (fun _ => none) (.bool b : AV)) rfl)))))
 (aI
 (aI
 (aI
 (fun (b : Bool) => @id (AV.cells (.bool b : AV) = [(.bool b : AV)]) rfl)
 (aI
 (fun (b : Bool) => @id (AV.one (.bool b : AV) = true) rfl)
 (fun (b : Bool) => @id (AV.pl (.bool b : AV) = true) rfl)))
 (aI
 (fun (f : Nat → Nat) (s : ByteArray) => @id (gh f (.str s : AV) = (.str s : AV)) rfl)
 (aI
 (fun (s : ByteArray) => @id (nz (.str s : AV) = (.str s : AV)) rfl)
 (fun (f : Nat → Nat) (s : ByteArray) => @id (ie f (.str s : AV) = gh f (.str s : AV)) rfl))))
 (aI
 (aI
 (fun (f : Nat → Nat) (s : ByteArray) => @id (fg f (.str s : AV) = ie f (.str s : AV)) rfl)
 (aI
 (fun (ι : List Nat) (rows : Nat → Option Row) (s : ByteArray) => @id (fj ι rows (.str s : AV) = (.str s : AV)) rfl)
 (fun (ι : List Nat) (rows : Nat → Option Row) (s : ByteArray) => @id (bQ ι rows (.str s : AV) = (.str s : AV)) rfl)))
 (aI
 (fun (ι : List Nat) (rows : Nat → Option Row) (s : ByteArray) => @id (bq ι rows (.str s : AV) = bQ ι rows (.str s : AV)) rfl)
 (aI
 (fun (ι : List Nat) (rows : Nat → Option Row) (s : ByteArray) => @id (cf ι rows (.str s : AV) = bQ ι rows (.str s : AV)) rfl)
 (fun (ι : List Nat) (rows : Nat → Option Row) (s : ByteArray) => @id (f0 ι rows (.str s : AV) = cf ι rows (.str s : AV)) rfl)))))))
 (aI
 (aI
 (aI
 (aI
 (aI
 (fun (ids : List Nat) (s : ByteArray) => @id (il ids (.str s : AV) = bq ids (fun _ => none) (.str s : AV)) rfl)
 (aI
 (fun (s : ByteArray) => @id (AV.cells (.str s : AV) = [(.str s : AV)]) rfl)
 (fun (s : ByteArray) => @id (AV.one (.str s : AV) = true) rfl)))
 (aI
 (fun (s : ByteArray) => @id (AV.pl (.str s : AV) = true) rfl)
 (aI
 (fun (f : Nat → Nat) (cs : List AV) => @id (gh f (.agg cs : AV) = .top) rfl)
 (fun (cs : List AV) => @id (nz (.agg cs : AV) = (.agg cs : AV)) rfl))))
 (aI
 (aI
 (fun (f : Nat → Nat) (cs : List AV) => @id (ie f (.agg cs : AV) = .agg (cs.map (gh f))) rfl)
 (aI
 (fun (f : Nat → Nat) (cs : List AV) => @id (fg f (.agg cs : AV) = ie f (.agg cs : AV)) rfl)
 (fun (ι : List Nat) (rows : Nat → Option Row) (cs : List AV) => @id (fj ι rows (.agg cs : AV) = .top) rfl)))
 (aI
 (fun (ι : List Nat) (rows : Nat → Option Row) (cs : List AV) => @id (bQ ι rows (.agg cs : AV) = .top) rfl)
 (aI
 (fun (ι : List Nat) (rows : Nat → Option Row) (cs : List AV) => @id (bq ι rows (.agg cs : AV) = .agg (cs.map (bQ ι rows))) rfl)
 (fun (ι : List Nat) (rows : Nat → Option Row) (cs : List AV) => @id (cf ι rows (.agg cs : AV) = bQ ι rows (.agg cs : AV)) rfl)))))
 (aI
 (aI
 (aI
 (fun (ι : List Nat) (rows : Nat → Option Row) (cs : List AV) => @id (f0 ι rows (.agg cs : AV) = .agg (cs.map (cf ι rows))) rfl)
 (aI
 (fun (ids : List Nat) (cs : List AV) => @id (il ids (.agg cs : AV) = bq ids (fun _ => none) (.agg cs : AV)) rfl)
 (fun (cs : List AV) => @id (AV.cells (.agg cs : AV) = cs) rfl)))
 (aI
 (fun (cs : List AV) => @id (AV.one (.agg cs : AV) = false) rfl)
 (aI
 (fun (cs : List AV) => @id (AV.pl (.agg cs : AV) = false) rfl)
 (fun (f : Nat → Nat) (cs : List AV) => @id (gh f (.tup cs : AV) = .top) rfl))))
 (aI
 (aI
 (fun (cs : List AV) => @id (nz (.tup cs : AV) = (.tup cs : AV)) rfl)
 (aI
 (fun (f : Nat → Nat) (cs : List AV) => @id (ie f (.tup cs : AV) = .top) rfl)
 (fun (f : Nat → Nat) (cs : List AV) => @id (fg f (.tup cs : AV) = .tup (cs.map (ie f))) rfl)))
 (aI
 (fun (ι : List Nat) (rows : Nat → Option Row) (cs : List AV) => @id (fj ι rows (.tup cs : AV) = .top) rfl)
 (aI
 (fun (ι : List Nat) (rows : Nat → Option Row) (cs : List AV) => @id (bQ ι rows (.tup cs : AV) = .top) rfl)
 (fun (ι : List Nat) (rows : Nat → Option Row) (cs : List AV) => @id (bq ι rows (.tup cs : AV) = .top) rfl))))))
 (aI
 (aI
 (aI
 (aI
 (fun (ι : List Nat) (rows : Nat → Option Row) (cs : List AV) => @id (cf ι rows (.tup cs : AV) = bQ ι rows (.tup cs : AV)) rfl)
 (aI
 (fun (ι : List Nat) (rows : Nat → Option Row) (cs : List AV) => @id (f0 ι rows (.tup cs : AV) = .top) rfl)
 (fun (ids : List Nat) (cs : List AV) => @id (il ids (.tup cs : AV) = .tup (cs.map (bq ids fun _ => none))) rfl)))
 (aI
 (fun (cs : List AV) => @id (AV.cells (.tup cs : AV) = [(.tup cs : AV)]) rfl)
 (aI
 (fun (cs : List AV) => @id (AV.one (.tup cs : AV) = false) rfl)
 (fun (cs : List AV) => @id (AV.pl (.tup cs : AV) = false) rfl))))
 (aI
 (aI
 (fun (f : Nat → Nat)  => @id (gh f (.nil : AV) = (.nil : AV)) rfl)
 (aI
 (@id (nz (.nil : AV) = .sl [] 0) rfl)
 (fun (f : Nat → Nat)  => @id (ie f (.nil : AV) = gh f (.nil : AV)) rfl)))
 (aI
 (fun (f : Nat → Nat)  => @id (fg f (.nil : AV) = ie f (.nil : AV)) rfl)
 (aI
 (fun (ι : List Nat) (rows : Nat → Option Row)  => @id (fj ι rows (.nil : AV) = (.nil : AV)) rfl)
 (fun (ι : List Nat) (rows : Nat → Option Row)  => @id (bQ ι rows (.nil : AV) = (.nil : AV)) rfl)))))
 (aI
 (aI
 (aI
 (fun (ι : List Nat) (rows : Nat → Option Row)  => @id (bq ι rows (.nil : AV) = bQ ι rows (.nil : AV)) rfl)
 (aI
 (fun (ι : List Nat) (rows : Nat → Option Row)  => @id (cf ι rows (.nil : AV) = bQ ι rows (.nil : AV)) rfl)
 (fun (ι : List Nat) (rows : Nat → Option Row)  => @id (f0 ι rows (.nil : AV) = cf ι rows (.nil : AV)) rfl)))
 (aI
 (fun (ids : List Nat)  => @id (il ids (.nil : AV) = bq ids (fun _ => none) (.nil : AV)) rfl)
 (aI
 (@id (AV.cells (.nil : AV) = [(.nil : AV)]) rfl)
 (@id (AV.one (.nil : AV) = true) rfl))))
 (aI
 (aI
 (@id (AV.pl (.nil : AV) = true) rfl)
 (aI
 (fun (f : Nat → Nat) (cs : List AV) (n : Nat) => @id (gh f (.sl cs n : AV) = (.sl cs n : AV)) rfl)
 (fun (cs : List AV) (n : Nat) => @id (nz (.sl cs n : AV) = (.sl cs n : AV)) rfl)))
 (aI
 (aI
 (fun (f : Nat → Nat) (cs : List AV) (n : Nat) => @id (ie f (.sl cs n : AV) = gh f (.sl cs n : AV)) rfl)
 (fun (f : Nat → Nat) (cs : List AV) (n : Nat) => @id (fg f (.sl cs n : AV) = ie f (.sl cs n : AV)) rfl))
 (aI
 (fun (ι : List Nat) (rows : Nat → Option Row) (cs : List AV) (n : Nat) => @id (fj ι rows (.sl cs n : AV) = (.sl cs n : AV)) rfl)
 (fun (ι : List Nat) (rows : Nat → Option Row) (cs : List AV) (n : Nat) => @id (bQ ι rows (.sl cs n : AV) = (.sl cs n : AV)) rfl))))))))
 (aI
 (aI
 (aI
 (aI
 (aI
 (aI
 (fun (ι : List Nat) (rows : Nat → Option Row) (cs : List AV) (n : Nat) => @id (bq ι rows (.sl cs n : AV) = bQ ι rows (.sl cs n : AV)) rfl)
 (aI
 (fun (ι : List Nat) (rows : Nat → Option Row) (cs : List AV) (n : Nat) => @id (cf ι rows (.sl cs n : AV) = bQ ι rows (.sl cs n : AV)) rfl)
 (fun (ι : List Nat) (rows : Nat → Option Row) (cs : List AV) (n : Nat) => @id (f0 ι rows (.sl cs n : AV) = cf ι rows (.sl cs n : AV)) rfl)))
 (aI
 (fun (ids : List Nat) (cs : List AV) (n : Nat) => @id (il ids (.sl cs n : AV) = bq ids (fun _ => none) (.sl cs n : AV)) rfl)
 (aI
 (fun (cs : List AV) (n : Nat) => @id (AV.cells (.sl cs n : AV) = [(.sl cs n : AV)]) rfl)
 (fun (cs : List AV) (n : Nat) => @id (AV.one (.sl cs n : AV) = true) rfl))))
 (aI
 (aI
 (fun (cs : List AV) (n : Nat) => @id (AV.pl (.sl cs n : AV) = true) rfl)
 (aI
 (fun (f : Nat → Nat) (s : Nat) (n : Nat) => @id (gh f (.own s n : AV) = .own (f s) n) rfl)
 (fun (s : Nat) (n : Nat) => @id (nz (.own s n : AV) = (.own s n : AV)) rfl)))
 (aI
 (fun (f : Nat → Nat) (s : Nat) (n : Nat) => @id (ie f (.own s n : AV) = gh f (.own s n : AV)) rfl)
 (aI
 (fun (f : Nat → Nat) (s : Nat) (n : Nat) => @id (fg f (.own s n : AV) = ie f (.own s n : AV)) rfl)
 @fj.eq_1))))
 (aI
 (aI
 (aI
 @bQ.eq_1
 (aI
 (fun (ι : List Nat) (rows : Nat → Option Row) (s : Nat) (n : Nat) => @id (bq ι rows (.own s n : AV) = bQ ι rows (.own s n : AV)) rfl)
 @cf.eq_1))
 (aI
 (fun (ι : List Nat) (rows : Nat → Option Row) (s : Nat) (n : Nat) => @id (f0 ι rows (.own s n : AV) = cf ι rows (.own s n : AV)) rfl)
 (aI
 (fun (ids : List Nat) (s : Nat) (n : Nat) => @id (il ids (.own s n : AV) = bq ids (fun _ => none) (.own s n : AV)) rfl)
 (fun (s : Nat) (n : Nat) => @id (AV.cells (.own s n : AV) = [(.own s n : AV)]) rfl))))
 (aI
 (aI
 (fun (s : Nat) (n : Nat) => @id (AV.one (.own s n : AV) = true) rfl)
 (aI
 (fun (s : Nat) (n : Nat) => @id (AV.pl (.own s n : AV) = false) rfl)
 (fun (f : Nat → Nat) (s : Nat) (o : Nat) => @id (gh f (.ptr s o : AV) = .ptr (f s) o) rfl)))
 (aI
 (fun (s : Nat) (o : Nat) => @id (nz (.ptr s o : AV) = (.ptr s o : AV)) rfl)
 (aI
 (fun (f : Nat → Nat) (s : Nat) (o : Nat) => @id (ie f (.ptr s o : AV) = gh f (.ptr s o : AV)) rfl)
 (fun (f : Nat → Nat) (s : Nat) (o : Nat) => @id (fg f (.ptr s o : AV) = ie f (.ptr s o : AV)) rfl))))))
 (aI
 (aI
 (aI
 (aI
 (fun (ι : List Nat) (rows : Nat → Option Row) (s : Nat) (o : Nat) => @id (fj ι rows (.ptr s o : AV) = .top) rfl)
 (aI
 @bQ.eq_2
 (fun (ι : List Nat) (rows : Nat → Option Row) (s : Nat) (o : Nat) => @id (bq ι rows (.ptr s o : AV) = bQ ι rows (.ptr s o : AV)) rfl)))
 (aI
 (fun (ι : List Nat) (rows : Nat → Option Row) (s : Nat) (o : Nat) => @id (cf ι rows (.ptr s o : AV) = bQ ι rows (.ptr s o : AV)) rfl)
 (aI
 (fun (ι : List Nat) (rows : Nat → Option Row) (s : Nat) (o : Nat) => @id (f0 ι rows (.ptr s o : AV) = cf ι rows (.ptr s o : AV)) rfl)
 (fun (ids : List Nat) (s : Nat) (o : Nat) => @id (il ids (.ptr s o : AV) = bq ids (fun _ => none) (.ptr s o : AV)) rfl))))
 (aI
 (aI
 (fun (s : Nat) (o : Nat) => @id (AV.cells (.ptr s o : AV) = [(.ptr s o : AV)]) rfl)
 (aI
 (fun (s : Nat) (o : Nat) => @id (AV.one (.ptr s o : AV) = true) rfl)
 (fun (s : Nat) (o : Nat) => @id (AV.pl (.ptr s o : AV) = false) rfl)))
 (aI
 (fun (f : Nat → Nat) (cs : List AV) => @id (gh f (.eptr cs : AV) = (.eptr cs : AV)) rfl)
 (aI
 (fun (cs : List AV) => @id (nz (.eptr cs : AV) = (.eptr cs : AV)) rfl)
 (fun (f : Nat → Nat) (cs : List AV) => @id (ie f (.eptr cs : AV) = gh f (.eptr cs : AV)) rfl)))))
 (aI
 (aI
 (aI
 (fun (f : Nat → Nat) (cs : List AV) => @id (fg f (.eptr cs : AV) = ie f (.eptr cs : AV)) rfl)
 (aI
 (fun (ι : List Nat) (rows : Nat → Option Row) (cs : List AV) => @id (fj ι rows (.eptr cs : AV) = (.eptr cs : AV)) rfl)
 (fun (ι : List Nat) (rows : Nat → Option Row) (cs : List AV) => @id (bQ ι rows (.eptr cs : AV) = (.eptr cs : AV)) rfl)))
 (aI
 (fun (ι : List Nat) (rows : Nat → Option Row) (cs : List AV) => @id (bq ι rows (.eptr cs : AV) = bQ ι rows (.eptr cs : AV)) rfl)
 (aI
 (fun (ι : List Nat) (rows : Nat → Option Row) (cs : List AV) => @id (cf ι rows (.eptr cs : AV) = bQ ι rows (.eptr cs : AV)) rfl)
 (fun (ι : List Nat) (rows : Nat → Option Row) (cs : List AV) => @id (f0 ι rows (.eptr cs : AV) = cf ι rows (.eptr cs : AV)) rfl))))
 (aI
 (aI
 (fun (ids : List Nat) (cs : List AV) => @id (il ids (.eptr cs : AV) = bq ids (fun _ => none) (.eptr cs : AV)) rfl)
 (aI
 (fun (cs : List AV) => @id (AV.cells (.eptr cs : AV) = [(.eptr cs : AV)]) rfl)
 (fun (cs : List AV) => @id (AV.one (.eptr cs : AV) = true) rfl)))
 (aI
 (fun (cs : List AV) => @id (AV.pl (.eptr cs : AV) = true) rfl)
 (aI
 (fun (f : Nat → Nat) (fi : FuncId) (ps : List Nat) => @id (gh f (.fn fi ps : AV) = .top) rfl)
 (fun (fi : FuncId) (ps : List Nat) => @id (nz (.fn fi ps : AV) = (.fn fi ps : AV)) rfl)))))))
 (aI
 (aI
 (aI
 (aI
 (aI
 (fun (f : Nat → Nat) (fi : FuncId) (ps : List Nat) => @id (ie f (.fn fi ps : AV) = gh f (.fn fi ps : AV)) rfl)
 (aI
 (fun (f : Nat → Nat) (fi : FuncId) (ps : List Nat) => @id (fg f (.fn fi ps : AV) = ie f (.fn fi ps : AV)) rfl)
 (fun (ι : List Nat) (rows : Nat → Option Row) (fi : FuncId) (ps : List Nat) => @id (fj ι rows (.fn fi ps : AV) = .top) rfl)))
 (aI
 (fun (ι : List Nat) (rows : Nat → Option Row) (fi : FuncId) (ps : List Nat) => @id (bQ ι rows (.fn fi ps : AV) = .top) rfl)
 (aI
 (fun (ι : List Nat) (rows : Nat → Option Row) (fi : FuncId) (ps : List Nat) => @id (bq ι rows (.fn fi ps : AV) = bQ ι rows (.fn fi ps : AV)) rfl)
 (fun (ι : List Nat) (rows : Nat → Option Row) (fi : FuncId) (ps : List Nat) => @id (cf ι rows (.fn fi ps : AV) = bQ ι rows (.fn fi ps : AV)) rfl))))
 (aI
 (aI
 (fun (ι : List Nat) (rows : Nat → Option Row) (fi : FuncId) (ps : List Nat) => @id (f0 ι rows (.fn fi ps : AV) = cf ι rows (.fn fi ps : AV)) rfl)
 (aI
 (fun (ids : List Nat) (fi : FuncId) (ps : List Nat) => @id (il ids (.fn fi ps : AV) = bq ids (fun _ => none) (.fn fi ps : AV)) rfl)
 (fun (fi : FuncId) (ps : List Nat) => @id (AV.cells (.fn fi ps : AV) = [(.fn fi ps : AV)]) rfl)))
 (aI
 (fun (fi : FuncId) (ps : List Nat) => @id (AV.one (.fn fi ps : AV) = false) rfl)
 (aI
 (fun (fi : FuncId) (ps : List Nat) => @id (AV.pl (.fn fi ps : AV) = false) rfl)
 (fun (f : Nat → Nat)  => @id (gh f (.top : AV) = (.top : AV)) rfl)))))
 (aI
 (aI
 (aI
 (@id (nz (.top : AV) = (.top : AV)) rfl)
 (aI
 (fun (f : Nat → Nat)  => @id (ie f (.top : AV) = gh f (.top : AV)) rfl)
 (fun (f : Nat → Nat)  => @id (fg f (.top : AV) = ie f (.top : AV)) rfl)))
 (aI
 (fun (ι : List Nat) (rows : Nat → Option Row)  => @id (fj ι rows (.top : AV) = (.top : AV)) rfl)
 (aI
 (fun (ι : List Nat) (rows : Nat → Option Row)  => @id (bQ ι rows (.top : AV) = (.top : AV)) rfl)
 (fun (ι : List Nat) (rows : Nat → Option Row)  => @id (bq ι rows (.top : AV) = bQ ι rows (.top : AV)) rfl))))
 (aI
 (aI
 (fun (ι : List Nat) (rows : Nat → Option Row)  => @id (cf ι rows (.top : AV) = bQ ι rows (.top : AV)) rfl)
 (aI
 (fun (ι : List Nat) (rows : Nat → Option Row)  => @id (f0 ι rows (.top : AV) = cf ι rows (.top : AV)) rfl)
 (fun (ids : List Nat)  => @id (il ids (.top : AV) = bq ids (fun _ => none) (.top : AV)) rfl)))
 (aI
 (@id (AV.cells (.top : AV) = [(.top : AV)]) rfl)
 (aI
 (@id (AV.one (.top : AV) = false) rfl)
 (@id (AV.pl (.top : AV) = true) rfl))))))
 (aI
 (aI
 (aI
 (aI
 @List.getD_cons_zero.{0}
 (aI
 @List.getD_cons_succ.{0}
 @Row.ren.eq_1))
 (aI
 @mId.eq_1
 (aI
 @ao.eq_1
 @ao.eq_2)))
 (aI
 (aI
 @ii.eq_1
 (aI
 @ge.eq_1
 @ge.eq_2))
 (aI
 @bd.eq_1
 (aI
 @az.eq_1
 @evL.eq_1))))
 (aI
 (aI
 (aI
 @evL.eq_2
 (aI
 @mkT.eq_1
 @mkT.eq_2))
 (aI
 @mkR.eq_1
 (aI
 @mkR.eq_2
 @aW.eq_1)))
 (aI
 (aI
 @aW.eq_2
 (aI
 @st0.eq_1
 (fun (f : Nat → Nat) (E sz : Nat) (cs : List AV) => @id (Row.ren f (.row E sz cs) = .row E sz cs) rfl)))
 (aI
 (aI
 (fun (f : Nat → Nat) => @id (Row.ren f .gone = .gone) rfl)
 (fun (f : Nat → Nat) (E sz : Nat) (cs : List AV) => @id (Row.ren f (.tab E sz cs) = .tab E sz (cs.map (gh f))) rfl))
 (aI
 (fun (rows : Nat → Option Row) (l : List Row) => @id (ii rows [] l = rows) rfl)
 @bT.eq_1)))))))))
def AL :=
 (aI
 (aI
 (aI
 (aI
 (aI
 (aI
 (aI
 (fun (g : bL) (F : Nat → Option Row) (k : IntKind) (n : Int) => @id (cv1 g F (.int k n : AV) .top = True) rfl)
 (fun (g : bL) (F : Nat → Option Row) (k : IntKind) (n : Int) (x : AV) => @id (cvV g F (.int k n : AV) x = cv1 g F (.int k n : AV) x) rfl))
 (aI
 (fun (g : bL) (F : Nat → Option Row) (k : IntKind) (n : Int) (x : AV) => @id (cvW g F (.int k n : AV) x = cvV g F (.int k n : AV) x) rfl)
 (fun (g : bL) (F : Nat → Option Row) (b : Bool) => @id (cv1 g F (.bool b : AV) .top = True) rfl)))
 (aI
 (aI
 (fun (g : bL) (F : Nat → Option Row) (b : Bool) (x : AV) => @id (cvV g F (.bool b : AV) x = cv1 g F (.bool b : AV) x) rfl)
 (fun (g : bL) (F : Nat → Option Row) (b : Bool) (x : AV) => @id (cvW g F (.bool b : AV) x = cvV g F (.bool b : AV) x) rfl))
 (aI
 (fun (g : bL) (F : Nat → Option Row) (s : ByteArray) => @id (cv1 g F (.str s : AV) .top = True) rfl)
 (fun (g : bL) (F : Nat → Option Row) (s : ByteArray) (x : AV) => @id (cvV g F (.str s : AV) x = cv1 g F (.str s : AV) x) rfl))))
 (aI
 (aI
 (aI
 (fun (g : bL) (F : Nat → Option Row) (s : ByteArray) (x : AV) => @id (cvW g F (.str s : AV) x = cvV g F (.str s : AV) x) rfl)
 (fun (g : bL) (F : Nat → Option Row) (cs : List AV) => @id (cv1 g F (.agg cs : AV) .top = True) rfl))
 (aI
 (fun (g : bL) (F : Nat → Option Row) (cs : List AV) (x : AV) => @id (cvW g F (.agg cs : AV) x = cvV g F (.agg cs : AV) x) rfl)
 (fun (g : bL) (F : Nat → Option Row) (cs : List AV) => @id (cv1 g F (.tup cs : AV) .top = True) rfl)))
 (aI
 (aI
 (fun (g : bL) (F : Nat → Option Row) (cs : List AV) (x : AV) => @id (cvV g F (.tup cs : AV) x = cv1 g F (.tup cs : AV) x) rfl)
 (fun (g : bL) (F : Nat → Option Row)  => @id (cv1 g F (.nil : AV) .top = True) rfl))
 (aI
 (fun (g : bL) (F : Nat → Option Row)  (x : AV) => @id (cvV g F (.nil : AV) x = cv1 g F (.nil : AV) x) rfl)
 (fun (g : bL) (F : Nat → Option Row)  (x : AV) => @id (cvW g F (.nil : AV) x = cvV g F (.nil : AV) x) rfl)))))
 (aI
 (aI
 (aI
 (aI
 (fun (g : bL) (F : Nat → Option Row) (cs : List AV) (n : Nat) => @id (cv1 g F (.sl cs n : AV) .top = True) rfl)
 (fun (g : bL) (F : Nat → Option Row) (cs : List AV) (n : Nat) (x : AV) => @id (cvV g F (.sl cs n : AV) x = cv1 g F (.sl cs n : AV) x) rfl))
 (aI
 (fun (g : bL) (F : Nat → Option Row) (cs : List AV) (n : Nat) (x : AV) => @id (cvW g F (.sl cs n : AV) x = cvV g F (.sl cs n : AV) x) rfl)
 (fun (g : bL) (F : Nat → Option Row) (s : Nat) (n : Nat) => @id (cv1 g F (.own s n : AV) .top = True) rfl)))
 (aI
 (aI
 (fun (g : bL) (F : Nat → Option Row) (s : Nat) (n : Nat) (x : AV) => @id (cvV g F (.own s n : AV) x = cv1 g F (.own s n : AV) x) rfl)
 (fun (g : bL) (F : Nat → Option Row) (s : Nat) (n : Nat) (x : AV) => @id (cvW g F (.own s n : AV) x = cvV g F (.own s n : AV) x) rfl))
 (aI
 (fun (g : bL) (F : Nat → Option Row) (s : Nat) (o : Nat) => @id (cv1 g F (.ptr s o : AV) .top = True) rfl)
 (fun (g : bL) (F : Nat → Option Row) (s : Nat) (o : Nat) (x : AV) => @id (cvV g F (.ptr s o : AV) x = cv1 g F (.ptr s o : AV) x) rfl))))
 (aI
 (aI
 (aI
 (fun (g : bL) (F : Nat → Option Row) (s : Nat) (o : Nat) (x : AV) => @id (cvW g F (.ptr s o : AV) x = cvV g F (.ptr s o : AV) x) rfl)
 (fun (g : bL) (F : Nat → Option Row) (cs : List AV) => @id (cv1 g F (.eptr cs : AV) .top = True) rfl))
 (aI
 (fun (g : bL) (F : Nat → Option Row) (cs : List AV) (x : AV) => @id (cvV g F (.eptr cs : AV) x = cv1 g F (.eptr cs : AV) x) rfl)
 (fun (g : bL) (F : Nat → Option Row) (cs : List AV) (x : AV) => @id (cvW g F (.eptr cs : AV) x = cvV g F (.eptr cs : AV) x) rfl)))
 (aI
 (aI
 (fun (g : bL) (F : Nat → Option Row) (fi : FuncId) (ps : List Nat) => @id (cv1 g F (.fn fi ps : AV) .top = True) rfl)
 (fun (g : bL) (F : Nat → Option Row) (fi : FuncId) (ps : List Nat) (x : AV) => @id (cvV g F (.fn fi ps : AV) x = cv1 g F (.fn fi ps : AV) x) rfl))
 (aI
 (fun (g : bL) (F : Nat → Option Row) (fi : FuncId) (ps : List Nat) (x : AV) => @id (cvW g F (.fn fi ps : AV) x = cvV g F (.fn fi ps : AV) x) rfl)
 (fun (g : bL) (F : Nat → Option Row)  => @id (cv1 g F .top .top = True) rfl))))))
 (aI
 (aI
 (aI
 (aI
 (aI
 (fun (g : bL) (F : Nat → Option Row)  (x : AV) => @id (cvV g F (.top : AV) x = cv1 g F (.top : AV) x) rfl)
 (fun (g : bL) (F : Nat → Option Row)  (x : AV) => @id (cvW g F (.top : AV) x = cvV g F (.top : AV) x) rfl))
 (aI
 (fun (g : bL) (F : Nat → Option Row) (cs cs2 : List AV) => @id (cvV g F (.agg cs) (.agg cs2) = cvL g F cs cs2) rfl)
 (fun (g : bL) (F : Nat → Option Row) (cs : List AV) => @id (cvV g F (.agg cs) .top = True) rfl)))
 (aI
 (aI
 (fun (g : bL) (F : Nat → Option Row) (cs cs2 : List AV) => @id (cvW g F (.tup cs) (.tup cs2) = cvT g F cs cs2) rfl)
 (fun (g : bL) (F : Nat → Option Row) (cs : List AV) => @id (cvW g F (.tup cs) .top = True) rfl))
 (aI
 @cvT.eq_1
 @cvT.eq_2)))
 (aI
 (aI
 (aI
 @pE.eq_1
 @pE.eq_2)
 (aI
 (fun (g : bL) (F : Nat → Option Row) (s n s2 n2 : Nat) => @id (cv1 g F (.own s n) (.own s2 n2) = (g s2 = some (some s) ∧ n = n2)) rfl)
 (fun (g : bL) (F : Nat → Option Row) (s2 n2 : Nat) => @id (cv1 g F .nil (.own s2 n2) = (g s2 = some none ∧ n2 = 0)) rfl)))
 (aI
 (aI
 (fun (g : bL) (F : Nat → Option Row) (s n s2 n2 : Nat) => @id (cv1 g F (.ptr s n) (.ptr s2 n2) = (g s2 = some (some s) ∧ n = n2)) rfl)
 (fun (g : bL) (F : Nat → Option Row) (cs cs2 : List AV) (n n2 : Nat) => @id (cv1 g F (.sl cs n) (.sl cs2 n2) = (cs = cs2 ∧ n = n2)) rfl))
 (aI
 (fun (g : bL) (F : Nat → Option Row) (cs2 : List AV) (n2 : Nat) => @id (cv1 g F .nil (.sl cs2 n2) = (cs2 = [] ∧ n2 = 0)) rfl)
 (fun (g : bL) (F : Nat → Option Row) (cs2 : List AV) (s n n2 : Nat) => @id (cv1 g F (.own s n) (.sl cs2 n2) = (fz1 F (F s) cs2 ∧ n = n2)) rfl)))))
 (aI
 (aI
 (aI
 (aI
 (fun (g : bL) (F : Nat → Option Row) (k k2 : IntKind) (n n2 : Int) => @id (cv1 g F (.int k n) (.int k2 n2) = (k = k2 ∧ n = n2)) rfl)
 (fun (g : bL) (F : Nat → Option Row) (b b2 : Bool) => @id (cv1 g F (.bool b) (.bool b2) = (b = b2)) rfl))
 (aI
 (fun (g : bL) (F : Nat → Option Row) (b b2 : ByteArray) => @id (cv1 g F (.str b) (.str b2) = (b = b2)) rfl)
 (fun (g : bL) (F : Nat → Option Row)  => @id (cv1 g F .nil .nil = True) rfl)))
 (aI
 (aI
 (fun (g : bL) (F : Nat → Option Row) (cs cs2 : List AV) => @id (cv1 g F (.eptr cs) (.eptr cs2) = (cs = cs2)) rfl)
 (fun (g : bL) (F : Nat → Option Row) (f f2 : FuncId) (ps ps2 : List Nat) => @id (cv1 g F (.fn f ps) (.fn f2 ps2) = (f = f2 ∧ cvP g ps ps2)) rfl))
 (aI
 @cvP.eq_1
 @cvP.eq_2)))
 (aI
 (aI
 (aI
 @cvL.eq_1
 @cvL.eq_2)
 (aI
 @cvR.eq_1
 @cvR.eq_2))
 (aI
 (aI
 @cvR.eq_3
 @cvR.eq_4)
 (aI
 @B5.eq_1
 (aI
 @tu.eq_1
 @leT.eq_1)))))))
 (aI
 (aI
 (aI
 (aI
 (aI
 (aI
 @leT.eq_2
 @leR.eq_1)
 (aI
 @leR.eq_2
 @lk.eq_1))
 (aI
 (aI
 @lk.eq_2
 @fz1.eq_1)
 (aI
 @fz1.eq_2
 @fzF.eq_1)))
 (aI
 (aI
 (aI
 (fun (g : bL) (F : Nat → Option Row) (T : Nat) (cs : List AV) => @id (cvR g F (.box T cs) .gone = True) rfl)
 (fun (g : bL) (F : Nat → Option Row) (E sz : Nat) (cs : List AV) => @id (cvR g F (.row E sz cs) .gone = True) rfl))
 (aI
 (fun (g : bL) (F : Nat → Option Row) (E sz : Nat) (cs : List AV) => @id (cvR g F (.tab E sz cs) .gone = True) rfl)
 (fun (g : bL) (F : Nat → Option Row)  => @id (cvR g F .gone .gone = True) rfl)))
 (aI
 (aI
 (fun (g : bL) (F : Nat → Option Row)  => @id (B5 g F none .gone = True) rfl)
 (fun (g : bL) (F : Nat → Option Row) (R : Nat → Option Row) (E sz : Nat) (cs : List AV) => @id (tu g F R (some none) (.row E sz cs) = (cs = [])) rfl))
 (aI
 (fun (g : bL) (F : Nat → Option Row) (R : Nat → Option Row) (E sz : Nat) (cs : List AV) => @id (tu g F R (some none) (.tab E sz cs) = (cs = [])) rfl)
 (fun (g : bL) (F : Nat → Option Row) (R : Nat → Option Row) => @id (tu g F R none .gone = True) rfl)))))
 (aI
 (aI
 (aI
 (aI
 (fun (k : IntKind) (n : Int) => @id (fr1 (.int k n : AV) = True) rfl)
 (fun (k : IntKind) (n : Int) => @id (fr2 (.int k n : AV) = fr1 (.int k n : AV)) rfl))
 (aI
 (fun (k : IntKind) (n : Int) => @id (fr3 (.int k n : AV) = fr2 (.int k n : AV)) rfl)
 (fun (b : Bool) => @id (fr1 (.bool b : AV) = True) rfl)))
 (aI
 (aI
 (fun (b : Bool) => @id (fr2 (.bool b : AV) = fr1 (.bool b : AV)) rfl)
 (fun (b : Bool) => @id (fr3 (.bool b : AV) = fr2 (.bool b : AV)) rfl))
 (aI
 (fun (s : ByteArray) => @id (fr1 (.str s : AV) = True) rfl)
 (fun (s : ByteArray) => @id (fr2 (.str s : AV) = fr1 (.str s : AV)) rfl))))
 (aI
 (aI
 (aI
 (fun (s : ByteArray) => @id (fr3 (.str s : AV) = fr2 (.str s : AV)) rfl)
 (fun (cs : List AV) => @id (fr1 (.agg cs : AV) = False) rfl))
 (aI
 (fun (cs : List AV) => @id (fr2 (.agg cs : AV) = frL fr1 cs) rfl)
 (fun (cs : List AV) => @id (fr3 (.agg cs : AV) = fr2 (.agg cs : AV)) rfl)))
 (aI
 (aI
 (fun (cs : List AV) => @id (fr1 (.tup cs : AV) = False) rfl)
 (fun (cs : List AV) => @id (fr2 (.tup cs : AV) = fr1 (.tup cs : AV)) rfl))
 (aI
 (fun (cs : List AV) => @id (fr3 (.tup cs : AV) = frL fr2 cs) rfl)
 (aI
 (@id (fr1 (.nil : AV) = True) rfl)
 (@id (fr2 (.nil : AV) = fr1 (.nil : AV)) rfl)))))))
 (aI
 (aI
 (aI
 (aI
 (aI
 (@id (fr3 (.nil : AV) = fr2 (.nil : AV)) rfl)
 (fun (cs : List AV) (n : Nat) => @id (fr1 (.sl cs n : AV) = False) rfl))
 (aI
 (fun (cs : List AV) (n : Nat) => @id (fr2 (.sl cs n : AV) = fr1 (.sl cs n : AV)) rfl)
 (fun (cs : List AV) (n : Nat) => @id (fr3 (.sl cs n : AV) = fr2 (.sl cs n : AV)) rfl)))
 (aI
 (aI
 (fun (s : Nat) (n : Nat) => @id (fr1 (.own s n : AV) = True) rfl)
 (fun (s : Nat) (n : Nat) => @id (fr2 (.own s n : AV) = fr1 (.own s n : AV)) rfl))
 (aI
 (fun (s : Nat) (n : Nat) => @id (fr3 (.own s n : AV) = fr2 (.own s n : AV)) rfl)
 (fun (s : Nat) (o : Nat) => @id (fr1 (.ptr s o : AV) = True) rfl))))
 (aI
 (aI
 (aI
 (fun (s : Nat) (o : Nat) => @id (fr2 (.ptr s o : AV) = fr1 (.ptr s o : AV)) rfl)
 (fun (s : Nat) (o : Nat) => @id (fr3 (.ptr s o : AV) = fr2 (.ptr s o : AV)) rfl))
 (aI
 (fun (cs : List AV) => @id (fr1 (.eptr cs : AV) = False) rfl)
 (fun (cs : List AV) => @id (fr2 (.eptr cs : AV) = fr1 (.eptr cs : AV)) rfl)))
 (aI
 (aI
 (fun (cs : List AV) => @id (fr3 (.eptr cs : AV) = fr2 (.eptr cs : AV)) rfl)
 (fun (fi : FuncId) (ps : List Nat) => @id (fr1 (.fn fi ps : AV) = False) rfl))
 (aI
 (fun (fi : FuncId) (ps : List Nat) => @id (fr2 (.fn fi ps : AV) = fr1 (.fn fi ps : AV)) rfl)
 (fun (fi : FuncId) (ps : List Nat) => @id (fr3 (.fn fi ps : AV) = fr2 (.fn fi ps : AV)) rfl)))))
 (aI
 (aI
 (aI
 (aI
 (@id (fr1 (.top : AV) = True) rfl)
 (@id (fr2 (.top : AV) = fr1 (.top : AV)) rfl))
 (aI
 (@id (fr3 (.top : AV) = fr2 (.top : AV)) rfl)
 @frL.eq_1))
 (aI
 (aI
 @frL.eq_2
 @frR.eq_1)
 (aI
 @frR.eq_2
 @frR.eq_3)))
 (aI
 (aI
 (aI
 @frR.eq_4
 @w3.eq_1)
 (aI
 @w3.eq_2
 (fun (s : Nat) => @id (gid s = some (some s)) rfl)))
 (aI
 (aI
 (fun (s : Nat) => @id (fno s = none) rfl)
 @cvA.eq_1)
 (aI
 @cvA.eq_2
 (aI
 @sm.eq_1
 @sm.eq_2))))))))
abbrev Tbl := List (Nat × List Nat)
def bM : Tbl → Nat → List Nat
 | [], _ => []
 | (k, l) :: t, j => if j = k then l else bM t j
def s6 : Op → Bool
 | .load _ _ => true
 | _ => false
def inT : AV → List Nat → Prop
 | .ptr s _, l => l.contains s = true
 | .eptr _, _ => True
 | _, _ => False
def p6 (l : List Nat) (st : St) : Op → Prop
 | .load _ x => l.isEmpty = true ∨ inT (st.ev x) l
 | _ => True
def qh (l : List Nat) (st st' : St) : Prop := l.isEmpty = true ∨ ∀ s, l.contains s = false → st'.rows s = st.rows s
def flg : List Nat → Bool
 | [] => false
 | k :: _ => k == 8888888
def inO (l : List Nat) : AV → Prop
 | .own s _ => l.contains s = true
 | _ => True
def yO (l : List Nat) : List AV → Prop
 | [] => True
 | v :: vs => inO l v ∧ yO l vs
def mX (l : List Nat) (site : Nat) (st : St) : Op → Prop
 | .load _ x => inT (st.ev x) l
 | .alloc _ => l.contains site = true
 | .box _ _ => l.contains site = true
 | .buildSlice _ _ _ => l.contains site = true
 | .makeSlice _ _ _ => l.contains site = true
 | .store _ x _ => inT (st.ev x) l
 | .call c => match c.callee with
  | .builtin .append => l.contains site = true ∧ yO l (evL st c.args.toList)
  | _ => False
 | _ => False
def vC (l : List Nat) (site : Nat) (st : St) (op : Op) : Prop := flg l = false ∨ mX l.tail site st op
def qx (BR : Nat → Bool) (l : List Nat) (site : Nat) (o : Oper) (st st' : St) : Prop := p6 l st o.op ∧ (3 ≤ cls BR o.op → qh l st st') ∧ vC l site st o.op
def flk : List Nat → Bool
 | [] => false
 | k :: _ => k == 7777777
def cz (l : List Nat) (R R2 : Nat → Option Row) : Nat → Option Row := fun s => match l.contains s with | true => R s | false => R2 s
def yP (P : Program) (BR : Nat → Bool) (ops : Array Oper) (l : List Nat) (site : Nat) (o : Oper) (st st' : St) (v : AV) : Prop :=
 st' = (({ st with rows := st'.rows } : St).put o.dst v) ∧ (∀ s, l.contains s = false → st'.rows s = st.rows s) ∧
  ∀ st2 : St, (∀ t ∈ o.looksAt ops, st2.tmps t = st.tmps t) → (∀ s, l.contains s = true → st2.rows s = st.rows s) → Gst P BR ops site o st2 (({ st2 with rows := cz l st'.rows st2.rows } : St).put o.dst v)
def qi (tbl : Tbl) (P : Program) (BR : Nat → Bool) (ops : Array Oper) (k site : Nat) (o : Oper) (st st' : St) : Prop := Gst P BR ops site o st st' ∧ qx BR (bM tbl k) site o st st' ∧ (flk (bM tbl k) = true → ∃ v, yP P BR ops (bM tbl k).tail site o st st' v)
def BC (tbl : Tbl) (kx ky : Nat) (x y : Oper) : Bool :=
 x.guard.isNone && (y.guard.isNone && (flg (bM tbl kx) && (flg (bM tbl ky) && (bM tbl kx).tail.all fun s => !(bM tbl ky).tail.contains s)))
def EK (tbl : Tbl) (BR : Nat → Bool) (kx ky : Nat) (x y : Oper) : Bool :=
 x.guard.isNone && s6 x.op && decide (3 ≤ cls BR y.op) && !(bM tbl kx).isEmpty && !(bM tbl ky).isEmpty && (bM tbl kx).all (fun s => !(bM tbl ky).contains s)
def vD (tbl : Tbl) (BR : Nat → Bool) (k : Nat) (x : Oper) : Bool := flk (bM tbl k) || (match flg (bM tbl k) with | true => x.guard.isNone | false => cls BR x.op == 0)
def mu (tbl : Tbl) (k : Nat) : List Nat := match flk (bM tbl k) || flg (bM tbl k) with | true => (bM tbl k).tail | false => []
def BD (tbl : Tbl) (BR : Nat → Bool) (kx ky : Nat) (x y : Oper) : Bool := vD tbl BR kx x && (vD tbl BR ky y && (mu tbl kx).all fun s => !(mu tbl ky).contains s)
def pb (tbl : Tbl) (BR : Nat → Bool) (ops : Array Oper) (kx ky : Nat) (x y : Oper) : Bool := match flk (bM tbl kx) || flk (bM tbl ky) with
 | true => x.apart ops y && BD tbl BR kx ky x y
 | false => nW BR ops x y || (x.apart ops y && (BC tbl kx ky x y || (EK tbl BR kx ky x y || EK tbl BR ky kx y x)))
section
variable {P : Program} {BR : Nat → Bool} {ops : Array Oper} {tbl : Tbl}
theorem nY {kx ky : Nat} {x y : Oper} (h : pb tbl BR ops kx ky x y = true) : x.apart ops y = true := by
 unfold pb nW at h
 split at h
 ·exact (Bool.and_eq_true_iff.1 h).1
 simp only [Bool.or_eq_true, Bool.and_eq_true] at h
 rcases h with h | h
 ·exact h.1
 ·exact h.1
theorem o8 {o : Op} (h : s6 o = true) : cls BR o = 1 := by
 cases o <;> first | (cases h; done) | rfl
theorem BE {l : List Nat} {o : Op} {st : St} (h : 3 ≤ cls BR o) : p6 l st o := by
 by_cases hl : s6 o = true
 ·rw [o8 hl] at h; omega
 ·cases o <;> first | trivial | exact absurd rfl hl
theorem vE {site : Nat} {o : Oper} {st st' : St} (hg : o.guard.isNone = true) (hl : s6 o.op = true) (h : Gst P BR ops site o st st') :
  ∃ T p sz ag v, o.op = .load T p ∧ szA P T = some (sz, ag) ∧ l9 ag sz st.rows (st.ev p) = some v ∧ st' = st.put o.dst v := by
 have hg' : o.guard = none := by simpa using hg
 unfold Gst at h
 simp only [hg'] at h
 unfold Stp at h
 simp only [o8 hl] at h
 obtain ⟨v, nw, h1, h2, rfl⟩ := h
 obtain ⟨T, p, hop⟩ : ∃ T p, o.op = .load T p := by
  cases ho : o.op <;> rw [ho] at hl <;> first | (cases hl; done) | exact ⟨_, _, rfl⟩
 rw [hop] at h1
 simp only [aMk] at h1
 split at h1
 ·rename_i sz ag hs
  split at h1
  ·rename_i v' hv
   simp only [Option.some.injEq, Prod.mk.injEq] at h1
   obtain ⟨rfl, rfl⟩ := h1
   exact ⟨T, p, sz, ag, v', hop, hs, hv, rfl⟩
  ·cases h1
 ·cases h1
theorem qy {site : Nat} {o : Oper} {st : St} {T : TypeId} {p : Operand} {sz : Nat} {ag : Bool} {v : AV} (hg : o.guard.isNone = true) (hop : o.op = .load T p) (hs : szA P T = some (sz, ag)) (hv : l9 ag sz st.rows (st.ev p) = some v) :
  Gst P BR ops site o st (st.put o.dst v) := by
 have hg' : o.guard = none := by simpa using hg
 unfold Gst
 simp only [hg']
 unfold Stp
 have : cls BR o.op = 1 := by rw [hop]; rfl
 simp only [this]
 exact ⟨v, none, by rw [hop]; simp only [aMk, hs, hv], (fun h => by cases h), rfl⟩
theorem o9 {ag : Bool} {sz : Nat} {R R' : Nat → Option Row} {a : AV} {l : List Nat} (h : inT a l) (hr : ∀ s, l.contains s = true → R' s = R s) : l9 ag sz R' a = l9 ag sz R a := by
 unfold inT at h
 split at h
 ·simp only [l9, hr _ h]
 ·rfl
 ·exact h.elim
theorem mK {o : Oper} {st st2 : St} (h : ∀ t ∈ o.looksAt ops, st2.tmps t = st.tmps t) {T : TypeId} {p : Operand} (hop : o.op = .load T p) : st2.ev p = st.ev p :=
 (St.ev_of (ops := ops) h p (by rw [hop]; simp [Op.operands])).symm
theorem jk {l : List Nat} {o : Oper} {st st2 : St} (h : ∀ t ∈ o.looksAt ops, st2.tmps t = st.tmps t) (hl : p6 l st o.op) : p6 l st2 o.op := by
 cases hop : o.op <;> first | trivial | skip
 rw [hop] at hl
 simp only [p6] at hl ⊢
 rw [mK h hop]; exact hl
theorem jl {l : List Nat} {R R2 : Nat → Option Row} (h : ∀ s, l.contains s = true → R2 s = R s) : cz l R R2 = R2 := by
 funext s
 unfold cz
 split
 ·rename_i hs; exact (h s hs).symm
 ·rfl
theorem kN {l : List Nat} {R R2 : Nat → Option Row} {k : Nat} {v : Option Row} (h : l.contains k = true) : cz l (upd R k v) R2 = upd (cz l R R2) k v := by
 funext s
 by_cases e : s = k
 ·subst e
  rw [ai]
  unfold cz
  rw [h, ai]
 ·rw [au _ _ e]
  unfold cz
  split
  ·rw [au _ _ e]
  ·rfl
theorem tN {o : Oper} {st st2 : St} (he : ∀ x ∈ o.op.operands, st.ev x = st2.ev x) : ∀ (l : List Operand), (∀ x ∈ l, x ∈ o.op.operands) → evL st2 l = evL st l
 | [], _ => rfl
 | x :: l, h => by
  simp only [evL]
  rw [tN he l (fun y hy => h y (by simp [hy])), he x (h x (by simp))]
theorem iO {l : List Nat} {site : Nat} {o : Oper} {st st2 : St} (h : ∀ t ∈ o.looksAt ops, st2.tmps t = st.tmps t) (hl : vC l site st o.op) : vC l site st2 o.op := by
 have he := St.ev_of (st := st) (st2 := st2) h
 rcases hl with hl | hl
 ·exact .inl hl
 refine .inr ?_
 cases hop : o.op <;> rw [hop] at hl he <;> simp only [mX] at hl ⊢ <;> first | exact hl | skip
 ·rw [← he _ (by simp [Op.operands])]; exact hl
 ·rw [← he _ (by simp [Op.operands])]; exact hl
 ·rename_i c
  split at hl
  ·refine ⟨hl.1, ?_⟩
   rw [tN (o := o) (st := st) (st2 := st2) (by rw [hop]; exact he) _ (fun x hx => iM hop x hx)]
   exact hl.2
  ·exact hl.elim
theorem w5 {sz : Nat} {R R2 : Nat → Option Row} {l : List Nat} {a : AV} (h : inO l a) (hr : ∀ s, l.contains s = true → R2 s = R s) : tn sz R2 a = tn sz R a := by
 cases a <;> first | rfl | skip
 rename_i s m
 simp only [tn, hr s h]
theorem ol {site : Nat} {st st2 : St} {op : Op} {l : List Nat} {v : AV} {rows' : Nat → Option Row} (hc : 3 ≤ cls BR op) (h : aWr P site st.ev st.rows op = some (v, rows')) (hev : ∀ x ∈ op.operands, st.ev x = st2.ev x) (ho : mX l site st op)
  (hr : ∀ s, l.contains s = true → st2.rows s = st.rows s) : (∀ s, l.contains s = false → rows' s = st.rows s) ∧ aWr P site st2.ev st2.rows op = some (v, cz l rows' st2.rows) ∧ (∀ s n, v = .own s n → l.contains s = true) := by
 cases op <;> simp only [aWr] at h <;> first | (cases h; done) | skip
 case store t x y =>
  simp only [mX] at ho
  simp only [aWr]
  rw [← hev x (by simp [Op.operands]), ← hev y (by simp [Op.operands])]
  split at h
  ·rename_i sz ag s off ht hx
   rw [hx] at ho
   have hs : l.contains s = true := ho
   have key : ∀ (r : Row), (∀ k, l.contains k = false → upd st.rows s (some r) k = st.rows k) ∧ upd st2.rows s (some r) = cz l (upd st.rows s (some r)) st2.rows := fun r =>
    ⟨fun k hk => au _ _ (fun e => by rw [e, hs] at hk; cases hk), by rw [kN hs, jl hr]⟩
   try simp only [ht, hx, hr s hs]
   split at h
   ·rename_i T cs hrow
    split at h
    ·rename_i hcond
     simp only [Option.some.injEq, Prod.mk.injEq] at h
     obtain ⟨rfl, rfl⟩ := h
     try simp only [hrow]
     rw [if_pos hcond, ← (key _).2]
     exact ⟨(key _).1, rfl, fun s n h => by cases h⟩
    ·cases h
   ·rename_i T z cs hrow
    split at h
    ·rename_i hcond
     simp only [Option.some.injEq, Prod.mk.injEq] at h
     obtain ⟨rfl, rfl⟩ := h
     try simp only [hrow]
     rw [if_pos hcond, ← (key _).2]
     exact ⟨(key _).1, rfl, fun s n h => by cases h⟩
    ·cases h
   ·rename_i T z cs hrow
    split at h
    ·rename_i hcond
     simp only [Option.some.injEq, Prod.mk.injEq] at h
     obtain ⟨rfl, rfl⟩ := h
     try simp only [hrow]
     rw [if_pos hcond, ← (key _).2]
     exact ⟨(key _).1, rfl, fun s n h => by cases h⟩
    ·cases h
   ·cases h
  ·cases h
 case call c =>
  simp only [mX] at ho
  simp only [aWr]
  split at h
  ·rename_i s x t t' hcal hargs htys
   rw [hcal] at ho
   simp only [hargs, evL, yO, and_true] at ho
   obtain ⟨hsite, h1, h2⟩ := ho
   have es : st2.ev s = st.ev s := (hev s (iM (o := ⟨none, .call c, 0, "", #[], none⟩) rfl s (by rw [hargs]; simp))).symm
   have ex : st2.ev x = st.ev x := (hev x (iM (o := ⟨none, .call c, 0, "", #[], none⟩) rfl x (by rw [hargs]; simp))).symm
   try simp only [hcal, hargs, htys]
   split at h
   ·rename_i htt
    rw [if_pos htt]
    split at h
    ·rename_i e sz he
     try simp only [he, ex, es]
     rw [w5 h2 hr]
     split at h
     ·rename_i z ys m hz hsrc
      try simp only [hz, hsrc]
      split at h
      ·rename_i hcond
       rw [if_pos hcond]
       split at h
       ·rename_i hev0
        split at h
        ·rename_i hm
         simp only [Option.some.injEq, Prod.mk.injEq] at h
         obtain ⟨rfl, rfl⟩ := h
         try simp only [hev0]
         rw [if_pos ⟨hm.1, by rw [hr site hsite]; exact hm.2⟩, kN hsite, jl hr]
         exact ⟨fun k hk => au _ _ (fun e => by rw [e, hsite] at hk; cases hk), rfl, fun s n h => by injection h with h _; subst h; exact hsite⟩
        ·cases h
       ·rename_i k n hev0
        rw [hev0] at h1
        have hk : l.contains k = true := h1
        split at h
        ·rename_i e' z' cs hrow
         split at h
         ·rename_i hm
          simp only [Option.some.injEq, Prod.mk.injEq] at h
          obtain ⟨rfl, rfl⟩ := h
          try simp only [hev0, hr k hk, hrow]
          rw [if_pos ⟨hm.1, hm.2.1, hm.2.2.1, by rw [hr site hsite]; exact hm.2.2.2⟩, kN hsite, kN hk, jl hr]
          refine ⟨fun j hj => ?_, rfl, fun s n h => by injection h with h _; subst h; exact hsite⟩
          rw [au _ _ (fun e => by rw [e, hsite] at hj; cases hj), au _ _ (fun e => by rw [e, hk] at hj; cases hj)]
         ·cases h
        ·cases h
       ·cases h
      ·cases h
     ·rename_i z hz hsrc
      try simp only [hz, hsrc]
      split at h
      ·rename_i hcond
       rw [if_pos hcond]
       obtain ⟨k, n, j, m, cs, ys, ea, eb, hk, hj, hnm, hsite', rfl, rfl⟩ := rp h
       rw [ea] at h1
       rw [eb] at h2
       have hkl : l.contains k = true := h1
       have hjl : l.contains j = true := h2
       rw [ea, eb]
       simp only [pR, hr k hkl, hr j hjl, hk, hj, Aj]
       rw [if_pos ⟨⟨trivial, trivial⟩, ⟨trivial, trivial⟩, hnm, by rw [hr site hsite]; exact hsite'⟩, kN hsite, kN hkl, jl hr]
       refine ⟨fun j hj => ?_, rfl, fun s n h => by injection h with h _; subst h; exact hsite⟩
       rw [au _ _ (fun e => by rw [e, hsite] at hj; cases hj), au _ _ (fun e => by rw [e, hkl] at hj; cases hj)]
      ·cases h
     ·cases h
    ·cases h
   ·cases h
  ·cases h
theorem IV {site : Nat} {o : Oper} {st st' : St} {l : List Nat} (hg : o.guard.isNone = true) (h : Gst P BR ops site o st st') (ho : mX l site st o.op) :
  ∃ v, st' = (({ st with rows := st'.rows } : St).put o.dst v) ∧ (∀ s, l.contains s = false → st'.rows s = st.rows s) ∧
   ∀ st2 : St, (∀ t ∈ o.looksAt ops, st2.tmps t = st.tmps t) → (∀ s, l.contains s = true → st2.rows s = st.rows s) → Gst P BR ops site o st2 (({ st2 with rows := cz l st'.rows st2.rows } : St).put o.dst v) := by
 have hg' : o.guard = none := by simpa using hg
 unfold Gst at h
 simp only [hg'] at h
 unfold Stp at h
 split at h
 ·rename_i hc
  exfalso
  cases hop : o.op <;> rw [hop] at hc ho <;> first | exact ho | (simp only [cls] at hc; omega) | skip
  rename_i c
  simp only [mX] at ho
  split at ho
  ·rename_i hcal
   simp only [cls, hcal] at hc
   omega
  ·exact ho
 ·rename_i hc
  obtain ⟨v, nw, h1, h2, rfl⟩ := h
  have mk : ∀ st2 : St, (∀ t ∈ o.looksAt ops, st2.tmps t = st.tmps t) → (nw.isSome = true → st2.rows site = none) → aMk P (FZ BR site) site st2.ev st2.rows o.op = some (v, nw) → Gst P BR ops site o st2 ((st2.add site nw.toList).put o.dst v) := fun st2 _ hs hm => by
   unfold Gst
   simp only [hg']
   unfold Stp
   simp only [hc]
   exact ⟨v, nw, hm, hs, rfl⟩
  refine ⟨v, by simp only [St.put_rows, St.add], ?_⟩
  simp only [St.put_rows]
  cases hop : o.op <;> rw [hop] at h1 ho <;> first | exact ho.elim | (simp only [aMk] at h1; cases h1; done) | skip
  case load T p =>
   simp only [aMk] at h1
   split at h1
   ·rename_i sz ag hsz
    split at h1
    ·rename_i v' hl
     simp only [Option.some.injEq, Prod.mk.injEq] at h1
     obtain ⟨rfl, rfl⟩ := h1
     refine ⟨fun s _ => rfl, fun st2 ht hr => ?_⟩
     have em : cz l ((st.add site (none : Option Row).toList).rows) st2.rows = st2.rows := jl hr
     rw [em]
     refine mk st2 ht (fun h => by cases h) ?_
     rw [hop]
     simp only [aMk, hsz]
     rw [mK ht hop, o9 ho hr, hl]
    ·cases h1
   ·cases h1
  all_goals
   have hs : l.contains site = true := ho
   cases nw with
   | none =>
    refine ⟨fun s _ => rfl, fun st2 ht hr => ?_⟩
    have em : cz l ((st.add site (none : Option Row).toList).rows) st2.rows = st2.rows := jl hr
    rw [em]
    refine mk st2 ht (fun h => by cases h) ?_
    have hfr := og (P := P) (fz := FZ BR site) (site := site) (rows := st.rows) (rows' := st.rows) (St.ev_of (ops := ops) (st := st) (st2 := st2) ht) (fun _ _ _ _ _ h => h) (by rw [hop]; exact h1)
    rw [hop] at hfr ⊢
    exact hfr
   | some r =>
    have er : (st.add site (some r).toList).rows = upd st.rows site (some r) := rfl
    refine ⟨fun s hsf => ?_, fun st2 ht hr => ?_⟩
    ·rw [er, au _ _ (fun e => by rw [e, hs] at hsf; cases hsf)]
    ·rw [er, kN hs, jl hr]
     refine mk st2 ht (fun _ => by rw [hr site hs]; exact h2 rfl) ?_
     have hfr := og (P := P) (fz := FZ BR site) (site := site) (rows := st.rows) (rows' := st.rows) (St.ev_of (ops := ops) (st := st) (st2 := st2) ht) (fun _ _ _ _ _ h => h) (by rw [hop]; exact h1)
     rw [hop] at hfr ⊢
     exact hfr
 ·rename_i hc
  exfalso
  obtain ⟨c, f, _, _, _, _, hop, hcal, _⟩ := h
  rw [hop] at ho
  rcases hcal with ⟨hcal, _⟩ | ⟨_, _, hcal, _⟩ <;> simp only [mX, hcal] at ho
 ·rename_i hc
  obtain ⟨v, rows', h1, rfl⟩ := h
  have fin : ∀ (st2 : St), pS (aWr P site st2.ev st2.rows o.op) (FZ BR site) = some (v, cz l rows' st2.rows) → Gst P BR ops site o st2 (({ st2 with rows := cz l rows' st2.rows } : St).put o.dst v) := fun st2 hm => by
   unfold Gst
   simp only [hg']
   unfold Stp
   simp only [hc]
   exact ⟨v, _, hm, rfl⟩
  refine ⟨v, by simp only [St.put_rows], ?_⟩
  simp only [St.put_rows]
  cases hfz : FZ BR site with
  | false =>
   rw [hfz] at h1 fin
   simp only [pS] at h1 fin
   have base := ol (BR := BR) (st2 := st) (by omega) h1 (fun _ _ => rfl) ho (fun _ _ => rfl)
   refine ⟨base.1, fun st2 ht hr => fin st2 ?_⟩
   exact (ol (BR := BR) (st2 := st2) (by omega) h1 (St.ev_of (ops := ops) (st := st) (st2 := st2) ht) ho hr).2.1
  | true =>
   rw [hfz] at h1 fin
   obtain ⟨s, n, rows, E, sz, cs, g1, g2, rfl, rfl⟩ := tp h1
   have base := ol (BR := BR) (st2 := st) (by omega) g1 (fun _ _ => rfl) ho (fun _ _ => rfl)
   have hs := base.2.2 s n rfl
   refine ⟨fun k hk => ?_, fun st2 ht hr => fin st2 ?_⟩
   ·rw [au _ _ (fun e => by rw [e, hs] at hk; cases hk)]; exact base.1 k hk
   ·have := (ol (BR := BR) (st2 := st2) (by omega) g1 (St.ev_of (ops := ops) (st := st) (st2 := st2) ht) ho hr).2.1
    rw [this, kN hs]
    have em : cz l rows st2.rows s = some (.row E sz cs) := by unfold cz; rw [hs]; exact g2
    simp only [pS, Dw, Dv, em, Du]
 ·rename_i hc
  exfalso
  obtain ⟨ι, nt, c, f, _, _, _, _, hop, hcal, _⟩ := h
  rw [hop] at ho
  rcases hcal with ⟨hcal, _⟩ | ⟨_, _, hcal, _⟩ <;> simp only [mX, hcal] at ho
 ·rename_i hc
  exfalso
  obtain ⟨ι, nt, c, f, _, _, _, _, hop, hcal, _⟩ := h
  rw [hop] at ho
  rcases hcal with ⟨hcal, _⟩ | ⟨_, _, hcal, _⟩ <;> simp only [mX, hcal] at ho
 ·exact h.elim
theorem KF {kx ky sx sy : Nat} {x y : Oper} {st s1 s2 : St} (hx : qi tbl P BR ops kx sx x st s1) (hy : qi tbl P BR ops ky sy y s1 s2) (hi : BC tbl ky kx y x = true) (hap : y.apart ops x = true) :
  ∃ s1', Gst P BR ops sy y st s1' ∧ qx BR (bM tbl ky) sy y st s1' ∧ Gst P BR ops sx x s1' s2 ∧ qx BR (bM tbl kx) sx x s1' s2 := by
 obtain ⟨a1, a2, a3⟩ := Oper.apart_spec hap
 obtain ⟨hx, ⟨px1, px2, px3⟩, _⟩ := hx
 obtain ⟨hy, ⟨py1, py2, py3⟩, _⟩ := hy
 unfold BC at hi
 simp only [Bool.and_eq_true] at hi
 obtain ⟨g1, g2, f1, f2, hd⟩ := hi
 have dis : ∀ s, (bM tbl ky).tail.contains s = true → (bM tbl kx).tail.contains s = false := fun s hs => by
  have := List.all_eq_true.1 hd s (by simpa using hs)
  simpa using this
 have ox : mX (bM tbl kx).tail sx st x.op := by
  rcases px3 with h | h
  ·rw [f2] at h; cases h
  ·exact h
 have yt : ∀ t ∈ y.looksAt ops, st.tmps t = s1.tmps t := fun t ht => (kK hx t (fun e => a3 t e ht)).symm
 have oy1 : mX (bM tbl ky).tail sy s1 y.op := by
  rcases py3 with h | h
  ·rw [f1] at h; cases h
  ·exact h
 obtain ⟨v, e1, k1, F1⟩ := IV g2 hx ox
 obtain ⟨u, e2, k2, F2⟩ := IV g1 hy oy1
 have ny := F2 st yt (fun s hs => (k1 s (dis s hs)).symm)
 have xt : ∀ {s1' : St}, Gst P BR ops sy y st s1' → ∀ t ∈ x.looksAt ops, s1'.tmps t = st.tmps t := fun hg t ht => kK hg t (fun e => a1 t e ht)
 have nx := F1 _ (xt ny) (fun s hs => by
   rw [St.put_rows]
   show cz (bM tbl ky).tail s2.rows st.rows s = st.rows s
   unfold cz
   split
   · rename_i hq
     have := dis s hq
     rw [hs] at this; cases this
   · rfl)
 have er : cz (bM tbl kx).tail s1.rows (({ st with rows := cz (bM tbl ky).tail s2.rows st.rows } : St).put y.dst u).rows = s2.rows := by
  rw [St.put_rows]
  funext s
  show cz (bM tbl kx).tail s1.rows (cz (bM tbl ky).tail s2.rows st.rows) s = s2.rows s
  unfold cz
  split
  ·rename_i hs
   refine (k2 s ?_).symm
   cases hq : (bM tbl ky).tail.contains s with
   | false => rfl
   | true => rw [dis s hq] at hs; cases hs
  ·rename_i hs
   split
   ·rfl
   ·rename_i hq
    rw [k2 s hq, k1 s hs]
 have e3 : s2 = ({ (({ st with rows := cz (bM tbl ky).tail s2.rows st.rows } : St).put y.dst u) with rows := s2.rows } : St).put x.dst v := by
  rw [dX]
  conv => lhs; rw [e2, e1]
  rw [dX, fq _ _ _ (fun d hd e => a2 d e hd)]
 rw [er] at nx
 rw [← e3] at nx
 refine ⟨_, ny, ⟨jk yt py1, fun hcy => ?_, iO yt py3⟩, nx, ⟨jk (xt ny) px1, fun hcx => ?_, iO (xt ny) px3⟩⟩
 ·have := py2 hcy
  rcases this with h | h
  ·exact .inl h
  ·refine .inr fun s hs => ?_
   rw [St.put_rows]
   show cz (bM tbl ky).tail s2.rows st.rows s = st.rows s
   unfold cz
   split
   ·rename_i hq
    exfalso
    have : (bM tbl ky).contains s = true := by
     have h1 : s ∈ (bM tbl ky).tail := by simpa using hq
     simpa using List.mem_of_mem_tail h1
    rw [hs] at this; cases this
   ·rfl
 ·have := px2 hcx
  rcases this with h | h
  ·exact .inl h
  ·refine .inr fun s hs => ?_
   rw [St.put_rows]
   show s2.rows s = cz (bM tbl ky).tail s2.rows st.rows s
   unfold cz
   split
   ·rfl
   ·rename_i hq
    rw [k2 s hq, h s hs]
theorem yP.move {l : List Nat} {site : Nat} {o : Oper} {st st' : St} {v : AV} (h : yP P BR ops l site o st st' v) {st2 : St} (ht : ∀ t ∈ o.looksAt ops, st2.tmps t = st.tmps t) (hr : ∀ s, l.contains s = true → st2.rows s = st.rows s) :
  yP P BR ops l site o st2 (({ st2 with rows := cz l st'.rows st2.rows } : St).put o.dst v) v := by
 refine ⟨by simp only [St.put_rows], fun s hs => ?_, fun st3 h3 hr3 => ?_⟩
 ·rw [St.put_rows]
  show cz l st'.rows st2.rows s = st2.rows s
  unfold cz; rw [hs]
 ·have := h.2.2 st3 (fun t hm => (h3 t hm).trans (ht t hm)) (fun s hs => (hr3 s hs).trans (hr s hs))
  have e : cz l (({ st2 with rows := cz l st'.rows st2.rows } : St).put o.dst v).rows st3.rows = cz l st'.rows st3.rows := by
   rw [St.put_rows]
   funext s
   show cz l (cz l st'.rows st2.rows) st3.rows s = cz l st'.rows st3.rows s
   unfold cz
   split
   ·rfl
   ·rfl
  rw [e]; exact this
theorem KG {k site : Nat} {o : Oper} {st st' : St} (h : qi tbl P BR ops k site o st st') (hf : vD tbl BR k o = true) : ∃ v, yP P BR ops (mu tbl k) site o st st' v := by
 unfold vD at hf
 unfold mu
 obtain ⟨h1, ⟨_, _, h3⟩, h4⟩ := h
 cases hk : flk (bM tbl k) with
 | true => exact h4 hk
 | false =>
  rw [hk, Bool.false_or] at hf
  rw [Bool.false_or]
  cases hg : flg (bM tbl k) with
  | true =>
   rw [hg] at hf
   have ho : mX (bM tbl k).tail site st o.op := by
    rcases h3 with h | h
    ·rw [hg] at h; cases h
    ·exact h
   exact IV hf h1 ho
  | false =>
   rw [hg] at hf
   obtain ⟨v, rfl, hm⟩ := h1.pure (by simpa using hf)
   have er : ∀ q : St, ({ q with rows := cz [] st.rows q.rows } : St) = q := fun q => by
    have : cz [] st.rows q.rows = q.rows := by funext s; unfold cz; simp
    rw [this]
   refine ⟨v, by simp only [St.put_rows], fun s _ => by rw [St.put_rows], fun st2 ht hr => ?_⟩
   rw [St.put_rows, er]
   exact hm st2 ht
theorem BF {k : Nat} (h : flk (bM tbl k) = true) : mu tbl k = (bM tbl k).tail := by unfold mu; rw [h]; rfl
theorem tO {k : Nat} {o : Oper} {st st' : St} (hf : vD tbl BR k o = true) (hc : 3 ≤ cls BR o.op) (h : ∀ s, (mu tbl k).contains s = false → st'.rows s = st.rows s) : qh (bM tbl k) st st' := by
 refine .inr fun s hs => h s ?_
 have ht : (bM tbl k).tail.contains s = false := by
  cases hq : (bM tbl k).tail.contains s with
  | false => rfl
  | true =>
   exfalso
   have : (bM tbl k).contains s = true := by
    have h1 : s ∈ (bM tbl k).tail := by simpa using hq
    simpa using List.mem_of_mem_tail h1
   rw [hs] at this; cases this
 unfold mu
 split
 ·exact ht
 ·rfl
theorem KH {kx ky sx sy : Nat} {x y : Oper} {st s1 s2 : St} (hx : qi tbl P BR ops kx sx x st s1) (hy : qi tbl P BR ops ky sy y s1 s2) (hi : BD tbl BR ky kx y x = true) (hap : y.apart ops x = true) :
  ∃ s1', qi tbl P BR ops ky sy y st s1' ∧ qi tbl P BR ops kx sx x s1' s2 := by
 obtain ⟨a1, a2, a3⟩ := Oper.apart_spec hap
 unfold BD at hi
 simp only [Bool.and_eq_true] at hi
 obtain ⟨f1, f2, hd⟩ := hi
 have dis : ∀ s, (mu tbl ky).contains s = true → (mu tbl kx).contains s = false := fun s hs => by
  have := List.all_eq_true.1 hd s (by simpa using hs)
  simpa using this
 obtain ⟨v, Fx⟩ := KG hx f2
 obtain ⟨u, Fy⟩ := KG hy f1
 obtain ⟨hx, ⟨px1, px2, px3⟩, pxk⟩ := hx
 obtain ⟨hy, ⟨py1, py2, py3⟩, pyk⟩ := hy
 have yt : ∀ t ∈ y.looksAt ops, st.tmps t = s1.tmps t := fun t ht => (kK hx t (fun e => a3 t e ht)).symm
 have yr : ∀ s, (mu tbl ky).contains s = true → st.rows s = s1.rows s := fun s hs => (Fx.2.1 s (dis s hs)).symm
 have ny := Fy.2.2 st yt yr
 have my := Fy.move yt yr
 have xt : ∀ {s1' : St}, Gst P BR ops sy y st s1' → ∀ t ∈ x.looksAt ops, s1'.tmps t = st.tmps t := fun hg t ht => kK hg t (fun e => a1 t e ht)
 have xr : ∀ s, (mu tbl kx).contains s = true → (({ st with rows := cz (mu tbl ky) s2.rows st.rows } : St).put y.dst u).rows s = st.rows s := fun s hs => by
  rw [St.put_rows]
  show cz (mu tbl ky) s2.rows st.rows s = st.rows s
  unfold cz
  split
  ·rename_i hq
   have := dis s hq
   rw [hs] at this; cases this
  ·rfl
 have nx := Fx.2.2 _ (xt ny) xr
 have mx := Fx.move (xt ny) xr
 have er : cz (mu tbl kx) s1.rows (({ st with rows := cz (mu tbl ky) s2.rows st.rows } : St).put y.dst u).rows = s2.rows := by
  rw [St.put_rows]
  funext s
  show cz (mu tbl kx) s1.rows (cz (mu tbl ky) s2.rows st.rows) s = s2.rows s
  unfold cz
  split
  ·rename_i hs
   refine (Fy.2.1 s ?_).symm
   cases hq : (mu tbl ky).contains s with
   | false => rfl
   | true => rw [dis s hq] at hs; cases hs
  ·rename_i hs
   split
   ·rfl
   ·rename_i hq
    rw [Fy.2.1 s hq, Fx.2.1 s hs]
 have e3 : s2 = ({ (({ st with rows := cz (mu tbl ky) s2.rows st.rows } : St).put y.dst u) with rows := s2.rows } : St).put x.dst v := by
  rw [dX]
  conv => lhs; rw [Fy.1, Fx.1]
  rw [dX, fq _ _ _ (fun d hd e => a2 d e hd)]
 rw [er] at nx mx
 rw [← e3] at nx mx
 refine ⟨_, ⟨ny, ⟨jk yt py1, fun hcy => tO f1 hcy my.2.1, iO yt py3⟩, fun hk => ⟨u, by rw [← BF hk]; exact my⟩⟩,
   ⟨nx, ⟨jk (xt ny) px1, fun hcx => tO f2 hcx mx.2.1, iO (xt ny) px3⟩, fun hk => ⟨v, by rw [← BF hk]; exact mx⟩⟩⟩
theorem KI {kx ky sx sy : Nat} {x y : Oper} {st s1 s2 : St} (hx : qi tbl P BR ops kx sx x st s1) (hy : qi tbl P BR ops ky sy y s1 s2) (hi : pb tbl BR ops ky kx y x = true) (hs : sx + 16 ≤ sy ∨ sy + 16 ≤ sx)
  (hlive : ∀ t ∈ y.looksAt ops, ∀ s, pY (st.tmps t) s → st.rows s ≠ none) : ∃ s1', qi tbl P BR ops ky sy y st s1' ∧ qi tbl P BR ops kx sx x s1' s2 := by
 obtain ⟨a1, a2, a3⟩ := Oper.apart_spec (nY hi)
 have hxT := hx
 have hyT := hy
 obtain ⟨hx, ⟨px1, px2, px3⟩, pxk⟩ := hx
 obtain ⟨hy, ⟨py1, py2, py3⟩, pyk⟩ := hy
 have yt : ∀ t ∈ y.looksAt ops, st.tmps t = s1.tmps t := fun t ht => (kK hx t (fun e => a3 t e ht)).symm
 have py : p6 (bM tbl ky) st y.op := jk yt py1
 have xt : ∀ {s1' : St}, Gst P BR ops sy y st s1' → ∀ t ∈ x.looksAt ops, s1'.tmps t = st.tmps t := fun hg t ht => kK hg t (fun e => a1 t e ht)
 have py3' : vC (bM tbl ky) sy st y.op := iO yt py3
 have hap := nY hi
 unfold pb at hi
 split at hi
 ·exact KH hxT hyT (Bool.and_eq_true_iff.1 hi).2 hap
 rename_i hnk
 have nk1 : ¬ flk (bM tbl ky) = true := fun e => by rw [e] at hnk; cases hnk
 have nk2 : ¬ flk (bM tbl kx) = true := fun e => by rw [e, Bool.or_true] at hnk; cases hnk
 suffices H : ∃ s1', (Gst P BR ops sy y st s1' ∧ qx BR (bM tbl ky) sy y st s1') ∧ (Gst P BR ops sx x s1' s2 ∧ qx BR (bM tbl kx) sx x s1' s2) by
  obtain ⟨s1', ⟨h1, h2⟩, h3, h4⟩ := H
  exact ⟨s1', ⟨h1, h2, fun h => absurd h nk1⟩, ⟨h3, h4, fun h => absurd h nk2⟩⟩
 simp only [Bool.or_eq_true, Bool.and_eq_true] at hi
 rcases hi with hB | ⟨_, hT | hT | hT⟩
 ·obtain ⟨s1', g1, g2⟩ := K7 hx hy hB hs hlive
  have hc := hB
  unfold nW at hc
  simp only [Bool.or_eq_true, Bool.and_eq_true, beq_iff_eq, decide_eq_true_eq] at hc
  refine ⟨s1', ⟨g1, py, fun hcy => ?_, py3'⟩, ⟨g2, jk (xt g1) px1, fun hcx => ?_, iO (xt g1) px3⟩⟩
  ·have hx0 : cls BR x.op = 0 := by omega
   obtain ⟨v, rfl, _⟩ := hx.pure hx0
   obtain ⟨v', rfl, _⟩ := g2.pure hx0
   have := py2 hcy
   simp only [qh, St.put_rows] at this ⊢
   exact this
  ·have hy0 : cls BR y.op = 0 := by omega
   obtain ⟨v, rfl, _⟩ := hy.pure hy0
   obtain ⟨v', rfl, _⟩ := g1.pure hy0
   have := px2 hcx
   simp only [qh, St.put_rows] at this ⊢
   exact this
 ·obtain ⟨s1', h1, h2, h3, h4⟩ := KF hxT hyT hT hap
  exact ⟨s1', ⟨h1, h2⟩, h3, h4⟩
 ·-- y reads, x writes
  unfold EK at hT
  simp only [Bool.and_eq_true, Bool.not_eq_true', decide_eq_true_eq, List.all_eq_true] at hT
  obtain ⟨⟨⟨⟨⟨t1, t2⟩, t3⟩, t4⟩, t5⟩, t6⟩ := hT
  obtain ⟨T, p, sz, ag, u, hop, hsz, hu, rfl⟩ := vE t1 t2 hy
  have ep : st.ev p = s1.ev p := mK yt hop
  have hin : inT (st.ev p) (bM tbl ky) := by
   rw [hop] at py
   rcases py with h | h
   ·rw [h] at t4; cases t4
   ·exact h
  have hw : ∀ s, (bM tbl kx).contains s = false → s1.rows s = st.rows s := by
   rcases px2 t3 with h | h
   ·rw [h] at t5; cases t5
   ·exact h
  have hu' : l9 ag sz st.rows (st.ev p) = some u := by
   rw [← hu, ← ep]
   refine (o9 hin fun s hs => (hw s ?_).symm)
   have := t6 s (by simpa using hs)
   simpa using this
  have g1 : Gst P BR ops sy y st (st.put y.dst u) := qy t1 hop hsz hu'
  obtain ⟨v2, rows2, e1, h2⟩ := hx.congr (st2 := st.put y.dst u) (fun t ht => by rw [St.put_tmps_ne _ _ _ _ (fun e => a1 t e ht)]) (by rw [St.put_rows])
  have e2 : s1.put y.dst u = ({ st.put y.dst u with rows := rows2 } : St).put x.dst v2 := by
   rw [e1, dX, fq _ _ _ (fun d hd e => a2 d e hd)]
  refine ⟨_, ⟨g1, py, fun hcy => ?_, py3'⟩, ⟨by rw [e2]; exact h2, BE t3, fun _ => ?_, iO (xt g1) px3⟩⟩
  ·rw [o8 t2] at hcy; omega
  ·have := px2 t3
   simp only [qh, St.put_rows] at this ⊢
   exact this
 ·-- x reads, y writes
  unfold EK at hT
  simp only [Bool.and_eq_true, Bool.not_eq_true', decide_eq_true_eq, List.all_eq_true] at hT
  obtain ⟨⟨⟨⟨⟨t1, t2⟩, t3⟩, t4⟩, t5⟩, t6⟩ := hT
  obtain ⟨T, p, sz, ag, v, hop, hsz, hv, rfl⟩ := vE t1 t2 hx
  have hin : inT (st.ev p) (bM tbl kx) := by
   rw [hop] at px1
   rcases px1 with h | h
   ·rw [h] at t4; cases t4
   ·exact h
  have hw : ∀ s, (bM tbl ky).contains s = false → s2.rows s = st.rows s := by
   rcases py2 t3 with h | h
   ·rw [h] at t5; cases t5
   ·simpa only [St.put_rows] using h
  obtain ⟨v2, rows2, e1, h2⟩ := hy.congr (st2 := st) (fun t ht => yt t ht) (by rw [St.put_rows])
  have er : s2.rows = rows2 := by rw [e1, St.put_rows]
  have ep : (({ st with rows := rows2 } : St).put y.dst v2).ev p = st.ev p := mK (xt h2) hop
  have hl : l9 ag sz (({ st with rows := rows2 } : St).put y.dst v2).rows ((({ st with rows := rows2 } : St).put y.dst v2).ev p) = some v := by
   rw [ep, St.put_rows, ← hv]
   refine o9 hin fun s hs => ?_
   have := t6 s (by simpa using hs)
   rw [← er]
   exact hw s (by simpa using this)
  have g2 : Gst P BR ops sx x _ _ := qy t1 hop hsz hl
  have e2 : s2 = (({ st with rows := rows2 } : St).put y.dst v2).put x.dst v := by
   rw [e1, dX, fq _ _ _ (fun d hd e => a2 d e hd)]
  refine ⟨_, ⟨h2, py, fun hcy => ?_, py3'⟩, ⟨by rw [e2]; exact g2, jk (xt h2) px1, fun hcx => ?_, iO (xt h2) px3⟩⟩
  ·have := py2 hcy
   rw [← er] at *
   simp only [qh, St.put_rows] at this ⊢
   exact this
  ·rw [o8 t2] at hcx; omega
def s7 (tbl : Tbl) (P : Program) (BR : Nat → Bool) (ops : Array Oper) (bs : Nat) : List Nat → St → (St → Prop) → Prop
 | [], st, K => K st
 | i :: L, st, K => ∃ o st', ops[i]? = some o ∧ qi tbl P BR ops i (bs + 16 * i) o st st' ∧ s7 tbl P BR ops bs L st' K
end
section
variable {P : Program} {BR : Nat → Bool} {ops : Array Oper} {C : Ctx} {M : Imm} {ρ : Plc} {st : St} {a : Act} {w : World} {tbl : Tbl}
def yQ (tbl : Tbl) (BR : Nat → Bool) (ops : Array Oper) : Bool :=
 (List.range ops.size).all fun i => match ops[i]? with
  | some o => (eP ops i).all (fun k => decide (k < i)) && (let an := o2 ops i (eP ops i); (List.range i).all fun k => an.contains k || match ops[k]? with | some x => pb tbl BR ops i k o x | none => false)
  | none => false
structure ROKT (tbl : Tbl) (BR : Nat → Bool) (ops : Array Oper) : Prop where
 deps : ∀ i, i < ops.size → ∀ k ∈ eP ops i, k < i
 ind : ∀ i k o x, k < i → ops[i]? = some o → ops[k]? = some x → k ∈ o2 ops i (eP ops i) ∨ pb tbl BR ops i k o x = true
theorem ROKT.of (h : yQ tbl BR ops = true) : ROKT tbl BR ops := by
 unfold yQ at h
 refine ⟨fun i hi k hk => ?_, fun i k o x hki ho hx => ?_⟩
 ·have := List.all_eq_true.1 h i (List.mem_range.2 hi)
  rw [Array.getElem?_eq_getElem hi] at this
  simp only [Bool.and_eq_true] at this
  simpa using List.all_eq_true.1 this.1 k hk
 ·have hi : i < ops.size := (Array.getElem?_eq_some_iff.1 ho).1
  have := List.all_eq_true.1 h i (List.mem_range.2 hi)
  rw [ho] at this
  simp only [Bool.and_eq_true] at this
  have := List.all_eq_true.1 this.2 k (List.mem_range.2 hki)
  rw [hx] at this
  simpa using this
theorem qz {bs : Nat} {K : St → Prop} {i : Nat} {o : Oper} (ho : ops[i]? = some o) : ∀ (L1 L2 : List Nat) (st : St), (∀ k ∈ L1, k ≠ i ∧ ∀ x, ops[k]? = some x → pb tbl BR ops i k o x = true) →
  (∀ t ∈ o.looksAt ops, ∀ s, pY (st.tmps t) s → st.rows s ≠ none) → s7 tbl P BR ops bs (L1 ++ i :: L2) st K → s7 tbl P BR ops bs (i :: (L1 ++ L2)) st K
 | [], L2, st, _, _, h => h
 | k :: L1, L2, st, hL, hlive, h => by
  obtain ⟨x, s1, hx, hg, h⟩ := h
  obtain ⟨hki, hind⟩ := hL k (by simp)
  have hi := hind x hx
  have ha : o.apart ops x = true := nY hi
  obtain ⟨a1, a2, a3⟩ := Oper.apart_spec ha
  have ih := qz ho L1 L2 s1 (fun k' hk' => hL k' (by simp [hk'])) (fun t ht s hr => by
    rw [kK hg.1 t (fun e => a3 t e ht)] at hr
    exact uu hg.1 s (hlive t ht s hr)) h
  obtain ⟨o', s2, ho', hg2, h2⟩ := ih
  rw [ho] at ho'; injection ho' with ho'; subst ho'
  obtain ⟨s1', e1, e2⟩ := KI hg hg2 hi (by omega) hlive
  exact ⟨o, s1', ho, e1, x, s2, hx, e2, h2⟩
theorem yR (hN : mp C.N ops = true) (hOK : ROKT tbl BR ops) {Q : Exit → Act → World → Prop} {K : St → Prop} (hK : ∀ st' M' ρ' a' w', K st' → Rel C M' ρ' st' a' w' → Q .normal a' w') (bs : Nat) :
  ∀ (n : Nat) (L : List Nat) (listed : Array Bool) (st : St) (M : Imm) (ρ : Plc) (a : Act) (w : World), L.length = n → L.Pairwise (· < ·) → (∀ i, i ∈ L ↔ i < ops.size ∧ listed.getD i true = false) → listed.size = ops.size → oi ops listed →
   s7 tbl P BR ops bs L st K → Rel C M ρ st a w → wpAny P .any ops Q n listed a w := by
 intro n
 induction n with
 | zero =>
  intro L listed st M ρ a w hl hp hL hsz hc h hR
  have : L = [] := List.eq_nil_of_length_eq_zero hl
  subst this
  refine ⟨?_, hK _ _ _ _ _ h hR⟩
  cases hq : Region.ready .any ops listed with
  | nil => rfl
  | cons i r =>
   exfalso
   have hr : i ∈ Region.ready .any ops listed := by rw [hq]; simp
   obtain ⟨h1, o, ho, _⟩ := mem_ready.1 hr
   have := (hL i).2 ⟨(Array.getElem?_eq_some_iff.1 ho).1, h1⟩
   simp at this
 | succ n ih =>
  intro L listed st M ρ a w hl hp hL hsz hc h hR
  have lof : ∀ k, k < ops.size → k ∉ L → listed.getD k false = true := fun k hk hn => by
   have hk' : k < listed.size := by omega
   cases hq : listed[k] with
   | true => simp [hk', hq]
   | false =>
    exfalso
    exact hn ((hL k).2 ⟨hk, by simp [hk', hq]⟩)
  refine ⟨fun h0 => ?_, fun i hi => ?_⟩
  ·exfalso
   cases L with
   | nil => simp at hl
   | cons i L =>
    have hiL := (hL i).1 (by simp)
    have ho : ops[i]? = some ops[i] := Array.getElem?_eq_getElem hiL.1
    have hr : i ∈ Region.ready .any ops listed := mem_ready.2 ⟨hiL.2, _, ho, fun e he hb => by
      have hk : e.on ∈ eP ops i := by
        simp only [eP, ho, List.mem_map, List.mem_filter]
        exact ⟨e, ⟨by simpa using he, hb⟩, rfl⟩
      have hlt := hOK.deps i hiL.1 _ hk
      refine lof _ (by omega) (fun hm => ?_)
      rcases List.mem_cons.1 hm with hm | hm
      · omega
      · have := (List.pairwise_cons.1 hp).1 _ hm
        omega⟩
    rw [h0] at hr; cases hr
  ·obtain ⟨h1, o, ho, _⟩ := mem_ready.1 hi
   have hiL : i ∈ L := (hL i).2 ⟨(Array.getElem?_eq_some_iff.1 ho).1, h1⟩
   obtain ⟨L1, L2, rfl⟩ := List.append_of_mem hiL
   have hlt1 : ∀ k ∈ L1, k < i := fun k hk => (List.pairwise_append.1 hp).2.2 k hk i (by simp)
   have hunl : ∀ k ∈ L1, listed.getD k false = true → False := fun k hk ht => by
    have := ((hL k).1 (by simp [hk])).2
    have hk' : k < listed.size := by have := ((hL k).1 (by simp [hk])).1; omega
    simp [hk'] at this ht
    rw [this] at ht; cases ht
   have hf := qz ho L1 L2 st (fun k hk => ⟨by have := hlt1 k hk; omega, fun x hx => by
     rcases hOK.ind i k o x (hlt1 k hk) ho hx with h' | h'
     · exact (hunl k hk (jz hc i _ (o3 hi) k h')).elim
     · exact h'⟩) (fun t ht s hr => ut hR t s hr) h
   obtain ⟨o', st', ho', hg, hrest⟩ := hf
   rw [ho] at ho'; injection ho' with ho'; subst ho'
   have hpw : (L1 ++ L2).Pairwise (· < ·) := by
    rw [List.pairwise_append] at hp ⊢
    exact ⟨hp.1, (List.pairwise_cons.1 hp.2.1).2, fun x hx y hy => hp.2.2 x hx y (by simp [hy])⟩
   have hni : i ∉ L1 ++ L2 := by
    intro hm
    rcases List.mem_append.1 hm with hm | hm
    ·have := hlt1 i hm; omega
    ·have := (List.pairwise_cons.1 (List.pairwise_append.1 hp).2.1).1 i hm; omega
   refine tr ho hg.1 hR (oh hN ho) (fun M' ρ' a' w' hR' => ih (L1 ++ L2) _ st' M' ρ' a' w' (by simp at hl ⊢; omega) hpw (fun j => ?_) (by simpa using hsz) (hc.set hi) hrest hR')
   by_cases hji : j = i
   ·subst hji
    have hjs : j < listed.size := by rw [hsz]; exact (Array.getElem?_eq_some_iff.1 ho).1
    constructor
    ·intro hm; exact absurd hm hni
    ·rintro ⟨_, hm⟩; simp [hjs] at hm
   ·rw [getD_set_ne true (Ne.symm hji), ← hL j]
    simp [hji]
end
section
variable {P : Program} {BR : Nat → Bool} {C : Ctx} {st : St} {Q : Exit → St → Prop} {tbl : Tbl}
theorem tP {ops : Array Oper} {bs : Nat} {K : St → Prop} : ∀ {L : List Nat} {st : St}, s7 tbl P BR ops bs L st K → sj P BR ops bs L st K
 | [], _, h => h
 | _ :: _, _, ⟨o, st', h1, h2, h3⟩ => ⟨o, st', h1, h2.1, tP h3⟩
theorem w6 {id : Nat} {ops : Array Oper} {draw : Bool} (hm : draw = true → P.follows .mixedOrders = true) (hN : mp C.N ops = true) (hB : draw = true → yQ tbl BR ops = true)
  (h : s7 tbl P BR ops st.bs (List.range ops.size) st (fun st' => Q .normal { st' with bs := st.bs + 16 * ops.size })) : AW P C (.region id ops draw) st Q := fun M ρ a w hR => by
 have hK : ∀ st' M' ρ' a' w', Q .normal { st' with bs := st.bs + 16 * ops.size } → Rel C M' ρ' st' a' w' → ∃ st' M' ρ', Q .normal st' ∧ Rel C M' ρ' st' a' w' := fun st' M' ρ' a' w' h1 h2 => ⟨_, M', ρ', h1, h2.next _⟩
 cases draw with
 | false => exact wp_region (qB hN (Q := fun e a' w' => ∃ st' M' ρ', Q e st' ∧ Rel C M' ρ' st' a' w') hK _ _ _ _ _ _ _ (tP h) hR)
 | true =>
  refine wp_region_any (hm rfl) ?_
  refine yR hN (ROKT.of (hB rfl)) (Q := fun e a' w' => ∃ st' M' ρ', Q e st' ∧ Rel C M' ρ' st' a' w') hK st.bs ops.size (List.range ops.size) _ st M ρ a _ (by simp) List.pairwise_lt_range (fun i => ?_) (by simp) (fun j hj => ?_) h hR.drew
  ·constructor
   ·intro hi
    have := List.mem_range.1 hi
    exact ⟨this, by simp [this]⟩
   ·rintro ⟨hi, _⟩; exact List.mem_range.2 hi
  ·rw [getD_replicate_false] at hj; cases hj
end
def IW (P : Program) (l : List Nat) (f : FuncId) (args : List AV) (st : St) (site : Nat) (dst : Option Tmp) (K : St → Prop) : Prop :=
 ∃ (ι : List Nat) (ret : AV) (mem' : List Row), ι.Nodup ∧ (∀ s ∈ ι, ∃ r, st.rows s = some r ∧ r.solid = true) ∧ aV P f (args.map (bq ι fun _ => none)) (ι.map (bT ι (fun _ => none) st.rows)) ret mem' ∧ ι.length ≤ mem'.length ∧
  mem'.length - ι.length ≤ 16 ∧ (∀ j, j < mem'.length - ι.length → st.rows (site + j) = none) ∧ (∀ s ∈ ι, l.contains s = true) ∧ (∀ j, j < mem'.length - ι.length → l.contains (site + j) = true) ∧
  K (({ st with rows := az ι site st.rows mem' } : St).put dst (fg (mId ι site) ret))
def IX (l : List Nat) (P : Program) (BR : Nat → Bool) (site : Nat) (o : Oper) (st : St) (K : St → Prop) : Prop :=
 match cls BR o.op with
 | 0 => qe (dE P st.ev o.op) fun v => K (st.put o.dst v)
 | 1 => p6 l st o.op ∧ qe (aMk P (FZ BR site) site st.ev st.rows o.op) fun v => (match v.2 with | some r => st.rows site = none ∧ K (({ st with rows := upd st.rows site (some r) } : St).put o.dst v.1) | none => K (st.put o.dst v.1))
 | 2 => match o.op with
  | .call c => match c.callee with
   | .value (.func f) => tG P f (evL st c.args.toList) st site o.dst K
   | _ => False
  | _ => False
 | 3 => qe (pS (aWr P site st.ev st.rows o.op) (FZ BR site)) fun v => qh l st (({ st with rows := v.2 } : St).put o.dst v.1) ∧ K (({ st with rows := v.2 } : St).put o.dst v.1)
 | 4 => match o.op with
  | .call c => match c.callee with
   | .value (.func f) => (flk l = false ∧ Ar P f (evL st c.args.toList) st site o.dst fun st' => qh l st st' ∧ K st') ∨ (flk l = true ∧ IW P l.tail f (evL st c.args.toList) st site o.dst K)
   | _ => False
  | _ => False
 | _ => False
def aOT (l : List Nat) (P : Program) (BR : Nat → Bool) (site : Nat) (o : Oper) (st : St) (K : St → Prop) : Prop := vC l site st o.op ∧ IX l P BR site o st K
def aGT (l : List Nat) (P : Program) (BR : Nat → Bool) (ops : List Oper) (site : Nat) (o : Oper) (st : St) (K : St → Prop) : Prop :=
 match o.guard with
 | none => aOT l P BR site o st K
 | some (g, want) => match (ops[g]?).bind (·.dst) with
  | some t => match st.tmps t with
   | .bool b => gK b want (aOT l P BR site o st K) (K (st.put o.dst (.tup [])))
   | .tup [] => K (st.put o.dst (.tup []))
   | _ => False
  | none => False
def eY (tbl : Tbl) (P : Program) (BR : Nat → Bool) (ops : List Oper) (bs : Nat) : Nat → List Oper → St → (St → Prop) → Prop
 | _, [], st, K => K st
 | i, o :: l, st, K => aGT (bM tbl i) P BR ops (bs + 16 * i) o st (fun st' => eY tbl P BR ops bs (i + 1) l st' K)
section
variable {P : Program} {BR : Nat → Bool} {ops : List Oper} {tbl : Tbl}
theorem pF {ι : List Nat} {site : Nat} {rows : Nat → Option Row} {mem' : List Row} {s : Nat} (h1 : s ∉ ι) (h2 : ∀ j, j < mem'.length - ι.length → s ≠ site + j) : az ι site rows mem' s = rows s := by
 unfold az
 rw [bR, if_neg, ij _ _ _ _ h1]
 rintro ⟨h3, h4⟩
 simp only [List.length_map, List.length_drop] at h4
 exact h2 (s - site) (by omega) (by omega)
theorem rI {ι : List Nat} {site : Nat} {rows rows2 : Nat → Option Row} {mem' : List Row} {s : Nat} (hn : ι.Nodup) (hl : ι.length ≤ mem'.length) (h : s ∈ ι ∨ ∃ j, j < mem'.length - ι.length ∧ s = site + j) : az ι site rows mem' s = az ι site rows2 mem' s := by
 unfold az
 rw [bR, bR]
 split
 ·rfl
 ·rename_i hc
  rcases h with h | ⟨j, hj, rfl⟩
  ·obtain ⟨k, hk⟩ := List.mem_iff_getElem?.1 h
   rw [kJ _ _ _ k s hn hk (by simp; omega), kJ _ _ _ k s hn hk (by simp; omega)]
  ·exfalso
   simp only [List.length_map, List.length_drop] at hc
   omega
theorem BG {opa : Array Oper} {l : List Nat} {site : Nat} {o : Oper} {c : Call} {f : FuncId} {st : St} {K : St → Prop} (hg : o.guard = none) (hc : cls BR o.op = 4) (hop : o.op = .call c) (hcal : c.callee = .value (.func f)) (h : IW P l f (evL st c.args.toList) st site o.dst K) :
  ∃ st' v, Gst P BR opa site o st st' ∧ yP P BR opa l site o st st' v ∧ K st' := by
 obtain ⟨ι, ret, mem', h1, h2, h3, h4, h5, h6, h7, h8, h9⟩ := h
 have out : ∀ s, l.contains s = false → az ι site st.rows mem' s = st.rows s := fun s hs => pF (fun hm => by rw [h7 s hm] at hs; cases hs) (fun j hj e => by rw [e, h8 j hj] at hs; cases hs)
 have mk : ∀ st2 : St, (∀ t ∈ o.looksAt opa, st2.tmps t = st.tmps t) → (∀ s, l.contains s = true → st2.rows s = st.rows s) → Gst P BR opa site o st2 (({ st2 with rows := cz l (az ι site st.rows mem') st2.rows } : St).put o.dst (fg (mId ι site) ret)) := fun st2 ht hr => by
  unfold Gst
  simp only [hg]
  simp only [Stp, hc]
  have er : cz l (az ι site st.rows mem') st2.rows = az ι site st2.rows mem' := by
   funext s
   unfold cz
   by_cases hm : s ∈ ι ∨ ∃ j, j < mem'.length - ι.length ∧ s = site + j
   ·have hl : l.contains s = true := by
     rcases hm with hm | ⟨j, hj, rfl⟩
     ·exact h7 s hm
     ·exact h8 j hj
    rw [hl]
    exact rI h1 h4 hm
   ·have e2 : ∀ R : Nat → Option Row, az ι site R mem' s = R s := fun R => pF (fun h => hm (.inl h)) (fun j hj e => hm (.inr ⟨j, hj, e⟩))
    rw [e2, e2]
    split
    ·rename_i hl; exact (hr s hl).symm
    ·rfl
  rw [er]
  refine ⟨ι, false, c, f, c.args.toList.map st2.ev, (fun _ => none), ret, mem', hop, .inl ⟨hcal, rfl⟩, (fun _ _ h => by cases h), h1, fun s hs => by rw [hr s (h7 s hs)]; exact h2 s hs, ?_, h4, .inl (fun _ => rfl), fun _ => h5, fun j hj => by rw [hr _ (h8 j hj)]; exact h6 j hj, rfl⟩
  have e1 : c.args.toList.map st2.ev = evL st c.args.toList := by
   rw [nX]
   exact List.map_congr_left fun x hx => (St.ev_of (ops := opa) (st := st) (st2 := st2) ht x (iM hop x hx)).symm
  have e2 : ι.map (bT ι (fun _ => none) st2.rows) = ι.map (bT ι (fun _ => none) st.rows) := List.map_congr_left fun s hs => by
   unfold bT; rw [hr s (h7 s hs)]
  rw [e1, e2]
  exact h3
 have g0 := mk st (fun _ _ => rfl) (fun _ _ => rfl)
 have e0 : cz l (az ι site st.rows mem') st.rows = az ι site st.rows mem' := by
  funext s
  unfold cz
  split
  ·rfl
  ·rename_i hs; exact (out s hs).symm
 rw [e0] at g0
 refine ⟨_, fg (mId ι site) ret, g0, ⟨by simp only [St.put_rows], fun s hs => ?_, fun st2 ht hr => ?_⟩, h9⟩
 ·rw [St.put_rows]; exact out s hs
 ·rw [St.put_rows]; exact mk st2 ht hr
theorem xR {l : List Nat} {site : Nat} {o : Oper} {st : St} {K : St → Prop} (hk : flk l = false) (h : aOT l P BR site o st K) : ∃ st', Stp P BR site o st st' ∧ qx BR l site o st st' ∧ K st' := by
 obtain ⟨hX, h⟩ := h
 unfold IX at h
 have nol : cls BR o.op ≠ 1 → p6 l st o.op := fun hc => by
  by_cases hl : s6 o.op = true
  ·exact absurd (o8 hl) hc
  ·cases hop : o.op <;> rw [hop] at hl <;> first | trivial | exact absurd rfl hl
 split at h
 ·rename_i hc
  obtain ⟨v, h1, h2⟩ := lZ h
  simp only [Stp, hc]
  exact ⟨_, ⟨v, h1, rfl⟩, ⟨nol (by omega), fun h => by omega, hX⟩, h2⟩
 ·rename_i hc
  obtain ⟨h0, h⟩ := h
  obtain ⟨v, h1, h2⟩ := lZ h
  obtain ⟨v, nw⟩ := v
  simp only [Stp, hc]
  cases nw with
  | none => exact ⟨_, ⟨v, none, h1, by simp, rfl⟩, ⟨h0, fun h => by omega, hX⟩, h2⟩
  | some r => exact ⟨_, ⟨v, some r, h1, fun _ => h2.1, rfl⟩, ⟨h0, fun h => by omega, hX⟩, h2.2⟩
 ·rename_i hc
  simp only [Stp, hc]
  split at h
  ·rename_i c hop
   split at h
   ·rename_i f hcal
    obtain ⟨lnd, ret, mem', h1, h2, h3, h4, h5, h6⟩ := h
    refine ⟨_, ⟨c, f, _, lnd, ret, mem', hop, .inl ⟨hcal, rfl⟩, h1, List.nodup_nil, by simp, ?_, by simp, h3, fun _ => by simpa using h4, by simpa using h5, rfl⟩, ⟨nol (by omega), fun h => by omega, hX⟩, ?_⟩
    ·rw [nX] at h2; exact h2
    ·rw [fb]; exact h6
   ·exact h.elim
  ·exact h.elim
 ·rename_i hc
  obtain ⟨v, h1, h2⟩ := lZ h
  obtain ⟨v, rows'⟩ := v
  simp only [Stp, hc]
  exact ⟨_, ⟨v, rows', h1, rfl⟩, ⟨nol (by omega), fun _ => h2.1, hX⟩, h2.2⟩
 ·rename_i hc
  simp only [Stp, hc]
  split at h
  ·rename_i c hop
   split at h
   ·rename_i f hcal
    rcases h with ⟨_, h⟩ | ⟨hk', _⟩
    rotate_left
    ·rw [hk] at hk'; cases hk'
    obtain ⟨ι, nt, lnd, ret, mem', h1, h2, h3, h4, h5, h6, h7, h8, h9⟩ := h
    refine ⟨_, ⟨ι, nt, c, f, _, lnd, ret, mem', hop, .inl ⟨hcal, rfl⟩, h1, h2, h3, ?_, h5, h6, h7, h8, rfl⟩, ⟨nol (by omega), fun _ => h9.1, hX⟩, h9.2⟩
    rw [nX] at h4; exact h4
   ·exact h.elim
  ·exact h.elim
 ·exact h.elim
theorem EL {k site : Nat} {o : Oper} {st : St} {K : St → Prop} (h : aGT (bM tbl k) P BR ops site o st K) (hu : o.guard = none ∨ bM tbl k = []) (hk : flk (bM tbl k) = false ∨ cls BR o.op = 4) : ∃ st', qi tbl P BR ops.toArray k site o st st' ∧ K st' := by
 by_cases hfk : flk (bM tbl k) = true
 ·have hc : cls BR o.op = 4 := by
   rcases hk with h | h
   ·rw [hfk] at h; cases h
   ·exact h
  have hg : o.guard = none := by
   rcases hu with h | h
   ·exact h
   ·rw [h] at hfk; cases hfk
  unfold aGT at h
  rw [hg] at h
  obtain ⟨hX, h⟩ := h
  unfold IX at h
  rw [hc] at h
  simp only at h
  split at h
  ·rename_i c hop
   split at h
   ·rename_i f hcal
    rcases h with ⟨h', _⟩ | ⟨_, h⟩
    ·rw [hfk] at h'; cases h'
    obtain ⟨st', v, h1, h2, h3⟩ := BG (opa := ops.toArray) hg hc hop hcal h
    refine ⟨st', ⟨h1, ⟨?_, fun _ => ?_, hX⟩, fun _ => ⟨v, h2⟩⟩, h3⟩
    ·rw [hop]; trivial
    ·refine .inr fun s hs => h2.2.1 s ?_
     cases hq : (bM tbl k).tail.contains s with
     | false => rfl
     | true =>
      exfalso
      have : (bM tbl k).contains s = true := by
       have h1 : s ∈ (bM tbl k).tail := by simpa using hq
       simpa using List.mem_of_mem_tail h1
      rw [hs] at this; cases this
   ·exact h.elim
  ·exact h.elim
 have hfk : flk (bM tbl k) = false := by simpa using hfk
 suffices H : ∃ st', Gst P BR ops.toArray site o st st' ∧ qx BR (bM tbl k) site o st st' ∧ K st' by
  obtain ⟨st', h1, h2, h3⟩ := H
  exact ⟨st', ⟨h1, h2, fun h => by rw [hfk] at h; cases h⟩, h3⟩
 unfold aGT at h
 split at h
 ·rename_i hg
  obtain ⟨st', h1, h2, h3⟩ := xR hfk h
  exact ⟨st', by simp only [Gst, hg]; exact h1, h2, h3⟩
 ·rename_i g want hg
  have he : bM tbl k = [] := by
   rcases hu with h | h
   ·rw [hg] at h; cases h
   ·exact h
  have pT : ∀ st st', qx BR (bM tbl k) site o st st' := fun st st' => ⟨by
    rw [he]
    cases o.op <;> first | trivial | exact .inl rfl, fun _ => .inl (by rw [he]; rfl), .inl (by rw [he]; rfl)⟩
  split at h
  ·rename_i t ht
   split at h
   ·rename_i b hb
    by_cases e : b = want
    ·obtain ⟨st', h1, h2, h3⟩ := xR hfk (h.1 e)
     exact ⟨st', by simp only [Gst, hg]; exact ⟨t, by simpa using ht, .inl ⟨by rw [hb, e], h1⟩⟩, pT _ _, h3⟩
    ·exact ⟨_, by simp only [Gst, hg]; exact ⟨t, by simpa using ht, .inr ⟨.inr ⟨b, hb, e⟩, by trivial⟩⟩, pT _ _, h.2 (by cases b <;> cases want <;> simp_all)⟩
   ·rename_i hb
    exact ⟨_, by simp only [Gst, hg]; exact ⟨t, by simpa using ht, .inr ⟨.inl hb, by trivial⟩⟩, pT _ _, h⟩
   ·exact h.elim
  ·exact h.elim
def tQ (BR : Nat → Bool) (tbl : Tbl) : Nat → List Oper → Bool
 | _, [] => true
 | i, o :: l => ((o.guard.isNone || (bM tbl i).isEmpty) && (!flk (bM tbl i) || cls BR o.op == 4)) && tQ BR tbl (i + 1) l
theorem tR {bs : Nat} {K : St → Prop} : ∀ (l : List Oper) (i : Nat) (st : St), (∀ j, l[j]? = ops[i + j]?) → tQ BR tbl i l = true → eY tbl P BR ops bs i l st K → s7 tbl P BR ops.toArray bs (List.range' i l.length) st K
 | [], i, st, _, _, h => h
 | o :: l, i, st, hl, hu, h => by
  simp only [tQ, Bool.and_eq_true, Bool.or_eq_true, Option.isNone_iff_eq_none, List.isEmpty_iff, Bool.not_eq_true', beq_iff_eq] at hu
  obtain ⟨st', h1, h2⟩ := EL h hu.1.1 hu.1.2
  have h0 : ops[i]? = some o := by simpa using (hl 0).symm
  rw [List.length_cons, List.range'_succ]
  exact ⟨o, st', by simpa using h0, h1, tR l (i + 1) st' (fun j => by have := hl (j + 1); simpa [Nat.add_assoc, Nat.add_comm 1 j] using this) hu.2 h2⟩
end
section
variable (tbl : Tbl) (P : Program) (BR : Nat → Bool) (ops : List Oper) (bs i : Nat) (o : Oper) (l : List Oper) (st : St) (K : St → Prop)
def rVT (x : Option AV) : Prop := qe x fun v => eY tbl P BR ops bs (i + 1) l (st.put o.dst v) K
def rFT (x : Option Row) (v : AV) (r : Row) : Prop := x = none ∧ eY tbl P BR ops bs (i + 1) l (({ st with rows := upd st.rows (bs + 16 * i) (some r) } : St).put o.dst v) K
def rMT (x : Option (AV × Option Row)) : Prop := p6 (bM tbl i) st o.op ∧ qe x fun v => (match v.2 with | some r => st.rows (bs + 16 * i) = none ∧ eY tbl P BR ops bs (i + 1) l (({ st with rows := upd st.rows (bs + 16 * i) (some r) } : St).put o.dst v.1) K | none => eY tbl P BR ops bs (i + 1) l (st.put o.dst v.1) K)
def rWT (x : Option (AV × (Nat → Option Row))) : Prop := qe x fun v => qh (bM tbl i) st (({ st with rows := v.2 } : St).put o.dst v.1) ∧ eY tbl P BR ops bs (i + 1) l (({ st with rows := v.2 } : St).put o.dst v.1) K
def rCT (f : FuncId) (args : List AV) (dst : Option Tmp) : Prop := tG P f args st (bs + 16 * i) dst fun st' => eY tbl P BR ops bs (i + 1) l st' K
def rRT (f : FuncId) (args : List AV) (dst : Option Tmp) : Prop := (flk (bM tbl i) = false ∧ Ar P f args st (bs + 16 * i) dst fun st' => qh (bM tbl i) st st' ∧ eY tbl P BR ops bs (i + 1) l st' K) ∨ (flk (bM tbl i) = true ∧ IW P (bM tbl i).tail f args st (bs + 16 * i) dst fun st' => eY tbl P BR ops bs (i + 1) l st' K)
def w7 (c : Nat) : Prop := match c with
 | 0 => rVT tbl P BR ops bs i o l st K (dE P st.ev o.op)
 | 1 => rMT tbl P BR ops bs i o l st K (aMk P (FZ BR (bs + 16 * i)) (bs + 16 * i) st.ev st.rows o.op)
 | 2 => match o.op with
  | .call c => match c.callee with
   | .value (.func f) => rCT tbl P BR ops bs i l st K f (evL st c.args.toList) o.dst
   | _ => False
  | _ => False
 | 3 => rWT tbl P BR ops bs i o l st K (pS (aWr P (bs + 16 * i) st.ev st.rows o.op) (FZ BR (bs + 16 * i)))
 | 4 => match o.op with
  | .call c => match c.callee with
   | .value (.func f) => rRT tbl P BR ops bs i l st K f (evL st c.args.toList) o.dst
   | _ => False
  | _ => False
 | _ => False
def rOT (c : Nat) : Prop := vC (bM tbl i) (bs + 16 * i) st o.op ∧ w7 tbl P BR ops bs i o l st K c
def rKT (b want : Bool) : Prop := gK b want (rOT tbl P BR ops bs i o l st K (cls BR o.op)) (eY tbl P BR ops bs (i + 1) l (st.put o.dst (.tup [])) K)
def rAT (a : AV) (want : Bool) : Prop := match a with
 | .bool b => rKT tbl P BR ops bs i o l st K b want
 | .tup [] => eY tbl P BR ops bs (i + 1) l (st.put o.dst (.tup [])) K
 | _ => False
def rBT (t : Option Tmp) (want : Bool) : Prop := match t with
 | some t => rAT tbl P BR ops bs i o l st K (st.tmps t) want
 | none => False
def rGT (g : Option (Nat × Bool)) : Prop := match g with
 | none => rOT tbl P BR ops bs i o l st K (cls BR o.op)
 | some (j, want) => rBT tbl P BR ops bs i o l st K ((ops[j]?).bind (·.dst)) want
theorem yS : eY tbl P BR ops bs i [] st K = K st := (rfl)
theorem w8 : eY tbl P BR ops bs i (o :: l) st K = rGT tbl P BR ops bs i o l st K o.guard := (rfl)
theorem BH : rGT tbl P BR ops bs i o l st K none = rOT tbl P BR ops bs i o l st K (cls BR o.op) := (rfl)
theorem BI (j : Nat) (want : Bool) : rGT tbl P BR ops bs i o l st K (some (j, want)) = rBT tbl P BR ops bs i o l st K ((ops[j]?).bind (·.dst)) want := (rfl)
theorem BJ (t : Tmp) (want : Bool) : rBT tbl P BR ops bs i o l st K (some t) want = rAT tbl P BR ops bs i o l st K (st.tmps t) want := (rfl)
theorem BK (b want : Bool) : rAT tbl P BR ops bs i o l st K (.bool b) want = rKT tbl P BR ops bs i o l st K b want := (rfl)
theorem EM (want : Bool) : rAT tbl P BR ops bs i o l st K (.tup []) want = eY tbl P BR ops bs (i + 1) l (st.put o.dst (.tup [])) K := (rfl)
theorem IY : rKT tbl P BR ops bs i o l st K true true = rOT tbl P BR ops bs i o l st K (cls BR o.op) := Hr _ _
theorem IZ : rKT tbl P BR ops bs i o l st K false false = rOT tbl P BR ops bs i o l st K (cls BR o.op) := Hu _ _
theorem Ia : rKT tbl P BR ops bs i o l st K true false = eY tbl P BR ops bs (i + 1) l (st.put o.dst (.tup [])) K := Hs _ _
theorem Ib : rKT tbl P BR ops bs i o l st K false true = eY tbl P BR ops bs (i + 1) l (st.put o.dst (.tup [])) K := Ht _ _
theorem Ic : w7 tbl P BR ops bs i o l st K 0 = rVT tbl P BR ops bs i o l st K (dE P st.ev o.op) := (rfl)
theorem Id : w7 tbl P BR ops bs i o l st K 1 = rMT tbl P BR ops bs i o l st K (aMk P (FZ BR (bs + 16 * i)) (bs + 16 * i) st.ev st.rows o.op) := (rfl)
theorem Ie : w7 tbl P BR ops bs i o l st K 3 = rWT tbl P BR ops bs i o l st K (pS (aWr P (bs + 16 * i) st.ev st.rows o.op) (FZ BR (bs + 16 * i))) := (rfl)
theorem If (d : Option Tmp) (f : FuncId) (args : Array Operand) (tys : Array TypeId) (t : TypeId) (p : String) (af : Array Edge) (g : Option (Nat × Bool)) :
  w7 tbl P BR ops bs i ⟨d, .call ⟨.value (.func f), args, tys⟩, t, p, af, g⟩ l st K 2 = rCT tbl P BR ops bs i l st K f (evL st args.toList) d := (rfl)
theorem Ig (d : Option Tmp) (f : FuncId) (args : Array Operand) (tys : Array TypeId) (t : TypeId) (p : String) (af : Array Edge) (g : Option (Nat × Bool)) :
  w7 tbl P BR ops bs i ⟨d, .call ⟨.value (.func f), args, tys⟩, t, p, af, g⟩ l st K 4 = rRT tbl P BR ops bs i l st K f (evL st args.toList) d := (rfl)
theorem Ih (c : Nat) : rOT tbl P BR ops bs i o l st K c = (vC (bM tbl i) (bs + 16 * i) st o.op ∧ w7 tbl P BR ops bs i o l st K c) := (rfl)
theorem BL (v : AV) : rVT tbl P BR ops bs i o l st K (some v) = eY tbl P BR ops bs (i + 1) l (st.put o.dst v) K := (rfl)
theorem BM (v : AV) : rMT tbl P BR ops bs i o l st K (some (v, none)) = (p6 (bM tbl i) st o.op ∧ eY tbl P BR ops bs (i + 1) l (st.put o.dst v) K) := (rfl)
theorem BN (v : AV) (r : Row) : rMT tbl P BR ops bs i o l st K (some (v, some r)) = (p6 (bM tbl i) st o.op ∧ rFT tbl P BR ops bs i o l st K (st.rows (bs + 16 * i)) v r) := (rfl)
theorem BO (v : AV) (r : Row) : rFT tbl P BR ops bs i o l st K none v r = eY tbl P BR ops bs (i + 1) l (({ st with rows := upd st.rows (bs + 16 * i) (some r) } : St).put o.dst v) K := by simp [rFT]
theorem BP (v : AV) (rows : Nat → Option Row) : rWT tbl P BR ops bs i o l st K (some (v, rows)) = (qh (bM tbl i) st (({ st with rows := rows } : St).put o.dst v) ∧ eY tbl P BR ops bs (i + 1) l (({ st with rows := rows } : St).put o.dst v) K) := (rfl)
end
section
variable {P : Program} {BR : Nat → Bool} {ops : List Oper} {C : Ctx} {Q : Exit → St → Prop} {T : Nat → AV} {R : Nat → Option Row} {b : Nat}
theorem xS {st : St} (tbl : Tbl) {id : Nat} {draw : Bool} (hu : tQ BR tbl 0 ops = true) (hm : P.follows .mixedOrders = true) (hN : mp C.N ops.toArray = true) (hB : (!draw || yQ tbl BR ops.toArray) = true)
  (h : eY tbl P BR ops st.bs 0 ops st (fun st' => Q .normal { st' with bs := st.bs + 16 * ops.length })) : AW P C (.region id ops.toArray draw) st Q :=
 w6 (BR := BR) (tbl := tbl) (fun _ => hm) hN (fun e => by rw [e] at hB; simpa using hB) (by
   have := tR ops 0 st (by simp) hu h
   rw [← List.range_eq_range'] at this
   simpa using this)
theorem pd (tbl : Tbl) {id : Nat} {draw : Bool} {y : Code} (hu : tQ BR tbl 0 ops = true) (hm : P.follows .mixedOrders = true) (hN : mp C.N ops.toArray = true) (hB : (!draw || yQ tbl BR ops.toArray) = true)
  (h : ∀ K : St → Prop, (∀ T' R' b', AW P C y (St.mk T' R' (b + 1024)) Q → K (St.mk T' R' b')) → eY tbl P BR ops b 0 ops (St.mk T R b) K) : AW P C (.seq (.region id ops.toArray draw) y) (St.mk T R b) Q :=
 aH fun M ρ a w hR => by
  have := h (fun st' => AW P C y (St.mk st'.tmps st'.rows (b + 1024)) Q) (fun T' R' b' h => h)
  refine xS (BR := BR) (Q := pC (fun st' => AW P C y (St.mk st'.tmps st'.rows (b + 1024)) Q) Q) tbl hu hm hN hB this M ρ a w hR |> Code.wp_mono ?_
  rintro e a' w' ⟨st', M', ρ', h1, h2⟩
  cases e with
  | normal => exact ⟨St.mk st'.tmps st'.rows (b + 1024), M', ρ', h1, h2.next _⟩
  | _ => exact ⟨st', M', ρ', h1, h2⟩
theorem s8 (tbl : Tbl) {id : Nat} {draw : Bool} (hu : tQ BR tbl 0 ops = true) (hm : P.follows .mixedOrders = true) (hN : mp C.N ops.toArray = true) (hB : (!draw || yQ tbl BR ops.toArray) = true)
  (h : ∀ K : St → Prop, (∀ T' R' b', Q .normal (St.mk T' R' (b + 1024)) → K (St.mk T' R' b')) → eY tbl P BR ops b 0 ops (St.mk T R b) K) : AW P C (.region id ops.toArray draw) (St.mk T R b) Q := fun M ρ a w hR => by
 have := h (fun st' => Q .normal (St.mk st'.tmps st'.rows (b + 1024))) (fun T' R' b' h => h)
 refine xS (BR := BR) (Q := pC (fun st' => Q .normal (St.mk st'.tmps st'.rows (b + 1024))) Q) tbl hu hm hN hB this M ρ a w hR |> Code.wp_mono ?_
 rintro e a' w' ⟨st', M', ρ', h1, h2⟩
 cases e with
 | normal => exact ⟨St.mk st'.tmps st'.rows (b + 1024), M', ρ', h1, h2.next _⟩
 | _ => exact ⟨st', M', ρ', h1, h2⟩
variable {st : St}
variable {bs i : Nat} {l : List Oper} {K : St → Prop} {f : FuncId} {args args' : List AV} {dst : Option Tmp} {ret : AV} {mem mem' : List Row}
theorem KJ (tbl : Tbl) (hS : aV P f args' [] ret mem') (ha : cvA (args.map (bq [] st.rows)) args') (hf : fr3 ret ∧ w3 mem') (hl : mem'.length ≤ 16)
  (hs : ∀ j, j < mem'.length → st.rows (bs + 16 * i + j) = none) (hK : eY tbl P BR ops bs (i + 1) l (({ st with rows := ao st.rows (bs + 16 * i) (mem'.map (Row.ren (mId [] (bs + 16 * i)))) } : St).put dst (fg (mId [] (bs + 16 * i)) ret)) K) : rCT tbl P BR ops bs i l st K f args dst :=
 rr (hS.le ha trivial) ⟨w4 hf.1, rc hf.2⟩ hl hs hK
theorem pG (tbl : Tbl) (ι : List Nat) (hS : aV P f args' mem ret mem') (ha : cvA (args.map (bq ι fun _ => none)) args') (hm : sm (ι.map (bT ι (fun _ => none) st.rows)) mem) (hn : sk ι = true) (hι : ∀ s ∈ ι, aa (st.rows s)) (hle : ι.length ≤ mem'.length) (hl : mem'.length - ι.length ≤ 16)
  (hs : ∀ j, j < mem'.length - ι.length → st.rows (bs + 16 * i + j) = none) (hfk : flk (bM tbl i) = false) (hK : qh (bM tbl i) st (({ st with rows := az ι (bs + 16 * i) st.rows mem' } : St).put dst (fg (mId ι (bs + 16 * i)) ret)) ∧ eY tbl P BR ops bs (i + 1) l (({ st with rows := az ι (bs + 16 * i) st.rows mem' } : St).put dst (fg (mId ι (bs + 16 * i)) ret)) K) : rRT tbl P BR ops bs i l st K f args dst :=
 .inl ⟨hfk, ι, false, _, ret, mem', (fun _ _ h => by cases h), iN hn, fun s hs => by
   have := hι s hs
   unfold aa at this
   split at this
   · exact ⟨_, by assumption, rfl⟩
   · exact ⟨_, by assumption, rfl⟩
   · exact ⟨_, by assumption, rfl⟩
   · exact this.elim, hS.le ha hm, hle, .inl (fun _ => rfl), fun _ => hl, hs, hK⟩
theorem vF (tbl : Tbl) (ι : List Nat) (hS : aV P f args' mem ret mem') (ha : cvA (args.map (bq ι fun _ => none)) args') (hm : sm (ι.map (bT ι (fun _ => none) st.rows)) mem) (hn : sk ι = true) (hι : ∀ s ∈ ι, aa (st.rows s)) (hle : ι.length ≤ mem'.length) (hl : mem'.length - ι.length ≤ 16)
  (hs : ∀ j, j < mem'.length - ι.length → st.rows (bs + 16 * i + j) = none) (hfk : (flk (bM tbl i) && (ι ++ (List.range (mem'.length - ι.length)).map fun j => bs + 16 * i + j).all fun s => (bM tbl i).tail.contains s) = true)
  (hK : eY tbl P BR ops bs (i + 1) l (({ st with rows := az ι (bs + 16 * i) st.rows mem' } : St).put dst (fg (mId ι (bs + 16 * i)) ret)) K) : rRT tbl P BR ops bs i l st K f args dst := by
 rw [Bool.and_eq_true, List.all_eq_true] at hfk
 exact .inr ⟨hfk.1, ι, ret, mem', iN hn, fun s hs => by
   have := hι s hs
   unfold aa at this
   split at this
   · exact ⟨_, by assumption, rfl⟩
   · exact ⟨_, by assumption, rfl⟩
   · exact ⟨_, by assumption, rfl⟩
   · exact this.elim, hS.le ha hm, hle, hl, hs, fun s h => hfk.2 s (List.mem_append_left _ h), fun j hj => hfk.2 _ (List.mem_append_right _ (List.mem_map.2 ⟨j, List.mem_range.2 hj, rfl⟩)), hK⟩
end
def oo (l : List Nat) (R R2 : Nat → Option Row) : Prop := ∀ s, l.contains s = false → R2 s = R s
theorem tv (l : List Nat) (R : Nat → Option Row) : oo l R R = True := eq_true fun _ _ => rfl
theorem yT (l : List Nat) (R R2 : Nat → Option Row) (k : Nat) (v : Option Row) (h : l.contains k = true) : oo l R (upd R2 k v) = oo l R R2 := by
 refine propext (forall_congr' fun s => ?_)
 refine forall_congr' fun hs => ?_
 rw [au _ _ (fun e => by rw [e, h] at hs; cases hs)]
theorem yU (l : List Nat) (R R2 : Nat → Option Row) (k : Nat) (v : Option Row) (h : l.contains k = true) : oo l (upd R k v) R2 = oo l R R2 := by
 refine propext (forall_congr' fun s => ?_)
 refine forall_congr' fun hs => ?_
 rw [au _ _ (fun e => by rw [e, h] at hs; cases hs)]
theorem EO (l : List Nat) (T T2 : Nat → AV) (R R2 : Nat → Option Row) (b b2 : Nat) : qh l (St.mk T R b) (St.mk T2 R2 b2) = (l.isEmpty = true ∨ oo l R R2) := (rfl)
theorem EP (s o : Nat) (l : List Nat) : inT (.ptr s o) l = (l.contains s = true) := (rfl)
theorem BS (cs : List AV) (l : List Nat) : inT (.eptr cs) l = True := (rfl)
theorem ER (l : List Nat) (site : Nat) (st : St) (op : Op) : vC l site st op = (flg l = false ∨ mX l.tail site st op) := (rfl)
theorem yW (l : List Nat) (site : Nat) (st : St) (t : Nat) (x : Operand) : mX l site st (.load t x) = inT (st.ev x) l := (rfl)
theorem w9 (l : List Nat) (site : Nat) (st : St) (t : Nat) : mX l site st (.alloc t) = (l.contains site = true) := (rfl)
theorem BT (l : List Nat) (site : Nat) (st : St) (t : Nat) (x : Operand) : mX l site st (.box t x) = (l.contains site = true) := (rfl)
theorem ET (l : List Nat) (site : Nat) (st : St) (t n : Nat) (ps : Array (Nat × Operand)) : mX l site st (.buildSlice t n ps) = (l.contains site = true) := (rfl)
theorem EU (l : List Nat) (site : Nat) (st : St) (t : Nat) (x y : Operand) : mX l site st (.makeSlice t x y) = (l.contains site = true) := (rfl)
theorem wA (l : List Nat) (site : Nat) (st : St) (t : Nat) (x y : Operand) : mX l site st (.store t x y) = inT (st.ev x) l := (rfl)
theorem BU (l : List Nat) (site : Nat) (st : St) (args : Array Operand) (tys : Array TypeId) : mX l site st (.call ⟨.builtin .append, args, tys⟩) = (l.contains site = true ∧ yO l (evL st args.toList)) := (rfl)
def AT :=
 (aI
 (aI
 (aI
 (aI
 (aI
 (aI
 @or_true
 @true_or)
 (aI
 @or_false
 @false_or))
 (aI
 (aI
 @yS
 @w8)
 (aI
 @BH
 @BI)))
 (aI
 (aI
 (aI
 @BJ
 @BK)
 (aI
 @EM
 @IY))
 (aI
 (aI
 @IZ
 @Ia)
 (aI
 @Ib
 @Ih))))
 (aI
 (aI
 (aI
 (aI
 @Ic
 @Id)
 (aI
 @If
 @Ie))
 (aI
 (aI
 @Ig
 @ER)
 (aI
 @flg.eq_1
 @flg.eq_2)))
 (aI
 (aI
 (aI
 @yW
 @w9)
 (aI
 @BT
 @ET))
 (aI
 (aI
 @EU
 @wA)
 (aI
 @BU
 (aI
 @yO.eq_1
 @yO.eq_2))))))
 (aI
 (aI
 (aI
 (aI
 (aI
 @List.tail_cons.{0}
 @BL)
 (aI
 @BM
 @BN))
 (aI
 (aI
 @BO
 @BP)
 (aI
 @bM.eq_1
 @bM.eq_2)))
 (aI
 (aI
 (aI
 @p6.eq_1
 @tv)
 (aI
 @yT
 @yU))
 (aI
 (aI
 @EO
 @EP)
 (aI
 @BS
 @List.isEmpty_cons.{0}))))
 (aI
 (aI
 (aI
 (aI
 @List.isEmpty_nil.{0}
 (fun (l : List Nat) (st : St) (t : Nat) => @id (p6 l st (.alloc t) = True) rfl))
 (aI
 (fun (l : List Nat) (st : St) (t : Nat) (x : Operand) => @id (p6 l st (.box t x) = True) rfl)
 (fun (l : List Nat) (st : St) (t n : Nat) (ps : Array (Nat × Operand)) => @id (p6 l st (.buildSlice t n ps) = True) rfl)))
 (aI
 (aI
 (fun (l : List Nat) (st : St) (t : Nat) (x y : Operand) => @id (p6 l st (.makeSlice t x y) = True) rfl)
 (fun (l : List Nat) (k : IntKind) (n : Int) => @id (inO l (.int k n : AV) = True) rfl))
 (aI
 (fun (l : List Nat) (b : Bool) => @id (inO l (.bool b : AV) = True) rfl)
 (fun (l : List Nat) (s : ByteArray) => @id (inO l (.str s : AV) = True) rfl))))
 (aI
 (aI
 (aI
 (fun (l : List Nat) (cs : List AV) => @id (inO l (.agg cs : AV) = True) rfl)
 (fun (l : List Nat) (cs : List AV) => @id (inO l (.tup cs : AV) = True) rfl))
 (aI
 (fun (l : List Nat)  => @id (inO l (.nil : AV) = True) rfl)
 (fun (l : List Nat) (cs : List AV) (n : Nat) => @id (inO l (.sl cs n : AV) = True) rfl)))
 (aI
 (aI
 (fun (l : List Nat) (s : Nat) (n : Nat) => @id (inO l (.own s n : AV) = (l.contains s = true)) rfl)
 (fun (l : List Nat) (s : Nat) (o : Nat) => @id (inO l (.ptr s o : AV) = True) rfl))
 (aI
 (fun (l : List Nat) (cs : List AV) => @id (inO l (.eptr cs : AV) = True) rfl)
 (aI
 (fun (l : List Nat) (fi : FuncId) (ps : List Nat) => @id (inO l (.fn fi ps : AV) = True) rfl)
 (fun (l : List Nat)  => @id (inO l (.top : AV) = True) rfl))))))))
def BR (f : Nat) : Bool := [17, 26, 27, 30, 47, 48, 49, 52, 53, 54, 71, 72, 74, 78, 80, 81, 86, 88, 89, 95, 97, 107, 113, 125, 159, 160, 161, 162, 163].contains f
theorem KK (n : Nat) : FZ BR n = false := by
  show List.contains _ (1000000 + n) = false
  rw [List.contains_eq_mem]
  refine decide_eq_false ?_
  simp only [List.mem_cons, List.not_mem_nil, or_false]
  omega
theorem Ii : BR 5 = false := by kernel_rfl
theorem Ij : BR 6 = false := by kernel_rfl
theorem EW : fS Tryz.prog 26 = some ([.int .i64 0, .int .i64 0, .int .i64 0, .nil]) := by kernel_rfl
theorem EX : szA Tryz.prog 26 = some (4, true) := by kernel_rfl
theorem Ik : BR 7 = false := by kernel_rfl
theorem Il : BR 8 = false := by kernel_rfl
theorem Im : od Tryz.prog 4 = true := by kernel_rfl
theorem In : BR 9 = false := by kernel_rfl
theorem EY : BR 10 = false := by kernel_rfl
theorem Ea : mo Tryz.prog 28 = true := by kernel_rfl
theorem Io : od Tryz.prog 3 = false := by kernel_rfl
theorem yX : da Tryz.prog 26 1 = some (1, 1, false) := by kernel_rfl
theorem Ip : szA Tryz.prog 3 = some (1, false) := by kernel_rfl
theorem Iq : pO Tryz.prog 3 = some (.i64) := by kernel_rfl
theorem Eb : pO Tryz.prog 32 = some (.u64) := by kernel_rfl
theorem Ec : BR 11 = false := by kernel_rfl
theorem Ed : fS Tryz.prog 36 = some ([.int .i64 0, .int .i64 0, .int .i64 0, .int .i64 0, .int .i64 0]) := by kernel_rfl
theorem Ee : szA Tryz.prog 36 = some (5, true) := by kernel_rfl
theorem Ef : BR 12 = false := by kernel_rfl
theorem Eg : px Tryz.prog 4 36 = some 5 := by kernel_rfl
theorem Eh : BR 13 = false := by kernel_rfl
theorem Ei : mo Tryz.prog 40 = true := by kernel_rfl
theorem Ej : elA Tryz.prog 40 = some (3, 1) := by kernel_rfl
theorem Ek : BR 14 = false := by kernel_rfl
theorem yY : da Tryz.prog 26 2 = some (2, 1, false) := by kernel_rfl
theorem El : elA Tryz.prog 28 = some (46, 2) := by kernel_rfl
theorem Em : szA Tryz.prog 46 = some (2, true) := by kernel_rfl
theorem En : BR 15 = false := by kernel_rfl
theorem Eo : BR 16 = false := by kernel_rfl
theorem Ep : mo Tryz.prog 22 = true := by kernel_rfl
theorem Er : BR 18 = false := by kernel_rfl
theorem Es : BR 17 = true := by kernel_rfl
theorem yZ : da Tryz.prog 26 3 = some (3, 1, false) := by kernel_rfl
theorem Et : szA Tryz.prog 24 = some (1, false) := by kernel_rfl
theorem Eu : mo Tryz.prog 24 = true := by kernel_rfl
theorem Ev : BR 19 = false := by kernel_rfl
theorem Ew : BR 20 = false := by kernel_rfl
theorem ya : da Tryz.prog 46 0 = some (0, 1, false) := by kernel_rfl
theorem yc : da Tryz.prog 46 1 = some (1, 1, false) := by kernel_rfl
theorem Ex : szA Tryz.prog 44 = some (1, false) := by kernel_rfl
theorem Ey : BR 21 = false := by kernel_rfl
theorem Ez : BR 22 = false := by kernel_rfl
theorem F0 : lf Tryz.prog 36 = true := by kernel_rfl
theorem F3 : fS Tryz.prog 46 = some ([.int .i64 0, .nil]) := by kernel_rfl
theorem F4 : BR 23 = false := by kernel_rfl
theorem F5 : fS Tryz.prog 34 = some ([.int .i64 0, .int .i64 0, .int .i64 0, .int .i64 0]) := by kernel_rfl
theorem F6 : lf Tryz.prog 34 = true := by kernel_rfl
theorem yd : bi Tryz.prog 34 0 = some (0, 1) := by kernel_rfl
theorem ye : bi Tryz.prog 36 0 = some (0, 4) := by kernel_rfl
theorem BV : gg Tryz.prog 3 0 = false := by kernel_rfl
theorem Ir : eX Tryz.prog 3 = 8 := by kernel_rfl
theorem Is : fS Tryz.prog 3 = some ([.int .i64 0]) := by kernel_rfl
theorem BW : gg Tryz.prog 3 1 = true := by kernel_rfl
theorem F7 : mo Tryz.prog 44 = true := by kernel_rfl
theorem F8 : elA Tryz.prog 44 = some (55, 1) := by kernel_rfl
theorem F9 : szA Tryz.prog 55 = some (1, false) := by kernel_rfl
theorem FA : BR 24 = false := by kernel_rfl
theorem FB : BR 25 = false := by kernel_rfl
theorem yf : da Tryz.prog 36 0 = some (0, 4, true) := by kernel_rfl
theorem yg : da Tryz.prog 34 0 = some (0, 1, false) := by kernel_rfl
theorem yh : da Tryz.prog 34 1 = some (1, 1, false) := by kernel_rfl
theorem FC : BR 26 = true := by kernel_rfl
theorem FD : BR 27 = true := by kernel_rfl
theorem FE : fS Tryz.prog 61 = some ([.nil, .nil]) := by kernel_rfl
theorem FF : szA Tryz.prog 61 = some (2, true) := by kernel_rfl
theorem FG : BR 28 = false := by kernel_rfl
theorem FH : BR 29 = false := by kernel_rfl
theorem FI : BR 30 = true := by kernel_rfl
theorem FJ : elA Tryz.prog 22 = some (5, 1) := by kernel_rfl
theorem It : szA Tryz.prog 5 = some (1, false) := by kernel_rfl
theorem Iu : pO Tryz.prog 5 = some (.u8) := by kernel_rfl
theorem FK : fS Tryz.prog 68 = some ([.nil, .int .i64 0, .int .i64 0]) := by kernel_rfl
theorem FL : lf Tryz.prog 68 = true := by kernel_rfl
theorem yi : bi Tryz.prog 68 0 = some (0, 1) := by kernel_rfl
theorem yj : bi Tryz.prog 68 2 = some (2, 1) := by kernel_rfl
theorem FN : BR 31 = false := by kernel_rfl
theorem yk : da Tryz.prog 26 0 = some (0, 1, false) := by kernel_rfl
theorem FO : BR 32 = false := by kernel_rfl
theorem yl : gg Tryz.prog 46 1 = false := by kernel_rfl
theorem FP : eX Tryz.prog 46 = 32 := by kernel_rfl
theorem ym : gg Tryz.prog 46 0 = false := by kernel_rfl
theorem FQ : elA Tryz.prog 24 = some (75, 8) := by kernel_rfl
theorem FR : szA Tryz.prog 75 = some (8, true) := by kernel_rfl
theorem FS : BR 33 = false := by kernel_rfl
theorem FT : BR 34 = false := by kernel_rfl
theorem FV : BR 35 = false := by kernel_rfl
theorem FW : BR 36 = false := by kernel_rfl
theorem FY : BR 37 = false := by kernel_rfl
theorem Fa : BR 38 = false := by kernel_rfl
theorem Fb : BR 39 = false := by kernel_rfl
theorem yn : da Tryz.prog 36 1 = some (4, 1, false) := by kernel_rfl
theorem Fc : szA Tryz.prog 34 = some (4, true) := by kernel_rfl
theorem Fd : BR 41 = false := by kernel_rfl
theorem Fe : BR 40 = false := by kernel_rfl
theorem Ff : BR 42 = false := by kernel_rfl
theorem Fg : BR 43 = false := by kernel_rfl
theorem Fh : BR 44 = false := by kernel_rfl
theorem Fi : mo Tryz.prog 55 = true := by kernel_rfl
theorem yo : gg Tryz.prog 36 0 = false := by kernel_rfl
theorem Fj : eX Tryz.prog 36 = 40 := by kernel_rfl
theorem Fk : elA Tryz.prog 55 = some (36, 5) := by kernel_rfl
theorem Fl : BR 45 = false := by kernel_rfl
theorem yp : gg Tryz.prog 36 1 = false := by kernel_rfl
theorem Fm : BR 46 = false := by kernel_rfl
theorem yq : da Tryz.prog 34 2 = some (2, 1, false) := by kernel_rfl
theorem yu : da Tryz.prog 34 3 = some (3, 1, false) := by kernel_rfl
theorem Fo : BR 47 = true := by kernel_rfl
theorem BX : gg Tryz.prog 9 0 = false := by kernel_rfl
theorem Iv : eX Tryz.prog 9 = 16 := by kernel_rfl
theorem Fp : elA Tryz.prog 58 = some (9, 1) := by kernel_rfl
theorem Iw : fS Tryz.prog 9 = some ([.str ⟨#[]⟩]) := by kernel_rfl
theorem BY : gg Tryz.prog 9 3 = true := by kernel_rfl
theorem Fq : lf Tryz.prog 61 = true := by kernel_rfl
theorem yv : bi Tryz.prog 61 0 = some (0, 1) := by kernel_rfl
theorem yw : da Tryz.prog 61 1 = some (1, 1, false) := by kernel_rfl
theorem Fr : szA Tryz.prog 59 = some (1, false) := by kernel_rfl
theorem yx : da Tryz.prog 61 0 = some (0, 1, false) := by kernel_rfl
theorem Fs : szA Tryz.prog 58 = some (1, false) := by kernel_rfl
theorem Ft : BR 48 = true := by kernel_rfl
theorem Ix : szA Tryz.prog 9 = some (1, false) := by kernel_rfl
theorem BZ : gg Tryz.prog 9 2 = true := by kernel_rfl
theorem Fu : fS Tryz.prog 86 = some ([.int .i64 0, .str ⟨#[]⟩, .nil, .int .i64 0, .nil]) := by kernel_rfl
theorem Fv : lf Tryz.prog 86 = true := by kernel_rfl
theorem yy : bi Tryz.prog 86 0 = some (0, 1) := by kernel_rfl
theorem yz : bi Tryz.prog 86 2 = some (2, 1) := by kernel_rfl
theorem Ba : gg Tryz.prog 9 1 = true := by kernel_rfl
theorem z5 : gg Tryz.prog 86 1 = false := by kernel_rfl
theorem Fw : eX Tryz.prog 86 = 80 := by kernel_rfl
theorem Fz : elA Tryz.prog 59 = some (86, 5) := by kernel_rfl
theorem z6 : bi Tryz.prog 86 4 = some (4, 1) := by kernel_rfl
theorem z7 : gg Tryz.prog 86 3 = false := by kernel_rfl
theorem G0 : BR 49 = true := by kernel_rfl
theorem G1 : BR 50 = false := by kernel_rfl
theorem G2 : BR 51 = false := by kernel_rfl
theorem G3 : lf Tryz.prog 26 = true := by kernel_rfl
theorem G4 : mo Tryz.prog 58 = true := by kernel_rfl
theorem G5 : fS Tryz.prog 94 = some ([.nil, .nil, .int .i64 0, .bool false]) := by kernel_rfl
theorem G6 : lf Tryz.prog 94 = true := by kernel_rfl
theorem z8 : bi Tryz.prog 94 0 = some (0, 1) := by kernel_rfl
theorem zA : bi Tryz.prog 94 2 = some (2, 1) := by kernel_rfl
theorem G7 : BR 52 = true := by kernel_rfl
theorem zD : da Tryz.prog 94 2 = some (2, 1, false) := by kernel_rfl
theorem zE : da Tryz.prog 94 1 = some (1, 1, false) := by kernel_rfl
theorem zF : bi Tryz.prog 26 0 = some (0, 1) := by kernel_rfl
theorem zG : bi Tryz.prog 26 1 = some (1, 1) := by kernel_rfl
theorem zH : bi Tryz.prog 26 2 = some (2, 1) := by kernel_rfl
theorem zI : bi Tryz.prog 26 3 = some (3, 1) := by kernel_rfl
theorem zJ : da Tryz.prog 94 3 = some (3, 1, false) := by kernel_rfl
theorem Iy : szA Tryz.prog 4 = some (1, false) := by kernel_rfl
theorem zM : da Tryz.prog 75 0 = some (0, 1, false) := by kernel_rfl
theorem G8 : BR 53 = true := by kernel_rfl
theorem Bb : gg Tryz.prog 3 4 = true := by kernel_rfl
theorem G9 : BR 54 = true := by kernel_rfl
theorem Bc : gg Tryz.prog 3 3 = true := by kernel_rfl
theorem GA : fS Tryz.prog 75 = some ([.int .i64 0, .int .i64 0, .int .i64 0, .int .i64 0, .int .i64 0, .int .i64 0, .int .i64 0, .int .i64 0]) := by kernel_rfl
theorem GB : lf Tryz.prog 75 = true := by kernel_rfl
theorem zO : bi Tryz.prog 75 0 = some (0, 1) := by kernel_rfl
theorem zP : bi Tryz.prog 75 2 = some (5, 1) := by kernel_rfl
theorem zQ : bi Tryz.prog 75 3 = some (6, 1) := by kernel_rfl
theorem zR : bi Tryz.prog 75 4 = some (7, 1) := by kernel_rfl
theorem zS : gg Tryz.prog 75 1 = false := by kernel_rfl
theorem GC : eX Tryz.prog 75 = 64 := by kernel_rfl
theorem GD : fS Tryz.prog 73 = some ([.int .i64 0, .int .i64 0, .int .i64 0, .int .i64 0]) := by kernel_rfl
theorem GE : lf Tryz.prog 73 = true := by kernel_rfl
theorem zT : bi Tryz.prog 73 0 = some (0, 1) := by kernel_rfl
theorem zU : bi Tryz.prog 75 1 = some (1, 4) := by kernel_rfl
theorem GF : BR 55 = false := by kernel_rfl
theorem GG : BR 56 = false := by kernel_rfl
theorem zW : da Tryz.prog 75 3 = some (6, 1, false) := by kernel_rfl
theorem zX : da Tryz.prog 75 4 = some (7, 1, false) := by kernel_rfl
theorem GH : lf Tryz.prog 46 = true := by kernel_rfl
theorem GI : BR 57 = false := by kernel_rfl
theorem zY : gg Tryz.prog 55 1 = false := by kernel_rfl
theorem GJ : eX Tryz.prog 55 = 24 := by kernel_rfl
theorem GK : fS Tryz.prog 55 = some ([.nil]) := by kernel_rfl
theorem zZ : da Tryz.prog 75 2 = some (5, 1, false) := by kernel_rfl
theorem GL : BR 58 = false := by kernel_rfl
theorem za : da Tryz.prog 75 1 = some (1, 4, true) := by kernel_rfl
theorem GM : szA Tryz.prog 73 = some (4, true) := by kernel_rfl
theorem GN : BR 59 = false := by kernel_rfl
theorem GO : BR 60 = false := by kernel_rfl
theorem GP : BR 61 = false := by kernel_rfl
theorem GR : BR 62 = false := by kernel_rfl
theorem GS : BR 63 = false := by kernel_rfl
theorem GT : BR 64 = false := by kernel_rfl
theorem GU : BR 65 = false := by kernel_rfl
theorem GV : BR 66 = false := by kernel_rfl
theorem zb : bi Tryz.prog 34 1 = some (1, 1) := by kernel_rfl
theorem zc : bi Tryz.prog 34 2 = some (2, 1) := by kernel_rfl
theorem zd : bi Tryz.prog 34 3 = some (3, 1) := by kernel_rfl
theorem GW : BR 67 = false := by kernel_rfl
theorem ze : bi Tryz.prog 36 1 = some (4, 1) := by kernel_rfl
theorem GX : BR 68 = false := by kernel_rfl
theorem GY : BR 69 = false := by kernel_rfl
theorem GZ : BR 70 = false := by kernel_rfl
theorem Ga : BR 71 = true := by kernel_rfl
theorem Gb : szA Tryz.prog 86 = some (5, true) := by kernel_rfl
theorem Gc : BR 73 = false := by kernel_rfl
theorem Gd : BR 72 = true := by kernel_rfl
theorem Ge : BR 74 = true := by kernel_rfl
theorem zf : da Tryz.prog 73 0 = some (0, 1, false) := by kernel_rfl
theorem Gf : BR 75 = false := by kernel_rfl
theorem zg : bi Tryz.prog 86 1 = some (1, 1) := by kernel_rfl
theorem Gg : BR 76 = false := by kernel_rfl
theorem zh : da Tryz.prog 86 2 = some (2, 1, false) := by kernel_rfl
theorem zi : gg Tryz.prog 86 0 = false := by kernel_rfl
theorem zj : bi Tryz.prog 86 3 = some (3, 1) := by kernel_rfl
theorem Gh : BR 77 = false := by kernel_rfl
theorem Be : gg Tryz.prog 9 5 = true := by kernel_rfl
theorem Gi : BR 78 = true := by kernel_rfl
theorem Gj : BR 79 = false := by kernel_rfl
theorem Gk : BR 80 = true := by kernel_rfl
theorem Bf : fS Tryz.prog 123 = some ([.nil, .nil, .bool false, .nil]) := by kernel_rfl
theorem Bg : lf Tryz.prog 123 = true := by kernel_rfl
theorem wB : bi Tryz.prog 123 0 = some (0, 1) := by kernel_rfl
theorem Gl : BR 81 = true := by kernel_rfl
theorem Bh : fS Tryz.prog 119 = some ([.int .i64 0, .str ⟨#[]⟩]) := by kernel_rfl
theorem Bi : szA Tryz.prog 119 = some (2, true) := by kernel_rfl
theorem wC : da Tryz.prog 119 0 = some (0, 1, false) := by kernel_rfl
theorem wD : da Tryz.prog 119 1 = some (1, 1, false) := by kernel_rfl
theorem Gm : BR 82 = false := by kernel_rfl
theorem Gn : BR 83 = false := by kernel_rfl
theorem Gp : BR 84 = false := by kernel_rfl
theorem Gq : BR 85 = false := by kernel_rfl
theorem zk : gg Tryz.prog 75 0 = false := by kernel_rfl
theorem Gr : mo Tryz.prog 59 = true := by kernel_rfl
theorem Gs : BR 86 = true := by kernel_rfl
theorem Gt : px Tryz.prog 4 75 = some 8 := by kernel_rfl
theorem Gu : BR 87 = false := by kernel_rfl
theorem Gv : BR 88 = true := by kernel_rfl
theorem Gw : BR 89 = true := by kernel_rfl
theorem zl : bi Tryz.prog 46 0 = some (0, 1) := by kernel_rfl
theorem Gx : BR 90 = false := by kernel_rfl
theorem Gy : BR 91 = false := by kernel_rfl
theorem Gz : BR 92 = false := by kernel_rfl
theorem H0 : BR 93 = false := by kernel_rfl
theorem H1 : BR 94 = false := by kernel_rfl
theorem zm : da Tryz.prog 68 2 = some (2, 1, false) := by kernel_rfl
theorem zn : da Tryz.prog 68 1 = some (1, 1, false) := by kernel_rfl
theorem zo : da Tryz.prog 68 0 = some (0, 1, false) := by kernel_rfl
theorem H2 : szA Tryz.prog 22 = some (1, false) := by kernel_rfl
theorem Bj : gg Tryz.prog 3 5 = true := by kernel_rfl
theorem Bk : gg Tryz.prog 3 8 = true := by kernel_rfl
theorem H3 : BR 95 = true := by kernel_rfl
theorem H4 : BR 96 = false := by kernel_rfl
theorem zp : gg Tryz.prog 9 13 = true := by kernel_rfl
theorem Iz : od Tryz.prog 9 = false := by kernel_rfl
theorem Bl : gg Tryz.prog 9 4 = true := by kernel_rfl
theorem H5 : BR 97 = true := by kernel_rfl
theorem Bm : lf Tryz.prog 119 = true := by kernel_rfl
theorem H6 : BR 98 = false := by kernel_rfl
theorem H7 : BR 99 = false := by kernel_rfl
theorem Bn : BR 100 = false := by kernel_rfl
theorem zq : da Tryz.prog 86 4 = some (4, 1, false) := by kernel_rfl
theorem Bo : BR 101 = false := by kernel_rfl
theorem zr : da Tryz.prog 86 0 = some (0, 1, false) := by kernel_rfl
theorem zt : da Tryz.prog 94 0 = some (0, 1, false) := by kernel_rfl
theorem Bp : BR 102 = false := by kernel_rfl
theorem zu : da Tryz.prog 86 3 = some (3, 1, false) := by kernel_rfl
theorem Bq : BR 103 = false := by kernel_rfl
theorem Br : BR 104 = false := by kernel_rfl
theorem Bs : BR 106 = false := by kernel_rfl
theorem Bt : BR 105 = false := by kernel_rfl
theorem Bu : BR 107 = true := by kernel_rfl
theorem Bv : BR 108 = false := by kernel_rfl
theorem Bw : BR 109 = false := by kernel_rfl
theorem Bx : BR 110 = false := by kernel_rfl
theorem zw : da Tryz.prog 73 1 = some (1, 1, false) := by kernel_rfl
theorem zx : da Tryz.prog 73 2 = some (2, 1, false) := by kernel_rfl
theorem zy : da Tryz.prog 73 3 = some (3, 1, false) := by kernel_rfl
theorem By : BR 111 = false := by kernel_rfl
theorem Bz : BR 112 = false := by kernel_rfl
theorem C0 : BR 113 = true := by kernel_rfl
theorem C1 : BR 114 = false := by kernel_rfl
theorem C2 : BR 115 = false := by kernel_rfl
theorem C3 : BR 116 = false := by kernel_rfl
theorem C4 : BR 117 = false := by kernel_rfl
theorem C5 : BR 118 = false := by kernel_rfl
theorem C6 : BR 119 = false := by kernel_rfl
theorem C7 : BR 120 = false := by kernel_rfl
theorem C8 : mo Tryz.prog 155 = true := by kernel_rfl
theorem C9 : elA Tryz.prog 155 = some (158, 6) := by kernel_rfl
theorem wE : da Tryz.prog 158 1 = some (1, 5, true) := by kernel_rfl
theorem CA : BR 121 = false := by kernel_rfl
theorem wF : da Tryz.prog 158 0 = some (0, 1, false) := by kernel_rfl
theorem CB : BR 122 = false := by kernel_rfl
theorem zz : bi Tryz.prog 73 1 = some (1, 1) := by kernel_rfl
theorem CC : szA Tryz.prog 123 = some (4, true) := by kernel_rfl
theorem wG : da Tryz.prog 123 2 = some (2, 1, false) := by kernel_rfl
theorem CD : BR 123 = false := by kernel_rfl
theorem CE : BR 124 = false := by kernel_rfl
theorem wH : da Tryz.prog 123 1 = some (1, 1, false) := by kernel_rfl
theorem wI : da Tryz.prog 123 0 = some (0, 1, false) := by kernel_rfl
theorem wJ : bi Tryz.prog 119 0 = some (0, 1) := by kernel_rfl
theorem wK : bi Tryz.prog 119 1 = some (1, 1) := by kernel_rfl
theorem CF : BR 125 = true := by kernel_rfl
theorem wL : da Tryz.prog 123 3 = some (3, 1, false) := by kernel_rfl
theorem J0 : mo Tryz.prog 9 = false := by kernel_rfl
theorem J1 : rn Tryz.prog 9 = true := by kernel_rfl
theorem CG : BR 126 = false := by kernel_rfl
theorem A1 : da Tryz.prog 86 1 = some (1, 1, false) := by kernel_rfl
theorem CH : BR 127 = false := by kernel_rfl
theorem CI : BR 128 = false := by kernel_rfl
theorem CJ : BR 129 = false := by kernel_rfl
theorem CK : BR 130 = false := by kernel_rfl
theorem CL : BR 131 = false := by kernel_rfl
theorem CM : BR 132 = false := by kernel_rfl
theorem CN : BR 133 = false := by kernel_rfl
theorem CO : BR 134 = false := by kernel_rfl
theorem CQ : fS Tryz.prog 158 = some ([.int .i64 0, .int .i64 0, .int .i64 0, .int .i64 0, .int .i64 0, .int .i64 0]) := by kernel_rfl
theorem CR : lf Tryz.prog 158 = true := by kernel_rfl
theorem wN : bi Tryz.prog 158 0 = some (0, 1) := by kernel_rfl
theorem wO : bi Tryz.prog 158 1 = some (1, 5) := by kernel_rfl
theorem wP : gg Tryz.prog 158 1 = false := by kernel_rfl
theorem CS : eX Tryz.prog 158 = 48 := by kernel_rfl
theorem CT : BR 135 = false := by kernel_rfl
theorem CU : BR 136 = false := by kernel_rfl
theorem CV : BR 137 = false := by kernel_rfl
theorem wQ : gg Tryz.prog 158 2 = false := by kernel_rfl
theorem CW : BR 138 = false := by kernel_rfl
theorem CX : BR 139 = false := by kernel_rfl
theorem CY : BR 140 = false := by kernel_rfl
theorem CZ : BR 141 = false := by kernel_rfl
theorem Ca : BR 142 = false := by kernel_rfl
theorem J2 : od Tryz.prog 5 = false := by kernel_rfl
theorem Cb : BR 143 = false := by kernel_rfl
theorem A2 : gg Tryz.prog 73 0 = false := by kernel_rfl
theorem H8 : eX Tryz.prog 73 = 32 := by kernel_rfl
theorem Cc : elA Tryz.prog 164 = some (73, 4) := by kernel_rfl
theorem A3 : bi Tryz.prog 73 2 = some (2, 1) := by kernel_rfl
theorem A4 : bi Tryz.prog 73 3 = some (3, 1) := by kernel_rfl
theorem Cd : BR 144 = false := by kernel_rfl
theorem A5 : gg Tryz.prog 73 1 = false := by kernel_rfl
theorem Ce : BR 145 = false := by kernel_rfl
theorem A6 : gg Tryz.prog 73 3 = false := by kernel_rfl
theorem A7 : gg Tryz.prog 73 7 = false := by kernel_rfl
theorem A8 : gg Tryz.prog 73 5 = false := by kernel_rfl
theorem Cf : mo Tryz.prog 164 = true := by kernel_rfl
theorem Cg : BR 146 = false := by kernel_rfl
theorem Ch : BR 147 = false := by kernel_rfl
theorem A9 : gg Tryz.prog 34 8 = false := by kernel_rfl
theorem H9 : eX Tryz.prog 34 = 32 := by kernel_rfl
theorem Ci : elA Tryz.prog 173 = some (34, 4) := by kernel_rfl
theorem Cj : BR 148 = false := by kernel_rfl
theorem Ck : BR 149 = false := by kernel_rfl
theorem Cl : BR 150 = false := by kernel_rfl
def TY :=
 (aI
 (aI
 (aI
 (aI
 (aI
 (aI
 (aI
 (aI
 KK
 Ii)
 (aI
 Ij
 (aI
 EW
 EX)))
 (aI
 (aI
 Ik
 Il)
 (aI
 Im
 (aI
 In
 EY))))
 (aI
 (aI
 (aI
 Ea
 Io)
 (aI
 yX
 (aI
 Ip
 Iq)))
 (aI
 (aI
 Eb
 (aI
 Ec
 Ed))
 (aI
 Ee
 (aI
 Ef
 Eg)))))
 (aI
 (aI
 (aI
 (aI
 Eh
 Ei)
 (aI
 Ej
 (aI
 Ek
 yY)))
 (aI
 (aI
 El
 (aI
 Em
 En))
 (aI
 Eo
 (aI
 Ep
 Er))))
 (aI
 (aI
 (aI
 Es
 yZ)
 (aI
 Et
 (aI
 Eu
 Ev)))
 (aI
 (aI
 Ew
 (aI
 ya
 yc))
 (aI
 Ex
 (aI
 Ey
 Ez))))))
 (aI
 (aI
 (aI
 (aI
 (aI
 F0
 F3)
 (aI
 F4
 (aI
 F5
 F6)))
 (aI
 (aI
 yd
 ye)
 (aI
 BV
 (aI
 Ir
 Is))))
 (aI
 (aI
 (aI
 BW
 F7)
 (aI
 F8
 (aI
 F9
 FA)))
 (aI
 (aI
 FB
 (aI
 yf
 yg))
 (aI
 yh
 (aI
 FC
 FD)))))
 (aI
 (aI
 (aI
 (aI
 FE
 FF)
 (aI
 FG
 (aI
 FH
 FI)))
 (aI
 (aI
 FJ
 (aI
 It
 Iu))
 (aI
 FK
 (aI
 FL
 yi))))
 (aI
 (aI
 (aI
 yj
 FN)
 (aI
 yk
 (aI
 FO
 yl)))
 (aI
 (aI
 FP
 (aI
 ym
 FQ))
 (aI
 FR
 (aI
 FS
 FT)))))))
 (aI
 (aI
 (aI
 (aI
 (aI
 (aI
 FV
 FW)
 (aI
 FY
 (aI
 Fa
 Fb)))
 (aI
 (aI
 yn
 Fc)
 (aI
 Fd
 (aI
 Fe
 Ff))))
 (aI
 (aI
 (aI
 Fg
 Fh)
 (aI
 Fi
 (aI
 yo
 Fj)))
 (aI
 (aI
 Fk
 (aI
 Fl
 yp))
 (aI
 Fm
 (aI
 yq
 yu)))))
 (aI
 (aI
 (aI
 (aI
 Fo
 BX)
 (aI
 Iv
 (aI
 Fp
 Iw)))
 (aI
 (aI
 BY
 (aI
 Fq
 yv))
 (aI
 yw
 (aI
 Fr
 yx))))
 (aI
 (aI
 (aI
 Fs
 Ft)
 (aI
 Ix
 (aI
 BZ
 Fu)))
 (aI
 (aI
 Fv
 (aI
 yy
 yz))
 (aI
 Ba
 (aI
 z5
 Fw))))))
 (aI
 (aI
 (aI
 (aI
 (aI
 Fz
 z6)
 (aI
 z7
 (aI
 G0
 G1)))
 (aI
 (aI
 G2
 (aI
 G3
 G4))
 (aI
 G5
 (aI
 G6
 z8))))
 (aI
 (aI
 (aI
 zA
 G7)
 (aI
 zD
 (aI
 zE
 zF)))
 (aI
 (aI
 zG
 (aI
 zH
 zI))
 (aI
 zJ
 (aI
 Iy
 zM)))))
 (aI
 (aI
 (aI
 (aI
 G8
 Bb)
 (aI
 G9
 (aI
 Bc
 GA)))
 (aI
 (aI
 GB
 (aI
 zO
 zP))
 (aI
 zQ
 (aI
 zR
 zS))))
 (aI
 (aI
 (aI
 GC
 GD)
 (aI
 GE
 (aI
 zT
 zU)))
 (aI
 (aI
 GF
 (aI
 GG
 zW))
 (aI
 zX
 (aI
 GH
 GI))))))))
 (aI
 (aI
 (aI
 (aI
 (aI
 (aI
 (aI
 zY
 GJ)
 (aI
 GK
 (aI
 zZ
 GL)))
 (aI
 (aI
 za
 GM)
 (aI
 GN
 (aI
 GO
 GP))))
 (aI
 (aI
 (aI
 GR
 GS)
 (aI
 GT
 (aI
 GU
 GV)))
 (aI
 (aI
 zb
 (aI
 zc
 zd))
 (aI
 GW
 (aI
 ze
 GX)))))
 (aI
 (aI
 (aI
 (aI
 GY
 GZ)
 (aI
 Ga
 (aI
 Gb
 Gc)))
 (aI
 (aI
 Gd
 (aI
 Ge
 zf))
 (aI
 Gf
 (aI
 zg
 Gg))))
 (aI
 (aI
 (aI
 zh
 zi)
 (aI
 zj
 (aI
 Gh
 Be)))
 (aI
 (aI
 Gi
 (aI
 Gj
 Gk))
 (aI
 Bf
 (aI
 Bg
 wB))))))
 (aI
 (aI
 (aI
 (aI
 (aI
 Gl
 Bh)
 (aI
 Bi
 (aI
 wC
 wD)))
 (aI
 (aI
 Gm
 (aI
 Gn
 Gp))
 (aI
 Gq
 (aI
 zk
 Gr))))
 (aI
 (aI
 (aI
 Gs
 Gt)
 (aI
 Gu
 (aI
 Gv
 Gw)))
 (aI
 (aI
 zl
 (aI
 Gx
 Gy))
 (aI
 Gz
 (aI
 H0
 H1)))))
 (aI
 (aI
 (aI
 (aI
 zm
 zn)
 (aI
 zo
 (aI
 H2
 Bj)))
 (aI
 (aI
 Bk
 (aI
 H3
 H4))
 (aI
 zp
 (aI
 Iz
 Bl))))
 (aI
 (aI
 (aI
 H5
 Bm)
 (aI
 H6
 (aI
 H7
 Bn)))
 (aI
 (aI
 zq
 (aI
 Bo
 zr))
 (aI
 zt
 (aI
 Bp
 zu)))))))
 (aI
 (aI
 (aI
 (aI
 (aI
 (aI
 Bq
 Br)
 (aI
 Bs
 (aI
 Bt
 Bu)))
 (aI
 (aI
 Bv
 Bw)
 (aI
 Bx
 (aI
 zw
 zx))))
 (aI
 (aI
 (aI
 zy
 By)
 (aI
 Bz
 (aI
 C0
 C1)))
 (aI
 (aI
 C2
 (aI
 C3
 C4))
 (aI
 C5
 (aI
 C6
 C7)))))
 (aI
 (aI
 (aI
 (aI
 C8
 C9)
 (aI
 wE
 (aI
 CA
 wF)))
 (aI
 (aI
 CB
 (aI
 zz
 CC))
 (aI
 wG
 (aI
 CD
 CE))))
 (aI
 (aI
 (aI
 wH
 wI)
 (aI
 wJ
 (aI
 wK
 CF)))
 (aI
 (aI
 wL
 (aI
 J0
 J1))
 (aI
 CG
 (aI
 A1
 CH))))))
 (aI
 (aI
 (aI
 (aI
 (aI
 CI
 CJ)
 (aI
 CK
 (aI
 CL
 CM)))
 (aI
 (aI
 CN
 (aI
 CO
 CQ))
 (aI
 CR
 (aI
 wN
 wO))))
 (aI
 (aI
 (aI
 wP
 CS)
 (aI
 CT
 (aI
 CU
 CV)))
 (aI
 (aI
 wQ
 (aI
 CW
 CX))
 (aI
 CY
 (aI
 CZ
 Ca)))))
 (aI
 (aI
 (aI
 (aI
 J2
 Cb)
 (aI
 A2
 (aI
 H8
 Cc)))
 (aI
 (aI
 A3
 (aI
 A4
 Cd))
 (aI
 A5
 (aI
 Ce
 A6))))
 (aI
 (aI
 (aI
 A7
 A8)
 (aI
 Cf
 (aI
 Cg
 Ch)))
 (aI
 (aI
 A9
 (aI
 H9
 Ci))
 (aI
 Cj
 (aI
 Ck
 Cl)))))))))
end Go.Proofs.YtbfmljdablopjaaGreat
