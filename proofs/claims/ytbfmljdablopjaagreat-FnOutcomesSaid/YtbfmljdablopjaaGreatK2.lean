/- Texts joined by a program (short names, no comments): Gb Ty. -/
import Derived.Test.YtbfmljdablopjaaGreatK1
import Derived.Deep.LoopGhost
import Derived.Test.YtbfmljdablopjaaGreatProg
namespace Go.Proofs.YtbfmljdablopjaaGreat
open Go.RowKit
set_option maxRecDepth 100000
set_option linter.unusedVariables false
set_option linter.unusedSimpArgs false
set_option linter.defProp false
set_option maxHeartbeats 4000000
section
variable {P : Program} {BR : Nat → Bool} {ops : Array Oper} {C : Ctx} {M : Imm} {ρ : Plc} {st : St} {a : Act} {w : World}
open Classical in
theorem Rel.freeze (h : Rel C M ρ st a w) {s E sz : Nat} {cs : List AV} (hrow : st.rows s = some (.row E sz cs)) :
  ∃ M', Rel C M' ρ { st with rows := upd st.rows s (some .gone) } a w ∧ ∀ n v, VR M ρ (.own s n) v → VR M' ρ (.sl cs n) v := by
 obtain ⟨x, hx, hX⟩ := h.mr.row s _ hrow rfl
 by_cases hnl : x.nl = true
 ·rcases hX with ⟨_, rfl, _⟩ | ⟨h0, _⟩
  ·refine ⟨M, h.goneRow (by rw [hrow]; simp), fun n v hv => ?_⟩
   obtain ⟨g, cap, ⟨hs, rfl⟩ | ⟨hs, hn0, rfl⟩⟩ := hv.own_inv
   ·rw [hx] at hs; injection hs with hs; subst hs; cases hnl
   ·subst hn0
    exact .plain (.sl [] 0 none 0 0 0 (fun _ => undef) (fun h => by omega) (Nat.le_refl _) (fun i c hc => by simp at hc) (fun i c hc => by simp at hc))
  ·rw [hnl] at h0; cases h0
 have hnl : x.nl = false := by simpa using hnl
 rcases hX with ⟨h0, _⟩ | ⟨_, xs, h1, h2, h3, h4⟩
 ·rw [hnl] at h0; cases h0
 have apt : ∀ o v, M x.g o ≠ some v := fun o v hM => h.mr.apt _ _ _ s _ x hM hrow rfl hx hnl rfl
 have hcell : ∀ i, i < cs.length → w.cell? ⟨x.g, i, none⟩ = some (xs.getD i undef) := fun i hi => by
  have hi' : i < xs.length := by omega
  have := World.ownsRow.cells h1 (g := x.g) rfl i _ (List.getElem?_eq_getElem hi')
  rw [dK, Nat.zero_add] at this
  simpa [hi'] using this
 let M' : Imm := fun b o => if b = x.g then (if o < cs.length then some (xs.getD o undef) else none) else M b o
 have hle : M.le M' := fun b o v hM => by
  have hb : b ≠ x.g := fun e => by subst e; exact apt _ _ hM
  show (if b = x.g then _ else M b o) = some v
  rw [if_neg hb]; exact hM
 have hR := h.goneRow (k := s) (by rw [hrow]; simp)
 refine ⟨M', ⟨fun t => (hR.tm t).mono hle (Plc.le_refl _), hR.N, hR.df, ⟨fun k q hk hq => ?_, hR.mr.inj, fun b o v hM => ?_, fun b o v k q y hM hk hq hy hn => ?_⟩, hR.chg, hR.new, Imm.le_trans hR.m0 hle, hR.r0, fun b hb hD => ?_, hR.fr⟩, fun n v hv => ?_⟩
 ·obtain ⟨y, hy, hY⟩ := hR.mr.row k q hk hq
  exact ⟨y, hy, hY.mono hle (Plc.le_refl _)⟩
 ·by_cases hb : b = x.g
  ·subst hb
   have hM : (if x.g = x.g then (if o < cs.length then some (xs.getD o undef) else none) else M x.g o) = some v := hM
   rw [if_pos rfl] at hM
   split at hM
   ·rename_i ho
    injection hM with hM; subst hM
    refine ⟨hcell o ho, ?_⟩
    have ho' : o < xs.length := by omega
    have := oN (o := o) h1 (h3 _ (List.getElem_mem ho'))
    simpa [ho'] using this
   ·cases hM
  ·have hM : (if b = x.g then (if o < cs.length then some (xs.getD o undef) else none) else M b o) = some v := hM
   rw [if_neg hb] at hM
   exact h.mr.imm b o v hM
 ·by_cases hb : b = x.g
  ·subst hb
   have hk' : upd st.rows s (some .gone) k = some q := hk
   have hks : k ≠ s := fun e => by subst e; rw [ai] at hk'; injection hk' with hk'; subst hk'; cases hq
   rw [au _ _ hks] at hk'
   exact h.mr.inj k s q _ y x hk' hrow hq rfl hy hx hks hn hnl
  ·have hM : (if b = x.g then (if o < cs.length then some (xs.getD o undef) else none) else M b o) = some v := hM
   rw [if_neg hb] at hM
   exact hR.mr.apt b o v k q y hM hk hq hy hn
 ·have hbx : b ≠ x.g := fun e => by
   subst e
   rcases h.new s _ x hrow rfl hx hnl with h' | h'
   ·exact hD h'
   ·omega
  rw [← h.mold b hb hD]
  funext o
  show (if b = x.g then _ else M b o) = M b o
  rw [if_neg hbx]
 ·obtain ⟨g, cap, ⟨hs, rfl⟩ | ⟨hs, hn0, rfl⟩⟩ := hv.own_inv
  ·rw [hx] at hs; injection hs with hs; subst hs
   have hn : n ≤ cap := by
    rcases h1.2 with ⟨hn, _⟩ | ⟨g', cap', cur, hvv, hb, hg, hcap, _⟩
    ·cases hn
    ·injection hvv with _ _ q3; simp only at hcap q3; omega
   have lt : ∀ (i : Nat) (c : AV), cs[i]? = some c → i < cs.length := fun i c hc => by
    rcases Nat.lt_or_ge i cs.length with h' | h'
    ·exact h'
    ·rw [List.getElem?_eq_none h'] at hc; cases hc
   refine .plain (.sl cs n _ cap g 0 (fun i => xs.getD i undef) (fun _ => rfl) hn (fun i c hc => ?_) (fun i c hc => ?_))
   ·rw [Nat.zero_add]
    show (if g = g then (if i < cs.length then some (xs.getD i undef) else none) else M g i) = _
    rw [if_pos rfl, if_pos (lt i c hc)]
   ·have hi' : i < xs.length := by have := lt i c hc; omega
    have := (h4 i c _ hc (List.getElem?_eq_getElem hi')).mono hle
    simpa [hi'] using this
  ·rw [hx] at hs; injection hs with hs; subst hs; cases hnl
theorem Rel.freezePut {d : Option Tmp} {s n E sz : Nat} {cs : List AV} {rows : Nat → Option Row} (hR : Rel C M ρ (({ st with rows := rows } : St).put d (.own s n)) a w) (hrow : rows s = some (.row E sz cs)) :
  ∃ M', Rel C M' ρ (({ st with rows := upd rows s (some .gone) } : St).put d (.sl cs n)) a w := by
 obtain ⟨M', h1, h2⟩ := hR.freeze (s := s) (by rw [St.put_rows]; exact hrow)
 refine ⟨M', ?_⟩
 cases d with
 | none => exact h1
 | some d =>
  refine { h1 with tm := fun t => ?_ }
  show VR M' ρ (upd st.tmps d (.sl cs n) t) _
  by_cases e : t = d
  ·subst e
   rw [ai]
   refine h2 _ _ ?_
   have := hR.tm t
   simp only [St.put, ai] at this
   exact this
  ·rw [au _ _ e]
   have := h1.tm t
   simp only [St.put, au _ _ e] at this
   exact this
theorem AZ {site : Nat} {o : Oper} {st' : St} (h : Stp P BR site o st st') (hR : Rel C M ρ st a w) (hd : ∀ k, o.dst = some k → k < C.N) {K : Act → World → Prop} {Q : Exit → Act → World → Prop}
  (hK : ∀ M' ρ' a' w', Rel C M' ρ' st' a' w' → K a' w') : o.wp P a w K Q := by
 have call : ∀ ι nt, oP P site o ι nt st st' → o.wp P a w K Q := by
  rintro ι nt ⟨c, f, avs, lnd, ret, mem', hop, hcal, h1, h2, h3, h4, h5, h6, h7, h8, rfl⟩
  exact Ds hop hcal hR ι lnd h1 h2 h3 h4 h5 h6 h8 hd hK
 unfold Stp at h
 split at h
 ·obtain ⟨v, h1, rfl⟩ := h
  obtain ⟨u, hu, hU⟩ := Do h1 hR.ev w
  unfold Oper.wp
  rw [hu]
  exact hK _ _ _ _ (hR.put hU hd)
 ·obtain ⟨v, nw, h1, h2, rfl⟩ := h
  obtain ⟨u, M', ρ', w', hu, hU⟩ := K3 h1 hR h2 hd
  unfold Oper.wp
  rw [hu]
  refine hK M' ρ' _ _ ?_
  have e : ({ st with rows := Hl st.rows site nw } : St) = st.add site nw.toList := by cases nw <;> rfl
  rw [← e]; exact hU
 ·exact call [] false h
 ·rename_i hc
  obtain ⟨v, rows', h1, rfl⟩ := h
  have : (∃ t x v, o.op = .store t x v) ∨ ∃ c, o.op = .call c := by
   unfold cls at hc
   split at hc <;> first | (simp at hc; done) | skip
   ·exact .inl ⟨_, _, _, by assumption⟩
   ·exact .inr ⟨_, by assumption⟩
  cases hfz : FZ BR site with
  | false =>
   rw [hfz] at h1
   simp only [pG] at h1
   rcases this with ⟨t, x, v', hop⟩ | ⟨c, hop⟩
   ·obtain ⟨w', hu, hU⟩ := ua hop h1 hR hd
    unfold Oper.wp
    rw [hu]
    exact hK _ _ _ _ hU
   ·obtain ⟨z, ρ', w', hu, hU⟩ := so hop h1 hR hd
    unfold Oper.wp
    rw [hu]
    exact hK _ _ _ _ hU
  | true =>
   rw [hfz] at h1
   obtain ⟨s, n, rows, E, sz, cs, h2, h3, rfl, rfl⟩ := tZ h1
   rcases this with ⟨t, x, v', hop⟩ | ⟨c, hop⟩
   ·obtain ⟨w', hu, hU⟩ := ua hop h2 hR hd
    obtain ⟨M', hV⟩ := hU.freezePut h3
    unfold Oper.wp
    rw [hu]
    exact hK _ _ _ _ hV
   ·obtain ⟨z, ρ', w', hu, hU⟩ := so hop h2 hR hd
    obtain ⟨M', hV⟩ := hU.freezePut h3
    unfold Oper.wp
    rw [hu]
    exact hK _ _ _ _ hV
 ·obtain ⟨ι, nt, h⟩ := h
  exact call ι nt h
 ·obtain ⟨ι, nt, h⟩ := h
  exact call ι nt h
 ·exact h.elim
theorem tb {i site : Nat} {o : Oper} {st' : St} (ho : ops[i]? = some o) (h : Gst P BR ops site o st st') (hR : Rel C M ρ st a w) (hd : ∀ k, o.dst = some k → k < C.N) {K : Act → World → Prop} {Q : Exit → Act → World → Prop}
  (hK : ∀ M' ρ' a' w', Rel C M' ρ' st' a' w' → K a' w') : wpOp P ops Q i K a w := by
 unfold wpOp
 simp only [ho]
 unfold Gst at h
 split at h
 ·rename_i hg
  have hw : Region.wanted o (yielded ops a.tmps) = true := by simp [Region.wanted, hg]
  rw [if_pos hw]
  exact .inl (AZ h hR hd hK)
 ·rename_i g want hg
  obtain ⟨t, h1, h3⟩ := h
  have ht := hR.tm t
  have yb : ∀ b, st.tmps t = .bool b → yielded ops a.tmps g = some b := fun b h2 => by
   rw [h2] at ht
   have ht := ht.bool_inv
   unfold yielded
   rw [h1]
   have : a.tmps[t]? = some (.bool b) := by
    cases hq : a.tmps[t]? with
    | none => simp [hq, undef] at ht
    | some q => simp [hq] at ht; rw [ht]
   simp [this]
  rcases h3 with ⟨h3, h4⟩ | ⟨h3, rfl⟩
  ·have hw : Region.wanted o (yielded ops a.tmps) = true := by simp [Region.wanted, hg, yb _ h3]
   rw [if_pos hw]
   exact .inl (AZ h4 hR hd hK)
  ·have hw : ¬ Region.wanted o (yielded ops a.tmps) = true := by
    rcases h3 with h3 | ⟨b, h3, hne⟩
    ·have hy : yielded ops a.tmps g = none := by
      rw [h3] at ht
      obtain ⟨vs, hv, hl, _⟩ := ht.tup_inv
      unfold yielded
      rw [h1]
      cases hq : a.tmps[t]? with
      | none => simp [hq]
      | some q => simp [hq] at hv; simp [hq, hv]
     simp [Region.wanted, hg, hy]
    ·simp [Region.wanted, hg, yb _ h3, hne]
   rw [if_neg hw]
   exact hK _ _ _ _ (hR.put (.tup [] #[] rfl (by simp)) hd)
def sV (P : Program) (BR : Nat → Bool) (ops : Array Oper) (bs : Nat) : List Nat → St → (St → Prop) → Prop
 | [], st, K => K st
 | i :: L, st, K => ∃ o st', ops[i]? = some o ∧ Gst P BR ops (bs + 16 * i) o st st' ∧ sV P BR ops bs L st' K
def mY (N : Nat) (ops : Array Oper) : Bool := ops.toList.all fun o => match o.dst with | some d => decide (d < N) | none => true
theorem oS {N : Nat} (h : mY N ops = true) {i : Nat} {o : Oper} (ho : ops[i]? = some o) : ∀ k, o.dst = some k → k < N := by
 intro k hk
 have hm : o ∈ ops.toList := by simpa using Array.mem_of_getElem? ho
 have := List.all_eq_true.1 h o hm
 simpa [hk] using this
theorem pk (hN : mY C.N ops = true) {Q : Exit → Act → World → Prop} {K : St → Prop} (hK : ∀ st' M' ρ' a' w', K st' → Rel C M' ρ' st' a' w' → Q .normal a' w') :
  ∀ (L : List Nat) (bs : Nat) (st : St) (M : Imm) (ρ : Plc) (a : Act) (w : World), sV P BR ops bs L st K → Rel C M ρ st a w → wpOps P ops Q L a w
 | [], bs, st, M, ρ, a, w, h, hR => hK _ _ _ _ _ h hR
 | i :: L, bs, st, M, ρ, a, w, h, hR => by
  obtain ⟨o, st', ho, hg, h⟩ := h
  rw [wpOps_cons]
  exact tb ho hg hR (oS hN ho) (fun M' ρ' a' w' hR' => pk hN hK L bs st' M' ρ' a' w' h hR')
def eG (ops : Array Oper) (i : Nat) : List Nat := match ops[i]? with
 | some o => (o.after.toList.filter (Region.binds .any)).map (·.on)
 | none => []
def ni (ops : Array Oper) : Nat → List Nat → List Nat
 | 0, acc => acc
 | k + 1, acc => if acc.contains k then ni ops k (eG ops k ++ acc) else ni ops k acc
def oT (ops : Array Oper) (listed : Array Bool) : Prop := ∀ j, listed.getD j false = true → ∀ k ∈ eG ops j, listed.getD k false = true
theorem ji {listed : Array Bool} (hc : oT ops listed) : ∀ (k : Nat) (acc : List Nat), (∀ x ∈ acc, listed.getD x false = true) → ∀ x ∈ ni ops k acc, listed.getD x false = true
 | 0, acc, h => h
 | k + 1, acc, h => by
  unfold ni
  split
  ·rename_i hk
   refine ji hc k _ fun x hx => ?_
   rcases List.mem_append.1 hx with hx | hx
   ·exact hc k (h k (by simpa using hk)) x hx
   ·exact h x hx
  ·exact ji hc k acc h
theorem nj {listed : Array Bool} {i : Nat} (hr : i ∈ Region.ready .any ops listed) : ∀ k ∈ eG ops i, listed.getD k false = true := by
 obtain ⟨_, o, ho, hall⟩ := mem_ready.1 hr
 intro k hk
 simp only [eG, ho, List.mem_map, List.mem_filter] at hk
 obtain ⟨e, ⟨he, hb⟩, rfl⟩ := hk
 exact hall e (by simpa using he) hb
theorem oT.set {listed : Array Bool} (hc : oT ops listed) {i : Nat} (hr : i ∈ Region.ready .any ops listed) : oT ops (listed.setIfInBounds i true) := by
 intro j hj k hk
 by_cases hij : j = i
 ·subst hij; exact getD_set_true (nj hr k hk)
 ·rw [getD_set_ne false (Ne.symm hij)] at hj
  exact getD_set_true (hc j hj k hk)
def qs (BR : Nat → Bool) (ops : Array Oper) : Bool :=
 (List.range ops.size).all fun i => match ops[i]? with
  | some o => (eG ops i).all (fun k => decide (k < i)) && (let an := ni ops i (eG ops i); (List.range i).all fun k => an.contains k || match ops[k]? with | some x => nG BR ops o x | none => false)
  | none => false
structure ROK (BR : Nat → Bool) (ops : Array Oper) : Prop where
 deps : ∀ i, i < ops.size → ∀ k ∈ eG ops i, k < i
 ind : ∀ i k o x, k < i → ops[i]? = some o → ops[k]? = some x → k ∈ ni ops i (eG ops i) ∨ nG BR ops o x = true
theorem ROK.of (h : qs BR ops = true) : ROK BR ops := by
 unfold qs at h
 refine ⟨fun i hi k hk => ?_, fun i k o x hki ho hx => ?_⟩
 ·have := List.all_eq_true.1 h i (List.mem_range.2 hi)
  rw [Array.getElem?_eq_getElem hi] at this
  simp only [Bool.and_eq_true] at this
  simpa using List.all_eq_true.1 this.1 k hk
 ·have hi : i < ops.size := (Array.getElem?_eq_some_iff.1 ho).1
  have := List.all_eq_true.1 h i (List.mem_range.2 hi)
  rw [ho] at this
  simp only [Bool.and_eq_true] at this
  have := List.all_eq_true.1 this.2 k (List.mem_range.2 hki)
  rw [hx] at this
  simpa using this
theorem ub (hR : Rel C M ρ st a w) (t s : Nat) (h : pK (st.tmps t) s) : st.rows s ≠ none := by
 intro hn
 have hρ := hR.fr s hn
 have hv := hR.tm t
 have one : ∀ {c : AV} {v : Value}, VR M ρ c v → xk c s → False := by
  intro c v hv hr
  cases c <;> simp only [xk] at hr
  case own s' n =>
   subst hr
   obtain ⟨g, cap, ⟨h1, _⟩ | ⟨h1, _⟩⟩ := hv.own_inv
   ·rw [hρ] at h1; cases h1
   ·rw [hρ] at h1; cases h1
  case ptr s' n =>
   subst hr
   obtain ⟨x, h1, _⟩ := hv.ptr_inv
   rw [hρ] at h1; cases h1
 by_cases hag : ∃ cs, st.tmps t = .agg cs
 ·obtain ⟨cs, e⟩ := hag
  rw [e] at h hv
  obtain ⟨c, hc, hr⟩ := h
  obtain ⟨vs, _, hl, _, h2⟩ := hv.agg_inv
  obtain ⟨i, hi, rfl⟩ := List.mem_iff_getElem.1 hc
  exact one (h2 i _ _ (List.getElem?_eq_getElem hi) (Array.getElem?_eq_getElem (by omega))) hr
 ·have e : pK (st.tmps t) s = xk (st.tmps t) s := by
   cases hq : st.tmps t <;> first | rfl | exact absurd ⟨_, hq⟩ hag
  rw [e] at h
  exact one hv h
theorem uc {site : Nat} {o : Oper} {st' : St} (h : Gst P BR ops site o st st') : ∀ s, st.rows s ≠ none → st'.rows s ≠ none := by
 have aft : ∀ (ι : List Nat) (mem' : List Row) (s : Nat), ι.Nodup → ι.length ≤ mem'.length → st.rows s ≠ none → aw ι site st.rows mem' s ≠ none := by
  intro ι mem' s hnd hle hs
  unfold aw
  rw [bR]
  split
  ·rename_i hc
   simp only [List.length_map, List.length_drop] at hc
   rw [List.getElem?_map, List.getElem?_drop, List.getElem?_eq_getElem (by omega)]
   simp
  ·by_cases hsι : s ∈ ι
   ·obtain ⟨j, hj, hjs⟩ := List.mem_iff_getElem.1 hsι
    have e : ι[j]? = some s := by rw [List.getElem?_eq_getElem hj, hjs]
    rw [k5 _ _ _ j s hnd e (by simp; omega), List.getElem?_map, List.getElem?_take, if_pos hj, List.getElem?_eq_getElem (by omega)]
    simp
   ·rw [iU _ _ _ _ hsι]; exact hs
 have stp : Stp P BR site o st st' → ∀ s, st.rows s ≠ none → st'.rows s ≠ none := by
  intro h s hs
  unfold Stp at h
  split at h
  ·obtain ⟨v, h1, rfl⟩ := h
   rw [St.put_rows]; exact hs
  ·obtain ⟨v, nw, h1, h2, rfl⟩ := h
   rw [St.put_rows]
   simp only [St.add, bR]
   split
   ·rename_i hc; rw [List.getElem?_eq_getElem (by omega)]; simp
   ·exact hs
  ·obtain ⟨c, f, avs, lnd, ret, mem', hop, hcal, h1, h2, h3, h4, h5, h6, h7, h8, rfl⟩ := h
   rw [St.put_rows]
   exact aft [] mem' s h2 h5 hs
  ·obtain ⟨v, rows', h1, rfl⟩ := h
   rw [St.put_rows]
   show rows' s ≠ none
   have u : ∀ (f : Nat → Option Row) (k : Nat) (r : Row) (s : Nat), f s ≠ none → upd f k (some r) s ≠ none := fun f k r s hf => by
    unfold upd; split
    ·simp
    ·exact hf
   have h1 : ∃ v rows2, aWr P site st.ev st.rows o.op = some (v, rows2) ∧ (rows2 s ≠ none → rows' s ≠ none) := by
    cases hfz : FZ BR site with
    | false => rw [hfz] at h1; exact ⟨_, _, h1, id⟩
    | true =>
     rw [hfz] at h1
     obtain ⟨s', n, rows, E, sz, cs, h2, h3, rfl, rfl⟩ := tZ h1
     exact ⟨_, _, h2, u _ _ _ _⟩
   obtain ⟨v2, rows2, h1, h2⟩ := h1
   refine h2 ?_
   clear h2
   unfold aWr at h1
   split at h1
   ·repeat' split at h1
    all_goals first | (cases h1; done) | skip
    all_goals
     simp only [Option.some.injEq, Prod.mk.injEq] at h1
     rw [← h1.2]
     exact u _ _ _ _ hs
   ·repeat' split at h1
    all_goals first | (cases h1; done) | skip
    all_goals first
     | (obtain ⟨_, _, _, _, _, _, _, _, _, _, _, _, _, e⟩ := rb h1
        rw [e]
        exact u _ _ _ _ (u _ _ _ _ hs))
     | (simp only [Option.some.injEq, Prod.mk.injEq] at h1
        rw [← h1.2]
        first | exact hs | exact u _ _ _ _ hs | exact u _ _ _ _ (u _ _ _ _ hs))
   ·cases h1
  ·obtain ⟨ι, nt, c, f, avs, lnd, ret, mem', hop, hcal, h1, h2, h3, h4, h5, h6, h7, h8, rfl⟩ := h
   rw [St.put_rows]
   exact aft ι mem' s h2 h5 hs
  ·obtain ⟨ι, nt, c, f, avs, lnd, ret, mem', hop, hcal, h1, h2, h3, h4, h5, h6, h7, h8, rfl⟩ := h
   rw [St.put_rows]
   exact aft ι mem' s h2 h5 hs
  ·exact h.elim
 unfold Gst at h
 split at h
 ·exact stp h
 ·obtain ⟨t, h1, h3⟩ := h
  rcases h3 with ⟨h3, h4⟩ | ⟨h3, rfl⟩
  ·exact stp h4
  ·intro s hs; rw [St.put_rows]; exact hs
theorem k6 {site : Nat} {o : Oper} {st' : St} (h : Gst P BR ops site o st st') (t : Nat) (ht : o.dst ≠ some t) : st'.tmps t = st.tmps t := by
 obtain ⟨v, rows', rfl, _⟩ := h.congr (st2 := st) (fun _ _ => rfl) rfl
 rw [St.put_tmps_ne _ _ _ _ ht]
theorem rc {bs : Nat} {K : St → Prop} {i : Nat} {o : Oper} (ho : ops[i]? = some o) : ∀ (L1 L2 : List Nat) (st : St), (∀ k ∈ L1, k ≠ i ∧ ∀ x, ops[k]? = some x → nG BR ops o x = true) →
  (∀ t ∈ o.looksAt ops, ∀ s, pK (st.tmps t) s → st.rows s ≠ none) → sV P BR ops bs (L1 ++ i :: L2) st K → sV P BR ops bs (i :: (L1 ++ L2)) st K
 | [], L2, st, _, _, h => h
 | k :: L1, L2, st, hL, hlive, h => by
  obtain ⟨x, s1, hx, hg, h⟩ := h
  obtain ⟨hki, hind⟩ := hL k (by simp)
  have hi := hind x hx
  have ha : o.apart ops x = true := by unfold nG at hi; rw [Bool.and_eq_true] at hi; exact hi.1
  obtain ⟨a1, a2, a3⟩ := Oper.apart_spec ha
  have ih := rc ho L1 L2 s1 (fun k' hk' => hL k' (by simp [hk'])) (fun t ht s hr => by
    rw [k6 hg t (fun e => a3 t e ht)] at hr
    exact uc hg s (hlive t ht s hr)) h
  obtain ⟨o', s2, ho', hg2, h2⟩ := ih
  rw [ho] at ho'; injection ho' with ho'; subst ho'
  obtain ⟨s1', e1, e2⟩ := K4 hg hg2 hi (by omega) hlive
  exact ⟨o, s1', ho, e1, x, s2, hx, e2, h2⟩
theorem Aa (hN : mY C.N ops = true) (hOK : ROK BR ops) {Q : Exit → Act → World → Prop} {K : St → Prop} (hK : ∀ st' M' ρ' a' w', K st' → Rel C M' ρ' st' a' w' → Q .normal a' w') (bs : Nat) :
  ∀ (n : Nat) (L : List Nat) (listed : Array Bool) (st : St) (M : Imm) (ρ : Plc) (a : Act) (w : World), L.length = n → L.Pairwise (· < ·) → (∀ i, i ∈ L ↔ i < ops.size ∧ listed.getD i true = false) → listed.size = ops.size → oT ops listed →
   sV P BR ops bs L st K → Rel C M ρ st a w → wpAny P .any ops Q n listed a w := by
 intro n
 induction n with
 | zero =>
  intro L listed st M ρ a w hl hp hL hsz hc h hR
  have : L = [] := List.eq_nil_of_length_eq_zero hl
  subst this
  refine ⟨?_, hK _ _ _ _ _ h hR⟩
  cases hq : Region.ready .any ops listed with
  | nil => rfl
  | cons i r =>
   exfalso
   have hr : i ∈ Region.ready .any ops listed := by rw [hq]; simp
   obtain ⟨h1, o, ho, _⟩ := mem_ready.1 hr
   have := (hL i).2 ⟨(Array.getElem?_eq_some_iff.1 ho).1, h1⟩
   simp at this
 | succ n ih =>
  intro L listed st M ρ a w hl hp hL hsz hc h hR
  have lof : ∀ k, k < ops.size → k ∉ L → listed.getD k false = true := fun k hk hn => by
   have hk' : k < listed.size := by omega
   cases hq : listed[k] with
   | true => simp [hk', hq]
   | false =>
    exfalso
    exact hn ((hL k).2 ⟨hk, by simp [hk', hq]⟩)
  refine ⟨fun h0 => ?_, fun i hi => ?_⟩
  ·exfalso
   cases L with
   | nil => simp at hl
   | cons i L =>
    have hiL := (hL i).1 (by simp)
    have ho : ops[i]? = some ops[i] := Array.getElem?_eq_getElem hiL.1
    have hr : i ∈ Region.ready .any ops listed := mem_ready.2 ⟨hiL.2, _, ho, fun e he hb => by
      have hk : e.on ∈ eG ops i := by
        simp only [eG, ho, List.mem_map, List.mem_filter]
        exact ⟨e, ⟨by simpa using he, hb⟩, rfl⟩
      have hlt := hOK.deps i hiL.1 _ hk
      refine lof _ (by omega) (fun hm => ?_)
      rcases List.mem_cons.1 hm with hm | hm
      · omega
      · have := (List.pairwise_cons.1 hp).1 _ hm
        omega⟩
    rw [h0] at hr; cases hr
  ·obtain ⟨h1, o, ho, _⟩ := mem_ready.1 hi
   have hiL : i ∈ L := (hL i).2 ⟨(Array.getElem?_eq_some_iff.1 ho).1, h1⟩
   obtain ⟨L1, L2, rfl⟩ := List.append_of_mem hiL
   have hlt1 : ∀ k ∈ L1, k < i := fun k hk => (List.pairwise_append.1 hp).2.2 k hk i (by simp)
   have hunl : ∀ k ∈ L1, listed.getD k false = true → False := fun k hk ht => by
    have := ((hL k).1 (by simp [hk])).2
    have hk' : k < listed.size := by have := ((hL k).1 (by simp [hk])).1; omega
    simp [hk'] at this ht
    rw [this] at ht; cases ht
   have hf := rc ho L1 L2 st (fun k hk => ⟨by have := hlt1 k hk; omega, fun x hx => by
     rcases hOK.ind i k o x (hlt1 k hk) ho hx with h' | h'
     · exact (hunl k hk (ji hc i _ (nj hi) k h')).elim
     · exact h'⟩) (fun t ht s hr => ub hR t s hr) h
   obtain ⟨o', st', ho', hg, hrest⟩ := hf
   rw [ho] at ho'; injection ho' with ho'; subst ho'
   have hpw : (L1 ++ L2).Pairwise (· < ·) := by
    rw [List.pairwise_append] at hp ⊢
    exact ⟨hp.1, (List.pairwise_cons.1 hp.2.1).2, fun x hx y hy => hp.2.2 x hx y (by simp [hy])⟩
   have hni : i ∉ L1 ++ L2 := by
    intro hm
    rcases List.mem_append.1 hm with hm | hm
    ·have := hlt1 i hm; omega
    ·have := (List.pairwise_cons.1 (List.pairwise_append.1 hp).2.1).1 i hm; omega
   refine tb ho hg hR (oS hN ho) (fun M' ρ' a' w' hR' => ih (L1 ++ L2) _ st' M' ρ' a' w' (by simp at hl ⊢; omega) hpw (fun j => ?_) (by simpa using hsz) (hc.set hi) hrest hR')
   by_cases hji : j = i
   ·subst hji
    have hjs : j < listed.size := by rw [hsz]; exact (Array.getElem?_eq_some_iff.1 ho).1
    constructor
    ·intro hm; exact absurd hm hni
    ·rintro ⟨_, hm⟩; simp [hjs] at hm
   ·rw [getD_set_ne true (Ne.symm hji), ← hL j]
    simp [hji]
end
def AW (P : Program) (C : Ctx) (c : Code) (st : St) (Q : Exit → St → Prop) : Prop :=
 ∀ M ρ a w, Rel C M ρ st a w → c.wp P (fun e a' w' => ∃ st' M' ρ', Q e st' ∧ Rel C M' ρ' st' a' w') a w
def oo (k : St → Prop) (Q : Exit → St → Prop) : Exit → St → Prop
 | .normal, st => k st
 | e, st => Q e st
def Ab (id : Nat) (Q : Exit → St → Prop) : Exit → St → Prop
 | .exit i, st => if i = id then Q .normal st else Q (.exit i) st
 | e, st => Q e st
def Le (C : Ctx) (st S : St) : Prop := ∀ M ρ a w, Rel C M ρ st a w → ∃ M' ρ', Rel C M' ρ' S a w
section
variable {P : Program} {BR : Nat → Bool} {C : Ctx} {st : St} {Q : Exit → St → Prop}
theorem wx {c : Code} {Q' : Exit → St → Prop} (h : AW P C c st Q) (hq : ∀ e s, Q e s → Q' e s) : AW P C c st Q' :=
 fun M ρ a w hR => Code.wp_mono (fun _ _ _ ⟨st', M', ρ', h1, h2⟩ => ⟨st', M', ρ', hq _ _ h1, h2⟩) (h M ρ a w hR)
theorem aE (h : Q .normal st) : AW P C .skip st Q := fun M ρ a w hR => wp_skip ⟨st, M, ρ, h, hR⟩
theorem aa {id : Nat} (h : Q (.exit id) st) : AW P C (.exit id) st Q := fun M ρ a w hR => wp_exit ⟨st, M, ρ, h, hR⟩
theorem bW (h : Q .ret st) : AW P C .ret st Q := fun M ρ a w hR => wp_ret ⟨st, M, ρ, h, hR⟩
theorem aH {x y : Code} (h : AW P C x st (oo (fun st' => AW P C y st' Q) Q)) : AW P C (.seq x y) st Q := fun M ρ a w hR =>
 wp_seq (Code.wp_mono (fun e a' w' ⟨st', M', ρ', h1, h2⟩ => by
   cases e with
   | normal => exact h1 M' ρ' a' w' h2
   | _ => exact ⟨st', M', ρ', h1, h2⟩) (h M ρ a w hR))
theorem aJ {id : Nat} {c : Code} (h : AW P C c st (Ab id Q)) : AW P C (.block id c) st Q := fun M ρ a w hR =>
 wp_block (Code.wp_mono (fun e a' w' ⟨st', M', ρ', h1, h2⟩ => by
   cases e with
   | exit i =>
     simp only [Exit.inBlock]
     simp only [Ab] at h1
     split
     · rename_i e; rw [if_pos e] at h1; exact ⟨st', M', ρ', h1, h2⟩
     · rename_i e; rw [if_neg e] at h1; exact ⟨st', M', ρ', h1, h2⟩
   | _ => exact ⟨st', M', ρ', h1, h2⟩) (h M ρ a w hR))
theorem Dt {c : Operand} {x y : Code} {b : Bool} (hc : st.ev c = .bool b) (ht : b = true → AW P C x st Q) (hf : b = false → AW P C y st Q) : AW P C (.cond c x y) st Q := fun M ρ a w hR => by
 have e := hR.ev c
 rw [hc] at e
 exact wp_cond_split e.bool_inv (fun h => ht h M ρ a w hR) (fun h => hf h M ρ a w hR)
theorem ba {c : Code} {S : St} (hl : Le C st S) (h : AW P C c S Q) : AW P C c st Q := fun M ρ a w hR => by
 obtain ⟨M', ρ', hR'⟩ := hl M ρ a w hR
 exact h M' ρ' a w hR'
theorem Le.refl : Le C st st := fun M ρ a w h => ⟨M, ρ, h⟩
theorem Le.trans {S T : St} (h : Le C st S) (k : Le C S T) : Le C st T := fun M ρ a w hR => by
 obtain ⟨M', ρ', h'⟩ := h M ρ a w hR
 exact k M' ρ' a w h'
theorem Du {c : Code} (I : Nat → St → Prop) (h0 : ∃ n S, I n S ∧ Le C st S) (hr : ∀ n S, I n S → AW P C c S (oo (fun st' => ∃ m S', m < n ∧ I m S' ∧ Le C st' S') Q)) : AW P C (.loop c) st Q := fun M ρ a w hR => by
 obtain ⟨n0, S0, hI, hL⟩ := h0
 obtain ⟨M', ρ', hR'⟩ := hL M ρ a w hR
 refine wp_loop_ghost (fun n a w => ∃ S M ρ, I n S ∧ Rel C M ρ S a w) n0 ⟨S0, M', ρ', hI, hR'⟩ ?_
 rintro n a w ⟨S, M, ρ, hI, hR⟩
 refine Code.wp_mono (fun e a' w' ⟨st', M', ρ', h1, h2⟩ => ?_) (hr n S hI M ρ a w hR)
 cases e with
 | normal =>
  obtain ⟨m, S', hm, hI', hL'⟩ := h1
  obtain ⟨M'', ρ'', hR''⟩ := hL' M' ρ' a' w' h2
  exact ⟨m, hm, S', M'', ρ'', hI', hR''⟩
 | _ => exact ⟨st', M', ρ', h1, h2⟩
def St.next (st : St) (n : Nat) : St := { st with bs := st.bs + 16 * n }
theorem Rel.next {M : Imm} {ρ : Plc} {a : Act} {w : World} (h : Rel C M ρ st a w) (b : Nat) : Rel C M ρ { st with bs := b } a w := ⟨h.tm, h.N, h.df, h.mr, h.chg, h.new, h.m0, h.r0, h.mold, h.fr⟩
theorem xn {id : Nat} {ops : Array Oper} {draw : Bool} (hm : draw = true → P.follows .mixedOrders = true) (hN : mY C.N ops = true) (hB : draw = true → qs BR ops = true)
  (h : sV P BR ops st.bs (List.range ops.size) st (fun st' => Q .normal { st' with bs := st.bs + 16 * ops.size })) : AW P C (.region id ops draw) st Q := fun M ρ a w hR => by
 have hK : ∀ st' M' ρ' a' w', Q .normal { st' with bs := st.bs + 16 * ops.size } → Rel C M' ρ' st' a' w' → ∃ st' M' ρ', Q .normal st' ∧ Rel C M' ρ' st' a' w' := fun st' M' ρ' a' w' h1 h2 => ⟨_, M', ρ', h1, h2.next _⟩
 cases draw with
 | false => exact wp_region (pk hN (Q := fun e a' w' => ∃ st' M' ρ', Q e st' ∧ Rel C M' ρ' st' a' w') hK _ _ _ _ _ _ _ h hR)
 | true =>
  refine wp_region_any (hm rfl) ?_
  refine Aa hN (ROK.of (hB rfl)) (Q := fun e a' w' => ∃ st' M' ρ', Q e st' ∧ Rel C M' ρ' st' a' w') hK st.bs ops.size (List.range ops.size) _ st M ρ a _ (by simp) List.pairwise_lt_range (fun i => ?_) (by simp) (fun j hj => ?_) h hR.drew
  ·constructor
   ·intro hi
    have := List.mem_range.1 hi
    exact ⟨this, by simp [this]⟩
   ·rintro ⟨hi, _⟩; exact List.mem_range.2 hi
  ·rw [getD_replicate_false] at hj; cases hj
theorem Ac {M : Imm} {ρ : Plc} {a : Act} {w : World} (hR : Rel C M ρ st a w) {t : TypeId} {sz : Nat} {ag : Bool} (ht : szA P t = some (sz, ag)) {x : Operand} {v : AV} (hl : kg ag sz st.rows (st.ev x) = some v) :
  ∃ u, (Instr.loadAt t (a.eval x)).run P w = .ok u w ∧ VR M ρ v u := by
 have ex := hR.ev x
 unfold kg at hl
 split at hl
 ·rename_i s off hx
  rw [hx] at ex
  obtain ⟨y, hy, hyn, ex⟩ := ex.ptr_inv
  rw [ex]
  split at hl
  ·rename_i T cs hrow
   obtain ⟨y', hy', hrow'⟩ := hR.mr.row s _ hrow rfl
   rw [hy] at hy'; injection hy' with hy'; subst hy'
   obtain ⟨h0, arr, h1, h2, h3, h4⟩ := hrow'
   refine m6 ht hl y.g off (fun i => arr.getD (off + i) undef) (fun i c hc => ?_)
   rw [List.getElem?_drop] at hc
   have hlt : off + i < arr.size := by
    rw [← h2]
    rcases Nat.lt_or_ge (off + i) cs.length with h' | h'
    ·exact h'
    ·rw [List.getElem?_eq_none h'] at hc; cases hc
   have e : arr.getD (off + i) undef = arr[off + i] := by simp [hlt]
   rw [e]
   exact ⟨by rw [cell_of_row w y.g (off + i) arr T (0, 0) h1]; simp [hlt], h3 _ (Array.getElem_mem hlt), h4 _ c _ hc (Array.getElem?_eq_getElem hlt)⟩
  ·rename_i E z cs hrow
   obtain ⟨y', hy', hrow'⟩ := hR.mr.row s _ hrow rfl
   rw [hy] at hy'; injection hy' with hy'; subst hy'
   rcases hrow' with ⟨hn1, _⟩ | ⟨h0, xs, h1, h2, h3, h4⟩
   ·rw [hyn] at hn1; cases hn1
   refine m6 ht hl y.g off (fun i => xs.getD (off + i) undef) (fun i c hc => ?_)
   rw [List.getElem?_drop] at hc
   have hlt : off + i < xs.length := by
    rw [← h2]
    rcases Nat.lt_or_ge (off + i) cs.length with h' | h'
    ·exact h'
    ·rw [List.getElem?_eq_none h'] at hc; cases hc
   have e : xs.getD (off + i) undef = xs[off + i] := by simp [hlt]
   rw [e]
   refine ⟨?_, h3 _ (List.getElem_mem hlt), .plain (h4 _ c _ hc (List.getElem?_eq_getElem hlt))⟩
   have := World.ownsRow.cells h1 (g := y.g) rfl (off + i) _ (List.getElem?_eq_getElem hlt)
   rwa [dK, Nat.zero_add] at this
  ·rename_i E z cs hrow
   obtain ⟨y', hy', hrow'⟩ := hR.mr.row s _ hrow rfl
   rw [hy] at hy'; injection hy' with hy'; subst hy'
   rcases hrow' with ⟨hn1, _⟩ | ⟨h0, xs, h1, h2, h3, h4⟩
   ·rw [hyn] at hn1; cases hn1
   refine m6 ht hl y.g off (fun i => xs.getD (off + i) undef) (fun i c hc => ?_)
   rw [List.getElem?_drop] at hc
   have hlt : off + i < xs.length := by
    rw [← h2]
    rcases Nat.lt_or_ge (off + i) cs.length with h' | h'
    ·exact h'
    ·rw [List.getElem?_eq_none h'] at hc; cases hc
   have e : xs.getD (off + i) undef = xs[off + i] := by simp [hlt]
   rw [e]
   refine ⟨?_, h3 _ (List.getElem_mem hlt), h4 _ c _ hc (List.getElem?_eq_getElem hlt)⟩
   have := World.ownsRow.cells h1 (g := y.g) rfl (off + i) _ (List.getElem?_eq_getElem hlt)
   rwa [dK, Nat.zero_add] at this
  ·cases hl
 ·rename_i cs hx
  rw [hx] at ex
  have ex := ex.eptr_inv
  generalize a.eval x = q at ex
  cases ex with
  | eptr _ b off f hm hh =>
   refine m6 ht hl b off f (fun i c hc => ?_)
   have := hR.mr.imm _ _ _ (hm i c hc)
   exact ⟨this.1, this.2.1, .plain (hh i c hc)⟩
 ·cases hl
def qt (P : Program) (st : St) : List ResultVar → Option (List AV)
 | [] => some []
 | .tmp t :: l => match qt P st l with
  | some r => some (st.tmps t :: r)
  | none => none
 | .cell t T :: l => match szA P T with
  | some (sz, ag) => match st.tmps t with
   | .ptr s off => match kg ag sz st.rows (.ptr s off), qt P st l with
    | some v, some r => some (v :: r)
    | _, _ => none
   | _ => none
  | none => none
def tc : List AV → AV
 | [v] => v
 | vs => .tup vs
def iW (ids : List Nat) : AV → AV
 | .tup vs => .tup (vs.map (bq ids fun _ => none))
 | a => bq ids (fun _ => none) a
def xp (P : Program) (fn : Func) (k : Nat) (ret : AV) (mem' : List Row) (st : St) : Prop :=
 ∃ (rs : List AV) (ids : List Nat), qt P st fn.results.toList = some rs ∧ ids.Nodup ∧ (∀ j, j < k → ids[j]? = some j) ∧ ret = iW ids (tc rs) ∧ mem' = ids.map (bS ids (fun _ => none) st.rows)
def Ad (tmps : Array Value) : ResultVar → Sem Value
 | .tmp t => pure (tmps.getD t undef)
 | .cell x t => do loadVar t (← asAddr (tmps.getD x undef))
theorem vg {M : Imm} {ρ : Plc} {a : Act} {w : World} (hR : Rel C M ρ st a w) : ∀ (l : List ResultVar) (rs : List AV), qt P st l = some rs →
  ∃ vs : List Value, (l.mapM (Ad a.tmps)).run P w = .ok vs w ∧ rs.length = vs.length ∧ ∀ (i : Nat) (c : AV) (v : Value), rs[i]? = some c → vs[i]? = some v → VR M ρ c v
 | [], rs, h => by
  simp only [qt, Option.some.injEq] at h
  subst h
  exact ⟨[], rfl, rfl, by simp⟩
 | .tmp t :: l, rs, h => by
  simp only [qt] at h
  split at h
  ·rename_i r hr
   injection h with h; subst h
   obtain ⟨vs, h1, h2, h3⟩ := vg hR l r hr
   refine ⟨a.tmps.getD t undef :: vs, ?_, by simp [h2], fun i c v hc hv => ?_⟩
   ·rw [List.mapM_cons]
    simp only [Sem.run_bind, Ad, Sem.run_pure, Result.andThen_ok, h1]
   ·cases i with
    | zero => simp only [List.getElem?_cons_zero, Option.some.injEq] at hc hv; subst hc hv; exact hR.tm t
    | succ i => exact h3 i c v (by simpa using hc) (by simpa using hv)
  ·cases h
 | .cell t T :: l, rs, h => by
  simp only [qt] at h
  split at h
  ·rename_i sz ag ht
   split at h
   ·rename_i s off hp
    split at h
    ·rename_i v r hv hr
     injection h with h; subst h
     obtain ⟨vs, h1, h2, h3⟩ := vg hR l r hr
     obtain ⟨u, hu, hU⟩ := Ac hR ht (x := .tmp t) (v := v) (by simp only [St.ev, hp]; exact hv)
     have ep := hR.tm t
     rw [hp] at ep
     obtain ⟨y, hy, hyn, ep⟩ := ep.ptr_inv
     have hu' : (do loadVar T (← asAddr (a.tmps.getD t undef)) : Sem Value).run P w = .ok u w := by
      rw [ep]
      have : a.eval (.tmp t) = .pointer (some ⟨y.g, off, none⟩) := ep
      rw [this] at hu
      simpa [Instr.loadAt, Instr.sureAddr, asAddr] using hu
     refine ⟨u :: vs, ?_, by simp [h2], fun i c v hc hv => ?_⟩
     ·rw [List.mapM_cons]
      have hu2 : (Ad a.tmps (.cell t T)).run P w = .ok u w := hu'
      simp only [Sem.run_bind, hu2, Sem.run_pure, Result.andThen_ok, h1]
     ·cases i with
      | zero => simp only [List.getElem?_cons_zero, Option.some.injEq] at hc hv; subst hc hv; exact hU
      | succ i => exact h3 i c v (by simpa using hc) (by simpa using hv)
    ·cases h
   ·cases h
  ·cases h
section
variable {M : Imm} {ρ : Plc} {ids : List Nat}
def pL (ids : List Nat) (ρ : Plc) : Plc := fun j => match ids[j]? with | some s => ρ s | none => none
theorem VR.ps1 {a : AV} {v : Value} (h : VR M ρ a v) : VR M (pL ids ρ) (bQ ids (fun _ => none) a) v := by
 cases h with
 | plain h => cases h <;> first | exact .plain (.top _) | exact .plain (by constructor <;> assumption)
 | own s g n cap h =>
  simp only [bQ]
  split
  ·rename_i j hj
   exact .own j g n cap (by simp only [pL, hQ hj]; exact h)
  ·exact .plain (.top _)
 | ownl s g cap h =>
  simp only [bQ]
  split
  ·rename_i j hj
   exact .ownl j g cap (by simp only [pL, hQ hj]; exact h)
  ·exact .plain (.top _)
 | ptr s off x h hx =>
  simp only [bQ]
  split
  ·rename_i j hj
   exact .ptr j off x (by simp only [pL, hQ hj]; exact h) hx
  ·exact .plain (.top _)
 | agg => exact .plain (.top _)
 | tup => exact .plain (.top _)
 | fn => exact .plain (.top _)
theorem VR.ps2 {a : AV} {v : Value} (h : VR M ρ a v) : VR M (pL ids ρ) (bq ids (fun _ => none) a) v := by
 by_cases hag : ∃ cs, a = .agg cs
 ·obtain ⟨cs, rfl⟩ := hag
  obtain ⟨vs, rfl, hl, h1, h2⟩ := h.agg_inv
  refine .agg _ _ (by simpa using hl) h1 (fun i c u hc hu => ?_)
  rw [List.getElem?_map] at hc
  cases hq : cs[i]? with
  | none => rw [hq] at hc; cases hc
  | some q =>
   rw [hq] at hc; injection hc with hc; subst hc
   exact (h2 i q u hq hu).ps1
 ·have e : bq ids (fun _ => none) a = bQ ids (fun _ => none) a := by cases a <;> first | rfl | exact absurd ⟨_, rfl⟩ hag
  rw [e]; exact h.ps1
theorem VR.ps3 {a : AV} {v : Value} (h : VR M ρ a v) : VR M (pL ids ρ) (iW ids a) v := by
 by_cases hag : ∃ cs, a = .tup cs
 ·obtain ⟨cs, rfl⟩ := hag
  obtain ⟨vs, rfl, hl, h2⟩ := h.tup_inv
  refine .tup _ _ (by simpa using hl) (fun i c u hc hu => ?_)
  rw [List.getElem?_map] at hc
  cases hq : cs[i]? with
  | none => rw [hq] at hc; cases hc
  | some q =>
   rw [hq] at hc; injection hc with hc; subst hc
   exact (h2 i q u hq hu).ps2
 ·have e : iW ids a = bq ids (fun _ => none) a := by cases a <;> first | rfl | exact absurd ⟨_, rfl⟩ hag
  rw [e]; exact h.ps2
theorem pm {rows : Nat → Option Row} {j : Nat} {r : Row} (h : bd (ids.map (bS ids (fun _ => none) rows)) j = some r) (hs : r.solid = true) : ∃ s r0, ids[j]? = some s ∧ rows s = some r0 ∧ r0.solid = true ∧ r = bS ids (fun _ => none) rows s := by
 simp only [bd, List.getElem?_map] at h
 cases hj : ids[j]? with
 | none => rw [hj] at h; cases h
 | some s =>
  rw [hj] at h; injection h with h
  subst h
  unfold bS at hs
  cases hr : rows s with
  | none => simp [hr, Row.solid] at hs
  | some r0 =>
   cases r0 with
   | gone => simp [hr, Row.solid] at hs
   | box T cs => exact ⟨s, _, rfl, hr, rfl, rfl⟩
   | row E sz cs => exact ⟨s, _, rfl, hr, rfl, rfl⟩
   | tab E sz cs => exact ⟨s, _, rfl, hr, rfl, rfl⟩
theorem MR.sub {rows : Nat → Option Row} {w : World} (h : MR M ρ rows w) (hnd : ids.Nodup) : MR M (pL ids ρ) (bd (ids.map (bS ids (fun _ => none) rows))) w := by
 refine ⟨fun j r hj hs => ?_, fun i j r r' x x' hi hj hs hs' hx hx' hne hn hn' => ?_, h.imm, fun b o v j r x hM hj hs hx hn => ?_⟩
 ·obtain ⟨s, r0, e1, e2, e3, rfl⟩ := pm hj hs
  obtain ⟨x, hx, hX⟩ := h.row s r0 e2 e3
  refine ⟨x, by simp only [pL, e1]; exact hx, ?_⟩
  unfold bS
  rw [e2]
  cases r0 with
  | box T cs =>
   obtain ⟨h0, arr, h1, h2, h3, h4⟩ := hX
   refine ⟨h0, arr, h1, by simpa using h2, h3, fun i c v hc hv => ?_⟩
   rw [List.getElem?_map] at hc
   cases hq : cs[i]? with
   | none => rw [hq] at hc; cases hc
   | some q =>
    rw [hq] at hc; injection hc with hc; subst hc
    exact (h4 i q v hq hv).ps1
  | row E sz cs => exact hX
  | tab E sz cs =>
   rcases hX with ⟨a1, a2, a3⟩ | ⟨h0, xs, h1, h2, h3, h4⟩
   ·subst a2; exact .inl ⟨a1, rfl, a3⟩
   refine .inr ⟨h0, xs, h1, by simpa using h2, h3, fun i c v hc hv => ?_⟩
   rw [List.getElem?_map] at hc
   cases hq : cs[i]? with
   | none => rw [hq] at hc; cases hc
   | some q =>
    rw [hq] at hc; injection hc with hc; subst hc
    exact (h4 i q v hq hv).ps1
  | gone => trivial
 ·obtain ⟨s, r0, e1, e2, e3, rfl⟩ := pm hi hs
  obtain ⟨s', r0', e1', e2', e3', rfl⟩ := pm hj hs'
  simp only [pL, e1] at hx
  simp only [pL, e1'] at hx'
  refine h.inj s s' r0 r0' x x' e2 e2' e3 e3' hx hx' (fun e => hne ?_) hn hn'
  subst e
  have h1 : i < ids.length := by
   rcases Nat.lt_or_ge i ids.length with h' | h'
   ·exact h'
   ·rw [List.getElem?_eq_none h'] at e1; cases e1
  exact (List.getElem?_inj h1 hnd).1 (e1.trans e1'.symm)
 ·obtain ⟨s, r0, e1, e2, e3, rfl⟩ := pm hj hs
  simp only [pL, e1] at hx
  exact h.apt b o v s r0 x hM e2 e3 hx hn
end
def aW (i : Nat) : List AV → (Nat → AV) → (Nat → AV)
 | [], f => f
 | a :: l, f => aW (i + 1) l (upd f i a)
theorem sr : ∀ (l : List AV) (i t : Nat) (f : Nat → AV), aW i l f t = if i ≤ t ∧ t < i + l.length then l.getD (t - i) .top else f t
 | [], i, t, f => by simp only [aW, List.length_nil]; rw [if_neg (by omega)]
 | a :: l, i, t, f => by
  simp only [aW, sr l, List.length_cons]
  by_cases h1 : i + 1 ≤ t ∧ t < i + 1 + l.length
  ·rw [if_pos h1, if_pos (by omega), show t - i = (t - (i + 1)) + 1 by omega]; simp
  ·rw [if_neg h1]
   by_cases h2 : t = i
   ·subst h2; rw [ai, if_pos (by omega)]; simp
   ·rw [au _ _ h2, if_neg (by omega)]
def st0 (args : List AV) (mem : List Row) : St := ⟨aW 0 args (fun _ => .top), bd mem, 64⟩
theorem Dv {f : FuncId} {fn : Func} {c : Code} {args : List AV} {mem mem' : List Row} {ret : AV} (hf : P.funcs[f]? = some fn) (hb : fn.body = some c) (hcl : iS P f = true) (hn : args.length ≤ fn.ntmps)
  (h : ∀ C : Ctx, C.N = fn.ntmps → (∀ s, mem.length ≤ s → C.ρ0 s = none) → AW P C c (st0 args mem) (fun e st' => (e = .normal ∨ e = .ret) ∧ xp P fn mem.length ret mem' st')) : aU P f args mem ret mem' := by
 refine ⟨hcl, fun M ρ w vs hmr hρ hlen hvs => ?_⟩
 refine calls_of_wp hf hb ?_
 let C : Ctx := ⟨w, DOf ρ (bd mem), M, ρ, fn.ntmps⟩
 have hR : Rel C M ρ (st0 args mem) { tmps := vs ++ Array.replicate (fn.ntmps - vs.size) undef, defers := [] } w := by
  refine ⟨fun t => ?_, ?_, rfl, hmr, Chg.refl _ _, fun s r x h1 h2 h3 hn => .inl ⟨s, r, x, h1, h2, h3, hn, rfl⟩, Imm.le_refl _, Plc.le_refl _, fun _ _ _ => rfl, fun s hs => ?_⟩
  ·simp only [st0, sr]
   split
   ·rename_i hc
    have h1 : t < args.length := by omega
    have h2 : t < vs.size := by omega
    have e : (vs ++ Array.replicate (fn.ntmps - vs.size) undef).getD t undef = vs[t] := by
     have h3 : t < vs.size + (fn.ntmps - vs.size) := by omega
     simp [h2, h3, Array.getElem_append_left h2]
    rw [e]
    have := hvs t args[t] vs[t] (List.getElem?_eq_getElem h1) (Array.getElem?_eq_getElem h2)
    simpa [h1] using this
   ·exact .plain (.top _)
  ·show (vs ++ Array.replicate (fn.ntmps - vs.size) undef).size = fn.ntmps
   simp; omega
  ·refine hρ s ?_
   rcases Nat.lt_or_ge s mem.length with h' | h'
   ·have hs : mem[s]? = none := hs
    rw [List.getElem?_eq_getElem h'] at hs; cases hs
   ·exact h'
 refine Code.wp_mono (fun e a' w' ⟨st', M', ρ', hq, hR'⟩ => ?_) (h C rfl hρ M ρ _ w hR)
 obtain ⟨he, rs, ids, hrs, hnd, hids, rfl, rfl⟩ := hq
 obtain ⟨us, hu, hul, huv⟩ := vg hR' _ _ hrs
 have hrun : (results fn a'.tmps).run P w' = .ok (if h : us.toArray.size = 1 then us.toArray[0] else .tuple us.toArray) w' := by
  have hre : results fn a'.tmps = (do let vs ← fn.results.mapM (Ad a'.tmps); pure (if h : vs.size = 1 then vs[0] else .tuple vs)) := by
   unfold results
   congr 2
  rw [hre]
  have hm : (fn.results.mapM (Ad a'.tmps)).run P w' = .ok us.toArray w' := by
   rw [← Array.toArray_toList (xs := fn.results), List.mapM_toArray]
   simp only [Sem.run_map, hu, Result.andThen_ok]
  simp only [Sem.run_bind, hm, Result.andThen_ok, Sem.run_pure]
 have hvr : VR M' ρ' (tc rs) (if h : us.toArray.size = 1 then us.toArray[0] else .tuple us.toArray) := by
  cases rs with
  | nil =>
   have : us = [] := List.eq_nil_of_length_eq_zero (by simpa using hul.symm)
   subst this
   simp only [List.size_toArray, List.length_nil, Nat.zero_ne_one, dite_false, tc]
   exact .tup _ _ rfl (by simp)
  | cons r1 rs =>
   cases rs with
   | nil =>
    obtain ⟨u1, rfl⟩ : ∃ u1, us = [u1] := List.length_eq_one_iff.1 (by simpa using hul.symm)
    exact huv 0 r1 u1 rfl rfl
   | cons r2 rs =>
    have h1 : ¬ us.toArray.size = 1 := by simp at hul ⊢; omega
    rw [dif_neg h1]
    refine .tup _ _ (by simpa using hul) (fun i c v hc hv => huv i c v hc (by simpa using hv))
 have hpost : bodyPost P fn (fun e w'' => ∃ v M'' ρ'', e = .returned v ∧ M.le M'' ∧ ρ.le ρ'' ∧ MR M'' ρ'' (bd (ids.map (bS ids (fun _ => none) st'.rows))) w'' ∧ (∀ s, (ids.map (bS ids (fun _ => none) st'.rows)).length ≤ s → ρ'' s = none) ∧ VR M'' ρ'' (iW ids (tc rs)) v ∧ Chg (DOf ρ (bd mem)) w w'' ∧
     (∀ b, b < w.heap.size → ¬ DOf ρ (bd mem) b → M'' b = M b) ∧ ∀ s r x, bd (ids.map (bS ids (fun _ => none) st'.rows)) s = some r → r.solid = true → ρ'' s = some x → x.nl = false → DOf ρ (bd mem) x.g ∨ w.heap.size ≤ x.g) .ret a' w' := by
  refine bodyPost_ret hrun hR'.df ⟨_, M', pL ids ρ', rfl, hR'.m0, fun s x hs => ?_, hR'.mr.sub hnd, fun s hs => ?_, hvr.ps3, hR'.chg, hR'.mold, fun s r x h1 h2 h3 hn => ?_⟩
  ·have hlt : s < mem.length := by
    rcases Nat.lt_or_ge s mem.length with h' | h'
    ·exact h'
    ·rw [hρ s h'] at hs; cases hs
   simp only [pL, hids s hlt]
   exact hR'.r0 s x hs
  ·simp only [List.length_map] at hs
   simp only [pL, List.getElem?_eq_none hs]
  ·obtain ⟨s', r0, e1, e2, e3, rfl⟩ := pm h1 h2
   simp only [pL, e1] at h3
   exact hR'.new s' r0 x e2 e3 h3 hn
 rcases he with rfl | rfl
 ·exact hpost
 ·exact hpost
end
def qS {α : Type} (x : Option α) (K : α → Prop) : Prop := match x with
 | some v => K v
 | none => False
def ss (P : Program) (f : FuncId) (args : List AV) (st : St) (site : Nat) (dst : Option Tmp) (K : St → Prop) : Prop :=
 ∃ (lnd : Nat → Option Row) (ret : AV) (mem' : List Row), (∀ s r, lnd s = some r → st.rows s = some r) ∧ aU P f (args.map (bq [] lnd)) [] ret mem' ∧ ((∀ s, lnd s = none) ∨ (Free ret ∧ ∀ r ∈ mem', ∀ c ∈ r.cells, Free c)) ∧
  mem'.length ≤ 16 ∧ (∀ j, j < mem'.length → st.rows (site + j) = none) ∧ K (({ st with rows := ap st.rows site (mem'.map (Row.ren (mId [] site))) } : St).put dst (fS (mId [] site) ret))
def Ae (P : Program) (f : FuncId) (args : List AV) (st : St) (site : Nat) (dst : Option Tmp) (K : St → Prop) : Prop :=
 ∃ (ι : List Nat) (nt : Bool) (lnd : Nat → Option Row) (ret : AV) (mem' : List Row), (∀ s r, lnd s = some r → st.rows s = some r) ∧ ι.Nodup ∧ (∀ s ∈ ι, ∃ r, st.rows s = some r ∧ r.solid = true) ∧
  aU P f (args.map (sp nt ι lnd)) (ι.map (bS ι lnd st.rows)) ret mem' ∧ ι.length ≤ mem'.length ∧ ((∀ s, lnd s = none) ∨ (Free ret ∧ ∀ r ∈ mem', ∀ c ∈ r.cells, Free c)) ∧
  (nt = false → mem'.length - ι.length ≤ 16) ∧ (∀ j, j < mem'.length - ι.length → st.rows (site + j) = none) ∧ K (({ st with rows := aw ι site st.rows mem' } : St).put dst (fS (mId ι site) ret))
def evL (st : St) : List Operand → List AV
 | [] => []
 | x :: l => st.ev x :: evL st l
def fnK (P : Program) (v : AV) (args : List AV) (st : St) (site : Nat) (dst : Option Tmp) (K : St → Prop) : Prop := match v with
 | .fn f ps => Ae P f (args ++ ps.map fun s => AV.ptr s 0) st site dst K
 | _ => False
def aO (P : Program) (BR : Nat → Bool) (site : Nat) (o : Oper) (st : St) (K : St → Prop) : Prop :=
 match cls BR o.op with
 | 0 => qS (d9 P st.ev o.op) fun v => K (st.put o.dst v)
 | 1 => qS (aMk P (FZ BR site) site st.ev st.rows o.op) fun v => (match v.2 with | some r => st.rows site = none ∧ K (({ st with rows := upd st.rows site (some r) } : St).put o.dst v.1) | none => K (st.put o.dst v.1))
 | 2 => match o.op with
  | .call c => match c.callee with
   | .value (.func f) => ss P f (evL st c.args.toList) st site o.dst K
   | _ => False
  | _ => False
 | 3 => qS (pG (aWr P site st.ev st.rows o.op) (FZ BR site)) fun v => K (({ st with rows := v.2 } : St).put o.dst v.1)
 | 4 => match o.op with
  | .call c => match c.callee with
   | .value (.func f) => Ae P f (evL st c.args.toList) st site o.dst K
   | _ => False
  | _ => False
 | 6 => match o.op with
  | .call c => match c.callee with
   | .value (.tmp t) => fnK P (st.tmps t) (evL st c.args.toList) st site o.dst K
   | _ => False
  | _ => False
 | _ => False
def gK (b want : Bool) (A B : Prop) : Prop := (b = want → A) ∧ (b = !want → B)
def aG (P : Program) (BR : Nat → Bool) (ops : List Oper) (site : Nat) (o : Oper) (st : St) (K : St → Prop) : Prop :=
 match o.guard with
 | none => aO P BR site o st K
 | some (g, want) => match (ops[g]?).bind (·.dst) with
  | some t => match st.tmps t with
   | .bool b => gK b want (aO P BR site o st K) (K (st.put o.dst (.tup [])))
   | .tup [] => K (st.put o.dst (.tup []))
   | _ => False
  | none => False
def di (P : Program) (BR : Nat → Bool) (ops : List Oper) (bs : Nat) : Nat → List Oper → St → (St → Prop) → Prop
 | _, [], st, K => K st
 | i, o :: l, st, K => aG P BR ops (bs + 16 * i) o st (fun st' => di P BR ops bs (i + 1) l st' K)
section
variable {P : Program} {BR : Nat → Bool} {ops : List Oper}
theorem nH (st : St) : ∀ l, evL st l = l.map st.ev
 | [] => rfl
 | x :: l => by simp [evL, nH st l]
theorem lM {α : Type} {x : Option α} {K : α → Prop} (h : qS x K) : ∃ v, x = some v ∧ K v := by
 cases x with
 | none => exact h.elim
 | some v => exact ⟨v, rfl, h⟩
theorem Af {site : Nat} {o : Oper} {st : St} {K : St → Prop} (h : aO P BR site o st K) : ∃ st', Stp P BR site o st st' ∧ K st' := by
 unfold aO at h
 split at h
 ·rename_i hc
  obtain ⟨v, h1, h2⟩ := lM h
  simp only [Stp, hc]
  exact ⟨_, ⟨v, h1, rfl⟩, h2⟩
 ·rename_i hc
  obtain ⟨v, h1, h2⟩ := lM h
  obtain ⟨v, nw⟩ := v
  simp only [Stp, hc]
  cases nw with
  | none => exact ⟨_, ⟨v, none, h1, by simp, rfl⟩, h2⟩
  | some r => exact ⟨_, ⟨v, some r, h1, fun _ => h2.1, rfl⟩, h2.2⟩
 ·rename_i hc
  simp only [Stp, hc]
  split at h
  ·rename_i c hop
   split at h
   ·rename_i f hcal
    obtain ⟨lnd, ret, mem', h1, h2, h3, h4, h5, h6⟩ := h
    refine ⟨_, ⟨c, f, _, lnd, ret, mem', hop, .inl ⟨hcal, rfl⟩, h1, List.nodup_nil, by simp, ?_, by simp, h3, fun _ => by simpa using h4, by simpa using h5, rfl⟩, ?_⟩
    ·rw [nH] at h2; exact h2
    ·rw [fO]; exact h6
   ·exact h.elim
  ·exact h.elim
 ·rename_i hc
  obtain ⟨v, h1, h2⟩ := lM h
  obtain ⟨v, rows'⟩ := v
  simp only [Stp, hc]
  exact ⟨_, ⟨v, rows', h1, rfl⟩, h2⟩
 ·rename_i hc
  simp only [Stp, hc]
  split at h
  ·rename_i c hop
   split at h
   ·rename_i f hcal
    obtain ⟨ι, nt, lnd, ret, mem', h1, h2, h3, h4, h5, h6, h7, h8, h9⟩ := h
    refine ⟨_, ⟨ι, nt, c, f, _, lnd, ret, mem', hop, .inl ⟨hcal, rfl⟩, h1, h2, h3, ?_, h5, h6, h7, h8, rfl⟩, h9⟩
    rw [nH] at h4; exact h4
   ·exact h.elim
  ·exact h.elim
 ·rename_i hc
  simp only [Stp, hc]
  split at h
  ·rename_i c hop
   split at h
   ·rename_i t hcal
    unfold fnK at h
    split at h
    ·rename_i f ps ht
     obtain ⟨ι, nt, lnd, ret, mem', h1, h2, h3, h4, h5, h6, h7, h8, h9⟩ := h
     refine ⟨_, ⟨ι, nt, c, f, _, lnd, ret, mem', hop, .inr ⟨t, ps, hcal, ht, rfl⟩, h1, h2, h3, ?_, h5, h6, h7, h8, rfl⟩, h9⟩
     rw [nH] at h4; exact h4
    ·exact h.elim
   ·exact h.elim
  ·exact h.elim
 ·exact h.elim
theorem Ag {site : Nat} {o : Oper} {st : St} {K : St → Prop} (h : aG P BR ops site o st K) : ∃ st', Gst P BR ops.toArray site o st st' ∧ K st' := by
 unfold aG at h
 split at h
 ·rename_i hg
  simp only [Gst, hg]
  exact Af h
 ·rename_i g want hg
  simp only [Gst, hg]
  split at h
  ·rename_i t ht
   split at h
   ·rename_i b hb
    by_cases e : b = want
    ·obtain ⟨st', h1, h2⟩ := Af (h.1 e)
     exact ⟨st', ⟨t, by simpa using ht, .inl ⟨by rw [hb, e], h1⟩⟩, h2⟩
    ·exact ⟨_, ⟨t, by simpa using ht, .inr ⟨.inr ⟨b, hb, e⟩, rfl⟩⟩, h.2 (by cases b <;> cases want <;> simp_all)⟩
   ·rename_i hb
    exact ⟨_, ⟨t, by simpa using ht, .inr ⟨.inl hb, rfl⟩⟩, h⟩
   ·exact h.elim
  ·exact h.elim
theorem ue {bs : Nat} {K : St → Prop} : ∀ (l : List Oper) (i : Nat) (st : St), (∀ j, l[j]? = ops[i + j]?) → di P BR ops bs i l st K → sV P BR ops.toArray bs (List.range' i l.length) st K
 | [], i, st, _, h => h
 | o :: l, i, st, hl, h => by
  obtain ⟨st', h1, h2⟩ := Ag h
  have h0 : ops[i]? = some o := by simpa using (hl 0).symm
  rw [List.length_cons, List.range'_succ]
  exact ⟨o, st', by simpa using h0, h1, ue l (i + 1) st' (fun j => by have := hl (j + 1); simpa [Nat.add_assoc, Nat.add_comm 1 j] using this) h2⟩
theorem Ah {C : Ctx} {st : St} {Q : Exit → St → Prop} {id : Nat} {draw : Bool} (hm : P.follows .mixedOrders = true) (hN : mY C.N ops.toArray = true) (hB : (!draw || qs BR ops.toArray) = true)
  (h : di P BR ops st.bs 0 ops st (fun st' => Q .normal { st' with bs := st.bs + 16 * ops.length })) : AW P C (.region id ops.toArray draw) st Q :=
 xn (BR := BR) (fun _ => hm) hN (fun e => by rw [e] at hB; simpa using hB) (by
   have := ue ops 0 st (by simp) h
   rw [← List.range_eq_range'] at this
   simpa using this)
theorem uf {f : FuncId} {args : List AV} {st : St} {site : Nat} {dst : Option Tmp} {K : St → Prop} {ret : AV} {mem' : List Row} (hS : aU P f (args.map (bq [] fun _ => none)) [] ret mem') (hl : mem'.length ≤ 16)
  (hs : ∀ j, j < mem'.length → st.rows (site + j) = none) (hK : K (({ st with rows := ap st.rows site (mem'.map (Row.ren (mId [] site))) } : St).put dst (fS (mId [] site) ret))) : ss P f args st site dst K :=
 ⟨_, ret, mem', (fun _ _ h => by cases h), hS, .inl (fun _ => rfl), hl, hs, hK⟩
theorem rd {f : FuncId} {args : List AV} {st : St} {site : Nat} {dst : Option Tmp} {K : St → Prop} {ret : AV} {mem' : List Row} (hS : aU P f (args.map (bq [] st.rows)) [] ret mem') (hf : Free ret ∧ ∀ r ∈ mem', ∀ c ∈ r.cells, Free c) (hl : mem'.length ≤ 16)
  (hs : ∀ j, j < mem'.length → st.rows (site + j) = none) (hK : K (({ st with rows := ap st.rows site (mem'.map (Row.ren (mId [] site))) } : St).put dst (fS (mId [] site) ret))) : ss P f args st site dst K :=
 ⟨_, ret, mem', fun _ _ h => h, hS, .inr hf, hl, hs, hK⟩
theorem Hm (A B : Prop) : gK true true A B = A := by simp [gK]
theorem Hn (A B : Prop) : gK true false A B = B := by simp [gK]
theorem Ho (A B : Prop) : gK false true A B = B := by simp [gK]
theorem Hp (A B : Prop) : gK false false A B = A := by simp [gK]
end
section
variable (P : Program) (BR : Nat → Bool) (ops : List Oper) (bs i : Nat) (o : Oper) (l : List Oper) (st : St) (K : St → Prop)
def rV (x : Option AV) : Prop := qS x fun v => di P BR ops bs (i + 1) l (st.put o.dst v) K
def rF (x : Option Row) (v : AV) (r : Row) : Prop := x = none ∧ di P BR ops bs (i + 1) l (({ st with rows := upd st.rows (bs + 16 * i) (some r) } : St).put o.dst v) K
def rM (x : Option (AV × Option Row)) : Prop := qS x fun v => (match v.2 with | some r => st.rows (bs + 16 * i) = none ∧ di P BR ops bs (i + 1) l (({ st with rows := upd st.rows (bs + 16 * i) (some r) } : St).put o.dst v.1) K | none => di P BR ops bs (i + 1) l (st.put o.dst v.1) K)
def rW (x : Option (AV × (Nat → Option Row))) : Prop := qS x fun v => di P BR ops bs (i + 1) l (({ st with rows := v.2 } : St).put o.dst v.1) K
def rC (f : FuncId) (args : List AV) (dst : Option Tmp) : Prop := ss P f args st (bs + 16 * i) dst fun st' => di P BR ops bs (i + 1) l st' K
def rR (f : FuncId) (args : List AV) (dst : Option Tmp) : Prop := Ae P f args st (bs + 16 * i) dst fun st' => di P BR ops bs (i + 1) l st' K
def rN (v : AV) (args : List AV) (dst : Option Tmp) : Prop := fnK P v args st (bs + 16 * i) dst fun st' => di P BR ops bs (i + 1) l st' K
def rO (c : Nat) : Prop := match c with
 | 0 => rV P BR ops bs i o l st K (d9 P st.ev o.op)
 | 1 => rM P BR ops bs i o l st K (aMk P (FZ BR (bs + 16 * i)) (bs + 16 * i) st.ev st.rows o.op)
 | 2 => match o.op with
  | .call c => match c.callee with
   | .value (.func f) => rC P BR ops bs i l st K f (evL st c.args.toList) o.dst
   | _ => False
  | _ => False
 | 3 => rW P BR ops bs i o l st K (pG (aWr P (bs + 16 * i) st.ev st.rows o.op) (FZ BR (bs + 16 * i)))
 | 4 => match o.op with
  | .call c => match c.callee with
   | .value (.func f) => rR P BR ops bs i l st K f (evL st c.args.toList) o.dst
   | _ => False
  | _ => False
 | 6 => match o.op with
  | .call c => match c.callee with
   | .value (.tmp t) => rN P BR ops bs i l st K (st.tmps t) (evL st c.args.toList) o.dst
   | _ => False
  | _ => False
 | _ => False
def rK (b want : Bool) : Prop := gK b want (rO P BR ops bs i o l st K (cls BR o.op)) (di P BR ops bs (i + 1) l (st.put o.dst (.tup [])) K)
def rA (a : AV) (want : Bool) : Prop := match a with
 | .bool b => rK P BR ops bs i o l st K b want
 | .tup [] => di P BR ops bs (i + 1) l (st.put o.dst (.tup [])) K
 | _ => False
def rB (t : Option Tmp) (want : Bool) : Prop := match t with
 | some t => rA P BR ops bs i o l st K (st.tmps t) want
 | none => False
def rG (g : Option (Nat × Bool)) : Prop := match g with
 | none => rO P BR ops bs i o l st K (cls BR o.op)
 | some (j, want) => rB P BR ops bs i o l st K ((ops[j]?).bind (·.dst)) want
theorem Ai : di P BR ops bs i [] st K = K st := (rfl)
theorem xq : di P BR ops bs i (o :: l) st K = rG P BR ops bs i o l st K o.guard := (rfl)
theorem Dw : rG P BR ops bs i o l st K none = rO P BR ops bs i o l st K (cls BR o.op) := (rfl)
theorem Dx (j : Nat) (want : Bool) : rG P BR ops bs i o l st K (some (j, want)) = rB P BR ops bs i o l st K ((ops[j]?).bind (·.dst)) want := (rfl)
theorem Dy (t : Tmp) (want : Bool) : rB P BR ops bs i o l st K (some t) want = rA P BR ops bs i o l st K (st.tmps t) want := (rfl)
theorem Dz (b want : Bool) : rA P BR ops bs i o l st K (.bool b) want = rK P BR ops bs i o l st K b want := (rfl)
theorem IL (want : Bool) : rA P BR ops bs i o l st K (.tup []) want = di P BR ops bs (i + 1) l (st.put o.dst (.tup [])) K := (rfl)
theorem K5 : rK P BR ops bs i o l st K true true = rO P BR ops bs i o l st K (cls BR o.op) := Hm _ _
theorem K6 : rK P BR ops bs i o l st K false false = rO P BR ops bs i o l st K (cls BR o.op) := Hp _ _
theorem K7 : rK P BR ops bs i o l st K true false = di P BR ops bs (i + 1) l (st.put o.dst (.tup [])) K := Hn _ _
theorem K8 : rK P BR ops bs i o l st K false true = di P BR ops bs (i + 1) l (st.put o.dst (.tup [])) K := Ho _ _
theorem Lg : rO P BR ops bs i o l st K 0 = rV P BR ops bs i o l st K (d9 P st.ev o.op) := (rfl)
theorem Lh : rO P BR ops bs i o l st K 1 = rM P BR ops bs i o l st K (aMk P (FZ BR (bs + 16 * i)) (bs + 16 * i) st.ev st.rows o.op) := (rfl)
theorem Li : rO P BR ops bs i o l st K 3 = rW P BR ops bs i o l st K (pG (aWr P (bs + 16 * i) st.ev st.rows o.op) (FZ BR (bs + 16 * i))) := (rfl)
theorem Lj (d : Option Tmp) (f : FuncId) (args : Array Operand) (tys : Array TypeId) (t : TypeId) (p : String) (af : Array Edge) (g : Option (Nat × Bool)) :
  rO P BR ops bs i ⟨d, .call ⟨.value (.func f), args, tys⟩, t, p, af, g⟩ l st K 2 = rC P BR ops bs i l st K f (evL st args.toList) d := (rfl)
theorem Lk (d : Option Tmp) (f : FuncId) (args : Array Operand) (tys : Array TypeId) (t : TypeId) (p : String) (af : Array Edge) (g : Option (Nat × Bool)) :
  rO P BR ops bs i ⟨d, .call ⟨.value (.func f), args, tys⟩, t, p, af, g⟩ l st K 4 = rR P BR ops bs i l st K f (evL st args.toList) d := (rfl)
theorem Ll (d : Option Tmp) (t' : Tmp) (args : Array Operand) (tys : Array TypeId) (t : TypeId) (p : String) (af : Array Edge) (g : Option (Nat × Bool)) :
  rO P BR ops bs i ⟨d, .call ⟨.value (.tmp t'), args, tys⟩, t, p, af, g⟩ l st K 6 = rN P BR ops bs i l st K (st.tmps t') (evL st args.toList) d := (rfl)
theorem K9 (f : FuncId) (ps : List Nat) (args : List AV) (d : Option Tmp) : rN P BR ops bs i l st K (.fn f ps) args d = rR P BR ops bs i l st K f (args ++ ps.map fun s => AV.ptr s 0) d := (rfl)
theorem E2 (v : AV) : rV P BR ops bs i o l st K (some v) = di P BR ops bs (i + 1) l (st.put o.dst v) K := (rfl)
theorem E3 (v : AV) : rM P BR ops bs i o l st K (some (v, none)) = di P BR ops bs (i + 1) l (st.put o.dst v) K := (rfl)
theorem E4 (v : AV) (r : Row) : rM P BR ops bs i o l st K (some (v, some r)) = rF P BR ops bs i o l st K (st.rows (bs + 16 * i)) v r := (rfl)
theorem E5 (v : AV) (r : Row) : rF P BR ops bs i o l st K none v r = di P BR ops bs (i + 1) l (({ st with rows := upd st.rows (bs + 16 * i) (some r) } : St).put o.dst v) K := by simp [rF]
theorem E6 (v : AV) (rows : Nat → Option Row) : rW P BR ops bs i o l st K (some (v, rows)) = di P BR ops bs (i + 1) l (({ st with rows := rows } : St).put o.dst v) K := (rfl)
end
def BRx (B : Nat → Bool) (l : List Nat) (f : Nat) : Bool := B f || l.contains f
theorem IM (B : Nat → Bool) (l : List Nat) (f : Nat) : BRx B l f = (B f || l.contains f) := (rfl)
theorem Lm (B : Nat → Bool) (l : List Nat) (n : Nat) : FZ (BRx B l) n = (FZ B n || l.contains (1000000 + n)) := (rfl)
theorem St.put_some (T : Nat → AV) (R : Nat → Option Row) (b : Nat) (d : Tmp) (v : AV) : (St.mk T R b).put (some d) v = St.mk (upd T d v) R b := (rfl)
theorem St.put_none (st : St) (v : AV) : st.put none v = st := (rfl)
theorem IN (T : Nat → AV) (R : Nat → Option Row) (b : Nat) (t : Tmp) : (St.mk T R b).ev (.tmp t) = T t := (rfl)
theorem Aj (st : St) (v : Value) : st.ev (.const v) = ofV v := (rfl)
section
variable {P : Program} {BR : Nat → Bool} {ops : List Oper} {C : Ctx} {st : St} {Q : Exit → St → Prop}
variable {bs i : Nat} {l : List Oper} {K : St → Prop} {f : FuncId} {args : List AV} {dst : Option Tmp} {ret : AV} {mem' : List Row}
theorem Ak (hS : aU P f (args.map (bq [] fun _ => none)) [] ret mem') (hl : mem'.length ≤ 16)
  (hs : ∀ j, j < mem'.length → st.rows (bs + 16 * i + j) = none) (hK : di P BR ops bs (i + 1) l (({ st with rows := ap st.rows (bs + 16 * i) (mem'.map (Row.ren (mId [] (bs + 16 * i)))) } : St).put dst (fS (mId [] (bs + 16 * i)) ret)) K) : rC P BR ops bs i l st K f args dst := uf hS hl hs hK
theorem E7 (hS : aU P f (args.map (bq [] st.rows)) [] ret mem') (hf : Free ret ∧ ∀ r ∈ mem', ∀ c ∈ r.cells, Free c) (hl : mem'.length ≤ 16)
  (hs : ∀ j, j < mem'.length → st.rows (bs + 16 * i + j) = none) (hK : di P BR ops bs (i + 1) l (({ st with rows := ap st.rows (bs + 16 * i) (mem'.map (Row.ren (mId [] (bs + 16 * i)))) } : St).put dst (fS (mId [] (bs + 16 * i)) ret)) K) : rC P BR ops bs i l st K f args dst := rd hS hf hl hs hK
end
section
variable {P : Program} {BR : Nat → Bool} {ops : List Oper} {C : Ctx} {Q : Exit → St → Prop} {T : Nat → AV} {R : Nat → Option Row} {b : Nat}
theorem KA {id : Nat} {draw : Bool} {y : Code} (hm : P.follows .mixedOrders = true) (hN : mY C.N ops.toArray = true) (hB : (!draw || qs BR ops.toArray) = true)
  (h : ∀ K : St → Prop, (∀ T' R' b', AW P C y (St.mk T' R' (b + 1024)) Q → K (St.mk T' R' b')) → di P BR ops b 0 ops (St.mk T R b) K) : AW P C (.seq (.region id ops.toArray draw) y) (St.mk T R b) Q :=
 aH fun M ρ a w hR => by
  have := h (fun st' => AW P C y (St.mk st'.tmps st'.rows (b + 1024)) Q) (fun T' R' b' h => h)
  refine Ah (BR := BR) (Q := oo (fun st' => AW P C y (St.mk st'.tmps st'.rows (b + 1024)) Q) Q) hm hN hB this M ρ a w hR |> Code.wp_mono ?_
  rintro e a' w' ⟨st', M', ρ', h1, h2⟩
  cases e with
  | normal => exact ⟨St.mk st'.tmps st'.rows (b + 1024), M', ρ', h1, h2.next _⟩
  | _ => exact ⟨st', M', ρ', h1, h2⟩
theorem wy {id : Nat} {draw : Bool} (hm : P.follows .mixedOrders = true) (hN : mY C.N ops.toArray = true) (hB : (!draw || qs BR ops.toArray) = true)
  (h : ∀ K : St → Prop, (∀ T' R' b', Q .normal (St.mk T' R' (b + 1024)) → K (St.mk T' R' b')) → di P BR ops b 0 ops (St.mk T R b) K) : AW P C (.region id ops.toArray draw) (St.mk T R b) Q := fun M ρ a w hR => by
 have := h (fun st' => Q .normal (St.mk st'.tmps st'.rows (b + 1024))) (fun T' R' b' h => h)
 refine Ah (BR := BR) (Q := oo (fun st' => Q .normal (St.mk st'.tmps st'.rows (b + 1024))) Q) hm hN hB this M ρ a w hR |> Code.wp_mono ?_
 rintro e a' w' ⟨st', M', ρ', h1, h2⟩
 cases e with
 | normal => exact ⟨St.mk st'.tmps st'.rows (b + 1024), M', ρ', h1, h2.next _⟩
 | _ => exact ⟨st', M', ρ', h1, h2⟩
def wz (a : AV) (A B : Prop) : Prop := match a with
 | .bool b => (b = true → A) ∧ (b = false → B)
 | _ => False
theorem ah {c : Operand} {x y : Code} {st : St} {a : AV} (hc : st.ev c = a) (h : wz a (AW P C x st Q) (AW P C y st Q)) : AW P C (.cond c x y) st Q := by
 unfold wz at h
 split at h
 ·exact Dt hc h.1 h.2
 ·exact h.elim
theorem re {A B : Prop} (h : A) : wz (.bool true) A B := ⟨fun _ => h, fun e => by cases e⟩
def Al (P : Program) (st : St) (l : List ResultVar) (k : Nat) (ids : List Nat) (ret : AV) (mem' : List Row) : Prop := match qt P st l with
 | some rs => ret = iW ids (tc rs) ∧ mem' = ids.map (bS ids (fun _ => none) st.rows)
 | none => False
theorem KB {fn : Func} {st : St} {k : Nat} (ids : List Nat) {ret : AV} {mem' : List Row} {e : Exit} (he : e = .normal ∨ e = .ret) (hnd : ids.Nodup) (hk : ∀ j, j < k → ids[j]? = some j) (h : Al P st fn.results.toList k ids ret mem') : (e = .normal ∨ e = .ret) ∧ xp P fn k ret mem' st := by
 unfold Al at h
 split at h
 ·rename_i rs hrs
  exact ⟨he, rs, ids, hrs, hnd, hk, h.1, h.2⟩
 ·exact h.elim
end
def ug : AV → Option Value
 | .int k n => some (.int k n)
 | .bool b => some (.bool b)
 | .str s => some (.string s)
 | _ => none
def uh : List AV → Option (List Value)
 | [] => some []
 | c :: cs => match ug c, uh cs with
  | some v, some vs => some (v :: vs)
  | _, _ => none
def E8 : AV → Option Value
 | .agg cs => match uh cs with
  | some vs => some (.agg vs.toArray)
  | none => none
 | a => ug a
theorem su {M : Imm} {ρ : Plc} {a : AV} {u v : Value} (h : ug a = some u) (hv : VR M ρ a v) : v = u := by
 cases a <;> simp only [ug] at h <;> first | (cases h; done) | skip
 all_goals injection h with h; subst h
 ·exact hv.int_inv
 ·exact hv.bool_inv
 ·cases hv with
  | plain h => cases h; rfl
theorem sv {M : Imm} {ρ : Plc} : ∀ {cs : List AV} {us : List Value} {vs : List Value}, uh cs = some us → cs.length = vs.length → (∀ (i : Nat) (c : AV) (u : Value), cs[i]? = some c → vs[i]? = some u → VR M ρ c u) → vs = us
 | [], us, vs, h, hl, _ => by
  simp only [uh, Option.some.injEq] at h
  subst h
  exact List.eq_nil_of_length_eq_zero (by simpa using hl.symm)
 | c :: cs, us, [], h, hl, _ => by simp at hl
 | c :: cs, us, v :: vs, h, hl, hv => by
  simp only [uh] at h
  split at h
  ·rename_i x xs hx hxs
   injection h with h; subst h
   rw [su hx (hv 0 c v rfl rfl), sv (vs := vs) hxs (by simpa using hl) (fun i c' u hc hu => hv (i + 1) c' u (by simpa using hc) (by simpa using hu))]
  ·cases h
theorem Am {M : Imm} {ρ : Plc} {a : AV} {u v : Value} (h : E8 a = some u) (hv : VR M ρ a v) : v = u := by
 by_cases hag : ∃ cs, a = .agg cs
 ·obtain ⟨cs, rfl⟩ := hag
  simp only [E8] at h
  split at h
  ·rename_i us hus
   injection h with h; subst h
   obtain ⟨vs, rfl, hl, h1, h2⟩ := hv.agg_inv
   have := sv (vs := vs.toList) hus (by simpa using hl) (fun i c u hc hu => h2 i c u hc (by simpa using hu))
   rw [← this]
  ·cases h
 ·have e : E8 a = ug a := by cases a <;> first | rfl | exact absurd ⟨_, rfl⟩ hag
  rw [e] at h
  exact su h hv
def ui : List AV → Option (List Value)
 | [] => some []
 | c :: cs => match E8 c, ui cs with
  | some v, some vs => some (v :: vs)
  | _, _ => none
theorem sw {M : Imm} {ρ : Plc} : ∀ {cs : List AV} {us : List Value} {vs : List Value}, ui cs = some us → cs.length = vs.length → (∀ (i : Nat) (c : AV) (u : Value), cs[i]? = some c → vs[i]? = some u → VR M ρ c u) → vs = us
 | [], us, vs, h, hl, _ => by
  simp only [ui, Option.some.injEq] at h
  subst h
  exact List.eq_nil_of_length_eq_zero (by simpa using hl.symm)
 | c :: cs, us, [], h, hl, _ => by simp at hl
 | c :: cs, us, v :: vs, h, hl, hv => by
  simp only [ui] at h
  split at h
  ·rename_i x xs hx hxs
   injection h with h; subst h
   rw [Am hx (hv 0 c v rfl rfl), sw (vs := vs) hxs (by simpa using hl) (fun i c' u hc hu => hv (i + 1) c' u (by simpa using hc) (by simpa using hu))]
  ·cases h
theorem xu {P : Program} {f : FuncId} {args : List AV} {vals : List Value} {ret : AV} {v : Value} (hc : iS P f = true) (hs : ui args = some vals) (hr : ∀ (M : Imm) (ρ : Plc), VR M ρ ret v)
  (h : ∀ w, Calls P f vals.toArray w fun e w' => e = .returned v ∧ Below w.heap.size w w') : aU P f args [] ret [] := by
 refine ⟨hc, fun M ρ w vs hmr hρ hlen hvs => ?_⟩
 have e : vs.toList = vals := sw hs (by simpa using hlen) (fun i c u hc hu => hvs i c u hc (by simpa using hu))
 have e' : vs = vals.toArray := by rw [← e]
 rw [e']
 refine (h w).mono fun e w' ⟨he, hb⟩ => ⟨v, M, ρ, he, Imm.le_refl _, Plc.le_refl _, hmr.same fun b hb' => hb.block b hb', hρ, hr M ρ, Below.chg hb _, fun _ _ _ => rfl, fun s r x hs => by simp [bd] at hs⟩
def mkT : List (Nat × AV) → (Nat → AV)
 | [] => fun _ => .top
 | (k, v) :: l => upd (mkT l) k v
def mkR : List (Nat × Row) → (Nat → Option Row)
 | [] => fun _ => none
 | (k, r) :: l => upd (mkR l) k (some r)
section
variable {P : Program} {C : Ctx} {Q : Exit → St → Prop} {st : St}
theorem IP {x y : Code} (J : St → Prop) (h1 : AW P C x st (oo (fun st' => ∃ S, J S ∧ Le C st' S) Q)) (h2 : ∀ S, J S → AW P C y S Q) : AW P C (.seq x y) st Q :=
 aH (wx h1 fun e s h => by
   cases e with
   | normal =>
     obtain ⟨S, hJ, hL⟩ := h
     exact ba hL (h2 S hJ)
   | _ => exact h)
end
abbrev bJ := Nat → Option (Option Nat)
def lk : List (Nat × Option Nat) → bJ
 | [], _ => none
 | (k, v) :: l, s => if s = k then some v else lk l s
def fz1 (F : Nat → Option Row) : Option Row → List AV → Prop
 | some (.row _ _ cs), cs' => cs = cs'
 | some (.tab _ _ cs), cs' => cs.map (fU [] F) = cs'
 | _, _ => False
def cvP (g : bJ) : List Nat → List Nat → Prop
 | [], [] => True
 | s :: l, s' :: l' => g s' = some (some s) ∧ cvP g l l'
 | _, _ => False
theorem td {g : bJ} : ∀ {ps ps' : List Nat}, cvP g ps ps' → ps.length = ps'.length ∧ ∀ (i s' : Nat), ps'[i]? = some s' → ∃ s, ps[i]? = some s ∧ g s' = some (some s)
 | [], [], _ => ⟨rfl, fun i s h => by simp at h⟩
 | s :: l, s' :: l', h => by
  obtain ⟨h1, h2⟩ := td h.2
  refine ⟨by simp [h1], fun i q hq => ?_⟩
  cases i with
  | zero => simp only [List.getElem?_cons_zero, Option.some.injEq] at hq; subst hq; exact ⟨s, rfl, h.1⟩
  | succ i => exact h2 i q (by simpa using hq)
 | [], _ :: _, h => h.elim
 | _ :: _, [], h => h.elim
def cv1 (g : bJ) (F : Nat → Option Row) : AV → AV → Prop
 | _, .top => True
 | .own s n, .own s' n' => g s' = some (some s) ∧ n = n'
 | .nil, .own s' n' => g s' = some none ∧ n' = 0
 | .ptr s o, .ptr s' o' => g s' = some (some s) ∧ o = o'
 | .sl cs n, .sl cs' n' => cs = cs' ∧ n = n'
 | .nil, .sl cs' n' => cs' = [] ∧ n' = 0
 | .own s n, .sl cs' n' => fz1 F (F s) cs' ∧ n = n'
 | .int k n, .int k' n' => k = k' ∧ n = n'
 | .bool b, .bool b' => b = b'
 | .str s, .str s' => s = s'
 | .nil, .nil => True
 | .eptr cs, .eptr cs' => cs = cs'
 | .fn f ps, .fn f' ps' => f = f' ∧ cvP g ps ps'
 | _, _ => False
def cvL (g : bJ) (F : Nat → Option Row) : List AV → List AV → Prop
 | [], [] => True
 | c :: cs, c' :: cs' => cv1 g F c c' ∧ cvL g F cs cs'
 | _, _ => False
def cvV (g : bJ) (F : Nat → Option Row) : AV → AV → Prop
 | .agg cs, .agg cs' => cvL g F cs cs'
 | a, a' => cv1 g F a a'
def cvT (g : bJ) (F : Nat → Option Row) : List AV → List AV → Prop
 | [], [] => True
 | c :: cs, c' :: cs' => cvV g F c c' ∧ cvT g F cs cs'
 | _, _ => False
def cvW (g : bJ) (F : Nat → Option Row) : AV → AV → Prop
 | .tup cs, .tup cs' => cvT g F cs cs'
 | a, a' => cvV g F a a'
def cvR (g : bJ) (F : Nat → Option Row) : Row → Row → Prop
 | .box T cs, .box T' cs' => T = T' ∧ cvL g F cs cs'
 | .row E sz cs, .row E' sz' cs' => E = E' ∧ sz = sz' ∧ cs = cs'
 | .tab E sz cs, .tab E' sz' cs' => E = E' ∧ sz = sz' ∧ cvL g F cs cs'
 | .row E sz cs, .tab E' sz' cs' => E = E' ∧ sz = sz' ∧ cvL g F cs cs'
 | _, .gone => True
 | _, _ => False
def An (g : bJ) (F : Nat → Option Row) : Option Row → Row → Prop
 | some r, r' => cvR g F r r'
 | none, .gone => True
 | none, _ => False
def te (g : bJ) (F R : Nat → Option Row) : Option (Option Nat) → Row → Prop
 | some (some s), r' => An g F (R s) r'
 | some none, .row _ _ cs => cs = []
 | some none, .tab _ _ cs => cs = []
 | _, .gone => True
 | _, _ => False
def leT (g : bJ) (F : Nat → Option Row) (T : Nat → AV) : List (Nat × AV) → Prop
 | [] => True
 | (k, v) :: l => cvW g F (T k) v ∧ leT g F T l
def leR (g : bJ) (F R : Nat → Option Row) : List (Nat × Row) → Prop
 | [] => True
 | (k, r) :: l => te g F R (g k) r ∧ leR g F R l
def fzF (fz : List Nat) (R : Nat → Option Row) : Nat → Option Row := fun s => match fz.contains s with | true => R s | false => none
def pn : List (Nat × Option Nat) → List Nat
 | [] => []
 | (_, some s) :: l => s :: pn l
 | (_, none) :: l => pn l
def sW : List Nat → Bool
 | [] => true
 | a :: l => !l.contains a && sW l
def upB : Nat → (Nat → Bool) → Bool
 | 0, _ => true
 | n + 1, f => f n && upB n f
def E9 (j : Nat) : Option (Option Nat) → Bool
 | some (some s) => s == j
 | _ => false
def EA (ks : List (Nat × Bool)) (s : Nat) : Bool := ks.any fun p => p.1 == s && p.2
def gOK (k : Nat) (G : List (Nat × Option Nat)) (fz : List Nat) (ks : List (Nat × Bool)) : Bool :=
 upB k (fun j => E9 j (lk G j)) && sW (pn (G.filter fun p => EA ks p.1)) && sW (G.map (·.1)) && (pn (G.filter fun p => EA ks p.1)).all (fun s => !fz.contains s) && (G.map (·.1)).all (fun s => ks.any fun p => p.1 == s)
theorem oq : ∀ {lr : List (Nat × Row)} {s : Nat} {r : Row}, mkR lr s = some r → r.solid = true → EA (lr.map fun x => (x.1, x.2.solid)) s = true
 | [], _, _, h, _ => by cases h
 | (k, q) :: l, s, r, h, hs => by
  simp only [mkR] at h
  unfold EA
  simp only [List.map_cons, List.any_cons, Bool.or_eq_true, Bool.and_eq_true, beq_iff_eq]
  by_cases e : s = k
  ·subst e
   rw [ai] at h; injection h with h; subst h
   exact .inl ⟨rfl, hs⟩
  ·rw [au _ _ e] at h
   exact .inr (oq h hs)
theorem nk : ∀ {n : Nat} {f : Nat → Bool}, upB n f = true → ∀ j, j < n → f j = true
 | 0, _, _, j, h => by omega
 | n + 1, f, h, j, hj => by
  simp only [upB, Bool.and_eq_true] at h
  by_cases e : j = n
  ·subst e; exact h.1
  ·exact nk h.2 j (by omega)
theorem iC : ∀ {l : List Nat}, sW l = true → l.Nodup
 | [], _ => List.nodup_nil
 | a :: l, h => by
  simp only [sW, Bool.and_eq_true, Bool.not_eq_true', List.contains_eq_mem, decide_eq_false_iff_not] at h
  exact List.nodup_cons.2 ⟨h.1, iC h.2⟩
theorem gY : ∀ {G : List (Nat × Option Nat)} {s : Nat} {v : Option Nat}, lk G s = some v → (s, v) ∈ G
 | [], s, v, h => by cases h
 | (k, u) :: l, s, v, h => by
  simp only [lk] at h
  split at h
  ·rename_i e
   injection h with h
   subst e h
   simp
  ·exact List.mem_cons_of_mem _ (gY h)
theorem gf : ∀ {G : List (Nat × Option Nat)} {s s' : Nat}, (s, some s') ∈ G → s' ∈ pn G
 | [], _, _, h => by cases h
 | (k, some u) :: l, s, s', h => by
  simp only [pn]
  rcases List.mem_cons.1 h with h | h
  ·injection h with _ h; injection h with h; subst h; simp
  ·exact List.mem_cons_of_mem _ (gf h)
 | (k, none) :: l, s, s', h => by
  simp only [pn]
  rcases List.mem_cons.1 h with h | h
  ·injection h with _ h; cases h
  ·exact gf h
theorem nm : ∀ {G : List (Nat × Option Nat)} {s t u : Nat}, (pn G).Nodup → (s, some u) ∈ G → (t, some u) ∈ G → s = t
 | [], _, _, _, _, h, _ => by cases h
 | (k, none) :: l, s, t, u, hn, h1, h2 => by
  rcases List.mem_cons.1 h1 with h1 | h1
  ·injection h1 with _ h1; cases h1
  rcases List.mem_cons.1 h2 with h2 | h2
  ·injection h2 with _ h2; cases h2
  exact nm (G := l) hn h1 h2
 | (k, some v) :: l, s, t, u, hn, h1, h2 => by
  simp only [pn] at hn
  obtain ⟨n1, n2⟩ := List.nodup_cons.1 hn
  rcases List.mem_cons.1 h1 with q1 | q1
  ·injection q1 with a1 b1; injection b1 with b1; subst b1
   rcases List.mem_cons.1 h2 with q2 | q2
   ·injection q2 with a2 b2; rw [a1, a2]
   ·exact absurd (gf (G := l) q2) n1
  ·rcases List.mem_cons.1 h2 with q2 | q2
   ·injection q2 with a2 b2; injection b2 with b2; subst b2
    exact absurd (gf (G := l) q1) n1
   ·exact nm n2 q1 q2
def pM (g : bJ) (ρ : Plc) : Plc := fun s => match g s with | some (some s0) => ρ s0 | some none => some ⟨0, 0, 0, true⟩ | none => none
section
variable {C : Ctx} {T : Nat → AV} {R : Nat → Option Row} {b : Nat} {M : Imm} {ρ : Plc} {a : Act} {w : World}
theorem gg {g : bJ} {s s' : Nat} (h : g s' = some (some s)) : pM g ρ s' = ρ s := by unfold pM; rw [h]
theorem lT {g : bJ} {s' : Nat} (h : g s' = some none) : pM g ρ s' = some ⟨0, 0, 0, true⟩ := by unfold pM; rw [h]
theorem po (h : Rel C M ρ ⟨T, R, b⟩ a w) (fz : List Nat) : M.le (lentM M ρ (fzF fz R) [] w) := by
 intro b o v hM
 unfold lentM
 rw [if_neg]
 ·exact hM
 ·rintro ⟨s, cs, x, ⟨E, sz, h1⟩, h2, h3, hn, h4, h5⟩
  rcases h1 with h1 | h1
  ·have h1' : R s = some (.row E sz cs) := by
    unfold fzF at h1; split at h1
    ·exact h1
    ·cases h1
   exact h.mr.apt b o v s _ x hM h1' rfl h3 hn h4
  ·have h1' : R s = some (.tab E sz cs) := by
    unfold fzF at h1; split at h1
    ·exact h1
    ·cases h1
   exact h.mr.apt b o v s _ x hM h1' rfl h3 hn h4
theorem k7 {fz : List Nat} {s : Nat} {r : Row} (h : fzF fz R s = some r) : R s = some r ∧ s ∈ fz := by
 unfold fzF at h
 split at h
 ·rename_i hc; exact ⟨h, by simpa using hc⟩
 ·cases h
theorem fzL {fz : List Nat} {s : Nat} {cs : List AV} (h : Lnt (fzF fz R) s cs) : ∃ r, R s = some r ∧ r.solid = true ∧ s ∈ fz := by
 obtain ⟨E, sz, h | h⟩ := h
 ·exact ⟨_, (k7 h).1, rfl, (k7 h).2⟩
 ·exact ⟨_, (k7 h).1, rfl, (k7 h).2⟩
theorem Hq (h : Rel C M ρ ⟨T, R, b⟩ a w) {fz : List Nat} {s : Nat} {cs : List AV} {x : At} (hl : Lnt (fzF fz R) s cs) (hx : ρ s = some x) (hn : x.nl = false) :
  ∃ (E sz : Nat) (xs : List Value), w.ownsRow 0 E sz (.slice (some ⟨x.g, 0, none⟩) x.n x.cap) x.n xs ∧ cs.length = xs.length ∧ (∀ v ∈ xs, v.oneCell' = true) := by
 obtain ⟨E, sz, hs | hs⟩ := hl
 ·obtain ⟨y, hy, hY⟩ := h.mr.row s _ (k7 hs).1 rfl
  rw [hx] at hy; injection hy with hy; subst hy
  rcases hY with ⟨h, _⟩ | ⟨_, xs, a1, a2, a3, _⟩
  ·rw [hn] at h; cases h
  ·exact ⟨E, sz, xs, a1, a2, a3⟩
 ·obtain ⟨y, hy, hY⟩ := h.mr.row s _ (k7 hs).1 rfl
  rw [hx] at hy; injection hy with hy; subst hy
  rcases hY with ⟨h, _⟩ | ⟨_, xs, a1, a2, a3, _⟩
  ·rw [hn] at h; cases h
  ·exact ⟨E, sz, xs, a1, a2, a3⟩
theorem Ao {fz : List Nat} {s : Nat} {cs : List AV} {x : At} {xs : List Value} {E sz : Nat} (hl : Lnt (fzF fz R) s cs) (hx : ρ s = some x) (hn : x.nl = false) (h1 : w.ownsRow 0 E sz (.slice (some ⟨x.g, 0, none⟩) x.n x.cap) x.n xs) (h2 : cs.length = xs.length) :
  ∀ i, i < cs.length → lentM M ρ (fzF fz R) [] w x.g i = some (xs.getD i undef) := fun i hi => by
 unfold lentM
 rw [if_pos ⟨s, cs, _, hl, by simp, hx, hn, rfl, hi⟩]
 have hi' : i < xs.length := by omega
 have := World.ownsRow.cells h1 (g := x.g) rfl i _ (List.getElem?_eq_getElem hi')
 rw [dK, Nat.zero_add] at this
 simpa [hi'] using this
theorem Ap {x : At} {xs : List Value} {E sz : Nat} (h1 : w.ownsRow 0 E sz (.slice (some ⟨x.g, 0, none⟩) x.n x.cap) x.n xs) : x.n ≤ x.cap := by
 rcases h1.2 with ⟨hn, _⟩ | ⟨g', cap', cur, hvv, hb, hg, hcap, _⟩
 ·cases hn
 ·injection hvv with _ _ q3; omega
theorem xA {cs : List AV} {i : Nat} {c : AV} (hc : cs[i]? = some c) : i < cs.length := by
 rcases Nat.lt_or_ge i cs.length with h' | h'
 ·exact h'
 ·rw [List.getElem?_eq_none h'] at hc; cases hc
theorem t0 (h : Rel C M ρ ⟨T, R, b⟩ a w) (fz : List Nat) {s n E sz : Nat} {cs : List AV} {v : Value} (hv : VR M ρ (.own s n) v) (hF : fzF fz R s = some (.row E sz cs)) : PV (lentM M ρ (fzF fz R) [] w) (.sl cs n) v := by
 have hrow := (k7 hF).1
 obtain ⟨y, hy, hY⟩ := h.mr.row s _ hrow rfl
 have hle := po h fz
 obtain ⟨g, cap, ⟨hs, rfl⟩ | ⟨hs, hn0, rfl⟩⟩ := hv.own_inv
 ·rw [hs] at hy; injection hy with hy; subst hy
  rcases hY with ⟨hn, _⟩ | ⟨_, xs, h1, h2, h3, h4⟩
  ·cases hn
  refine .sl cs n _ cap g 0 (fun i => xs.getD i undef) (fun _ => rfl) (Ap h1) (fun i c hc => ?_) (fun i c hc => ?_)
  ·rw [Nat.zero_add]; exact Ao ⟨_, _, .inl hF⟩ hs rfl h1 h2 i (xA hc)
  ·have hi' : i < xs.length := by have := xA hc; omega
   have := (h4 i c _ hc (List.getElem?_eq_getElem hi')).mono hle
   simpa [hi'] using this
 ·rw [hs] at hy; injection hy with hy; subst hy
  rcases hY with ⟨_, rfl, _⟩ | ⟨hn, _⟩
  ·subst hn0
   exact .sl [] 0 none 0 0 0 (fun _ => undef) (fun h => by omega) (Nat.le_refl _) (fun i c hc => by simp at hc) (fun i c hc => by simp at hc)
  ·cases hn
theorem xv (h : Rel C M ρ ⟨T, R, b⟩ a w) (fz : List Nat) {s n E sz : Nat} {cs : List AV} {v : Value} {σ : Plc} (hv : VR M ρ (.own s n) v) (hF : fzF fz R s = some (.row E sz cs)) : VR (lentM M ρ (fzF fz R) [] w) σ (.sl cs n) v := .plain (t0 h fz hv hF)
theorem EC (h : Rel C M ρ ⟨T, R, b⟩ a w) (fz : List Nat) {c : AV} {v : Value} (hv : VR M ρ c v) : PV (lentM M ρ (fzF fz R) [] w) (fU [] (fzF fz R) c) v := by
 have hle := po h fz
 by_cases hown : ∃ s n, c = .own s n
 ·obtain ⟨s, n, rfl⟩ := hown
  simp only [fU, gU]
  split
  ·rename_i E sz cs hrow
   exact t0 h fz hv hrow
  ·exact .top _
 ·cases hv with
  | plain hv =>
   cases hv <;> first
    | exact .top _
    | exact .int ..
    | exact .bool ..
    | exact .str ..
    | exact .nil
    | exact PV.mono hle (.sl _ _ _ _ _ _ _ (by assumption) (by assumption) (by assumption) (by assumption))
    | exact PV.mono hle (.eptr _ _ _ _ (by assumption) (by assumption))
  | own s g n cap h => exact absurd ⟨_, _, rfl⟩ hown
  | ownl s g cap h => exact absurd ⟨_, _, rfl⟩ hown
  | ptr s off x h hx => exact .top _
  | agg => exact .top _
  | tup => exact .top _
  | fn => exact .top _
theorem vh (h : Rel C M ρ ⟨T, R, b⟩ a w) (fz : List Nat) {s n E sz : Nat} {cs : List AV} {v : Value} {σ : Plc} (hv : VR M ρ (.own s n) v) (hF : fzF fz R s = some (.tab E sz cs)) : VR (lentM M ρ (fzF fz R) [] w) σ (.sl (cs.map (fU [] (fzF fz R))) n) v := by
 have hrow := (k7 hF).1
 obtain ⟨y, hy, hY⟩ := h.mr.row s _ hrow rfl
 obtain ⟨g, cap, ⟨hs, rfl⟩ | ⟨hs, hn0, rfl⟩⟩ := hv.own_inv
 ·rw [hs] at hy; injection hy with hy; subst hy
  rcases hY with ⟨hn, _⟩ | ⟨_, xs, h1, h2, h3, h4⟩
  ·cases hn
  refine .plain (.sl _ n _ cap g 0 (fun i => xs.getD i undef) (fun _ => rfl) (Ap h1) (fun i c hc => ?_) (fun i c hc => ?_))
  ·rw [Nat.zero_add]
   have hi := xA hc
   rw [List.length_map] at hi
   exact Ao ⟨_, _, .inr hF⟩ hs rfl h1 h2 i hi
  ·rw [List.getElem?_map] at hc
   cases hq : cs[i]? with
   | none => rw [hq] at hc; cases hc
   | some q =>
    rw [hq] at hc; injection hc with hc; subst hc
    have hi' : i < xs.length := by have := xA hq; omega
    have := EC h fz (h4 i q _ hq (List.getElem?_eq_getElem hi'))
    simpa [hi'] using this
 ·rw [hs] at hy; injection hy with hy; subst hy
  rcases hY with ⟨_, rfl, _⟩ | ⟨hn, _⟩
  ·subst hn0
   exact .plain (.sl [] 0 none 0 0 0 (fun _ => undef) (fun h => by omega) (Nat.le_refl _) (fun i c hc => by simp at hc) (fun i c hc => by simp at hc))
  ·cases hn
theorem nn (h : Rel C M ρ ⟨T, R, b⟩ a w) (fz : List Nat) {g : bJ} {c c' : AV} {v : Value} (hv : VR M ρ c v) (hc : cv1 g (fzF fz R) c c') : VR (lentM M ρ (fzF fz R) [] w) (pM g ρ) c' v := by
 have hle := po h fz
 unfold cv1 at hc
 split at hc
 ·exact .plain (.top _)
 ·obtain ⟨hg, rfl⟩ := hc
  obtain ⟨g0, cap, ⟨hs, rfl⟩ | ⟨hs, hn0, rfl⟩⟩ := hv.own_inv
  ·exact .own _ g0 _ cap (by rw [gg hg]; exact hs)
  ·subst hn0
   exact .ownl _ g0 cap (by rw [gg hg]; exact hs)
 ·obtain ⟨hg, rfl⟩ := hc
  obtain rfl := hv.nil_inv
  exact .ownl _ 0 0 (lT hg)
 ·obtain ⟨hg, rfl⟩ := hc
  obtain ⟨x, hx, hn, rfl⟩ := hv.ptr_inv
  exact .ptr _ _ x (by rw [gg hg]; exact hx) hn
 ·obtain ⟨rfl, rfl⟩ := hc
  exact .plain (hv.sl_inv.mono hle)
 ·obtain ⟨rfl, rfl⟩ := hc
  obtain rfl := hv.nil_inv
  exact .plain (.sl [] 0 none 0 0 0 (fun _ => undef) (fun h => by omega) (Nat.le_refl _) (fun i c hc => by simp at hc) (fun i c hc => by simp at hc))
 ·obtain ⟨hf, rfl⟩ := hc
  unfold fz1 at hf
  split at hf
  ·rename_i E sz cs hF
   subst hf
   exact xv h fz hv hF
  ·rename_i E sz cs hF
   subst hf
   exact vh h fz hv hF
  ·exact hf.elim
 ·obtain ⟨rfl, rfl⟩ := hc
  obtain rfl := hv.int_inv
  exact .plain (.int ..)
 ·subst hc
  obtain rfl := hv.bool_inv
  exact .plain (.bool ..)
 ·subst hc
  cases hv with
  | plain hv => exact .plain (hv.mono hle)
 ·obtain rfl := hv.nil_inv
  exact .plain .nil
 ·subst hc
  exact .plain (hv.eptr_inv.mono hle)
 ·obtain ⟨rfl, hc⟩ := hc
  obtain ⟨us, rfl, hl, hus⟩ := hv.fn_inv
  obtain ⟨e1, e2⟩ := td hc
  refine .fn _ _ us (by omega) (fun i s' v hs' hv' => ?_)
  obtain ⟨s, hs, hg⟩ := e2 i s' hs'
  obtain ⟨x, hx, hn, rfl⟩ := (hus i s v hs hv').ptr_inv
  exact .ptr _ _ x (by rw [gg hg]; exact hx) hn
 ·exact hc.elim
theorem gn {g : bJ} {F : Nat → Option Row} : ∀ {cs cs' : List AV}, cvL g F cs cs' → cs.length = cs'.length ∧ ∀ (i : Nat) (c' : AV), cs'[i]? = some c' → ∃ c, cs[i]? = some c ∧ cv1 g F c c'
 | [], [], _ => ⟨rfl, fun i c h => by simp at h⟩
 | c :: cs, c' :: cs', h => by
  obtain ⟨h1, h2⟩ := gn h.2
  refine ⟨by simp [h1], fun i q hq => ?_⟩
  cases i with
  | zero => simp only [List.getElem?_cons_zero, Option.some.injEq] at hq; subst hq; exact ⟨c, rfl, h.1⟩
  | succ i => exact h2 i q (by simpa using hq)
 | [], _ :: _, h => h.elim
 | _ :: _, [], h => h.elim
theorem Aq (h : Rel C M ρ ⟨T, R, b⟩ a w) (fz : List Nat) {g : bJ} {c c' : AV} {v : Value} (hv : VR M ρ c v) (hc : cvV g (fzF fz R) c c') : VR (lentM M ρ (fzF fz R) [] w) (pM g ρ) c' v := by
 unfold cvV at hc
 split at hc
 ·rename_i cs cs'
  obtain ⟨vs, rfl, hl, h1, h2⟩ := hv.agg_inv
  obtain ⟨e1, e2⟩ := gn hc
  refine .agg _ _ (by omega) h1 (fun i c' u hc' hu => ?_)
  obtain ⟨c, hc, hcc⟩ := e2 i c' hc'
  exact nn h fz (h2 i c u hc hu) hcc
 ·exact nn h fz hv hc
theorem xB {g : bJ} {F : Nat → Option Row} : ∀ {cs cs' : List AV}, cvT g F cs cs' → cs.length = cs'.length ∧ ∀ (i : Nat) (c' : AV), cs'[i]? = some c' → ∃ c, cs[i]? = some c ∧ cvV g F c c'
 | [], [], _ => ⟨rfl, fun i c h => by simp at h⟩
 | c :: cs, c' :: cs', h => by
  obtain ⟨h1, h2⟩ := xB h.2
  refine ⟨by simp [h1], fun i q hq => ?_⟩
  cases i with
  | zero => simp only [List.getElem?_cons_zero, Option.some.injEq] at hq; subst hq; exact ⟨c, rfl, h.1⟩
  | succ i => exact h2 i q (by simpa using hq)
 | [], _ :: _, h => h.elim
 | _ :: _, [], h => h.elim
theorem Ar (h : Rel C M ρ ⟨T, R, b⟩ a w) (fz : List Nat) {g : bJ} {c c' : AV} {v : Value} (hv : VR M ρ c v) (hc : cvW g (fzF fz R) c c') : VR (lentM M ρ (fzF fz R) [] w) (pM g ρ) c' v := by
 unfold cvW at hc
 split at hc
 ·rename_i cs cs'
  obtain ⟨vs, rfl, hl, h2⟩ := hv.tup_inv
  obtain ⟨e1, e2⟩ := xB hc
  refine .tup _ _ (by omega) (fun i c' u hc' hu => ?_)
  obtain ⟨c, hc, hcc⟩ := e2 i c' hc'
  exact Aq h fz (h2 i c u hc hu) hcc
 ·exact Aq h fz hv hc
theorem rE {g : bJ} {F : Nat → Option Row} : ∀ {l : List (Nat × AV)}, leT g F T l → ∀ t, mkT l t = .top ∨ cvW g F (T t) (mkT l t)
 | [], _, t => .inl rfl
 | (k, v) :: l, h, t => by
  obtain ⟨h1, h2⟩ := h
  simp only [mkT]
  by_cases e : t = k
  ·subst e; rw [ai]; exact .inr h1
  ·rw [au _ _ e]; exact rE h2 t
theorem rH {g : bJ} {F : Nat → Option Row} : ∀ {l : List (Nat × Row)}, leR g F R l → ∀ s r, mkR l s = some r → te g F R (g s) r
 | [], _, s, r, h => by cases h
 | (k, q) :: l, h, s, r, hs => by
  obtain ⟨h1, h2⟩ := h
  simp only [mkR] at hs
  by_cases e : s = k
  ·subst e; rw [ai] at hs; injection hs with hs; subst hs; exact h1
  ·rw [au _ _ e] at hs; exact rH h2 s r hs
theorem pq : ∀ {l : List (Nat × Row)} {s : Nat}, mkR l s = none → s ∉ l.map (·.1)
 | [], s, _ => by simp
 | (k, q) :: l, s, h => by
  simp only [mkR] at h
  by_cases e : s = k
  ·subst e; rw [ai] at h; cases h
  ·rw [au _ _ e] at h
   simp only [List.map_cons, List.mem_cons, not_or]
   exact ⟨e, pq h⟩
theorem rf {g : bJ} {F : Nat → Option Row} {o : Option (Option Nat)} {r' : Row} (h : te g F R o r') (hs : r'.solid = true) : (∃ s r, o = some (some s) ∧ R s = some r ∧ r.solid = true ∧ cvR g F r r') ∨ (o = some none ∧ ∃ E sz, r' = .row E sz [] ∨ r' = .tab E sz []) := by
 unfold te at h
 split at h
 ·rename_i s
  unfold An at h
  split at h
  ·rename_i r hr
   refine .inl ⟨s, r, rfl, hr, ?_, h⟩
   unfold cvR at h
   split at h
   ·rfl
   ·rfl
   ·rfl
   ·rfl
   ·cases hs
   ·exact h.elim
  ·cases hs
  ·exact h.elim
 ·subst h; exact .inr ⟨rfl, _, _, .inl rfl⟩
 ·subst h; exact .inr ⟨rfl, _, _, .inr rfl⟩
 ·cases hs
 ·exact h.elim
theorem aD {k : Nat} {b' : Nat} {lt : List (Nat × AV)} {lr : List (Nat × Row)} (G : List (Nat × Option Nat)) (fz : List Nat) (hρ : ∀ s, k ≤ s → C.ρ0 s = none) (hG : gOK k G fz (lr.map fun x => (x.1, x.2.solid)) = true)
  (hT : leT (lk G) (fzF fz R) T lt) (hR : leR (lk G) (fzF fz R) R lr) : Le C ⟨T, R, b⟩ ⟨mkT lt, mkR lr, b'⟩ := by
 intro M ρ a w h
 unfold gOK at hG
 simp only [Bool.and_eq_true] at hG
 obtain ⟨⟨⟨⟨g1, g2⟩, g3⟩, g4⟩, g5⟩ := hG
 have hle := po h fz
 have ginj : ∀ {s t u : Nat} {r r' : Row}, mkR lr s = some r → r.solid = true → mkR lr t = some r' → r'.solid = true → lk G s = some (some u) → lk G t = some (some u) → s = t := fun m1 m2 m3 m4 h1 h2 => nm (iC g2) (List.mem_filter.2 ⟨gY h1, oq m1 m2⟩) (List.mem_filter.2 ⟨gY h2, oq m3 m4⟩)
 have gfz : ∀ {s u : Nat} {r : Row}, mkR lr s = some r → r.solid = true → lk G s = some (some u) → u ∉ fz := fun m1 m2 h1 => by
  have := List.all_eq_true.1 g4 _ (gf (List.mem_filter.2 ⟨gY h1, oq m1 m2⟩))
  simpa using this
 have sol : ∀ {s r}, mkR lr s = some r → r.solid = true → (∃ s0 r0, lk G s = some (some s0) ∧ R s0 = some r0 ∧ r0.solid = true ∧ cvR (lk G) (fzF fz R) r0 r) ∨ (lk G s = some none ∧ ∃ E sz, r = .row E sz [] ∨ r = .tab E sz []) :=
  fun hr hs => rf (rH hR _ _ hr) hs
 -- rows that lie somewhere come from rows
 have src : ∀ {s r x}, mkR lr s = some r → r.solid = true → pM (lk G) ρ s = some x → x.nl = false → ∃ s0 r0, lk G s = some (some s0) ∧ R s0 = some r0 ∧ r0.solid = true ∧ ρ s0 = some x := by
  intro s r x hr hs hx hn
  rcases sol hr hs with ⟨s0, r0, e1, e2, e3, e4⟩ | ⟨e1, _⟩
  ·rw [gg e1] at hx
   exact ⟨s0, r0, e1, e2, e3, hx⟩
  ·rw [lT e1] at hx; injection hx with hx; subst hx; cases hn
 refine ⟨lentM M ρ (fzF fz R) [] w, pM (lk G) ρ, fun t => ?_, h.N, h.df, ⟨fun s r hs hsol => ?_, fun s s' r r' x x' hs hs' h1 h2 hx hx' hne hn hn' => ?_, fun b o v hM => ?_, fun b o v s r x hM hs hsol hx hn => ?_⟩, h.chg, fun s r x hs hsol hx hn => ?_, Imm.le_trans h.m0 hle, fun s x hs => ?_, fun b hb hD => ?_, fun s hs => ?_⟩
 ·show VR _ (pM (lk G) ρ) (mkT lt t) _
  rcases rE hT t with e | e
  ·rw [e]; exact .plain (.top _)
  ·exact Ar h fz (h.tm t) e
 ·have hs : mkR lr s = some r := hs
  rcases sol hs hsol with ⟨s0, r0, e1, e2, e3, e4⟩ | ⟨e1, E, sz, rfl | rfl⟩
  ·obtain ⟨x, hx, hX⟩ := h.mr.row s0 r0 e2 e3
   refine ⟨x, by rw [gg e1]; exact hx, ?_⟩
   unfold cvR at e4
   split at e4
   ·obtain ⟨rfl, hL⟩ := e4
    obtain ⟨h0, arr, a1, a2, a3, a4⟩ := hX
    obtain ⟨l1, l2⟩ := gn hL
    refine ⟨h0, arr, a1, by omega, a3, fun i c' v hc hv => ?_⟩
    obtain ⟨c, hc', hcc⟩ := l2 i c' hc
    exact nn h fz (a4 i c v hc' hv) hcc
   ·obtain ⟨rfl, rfl, rfl⟩ := e4
    rcases hX with hX | ⟨h0, xs, a1, a2, a3, a4⟩
    ·exact .inl hX
    ·exact .inr ⟨h0, xs, a1, a2, a3, fun i c v hc hv => (a4 i c v hc hv).mono hle⟩
   ·obtain ⟨rfl, rfl, hL⟩ := e4
    obtain ⟨l1, l2⟩ := gn hL
    rcases hX with ⟨a1, a2, a3⟩ | ⟨h0, xs, a1, a2, a3, a4⟩
    ·subst a2
     exact .inl ⟨a1, List.eq_nil_of_length_eq_zero (by simpa using l1.symm), a3⟩
    ·refine .inr ⟨h0, xs, a1, by omega, a3, fun i c' v hc hv => ?_⟩
     obtain ⟨c, hc', hcc⟩ := l2 i c' hc
     exact nn h fz (a4 i c v hc' hv) hcc
   ·obtain ⟨rfl, rfl, hL⟩ := e4
    obtain ⟨l1, l2⟩ := gn hL
    rcases hX with ⟨a1, a2, a3⟩ | ⟨h0, xs, a1, a2, a3, a4⟩
    ·subst a2
     exact .inl ⟨a1, List.eq_nil_of_length_eq_zero (by simpa using l1.symm), a3⟩
    ·refine .inr ⟨h0, xs, a1, by omega, a3, fun i c' v hc hv => ?_⟩
     obtain ⟨c, hc', hcc⟩ := l2 i c' hc
     exact nn h fz (.plain (a4 i c v hc' hv)) hcc
   ·cases hsol
   ·exact e4.elim
  ·exact ⟨_, lT e1, .inl ⟨rfl, rfl, rfl⟩⟩
  ·exact ⟨_, lT e1, .inl ⟨rfl, rfl, rfl⟩⟩
 ·obtain ⟨s0, r0, e1, e2, e3, e4⟩ := src hs h1 hx hn
  obtain ⟨s0', r0', e1', e2', e3', e4'⟩ := src hs' h2 hx' hn'
  refine h.mr.inj s0 s0' r0 r0' x x' e2 e2' e3 e3' e4 e4' (fun e => hne ?_) hn hn'
  subst e
  exact ginj hs h1 hs' h2 e1 e1'
 ·unfold lentM at hM
  split at hM
  ·rename_i hc
   obtain ⟨s, cs, x, h1, h2, h3, hn, h4, h5⟩ := hc
   subst h4
   obtain ⟨_, _, xs, k1, k2, k3⟩ := Hq h h1 h3 hn
   have hi' : o < xs.length := by omega
   have := World.ownsRow.cells k1 (g := x.g) rfl o _ (List.getElem?_eq_getElem hi')
   rw [dK, Nat.zero_add] at this
   rw [this] at hM
   injection hM with hM; subst hM
   exact ⟨this, oN k1 (k3 _ (List.getElem_mem hi'))⟩
  ·exact h.mr.imm b o v hM
 ·obtain ⟨s0, r0, e1, e2, e3, e4⟩ := src hs hsol hx hn
  unfold lentM at hM
  split at hM
  ·rename_i hc
   obtain ⟨s', cs, x', h1, h2, h3, hn', h4, h5⟩ := hc
   subst h4
   obtain ⟨r1, hrow, hsl, hmem⟩ := fzL h1
   exact h.mr.inj s0 s' r0 r1 x x' e2 hrow e3 hsl e4 h3 (fun e => gfz hs hsol e1 (e ▸ hmem)) hn hn'
  ·exact h.mr.apt b o v s0 r0 x hM e2 e3 e4 hn
 ·obtain ⟨s0, r0, e1, e2, e3, e4⟩ := src hs hsol hx hn
  exact h.new s0 r0 x e2 e3 e4 hn
 ·have hlt : s < k := by
   rcases Nat.lt_or_ge s k with h' | h'
   ·exact h'
   ·rw [hρ s h'] at hs; cases hs
  have hg := nk g1 s hlt
  have hg : lk G s = some (some s) := by
   cases hq : lk G s with
   | none => rw [hq] at hg; cases hg
   | some u =>
    cases u with
    | none => rw [hq] at hg; cases hg
    | some u => rw [hq] at hg; simp only [E9, beq_iff_eq] at hg; rw [hg]
  rw [gg hg]
  exact h.r0 s x hs
 ·have hnone : ¬ ∃ s cs x, Lnt (fzF fz R) s cs ∧ s ∉ ([] : List Nat) ∧ ρ s = some x ∧ x.nl = false ∧ x.g = b := by
   rintro ⟨s, cs, x, h1, h2, h3, hn, rfl⟩
   obtain ⟨r1, hrow, hsl, hmem⟩ := fzL h1
   rcases h.new s r1 x hrow hsl h3 hn with h' | h'
   ·exact hD h'
   ·omega
  rw [← h.mold b hb hD]
  funext o
  unfold lentM
  rw [if_neg]
  rintro ⟨s, cs, x, h1, h2, h3, hn, h4, _⟩
  exact hnone ⟨s, cs, x, h1, h2, h3, hn, h4⟩
 ·have hs : mkR lr s = none := hs
  have hk := pq hs
  unfold pM
  cases hq : lk G s with
  | none => rfl
  | some u =>
   exfalso
   have hm := List.all_eq_true.1 g5 s (List.mem_map.2 ⟨_, gY hq, rfl⟩)
   obtain ⟨p, hp, he⟩ := List.any_eq_true.1 hm
   obtain ⟨x, hx, rfl⟩ := List.mem_map.1 hp
   exact hk (List.mem_map.2 ⟨x, hx, by simpa using he⟩)
end
def ot : Nat → List Row → List (Nat × Row)
 | _, [] => []
 | k, r :: l => (k, r) :: ot (k + 1) l
theorem uj : ∀ (l : List Row) (k s : Nat), mkR (ot k l) s = if k ≤ s then l[s - k]? else none
 | [], k, s => by simp [ot, mkR]
 | r :: l, k, s => by
  simp only [ot, mkR]
  by_cases e : s = k
  ·subst e; rw [ai, if_pos (Nat.le_refl _), Nat.sub_self]; rfl
  ·rw [au _ _ e, uj l (k + 1) s]
   by_cases h : k + 1 ≤ s
   ·rw [if_pos h, if_pos (by omega), show s - k = (s - (k + 1)) + 1 by omega, List.getElem?_cons_succ]
   ·rw [if_neg h, if_neg (by omega)]
theorem aU.can {P : Program} {f : FuncId} {args : List AV} {mem mem' mem2 : List Row} {ret ret2 : AV} (h : aU P f args mem ret mem') (G : List (Nat × Option Nat)) (fz : List Nat)
  (hG : gOK mem.length G fz ((ot 0 mem2).map fun x => (x.1, x.2.solid)) = true) (hT : cvW (lk G) (fzF fz (bd mem')) ret ret2) (hR : leR (lk G) (fzF fz (bd mem')) (bd mem') (ot 0 mem2)) : aU P f args mem ret2 mem2 := by
 refine ⟨h.1, fun M ρ w vs hmr hρ hlen hvs => (h.2 M ρ w vs hmr hρ hlen hvs).mono ?_⟩
 rintro e w' ⟨v, M', ρ', rfl, q1, q2, q3, q4, q5, q6, q7, q8⟩
 let C : Ctx := ⟨w, DOf ρ (bd mem), M, ρ, 1⟩
 have hRel : Rel C M' ρ' ⟨fun t => if t = 0 then ret else .top, bd mem', 0⟩ { tmps := #[v], defers := [] } w' := by
  refine ⟨fun t => ?_, rfl, rfl, q3, q6, q8, q1, q2, q7, fun s hs => ?_⟩
  ·by_cases e : t = 0
   ·subst e; simpa using q5
   ·simp only [if_neg e]; exact .plain (.top _)
  ·have hs : mem'[s]? = none := hs
   exact q4 s (by simpa using hs)
 have hrows : mkR (ot 0 mem2) = bd mem2 := by
  funext s
  rw [uj]; simp [bd]
 obtain ⟨M2, ρ2, hR2⟩ := aD (C := C) (k := mem.length) (b' := 0) (lt := [(0, ret2)]) (lr := ot 0 mem2) G fz hρ hG ⟨by simpa using hT, trivial⟩ hR M' ρ' _ w' hRel
 rw [hrows] at hR2
 refine ⟨v, M2, ρ2, rfl, hR2.m0, hR2.r0, hR2.mr, fun s hs => ?_, ?_, hR2.chg, hR2.mold, hR2.new⟩
 ·have hn : bd mem2 s = none := by unfold bd; simpa using hs
  exact hR2.fr s hn
 ·have := hR2.tm 0
  simpa [mkT, upd] using this
def FU : Nat := 4194304
section
variable {α β : Type}
def bO (x : Option α) (k : α → Option β) : Option β := match x with
 | some a => k a
 | none => none
def gd (p : Bool) (k : Option β) : Option β := match p with
 | true => k
 | false => none
def br (b : Bool) (x y : Option β) : Option β := match b with
 | true => x
 | false => y
def ak (l : List α) (i : Int) : Option α := if 0 ≤ i ∧ i < (l.length : Int) then l[i.toNat]? else none
def slc (l : List α) (a b : Int) : Option (List α) := if 0 ≤ a ∧ a ≤ b ∧ b ≤ (l.length : Int) then some ((l.drop a.toNat).take (b.toNat - a.toNat)) else none
theorem aA {x : Option α} {k : α → Option β} {r : β} (h : bO x k = some r) : ∃ a, x = some a ∧ k a = some r := by
 cases x with
 | none => cases h
 | some a => exact ⟨a, rfl, h⟩
theorem nI {p : Bool} {k : Option β} {r : β} (h : gd p k = some r) : p = true ∧ k = some r := by
 cases p with
 | false => cases h
 | true => exact ⟨rfl, h⟩
theorem aR {b : Bool} {x y : Option β} {r : β} (h : br b x y = some r) : (b = true ∧ x = some r) ∨ (b = false ∧ y = some r) := by
 cases b with
 | false => exact .inr ⟨rfl, h⟩
 | true => exact .inl ⟨rfl, h⟩
theorem lU {l : List α} {i : Int} {q : α} (h : ak l i = some q) : (0 ≤ i ∧ i < (l.length : Int)) ∧ l[i.toNat]? = some q := by
 unfold ak at h
 split at h
 ·exact ⟨by assumption, h⟩
 ·cases h
theorem iX {x y : Option β} {r : β} (h : br true x y = some r) : x = some r := h
theorem kU {x y : Option β} {r : β} (h : br false x y = some r) : y = some r := h
theorem aC (a : α) (k : α → Option β) : bO (some a) k = k a := rfl
theorem bN (k : Option β) : gd true k = k := rfl
theorem aS (x y : Option β) : br true x y = x := rfl
theorem aF (x y : Option β) : br false x y = y := rfl
def aB (e : α → List AV) : List α → List AV
 | [] => []
 | x :: l => e x ++ aB e l
variable {e : α → List AV} {sz : Nat}
theorem As : aB e [] = [] := (rfl)
theorem qT (x : α) (l : List α) : aB e (x :: l) = e x ++ aB e l := (rfl)
theorem uk : ∀ l m : List α, aB e (l ++ m) = aB e l ++ aB e m
 | [], m => rfl
 | x :: l, m => by simp [aB, uk l m]
theorem iY (h : ∀ x, (e x).length = sz) : ∀ l : List α, (aB e l).length = l.length * sz
 | [] => by simp [aB]
 | x :: l => by simp [aB, iY h l, h, Nat.add_mul]; omega
theorem qU (h : ∀ x, (e x).length = sz) : ∀ (l : List α) (k : Nat), (aB e l).drop (k * sz) = aB e (l.drop k)
 | [], k => by simp [aB]
 | x :: l, 0 => by simp
 | x :: l, k + 1 => by
  have e1 : (k + 1) * sz = sz + k * sz := by rw [Nat.add_mul, Nat.one_mul, Nat.add_comm]
  have e2 : (e x ++ aB e l).drop sz = aB e l := by rw [List.drop_append, h, Nat.sub_self, List.drop_zero, List.drop_of_length_le (by rw [h]; omega), List.nil_append]
  rw [e1, ← List.drop_drop]
  show ((e x ++ aB e l).drop sz).drop (k * sz) = _
  rw [e2, qU h l k, List.drop_succ_cons]
theorem t7 (h : ∀ x, (e x).length = sz) : ∀ (l : List α) (k : Nat), (aB e l).take (k * sz) = aB e (l.take k)
 | [], k => by simp [aB]
 | x :: l, 0 => by simp [aB]
 | x :: l, k + 1 => by
  rw [Nat.add_mul, Nat.one_mul, Nat.add_comm]
  simp only [aB, List.take_succ_cons]
  rw [List.take_append, h, List.take_of_length_le (by rw [h]; omega), Nat.add_sub_cancel_left, t7 h l k]
theorem aY (h : ∀ x, (e x).length = sz) {l : List α} {i : Int} {q : α} (hq : ak l i = some q) : (0 ≤ i ∧ i < (l.length : Int)) ∧ (aB e l).drop (i.toNat * sz) = e q ++ aB e (l.drop (i.toNat + 1)) := by
 obtain ⟨h1, h2⟩ := lU hq
 refine ⟨h1, ?_⟩
 rw [qU h]
 obtain ⟨hlt, he⟩ := List.getElem?_eq_some_iff.1 h2
 rw [List.drop_eq_getElem_cons hlt, he]
 rfl
theorem IQ (h : ∀ x, (e x).length = sz) (o : Nat) {l : List α} {i : Int} {q : α} (hq : ak l i = some q) : (aB e l).drop (i.toNat * sz + o) = (e q ++ aB e (l.drop (i.toNat + 1))).drop o := by
 rw [← (aY h hq).2, List.drop_drop]
theorem t8 (h : ∀ x, (e x).length = sz) {l s : List α} {a b : Int} (hq : slc l a b = some s) : (0 ≤ a ∧ a ≤ b ∧ b ≤ (l.length : Int)) ∧ ((aB e l).drop (a.toNat * sz)).take (s.length * sz) = aB e s ∧ b.toNat - a.toNat = s.length := by
 unfold slc at hq
 split at hq
 ·rename_i hc
  injection hq with hq
  subst hq
  have hl : ((l.drop a.toNat).take (b.toNat - a.toNat)).length = b.toNat - a.toNat := by simp; omega
  exact ⟨hc, by rw [hl, qU h, t7 h], hl.symm⟩
 ·cases hq
theorem qh (h : ∀ x, (e x).length = sz) : ∀ (l : List α) (k o : Nat) (q q' : α) (vs : List AV), l[k]? = some q → o + vs.length ≤ sz → e q' = dL (e q) o vs → dL (aB e l) (k * sz + o) vs = aB e (l.set k q')
 | [], k, o, q, q', vs, hq, _, _ => by simp at hq
 | x :: l, 0, o, q, q', vs, hq, ho, he => by
  simp at hq; subst hq
  simp only [aB, List.set_cons_zero, Nat.zero_mul, Nat.zero_add, he, dL]
  rw [List.take_append_of_le_length (by rw [h]; omega), List.drop_append_of_le_length (by rw [h]; omega)]
  simp only [List.append_assoc]
 | x :: l, k + 1, o, q, q', vs, hq, ho, he => by
  have ih := qh h l k o q q' vs (by simpa using hq) ho he
  simp only [aB, List.set_cons_succ]
  rw [← ih]
  simp only [dL]
  have e1 : (k + 1) * sz + o = sz + (k * sz + o) := by rw [Nat.add_mul, Nat.one_mul]; omega
  rw [e1, List.take_append, List.take_of_length_le (by rw [h]; omega), h, Nat.add_sub_cancel_left, Nat.add_assoc, List.drop_append, List.drop_of_length_le (by rw [h]; omega), h, Nat.add_sub_cancel_left, List.nil_append]
  simp only [List.append_assoc]
theorem mZ (z : α) : ∀ n, od n (e z) = aB e (List.replicate n z)
 | 0 => rfl
 | n + 1 => by simp only [od, List.replicate_succ, aB, mZ z n]
theorem qi (h : ∀ x, (e x).length = sz) {l : List α} {i : Int} {q : α} (q' : α) (o : Nat) (vs : List AV) (hq : ak l i = some q) (ho : o + vs.length ≤ sz) (he : e q' = dL (e q) o vs) :
  dL (aB e l) (i.toNat * sz + o) vs = aB e (l.set i.toNat q') ∧ i.toNat * sz + o + vs.length ≤ (aB e l).length := by
 obtain ⟨h1, h2⟩ := lU hq
 refine ⟨qh h l _ o q q' vs h2 ho he, ?_⟩
 rw [iY h]
 have h3 : i.toNat + 1 ≤ l.length := by omega
 have h4 : (i.toNat + 1) * sz ≤ l.length * sz := Nat.mul_le_mul_right _ h3
 rw [Nat.add_mul, Nat.one_mul] at h4
 omega
end
def gid : bJ := fun s => some (some s)
def fno : Nat → Option Row := fun _ => none
def cvA : List AV → List AV → Prop
 | [], [] => True
 | a :: al, b :: bl => cvV gid fno a b ∧ cvA al bl
 | _, _ => False
def sX : List Row → List Row → Prop
 | [], [] => True
 | a :: al, b :: bl => cvR gid fno a b ∧ sX al bl
 | _, _ => False
section
variable {M : Imm} {ρ : Plc} {w : World}
theorem VR.cv1 {c c' : AV} {v : Value} (hv : VR M ρ c v) (hc : cv1 gid fno c c') : VR M ρ c' v := by
 unfold Proofs.YtbfmljdablopjaaGreat.cv1 at hc
 split at hc
 ·exact .plain (.top _)
 ·obtain ⟨hg, rfl⟩ := hc
  injection hg with hg; injection hg with hg; subst hg; exact hv
 ·obtain ⟨hg, rfl⟩ := hc
  injection hg with hg; cases hg
 ·obtain ⟨hg, rfl⟩ := hc
  injection hg with hg; injection hg with hg; subst hg; exact hv
 ·obtain ⟨rfl, rfl⟩ := hc; exact hv
 ·obtain ⟨rfl, rfl⟩ := hc
  obtain rfl := hv.nil_inv
  exact .plain (.sl [] 0 none 0 0 0 (fun _ => undef) (fun h => by omega) (Nat.le_refl _) (fun i c hc => by simp at hc) (fun i c hc => by simp at hc))
 ·exact hc.1.elim
 ·obtain ⟨rfl, rfl⟩ := hc; exact hv
 ·subst hc; exact hv
 ·subst hc; exact hv
 ·exact hv
 ·subst hc; exact hv
 ·obtain ⟨rfl, hc⟩ := hc
  obtain ⟨us, rfl, hl, hus⟩ := hv.fn_inv
  obtain ⟨e1, e2⟩ := td hc
  refine .fn _ _ us (by omega) (fun i s' v hs' hv' => ?_)
  obtain ⟨s, hs, hg⟩ := e2 i s' hs'
  injection hg with hg; injection hg with hg; subst hg
  exact hus i _ v hs hv'
 ·exact hc.elim
theorem VR.cvV {c c' : AV} {v : Value} (hv : VR M ρ c v) (hc : cvV gid fno c c') : VR M ρ c' v := by
 unfold Proofs.YtbfmljdablopjaaGreat.cvV at hc
 split at hc
 ·obtain ⟨vs, rfl, hl, h1, h2⟩ := hv.agg_inv
  obtain ⟨e1, e2⟩ := gn hc
  refine .agg _ _ (by omega) h1 (fun i c' u hc' hu => ?_)
  obtain ⟨c, hc, hcc⟩ := e2 i c' hc'
  exact (h2 i c u hc hu).cv1 hcc
 ·exact hv.cv1 hc
theorem xC : ∀ {al bl : List AV}, cvA al bl → al.length = bl.length ∧ ∀ (i : Nat) (b : AV), bl[i]? = some b → ∃ a, al[i]? = some a ∧ Proofs.YtbfmljdablopjaaGreat.cvV gid fno a b
 | [], [], _ => ⟨rfl, fun i c h => by simp at h⟩
 | a :: al, b :: bl, h => by
  obtain ⟨h1, h2⟩ := xC h.2
  refine ⟨by simp [h1], fun i q hq => ?_⟩
  cases i with
  | zero => simp only [List.getElem?_cons_zero, Option.some.injEq] at hq; subst hq; exact ⟨a, rfl, h.1⟩
  | succ i => exact h2 i q (by simpa using hq)
 | [], _ :: _, h => h.elim
 | _ :: _, [], h => h.elim
theorem rg : ∀ {al bl : List Row}, sX al bl → al.length = bl.length ∧ ∀ (i : Nat) (b : Row), bl[i]? = some b → ∃ a, al[i]? = some a ∧ cvR gid fno a b
 | [], [], _ => ⟨rfl, fun i c h => by simp at h⟩
 | a :: al, b :: bl, h => by
  obtain ⟨h1, h2⟩ := rg h.2
  refine ⟨by simp [h1], fun i q hq => ?_⟩
  cases i with
  | zero => simp only [List.getElem?_cons_zero, Option.some.injEq] at hq; subst hq; exact ⟨a, rfl, h.1⟩
  | succ i => exact h2 i q (by simpa using hq)
 | [], _ :: _, h => h.elim
 | _ :: _, [], h => h.elim
theorem ma {g : bJ} {F : Nat → Option Row} {r r' : Row} (h : cvR g F r r') (hs : r'.solid = true) : r.solid = true := by
 unfold cvR at h
 split at h
 ·rfl
 ·rfl
 ·rfl
 ·rfl
 ·cases hs
 ·exact h.elim
theorem eZ.cv {r r' : Row} {x : At} (h : eZ M ρ w r x) (hc : cvR gid fno r r') : eZ M ρ w r' x := by
 unfold cvR at hc
 split at hc
 ·obtain ⟨rfl, hL⟩ := hc
  obtain ⟨h0, arr, a1, a2, a3, a4⟩ := h
  obtain ⟨l1, l2⟩ := gn hL
  refine ⟨h0, arr, a1, by omega, a3, fun i c' v hc hv => ?_⟩
  obtain ⟨c, hc', hcc⟩ := l2 i c' hc
  exact (a4 i c v hc' hv).cv1 hcc
 ·obtain ⟨rfl, rfl, rfl⟩ := hc; exact h
 ·obtain ⟨rfl, rfl, hL⟩ := hc
  obtain ⟨l1, l2⟩ := gn hL
  rcases h with ⟨a1, a2, a3⟩ | ⟨h0, xs, a1, a2, a3, a4⟩
  ·subst a2
   exact .inl ⟨a1, List.eq_nil_of_length_eq_zero (by simpa using l1.symm), a3⟩
  ·refine .inr ⟨h0, xs, a1, by omega, a3, fun i c' v hc hv => ?_⟩
   obtain ⟨c, hc', hcc⟩ := l2 i c' hc
   exact (a4 i c v hc' hv).cv1 hcc
 ·obtain ⟨rfl, rfl, hL⟩ := hc
  obtain ⟨l1, l2⟩ := gn hL
  rcases h with ⟨a1, a2, a3⟩ | ⟨h0, xs, a1, a2, a3, a4⟩
  ·subst a2
   exact .inl ⟨a1, List.eq_nil_of_length_eq_zero (by simpa using l1.symm), a3⟩
  ·refine .inr ⟨h0, xs, a1, by omega, a3, fun i c' v hc hv => ?_⟩
   obtain ⟨c, hc', hcc⟩ := l2 i c' hc
   exact (VR.plain (a4 i c v hc' hv)).cv1 hcc
 ·trivial
 ·exact hc.elim
theorem MR.cv {mem mem' : List Row} (h : MR M ρ (bd mem) w) (hc : sX mem mem') : MR M ρ (bd mem') w := by
 obtain ⟨hl, hg⟩ := rg hc
 refine ⟨fun s r hr hs => ?_, fun s s' r r' x x' hr hr' hs hs' hx hx' => ?_, h.imm, fun b o v s r x hM hr hs hx => ?_⟩
 ·obtain ⟨q, hq, hqc⟩ := hg s r hr
  obtain ⟨x, hx, hX⟩ := h.row s q hq (ma hqc hs)
  exact ⟨x, hx, hX.cv hqc⟩
 ·obtain ⟨q, hq, hqc⟩ := hg s r hr
  obtain ⟨q', hq', hqc'⟩ := hg s' r' hr'
  exact h.inj s s' q q' x x' hq hq' (ma hqc hs) (ma hqc' hs') hx hx'
 ·obtain ⟨q, hq, hqc⟩ := hg s r hr
  exact h.apt b o v s q x hM hq (ma hqc hs) hx
theorem aU.le {P : Program} {f : FuncId} {args args' : List AV} {mem mem' out : List Row} {ret : AV} (h : aU P f args' mem' ret out) (ha : cvA args args') (hm : sX mem mem') : aU P f args mem ret out := by
 obtain ⟨h1, h2⟩ := h
 obtain ⟨al, ag⟩ := xC ha
 obtain ⟨ml, mg⟩ := rg hm
 have hD : ∀ {ρ : Plc} {b : Nat}, DOf ρ (bd mem') b → DOf ρ (bd mem) b := by
  rintro ρ b ⟨s, r, x, e1, e2, e3⟩
  obtain ⟨q, hq, hqc⟩ := mg s r e1
  exact ⟨s, q, x, hq, ma hqc e2, e3⟩
 refine ⟨h1, fun M ρ w vs hmr hρ hlen hvs => ?_⟩
 refine (h2 M ρ w vs (hmr.cv hm) (fun s hs => hρ s (by omega)) (by omega) (fun i c v hc hv => ?_)).mono (fun e w' ⟨v, M', ρ', he, q1, q2, q3, q4, q5, q6, q7, q8⟩ => ⟨v, M', ρ', he, q1, q2, q3, q4, q5, ⟨q6.os, q6.tape, q6.output, q6.size, fun k hk hn => q6.block k hk fun hd => hn (hD hd)⟩, fun b hb hn => q7 b hb fun hd => hn (hD hd), fun s r x e1 e2 e3 e4 => (q8 s r x e1 e2 e3 e4).imp hD id⟩)
 obtain ⟨c0, hc0, hcc⟩ := ag i c hc
 exact (hvs i c0 v hc0 hv).cvV hcc
end
def fr1 : AV → Prop
 | .sl _ _ => False
 | .eptr _ => False
 | .agg _ => False
 | .tup _ => False
 | .fn _ _ => False
 | _ => True
def frL (f : AV → Prop) : List AV → Prop
 | [] => True
 | c :: cs => f c ∧ frL f cs
def fr2 : AV → Prop
 | .agg cs => frL fr1 cs
 | a => fr1 a
def fr3 : AV → Prop
 | .tup cs => frL fr2 cs
 | a => fr2 a
def frR : Row → Prop
 | .box _ cs => frL fr1 cs
 | .row _ _ cs => ∀ c ∈ cs, Free c
 | .tab _ _ cs => frL fr1 cs
 | .gone => True
def vi : List Row → Prop
 | [] => True
 | r :: rs => frR r ∧ vi rs
theorem rh {a : AV} (h : fr1 a) : Free a := by
 cases a <;> first | exact h.elim | constructor
theorem oU {f : AV → Prop} : ∀ {cs : List AV}, frL f cs → ∀ c ∈ cs, f c
 | [], _, c, h => by cases h
 | c' :: cs, h, c, hc => by
  rcases List.mem_cons.1 hc with rfl | hc
  ·exact h.1
  ·exact oU h.2 c hc
theorem Au {a : AV} (h : fr2 a) : Free a := by
 by_cases hag : ∃ cs, a = .agg cs
 ·obtain ⟨cs, rfl⟩ := hag
  exact .agg _ fun c hc => rh (oU h c hc)
 ·have e : fr2 a = fr1 a := by cases a <;> first | rfl | exact absurd ⟨_, rfl⟩ hag
  rw [e] at h; exact rh h
theorem vj {a : AV} (h : fr3 a) : Free a := by
 by_cases hag : ∃ cs, a = .tup cs
 ·obtain ⟨cs, rfl⟩ := hag
  exact .tup _ fun c hc => Au (oU h c hc)
 ·have e : fr3 a = fr2 a := by cases a <;> first | rfl | exact absurd ⟨_, rfl⟩ hag
  rw [e] at h; exact Au h
theorem rI : ∀ {rs : List Row}, vi rs → ∀ r ∈ rs, ∀ c ∈ r.cells, Free c
 | [], _, r, h => by cases h
 | r' :: rs, h, r, hr => by
  rcases List.mem_cons.1 hr with rfl | hr
  ·intro c hc
   cases r with
   | box T cs => exact rh (oU h.1 c hc)
   | row E sz cs => exact h.1 c hc
   | tab E sz cs => exact rh (oU h.1 c hc)
   | gone => cases hc
  ·exact rI h.2 r hr
theorem k8 {α : Type} {e : α → List AV} (h : ∀ x, frL fr1 (e x)) : ∀ l, (∀ c ∈ aB e l, Free c) = True
 | [] => by simp [aB]
 | x :: l => by
  refine eq_true (fun c hc => ?_)
  rcases List.mem_append.1 hc with hc | hc
  ·exact rh (oU (h x) c hc)
  ·exact (of_eq_true (k8 h l)) c hc
def aM (C : Ctx) (J : St → Prop) (st : St) : Prop := ∃ S, J S ∧ Le C st S
section
variable {P : Program} {BR : Nat → Bool} {ops : List Oper} {C : Ctx} {Q : Exit → St → Prop} {T : Nat → AV} {R : Nat → Option Row} {b : Nat} {st : St}
theorem aP {J : St → Prop} {S : St} (h : J S) (hl : Le C st S) : aM C J st := ⟨S, h, hl⟩
theorem aQ {x y : Code} (J : St → Prop) (h1 : AW P C x st (oo (aM C J) Q)) (h2 : ∀ S, J S → AW P C y S Q) : AW P C (.seq x y) st Q := IP J h1 h2
theorem aX {c : Code} (I : Nat → St → Prop) (n0 : Nat) (h0 : aM C (I n0) st) (hz : ∀ S, ¬ I 0 S) (hr : ∀ n S, I (n + 1) S → AW P C c S (oo (aM C (I n)) Q)) : AW P C (.loop c) st Q :=
 Du I (let ⟨S, h1, h2⟩ := h0; ⟨n0, S, h1, h2⟩) fun n S hI => by
  cases n with
  | zero => exact absurd hI (hz S)
  | succ n =>
   refine wx (hr n S hI) (fun e s h => ?_)
   cases e with
   | normal => obtain ⟨S', h1, h2⟩ := h; exact ⟨n, S', Nat.lt_succ_self n, h1, h2⟩
   | _ => exact h
theorem IR {id : Nat} {draw : Bool} {y : Code} (J : St → Prop) (hm : P.follows .mixedOrders = true) (hN : mY C.N ops.toArray = true) (hB : (!draw || qs BR ops.toArray) = true)
  (h : ∀ K : St → Prop, (∀ T' R' b', aM C J (St.mk T' R' b') → K (St.mk T' R' b')) → di P BR ops b 0 ops (St.mk T R b) K) (h2 : ∀ S, J S → AW P C y S Q) : AW P C (.seq (.region id ops.toArray draw) y) (St.mk T R b) Q :=
 aQ J (fun M ρ a w hR => by
   refine wy (BR := BR) (Q := oo (aM C J) Q) hm hN hB (fun K hK => h K fun T' R' b' hc => hK T' R' b' ?_) M ρ a w hR
   obtain ⟨S, h1, h2⟩ := hc
   exact ⟨S, h1, fun M ρ a w hR => h2 M ρ a w (hR.next b')⟩) h2
theorem brK {β : Type} {c : Bool} {X Y : Option β} {r : β} {A B : Prop} (h : br c X Y = some r) (ht : c = true → X = some r → A) (hf : c = false → Y = some r → B) : wz (.bool c) A B :=
 ⟨fun e => ht e (by rw [e] at h; exact h), fun e => hf e (by rw [e] at h; exact h)⟩
variable {bs i : Nat} {l : List Oper} {K : St → Prop} {f : FuncId} {args args' : List AV} {dst : Option Tmp} {ret : AV} {mem mem' : List Row}
theorem aj (hS : aU P f args' [] ret mem') (ha : cvA (args.map (bq [] fun _ => none)) args') (hl : mem'.length ≤ 16)
  (hs : ∀ j, j < mem'.length → st.rows (bs + 16 * i + j) = none) (hK : di P BR ops bs (i + 1) l (({ st with rows := ap st.rows (bs + 16 * i) (mem'.map (Row.ren (mId [] (bs + 16 * i)))) } : St).put dst (fS (mId [] (bs + 16 * i)) ret)) K) : rC P BR ops bs i l st K f args dst :=
 Ak (hS.le ha trivial) hl hs hK
theorem nJ (hS : aU P f args' [] ret mem') (ha : cvA (args.map (bq [] st.rows)) args') (hf : fr3 ret ∧ vi mem') (hl : mem'.length ≤ 16)
  (hs : ∀ j, j < mem'.length → st.rows (bs + 16 * i + j) = none) (hK : di P BR ops bs (i + 1) l (({ st with rows := ap st.rows (bs + 16 * i) (mem'.map (Row.ren (mId [] (bs + 16 * i)))) } : St).put dst (fS (mId [] (bs + 16 * i)) ret)) K) : rC P BR ops bs i l st K f args dst :=
 E7 (hS.le ha trivial) ⟨vj hf.1, rI hf.2⟩ hl hs hK
def aZ : Option Row → Prop
 | some (.box _ _) => True
 | some (.row _ _ _) => True
 | some (.tab _ _ _) => True
 | _ => False
theorem cJ (ι : List Nat) (hS : aU P f args' mem ret mem') (ha : cvA (args.map (bq ι fun _ => none)) args') (hm : sX (ι.map (bS ι (fun _ => none) st.rows)) mem) (hn : sW ι = true) (hι : ∀ s ∈ ι, aZ (st.rows s)) (hle : ι.length ≤ mem'.length) (hl : mem'.length - ι.length ≤ 16)
  (hs : ∀ j, j < mem'.length - ι.length → st.rows (bs + 16 * i + j) = none) (hK : di P BR ops bs (i + 1) l (({ st with rows := aw ι (bs + 16 * i) st.rows mem' } : St).put dst (fS (mId ι (bs + 16 * i)) ret)) K) : rR P BR ops bs i l st K f args dst :=
 ⟨ι, false, _, ret, mem', (fun _ _ h => by cases h), iC hn, fun s hs => by
   have := hι s hs
   unfold aZ at this
   split at this
   · exact ⟨_, by assumption, rfl⟩
   · exact ⟨_, by assumption, rfl⟩
   · exact ⟨_, by assumption, rfl⟩
   · exact this.elim, hS.le ha hm, hle, .inl (fun _ => rfl), fun _ => hl, hs, hK⟩
theorem Ln (ι : List Nat) (hS : aU P f args' mem ret mem') (ha : cvA (args.map (ee ι fun _ => none)) args') (hm : sX (ι.map (bS ι (fun _ => none) st.rows)) mem) (hn : ι.Nodup) (hι : ∀ s ∈ ι, aZ (st.rows s)) (hle : ι.length ≤ mem'.length)
  (hs : ∀ j, j < mem'.length - ι.length → st.rows (bs + 16 * i + j) = none) (hK : di P BR ops bs (i + 1) l (({ st with rows := aw ι (bs + 16 * i) st.rows mem' } : St).put dst (fS (mId ι (bs + 16 * i)) ret)) K) : rR P BR ops bs i l st K f args dst :=
 ⟨ι, true, _, ret, mem', (fun _ _ h => by cases h), hn, fun s hs => by
   have := hι s hs
   unfold aZ at this
   split at this
   · exact ⟨_, by assumption, rfl⟩
   · exact ⟨_, by assumption, rfl⟩
   · exact ⟨_, by assumption, rfl⟩
   · exact this.elim, hS.le ha hm, hle, .inl (fun _ => rfl), fun h => (by cases h), hs, hK⟩
theorem Lo (hS : aU P f args' [] ret mem') (ha : cvA (args.map (ee [] st.rows)) args') (hf : fr3 ret ∧ vi mem')
  (hs : ∀ j, j < mem'.length → st.rows (bs + 16 * i + j) = none) (hK : di P BR ops bs (i + 1) l (({ st with rows := ap st.rows (bs + 16 * i) (mem'.map (Row.ren (mId [] (bs + 16 * i)))) } : St).put dst (fS (mId [] (bs + 16 * i)) ret)) K) : rR P BR ops bs i l st K f args dst :=
 ⟨[], true, st.rows, ret, mem', fun _ _ h => h, List.nodup_nil, (by simp), hS.le ha trivial, (by simp), .inr ⟨vj hf.1, rI hf.2⟩, fun h => (by cases h), (by simpa using hs), (by rw [fO]; exact hK)⟩
theorem cX {fn : Func} {st : St} {k : Nat} (ids : List Nat) {ret : AV} {mem' : List Row} {e : Exit} (he : e = .normal ∨ e = .ret) (hnd : sW ids = true) (hk : upB k (fun j => match ids[j]? with | some i => i == j | none => false) = true) (h : Al P st fn.results.toList k ids ret mem') : (e = .normal ∨ e = .ret) ∧ xp P fn k ret mem' st :=
 KB ids he (iC hnd) (fun j hj => by
   have := nk hk j hj
   split at this
   · rename_i i hi
     rw [beq_iff_eq] at this
     rw [hi, this]
   · cases this) h
theorem ao {R : Nat → Option Row} {n : Nat} (h0 : R n = none) : ∀ j, j < 1 → R (n + j) = none := fun j hj => by
 obtain rfl : j = 0 := by omega
 exact h0
end
def AE :=
 (aI
 (aI
 (aI
 (aI
 (aI
 (aI
 (aI
 (aI
 @Ai
 (aI
 @xq
 @Dw))
 (aI
 @Dx
 (aI
 @Dy
 @Dz)))
 (aI
 (aI
 @IL
 (aI
 @K5
 @K6))
 (aI
 @K7
 (aI
 @K8
 @Lg))))
 (aI
 (aI
 (aI
 @Lh
 (aI
 @Lj
 @Li))
 (aI
 @Lk
 (aI
 @Ll
 @K9)))
 (aI
 (aI
 @E2
 (aI
 @E3
 @E4))
 (aI
 @E5
 (aI
 @E6
 @St.put_some)))))
 (aI
 (aI
 (aI
 (aI
 @St.put_none
 (aI
 @IN
 @Aj))
 (aI
 @xi
 (aI
 @cls.eq_1
 @cls.eq_2)))
 (aI
 (aI
 @cls.eq_3
 (aI
 @cls.eq_4
 @cls.eq_5))
 (aI
 @cls.eq_6
 (aI
 @cls.eq_7
 (fun (BR : Nat → Bool) (x : Operand) => @id (cls BR (.move x) = 0) rfl)))))
 (aI
 (aI
 (aI
 (fun (BR : Nat → Bool) (x : Operand) => @id (cls BR (.assign x) = 0) rfl)
 (aI
 (fun (BR : Nat → Bool) (c a b : Operand) => @id (cls BR (.pick c a b) = 0) rfl)
 (fun (BR : Nat → Bool) (t : Nat) (ps : Array (Nat × Operand)) => @id (cls BR (.build t ps) = 0) rfl)))
 (aI
 (fun (BR : Nat → Bool) (o : BinOp) (t t2 : Nat) (x y : Operand) => @id (cls BR (.binOp o t x y t2) = 0) rfl)
 (aI
 (fun (BR : Nat → Bool) (o : UnOp) (t : Nat) (x : Operand) => @id (cls BR (.unOp o t x) = 0) rfl)
 (fun (BR : Nat → Bool) (s d : Nat) (x : Operand) => @id (cls BR (.convert s d x) = 0) rfl))))
 (aI
 (aI
 (fun (BR : Nat → Bool) (s f : Nat) (x : Operand) => @id (cls BR (.fieldAddr s x f) = 0) rfl)
 (aI
 (fun (BR : Nat → Bool) (s f : Nat) (x : Operand) => @id (cls BR (.field s x f) = 0) rfl)
 (fun (BR : Nat → Bool) (t : Nat) (x i : Operand) => @id (cls BR (.indexAddr t x i) = 0) rfl)))
 (aI
 (fun (BR : Nat → Bool) (t : Nat) (x i : Operand) => @id (cls BR (.index t x i) = 0) rfl)
 (aI
 (fun (BR : Nat → Bool) (i : Nat) (x : Operand) => @id (cls BR (.extract x i) = 0) rfl)
 (fun (BR : Nat → Bool) (x : Operand) => @id (cls BR (.nilCheck x) = 0) rfl)))))))
 (aI
 (aI
 (aI
 (aI
 (aI
 (fun (BR : Nat → Bool) (t : Nat) (x : Operand) (l h m : Option Operand) => @id (cls BR (.slice t x l h m) = 0) rfl)
 (aI
 @d9.eq_1
 @d9.eq_2))
 (aI
 @d9.eq_3
 (aI
 @d9.eq_4
 @d9.eq_5)))
 (aI
 (aI
 @d9.eq_6
 (aI
 @d9.eq_7
 @d9.eq_8))
 (aI
 @d9.eq_9
 (aI
 @d9.eq_10
 @d9.eq_11))))
 (aI
 (aI
 (aI
 @d9.eq_12
 (aI
 @d9.eq_13
 @d9.eq_14))
 (aI
 @d9.eq_15
 (aI
 @d9.eq_16
 @d9.eq_17)))
 (aI
 (aI
 @d9.eq_18
 (aI
 @d9.eq_19
 (fun (BR : Nat → Bool) (fn : Fn) (a b : Array Operand) => @id (cls BR (.makeFunc fn a b) = 0) rfl)))
 (aI
 @sj.eq_1
 (aI
 @sj.eq_2
 @aMk.eq_1)))))
 (aI
 (aI
 (aI
 (aI
 @aMk.eq_2
 (aI
 @aMk.eq_3
 @aMk.eq_4))
 (aI
 @aMk.eq_5
 (aI
 @aWr.eq_1
 @aWr.eq_2)))
 (aI
 (aI
 @pB.eq_1
 (aI
 @pB.eq_2
 @pB.eq_3))
 (aI
 @pB.eq_4
 (aI
 @pB.eq_6
 @pB.eq_7))))
 (aI
 (aI
 (aI
 @unA.eq_1
 (aI
 @unA.eq_3
 @kg.eq_1))
 (aI
 @kg.eq_2
 (aI
 @ke.eq_1
 @ke.eq_2)))
 (aI
 (aI
 @ng.eq_1
 (aI
 @ng.eq_2
 @nh.eq_1))
 (aI
 (aI
 @nh.eq_2
 @gV.eq_1)
 (aI
 @gV.eq_2
 @dL.eq_1)))))))
 (aI
 (aI
 (aI
 (aI
 (aI
 (aI
 @tY.eq_1
 (aI
 @tY.eq_2
 @tY.eq_3))
 (aI
 @pF.eq_1
 (aI
 @AQ.eq_1
 @od.eq_1)))
 (aI
 (aI
 @od.eq_2
 (aI
 @pA.eq_1
 @pA.eq_2))
 (aI
 @pA.eq_3
 (aI
 @pA.eq_4
 @eqL.eq_1))))
 (aI
 (aI
 (aI
 @eqL.eq_2
 (aI
 @IF.eq_1
 @gW.eq_1))
 (aI
 @qt.eq_1
 (aI
 @qt.eq_2
 @qt.eq_3)))
 (aI
 (aI
 @tc.eq_1
 (aI
 @Al.eq_1
 @iW.eq_1))
 (aI
 @pG.eq_1
 (aI
 @pG.eq_2
 @Dr.eq_1)))))
 (aI
 (aI
 (aI
 (aI
 @Dq.eq_1
 (aI
 @Dp.eq_1
 @IM))
 (aI
 @Lm
 (aI
 @mW.eq_1
 @mW.eq_2)))
 (aI
 (aI
 @mW.eq_3
 (aI
 @mW.eq_4
 @mW.eq_5))
 (aI
 @mW.eq_6
 (aI
 @mW.eq_7
 @mW.eq_8))))
 (aI
 (aI
 (aI
 @mW.eq_9
 (aI
 @mW.eq_10
 @mW.eq_11))
 (aI
 @mW.eq_12
 (aI
 @mW.eq_13
 @mW.eq_14)))
 (aI
 (aI
 @mW.eq_15
 (aI
 @mW.eq_16
 @mW.eq_17))
 (aI
 (fun (k : IntKind) (n : Int) => @id (ofV (.int k n : Value) = pA (.int k n)) rfl)
 (aI
 (fun (b : Bool) => @id (ofV (.bool b : Value) = pA (.bool b)) rfl)
 (fun (s : ByteArray) => @id (ofV (.string s : Value) = pA (.string s)) rfl)))))))
 (aI
 (aI
 (aI
 (aI
 (aI
 (@id (ofV (.slice none 0 0 : Value) = pA (.slice none 0 0)) rfl)
 (aI
 (fun (v u : AV) (l : List AV) => @id (tc (v :: u :: l) = .tup (v :: u :: l)) rfl)
 (@id (tc [] = .tup []) rfl)))
 (aI
 @List.drop_zero.{0}
 (aI
 @List.drop_succ_cons.{0}
 @List.take_zero.{0})))
 (aI
 (aI
 @List.take_succ_cons.{0}
 (aI
 @List.drop_nil.{0}
 @List.take_nil.{0}))
 (aI
 @List.map_cons.{0,0}
 (aI
 @List.map_nil.{0,0}
 @List.all_cons.{0}))))
 (aI
 (aI
 (aI
 @List.all_nil.{0}
 (aI
 @List.length_cons.{0}
 @List.length_nil.{0}))
 (aI
 @List.cons_append.{0}
 (aI
 @List.nil_append.{0}
 @List.append_nil.{0})))
 (aI
 (aI
 @List.append_assoc.{0}
 (aI
 @List.length_append.{0}
 @List.getElem?_toArray.{0}))
 (aI
 @List.getElem?_cons_zero.{0}
 (aI
 @List.getElem?_cons_succ.{0}
 @List.getElem?_nil.{0})))))
 (aI
 (aI
 (aI
 (aI
 @Option.bind_some.{0,0}
 (aI
 @Bool.and_true
 @Bool.true_and))
 (aI
 @Bool.and_self
 (aI
 @Bool.and_false
 @Bool.false_and)))
 (aI
 (aI
 @and_self
 (aI
 @and_true
 @true_and))
 (aI
 @if_true.{1}
 (aI
 @if_false.{1}
 @ite_true.{1}))))
 (aI
 (aI
 (aI
 @ite_false.{1}
 (aI
 @Bool.false_eq_true
 @List.contains_cons.{0}))
 (aI
 @List.contains_nil.{0}
 (aI
 @Bool.or_false
 @Bool.false_or)))
 (aI
 (aI
 @Bool.or_self
 (aI
 @Bool.or_true
 @Bool.true_or))
 (aI
 (aI
 @Nat.zero_add
 @Nat.add_zero)
 (aI
 @Nat.zero_mul
 @Nat.not_lt_zero))))))))
 (aI
 (aI
 (aI
 (aI
 (aI
 (aI
 (aI
 @eq_self.{1}
 (aI
 @not_false_eq_true
 @not_true_eq_false))
 (aI
 @Bool.not_true
 (aI
 @Bool.not_false
 @ne_eq.{1})))
 (aI
 (aI
 @Option.some.injEq.{0}
 (aI
 @List.length_map.{0,0}
 @List.length_set.{0}))
 (aI
 @List.length_replicate.{0}
 (aI
 @As
 @qT))))
 (aI
 (aI
 (aI
 @uk
 (aI
 (fun (f : Nat → Nat) (k : IntKind) (n : Int) => @id (gX f (.int k n : AV) = (.int k n : AV)) rfl)
 (fun (k : IntKind) (n : Int) => @id (nz (.int k n : AV) = (.int k n : AV)) rfl)))
 (aI
 (fun (f : Nat → Nat) (k : IntKind) (n : Int) => @id (iR f (.int k n : AV) = gX f (.int k n : AV)) rfl)
 (aI
 (fun (f : Nat → Nat) (k : IntKind) (n : Int) => @id (fS f (.int k n : AV) = iR f (.int k n : AV)) rfl)
 (fun (ι : List Nat) (rows : Nat → Option Row) (k : IntKind) (n : Int) => @id (fU ι rows (.int k n : AV) = (.int k n : AV)) rfl))))
 (aI
 (aI
 (fun (ι : List Nat) (rows : Nat → Option Row) (k : IntKind) (n : Int) => @id (bQ ι rows (.int k n : AV) = (.int k n : AV)) rfl)
 (aI
 (fun (ι : List Nat) (rows : Nat → Option Row) (k : IntKind) (n : Int) => @id (bq ι rows (.int k n : AV) = bQ ι rows (.int k n : AV)) rfl)
 (fun (ι : List Nat) (rows : Nat → Option Row) (k : IntKind) (n : Int) => @id (ca ι rows (.int k n : AV) = bQ ι rows (.int k n : AV)) rfl)))
 (aI
 (fun (ι : List Nat) (rows : Nat → Option Row) (k : IntKind) (n : Int) => @id (ee ι rows (.int k n : AV) = ca ι rows (.int k n : AV)) rfl)
 (aI
 (fun (ids : List Nat) (k : IntKind) (n : Int) => @id (iW ids (.int k n : AV) = bq ids (fun _ => none) (.int k n : AV)) rfl)
 (fun (k : IntKind) (n : Int) => @id (AV.cells (.int k n : AV) = [(.int k n : AV)]) rfl))))))
 (aI
 (aI
 (aI
 (aI
 (fun (k : IntKind) (n : Int) => @id (AV.one (.int k n : AV) = true) rfl)
 (aI
 (fun (k : IntKind) (n : Int) => @id (AV.pl (.int k n : AV) = true) rfl)
 (fun (f : Nat → Nat) (b : Bool) => @id (gX f (.bool b : AV) = (.bool b : AV)) rfl)))
 (aI
 (fun (b : Bool) => @id (nz (.bool b : AV) = (.bool b : AV)) rfl)
 (aI
 (fun (f : Nat → Nat) (b : Bool) => @id (iR f (.bool b : AV) = gX f (.bool b : AV)) rfl)
 (fun (f : Nat → Nat) (b : Bool) => @id (fS f (.bool b : AV) = iR f (.bool b : AV)) rfl))))
 (aI
 (aI
 (fun (ι : List Nat) (rows : Nat → Option Row) (b : Bool) => @id (fU ι rows (.bool b : AV) = (.bool b : AV)) rfl)
 (aI
 (fun (ι : List Nat) (rows : Nat → Option Row) (b : Bool) => @id (bQ ι rows (.bool b : AV) = (.bool b : AV)) rfl)
 (fun (ι : List Nat) (rows : Nat → Option Row) (b : Bool) => @id (bq ι rows (.bool b : AV) = bQ ι rows (.bool b : AV)) rfl)))
 (aI
 (fun (ι : List Nat) (rows : Nat → Option Row) (b : Bool) => @id (ca ι rows (.bool b : AV) = bQ ι rows (.bool b : AV)) rfl)
 (aI
 (fun (ι : List Nat) (rows : Nat → Option Row) (b : Bool) => @id (ee ι rows (.bool b : AV) = ca ι rows (.bool b : AV)) rfl)
 (fun (ids : List Nat) (b : Bool) => @id (iW ids (.bool b : AV) = bq ids (fun _ => none) (.bool b : AV)) rfl)))))
 (aI
 (aI
 (aI
 (fun (b : Bool) => @id (AV.cells (.bool b : AV) = [(.bool b : AV)]) rfl)
 (aI
 (fun (b : Bool) => @id (AV.one (.bool b : AV) = true) rfl)
 (fun (b : Bool) => @id (AV.pl (.bool b : AV) = true) rfl)))
 (aI
 (fun (f : Nat → Nat) (s : ByteArray) => @id (gX f (.str s : AV) = (.str s : AV)) rfl)
 (aI
 (fun (s : ByteArray) => @id (nz (.str s : AV) = (.str s : AV)) rfl)
 (fun (f : Nat → Nat) (s : ByteArray) => @id (iR f (.str s : AV) = gX f (.str s : AV)) rfl))))
 (aI
 (aI
 (fun (f : Nat → Nat) (s : ByteArray) => @id (fS f (.str s : AV) = iR f (.str s : AV)) rfl)
 (aI
 (fun (ι : List Nat) (rows : Nat → Option Row) (s : ByteArray) => @id (fU ι rows (.str s : AV) = (.str s : AV)) rfl)
 (fun (ι : List Nat) (rows : Nat → Option Row) (s : ByteArray) => @id (bQ ι rows (.str s : AV) = (.str s : AV)) rfl)))
 (aI
 (fun (ι : List Nat) (rows : Nat → Option Row) (s : ByteArray) => @id (bq ι rows (.str s : AV) = bQ ι rows (.str s : AV)) rfl)
 (aI
 (fun (ι : List Nat) (rows : Nat → Option Row) (s : ByteArray) => @id (ca ι rows (.str s : AV) = bQ ι rows (.str s : AV)) rfl)
 (fun (ι : List Nat) (rows : Nat → Option Row) (s : ByteArray) => @id (ee ι rows (.str s : AV) = ca ι rows (.str s : AV)) rfl)))))))
 (aI
 (aI
 (aI
 (aI
 (aI
 (fun (ids : List Nat) (s : ByteArray) => @id (iW ids (.str s : AV) = bq ids (fun _ => none) (.str s : AV)) rfl)
 (aI
 (fun (s : ByteArray) => @id (AV.cells (.str s : AV) = [(.str s : AV)]) rfl)
 (fun (s : ByteArray) => @id (AV.one (.str s : AV) = true) rfl)))
 (aI
 (fun (s : ByteArray) => @id (AV.pl (.str s : AV) = true) rfl)
 (aI
 (fun (f : Nat → Nat) (cs : List AV) => @id (gX f (.agg cs : AV) = .top) rfl)
 (fun (cs : List AV) => @id (nz (.agg cs : AV) = (.agg cs : AV)) rfl))))
 (aI
 (aI
 (fun (f : Nat → Nat) (cs : List AV) => @id (iR f (.agg cs : AV) = .agg (cs.map (gX f))) rfl)
 (aI
 (fun (f : Nat → Nat) (cs : List AV) => @id (fS f (.agg cs : AV) = iR f (.agg cs : AV)) rfl)
 (fun (ι : List Nat) (rows : Nat → Option Row) (cs : List AV) => @id (fU ι rows (.agg cs : AV) = .top) rfl)))
 (aI
 (fun (ι : List Nat) (rows : Nat → Option Row) (cs : List AV) => @id (bQ ι rows (.agg cs : AV) = .top) rfl)
 (aI
 (fun (ι : List Nat) (rows : Nat → Option Row) (cs : List AV) => @id (bq ι rows (.agg cs : AV) = .agg (cs.map (bQ ι rows))) rfl)
 (fun (ι : List Nat) (rows : Nat → Option Row) (cs : List AV) => @id (ca ι rows (.agg cs : AV) = bQ ι rows (.agg cs : AV)) rfl)))))
 (aI
 (aI
 (aI
 (fun (ι : List Nat) (rows : Nat → Option Row) (cs : List AV) => @id (ee ι rows (.agg cs : AV) = .agg (cs.map (ca ι rows))) rfl)
 (aI
 (fun (ids : List Nat) (cs : List AV) => @id (iW ids (.agg cs : AV) = bq ids (fun _ => none) (.agg cs : AV)) rfl)
 (fun (cs : List AV) => @id (AV.cells (.agg cs : AV) = cs) rfl)))
 (aI
 (fun (cs : List AV) => @id (AV.one (.agg cs : AV) = false) rfl)
 (aI
 (fun (cs : List AV) => @id (AV.pl (.agg cs : AV) = false) rfl)
 (fun (f : Nat → Nat) (cs : List AV) => @id (gX f (.tup cs : AV) = .top) rfl))))
 (aI
 (aI
 (fun (cs : List AV) => @id (nz (.tup cs : AV) = (.tup cs : AV)) rfl)
 (aI
 (fun (f : Nat → Nat) (cs : List AV) => @id (iR f (.tup cs : AV) = .top) rfl)
 (fun (f : Nat → Nat) (cs : List AV) => @id (fS f (.tup cs : AV) = .tup (cs.map (iR f))) rfl)))
 (aI
 (fun (ι : List Nat) (rows : Nat → Option Row) (cs : List AV) => @id (fU ι rows (.tup cs : AV) = .top) rfl)
 (aI
 (fun (ι : List Nat) (rows : Nat → Option Row) (cs : List AV) => @id (bQ ι rows (.tup cs : AV) = .top) rfl)
 (fun (ι : List Nat) (rows : Nat → Option Row) (cs : List AV) => @id (bq ι rows (.tup cs : AV) = .top) rfl))))))
 (aI
 (aI
 (aI
 (aI
 (fun (ι : List Nat) (rows : Nat → Option Row) (cs : List AV) => @id (ca ι rows (.tup cs : AV) = bQ ι rows (.tup cs : AV)) rfl)
 (aI
 (fun (ι : List Nat) (rows : Nat → Option Row) (cs : List AV) => @id (ee ι rows (.tup cs : AV) = .top) rfl)
 (fun (ids : List Nat) (cs : List AV) => @id (iW ids (.tup cs : AV) = .tup (cs.map (bq ids fun _ => none))) rfl)))
 (aI
 (fun (cs : List AV) => @id (AV.cells (.tup cs : AV) = [(.tup cs : AV)]) rfl)
 (aI
 (fun (cs : List AV) => @id (AV.one (.tup cs : AV) = false) rfl)
 (fun (cs : List AV) => @id (AV.pl (.tup cs : AV) = false) rfl))))
 (aI
 (aI
 (fun (f : Nat → Nat)  => @id (gX f (.nil : AV) = (.nil : AV)) rfl)
 (aI
 (@id (nz (.nil : AV) = .sl [] 0) rfl)
 (fun (f : Nat → Nat)  => @id (iR f (.nil : AV) = gX f (.nil : AV)) rfl)))
 (aI
 (fun (f : Nat → Nat)  => @id (fS f (.nil : AV) = iR f (.nil : AV)) rfl)
 (aI
 (fun (ι : List Nat) (rows : Nat → Option Row)  => @id (fU ι rows (.nil : AV) = (.nil : AV)) rfl)
 (fun (ι : List Nat) (rows : Nat → Option Row)  => @id (bQ ι rows (.nil : AV) = (.nil : AV)) rfl)))))
 (aI
 (aI
 (aI
 (fun (ι : List Nat) (rows : Nat → Option Row)  => @id (bq ι rows (.nil : AV) = bQ ι rows (.nil : AV)) rfl)
 (aI
 (fun (ι : List Nat) (rows : Nat → Option Row)  => @id (ca ι rows (.nil : AV) = bQ ι rows (.nil : AV)) rfl)
 (fun (ι : List Nat) (rows : Nat → Option Row)  => @id (ee ι rows (.nil : AV) = ca ι rows (.nil : AV)) rfl)))
 (aI
 (fun (ids : List Nat)  => @id (iW ids (.nil : AV) = bq ids (fun _ => none) (.nil : AV)) rfl)
 (aI
 (@id (AV.cells (.nil : AV) = [(.nil : AV)]) rfl)
 (@id (AV.one (.nil : AV) = true) rfl))))
 (aI
 (aI
 (@id (AV.pl (.nil : AV) = true) rfl)
 (aI
 (fun (f : Nat → Nat) (cs : List AV) (n : Nat) => @id (gX f (.sl cs n : AV) = (.sl cs n : AV)) rfl)
 (fun (cs : List AV) (n : Nat) => @id (nz (.sl cs n : AV) = (.sl cs n : AV)) rfl)))
 (aI
 (aI
 (fun (f : Nat → Nat) (cs : List AV) (n : Nat) => @id (iR f (.sl cs n : AV) = gX f (.sl cs n : AV)) rfl)
 (fun (f : Nat → Nat) (cs : List AV) (n : Nat) => @id (fS f (.sl cs n : AV) = iR f (.sl cs n : AV)) rfl))
 (aI
 (fun (ι : List Nat) (rows : Nat → Option Row) (cs : List AV) (n : Nat) => @id (fU ι rows (.sl cs n : AV) = (.sl cs n : AV)) rfl)
 (fun (ι : List Nat) (rows : Nat → Option Row) (cs : List AV) (n : Nat) => @id (bQ ι rows (.sl cs n : AV) = (.sl cs n : AV)) rfl))))))))
 (aI
 (aI
 (aI
 (aI
 (aI
 (aI
 (fun (ι : List Nat) (rows : Nat → Option Row) (cs : List AV) (n : Nat) => @id (bq ι rows (.sl cs n : AV) = bQ ι rows (.sl cs n : AV)) rfl)
 (aI
 (fun (ι : List Nat) (rows : Nat → Option Row) (cs : List AV) (n : Nat) => @id (ca ι rows (.sl cs n : AV) = bQ ι rows (.sl cs n : AV)) rfl)
 (fun (ι : List Nat) (rows : Nat → Option Row) (cs : List AV) (n : Nat) => @id (ee ι rows (.sl cs n : AV) = ca ι rows (.sl cs n : AV)) rfl)))
 (aI
 (fun (ids : List Nat) (cs : List AV) (n : Nat) => @id (iW ids (.sl cs n : AV) = bq ids (fun _ => none) (.sl cs n : AV)) rfl)
 (aI
 (fun (cs : List AV) (n : Nat) => @id (AV.cells (.sl cs n : AV) = [(.sl cs n : AV)]) rfl)
 (fun (cs : List AV) (n : Nat) => @id (AV.one (.sl cs n : AV) = true) rfl))))
 (aI
 (aI
 (fun (cs : List AV) (n : Nat) => @id (AV.pl (.sl cs n : AV) = true) rfl)
 (aI
 (fun (f : Nat → Nat) (s : Nat) (n : Nat) => @id (gX f (.own s n : AV) = .own (f s) n) rfl)
 (fun (s : Nat) (n : Nat) => @id (nz (.own s n : AV) = (.own s n : AV)) rfl)))
 (aI
 (fun (f : Nat → Nat) (s : Nat) (n : Nat) => @id (iR f (.own s n : AV) = gX f (.own s n : AV)) rfl)
 (aI
 (fun (f : Nat → Nat) (s : Nat) (n : Nat) => @id (fS f (.own s n : AV) = iR f (.own s n : AV)) rfl)
 @fU.eq_1))))
 (aI
 (aI
 (aI
 @bQ.eq_1
 (aI
 (fun (ι : List Nat) (rows : Nat → Option Row) (s : Nat) (n : Nat) => @id (bq ι rows (.own s n : AV) = bQ ι rows (.own s n : AV)) rfl)
 @ca.eq_1))
 (aI
 (fun (ι : List Nat) (rows : Nat → Option Row) (s : Nat) (n : Nat) => @id (ee ι rows (.own s n : AV) = ca ι rows (.own s n : AV)) rfl)
 (aI
 (fun (ids : List Nat) (s : Nat) (n : Nat) => @id (iW ids (.own s n : AV) = bq ids (fun _ => none) (.own s n : AV)) rfl)
 (fun (s : Nat) (n : Nat) => @id (AV.cells (.own s n : AV) = [(.own s n : AV)]) rfl))))
 (aI
 (aI
 (fun (s : Nat) (n : Nat) => @id (AV.one (.own s n : AV) = true) rfl)
 (aI
 (fun (s : Nat) (n : Nat) => @id (AV.pl (.own s n : AV) = false) rfl)
 (fun (f : Nat → Nat) (s : Nat) (o : Nat) => @id (gX f (.ptr s o : AV) = .ptr (f s) o) rfl)))
 (aI
 (fun (s : Nat) (o : Nat) => @id (nz (.ptr s o : AV) = (.ptr s o : AV)) rfl)
 (aI
 (fun (f : Nat → Nat) (s : Nat) (o : Nat) => @id (iR f (.ptr s o : AV) = gX f (.ptr s o : AV)) rfl)
 (fun (f : Nat → Nat) (s : Nat) (o : Nat) => @id (fS f (.ptr s o : AV) = iR f (.ptr s o : AV)) rfl))))))
 (aI
 (aI
 (aI
 (aI
 (fun (ι : List Nat) (rows : Nat → Option Row) (s : Nat) (o : Nat) => @id (fU ι rows (.ptr s o : AV) = .top) rfl)
 (aI
 @bQ.eq_2
 (fun (ι : List Nat) (rows : Nat → Option Row) (s : Nat) (o : Nat) => @id (bq ι rows (.ptr s o : AV) = bQ ι rows (.ptr s o : AV)) rfl)))
 (aI
 (fun (ι : List Nat) (rows : Nat → Option Row) (s : Nat) (o : Nat) => @id (ca ι rows (.ptr s o : AV) = bQ ι rows (.ptr s o : AV)) rfl)
 (aI
 (fun (ι : List Nat) (rows : Nat → Option Row) (s : Nat) (o : Nat) => @id (ee ι rows (.ptr s o : AV) = ca ι rows (.ptr s o : AV)) rfl)
 (fun (ids : List Nat) (s : Nat) (o : Nat) => @id (iW ids (.ptr s o : AV) = bq ids (fun _ => none) (.ptr s o : AV)) rfl))))
 (aI
 (aI
 (fun (s : Nat) (o : Nat) => @id (AV.cells (.ptr s o : AV) = [(.ptr s o : AV)]) rfl)
 (aI
 (fun (s : Nat) (o : Nat) => @id (AV.one (.ptr s o : AV) = true) rfl)
 (fun (s : Nat) (o : Nat) => @id (AV.pl (.ptr s o : AV) = false) rfl)))
 (aI
 (fun (f : Nat → Nat) (cs : List AV) => @id (gX f (.eptr cs : AV) = (.eptr cs : AV)) rfl)
 (aI
 (fun (cs : List AV) => @id (nz (.eptr cs : AV) = (.eptr cs : AV)) rfl)
 (fun (f : Nat → Nat) (cs : List AV) => @id (iR f (.eptr cs : AV) = gX f (.eptr cs : AV)) rfl)))))
 (aI
 (aI
 (aI
 (fun (f : Nat → Nat) (cs : List AV) => @id (fS f (.eptr cs : AV) = iR f (.eptr cs : AV)) rfl)
 (aI
 (fun (ι : List Nat) (rows : Nat → Option Row) (cs : List AV) => @id (fU ι rows (.eptr cs : AV) = (.eptr cs : AV)) rfl)
 (fun (ι : List Nat) (rows : Nat → Option Row) (cs : List AV) => @id (bQ ι rows (.eptr cs : AV) = (.eptr cs : AV)) rfl)))
 (aI
 (fun (ι : List Nat) (rows : Nat → Option Row) (cs : List AV) => @id (bq ι rows (.eptr cs : AV) = bQ ι rows (.eptr cs : AV)) rfl)
 (aI
 (fun (ι : List Nat) (rows : Nat → Option Row) (cs : List AV) => @id (ca ι rows (.eptr cs : AV) = bQ ι rows (.eptr cs : AV)) rfl)
 (fun (ι : List Nat) (rows : Nat → Option Row) (cs : List AV) => @id (ee ι rows (.eptr cs : AV) = ca ι rows (.eptr cs : AV)) rfl))))
 (aI
 (aI
 (fun (ids : List Nat) (cs : List AV) => @id (iW ids (.eptr cs : AV) = bq ids (fun _ => none) (.eptr cs : AV)) rfl)
 (aI
 (fun (cs : List AV) => @id (AV.cells (.eptr cs : AV) = [(.eptr cs : AV)]) rfl)
 (fun (cs : List AV) => @id (AV.one (.eptr cs : AV) = true) rfl)))
 (aI
 (fun (cs : List AV) => @id (AV.pl (.eptr cs : AV) = true) rfl)
 (aI
 (fun (f : Nat → Nat) (fi : FuncId) (ps : List Nat) => @id (gX f (.fn fi ps : AV) = .top) rfl)
 (fun (fi : FuncId) (ps : List Nat) => @id (nz (.fn fi ps : AV) = (.fn fi ps : AV)) rfl)))))))
 (aI
 (aI
 (aI
 (aI
 (aI
 (fun (f : Nat → Nat) (fi : FuncId) (ps : List Nat) => @id (iR f (.fn fi ps : AV) = gX f (.fn fi ps : AV)) rfl)
 (aI
 (fun (f : Nat → Nat) (fi : FuncId) (ps : List Nat) => @id (fS f (.fn fi ps : AV) = iR f (.fn fi ps : AV)) rfl)
 (fun (ι : List Nat) (rows : Nat → Option Row) (fi : FuncId) (ps : List Nat) => @id (fU ι rows (.fn fi ps : AV) = .top) rfl)))
 (aI
 (fun (ι : List Nat) (rows : Nat → Option Row) (fi : FuncId) (ps : List Nat) => @id (bQ ι rows (.fn fi ps : AV) = .top) rfl)
 (aI
 (fun (ι : List Nat) (rows : Nat → Option Row) (fi : FuncId) (ps : List Nat) => @id (bq ι rows (.fn fi ps : AV) = bQ ι rows (.fn fi ps : AV)) rfl)
 (fun (ι : List Nat) (rows : Nat → Option Row) (fi : FuncId) (ps : List Nat) => @id (ca ι rows (.fn fi ps : AV) = bQ ι rows (.fn fi ps : AV)) rfl))))
 (aI
 (aI
 (fun (ι : List Nat) (rows : Nat → Option Row) (fi : FuncId) (ps : List Nat) => @id (ee ι rows (.fn fi ps : AV) = ca ι rows (.fn fi ps : AV)) rfl)
 (aI
 (fun (ids : List Nat) (fi : FuncId) (ps : List Nat) => @id (iW ids (.fn fi ps : AV) = bq ids (fun _ => none) (.fn fi ps : AV)) rfl)
 (fun (fi : FuncId) (ps : List Nat) => @id (AV.cells (.fn fi ps : AV) = [(.fn fi ps : AV)]) rfl)))
 (aI
 (fun (fi : FuncId) (ps : List Nat) => @id (AV.one (.fn fi ps : AV) = false) rfl)
 (aI
 (fun (fi : FuncId) (ps : List Nat) => @id (AV.pl (.fn fi ps : AV) = false) rfl)
 (fun (f : Nat → Nat)  => @id (gX f (.top : AV) = (.top : AV)) rfl)))))
 (aI
 (aI
 (aI
 (@id (nz (.top : AV) = (.top : AV)) rfl)
 (aI
 (fun (f : Nat → Nat)  => @id (iR f (.top : AV) = gX f (.top : AV)) rfl)
 (fun (f : Nat → Nat)  => @id (fS f (.top : AV) = iR f (.top : AV)) rfl)))
 (aI
 (fun (ι : List Nat) (rows : Nat → Option Row)  => @id (fU ι rows (.top : AV) = (.top : AV)) rfl)
 (aI
 (fun (ι : List Nat) (rows : Nat → Option Row)  => @id (bQ ι rows (.top : AV) = (.top : AV)) rfl)
 (fun (ι : List Nat) (rows : Nat → Option Row)  => @id (bq ι rows (.top : AV) = bQ ι rows (.top : AV)) rfl))))
 (aI
 (aI
 (fun (ι : List Nat) (rows : Nat → Option Row)  => @id (ca ι rows (.top : AV) = bQ ι rows (.top : AV)) rfl)
 (aI
 (fun (ι : List Nat) (rows : Nat → Option Row)  => @id (ee ι rows (.top : AV) = ca ι rows (.top : AV)) rfl)
 (fun (ids : List Nat)  => @id (iW ids (.top : AV) = bq ids (fun _ => none) (.top : AV)) rfl)))
 (aI
 (@id (AV.cells (.top : AV) = [(.top : AV)]) rfl)
 (aI
 (@id (AV.one (.top : AV) = false) rfl)
 (@id (AV.pl (.top : AV) = true) rfl))))))
 (aI
 (aI
 (aI
 (aI
 @List.getD_cons_zero.{0}
 (aI
 @List.getD_cons_succ.{0}
 @Row.ren.eq_1))
 (aI
 @mId.eq_1
 (aI
 @ap.eq_1
 @ap.eq_2)))
 (aI
 (aI
 @iT.eq_1
 (aI
 @gU.eq_1
 @gU.eq_2))
 (aI
 @bd.eq_1
 (aI
 @aw.eq_1
 @evL.eq_1))))
 (aI
 (aI
 (aI
 @evL.eq_2
 (aI
 @mkT.eq_1
 @mkT.eq_2))
 (aI
 @mkR.eq_1
 (aI
 @mkR.eq_2
 @aW.eq_1)))
 (aI
 (aI
 @aW.eq_2
 (aI
 @st0.eq_1
 (fun (f : Nat → Nat) (E sz : Nat) (cs : List AV) => @id (Row.ren f (.row E sz cs) = .row E sz cs) rfl)))
 (aI
 (aI
 (fun (f : Nat → Nat) => @id (Row.ren f .gone = .gone) rfl)
 (fun (f : Nat → Nat) (E sz : Nat) (cs : List AV) => @id (Row.ren f (.tab E sz cs) = .tab E sz (cs.map (gX f))) rfl))
 (aI
 (fun (rows : Nat → Option Row) (l : List Row) => @id (iT rows [] l = rows) rfl)
 @bS.eq_1)))))))))
def AL :=
 (aI
 (aI
 (aI
 (aI
 (aI
 (aI
 (aI
 (fun (g : bJ) (F : Nat → Option Row) (k : IntKind) (n : Int) => @id (cv1 g F (.int k n : AV) .top = True) rfl)
 (fun (g : bJ) (F : Nat → Option Row) (k : IntKind) (n : Int) (x : AV) => @id (cvV g F (.int k n : AV) x = cv1 g F (.int k n : AV) x) rfl))
 (aI
 (fun (g : bJ) (F : Nat → Option Row) (k : IntKind) (n : Int) (x : AV) => @id (cvW g F (.int k n : AV) x = cvV g F (.int k n : AV) x) rfl)
 (fun (g : bJ) (F : Nat → Option Row) (b : Bool) => @id (cv1 g F (.bool b : AV) .top = True) rfl)))
 (aI
 (aI
 (fun (g : bJ) (F : Nat → Option Row) (b : Bool) (x : AV) => @id (cvV g F (.bool b : AV) x = cv1 g F (.bool b : AV) x) rfl)
 (fun (g : bJ) (F : Nat → Option Row) (b : Bool) (x : AV) => @id (cvW g F (.bool b : AV) x = cvV g F (.bool b : AV) x) rfl))
 (aI
 (fun (g : bJ) (F : Nat → Option Row) (s : ByteArray) => @id (cv1 g F (.str s : AV) .top = True) rfl)
 (fun (g : bJ) (F : Nat → Option Row) (s : ByteArray) (x : AV) => @id (cvV g F (.str s : AV) x = cv1 g F (.str s : AV) x) rfl))))
 (aI
 (aI
 (aI
 (fun (g : bJ) (F : Nat → Option Row) (s : ByteArray) (x : AV) => @id (cvW g F (.str s : AV) x = cvV g F (.str s : AV) x) rfl)
 (fun (g : bJ) (F : Nat → Option Row) (cs : List AV) => @id (cv1 g F (.agg cs : AV) .top = True) rfl))
 (aI
 (fun (g : bJ) (F : Nat → Option Row) (cs : List AV) (x : AV) => @id (cvW g F (.agg cs : AV) x = cvV g F (.agg cs : AV) x) rfl)
 (fun (g : bJ) (F : Nat → Option Row) (cs : List AV) => @id (cv1 g F (.tup cs : AV) .top = True) rfl)))
 (aI
 (aI
 (fun (g : bJ) (F : Nat → Option Row) (cs : List AV) (x : AV) => @id (cvV g F (.tup cs : AV) x = cv1 g F (.tup cs : AV) x) rfl)
 (fun (g : bJ) (F : Nat → Option Row)  => @id (cv1 g F (.nil : AV) .top = True) rfl))
 (aI
 (fun (g : bJ) (F : Nat → Option Row)  (x : AV) => @id (cvV g F (.nil : AV) x = cv1 g F (.nil : AV) x) rfl)
 (fun (g : bJ) (F : Nat → Option Row)  (x : AV) => @id (cvW g F (.nil : AV) x = cvV g F (.nil : AV) x) rfl)))))
 (aI
 (aI
 (aI
 (aI
 (fun (g : bJ) (F : Nat → Option Row) (cs : List AV) (n : Nat) => @id (cv1 g F (.sl cs n : AV) .top = True) rfl)
 (fun (g : bJ) (F : Nat → Option Row) (cs : List AV) (n : Nat) (x : AV) => @id (cvV g F (.sl cs n : AV) x = cv1 g F (.sl cs n : AV) x) rfl))
 (aI
 (fun (g : bJ) (F : Nat → Option Row) (cs : List AV) (n : Nat) (x : AV) => @id (cvW g F (.sl cs n : AV) x = cvV g F (.sl cs n : AV) x) rfl)
 (fun (g : bJ) (F : Nat → Option Row) (s : Nat) (n : Nat) => @id (cv1 g F (.own s n : AV) .top = True) rfl)))
 (aI
 (aI
 (fun (g : bJ) (F : Nat → Option Row) (s : Nat) (n : Nat) (x : AV) => @id (cvV g F (.own s n : AV) x = cv1 g F (.own s n : AV) x) rfl)
 (fun (g : bJ) (F : Nat → Option Row) (s : Nat) (n : Nat) (x : AV) => @id (cvW g F (.own s n : AV) x = cvV g F (.own s n : AV) x) rfl))
 (aI
 (fun (g : bJ) (F : Nat → Option Row) (s : Nat) (o : Nat) => @id (cv1 g F (.ptr s o : AV) .top = True) rfl)
 (fun (g : bJ) (F : Nat → Option Row) (s : Nat) (o : Nat) (x : AV) => @id (cvV g F (.ptr s o : AV) x = cv1 g F (.ptr s o : AV) x) rfl))))
 (aI
 (aI
 (aI
 (fun (g : bJ) (F : Nat → Option Row) (s : Nat) (o : Nat) (x : AV) => @id (cvW g F (.ptr s o : AV) x = cvV g F (.ptr s o : AV) x) rfl)
 (fun (g : bJ) (F : Nat → Option Row) (cs : List AV) => @id (cv1 g F (.eptr cs : AV) .top = True) rfl))
 (aI
 (fun (g : bJ) (F : Nat → Option Row) (cs : List AV) (x : AV) => @id (cvV g F (.eptr cs : AV) x = cv1 g F (.eptr cs : AV) x) rfl)
 (fun (g : bJ) (F : Nat → Option Row) (cs : List AV) (x : AV) => @id (cvW g F (.eptr cs : AV) x = cvV g F (.eptr cs : AV) x) rfl)))
 (aI
 (aI
 (fun (g : bJ) (F : Nat → Option Row) (fi : FuncId) (ps : List Nat) => @id (cv1 g F (.fn fi ps : AV) .top = True) rfl)
 (fun (g : bJ) (F : Nat → Option Row) (fi : FuncId) (ps : List Nat) (x : AV) => @id (cvV g F (.fn fi ps : AV) x = cv1 g F (.fn fi ps : AV) x) rfl))
 (aI
 (fun (g : bJ) (F : Nat → Option Row) (fi : FuncId) (ps : List Nat) (x : AV) => @id (cvW g F (.fn fi ps : AV) x = cvV g F (.fn fi ps : AV) x) rfl)
 (fun (g : bJ) (F : Nat → Option Row)  => @id (cv1 g F .top .top = True) rfl))))))
 (aI
 (aI
 (aI
 (aI
 (aI
 (fun (g : bJ) (F : Nat → Option Row)  (x : AV) => @id (cvV g F (.top : AV) x = cv1 g F (.top : AV) x) rfl)
 (fun (g : bJ) (F : Nat → Option Row)  (x : AV) => @id (cvW g F (.top : AV) x = cvV g F (.top : AV) x) rfl))
 (aI
 (fun (g : bJ) (F : Nat → Option Row) (cs cs2 : List AV) => @id (cvV g F (.agg cs) (.agg cs2) = cvL g F cs cs2) rfl)
 (fun (g : bJ) (F : Nat → Option Row) (cs : List AV) => @id (cvV g F (.agg cs) .top = True) rfl)))
 (aI
 (aI
 (fun (g : bJ) (F : Nat → Option Row) (cs cs2 : List AV) => @id (cvW g F (.tup cs) (.tup cs2) = cvT g F cs cs2) rfl)
 (fun (g : bJ) (F : Nat → Option Row) (cs : List AV) => @id (cvW g F (.tup cs) .top = True) rfl))
 (aI
 @cvT.eq_1
 @cvT.eq_2)))
 (aI
 (aI
 (aI
 @ot.eq_1
 @ot.eq_2)
 (aI
 (fun (g : bJ) (F : Nat → Option Row) (s n s2 n2 : Nat) => @id (cv1 g F (.own s n) (.own s2 n2) = (g s2 = some (some s) ∧ n = n2)) rfl)
 (fun (g : bJ) (F : Nat → Option Row) (s2 n2 : Nat) => @id (cv1 g F .nil (.own s2 n2) = (g s2 = some none ∧ n2 = 0)) rfl)))
 (aI
 (aI
 (fun (g : bJ) (F : Nat → Option Row) (s n s2 n2 : Nat) => @id (cv1 g F (.ptr s n) (.ptr s2 n2) = (g s2 = some (some s) ∧ n = n2)) rfl)
 (fun (g : bJ) (F : Nat → Option Row) (cs cs2 : List AV) (n n2 : Nat) => @id (cv1 g F (.sl cs n) (.sl cs2 n2) = (cs = cs2 ∧ n = n2)) rfl))
 (aI
 (fun (g : bJ) (F : Nat → Option Row) (cs2 : List AV) (n2 : Nat) => @id (cv1 g F .nil (.sl cs2 n2) = (cs2 = [] ∧ n2 = 0)) rfl)
 (fun (g : bJ) (F : Nat → Option Row) (cs2 : List AV) (s n n2 : Nat) => @id (cv1 g F (.own s n) (.sl cs2 n2) = (fz1 F (F s) cs2 ∧ n = n2)) rfl)))))
 (aI
 (aI
 (aI
 (aI
 (fun (g : bJ) (F : Nat → Option Row) (k k2 : IntKind) (n n2 : Int) => @id (cv1 g F (.int k n) (.int k2 n2) = (k = k2 ∧ n = n2)) rfl)
 (fun (g : bJ) (F : Nat → Option Row) (b b2 : Bool) => @id (cv1 g F (.bool b) (.bool b2) = (b = b2)) rfl))
 (aI
 (fun (g : bJ) (F : Nat → Option Row) (b b2 : ByteArray) => @id (cv1 g F (.str b) (.str b2) = (b = b2)) rfl)
 (fun (g : bJ) (F : Nat → Option Row)  => @id (cv1 g F .nil .nil = True) rfl)))
 (aI
 (aI
 (fun (g : bJ) (F : Nat → Option Row) (cs cs2 : List AV) => @id (cv1 g F (.eptr cs) (.eptr cs2) = (cs = cs2)) rfl)
 (fun (g : bJ) (F : Nat → Option Row) (f f2 : FuncId) (ps ps2 : List Nat) => @id (cv1 g F (.fn f ps) (.fn f2 ps2) = (f = f2 ∧ cvP g ps ps2)) rfl))
 (aI
 @cvP.eq_1
 @cvP.eq_2)))
 (aI
 (aI
 (aI
 @cvL.eq_1
 @cvL.eq_2)
 (aI
 @cvR.eq_1
 @cvR.eq_2))
 (aI
 (aI
 @cvR.eq_3
 @cvR.eq_4)
 (aI
 @An.eq_1
 (aI
 @te.eq_1
 @leT.eq_1)))))))
 (aI
 (aI
 (aI
 (aI
 (aI
 (aI
 @leT.eq_2
 @leR.eq_1)
 (aI
 @leR.eq_2
 @lk.eq_1))
 (aI
 (aI
 @lk.eq_2
 @fz1.eq_1)
 (aI
 @fz1.eq_2
 @fzF.eq_1)))
 (aI
 (aI
 (aI
 (fun (g : bJ) (F : Nat → Option Row) (T : Nat) (cs : List AV) => @id (cvR g F (.box T cs) .gone = True) rfl)
 (fun (g : bJ) (F : Nat → Option Row) (E sz : Nat) (cs : List AV) => @id (cvR g F (.row E sz cs) .gone = True) rfl))
 (aI
 (fun (g : bJ) (F : Nat → Option Row) (E sz : Nat) (cs : List AV) => @id (cvR g F (.tab E sz cs) .gone = True) rfl)
 (fun (g : bJ) (F : Nat → Option Row)  => @id (cvR g F .gone .gone = True) rfl)))
 (aI
 (aI
 (fun (g : bJ) (F : Nat → Option Row)  => @id (An g F none .gone = True) rfl)
 (fun (g : bJ) (F : Nat → Option Row) (R : Nat → Option Row) (E sz : Nat) (cs : List AV) => @id (te g F R (some none) (.row E sz cs) = (cs = [])) rfl))
 (aI
 (fun (g : bJ) (F : Nat → Option Row) (R : Nat → Option Row) (E sz : Nat) (cs : List AV) => @id (te g F R (some none) (.tab E sz cs) = (cs = [])) rfl)
 (fun (g : bJ) (F : Nat → Option Row) (R : Nat → Option Row) => @id (te g F R none .gone = True) rfl)))))
 (aI
 (aI
 (aI
 (aI
 (fun (k : IntKind) (n : Int) => @id (fr1 (.int k n : AV) = True) rfl)
 (fun (k : IntKind) (n : Int) => @id (fr2 (.int k n : AV) = fr1 (.int k n : AV)) rfl))
 (aI
 (fun (k : IntKind) (n : Int) => @id (fr3 (.int k n : AV) = fr2 (.int k n : AV)) rfl)
 (fun (b : Bool) => @id (fr1 (.bool b : AV) = True) rfl)))
 (aI
 (aI
 (fun (b : Bool) => @id (fr2 (.bool b : AV) = fr1 (.bool b : AV)) rfl)
 (fun (b : Bool) => @id (fr3 (.bool b : AV) = fr2 (.bool b : AV)) rfl))
 (aI
 (fun (s : ByteArray) => @id (fr1 (.str s : AV) = True) rfl)
 (fun (s : ByteArray) => @id (fr2 (.str s : AV) = fr1 (.str s : AV)) rfl))))
 (aI
 (aI
 (aI
 (fun (s : ByteArray) => @id (fr3 (.str s : AV) = fr2 (.str s : AV)) rfl)
 (fun (cs : List AV) => @id (fr1 (.agg cs : AV) = False) rfl))
 (aI
 (fun (cs : List AV) => @id (fr2 (.agg cs : AV) = frL fr1 cs) rfl)
 (fun (cs : List AV) => @id (fr3 (.agg cs : AV) = fr2 (.agg cs : AV)) rfl)))
 (aI
 (aI
 (fun (cs : List AV) => @id (fr1 (.tup cs : AV) = False) rfl)
 (fun (cs : List AV) => @id (fr2 (.tup cs : AV) = fr1 (.tup cs : AV)) rfl))
 (aI
 (fun (cs : List AV) => @id (fr3 (.tup cs : AV) = frL fr2 cs) rfl)
 (aI
 (@id (fr1 (.nil : AV) = True) rfl)
 (@id (fr2 (.nil : AV) = fr1 (.nil : AV)) rfl)))))))
 (aI
 (aI
 (aI
 (aI
 (aI
 (@id (fr3 (.nil : AV) = fr2 (.nil : AV)) rfl)
 (fun (cs : List AV) (n : Nat) => @id (fr1 (.sl cs n : AV) = False) rfl))
 (aI
 (fun (cs : List AV) (n : Nat) => @id (fr2 (.sl cs n : AV) = fr1 (.sl cs n : AV)) rfl)
 (fun (cs : List AV) (n : Nat) => @id (fr3 (.sl cs n : AV) = fr2 (.sl cs n : AV)) rfl)))
 (aI
 (aI
 (fun (s : Nat) (n : Nat) => @id (fr1 (.own s n : AV) = True) rfl)
 (fun (s : Nat) (n : Nat) => @id (fr2 (.own s n : AV) = fr1 (.own s n : AV)) rfl))
 (aI
 (fun (s : Nat) (n : Nat) => @id (fr3 (.own s n : AV) = fr2 (.own s n : AV)) rfl)
 (fun (s : Nat) (o : Nat) => @id (fr1 (.ptr s o : AV) = True) rfl))))
 (aI
 (aI
 (aI
 (fun (s : Nat) (o : Nat) => @id (fr2 (.ptr s o : AV) = fr1 (.ptr s o : AV)) rfl)
 (fun (s : Nat) (o : Nat) => @id (fr3 (.ptr s o : AV) = fr2 (.ptr s o : AV)) rfl))
 (aI
 (fun (cs : List AV) => @id (fr1 (.eptr cs : AV) = False) rfl)
 (fun (cs : List AV) => @id (fr2 (.eptr cs : AV) = fr1 (.eptr cs : AV)) rfl)))
 (aI
 (aI
 (fun (cs : List AV) => @id (fr3 (.eptr cs : AV) = fr2 (.eptr cs : AV)) rfl)
 (fun (fi : FuncId) (ps : List Nat) => @id (fr1 (.fn fi ps : AV) = False) rfl))
 (aI
 (fun (fi : FuncId) (ps : List Nat) => @id (fr2 (.fn fi ps : AV) = fr1 (.fn fi ps : AV)) rfl)
 (fun (fi : FuncId) (ps : List Nat) => @id (fr3 (.fn fi ps : AV) = fr2 (.fn fi ps : AV)) rfl)))))
 (aI
 (aI
 (aI
 (aI
 (@id (fr1 (.top : AV) = True) rfl)
 (@id (fr2 (.top : AV) = fr1 (.top : AV)) rfl))
 (aI
 (@id (fr3 (.top : AV) = fr2 (.top : AV)) rfl)
 @frL.eq_1))
 (aI
 (aI
 @frL.eq_2
 @frR.eq_1)
 (aI
 @frR.eq_2
 @frR.eq_3)))
 (aI
 (aI
 (aI
 @frR.eq_4
 @vi.eq_1)
 (aI
 @vi.eq_2
 (fun (s : Nat) => @id (gid s = some (some s)) rfl)))
 (aI
 (aI
 (fun (s : Nat) => @id (fno s = none) rfl)
 @cvA.eq_1)
 (aI
 @cvA.eq_2
 (aI
 @sX.eq_1
 @sX.eq_2))))))))
abbrev Tbl := List (Nat × List Nat)
def bK : Tbl → Nat → List Nat
 | [], _ => []
 | (k, l) :: t, j => if j = k then l else bK t j
def ri : Op → Bool
 | .load _ _ => true
 | _ => false
def inT : AV → List Nat → Prop
 | .ptr s _, l => l.contains s = true
 | .eptr _, _ => True
 | _, _ => False
def oe (l : List Nat) (st : St) : Op → Prop
 | .load _ x => l.isEmpty = true ∨ inT (st.ev x) l
 | _ => True
def qV (l : List Nat) (st st' : St) : Prop := l.isEmpty = true ∨ ∀ s, l.contains s = false → st'.rows s = st.rows s
def flg : List Nat → Bool
 | [] => false
 | k :: _ => k == 8888888
def inO (l : List Nat) : AV → Prop
 | .own s _ => l.contains s = true
 | _ => True
def xw (l : List Nat) : List AV → Prop
 | [] => True
 | v :: vs => inO l v ∧ xw l vs
def mK (l : List Nat) (site : Nat) (st : St) : Op → Prop
 | .load _ x => inT (st.ev x) l
 | .alloc _ => l.contains site = true
 | .box _ _ => l.contains site = true
 | .buildSlice _ _ _ => l.contains site = true
 | .makeSlice _ _ _ => l.contains site = true
 | .store _ x _ => inT (st.ev x) l
 | .call c => match c.callee with
  | .builtin .append => l.contains site = true ∧ xw l (evL st c.args.toList)
  | _ => False
 | _ => False
def ul (l : List Nat) (site : Nat) (st : St) (op : Op) : Prop := flg l = false ∨ mK l.tail site st op
def qj (BR : Nat → Bool) (l : List Nat) (site : Nat) (o : Oper) (st st' : St) : Prop := oe l st o.op ∧ (3 ≤ cls BR o.op → qV l st st') ∧ ul l site st o.op
def flk : List Nat → Bool
 | [] => false
 | k :: _ => k == 7777777
def cu (l : List Nat) (R R2 : Nat → Option Row) : Nat → Option Row := fun s => match l.contains s with | true => R s | false => R2 s
def xy (P : Program) (BR : Nat → Bool) (ops : Array Oper) (l : List Nat) (site : Nat) (o : Oper) (st st' : St) (v : AV) : Prop :=
 st' = (({ st with rows := st'.rows } : St).put o.dst v) ∧ (∀ s, l.contains s = false → st'.rows s = st.rows s) ∧
  ∀ st2 : St, (∀ t ∈ o.looksAt ops, st2.tmps t = st.tmps t) → (∀ s, l.contains s = true → st2.rows s = st.rows s) → Gst P BR ops site o st2 (({ st2 with rows := cu l st'.rows st2.rows } : St).put o.dst v)
def qW (tbl : Tbl) (P : Program) (BR : Nat → Bool) (ops : Array Oper) (k site : Nat) (o : Oper) (st st' : St) : Prop := Gst P BR ops site o st st' ∧ qj BR (bK tbl k) site o st st' ∧ (flk (bK tbl k) = true → ∃ v, xy P BR ops (bK tbl k).tail site o st st' v)
def Av (tbl : Tbl) (kx ky : Nat) (x y : Oper) : Bool :=
 x.guard.isNone && (y.guard.isNone && (flg (bK tbl kx) && (flg (bK tbl ky) && (bK tbl kx).tail.all fun s => !(bK tbl ky).tail.contains s)))
def ED (tbl : Tbl) (BR : Nat → Bool) (kx ky : Nat) (x y : Oper) : Bool :=
 x.guard.isNone && ri x.op && decide (3 ≤ cls BR y.op) && !(bK tbl kx).isEmpty && !(bK tbl ky).isEmpty && (bK tbl kx).all (fun s => !(bK tbl ky).contains s)
def um (tbl : Tbl) (BR : Nat → Bool) (k : Nat) (x : Oper) : Bool := flk (bK tbl k) || (match flg (bK tbl k) with | true => x.guard.isNone | false => cls BR x.op == 0)
def mc (tbl : Tbl) (k : Nat) : List Nat := match flk (bK tbl k) || flg (bK tbl k) with | true => (bK tbl k).tail | false => []
def Aw (tbl : Tbl) (BR : Nat → Bool) (kx ky : Nat) (x y : Oper) : Bool := um tbl BR kx x && (um tbl BR ky y && (mc tbl kx).all fun s => !(mc tbl ky).contains s)
def pN (tbl : Tbl) (BR : Nat → Bool) (ops : Array Oper) (kx ky : Nat) (x y : Oper) : Bool := match flk (bK tbl kx) || flk (bK tbl ky) with
 | true => x.apart ops y && Aw tbl BR kx ky x y
 | false => nG BR ops x y || (x.apart ops y && (Av tbl kx ky x y || (ED tbl BR kx ky x y || ED tbl BR ky kx y x)))
section
variable {P : Program} {BR : Nat → Bool} {ops : Array Oper} {tbl : Tbl}
theorem nM {kx ky : Nat} {x y : Oper} (h : pN tbl BR ops kx ky x y = true) : x.apart ops y = true := by
 unfold pN nG at h
 split at h
 ·exact (Bool.and_eq_true_iff.1 h).1
 simp only [Bool.or_eq_true, Bool.and_eq_true] at h
 rcases h with h | h
 ·exact h.1
 ·exact h.1
theorem no {o : Op} (h : ri o = true) : cls BR o = 1 := by
 cases o <;> first | (cases h; done) | rfl
theorem Ax {l : List Nat} {o : Op} {st : St} (h : 3 ≤ cls BR o) : oe l st o := by
 by_cases hl : ri o = true
 ·rw [no hl] at h; omega
 ·cases o <;> first | trivial | exact absurd rfl hl
theorem un {site : Nat} {o : Oper} {st st' : St} (hg : o.guard.isNone = true) (hl : ri o.op = true) (h : Gst P BR ops site o st st') :
  ∃ T p sz ag v, o.op = .load T p ∧ szA P T = some (sz, ag) ∧ kg ag sz st.rows (st.ev p) = some v ∧ st' = st.put o.dst v := by
 have hg' : o.guard = none := by simpa using hg
 unfold Gst at h
 simp only [hg'] at h
 unfold Stp at h
 simp only [no hl] at h
 obtain ⟨v, nw, h1, h2, rfl⟩ := h
 obtain ⟨T, p, hop⟩ : ∃ T p, o.op = .load T p := by
  cases ho : o.op <;> rw [ho] at hl <;> first | (cases hl; done) | exact ⟨_, _, rfl⟩
 rw [hop] at h1
 simp only [aMk] at h1
 split at h1
 ·rename_i sz ag hs
  split at h1
  ·rename_i v' hv
   simp only [Option.some.injEq, Prod.mk.injEq] at h1
   obtain ⟨rfl, rfl⟩ := h1
   exact ⟨T, p, sz, ag, v', hop, hs, hv, rfl⟩
  ·cases h1
 ·cases h1
theorem qk {site : Nat} {o : Oper} {st : St} {T : TypeId} {p : Operand} {sz : Nat} {ag : Bool} {v : AV} (hg : o.guard.isNone = true) (hop : o.op = .load T p) (hs : szA P T = some (sz, ag)) (hv : kg ag sz st.rows (st.ev p) = some v) :
  Gst P BR ops site o st (st.put o.dst v) := by
 have hg' : o.guard = none := by simpa using hg
 unfold Gst
 simp only [hg']
 unfold Stp
 have : cls BR o.op = 1 := by rw [hop]; rfl
 simp only [this]
 exact ⟨v, none, by rw [hop]; simp only [aMk, hs, hv], (fun h => by cases h), rfl⟩
theorem np {ag : Bool} {sz : Nat} {R R' : Nat → Option Row} {a : AV} {l : List Nat} (h : inT a l) (hr : ∀ s, l.contains s = true → R' s = R s) : kg ag sz R' a = kg ag sz R a := by
 unfold inT at h
 split at h
 ·simp only [kg, hr _ h]
 ·rfl
 ·exact h.elim
theorem m8 {o : Oper} {st st2 : St} (h : ∀ t ∈ o.looksAt ops, st2.tmps t = st.tmps t) {T : TypeId} {p : Operand} (hop : o.op = .load T p) : st2.ev p = st.ev p :=
 (St.ev_of (ops := ops) h p (by rw [hop]; simp [Op.operands])).symm
theorem jU {l : List Nat} {o : Oper} {st st2 : St} (h : ∀ t ∈ o.looksAt ops, st2.tmps t = st.tmps t) (hl : oe l st o.op) : oe l st2 o.op := by
 cases hop : o.op <;> first | trivial | skip
 rw [hop] at hl
 simp only [oe] at hl ⊢
 rw [m8 h hop]; exact hl
theorem jV {l : List Nat} {R R2 : Nat → Option Row} (h : ∀ s, l.contains s = true → R2 s = R s) : cu l R R2 = R2 := by
 funext s
 unfold cu
 split
 ·rename_i hs; exact (h s hs).symm
 ·rfl
theorem k9 {l : List Nat} {R R2 : Nat → Option Row} {k : Nat} {v : Option Row} (h : l.contains k = true) : cu l (upd R k v) R2 = upd (cu l R R2) k v := by
 funext s
 by_cases e : s = k
 ·subst e
  rw [ai]
  unfold cu
  rw [h, ai]
 ·rw [au _ _ e]
  unfold cu
  split
  ·rw [au _ _ e]
  ·rfl
theorem t9 {o : Oper} {st st2 : St} (he : ∀ x ∈ o.op.operands, st.ev x = st2.ev x) : ∀ (l : List Operand), (∀ x ∈ l, x ∈ o.op.operands) → evL st2 l = evL st l
 | [], _ => rfl
 | x :: l, h => by
  simp only [evL]
  rw [t9 he l (fun y hy => h y (by simp [hy])), he x (h x (by simp))]
theorem iD {l : List Nat} {site : Nat} {o : Oper} {st st2 : St} (h : ∀ t ∈ o.looksAt ops, st2.tmps t = st.tmps t) (hl : ul l site st o.op) : ul l site st2 o.op := by
 have he := St.ev_of (st := st) (st2 := st2) h
 rcases hl with hl | hl
 ·exact .inl hl
 refine .inr ?_
 cases hop : o.op <;> rw [hop] at hl he <;> simp only [mK] at hl ⊢ <;> first | exact hl | skip
 ·rw [← he _ (by simp [Op.operands])]; exact hl
 ·rw [← he _ (by simp [Op.operands])]; exact hl
 ·rename_i c
  split at hl
  ·refine ⟨hl.1, ?_⟩
   rw [t9 (o := o) (st := st) (st2 := st2) (by rw [hop]; exact he) _ (fun x hx => iB hop x hx)]
   exact hl.2
  ·exact hl.elim
theorem vk {sz : Nat} {R R2 : Nat → Option Row} {l : List Nat} {a : AV} (h : inO l a) (hr : ∀ s, l.contains s = true → R2 s = R s) : tY sz R2 a = tY sz R a := by
 cases a <;> first | rfl | skip
 rename_i s m
 simp only [tY, hr s h]
theorem oV {site : Nat} {st st2 : St} {op : Op} {l : List Nat} {v : AV} {rows' : Nat → Option Row} (hc : 3 ≤ cls BR op) (h : aWr P site st.ev st.rows op = some (v, rows')) (hev : ∀ x ∈ op.operands, st.ev x = st2.ev x) (ho : mK l site st op)
  (hr : ∀ s, l.contains s = true → st2.rows s = st.rows s) : (∀ s, l.contains s = false → rows' s = st.rows s) ∧ aWr P site st2.ev st2.rows op = some (v, cu l rows' st2.rows) ∧ (∀ s n, v = .own s n → l.contains s = true) := by
 cases op <;> simp only [aWr] at h <;> first | (cases h; done) | skip
 case store t x y =>
  simp only [mK] at ho
  simp only [aWr]
  rw [← hev x (by simp [Op.operands]), ← hev y (by simp [Op.operands])]
  split at h
  ·rename_i sz ag s off ht hx
   rw [hx] at ho
   have hs : l.contains s = true := ho
   have key : ∀ (r : Row), (∀ k, l.contains k = false → upd st.rows s (some r) k = st.rows k) ∧ upd st2.rows s (some r) = cu l (upd st.rows s (some r)) st2.rows := fun r =>
    ⟨fun k hk => au _ _ (fun e => by rw [e, hs] at hk; cases hk), by rw [k9 hs, jV hr]⟩
   try simp only [ht, hx, hr s hs]
   split at h
   ·rename_i T cs hrow
    split at h
    ·rename_i hcond
     simp only [Option.some.injEq, Prod.mk.injEq] at h
     obtain ⟨rfl, rfl⟩ := h
     try simp only [hrow]
     rw [if_pos hcond, ← (key _).2]
     exact ⟨(key _).1, rfl, fun s n h => by cases h⟩
    ·cases h
   ·rename_i T z cs hrow
    split at h
    ·rename_i hcond
     simp only [Option.some.injEq, Prod.mk.injEq] at h
     obtain ⟨rfl, rfl⟩ := h
     try simp only [hrow]
     rw [if_pos hcond, ← (key _).2]
     exact ⟨(key _).1, rfl, fun s n h => by cases h⟩
    ·cases h
   ·rename_i T z cs hrow
    split at h
    ·rename_i hcond
     simp only [Option.some.injEq, Prod.mk.injEq] at h
     obtain ⟨rfl, rfl⟩ := h
     try simp only [hrow]
     rw [if_pos hcond, ← (key _).2]
     exact ⟨(key _).1, rfl, fun s n h => by cases h⟩
    ·cases h
   ·cases h
  ·cases h
 case call c =>
  simp only [mK] at ho
  simp only [aWr]
  split at h
  ·rename_i s x t t' hcal hargs htys
   rw [hcal] at ho
   simp only [hargs, evL, xw, and_true] at ho
   obtain ⟨hsite, h1, h2⟩ := ho
   have es : st2.ev s = st.ev s := (hev s (iB (o := ⟨none, .call c, 0, "", #[], none⟩) rfl s (by rw [hargs]; simp))).symm
   have ex : st2.ev x = st.ev x := (hev x (iB (o := ⟨none, .call c, 0, "", #[], none⟩) rfl x (by rw [hargs]; simp))).symm
   try simp only [hcal, hargs, htys]
   split at h
   ·rename_i htt
    rw [if_pos htt]
    split at h
    ·rename_i e sz he
     try simp only [he, ex, es]
     rw [vk h2 hr]
     split at h
     ·rename_i z ys m hz hsrc
      try simp only [hz, hsrc]
      split at h
      ·rename_i hcond
       rw [if_pos hcond]
       split at h
       ·rename_i hev0
        split at h
        ·rename_i hm
         simp only [Option.some.injEq, Prod.mk.injEq] at h
         obtain ⟨rfl, rfl⟩ := h
         try simp only [hev0]
         rw [if_pos ⟨hm.1, by rw [hr site hsite]; exact hm.2⟩, k9 hsite, jV hr]
         exact ⟨fun k hk => au _ _ (fun e => by rw [e, hsite] at hk; cases hk), rfl, fun s n h => by injection h with h _; subst h; exact hsite⟩
        ·cases h
       ·rename_i k n hev0
        rw [hev0] at h1
        have hk : l.contains k = true := h1
        split at h
        ·rename_i e' z' cs hrow
         split at h
         ·rename_i hm
          simp only [Option.some.injEq, Prod.mk.injEq] at h
          obtain ⟨rfl, rfl⟩ := h
          try simp only [hev0, hr k hk, hrow]
          rw [if_pos ⟨hm.1, hm.2.1, hm.2.2.1, by rw [hr site hsite]; exact hm.2.2.2⟩, k9 hsite, k9 hk, jV hr]
          refine ⟨fun j hj => ?_, rfl, fun s n h => by injection h with h _; subst h; exact hsite⟩
          rw [au _ _ (fun e => by rw [e, hsite] at hj; cases hj), au _ _ (fun e => by rw [e, hk] at hj; cases hj)]
         ·cases h
        ·cases h
       ·cases h
      ·cases h
     ·rename_i z hz hsrc
      try simp only [hz, hsrc]
      split at h
      ·rename_i hcond
       rw [if_pos hcond]
       obtain ⟨k, n, j, m, cs, ys, ea, eb, hk, hj, hnm, hsite', rfl, rfl⟩ := rb h
       rw [ea] at h1
       rw [eb] at h2
       have hkl : l.contains k = true := h1
       have hjl : l.contains j = true := h2
       rw [ea, eb]
       simp only [pF, hr k hkl, hr j hjl, hk, hj, AQ]
       rw [if_pos ⟨⟨trivial, trivial⟩, ⟨trivial, trivial⟩, hnm, by rw [hr site hsite]; exact hsite'⟩, k9 hsite, k9 hkl, jV hr]
       refine ⟨fun j hj => ?_, rfl, fun s n h => by injection h with h _; subst h; exact hsite⟩
       rw [au _ _ (fun e => by rw [e, hsite] at hj; cases hj), au _ _ (fun e => by rw [e, hkl] at hj; cases hj)]
      ·cases h
     ·cases h
    ·cases h
   ·cases h
  ·cases h
theorem IS {site : Nat} {o : Oper} {st st' : St} {l : List Nat} (hg : o.guard.isNone = true) (h : Gst P BR ops site o st st') (ho : mK l site st o.op) :
  ∃ v, st' = (({ st with rows := st'.rows } : St).put o.dst v) ∧ (∀ s, l.contains s = false → st'.rows s = st.rows s) ∧
   ∀ st2 : St, (∀ t ∈ o.looksAt ops, st2.tmps t = st.tmps t) → (∀ s, l.contains s = true → st2.rows s = st.rows s) → Gst P BR ops site o st2 (({ st2 with rows := cu l st'.rows st2.rows } : St).put o.dst v) := by
 have hg' : o.guard = none := by simpa using hg
 unfold Gst at h
 simp only [hg'] at h
 unfold Stp at h
 split at h
 ·rename_i hc
  exfalso
  cases hop : o.op <;> rw [hop] at hc ho <;> first | exact ho | (simp only [cls] at hc; omega) | skip
  rename_i c
  simp only [mK] at ho
  split at ho
  ·rename_i hcal
   simp only [cls, hcal] at hc
   omega
  ·exact ho
 ·rename_i hc
  obtain ⟨v, nw, h1, h2, rfl⟩ := h
  have mk : ∀ st2 : St, (∀ t ∈ o.looksAt ops, st2.tmps t = st.tmps t) → (nw.isSome = true → st2.rows site = none) → aMk P (FZ BR site) site st2.ev st2.rows o.op = some (v, nw) → Gst P BR ops site o st2 ((st2.add site nw.toList).put o.dst v) := fun st2 _ hs hm => by
   unfold Gst
   simp only [hg']
   unfold Stp
   simp only [hc]
   exact ⟨v, nw, hm, hs, rfl⟩
  refine ⟨v, by simp only [St.put_rows, St.add], ?_⟩
  simp only [St.put_rows]
  cases hop : o.op <;> rw [hop] at h1 ho <;> first | exact ho.elim | (simp only [aMk] at h1; cases h1; done) | skip
  case load T p =>
   simp only [aMk] at h1
   split at h1
   ·rename_i sz ag hsz
    split at h1
    ·rename_i v' hl
     simp only [Option.some.injEq, Prod.mk.injEq] at h1
     obtain ⟨rfl, rfl⟩ := h1
     refine ⟨fun s _ => rfl, fun st2 ht hr => ?_⟩
     have em : cu l ((st.add site (none : Option Row).toList).rows) st2.rows = st2.rows := jV hr
     rw [em]
     refine mk st2 ht (fun h => by cases h) ?_
     rw [hop]
     simp only [aMk, hsz]
     rw [m8 ht hop, np ho hr, hl]
    ·cases h1
   ·cases h1
  all_goals
   have hs : l.contains site = true := ho
   cases nw with
   | none =>
    refine ⟨fun s _ => rfl, fun st2 ht hr => ?_⟩
    have em : cu l ((st.add site (none : Option Row).toList).rows) st2.rows = st2.rows := jV hr
    rw [em]
    refine mk st2 ht (fun h => by cases h) ?_
    have hfr := oR (P := P) (fz := FZ BR site) (site := site) (rows := st.rows) (rows' := st.rows) (St.ev_of (ops := ops) (st := st) (st2 := st2) ht) (fun _ _ _ _ _ h => h) (by rw [hop]; exact h1)
    rw [hop] at hfr ⊢
    exact hfr
   | some r =>
    have er : (st.add site (some r).toList).rows = upd st.rows site (some r) := rfl
    refine ⟨fun s hsf => ?_, fun st2 ht hr => ?_⟩
    ·rw [er, au _ _ (fun e => by rw [e, hs] at hsf; cases hsf)]
    ·rw [er, k9 hs, jV hr]
     refine mk st2 ht (fun _ => by rw [hr site hs]; exact h2 rfl) ?_
     have hfr := oR (P := P) (fz := FZ BR site) (site := site) (rows := st.rows) (rows' := st.rows) (St.ev_of (ops := ops) (st := st) (st2 := st2) ht) (fun _ _ _ _ _ h => h) (by rw [hop]; exact h1)
     rw [hop] at hfr ⊢
     exact hfr
 ·rename_i hc
  exfalso
  obtain ⟨c, f, _, _, _, _, hop, hcal, _⟩ := h
  rw [hop] at ho
  rcases hcal with ⟨hcal, _⟩ | ⟨_, _, hcal, _⟩ <;> simp only [mK, hcal] at ho
 ·rename_i hc
  obtain ⟨v, rows', h1, rfl⟩ := h
  have fin : ∀ (st2 : St), pG (aWr P site st2.ev st2.rows o.op) (FZ BR site) = some (v, cu l rows' st2.rows) → Gst P BR ops site o st2 (({ st2 with rows := cu l rows' st2.rows } : St).put o.dst v) := fun st2 hm => by
   unfold Gst
   simp only [hg']
   unfold Stp
   simp only [hc]
   exact ⟨v, _, hm, rfl⟩
  refine ⟨v, by simp only [St.put_rows], ?_⟩
  simp only [St.put_rows]
  cases hfz : FZ BR site with
  | false =>
   rw [hfz] at h1 fin
   simp only [pG] at h1 fin
   have base := oV (BR := BR) (st2 := st) (by omega) h1 (fun _ _ => rfl) ho (fun _ _ => rfl)
   refine ⟨base.1, fun st2 ht hr => fin st2 ?_⟩
   exact (oV (BR := BR) (st2 := st2) (by omega) h1 (St.ev_of (ops := ops) (st := st) (st2 := st2) ht) ho hr).2.1
  | true =>
   rw [hfz] at h1 fin
   obtain ⟨s, n, rows, E, sz, cs, g1, g2, rfl, rfl⟩ := tZ h1
   have base := oV (BR := BR) (st2 := st) (by omega) g1 (fun _ _ => rfl) ho (fun _ _ => rfl)
   have hs := base.2.2 s n rfl
   refine ⟨fun k hk => ?_, fun st2 ht hr => fin st2 ?_⟩
   ·rw [au _ _ (fun e => by rw [e, hs] at hk; cases hk)]; exact base.1 k hk
   ·have := (oV (BR := BR) (st2 := st2) (by omega) g1 (St.ev_of (ops := ops) (st := st) (st2 := st2) ht) ho hr).2.1
    rw [this, k9 hs]
    have em : cu l rows st2.rows s = some (.row E sz cs) := by unfold cu; rw [hs]; exact g2
    simp only [pG, Dr, Dq, em, Dp]
 ·rename_i hc
  exfalso
  obtain ⟨ι, nt, c, f, _, _, _, _, hop, hcal, _⟩ := h
  rw [hop] at ho
  rcases hcal with ⟨hcal, _⟩ | ⟨_, _, hcal, _⟩ <;> simp only [mK, hcal] at ho
 ·rename_i hc
  exfalso
  obtain ⟨ι, nt, c, f, _, _, _, _, hop, hcal, _⟩ := h
  rw [hop] at ho
  rcases hcal with ⟨hcal, _⟩ | ⟨_, _, hcal, _⟩ <;> simp only [mK, hcal] at ho
 ·exact h.elim
theorem KC {kx ky sx sy : Nat} {x y : Oper} {st s1 s2 : St} (hx : qW tbl P BR ops kx sx x st s1) (hy : qW tbl P BR ops ky sy y s1 s2) (hi : Av tbl ky kx y x = true) (hap : y.apart ops x = true) :
  ∃ s1', Gst P BR ops sy y st s1' ∧ qj BR (bK tbl ky) sy y st s1' ∧ Gst P BR ops sx x s1' s2 ∧ qj BR (bK tbl kx) sx x s1' s2 := by
 obtain ⟨a1, a2, a3⟩ := Oper.apart_spec hap
 obtain ⟨hx, ⟨px1, px2, px3⟩, _⟩ := hx
 obtain ⟨hy, ⟨py1, py2, py3⟩, _⟩ := hy
 unfold Av at hi
 simp only [Bool.and_eq_true] at hi
 obtain ⟨g1, g2, f1, f2, hd⟩ := hi
 have dis : ∀ s, (bK tbl ky).tail.contains s = true → (bK tbl kx).tail.contains s = false := fun s hs => by
  have := List.all_eq_true.1 hd s (by simpa using hs)
  simpa using this
 have ox : mK (bK tbl kx).tail sx st x.op := by
  rcases px3 with h | h
  ·rw [f2] at h; cases h
  ·exact h
 have yt : ∀ t ∈ y.looksAt ops, st.tmps t = s1.tmps t := fun t ht => (k6 hx t (fun e => a3 t e ht)).symm
 have oy1 : mK (bK tbl ky).tail sy s1 y.op := by
  rcases py3 with h | h
  ·rw [f1] at h; cases h
  ·exact h
 obtain ⟨v, e1, k1, F1⟩ := IS g2 hx ox
 obtain ⟨u, e2, k2, F2⟩ := IS g1 hy oy1
 have ny := F2 st yt (fun s hs => (k1 s (dis s hs)).symm)
 have xt : ∀ {s1' : St}, Gst P BR ops sy y st s1' → ∀ t ∈ x.looksAt ops, s1'.tmps t = st.tmps t := fun hg t ht => k6 hg t (fun e => a1 t e ht)
 have nx := F1 _ (xt ny) (fun s hs => by
   rw [St.put_rows]
   show cu (bK tbl ky).tail s2.rows st.rows s = st.rows s
   unfold cu
   split
   · rename_i hq
     have := dis s hq
     rw [hs] at this; cases this
   · rfl)
 have er : cu (bK tbl kx).tail s1.rows (({ st with rows := cu (bK tbl ky).tail s2.rows st.rows } : St).put y.dst u).rows = s2.rows := by
  rw [St.put_rows]
  funext s
  show cu (bK tbl kx).tail s1.rows (cu (bK tbl ky).tail s2.rows st.rows) s = s2.rows s
  unfold cu
  split
  ·rename_i hs
   refine (k2 s ?_).symm
   cases hq : (bK tbl ky).tail.contains s with
   | false => rfl
   | true => rw [dis s hq] at hs; cases hs
  ·rename_i hs
   split
   ·rfl
   ·rename_i hq
    rw [k2 s hq, k1 s hs]
 have e3 : s2 = ({ (({ st with rows := cu (bK tbl ky).tail s2.rows st.rows } : St).put y.dst u) with rows := s2.rows } : St).put x.dst v := by
  rw [dP]
  conv => lhs; rw [e2, e1]
  rw [dP, fY _ _ _ (fun d hd e => a2 d e hd)]
 rw [er] at nx
 rw [← e3] at nx
 refine ⟨_, ny, ⟨jU yt py1, fun hcy => ?_, iD yt py3⟩, nx, ⟨jU (xt ny) px1, fun hcx => ?_, iD (xt ny) px3⟩⟩
 ·have := py2 hcy
  rcases this with h | h
  ·exact .inl h
  ·refine .inr fun s hs => ?_
   rw [St.put_rows]
   show cu (bK tbl ky).tail s2.rows st.rows s = st.rows s
   unfold cu
   split
   ·rename_i hq
    exfalso
    have : (bK tbl ky).contains s = true := by
     have h1 : s ∈ (bK tbl ky).tail := by simpa using hq
     simpa using List.mem_of_mem_tail h1
    rw [hs] at this; cases this
   ·rfl
 ·have := px2 hcx
  rcases this with h | h
  ·exact .inl h
  ·refine .inr fun s hs => ?_
   rw [St.put_rows]
   show s2.rows s = cu (bK tbl ky).tail s2.rows st.rows s
   unfold cu
   split
   ·rfl
   ·rename_i hq
    rw [k2 s hq, h s hs]
theorem xy.move {l : List Nat} {site : Nat} {o : Oper} {st st' : St} {v : AV} (h : xy P BR ops l site o st st' v) {st2 : St} (ht : ∀ t ∈ o.looksAt ops, st2.tmps t = st.tmps t) (hr : ∀ s, l.contains s = true → st2.rows s = st.rows s) :
  xy P BR ops l site o st2 (({ st2 with rows := cu l st'.rows st2.rows } : St).put o.dst v) v := by
 refine ⟨by simp only [St.put_rows], fun s hs => ?_, fun st3 h3 hr3 => ?_⟩
 ·rw [St.put_rows]
  show cu l st'.rows st2.rows s = st2.rows s
  unfold cu; rw [hs]
 ·have := h.2.2 st3 (fun t hm => (h3 t hm).trans (ht t hm)) (fun s hs => (hr3 s hs).trans (hr s hs))
  have e : cu l (({ st2 with rows := cu l st'.rows st2.rows } : St).put o.dst v).rows st3.rows = cu l st'.rows st3.rows := by
   rw [St.put_rows]
   funext s
   show cu l (cu l st'.rows st2.rows) st3.rows s = cu l st'.rows st3.rows s
   unfold cu
   split
   ·rfl
   ·rfl
  rw [e]; exact this
theorem KD {k site : Nat} {o : Oper} {st st' : St} (h : qW tbl P BR ops k site o st st') (hf : um tbl BR k o = true) : ∃ v, xy P BR ops (mc tbl k) site o st st' v := by
 unfold um at hf
 unfold mc
 obtain ⟨h1, ⟨_, _, h3⟩, h4⟩ := h
 cases hk : flk (bK tbl k) with
 | true => exact h4 hk
 | false =>
  rw [hk, Bool.false_or] at hf
  rw [Bool.false_or]
  cases hg : flg (bK tbl k) with
  | true =>
   rw [hg] at hf
   have ho : mK (bK tbl k).tail site st o.op := by
    rcases h3 with h | h
    ·rw [hg] at h; cases h
    ·exact h
   exact IS hf h1 ho
  | false =>
   rw [hg] at hf
   obtain ⟨v, rfl, hm⟩ := h1.pure (by simpa using hf)
   have er : ∀ q : St, ({ q with rows := cu [] st.rows q.rows } : St) = q := fun q => by
    have : cu [] st.rows q.rows = q.rows := by funext s; unfold cu; simp
    rw [this]
   refine ⟨v, by simp only [St.put_rows], fun s _ => by rw [St.put_rows], fun st2 ht hr => ?_⟩
   rw [St.put_rows, er]
   exact hm st2 ht
theorem Ay {k : Nat} (h : flk (bK tbl k) = true) : mc tbl k = (bK tbl k).tail := by unfold mc; rw [h]; rfl
theorem tA {k : Nat} {o : Oper} {st st' : St} (hf : um tbl BR k o = true) (hc : 3 ≤ cls BR o.op) (h : ∀ s, (mc tbl k).contains s = false → st'.rows s = st.rows s) : qV (bK tbl k) st st' := by
 refine .inr fun s hs => h s ?_
 have ht : (bK tbl k).tail.contains s = false := by
  cases hq : (bK tbl k).tail.contains s with
  | false => rfl
  | true =>
   exfalso
   have : (bK tbl k).contains s = true := by
    have h1 : s ∈ (bK tbl k).tail := by simpa using hq
    simpa using List.mem_of_mem_tail h1
   rw [hs] at this; cases this
 unfold mc
 split
 ·exact ht
 ·rfl
theorem KE {kx ky sx sy : Nat} {x y : Oper} {st s1 s2 : St} (hx : qW tbl P BR ops kx sx x st s1) (hy : qW tbl P BR ops ky sy y s1 s2) (hi : Aw tbl BR ky kx y x = true) (hap : y.apart ops x = true) :
  ∃ s1', qW tbl P BR ops ky sy y st s1' ∧ qW tbl P BR ops kx sx x s1' s2 := by
 obtain ⟨a1, a2, a3⟩ := Oper.apart_spec hap
 unfold Aw at hi
 simp only [Bool.and_eq_true] at hi
 obtain ⟨f1, f2, hd⟩ := hi
 have dis : ∀ s, (mc tbl ky).contains s = true → (mc tbl kx).contains s = false := fun s hs => by
  have := List.all_eq_true.1 hd s (by simpa using hs)
  simpa using this
 obtain ⟨v, Fx⟩ := KD hx f2
 obtain ⟨u, Fy⟩ := KD hy f1
 obtain ⟨hx, ⟨px1, px2, px3⟩, pxk⟩ := hx
 obtain ⟨hy, ⟨py1, py2, py3⟩, pyk⟩ := hy
 have yt : ∀ t ∈ y.looksAt ops, st.tmps t = s1.tmps t := fun t ht => (k6 hx t (fun e => a3 t e ht)).symm
 have yr : ∀ s, (mc tbl ky).contains s = true → st.rows s = s1.rows s := fun s hs => (Fx.2.1 s (dis s hs)).symm
 have ny := Fy.2.2 st yt yr
 have my := Fy.move yt yr
 have xt : ∀ {s1' : St}, Gst P BR ops sy y st s1' → ∀ t ∈ x.looksAt ops, s1'.tmps t = st.tmps t := fun hg t ht => k6 hg t (fun e => a1 t e ht)
 have xr : ∀ s, (mc tbl kx).contains s = true → (({ st with rows := cu (mc tbl ky) s2.rows st.rows } : St).put y.dst u).rows s = st.rows s := fun s hs => by
  rw [St.put_rows]
  show cu (mc tbl ky) s2.rows st.rows s = st.rows s
  unfold cu
  split
  ·rename_i hq
   have := dis s hq
   rw [hs] at this; cases this
  ·rfl
 have nx := Fx.2.2 _ (xt ny) xr
 have mx := Fx.move (xt ny) xr
 have er : cu (mc tbl kx) s1.rows (({ st with rows := cu (mc tbl ky) s2.rows st.rows } : St).put y.dst u).rows = s2.rows := by
  rw [St.put_rows]
  funext s
  show cu (mc tbl kx) s1.rows (cu (mc tbl ky) s2.rows st.rows) s = s2.rows s
  unfold cu
  split
  ·rename_i hs
   refine (Fy.2.1 s ?_).symm
   cases hq : (mc tbl ky).contains s with
   | false => rfl
   | true => rw [dis s hq] at hs; cases hs
  ·rename_i hs
   split
   ·rfl
   ·rename_i hq
    rw [Fy.2.1 s hq, Fx.2.1 s hs]
 have e3 : s2 = ({ (({ st with rows := cu (mc tbl ky) s2.rows st.rows } : St).put y.dst u) with rows := s2.rows } : St).put x.dst v := by
  rw [dP]
  conv => lhs; rw [Fy.1, Fx.1]
  rw [dP, fY _ _ _ (fun d hd e => a2 d e hd)]
 rw [er] at nx mx
 rw [← e3] at nx mx
 refine ⟨_, ⟨ny, ⟨jU yt py1, fun hcy => tA f1 hcy my.2.1, iD yt py3⟩, fun hk => ⟨u, by rw [← Ay hk]; exact my⟩⟩,
   ⟨nx, ⟨jU (xt ny) px1, fun hcx => tA f2 hcx mx.2.1, iD (xt ny) px3⟩, fun hk => ⟨v, by rw [← Ay hk]; exact mx⟩⟩⟩
theorem KF {kx ky sx sy : Nat} {x y : Oper} {st s1 s2 : St} (hx : qW tbl P BR ops kx sx x st s1) (hy : qW tbl P BR ops ky sy y s1 s2) (hi : pN tbl BR ops ky kx y x = true) (hs : sx + 16 ≤ sy ∨ sy + 16 ≤ sx)
  (hlive : ∀ t ∈ y.looksAt ops, ∀ s, pK (st.tmps t) s → st.rows s ≠ none) : ∃ s1', qW tbl P BR ops ky sy y st s1' ∧ qW tbl P BR ops kx sx x s1' s2 := by
 obtain ⟨a1, a2, a3⟩ := Oper.apart_spec (nM hi)
 have hxT := hx
 have hyT := hy
 obtain ⟨hx, ⟨px1, px2, px3⟩, pxk⟩ := hx
 obtain ⟨hy, ⟨py1, py2, py3⟩, pyk⟩ := hy
 have yt : ∀ t ∈ y.looksAt ops, st.tmps t = s1.tmps t := fun t ht => (k6 hx t (fun e => a3 t e ht)).symm
 have py : oe (bK tbl ky) st y.op := jU yt py1
 have xt : ∀ {s1' : St}, Gst P BR ops sy y st s1' → ∀ t ∈ x.looksAt ops, s1'.tmps t = st.tmps t := fun hg t ht => k6 hg t (fun e => a1 t e ht)
 have py3' : ul (bK tbl ky) sy st y.op := iD yt py3
 have hap := nM hi
 unfold pN at hi
 split at hi
 ·exact KE hxT hyT (Bool.and_eq_true_iff.1 hi).2 hap
 rename_i hnk
 have nk1 : ¬ flk (bK tbl ky) = true := fun e => by rw [e] at hnk; cases hnk
 have nk2 : ¬ flk (bK tbl kx) = true := fun e => by rw [e, Bool.or_true] at hnk; cases hnk
 suffices H : ∃ s1', (Gst P BR ops sy y st s1' ∧ qj BR (bK tbl ky) sy y st s1') ∧ (Gst P BR ops sx x s1' s2 ∧ qj BR (bK tbl kx) sx x s1' s2) by
  obtain ⟨s1', ⟨h1, h2⟩, h3, h4⟩ := H
  exact ⟨s1', ⟨h1, h2, fun h => absurd h nk1⟩, ⟨h3, h4, fun h => absurd h nk2⟩⟩
 simp only [Bool.or_eq_true, Bool.and_eq_true] at hi
 rcases hi with hB | ⟨_, hT | hT | hT⟩
 ·obtain ⟨s1', g1, g2⟩ := K4 hx hy hB hs hlive
  have hc := hB
  unfold nG at hc
  simp only [Bool.or_eq_true, Bool.and_eq_true, beq_iff_eq, decide_eq_true_eq] at hc
  refine ⟨s1', ⟨g1, py, fun hcy => ?_, py3'⟩, ⟨g2, jU (xt g1) px1, fun hcx => ?_, iD (xt g1) px3⟩⟩
  ·have hx0 : cls BR x.op = 0 := by omega
   obtain ⟨v, rfl, _⟩ := hx.pure hx0
   obtain ⟨v', rfl, _⟩ := g2.pure hx0
   have := py2 hcy
   simp only [qV, St.put_rows] at this ⊢
   exact this
  ·have hy0 : cls BR y.op = 0 := by omega
   obtain ⟨v, rfl, _⟩ := hy.pure hy0
   obtain ⟨v', rfl, _⟩ := g1.pure hy0
   have := px2 hcx
   simp only [qV, St.put_rows] at this ⊢
   exact this
 ·obtain ⟨s1', h1, h2, h3, h4⟩ := KC hxT hyT hT hap
  exact ⟨s1', ⟨h1, h2⟩, h3, h4⟩
 ·-- y reads, x writes
  unfold ED at hT
  simp only [Bool.and_eq_true, Bool.not_eq_true', decide_eq_true_eq, List.all_eq_true] at hT
  obtain ⟨⟨⟨⟨⟨t1, t2⟩, t3⟩, t4⟩, t5⟩, t6⟩ := hT
  obtain ⟨T, p, sz, ag, u, hop, hsz, hu, rfl⟩ := un t1 t2 hy
  have ep : st.ev p = s1.ev p := m8 yt hop
  have hin : inT (st.ev p) (bK tbl ky) := by
   rw [hop] at py
   rcases py with h | h
   ·rw [h] at t4; cases t4
   ·exact h
  have hw : ∀ s, (bK tbl kx).contains s = false → s1.rows s = st.rows s := by
   rcases px2 t3 with h | h
   ·rw [h] at t5; cases t5
   ·exact h
  have hu' : kg ag sz st.rows (st.ev p) = some u := by
   rw [← hu, ← ep]
   refine (np hin fun s hs => (hw s ?_).symm)
   have := t6 s (by simpa using hs)
   simpa using this
  have g1 : Gst P BR ops sy y st (st.put y.dst u) := qk t1 hop hsz hu'
  obtain ⟨v2, rows2, e1, h2⟩ := hx.congr (st2 := st.put y.dst u) (fun t ht => by rw [St.put_tmps_ne _ _ _ _ (fun e => a1 t e ht)]) (by rw [St.put_rows])
  have e2 : s1.put y.dst u = ({ st.put y.dst u with rows := rows2 } : St).put x.dst v2 := by
   rw [e1, dP, fY _ _ _ (fun d hd e => a2 d e hd)]
  refine ⟨_, ⟨g1, py, fun hcy => ?_, py3'⟩, ⟨by rw [e2]; exact h2, Ax t3, fun _ => ?_, iD (xt g1) px3⟩⟩
  ·rw [no t2] at hcy; omega
  ·have := px2 t3
   simp only [qV, St.put_rows] at this ⊢
   exact this
 ·-- x reads, y writes
  unfold ED at hT
  simp only [Bool.and_eq_true, Bool.not_eq_true', decide_eq_true_eq, List.all_eq_true] at hT
  obtain ⟨⟨⟨⟨⟨t1, t2⟩, t3⟩, t4⟩, t5⟩, t6⟩ := hT
  obtain ⟨T, p, sz, ag, v, hop, hsz, hv, rfl⟩ := un t1 t2 hx
  have hin : inT (st.ev p) (bK tbl kx) := by
   rw [hop] at px1
   rcases px1 with h | h
   ·rw [h] at t4; cases t4
   ·exact h
  have hw : ∀ s, (bK tbl ky).contains s = false → s2.rows s = st.rows s := by
   rcases py2 t3 with h | h
   ·rw [h] at t5; cases t5
   ·simpa only [St.put_rows] using h
  obtain ⟨v2, rows2, e1, h2⟩ := hy.congr (st2 := st) (fun t ht => yt t ht) (by rw [St.put_rows])
  have er : s2.rows = rows2 := by rw [e1, St.put_rows]
  have ep : (({ st with rows := rows2 } : St).put y.dst v2).ev p = st.ev p := m8 (xt h2) hop
  have hl : kg ag sz (({ st with rows := rows2 } : St).put y.dst v2).rows ((({ st with rows := rows2 } : St).put y.dst v2).ev p) = some v := by
   rw [ep, St.put_rows, ← hv]
   refine np hin fun s hs => ?_
   have := t6 s (by simpa using hs)
   rw [← er]
   exact hw s (by simpa using this)
  have g2 : Gst P BR ops sx x _ _ := qk t1 hop hsz hl
  have e2 : s2 = (({ st with rows := rows2 } : St).put y.dst v2).put x.dst v := by
   rw [e1, dP, fY _ _ _ (fun d hd e => a2 d e hd)]
  refine ⟨_, ⟨h2, py, fun hcy => ?_, py3'⟩, ⟨by rw [e2]; exact g2, jU (xt h2) px1, fun hcx => ?_, iD (xt h2) px3⟩⟩
  ·have := py2 hcy
   rw [← er] at *
   simp only [qV, St.put_rows] at this ⊢
   exact this
  ·rw [no t2] at hcx; omega
def rj (tbl : Tbl) (P : Program) (BR : Nat → Bool) (ops : Array Oper) (bs : Nat) : List Nat → St → (St → Prop) → Prop
 | [], st, K => K st
 | i :: L, st, K => ∃ o st', ops[i]? = some o ∧ qW tbl P BR ops i (bs + 16 * i) o st st' ∧ rj tbl P BR ops bs L st' K
end
section
variable {P : Program} {BR : Nat → Bool} {ops : Array Oper} {C : Ctx} {M : Imm} {ρ : Plc} {st : St} {a : Act} {w : World} {tbl : Tbl}
def xz (tbl : Tbl) (BR : Nat → Bool) (ops : Array Oper) : Bool :=
 (List.range ops.size).all fun i => match ops[i]? with
  | some o => (eG ops i).all (fun k => decide (k < i)) && (let an := ni ops i (eG ops i); (List.range i).all fun k => an.contains k || match ops[k]? with | some x => pN tbl BR ops i k o x | none => false)
  | none => false
structure ROKT (tbl : Tbl) (BR : Nat → Bool) (ops : Array Oper) : Prop where
 deps : ∀ i, i < ops.size → ∀ k ∈ eG ops i, k < i
 ind : ∀ i k o x, k < i → ops[i]? = some o → ops[k]? = some x → k ∈ ni ops i (eG ops i) ∨ pN tbl BR ops i k o x = true
theorem ROKT.of (h : xz tbl BR ops = true) : ROKT tbl BR ops := by
 unfold xz at h
 refine ⟨fun i hi k hk => ?_, fun i k o x hki ho hx => ?_⟩
 ·have := List.all_eq_true.1 h i (List.mem_range.2 hi)
  rw [Array.getElem?_eq_getElem hi] at this
  simp only [Bool.and_eq_true] at this
  simpa using List.all_eq_true.1 this.1 k hk
 ·have hi : i < ops.size := (Array.getElem?_eq_some_iff.1 ho).1
  have := List.all_eq_true.1 h i (List.mem_range.2 hi)
  rw [ho] at this
  simp only [Bool.and_eq_true] at this
  have := List.all_eq_true.1 this.2 k (List.mem_range.2 hki)
  rw [hx] at this
  simpa using this
theorem ql {bs : Nat} {K : St → Prop} {i : Nat} {o : Oper} (ho : ops[i]? = some o) : ∀ (L1 L2 : List Nat) (st : St), (∀ k ∈ L1, k ≠ i ∧ ∀ x, ops[k]? = some x → pN tbl BR ops i k o x = true) →
  (∀ t ∈ o.looksAt ops, ∀ s, pK (st.tmps t) s → st.rows s ≠ none) → rj tbl P BR ops bs (L1 ++ i :: L2) st K → rj tbl P BR ops bs (i :: (L1 ++ L2)) st K
 | [], L2, st, _, _, h => h
 | k :: L1, L2, st, hL, hlive, h => by
  obtain ⟨x, s1, hx, hg, h⟩ := h
  obtain ⟨hki, hind⟩ := hL k (by simp)
  have hi := hind x hx
  have ha : o.apart ops x = true := nM hi
  obtain ⟨a1, a2, a3⟩ := Oper.apart_spec ha
  have ih := ql ho L1 L2 s1 (fun k' hk' => hL k' (by simp [hk'])) (fun t ht s hr => by
    rw [k6 hg.1 t (fun e => a3 t e ht)] at hr
    exact uc hg.1 s (hlive t ht s hr)) h
  obtain ⟨o', s2, ho', hg2, h2⟩ := ih
  rw [ho] at ho'; injection ho' with ho'; subst ho'
  obtain ⟨s1', e1, e2⟩ := KF hg hg2 hi (by omega) hlive
  exact ⟨o, s1', ho, e1, x, s2, hx, e2, h2⟩
theorem y5 (hN : mY C.N ops = true) (hOK : ROKT tbl BR ops) {Q : Exit → Act → World → Prop} {K : St → Prop} (hK : ∀ st' M' ρ' a' w', K st' → Rel C M' ρ' st' a' w' → Q .normal a' w') (bs : Nat) :
  ∀ (n : Nat) (L : List Nat) (listed : Array Bool) (st : St) (M : Imm) (ρ : Plc) (a : Act) (w : World), L.length = n → L.Pairwise (· < ·) → (∀ i, i ∈ L ↔ i < ops.size ∧ listed.getD i true = false) → listed.size = ops.size → oT ops listed →
   rj tbl P BR ops bs L st K → Rel C M ρ st a w → wpAny P .any ops Q n listed a w := by
 intro n
 induction n with
 | zero =>
  intro L listed st M ρ a w hl hp hL hsz hc h hR
  have : L = [] := List.eq_nil_of_length_eq_zero hl
  subst this
  refine ⟨?_, hK _ _ _ _ _ h hR⟩
  cases hq : Region.ready .any ops listed with
  | nil => rfl
  | cons i r =>
   exfalso
   have hr : i ∈ Region.ready .any ops listed := by rw [hq]; simp
   obtain ⟨h1, o, ho, _⟩ := mem_ready.1 hr
   have := (hL i).2 ⟨(Array.getElem?_eq_some_iff.1 ho).1, h1⟩
   simp at this
 | succ n ih =>
  intro L listed st M ρ a w hl hp hL hsz hc h hR
  have lof : ∀ k, k < ops.size → k ∉ L → listed.getD k false = true := fun k hk hn => by
   have hk' : k < listed.size := by omega
   cases hq : listed[k] with
   | true => simp [hk', hq]
   | false =>
    exfalso
    exact hn ((hL k).2 ⟨hk, by simp [hk', hq]⟩)
  refine ⟨fun h0 => ?_, fun i hi => ?_⟩
  ·exfalso
   cases L with
   | nil => simp at hl
   | cons i L =>
    have hiL := (hL i).1 (by simp)
    have ho : ops[i]? = some ops[i] := Array.getElem?_eq_getElem hiL.1
    have hr : i ∈ Region.ready .any ops listed := mem_ready.2 ⟨hiL.2, _, ho, fun e he hb => by
      have hk : e.on ∈ eG ops i := by
        simp only [eG, ho, List.mem_map, List.mem_filter]
        exact ⟨e, ⟨by simpa using he, hb⟩, rfl⟩
      have hlt := hOK.deps i hiL.1 _ hk
      refine lof _ (by omega) (fun hm => ?_)
      rcases List.mem_cons.1 hm with hm | hm
      · omega
      · have := (List.pairwise_cons.1 hp).1 _ hm
        omega⟩
    rw [h0] at hr; cases hr
  ·obtain ⟨h1, o, ho, _⟩ := mem_ready.1 hi
   have hiL : i ∈ L := (hL i).2 ⟨(Array.getElem?_eq_some_iff.1 ho).1, h1⟩
   obtain ⟨L1, L2, rfl⟩ := List.append_of_mem hiL
   have hlt1 : ∀ k ∈ L1, k < i := fun k hk => (List.pairwise_append.1 hp).2.2 k hk i (by simp)
   have hunl : ∀ k ∈ L1, listed.getD k false = true → False := fun k hk ht => by
    have := ((hL k).1 (by simp [hk])).2
    have hk' : k < listed.size := by have := ((hL k).1 (by simp [hk])).1; omega
    simp [hk'] at this ht
    rw [this] at ht; cases ht
   have hf := ql ho L1 L2 st (fun k hk => ⟨by have := hlt1 k hk; omega, fun x hx => by
     rcases hOK.ind i k o x (hlt1 k hk) ho hx with h' | h'
     · exact (hunl k hk (ji hc i _ (nj hi) k h')).elim
     · exact h'⟩) (fun t ht s hr => ub hR t s hr) h
   obtain ⟨o', st', ho', hg, hrest⟩ := hf
   rw [ho] at ho'; injection ho' with ho'; subst ho'
   have hpw : (L1 ++ L2).Pairwise (· < ·) := by
    rw [List.pairwise_append] at hp ⊢
    exact ⟨hp.1, (List.pairwise_cons.1 hp.2.1).2, fun x hx y hy => hp.2.2 x hx y (by simp [hy])⟩
   have hni : i ∉ L1 ++ L2 := by
    intro hm
    rcases List.mem_append.1 hm with hm | hm
    ·have := hlt1 i hm; omega
    ·have := (List.pairwise_cons.1 (List.pairwise_append.1 hp).2.1).1 i hm; omega
   refine tb ho hg.1 hR (oS hN ho) (fun M' ρ' a' w' hR' => ih (L1 ++ L2) _ st' M' ρ' a' w' (by simp at hl ⊢; omega) hpw (fun j => ?_) (by simpa using hsz) (hc.set hi) hrest hR')
   by_cases hji : j = i
   ·subst hji
    have hjs : j < listed.size := by rw [hsz]; exact (Array.getElem?_eq_some_iff.1 ho).1
    constructor
    ·intro hm; exact absurd hm hni
    ·rintro ⟨_, hm⟩; simp [hjs] at hm
   ·rw [getD_set_ne true (Ne.symm hji), ← hL j]
    simp [hji]
end
section
variable {P : Program} {BR : Nat → Bool} {C : Ctx} {st : St} {Q : Exit → St → Prop} {tbl : Tbl}
theorem tC {ops : Array Oper} {bs : Nat} {K : St → Prop} : ∀ {L : List Nat} {st : St}, rj tbl P BR ops bs L st K → sV P BR ops bs L st K
 | [], _, h => h
 | _ :: _, _, ⟨o, st', h1, h2, h3⟩ => ⟨o, st', h1, h2.1, tC h3⟩
theorem vl {id : Nat} {ops : Array Oper} {draw : Bool} (hm : draw = true → P.follows .mixedOrders = true) (hN : mY C.N ops = true) (hB : draw = true → xz tbl BR ops = true)
  (h : rj tbl P BR ops st.bs (List.range ops.size) st (fun st' => Q .normal { st' with bs := st.bs + 16 * ops.size })) : AW P C (.region id ops draw) st Q := fun M ρ a w hR => by
 have hK : ∀ st' M' ρ' a' w', Q .normal { st' with bs := st.bs + 16 * ops.size } → Rel C M' ρ' st' a' w' → ∃ st' M' ρ', Q .normal st' ∧ Rel C M' ρ' st' a' w' := fun st' M' ρ' a' w' h1 h2 => ⟨_, M', ρ', h1, h2.next _⟩
 cases draw with
 | false => exact wp_region (pk hN (Q := fun e a' w' => ∃ st' M' ρ', Q e st' ∧ Rel C M' ρ' st' a' w') hK _ _ _ _ _ _ _ (tC h) hR)
 | true =>
  refine wp_region_any (hm rfl) ?_
  refine y5 hN (ROKT.of (hB rfl)) (Q := fun e a' w' => ∃ st' M' ρ', Q e st' ∧ Rel C M' ρ' st' a' w') hK st.bs ops.size (List.range ops.size) _ st M ρ a _ (by simp) List.pairwise_lt_range (fun i => ?_) (by simp) (fun j hj => ?_) h hR.drew
  ·constructor
   ·intro hi
    have := List.mem_range.1 hi
    exact ⟨this, by simp [this]⟩
   ·rintro ⟨hi, _⟩; exact List.mem_range.2 hi
  ·rw [getD_replicate_false] at hj; cases hj
end
def IT (P : Program) (l : List Nat) (f : FuncId) (args : List AV) (st : St) (site : Nat) (dst : Option Tmp) (K : St → Prop) : Prop :=
 ∃ (ι : List Nat) (ret : AV) (mem' : List Row), ι.Nodup ∧ (∀ s ∈ ι, ∃ r, st.rows s = some r ∧ r.solid = true) ∧ aU P f (args.map (bq ι fun _ => none)) (ι.map (bS ι (fun _ => none) st.rows)) ret mem' ∧ ι.length ≤ mem'.length ∧
  mem'.length - ι.length ≤ 16 ∧ (∀ j, j < mem'.length - ι.length → st.rows (site + j) = none) ∧ (∀ s ∈ ι, l.contains s = true) ∧ (∀ j, j < mem'.length - ι.length → l.contains (site + j) = true) ∧
  K (({ st with rows := aw ι site st.rows mem' } : St).put dst (fS (mId ι site) ret))
def IU (l : List Nat) (P : Program) (BR : Nat → Bool) (site : Nat) (o : Oper) (st : St) (K : St → Prop) : Prop :=
 match cls BR o.op with
 | 0 => qS (d9 P st.ev o.op) fun v => K (st.put o.dst v)
 | 1 => oe l st o.op ∧ qS (aMk P (FZ BR site) site st.ev st.rows o.op) fun v => (match v.2 with | some r => st.rows site = none ∧ K (({ st with rows := upd st.rows site (some r) } : St).put o.dst v.1) | none => K (st.put o.dst v.1))
 | 2 => match o.op with
  | .call c => match c.callee with
   | .value (.func f) => ss P f (evL st c.args.toList) st site o.dst K
   | _ => False
  | _ => False
 | 3 => qS (pG (aWr P site st.ev st.rows o.op) (FZ BR site)) fun v => qV l st (({ st with rows := v.2 } : St).put o.dst v.1) ∧ K (({ st with rows := v.2 } : St).put o.dst v.1)
 | 4 => match o.op with
  | .call c => match c.callee with
   | .value (.func f) => (flk l = false ∧ Ae P f (evL st c.args.toList) st site o.dst fun st' => qV l st st' ∧ K st') ∨ (flk l = true ∧ IT P l.tail f (evL st c.args.toList) st site o.dst K)
   | _ => False
  | _ => False
 | _ => False
def aOT (l : List Nat) (P : Program) (BR : Nat → Bool) (site : Nat) (o : Oper) (st : St) (K : St → Prop) : Prop := ul l site st o.op ∧ IU l P BR site o st K
def aGT (l : List Nat) (P : Program) (BR : Nat → Bool) (ops : List Oper) (site : Nat) (o : Oper) (st : St) (K : St → Prop) : Prop :=
 match o.guard with
 | none => aOT l P BR site o st K
 | some (g, want) => match (ops[g]?).bind (·.dst) with
  | some t => match st.tmps t with
   | .bool b => gK b want (aOT l P BR site o st K) (K (st.put o.dst (.tup [])))
   | .tup [] => K (st.put o.dst (.tup []))
   | _ => False
  | none => False
def eP (tbl : Tbl) (P : Program) (BR : Nat → Bool) (ops : List Oper) (bs : Nat) : Nat → List Oper → St → (St → Prop) → Prop
 | _, [], st, K => K st
 | i, o :: l, st, K => aGT (bK tbl i) P BR ops (bs + 16 * i) o st (fun st' => eP tbl P BR ops bs (i + 1) l st' K)
section
variable {P : Program} {BR : Nat → Bool} {ops : List Oper} {tbl : Tbl}
theorem ou {ι : List Nat} {site : Nat} {rows : Nat → Option Row} {mem' : List Row} {s : Nat} (h1 : s ∉ ι) (h2 : ∀ j, j < mem'.length - ι.length → s ≠ site + j) : aw ι site rows mem' s = rows s := by
 unfold aw
 rw [bR, if_neg, iU _ _ _ _ h1]
 rintro ⟨h3, h4⟩
 simp only [List.length_map, List.length_drop] at h4
 exact h2 (s - site) (by omega) (by omega)
theorem qu {ι : List Nat} {site : Nat} {rows rows2 : Nat → Option Row} {mem' : List Row} {s : Nat} (hn : ι.Nodup) (hl : ι.length ≤ mem'.length) (h : s ∈ ι ∨ ∃ j, j < mem'.length - ι.length ∧ s = site + j) : aw ι site rows mem' s = aw ι site rows2 mem' s := by
 unfold aw
 rw [bR, bR]
 split
 ·rfl
 ·rename_i hc
  rcases h with h | ⟨j, hj, rfl⟩
  ·obtain ⟨k, hk⟩ := List.mem_iff_getElem?.1 h
   rw [k5 _ _ _ k s hn hk (by simp; omega), k5 _ _ _ k s hn hk (by simp; omega)]
  ·exfalso
   simp only [List.length_map, List.length_drop] at hc
   omega
theorem Az {opa : Array Oper} {l : List Nat} {site : Nat} {o : Oper} {c : Call} {f : FuncId} {st : St} {K : St → Prop} (hg : o.guard = none) (hc : cls BR o.op = 4) (hop : o.op = .call c) (hcal : c.callee = .value (.func f)) (h : IT P l f (evL st c.args.toList) st site o.dst K) :
  ∃ st' v, Gst P BR opa site o st st' ∧ xy P BR opa l site o st st' v ∧ K st' := by
 obtain ⟨ι, ret, mem', h1, h2, h3, h4, h5, h6, h7, h8, h9⟩ := h
 have out : ∀ s, l.contains s = false → aw ι site st.rows mem' s = st.rows s := fun s hs => ou (fun hm => by rw [h7 s hm] at hs; cases hs) (fun j hj e => by rw [e, h8 j hj] at hs; cases hs)
 have mk : ∀ st2 : St, (∀ t ∈ o.looksAt opa, st2.tmps t = st.tmps t) → (∀ s, l.contains s = true → st2.rows s = st.rows s) → Gst P BR opa site o st2 (({ st2 with rows := cu l (aw ι site st.rows mem') st2.rows } : St).put o.dst (fS (mId ι site) ret)) := fun st2 ht hr => by
  unfold Gst
  simp only [hg]
  simp only [Stp, hc]
  have er : cu l (aw ι site st.rows mem') st2.rows = aw ι site st2.rows mem' := by
   funext s
   unfold cu
   by_cases hm : s ∈ ι ∨ ∃ j, j < mem'.length - ι.length ∧ s = site + j
   ·have hl : l.contains s = true := by
     rcases hm with hm | ⟨j, hj, rfl⟩
     ·exact h7 s hm
     ·exact h8 j hj
    rw [hl]
    exact qu h1 h4 hm
   ·have e2 : ∀ R : Nat → Option Row, aw ι site R mem' s = R s := fun R => ou (fun h => hm (.inl h)) (fun j hj e => hm (.inr ⟨j, hj, e⟩))
    rw [e2, e2]
    split
    ·rename_i hl; exact (hr s hl).symm
    ·rfl
  rw [er]
  refine ⟨ι, false, c, f, c.args.toList.map st2.ev, (fun _ => none), ret, mem', hop, .inl ⟨hcal, rfl⟩, (fun _ _ h => by cases h), h1, fun s hs => by rw [hr s (h7 s hs)]; exact h2 s hs, ?_, h4, .inl (fun _ => rfl), fun _ => h5, fun j hj => by rw [hr _ (h8 j hj)]; exact h6 j hj, rfl⟩
  have e1 : c.args.toList.map st2.ev = evL st c.args.toList := by
   rw [nH]
   exact List.map_congr_left fun x hx => (St.ev_of (ops := opa) (st := st) (st2 := st2) ht x (iB hop x hx)).symm
  have e2 : ι.map (bS ι (fun _ => none) st2.rows) = ι.map (bS ι (fun _ => none) st.rows) := List.map_congr_left fun s hs => by
   unfold bS; rw [hr s (h7 s hs)]
  rw [e1, e2]
  exact h3
 have g0 := mk st (fun _ _ => rfl) (fun _ _ => rfl)
 have e0 : cu l (aw ι site st.rows mem') st.rows = aw ι site st.rows mem' := by
  funext s
  unfold cu
  split
  ·rfl
  ·rename_i hs; exact (out s hs).symm
 rw [e0] at g0
 refine ⟨_, fS (mId ι site) ret, g0, ⟨by simp only [St.put_rows], fun s hs => ?_, fun st2 ht hr => ?_⟩, h9⟩
 ·rw [St.put_rows]; exact out s hs
 ·rw [St.put_rows]; exact mk st2 ht hr
theorem xD {l : List Nat} {site : Nat} {o : Oper} {st : St} {K : St → Prop} (hk : flk l = false) (h : aOT l P BR site o st K) : ∃ st', Stp P BR site o st st' ∧ qj BR l site o st st' ∧ K st' := by
 obtain ⟨hX, h⟩ := h
 unfold IU at h
 have nol : cls BR o.op ≠ 1 → oe l st o.op := fun hc => by
  by_cases hl : ri o.op = true
  ·exact absurd (no hl) hc
  ·cases hop : o.op <;> rw [hop] at hl <;> first | trivial | exact absurd rfl hl
 split at h
 ·rename_i hc
  obtain ⟨v, h1, h2⟩ := lM h
  simp only [Stp, hc]
  exact ⟨_, ⟨v, h1, rfl⟩, ⟨nol (by omega), fun h => by omega, hX⟩, h2⟩
 ·rename_i hc
  obtain ⟨h0, h⟩ := h
  obtain ⟨v, h1, h2⟩ := lM h
  obtain ⟨v, nw⟩ := v
  simp only [Stp, hc]
  cases nw with
  | none => exact ⟨_, ⟨v, none, h1, by simp, rfl⟩, ⟨h0, fun h => by omega, hX⟩, h2⟩
  | some r => exact ⟨_, ⟨v, some r, h1, fun _ => h2.1, rfl⟩, ⟨h0, fun h => by omega, hX⟩, h2.2⟩
 ·rename_i hc
  simp only [Stp, hc]
  split at h
  ·rename_i c hop
   split at h
   ·rename_i f hcal
    obtain ⟨lnd, ret, mem', h1, h2, h3, h4, h5, h6⟩ := h
    refine ⟨_, ⟨c, f, _, lnd, ret, mem', hop, .inl ⟨hcal, rfl⟩, h1, List.nodup_nil, by simp, ?_, by simp, h3, fun _ => by simpa using h4, by simpa using h5, rfl⟩, ⟨nol (by omega), fun h => by omega, hX⟩, ?_⟩
    ·rw [nH] at h2; exact h2
    ·rw [fO]; exact h6
   ·exact h.elim
  ·exact h.elim
 ·rename_i hc
  obtain ⟨v, h1, h2⟩ := lM h
  obtain ⟨v, rows'⟩ := v
  simp only [Stp, hc]
  exact ⟨_, ⟨v, rows', h1, rfl⟩, ⟨nol (by omega), fun _ => h2.1, hX⟩, h2.2⟩
 ·rename_i hc
  simp only [Stp, hc]
  split at h
  ·rename_i c hop
   split at h
   ·rename_i f hcal
    rcases h with ⟨_, h⟩ | ⟨hk', _⟩
    rotate_left
    ·rw [hk] at hk'; cases hk'
    obtain ⟨ι, nt, lnd, ret, mem', h1, h2, h3, h4, h5, h6, h7, h8, h9⟩ := h
    refine ⟨_, ⟨ι, nt, c, f, _, lnd, ret, mem', hop, .inl ⟨hcal, rfl⟩, h1, h2, h3, ?_, h5, h6, h7, h8, rfl⟩, ⟨nol (by omega), fun _ => h9.1, hX⟩, h9.2⟩
    rw [nH] at h4; exact h4
   ·exact h.elim
  ·exact h.elim
 ·exact h.elim
theorem EE {k site : Nat} {o : Oper} {st : St} {K : St → Prop} (h : aGT (bK tbl k) P BR ops site o st K) (hu : o.guard = none ∨ bK tbl k = []) (hk : flk (bK tbl k) = false ∨ cls BR o.op = 4) : ∃ st', qW tbl P BR ops.toArray k site o st st' ∧ K st' := by
 by_cases hfk : flk (bK tbl k) = true
 ·have hc : cls BR o.op = 4 := by
   rcases hk with h | h
   ·rw [hfk] at h; cases h
   ·exact h
  have hg : o.guard = none := by
   rcases hu with h | h
   ·exact h
   ·rw [h] at hfk; cases hfk
  unfold aGT at h
  rw [hg] at h
  obtain ⟨hX, h⟩ := h
  unfold IU at h
  rw [hc] at h
  simp only at h
  split at h
  ·rename_i c hop
   split at h
   ·rename_i f hcal
    rcases h with ⟨h', _⟩ | ⟨_, h⟩
    ·rw [hfk] at h'; cases h'
    obtain ⟨st', v, h1, h2, h3⟩ := Az (opa := ops.toArray) hg hc hop hcal h
    refine ⟨st', ⟨h1, ⟨?_, fun _ => ?_, hX⟩, fun _ => ⟨v, h2⟩⟩, h3⟩
    ·rw [hop]; trivial
    ·refine .inr fun s hs => h2.2.1 s ?_
     cases hq : (bK tbl k).tail.contains s with
     | false => rfl
     | true =>
      exfalso
      have : (bK tbl k).contains s = true := by
       have h1 : s ∈ (bK tbl k).tail := by simpa using hq
       simpa using List.mem_of_mem_tail h1
      rw [hs] at this; cases this
   ·exact h.elim
  ·exact h.elim
 have hfk : flk (bK tbl k) = false := by simpa using hfk
 suffices H : ∃ st', Gst P BR ops.toArray site o st st' ∧ qj BR (bK tbl k) site o st st' ∧ K st' by
  obtain ⟨st', h1, h2, h3⟩ := H
  exact ⟨st', ⟨h1, h2, fun h => by rw [hfk] at h; cases h⟩, h3⟩
 unfold aGT at h
 split at h
 ·rename_i hg
  obtain ⟨st', h1, h2, h3⟩ := xD hfk h
  exact ⟨st', by simp only [Gst, hg]; exact h1, h2, h3⟩
 ·rename_i g want hg
  have he : bK tbl k = [] := by
   rcases hu with h | h
   ·rw [hg] at h; cases h
   ·exact h
  have pT : ∀ st st', qj BR (bK tbl k) site o st st' := fun st st' => ⟨by
    rw [he]
    cases o.op <;> first | trivial | exact .inl rfl, fun _ => .inl (by rw [he]; rfl), .inl (by rw [he]; rfl)⟩
  split at h
  ·rename_i t ht
   split at h
   ·rename_i b hb
    by_cases e : b = want
    ·obtain ⟨st', h1, h2, h3⟩ := xD hfk (h.1 e)
     exact ⟨st', by simp only [Gst, hg]; exact ⟨t, by simpa using ht, .inl ⟨by rw [hb, e], h1⟩⟩, pT _ _, h3⟩
    ·exact ⟨_, by simp only [Gst, hg]; exact ⟨t, by simpa using ht, .inr ⟨.inr ⟨b, hb, e⟩, by trivial⟩⟩, pT _ _, h.2 (by cases b <;> cases want <;> simp_all)⟩
   ·rename_i hb
    exact ⟨_, by simp only [Gst, hg]; exact ⟨t, by simpa using ht, .inr ⟨.inl hb, by trivial⟩⟩, pT _ _, h⟩
   ·exact h.elim
  ·exact h.elim
def tD (BR : Nat → Bool) (tbl : Tbl) : Nat → List Oper → Bool
 | _, [] => true
 | i, o :: l => ((o.guard.isNone || (bK tbl i).isEmpty) && (!flk (bK tbl i) || cls BR o.op == 4)) && tD BR tbl (i + 1) l
theorem tE {bs : Nat} {K : St → Prop} : ∀ (l : List Oper) (i : Nat) (st : St), (∀ j, l[j]? = ops[i + j]?) → tD BR tbl i l = true → eP tbl P BR ops bs i l st K → rj tbl P BR ops.toArray bs (List.range' i l.length) st K
 | [], i, st, _, _, h => h
 | o :: l, i, st, hl, hu, h => by
  simp only [tD, Bool.and_eq_true, Bool.or_eq_true, Option.isNone_iff_eq_none, List.isEmpty_iff, Bool.not_eq_true', beq_iff_eq] at hu
  obtain ⟨st', h1, h2⟩ := EE h hu.1.1 hu.1.2
  have h0 : ops[i]? = some o := by simpa using (hl 0).symm
  rw [List.length_cons, List.range'_succ]
  exact ⟨o, st', by simpa using h0, h1, tE l (i + 1) st' (fun j => by have := hl (j + 1); simpa [Nat.add_assoc, Nat.add_comm 1 j] using this) hu.2 h2⟩
end
section
variable (tbl : Tbl) (P : Program) (BR : Nat → Bool) (ops : List Oper) (bs i : Nat) (o : Oper) (l : List Oper) (st : St) (K : St → Prop)
def rVT (x : Option AV) : Prop := qS x fun v => eP tbl P BR ops bs (i + 1) l (st.put o.dst v) K
def rFT (x : Option Row) (v : AV) (r : Row) : Prop := x = none ∧ eP tbl P BR ops bs (i + 1) l (({ st with rows := upd st.rows (bs + 16 * i) (some r) } : St).put o.dst v) K
def rMT (x : Option (AV × Option Row)) : Prop := oe (bK tbl i) st o.op ∧ qS x fun v => (match v.2 with | some r => st.rows (bs + 16 * i) = none ∧ eP tbl P BR ops bs (i + 1) l (({ st with rows := upd st.rows (bs + 16 * i) (some r) } : St).put o.dst v.1) K | none => eP tbl P BR ops bs (i + 1) l (st.put o.dst v.1) K)
def rWT (x : Option (AV × (Nat → Option Row))) : Prop := qS x fun v => qV (bK tbl i) st (({ st with rows := v.2 } : St).put o.dst v.1) ∧ eP tbl P BR ops bs (i + 1) l (({ st with rows := v.2 } : St).put o.dst v.1) K
def rCT (f : FuncId) (args : List AV) (dst : Option Tmp) : Prop := ss P f args st (bs + 16 * i) dst fun st' => eP tbl P BR ops bs (i + 1) l st' K
def rRT (f : FuncId) (args : List AV) (dst : Option Tmp) : Prop := (flk (bK tbl i) = false ∧ Ae P f args st (bs + 16 * i) dst fun st' => qV (bK tbl i) st st' ∧ eP tbl P BR ops bs (i + 1) l st' K) ∨ (flk (bK tbl i) = true ∧ IT P (bK tbl i).tail f args st (bs + 16 * i) dst fun st' => eP tbl P BR ops bs (i + 1) l st' K)
def vm (c : Nat) : Prop := match c with
 | 0 => rVT tbl P BR ops bs i o l st K (d9 P st.ev o.op)
 | 1 => rMT tbl P BR ops bs i o l st K (aMk P (FZ BR (bs + 16 * i)) (bs + 16 * i) st.ev st.rows o.op)
 | 2 => match o.op with
  | .call c => match c.callee with
   | .value (.func f) => rCT tbl P BR ops bs i l st K f (evL st c.args.toList) o.dst
   | _ => False
  | _ => False
 | 3 => rWT tbl P BR ops bs i o l st K (pG (aWr P (bs + 16 * i) st.ev st.rows o.op) (FZ BR (bs + 16 * i)))
 | 4 => match o.op with
  | .call c => match c.callee with
   | .value (.func f) => rRT tbl P BR ops bs i l st K f (evL st c.args.toList) o.dst
   | _ => False
  | _ => False
 | _ => False
def rOT (c : Nat) : Prop := ul (bK tbl i) (bs + 16 * i) st o.op ∧ vm tbl P BR ops bs i o l st K c
def rKT (b want : Bool) : Prop := gK b want (rOT tbl P BR ops bs i o l st K (cls BR o.op)) (eP tbl P BR ops bs (i + 1) l (st.put o.dst (.tup [])) K)
def rAT (a : AV) (want : Bool) : Prop := match a with
 | .bool b => rKT tbl P BR ops bs i o l st K b want
 | .tup [] => eP tbl P BR ops bs (i + 1) l (st.put o.dst (.tup [])) K
 | _ => False
def rBT (t : Option Tmp) (want : Bool) : Prop := match t with
 | some t => rAT tbl P BR ops bs i o l st K (st.tmps t) want
 | none => False
def rGT (g : Option (Nat × Bool)) : Prop := match g with
 | none => rOT tbl P BR ops bs i o l st K (cls BR o.op)
 | some (j, want) => rBT tbl P BR ops bs i o l st K ((ops[j]?).bind (·.dst)) want
theorem yA : eP tbl P BR ops bs i [] st K = K st := (rfl)
theorem vn : eP tbl P BR ops bs i (o :: l) st K = rGT tbl P BR ops bs i o l st K o.guard := (rfl)
theorem B4 : rGT tbl P BR ops bs i o l st K none = rOT tbl P BR ops bs i o l st K (cls BR o.op) := (rfl)
theorem B5 (j : Nat) (want : Bool) : rGT tbl P BR ops bs i o l st K (some (j, want)) = rBT tbl P BR ops bs i o l st K ((ops[j]?).bind (·.dst)) want := (rfl)
theorem B6 (t : Tmp) (want : Bool) : rBT tbl P BR ops bs i o l st K (some t) want = rAT tbl P BR ops bs i o l st K (st.tmps t) want := (rfl)
theorem B7 (b want : Bool) : rAT tbl P BR ops bs i o l st K (.bool b) want = rKT tbl P BR ops bs i o l st K b want := (rfl)
theorem EG (want : Bool) : rAT tbl P BR ops bs i o l st K (.tup []) want = eP tbl P BR ops bs (i + 1) l (st.put o.dst (.tup [])) K := (rfl)
theorem IV : rKT tbl P BR ops bs i o l st K true true = rOT tbl P BR ops bs i o l st K (cls BR o.op) := Hm _ _
theorem IW : rKT tbl P BR ops bs i o l st K false false = rOT tbl P BR ops bs i o l st K (cls BR o.op) := Hp _ _
theorem IX : rKT tbl P BR ops bs i o l st K true false = eP tbl P BR ops bs (i + 1) l (st.put o.dst (.tup [])) K := Hn _ _
theorem IY : rKT tbl P BR ops bs i o l st K false true = eP tbl P BR ops bs (i + 1) l (st.put o.dst (.tup [])) K := Ho _ _
theorem IZ : vm tbl P BR ops bs i o l st K 0 = rVT tbl P BR ops bs i o l st K (d9 P st.ev o.op) := (rfl)
theorem Ia : vm tbl P BR ops bs i o l st K 1 = rMT tbl P BR ops bs i o l st K (aMk P (FZ BR (bs + 16 * i)) (bs + 16 * i) st.ev st.rows o.op) := (rfl)
theorem Ib : vm tbl P BR ops bs i o l st K 3 = rWT tbl P BR ops bs i o l st K (pG (aWr P (bs + 16 * i) st.ev st.rows o.op) (FZ BR (bs + 16 * i))) := (rfl)
theorem Ic (d : Option Tmp) (f : FuncId) (args : Array Operand) (tys : Array TypeId) (t : TypeId) (p : String) (af : Array Edge) (g : Option (Nat × Bool)) :
  vm tbl P BR ops bs i ⟨d, .call ⟨.value (.func f), args, tys⟩, t, p, af, g⟩ l st K 2 = rCT tbl P BR ops bs i l st K f (evL st args.toList) d := (rfl)
theorem Id (d : Option Tmp) (f : FuncId) (args : Array Operand) (tys : Array TypeId) (t : TypeId) (p : String) (af : Array Edge) (g : Option (Nat × Bool)) :
  vm tbl P BR ops bs i ⟨d, .call ⟨.value (.func f), args, tys⟩, t, p, af, g⟩ l st K 4 = rRT tbl P BR ops bs i l st K f (evL st args.toList) d := (rfl)
theorem Ie (c : Nat) : rOT tbl P BR ops bs i o l st K c = (ul (bK tbl i) (bs + 16 * i) st o.op ∧ vm tbl P BR ops bs i o l st K c) := (rfl)
theorem B8 (v : AV) : rVT tbl P BR ops bs i o l st K (some v) = eP tbl P BR ops bs (i + 1) l (st.put o.dst v) K := (rfl)
theorem B9 (v : AV) : rMT tbl P BR ops bs i o l st K (some (v, none)) = (oe (bK tbl i) st o.op ∧ eP tbl P BR ops bs (i + 1) l (st.put o.dst v) K) := (rfl)
theorem BA (v : AV) (r : Row) : rMT tbl P BR ops bs i o l st K (some (v, some r)) = (oe (bK tbl i) st o.op ∧ rFT tbl P BR ops bs i o l st K (st.rows (bs + 16 * i)) v r) := (rfl)
theorem BB (v : AV) (r : Row) : rFT tbl P BR ops bs i o l st K none v r = eP tbl P BR ops bs (i + 1) l (({ st with rows := upd st.rows (bs + 16 * i) (some r) } : St).put o.dst v) K := by simp [rFT]
theorem BC (v : AV) (rows : Nat → Option Row) : rWT tbl P BR ops bs i o l st K (some (v, rows)) = (qV (bK tbl i) st (({ st with rows := rows } : St).put o.dst v) ∧ eP tbl P BR ops bs (i + 1) l (({ st with rows := rows } : St).put o.dst v) K) := (rfl)
end
section
variable {P : Program} {BR : Nat → Bool} {ops : List Oper} {C : Ctx} {Q : Exit → St → Prop} {T : Nat → AV} {R : Nat → Option Row} {b : Nat}
theorem xE {st : St} (tbl : Tbl) {id : Nat} {draw : Bool} (hu : tD BR tbl 0 ops = true) (hm : P.follows .mixedOrders = true) (hN : mY C.N ops.toArray = true) (hB : (!draw || xz tbl BR ops.toArray) = true)
  (h : eP tbl P BR ops st.bs 0 ops st (fun st' => Q .normal { st' with bs := st.bs + 16 * ops.length })) : AW P C (.region id ops.toArray draw) st Q :=
 vl (BR := BR) (tbl := tbl) (fun _ => hm) hN (fun e => by rw [e] at hB; simpa using hB) (by
   have := tE ops 0 st (by simp) hu h
   rw [← List.range_eq_range'] at this
   simpa using this)
theorem pO (tbl : Tbl) {id : Nat} {draw : Bool} {y : Code} (hu : tD BR tbl 0 ops = true) (hm : P.follows .mixedOrders = true) (hN : mY C.N ops.toArray = true) (hB : (!draw || xz tbl BR ops.toArray) = true)
  (h : ∀ K : St → Prop, (∀ T' R' b', AW P C y (St.mk T' R' (b + 1024)) Q → K (St.mk T' R' b')) → eP tbl P BR ops b 0 ops (St.mk T R b) K) : AW P C (.seq (.region id ops.toArray draw) y) (St.mk T R b) Q :=
 aH fun M ρ a w hR => by
  have := h (fun st' => AW P C y (St.mk st'.tmps st'.rows (b + 1024)) Q) (fun T' R' b' h => h)
  refine xE (BR := BR) (Q := oo (fun st' => AW P C y (St.mk st'.tmps st'.rows (b + 1024)) Q) Q) tbl hu hm hN hB this M ρ a w hR |> Code.wp_mono ?_
  rintro e a' w' ⟨st', M', ρ', h1, h2⟩
  cases e with
  | normal => exact ⟨St.mk st'.tmps st'.rows (b + 1024), M', ρ', h1, h2.next _⟩
  | _ => exact ⟨st', M', ρ', h1, h2⟩
theorem rk (tbl : Tbl) {id : Nat} {draw : Bool} (hu : tD BR tbl 0 ops = true) (hm : P.follows .mixedOrders = true) (hN : mY C.N ops.toArray = true) (hB : (!draw || xz tbl BR ops.toArray) = true)
  (h : ∀ K : St → Prop, (∀ T' R' b', Q .normal (St.mk T' R' (b + 1024)) → K (St.mk T' R' b')) → eP tbl P BR ops b 0 ops (St.mk T R b) K) : AW P C (.region id ops.toArray draw) (St.mk T R b) Q := fun M ρ a w hR => by
 have := h (fun st' => Q .normal (St.mk st'.tmps st'.rows (b + 1024))) (fun T' R' b' h => h)
 refine xE (BR := BR) (Q := oo (fun st' => Q .normal (St.mk st'.tmps st'.rows (b + 1024))) Q) tbl hu hm hN hB this M ρ a w hR |> Code.wp_mono ?_
 rintro e a' w' ⟨st', M', ρ', h1, h2⟩
 cases e with
 | normal => exact ⟨St.mk st'.tmps st'.rows (b + 1024), M', ρ', h1, h2.next _⟩
 | _ => exact ⟨st', M', ρ', h1, h2⟩
variable {st : St}
variable {bs i : Nat} {l : List Oper} {K : St → Prop} {f : FuncId} {args args' : List AV} {dst : Option Tmp} {ret : AV} {mem mem' : List Row}
theorem KG (tbl : Tbl) (hS : aU P f args' [] ret mem') (ha : cvA (args.map (bq [] st.rows)) args') (hf : fr3 ret ∧ vi mem') (hl : mem'.length ≤ 16)
  (hs : ∀ j, j < mem'.length → st.rows (bs + 16 * i + j) = none) (hK : eP tbl P BR ops bs (i + 1) l (({ st with rows := ap st.rows (bs + 16 * i) (mem'.map (Row.ren (mId [] (bs + 16 * i)))) } : St).put dst (fS (mId [] (bs + 16 * i)) ret)) K) : rCT tbl P BR ops bs i l st K f args dst :=
 rd (hS.le ha trivial) ⟨vj hf.1, rI hf.2⟩ hl hs hK
theorem ov (tbl : Tbl) (ι : List Nat) (hS : aU P f args' mem ret mem') (ha : cvA (args.map (bq ι fun _ => none)) args') (hm : sX (ι.map (bS ι (fun _ => none) st.rows)) mem) (hn : sW ι = true) (hι : ∀ s ∈ ι, aZ (st.rows s)) (hle : ι.length ≤ mem'.length) (hl : mem'.length - ι.length ≤ 16)
  (hs : ∀ j, j < mem'.length - ι.length → st.rows (bs + 16 * i + j) = none) (hfk : flk (bK tbl i) = false) (hK : qV (bK tbl i) st (({ st with rows := aw ι (bs + 16 * i) st.rows mem' } : St).put dst (fS (mId ι (bs + 16 * i)) ret)) ∧ eP tbl P BR ops bs (i + 1) l (({ st with rows := aw ι (bs + 16 * i) st.rows mem' } : St).put dst (fS (mId ι (bs + 16 * i)) ret)) K) : rRT tbl P BR ops bs i l st K f args dst :=
 .inl ⟨hfk, ι, false, _, ret, mem', (fun _ _ h => by cases h), iC hn, fun s hs => by
   have := hι s hs
   unfold aZ at this
   split at this
   · exact ⟨_, by assumption, rfl⟩
   · exact ⟨_, by assumption, rfl⟩
   · exact ⟨_, by assumption, rfl⟩
   · exact this.elim, hS.le ha hm, hle, .inl (fun _ => rfl), fun _ => hl, hs, hK⟩
theorem uo (tbl : Tbl) (ι : List Nat) (hS : aU P f args' mem ret mem') (ha : cvA (args.map (bq ι fun _ => none)) args') (hm : sX (ι.map (bS ι (fun _ => none) st.rows)) mem) (hn : sW ι = true) (hι : ∀ s ∈ ι, aZ (st.rows s)) (hle : ι.length ≤ mem'.length) (hl : mem'.length - ι.length ≤ 16)
  (hs : ∀ j, j < mem'.length - ι.length → st.rows (bs + 16 * i + j) = none) (hfk : (flk (bK tbl i) && (ι ++ (List.range (mem'.length - ι.length)).map fun j => bs + 16 * i + j).all fun s => (bK tbl i).tail.contains s) = true)
  (hK : eP tbl P BR ops bs (i + 1) l (({ st with rows := aw ι (bs + 16 * i) st.rows mem' } : St).put dst (fS (mId ι (bs + 16 * i)) ret)) K) : rRT tbl P BR ops bs i l st K f args dst := by
 rw [Bool.and_eq_true, List.all_eq_true] at hfk
 exact .inr ⟨hfk.1, ι, ret, mem', iC hn, fun s hs => by
   have := hι s hs
   unfold aZ at this
   split at this
   · exact ⟨_, by assumption, rfl⟩
   · exact ⟨_, by assumption, rfl⟩
   · exact ⟨_, by assumption, rfl⟩
   · exact this.elim, hS.le ha hm, hle, hl, hs, fun s h => hfk.2 s (List.mem_append_left _ h), fun j hj => hfk.2 _ (List.mem_append_right _ (List.mem_map.2 ⟨j, List.mem_range.2 hj, rfl⟩)), hK⟩
end
def oW (l : List Nat) (R R2 : Nat → Option Row) : Prop := ∀ s, l.contains s = false → R2 s = R s
theorem tf (l : List Nat) (R : Nat → Option Row) : oW l R R = True := eq_true fun _ _ => rfl
theorem yD (l : List Nat) (R R2 : Nat → Option Row) (k : Nat) (v : Option Row) (h : l.contains k = true) : oW l R (upd R2 k v) = oW l R R2 := by
 refine propext (forall_congr' fun s => ?_)
 refine forall_congr' fun hs => ?_
 rw [au _ _ (fun e => by rw [e, h] at hs; cases hs)]
theorem yE (l : List Nat) (R R2 : Nat → Option Row) (k : Nat) (v : Option Row) (h : l.contains k = true) : oW l (upd R k v) R2 = oW l R R2 := by
 refine propext (forall_congr' fun s => ?_)
 refine forall_congr' fun hs => ?_
 rw [au _ _ (fun e => by rw [e, h] at hs; cases hs)]
theorem EH (l : List Nat) (T T2 : Nat → AV) (R R2 : Nat → Option Row) (b b2 : Nat) : qV l (St.mk T R b) (St.mk T2 R2 b2) = (l.isEmpty = true ∨ oW l R R2) := (rfl)
theorem EJ (s o : Nat) (l : List Nat) : inT (.ptr s o) l = (l.contains s = true) := (rfl)
theorem BD (cs : List AV) (l : List Nat) : inT (.eptr cs) l = True := (rfl)
theorem EK (l : List Nat) (site : Nat) (st : St) (op : Op) : ul l site st op = (flg l = false ∨ mK l.tail site st op) := (rfl)
theorem yF (l : List Nat) (site : Nat) (st : St) (t : Nat) (x : Operand) : mK l site st (.load t x) = inT (st.ev x) l := (rfl)
theorem vo (l : List Nat) (site : Nat) (st : St) (t : Nat) : mK l site st (.alloc t) = (l.contains site = true) := (rfl)
theorem BE (l : List Nat) (site : Nat) (st : St) (t : Nat) (x : Operand) : mK l site st (.box t x) = (l.contains site = true) := (rfl)
theorem EL (l : List Nat) (site : Nat) (st : St) (t n : Nat) (ps : Array (Nat × Operand)) : mK l site st (.buildSlice t n ps) = (l.contains site = true) := (rfl)
theorem EM (l : List Nat) (site : Nat) (st : St) (t : Nat) (x y : Operand) : mK l site st (.makeSlice t x y) = (l.contains site = true) := (rfl)
theorem vq (l : List Nat) (site : Nat) (st : St) (t : Nat) (x y : Operand) : mK l site st (.store t x y) = inT (st.ev x) l := (rfl)
theorem BF (l : List Nat) (site : Nat) (st : St) (args : Array Operand) (tys : Array TypeId) : mK l site st (.call ⟨.builtin .append, args, tys⟩) = (l.contains site = true ∧ xw l (evL st args.toList)) := (rfl)
def AT :=
 (aI
 (aI
 (aI
 (aI
 (aI
 (aI
 @or_true
 @true_or)
 (aI
 @or_false
 @false_or))
 (aI
 (aI
 @yA
 @vn)
 (aI
 @B4
 @B5)))
 (aI
 (aI
 (aI
 @B6
 @B7)
 (aI
 @EG
 @IV))
 (aI
 (aI
 @IW
 @IX)
 (aI
 @IY
 @Ie))))
 (aI
 (aI
 (aI
 (aI
 @IZ
 @Ia)
 (aI
 @Ic
 @Ib))
 (aI
 (aI
 @Id
 @EK)
 (aI
 @flg.eq_1
 @flg.eq_2)))
 (aI
 (aI
 (aI
 @yF
 @vo)
 (aI
 @BE
 @EL))
 (aI
 (aI
 @EM
 @vq)
 (aI
 @BF
 (aI
 @xw.eq_1
 @xw.eq_2))))))
 (aI
 (aI
 (aI
 (aI
 (aI
 @List.tail_cons.{0}
 @B8)
 (aI
 @B9
 @BA))
 (aI
 (aI
 @BB
 @BC)
 (aI
 @bK.eq_1
 @bK.eq_2)))
 (aI
 (aI
 (aI
 @oe.eq_1
 @tf)
 (aI
 @yD
 @yE))
 (aI
 (aI
 @EH
 @EJ)
 (aI
 @BD
 @List.isEmpty_cons.{0}))))
 (aI
 (aI
 (aI
 (aI
 @List.isEmpty_nil.{0}
 (fun (l : List Nat) (st : St) (t : Nat) => @id (oe l st (.alloc t) = True) rfl))
 (aI
 (fun (l : List Nat) (st : St) (t : Nat) (x : Operand) => @id (oe l st (.box t x) = True) rfl)
 (fun (l : List Nat) (st : St) (t n : Nat) (ps : Array (Nat × Operand)) => @id (oe l st (.buildSlice t n ps) = True) rfl)))
 (aI
 (aI
 (fun (l : List Nat) (st : St) (t : Nat) (x y : Operand) => @id (oe l st (.makeSlice t x y) = True) rfl)
 (fun (l : List Nat) (k : IntKind) (n : Int) => @id (inO l (.int k n : AV) = True) rfl))
 (aI
 (fun (l : List Nat) (b : Bool) => @id (inO l (.bool b : AV) = True) rfl)
 (fun (l : List Nat) (s : ByteArray) => @id (inO l (.str s : AV) = True) rfl))))
 (aI
 (aI
 (aI
 (fun (l : List Nat) (cs : List AV) => @id (inO l (.agg cs : AV) = True) rfl)
 (fun (l : List Nat) (cs : List AV) => @id (inO l (.tup cs : AV) = True) rfl))
 (aI
 (fun (l : List Nat)  => @id (inO l (.nil : AV) = True) rfl)
 (fun (l : List Nat) (cs : List AV) (n : Nat) => @id (inO l (.sl cs n : AV) = True) rfl)))
 (aI
 (aI
 (fun (l : List Nat) (s : Nat) (n : Nat) => @id (inO l (.own s n : AV) = (l.contains s = true)) rfl)
 (fun (l : List Nat) (s : Nat) (o : Nat) => @id (inO l (.ptr s o : AV) = True) rfl))
 (aI
 (fun (l : List Nat) (cs : List AV) => @id (inO l (.eptr cs : AV) = True) rfl)
 (aI
 (fun (l : List Nat) (fi : FuncId) (ps : List Nat) => @id (inO l (.fn fi ps : AV) = True) rfl)
 (fun (l : List Nat)  => @id (inO l (.top : AV) = True) rfl))))))))
def BR (f : Nat) : Bool := [17, 26, 27, 30, 47, 48, 49, 52, 53, 54, 71, 72, 74, 78, 80, 81, 86, 88, 89, 95, 97, 107, 113, 125, 159, 160, 161, 162, 163].contains f
theorem KH (n : Nat) : FZ BR n = false := by
  show List.contains _ (1000000 + n) = false
  rw [List.contains_eq_mem]
  refine decide_eq_false ?_
  simp only [List.mem_cons, List.not_mem_nil, or_false]
  omega
theorem If : BR 5 = false := by kernel_rfl
theorem Ig : BR 6 = false := by kernel_rfl
theorem EO : fG Tryz.prog 26 = some ([.int .i64 0, .int .i64 0, .int .i64 0, .nil]) := by kernel_rfl
theorem EP : szA Tryz.prog 26 = some (4, true) := by kernel_rfl
theorem Ih : BR 7 = false := by kernel_rfl
theorem Ii : BR 8 = false := by kernel_rfl
theorem Ij : oO Tryz.prog 4 = true := by kernel_rfl
theorem Ik : BR 9 = false := by kernel_rfl
theorem ER : BR 10 = false := by kernel_rfl
theorem ET : mX Tryz.prog 28 = true := by kernel_rfl
theorem Il : oO Tryz.prog 3 = false := by kernel_rfl
theorem yG : dS Tryz.prog 26 1 = some (1, 1, false) := by kernel_rfl
theorem Im : szA Tryz.prog 3 = some (1, false) := by kernel_rfl
theorem In : pC Tryz.prog 3 = some (.i64) := by kernel_rfl
theorem EU : pC Tryz.prog 32 = some (.u64) := by kernel_rfl
theorem EW : BR 11 = false := by kernel_rfl
theorem EX : fG Tryz.prog 36 = some ([.int .i64 0, .int .i64 0, .int .i64 0, .int .i64 0, .int .i64 0]) := by kernel_rfl
theorem EY : szA Tryz.prog 36 = some (5, true) := by kernel_rfl
theorem Ea : BR 12 = false := by kernel_rfl
theorem Eb : ph Tryz.prog 4 36 = some 5 := by kernel_rfl
theorem Ec : BR 13 = false := by kernel_rfl
theorem Ed : mX Tryz.prog 40 = true := by kernel_rfl
theorem Ee : elA Tryz.prog 40 = some (3, 1) := by kernel_rfl
theorem Ef : BR 14 = false := by kernel_rfl
theorem yH : dS Tryz.prog 26 2 = some (2, 1, false) := by kernel_rfl
theorem Eg : elA Tryz.prog 28 = some (46, 2) := by kernel_rfl
theorem Eh : szA Tryz.prog 46 = some (2, true) := by kernel_rfl
theorem Ei : BR 15 = false := by kernel_rfl
theorem Ej : BR 16 = false := by kernel_rfl
theorem Ek : mX Tryz.prog 22 = true := by kernel_rfl
theorem El : BR 18 = false := by kernel_rfl
theorem Em : BR 17 = true := by kernel_rfl
theorem yI : dS Tryz.prog 26 3 = some (3, 1, false) := by kernel_rfl
theorem En : szA Tryz.prog 24 = some (1, false) := by kernel_rfl
theorem Eo : mX Tryz.prog 24 = true := by kernel_rfl
theorem Ep : BR 19 = false := by kernel_rfl
theorem Er : BR 20 = false := by kernel_rfl
theorem yJ : dS Tryz.prog 46 0 = some (0, 1, false) := by kernel_rfl
theorem yM : dS Tryz.prog 46 1 = some (1, 1, false) := by kernel_rfl
theorem Es : szA Tryz.prog 44 = some (1, false) := by kernel_rfl
theorem Et : BR 21 = false := by kernel_rfl
theorem Eu : BR 22 = false := by kernel_rfl
theorem Ev : lS Tryz.prog 36 = true := by kernel_rfl
theorem Ew : fG Tryz.prog 46 = some ([.int .i64 0, .nil]) := by kernel_rfl
theorem Ex : BR 23 = false := by kernel_rfl
theorem Ey : fG Tryz.prog 34 = some ([.int .i64 0, .int .i64 0, .int .i64 0, .int .i64 0]) := by kernel_rfl
theorem Ez : lS Tryz.prog 34 = true := by kernel_rfl
theorem yO : bi Tryz.prog 34 0 = some (0, 1) := by kernel_rfl
theorem yP : bi Tryz.prog 36 0 = some (0, 4) := by kernel_rfl
theorem BG : gW Tryz.prog 3 0 = false := by kernel_rfl
theorem Io : eO Tryz.prog 3 = 8 := by kernel_rfl
theorem Ip : fG Tryz.prog 3 = some ([.int .i64 0]) := by kernel_rfl
theorem BH : gW Tryz.prog 3 1 = true := by kernel_rfl
theorem F0 : mX Tryz.prog 44 = true := by kernel_rfl
theorem F3 : elA Tryz.prog 44 = some (55, 1) := by kernel_rfl
theorem F4 : szA Tryz.prog 55 = some (1, false) := by kernel_rfl
theorem F5 : BR 24 = false := by kernel_rfl
theorem F6 : BR 25 = false := by kernel_rfl
theorem yQ : dS Tryz.prog 36 0 = some (0, 4, true) := by kernel_rfl
theorem yR : dS Tryz.prog 34 0 = some (0, 1, false) := by kernel_rfl
theorem yS : dS Tryz.prog 34 1 = some (1, 1, false) := by kernel_rfl
theorem F7 : BR 26 = true := by kernel_rfl
theorem F8 : BR 27 = true := by kernel_rfl
theorem F9 : fG Tryz.prog 61 = some ([.nil, .nil]) := by kernel_rfl
theorem FA : szA Tryz.prog 61 = some (2, true) := by kernel_rfl
theorem FB : BR 28 = false := by kernel_rfl
theorem FC : BR 29 = false := by kernel_rfl
theorem FD : BR 30 = true := by kernel_rfl
theorem FE : elA Tryz.prog 22 = some (5, 1) := by kernel_rfl
theorem Iq : szA Tryz.prog 5 = some (1, false) := by kernel_rfl
theorem Ir : pC Tryz.prog 5 = some (.u8) := by kernel_rfl
theorem FF : fG Tryz.prog 68 = some ([.nil, .int .i64 0, .int .i64 0]) := by kernel_rfl
theorem FG : lS Tryz.prog 68 = true := by kernel_rfl
theorem yT : bi Tryz.prog 68 0 = some (0, 1) := by kernel_rfl
theorem yU : bi Tryz.prog 68 2 = some (2, 1) := by kernel_rfl
theorem FH : BR 31 = false := by kernel_rfl
theorem yW : dS Tryz.prog 26 0 = some (0, 1, false) := by kernel_rfl
theorem FI : BR 32 = false := by kernel_rfl
theorem yX : gW Tryz.prog 46 1 = false := by kernel_rfl
theorem FJ : eO Tryz.prog 46 = 32 := by kernel_rfl
theorem yY : gW Tryz.prog 46 0 = false := by kernel_rfl
theorem FK : elA Tryz.prog 24 = some (75, 8) := by kernel_rfl
theorem FL : szA Tryz.prog 75 = some (8, true) := by kernel_rfl
theorem FN : BR 33 = false := by kernel_rfl
theorem FO : BR 34 = false := by kernel_rfl
theorem FP : BR 35 = false := by kernel_rfl
theorem FQ : BR 36 = false := by kernel_rfl
theorem FR : BR 37 = false := by kernel_rfl
theorem FS : BR 38 = false := by kernel_rfl
theorem FT : BR 39 = false := by kernel_rfl
theorem yZ : dS Tryz.prog 36 1 = some (4, 1, false) := by kernel_rfl
theorem FV : szA Tryz.prog 34 = some (4, true) := by kernel_rfl
theorem FW : BR 41 = false := by kernel_rfl
theorem FY : BR 40 = false := by kernel_rfl
theorem Fa : BR 42 = false := by kernel_rfl
theorem Fb : BR 43 = false := by kernel_rfl
theorem Fc : BR 44 = false := by kernel_rfl
theorem Fd : mX Tryz.prog 55 = true := by kernel_rfl
theorem ya : gW Tryz.prog 36 0 = false := by kernel_rfl
theorem Fe : eO Tryz.prog 36 = 40 := by kernel_rfl
theorem Ff : elA Tryz.prog 55 = some (36, 5) := by kernel_rfl
theorem Fg : BR 45 = false := by kernel_rfl
theorem yc : gW Tryz.prog 36 1 = false := by kernel_rfl
theorem Fh : BR 46 = false := by kernel_rfl
theorem yd : dS Tryz.prog 34 2 = some (2, 1, false) := by kernel_rfl
theorem ye : dS Tryz.prog 34 3 = some (3, 1, false) := by kernel_rfl
theorem Fi : BR 47 = true := by kernel_rfl
theorem BI : gW Tryz.prog 9 0 = false := by kernel_rfl
theorem Is : eO Tryz.prog 9 = 16 := by kernel_rfl
theorem Fj : elA Tryz.prog 58 = some (9, 1) := by kernel_rfl
theorem It : fG Tryz.prog 9 = some ([.str ⟨#[]⟩]) := by kernel_rfl
theorem BJ : gW Tryz.prog 9 3 = true := by kernel_rfl
theorem Fk : lS Tryz.prog 61 = true := by kernel_rfl
theorem yf : bi Tryz.prog 61 0 = some (0, 1) := by kernel_rfl
theorem yg : dS Tryz.prog 61 1 = some (1, 1, false) := by kernel_rfl
theorem Fl : szA Tryz.prog 59 = some (1, false) := by kernel_rfl
theorem yh : dS Tryz.prog 61 0 = some (0, 1, false) := by kernel_rfl
theorem Fm : szA Tryz.prog 58 = some (1, false) := by kernel_rfl
theorem Fo : BR 48 = true := by kernel_rfl
theorem Iu : szA Tryz.prog 9 = some (1, false) := by kernel_rfl
theorem BK : gW Tryz.prog 9 2 = true := by kernel_rfl
theorem Fp : fG Tryz.prog 86 = some ([.int .i64 0, .str ⟨#[]⟩, .nil, .int .i64 0, .nil]) := by kernel_rfl
theorem Fq : lS Tryz.prog 86 = true := by kernel_rfl
theorem yi : bi Tryz.prog 86 0 = some (0, 1) := by kernel_rfl
theorem yj : bi Tryz.prog 86 2 = some (2, 1) := by kernel_rfl
theorem BL : gW Tryz.prog 9 1 = true := by kernel_rfl
theorem yk : gW Tryz.prog 86 1 = false := by kernel_rfl
theorem Fr : eO Tryz.prog 86 = 80 := by kernel_rfl
theorem Fs : elA Tryz.prog 59 = some (86, 5) := by kernel_rfl
theorem yl : bi Tryz.prog 86 4 = some (4, 1) := by kernel_rfl
theorem ym : gW Tryz.prog 86 3 = false := by kernel_rfl
theorem Ft : BR 49 = true := by kernel_rfl
theorem Fu : BR 50 = false := by kernel_rfl
theorem Fv : BR 51 = false := by kernel_rfl
theorem Fw : lS Tryz.prog 26 = true := by kernel_rfl
theorem Fz : mX Tryz.prog 58 = true := by kernel_rfl
theorem G0 : fG Tryz.prog 94 = some ([.nil, .nil, .int .i64 0, .bool false]) := by kernel_rfl
theorem G1 : lS Tryz.prog 94 = true := by kernel_rfl
theorem yn : bi Tryz.prog 94 0 = some (0, 1) := by kernel_rfl
theorem yo : bi Tryz.prog 94 2 = some (2, 1) := by kernel_rfl
theorem G2 : BR 52 = true := by kernel_rfl
theorem yp : dS Tryz.prog 94 2 = some (2, 1, false) := by kernel_rfl
theorem yq : dS Tryz.prog 94 1 = some (1, 1, false) := by kernel_rfl
theorem yu : bi Tryz.prog 26 0 = some (0, 1) := by kernel_rfl
theorem yv : bi Tryz.prog 26 1 = some (1, 1) := by kernel_rfl
theorem yw : bi Tryz.prog 26 2 = some (2, 1) := by kernel_rfl
theorem yx : bi Tryz.prog 26 3 = some (3, 1) := by kernel_rfl
theorem yy : dS Tryz.prog 94 3 = some (3, 1, false) := by kernel_rfl
theorem Iv : szA Tryz.prog 4 = some (1, false) := by kernel_rfl
theorem yz : dS Tryz.prog 75 0 = some (0, 1, false) := by kernel_rfl
theorem G3 : BR 53 = true := by kernel_rfl
theorem BM : gW Tryz.prog 3 4 = true := by kernel_rfl
theorem G4 : BR 54 = true := by kernel_rfl
theorem BN : gW Tryz.prog 3 3 = true := by kernel_rfl
theorem G5 : fG Tryz.prog 75 = some ([.int .i64 0, .int .i64 0, .int .i64 0, .int .i64 0, .int .i64 0, .int .i64 0, .int .i64 0, .int .i64 0]) := by kernel_rfl
theorem G6 : lS Tryz.prog 75 = true := by kernel_rfl
theorem z5 : bi Tryz.prog 75 0 = some (0, 1) := by kernel_rfl
theorem z6 : bi Tryz.prog 75 2 = some (5, 1) := by kernel_rfl
theorem z7 : bi Tryz.prog 75 3 = some (6, 1) := by kernel_rfl
theorem z8 : bi Tryz.prog 75 4 = some (7, 1) := by kernel_rfl
theorem zA : gW Tryz.prog 75 1 = false := by kernel_rfl
theorem G7 : eO Tryz.prog 75 = 64 := by kernel_rfl
theorem G8 : fG Tryz.prog 73 = some ([.int .i64 0, .int .i64 0, .int .i64 0, .int .i64 0]) := by kernel_rfl
theorem G9 : lS Tryz.prog 73 = true := by kernel_rfl
theorem zD : bi Tryz.prog 73 0 = some (0, 1) := by kernel_rfl
theorem zE : bi Tryz.prog 75 1 = some (1, 4) := by kernel_rfl
theorem GA : BR 55 = false := by kernel_rfl
theorem GB : BR 56 = false := by kernel_rfl
theorem zF : dS Tryz.prog 75 3 = some (6, 1, false) := by kernel_rfl
theorem zG : dS Tryz.prog 75 4 = some (7, 1, false) := by kernel_rfl
theorem GC : lS Tryz.prog 46 = true := by kernel_rfl
theorem GD : BR 57 = false := by kernel_rfl
theorem zH : gW Tryz.prog 55 1 = false := by kernel_rfl
theorem GE : eO Tryz.prog 55 = 24 := by kernel_rfl
theorem GF : fG Tryz.prog 55 = some ([.nil]) := by kernel_rfl
theorem zI : dS Tryz.prog 75 2 = some (5, 1, false) := by kernel_rfl
theorem GG : BR 58 = false := by kernel_rfl
theorem zJ : dS Tryz.prog 75 1 = some (1, 4, true) := by kernel_rfl
theorem GH : szA Tryz.prog 73 = some (4, true) := by kernel_rfl
theorem GI : BR 59 = false := by kernel_rfl
theorem GJ : BR 60 = false := by kernel_rfl
theorem GK : BR 61 = false := by kernel_rfl
theorem GL : BR 62 = false := by kernel_rfl
theorem GM : BR 63 = false := by kernel_rfl
theorem GN : BR 64 = false := by kernel_rfl
theorem GO : BR 65 = false := by kernel_rfl
theorem GP : BR 66 = false := by kernel_rfl
theorem zM : bi Tryz.prog 34 1 = some (1, 1) := by kernel_rfl
theorem zO : bi Tryz.prog 34 2 = some (2, 1) := by kernel_rfl
theorem zP : bi Tryz.prog 34 3 = some (3, 1) := by kernel_rfl
theorem GR : BR 67 = false := by kernel_rfl
theorem zQ : bi Tryz.prog 36 1 = some (4, 1) := by kernel_rfl
theorem GS : BR 68 = false := by kernel_rfl
theorem GT : BR 69 = false := by kernel_rfl
theorem GU : BR 70 = false := by kernel_rfl
theorem GV : BR 71 = true := by kernel_rfl
theorem GW : szA Tryz.prog 86 = some (5, true) := by kernel_rfl
theorem GX : BR 73 = false := by kernel_rfl
theorem GY : BR 72 = true := by kernel_rfl
theorem GZ : BR 74 = true := by kernel_rfl
theorem zR : dS Tryz.prog 73 0 = some (0, 1, false) := by kernel_rfl
theorem Ga : BR 75 = false := by kernel_rfl
theorem zS : bi Tryz.prog 86 1 = some (1, 1) := by kernel_rfl
theorem Gb : BR 76 = false := by kernel_rfl
theorem zT : dS Tryz.prog 86 2 = some (2, 1, false) := by kernel_rfl
theorem zU : gW Tryz.prog 86 0 = false := by kernel_rfl
theorem zW : bi Tryz.prog 86 3 = some (3, 1) := by kernel_rfl
theorem Gc : BR 77 = false := by kernel_rfl
theorem BO : gW Tryz.prog 9 5 = true := by kernel_rfl
theorem Gd : BR 78 = true := by kernel_rfl
theorem Ge : BR 79 = false := by kernel_rfl
theorem Gf : BR 80 = true := by kernel_rfl
theorem BP : fG Tryz.prog 123 = some ([.nil, .nil, .bool false, .nil]) := by kernel_rfl
theorem BS : lS Tryz.prog 123 = true := by kernel_rfl
theorem vr : bi Tryz.prog 123 0 = some (0, 1) := by kernel_rfl
theorem Gg : BR 81 = true := by kernel_rfl
theorem BT : fG Tryz.prog 119 = some ([.int .i64 0, .str ⟨#[]⟩]) := by kernel_rfl
theorem BU : szA Tryz.prog 119 = some (2, true) := by kernel_rfl
theorem vt : dS Tryz.prog 119 0 = some (0, 1, false) := by kernel_rfl
theorem vu : dS Tryz.prog 119 1 = some (1, 1, false) := by kernel_rfl
theorem Gh : BR 82 = false := by kernel_rfl
theorem Gi : BR 83 = false := by kernel_rfl
theorem Gj : BR 84 = false := by kernel_rfl
theorem Gk : BR 85 = false := by kernel_rfl
theorem zX : gW Tryz.prog 75 0 = false := by kernel_rfl
theorem Gl : mX Tryz.prog 59 = true := by kernel_rfl
theorem Gm : BR 86 = true := by kernel_rfl
theorem Gn : ph Tryz.prog 4 75 = some 8 := by kernel_rfl
theorem Gp : BR 87 = false := by kernel_rfl
theorem Gq : BR 88 = true := by kernel_rfl
theorem Gr : BR 89 = true := by kernel_rfl
theorem zY : bi Tryz.prog 46 0 = some (0, 1) := by kernel_rfl
theorem Gs : BR 90 = false := by kernel_rfl
theorem Gt : BR 91 = false := by kernel_rfl
theorem Gu : BR 92 = false := by kernel_rfl
theorem Gv : BR 93 = false := by kernel_rfl
theorem Gw : BR 94 = false := by kernel_rfl
theorem zZ : dS Tryz.prog 68 2 = some (2, 1, false) := by kernel_rfl
theorem za : dS Tryz.prog 68 1 = some (1, 1, false) := by kernel_rfl
theorem zb : dS Tryz.prog 68 0 = some (0, 1, false) := by kernel_rfl
theorem Gx : szA Tryz.prog 22 = some (1, false) := by kernel_rfl
theorem BV : gW Tryz.prog 3 5 = true := by kernel_rfl
theorem BW : gW Tryz.prog 3 8 = true := by kernel_rfl
theorem Gy : BR 95 = true := by kernel_rfl
theorem Gz : BR 96 = false := by kernel_rfl
theorem zc : gW Tryz.prog 9 13 = true := by kernel_rfl
theorem Iw : oO Tryz.prog 9 = false := by kernel_rfl
theorem BX : gW Tryz.prog 9 4 = true := by kernel_rfl
theorem H0 : BR 97 = true := by kernel_rfl
theorem BY : lS Tryz.prog 119 = true := by kernel_rfl
theorem H1 : BR 98 = false := by kernel_rfl
theorem H2 : BR 99 = false := by kernel_rfl
theorem BZ : BR 100 = false := by kernel_rfl
theorem zd : dS Tryz.prog 86 4 = some (4, 1, false) := by kernel_rfl
theorem Ba : BR 101 = false := by kernel_rfl
theorem ze : dS Tryz.prog 86 0 = some (0, 1, false) := by kernel_rfl
theorem zf : dS Tryz.prog 94 0 = some (0, 1, false) := by kernel_rfl
theorem Bb : BR 102 = false := by kernel_rfl
theorem zg : dS Tryz.prog 86 3 = some (3, 1, false) := by kernel_rfl
theorem Bc : BR 103 = false := by kernel_rfl
theorem Be : BR 104 = false := by kernel_rfl
theorem Bf : BR 106 = false := by kernel_rfl
theorem Bg : BR 105 = false := by kernel_rfl
theorem Bh : BR 107 = true := by kernel_rfl
theorem Bi : BR 108 = false := by kernel_rfl
theorem Bj : BR 109 = false := by kernel_rfl
theorem Bk : BR 110 = false := by kernel_rfl
theorem zh : dS Tryz.prog 73 1 = some (1, 1, false) := by kernel_rfl
theorem zi : dS Tryz.prog 73 2 = some (2, 1, false) := by kernel_rfl
theorem zj : dS Tryz.prog 73 3 = some (3, 1, false) := by kernel_rfl
theorem Bl : BR 111 = false := by kernel_rfl
theorem Bm : BR 112 = false := by kernel_rfl
theorem Bn : BR 113 = true := by kernel_rfl
theorem Bo : BR 114 = false := by kernel_rfl
theorem Bp : BR 115 = false := by kernel_rfl
theorem Bq : BR 116 = false := by kernel_rfl
theorem Br : BR 117 = false := by kernel_rfl
theorem Bs : BR 118 = false := by kernel_rfl
theorem Bt : BR 119 = false := by kernel_rfl
theorem Bu : BR 120 = false := by kernel_rfl
theorem Bv : mX Tryz.prog 155 = true := by kernel_rfl
theorem Bw : elA Tryz.prog 155 = some (158, 6) := by kernel_rfl
theorem vv : dS Tryz.prog 158 1 = some (1, 5, true) := by kernel_rfl
theorem Bx : BR 121 = false := by kernel_rfl
theorem vw : dS Tryz.prog 158 0 = some (0, 1, false) := by kernel_rfl
theorem By : BR 122 = false := by kernel_rfl
theorem zk : bi Tryz.prog 73 1 = some (1, 1) := by kernel_rfl
theorem Bz : szA Tryz.prog 123 = some (4, true) := by kernel_rfl
theorem vx : dS Tryz.prog 123 2 = some (2, 1, false) := by kernel_rfl
theorem C0 : BR 123 = false := by kernel_rfl
theorem C1 : BR 124 = false := by kernel_rfl
theorem vy : dS Tryz.prog 123 1 = some (1, 1, false) := by kernel_rfl
theorem w4 : dS Tryz.prog 123 0 = some (0, 1, false) := by kernel_rfl
theorem w5 : bi Tryz.prog 119 0 = some (0, 1) := by kernel_rfl
theorem w6 : bi Tryz.prog 119 1 = some (1, 1) := by kernel_rfl
theorem C2 : BR 125 = true := by kernel_rfl
theorem w7 : dS Tryz.prog 123 3 = some (3, 1, false) := by kernel_rfl
theorem Ix : mX Tryz.prog 9 = false := by kernel_rfl
theorem Iy : rZ Tryz.prog 9 = true := by kernel_rfl
theorem C3 : BR 126 = false := by kernel_rfl
theorem zl : dS Tryz.prog 86 1 = some (1, 1, false) := by kernel_rfl
theorem C4 : BR 127 = false := by kernel_rfl
theorem C5 : BR 128 = false := by kernel_rfl
theorem C6 : BR 129 = false := by kernel_rfl
theorem C7 : BR 130 = false := by kernel_rfl
theorem C8 : BR 131 = false := by kernel_rfl
theorem C9 : BR 132 = false := by kernel_rfl
theorem CA : BR 133 = false := by kernel_rfl
theorem CB : BR 134 = false := by kernel_rfl
theorem CC : fG Tryz.prog 158 = some ([.int .i64 0, .int .i64 0, .int .i64 0, .int .i64 0, .int .i64 0, .int .i64 0]) := by kernel_rfl
theorem CD : lS Tryz.prog 158 = true := by kernel_rfl
theorem w8 : bi Tryz.prog 158 0 = some (0, 1) := by kernel_rfl
theorem w9 : bi Tryz.prog 158 1 = some (1, 5) := by kernel_rfl
theorem wA : gW Tryz.prog 158 1 = false := by kernel_rfl
theorem CE : eO Tryz.prog 158 = 48 := by kernel_rfl
theorem CF : BR 135 = false := by kernel_rfl
theorem CG : BR 136 = false := by kernel_rfl
theorem CH : BR 137 = false := by kernel_rfl
theorem wB : gW Tryz.prog 158 2 = false := by kernel_rfl
theorem CI : BR 138 = false := by kernel_rfl
theorem CJ : BR 139 = false := by kernel_rfl
theorem CK : BR 140 = false := by kernel_rfl
theorem CL : BR 141 = false := by kernel_rfl
theorem CM : BR 142 = false := by kernel_rfl
theorem Iz : oO Tryz.prog 5 = false := by kernel_rfl
theorem CN : BR 143 = false := by kernel_rfl
theorem zm : gW Tryz.prog 73 0 = false := by kernel_rfl
theorem H3 : eO Tryz.prog 73 = 32 := by kernel_rfl
theorem CO : elA Tryz.prog 164 = some (73, 4) := by kernel_rfl
theorem zn : bi Tryz.prog 73 2 = some (2, 1) := by kernel_rfl
theorem zo : bi Tryz.prog 73 3 = some (3, 1) := by kernel_rfl
theorem CQ : BR 144 = false := by kernel_rfl
theorem zp : gW Tryz.prog 73 1 = false := by kernel_rfl
theorem CR : BR 145 = false := by kernel_rfl
theorem zq : gW Tryz.prog 73 3 = false := by kernel_rfl
theorem zr : gW Tryz.prog 73 7 = false := by kernel_rfl
theorem zt : gW Tryz.prog 73 5 = false := by kernel_rfl
theorem CS : mX Tryz.prog 164 = true := by kernel_rfl
theorem CT : BR 146 = false := by kernel_rfl
theorem CU : BR 147 = false := by kernel_rfl
theorem zu : gW Tryz.prog 34 8 = false := by kernel_rfl
theorem H4 : eO Tryz.prog 34 = 32 := by kernel_rfl
theorem CV : elA Tryz.prog 173 = some (34, 4) := by kernel_rfl
theorem CW : BR 148 = false := by kernel_rfl
theorem CX : BR 149 = false := by kernel_rfl
theorem CY : BR 150 = false := by kernel_rfl
def TY :=
 (aI
 (aI
 (aI
 (aI
 (aI
 (aI
 (aI
 (aI
 KH
 If)
 (aI
 Ig
 (aI
 EO
 EP)))
 (aI
 (aI
 Ih
 Ii)
 (aI
 Ij
 (aI
 Ik
 ER))))
 (aI
 (aI
 (aI
 ET
 Il)
 (aI
 yG
 (aI
 Im
 In)))
 (aI
 (aI
 EU
 (aI
 EW
 EX))
 (aI
 EY
 (aI
 Ea
 Eb)))))
 (aI
 (aI
 (aI
 (aI
 Ec
 Ed)
 (aI
 Ee
 (aI
 Ef
 yH)))
 (aI
 (aI
 Eg
 (aI
 Eh
 Ei))
 (aI
 Ej
 (aI
 Ek
 El))))
 (aI
 (aI
 (aI
 Em
 yI)
 (aI
 En
 (aI
 Eo
 Ep)))
 (aI
 (aI
 Er
 (aI
 yJ
 yM))
 (aI
 Es
 (aI
 Et
 Eu))))))
 (aI
 (aI
 (aI
 (aI
 (aI
 Ev
 Ew)
 (aI
 Ex
 (aI
 Ey
 Ez)))
 (aI
 (aI
 yO
 yP)
 (aI
 BG
 (aI
 Io
 Ip))))
 (aI
 (aI
 (aI
 BH
 F0)
 (aI
 F3
 (aI
 F4
 F5)))
 (aI
 (aI
 F6
 (aI
 yQ
 yR))
 (aI
 yS
 (aI
 F7
 F8)))))
 (aI
 (aI
 (aI
 (aI
 F9
 FA)
 (aI
 FB
 (aI
 FC
 FD)))
 (aI
 (aI
 FE
 (aI
 Iq
 Ir))
 (aI
 FF
 (aI
 FG
 yT))))
 (aI
 (aI
 (aI
 yU
 FH)
 (aI
 yW
 (aI
 FI
 yX)))
 (aI
 (aI
 FJ
 (aI
 yY
 FK))
 (aI
 FL
 (aI
 FN
 FO)))))))
 (aI
 (aI
 (aI
 (aI
 (aI
 (aI
 FP
 FQ)
 (aI
 FR
 (aI
 FS
 FT)))
 (aI
 (aI
 yZ
 FV)
 (aI
 FW
 (aI
 FY
 Fa))))
 (aI
 (aI
 (aI
 Fb
 Fc)
 (aI
 Fd
 (aI
 ya
 Fe)))
 (aI
 (aI
 Ff
 (aI
 Fg
 yc))
 (aI
 Fh
 (aI
 yd
 ye)))))
 (aI
 (aI
 (aI
 (aI
 Fi
 BI)
 (aI
 Is
 (aI
 Fj
 It)))
 (aI
 (aI
 BJ
 (aI
 Fk
 yf))
 (aI
 yg
 (aI
 Fl
 yh))))
 (aI
 (aI
 (aI
 Fm
 Fo)
 (aI
 Iu
 (aI
 BK
 Fp)))
 (aI
 (aI
 Fq
 (aI
 yi
 yj))
 (aI
 BL
 (aI
 yk
 Fr))))))
 (aI
 (aI
 (aI
 (aI
 (aI
 Fs
 yl)
 (aI
 ym
 (aI
 Ft
 Fu)))
 (aI
 (aI
 Fv
 (aI
 Fw
 Fz))
 (aI
 G0
 (aI
 G1
 yn))))
 (aI
 (aI
 (aI
 yo
 G2)
 (aI
 yp
 (aI
 yq
 yu)))
 (aI
 (aI
 yv
 (aI
 yw
 yx))
 (aI
 yy
 (aI
 Iv
 yz)))))
 (aI
 (aI
 (aI
 (aI
 G3
 BM)
 (aI
 G4
 (aI
 BN
 G5)))
 (aI
 (aI
 G6
 (aI
 z5
 z6))
 (aI
 z7
 (aI
 z8
 zA))))
 (aI
 (aI
 (aI
 G7
 G8)
 (aI
 G9
 (aI
 zD
 zE)))
 (aI
 (aI
 GA
 (aI
 GB
 zF))
 (aI
 zG
 (aI
 GC
 GD))))))))
 (aI
 (aI
 (aI
 (aI
 (aI
 (aI
 (aI
 zH
 GE)
 (aI
 GF
 (aI
 zI
 GG)))
 (aI
 (aI
 zJ
 GH)
 (aI
 GI
 (aI
 GJ
 GK))))
 (aI
 (aI
 (aI
 GL
 GM)
 (aI
 GN
 (aI
 GO
 GP)))
 (aI
 (aI
 zM
 (aI
 zO
 zP))
 (aI
 GR
 (aI
 zQ
 GS)))))
 (aI
 (aI
 (aI
 (aI
 GT
 GU)
 (aI
 GV
 (aI
 GW
 GX)))
 (aI
 (aI
 GY
 (aI
 GZ
 zR))
 (aI
 Ga
 (aI
 zS
 Gb))))
 (aI
 (aI
 (aI
 zT
 zU)
 (aI
 zW
 (aI
 Gc
 BO)))
 (aI
 (aI
 Gd
 (aI
 Ge
 Gf))
 (aI
 BP
 (aI
 BS
 vr))))))
 (aI
 (aI
 (aI
 (aI
 (aI
 Gg
 BT)
 (aI
 BU
 (aI
 vt
 vu)))
 (aI
 (aI
 Gh
 (aI
 Gi
 Gj))
 (aI
 Gk
 (aI
 zX
 Gl))))
 (aI
 (aI
 (aI
 Gm
 Gn)
 (aI
 Gp
 (aI
 Gq
 Gr)))
 (aI
 (aI
 zY
 (aI
 Gs
 Gt))
 (aI
 Gu
 (aI
 Gv
 Gw)))))
 (aI
 (aI
 (aI
 (aI
 zZ
 za)
 (aI
 zb
 (aI
 Gx
 BV)))
 (aI
 (aI
 BW
 (aI
 Gy
 Gz))
 (aI
 zc
 (aI
 Iw
 BX))))
 (aI
 (aI
 (aI
 H0
 BY)
 (aI
 H1
 (aI
 H2
 BZ)))
 (aI
 (aI
 zd
 (aI
 Ba
 ze))
 (aI
 zf
 (aI
 Bb
 zg)))))))
 (aI
 (aI
 (aI
 (aI
 (aI
 (aI
 Bc
 Be)
 (aI
 Bf
 (aI
 Bg
 Bh)))
 (aI
 (aI
 Bi
 Bj)
 (aI
 Bk
 (aI
 zh
 zi))))
 (aI
 (aI
 (aI
 zj
 Bl)
 (aI
 Bm
 (aI
 Bn
 Bo)))
 (aI
 (aI
 Bp
 (aI
 Bq
 Br))
 (aI
 Bs
 (aI
 Bt
 Bu)))))
 (aI
 (aI
 (aI
 (aI
 Bv
 Bw)
 (aI
 vv
 (aI
 Bx
 vw)))
 (aI
 (aI
 By
 (aI
 zk
 Bz))
 (aI
 vx
 (aI
 C0
 C1))))
 (aI
 (aI
 (aI
 vy
 w4)
 (aI
 w5
 (aI
 w6
 C2)))
 (aI
 (aI
 w7
 (aI
 Ix
 Iy))
 (aI
 C3
 (aI
 zl
 C4))))))
 (aI
 (aI
 (aI
 (aI
 (aI
 C5
 C6)
 (aI
 C7
 (aI
 C8
 C9)))
 (aI
 (aI
 CA
 (aI
 CB
 CC))
 (aI
 CD
 (aI
 w8
 w9))))
 (aI
 (aI
 (aI
 wA
 CE)
 (aI
 CF
 (aI
 CG
 CH)))
 (aI
 (aI
 wB
 (aI
 CI
 CJ))
 (aI
 CK
 (aI
 CL
 CM)))))
 (aI
 (aI
 (aI
 (aI
 Iz
 CN)
 (aI
 zm
 (aI
 H3
 CO)))
 (aI
 (aI
 zn
 (aI
 zo
 CQ))
 (aI
 zp
 (aI
 CR
 zq))))
 (aI
 (aI
 (aI
 zr
 zt)
 (aI
 CS
 (aI
 CT
 CU)))
 (aI
 (aI
 zu
 (aI
 H4
 CV))
 (aI
 CW
 (aI
 CX
 CY)))))))))
end Go.Proofs.YtbfmljdablopjaaGreat
