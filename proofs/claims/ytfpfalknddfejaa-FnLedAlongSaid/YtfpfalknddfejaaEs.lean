/- The engine, part 19: regions in which reads and writes of different rows are not ordered. Over any program. -/
import Derived.Test.YtfpfalknddfejaaEr
namespace Go.Proofs.Ytfpfalknddfejaa
open Go.RowKit
set_option linter.unusedVariables false
set_option linter.unusedSimpArgs false
set_option linter.defProp false

/-- Which rows an operation of the region reads (a load) or may change (what writes); empty: nothing is said. -/
abbrev Tbl := List (Nat × List Nat)
def tget : Tbl → Nat → List Nat
  | [], _ => []
  | (k, l) :: t, j => if j = k then l else tget t j
def isLoad : Op → Bool
  | .load _ _ => true
  | _ => false
def inT : AV → List Nat → Prop
  | .ptr s _, l => l.contains s = true
  | .eptr _, _ => True
  | _, _ => False
def oblL (l : List Nat) (st : St) : Op → Prop
  | .load _ x => l.isEmpty = true ∨ inT (st.ev x) l
  | _ => True
def oblW (l : List Nat) (st st' : St) : Prop := l.isEmpty = true ∨ ∀ s, l.contains s = false → st'.rows s = st.rows s
def propT (BR : Nat → Bool) (l : List Nat) (o : Oper) (st st' : St) : Prop := oblL l st o.op ∧ (3 ≤ cls BR o.op → oblW l st st')
def GstT (tbl : Tbl) (P : Program) (BR : Nat → Bool) (ops : Array Oper) (k site : Nat) (o : Oper) (st st' : St) : Prop := Gst P BR ops site o st st' ∧ propT BR (tget tbl k) o st st'
def tabB (tbl : Tbl) (BR : Nat → Bool) (kx ky : Nat) (x y : Oper) : Bool :=
  x.guard.isNone && isLoad x.op && decide (3 ≤ cls BR y.op) && !(tget tbl kx).isEmpty && !(tget tbl ky).isEmpty && (tget tbl kx).all (fun s => !(tget tbl ky).contains s)
def indepT (tbl : Tbl) (BR : Nat → Bool) (ops : Array Oper) (kx ky : Nat) (x y : Oper) : Bool := indepB BR ops x y || (x.apart ops y && (tabB tbl BR kx ky x y || tabB tbl BR ky kx y x))
section
variable {P : Program} {BR : Nat → Bool} {ops : Array Oper} {tbl : Tbl}
theorem indepT_apart {kx ky : Nat} {x y : Oper} (h : indepT tbl BR ops kx ky x y = true) : x.apart ops y = true := by
  unfold indepT indepB at h
  simp only [Bool.or_eq_true, Bool.and_eq_true] at h
  rcases h with h | h
  · exact h.1
  · exact h.1
theorem load_cls {o : Op} (h : isLoad o = true) : cls BR o = 1 := by
  cases o <;> first | (cases h; done) | rfl
theorem oblL_cls {l : List Nat} {o : Op} {st : St} (h : 3 ≤ cls BR o) : oblL l st o := by
  by_cases hl : isLoad o = true
  · rw [load_cls hl] at h; omega
  · cases o <;> first | trivial | exact absurd rfl hl
theorem Gst_load {site : Nat} {o : Oper} {st st' : St} (hg : o.guard.isNone = true) (hl : isLoad o.op = true) (h : Gst P BR ops site o st st') :
    ∃ T p sz ag v, o.op = .load T p ∧ szA P T = some (sz, ag) ∧ loadA ag sz st.rows (st.ev p) = some v ∧ st' = st.put o.dst v := by
  have hg' : o.guard = none := by simpa using hg
  unfold Gst at h
  simp only [hg'] at h
  unfold Stp at h
  simp only [load_cls hl] at h
  obtain ⟨v, nw, h1, h2, rfl⟩ := h
  obtain ⟨T, p, hop⟩ : ∃ T p, o.op = .load T p := by
    cases ho : o.op <;> rw [ho] at hl <;> first | (cases hl; done) | exact ⟨_, _, rfl⟩
  rw [hop] at h1
  simp only [aMk] at h1
  split at h1
  · rename_i sz ag hs
    split at h1
    · rename_i v' hv
      simp only [Option.some.injEq, Prod.mk.injEq] at h1
      obtain ⟨rfl, rfl⟩ := h1
      exact ⟨T, p, sz, ag, v', hop, hs, hv, rfl⟩
    · cases h1
  · cases h1
theorem Gst_load_mk {site : Nat} {o : Oper} {st : St} {T : TypeId} {p : Operand} {sz : Nat} {ag : Bool} {v : AV} (hg : o.guard.isNone = true) (hop : o.op = .load T p) (hs : szA P T = some (sz, ag)) (hv : loadA ag sz st.rows (st.ev p) = some v) :
    Gst P BR ops site o st (st.put o.dst v) := by
  have hg' : o.guard = none := by simpa using hg
  unfold Gst
  simp only [hg']
  unfold Stp
  have : cls BR o.op = 1 := by rw [hop]; rfl
  simp only [this]
  exact ⟨v, none, by rw [hop]; simp only [aMk, hs, hv], (fun h => by cases h), rfl⟩
theorem loadA_congr {ag : Bool} {sz : Nat} {R R' : Nat → Option Row} {a : AV} {l : List Nat} (h : inT a l) (hr : ∀ s, l.contains s = true → R' s = R s) : loadA ag sz R' a = loadA ag sz R a := by
  unfold inT at h
  split at h
  · simp only [loadA, hr _ h]
  · rfl
  · exact h.elim
theorem ev_of_apart {o : Oper} {st st2 : St} (h : ∀ t ∈ o.looksAt ops, st2.tmps t = st.tmps t) {T : TypeId} {p : Operand} (hop : o.op = .load T p) : st2.ev p = st.ev p :=
  (St.ev_of (ops := ops) h p (by rw [hop]; simp [Op.operands])).symm
theorem oblL_same {l : List Nat} {o : Oper} {st st2 : St} (h : ∀ t ∈ o.looksAt ops, st2.tmps t = st.tmps t) (hl : oblL l st o.op) : oblL l st2 o.op := by
  cases hop : o.op <;> first | trivial | skip
  rw [hop] at hl
  simp only [oblL] at hl ⊢
  rw [ev_of_apart h hop]; exact hl
theorem swapT {kx ky sx sy : Nat} {x y : Oper} {st s1 s2 : St} (hx : GstT tbl P BR ops kx sx x st s1) (hy : GstT tbl P BR ops ky sy y s1 s2) (hi : indepT tbl BR ops ky kx y x = true) (hs : sx + 16 ≤ sy ∨ sy + 16 ≤ sx)
    (hlive : ∀ t ∈ y.looksAt ops, ∀ s, refs (st.tmps t) s → st.rows s ≠ none) : ∃ s1', GstT tbl P BR ops ky sy y st s1' ∧ GstT tbl P BR ops kx sx x s1' s2 := by
  obtain ⟨a1, a2, a3⟩ := Oper.apart_spec (indepT_apart hi)
  obtain ⟨hx, px1, px2⟩ := hx
  obtain ⟨hy, py1, py2⟩ := hy
  have yt : ∀ t ∈ y.looksAt ops, st.tmps t = s1.tmps t := fun t ht => (gst_tmps hx t (fun e => a3 t e ht)).symm
  have py : oblL (tget tbl ky) st y.op := oblL_same yt py1
  have xt : ∀ {s1' : St}, Gst P BR ops sy y st s1' → ∀ t ∈ x.looksAt ops, s1'.tmps t = st.tmps t := fun hg t ht => gst_tmps hg t (fun e => a1 t e ht)
  unfold indepT at hi
  simp only [Bool.or_eq_true, Bool.and_eq_true] at hi
  rcases hi with hB | ⟨_, hT | hT⟩
  · obtain ⟨s1', g1, g2⟩ := swap hx hy hB hs hlive
    have hc := hB
    unfold indepB at hc
    simp only [Bool.or_eq_true, Bool.and_eq_true, beq_iff_eq, decide_eq_true_eq] at hc
    refine ⟨s1', ⟨g1, py, fun hcy => ?_⟩, ⟨g2, oblL_same (xt g1) px1, fun hcx => ?_⟩⟩
    · have hx0 : cls BR x.op = 0 := by omega
      obtain ⟨v, rfl, _⟩ := hx.pure hx0
      obtain ⟨v', rfl, _⟩ := g2.pure hx0
      have := py2 hcy
      simp only [oblW, St.put_rows] at this ⊢
      exact this
    · have hy0 : cls BR y.op = 0 := by omega
      obtain ⟨v, rfl, _⟩ := hy.pure hy0
      obtain ⟨v', rfl, _⟩ := g1.pure hy0
      have := px2 hcx
      simp only [oblW, St.put_rows] at this ⊢
      exact this
  · -- y reads, x writes
    unfold tabB at hT
    simp only [Bool.and_eq_true, Bool.not_eq_true', decide_eq_true_eq, List.all_eq_true] at hT
    obtain ⟨⟨⟨⟨⟨t1, t2⟩, t3⟩, t4⟩, t5⟩, t6⟩ := hT
    obtain ⟨T, p, sz, ag, u, hop, hsz, hu, rfl⟩ := Gst_load t1 t2 hy
    have ep : st.ev p = s1.ev p := ev_of_apart yt hop
    have hin : inT (st.ev p) (tget tbl ky) := by
      rw [hop] at py
      rcases py with h | h
      · rw [h] at t4; cases t4
      · exact h
    have hw : ∀ s, (tget tbl kx).contains s = false → s1.rows s = st.rows s := by
      rcases px2 t3 with h | h
      · rw [h] at t5; cases t5
      · exact h
    have hu' : loadA ag sz st.rows (st.ev p) = some u := by
      rw [← hu, ← ep]
      refine (loadA_congr hin fun s hs => (hw s ?_).symm)
      have := t6 s (by simpa using hs)
      simpa using this
    have g1 : Gst P BR ops sy y st (st.put y.dst u) := Gst_load_mk t1 hop hsz hu'
    obtain ⟨v2, rows2, e1, h2⟩ := hx.congr (st2 := st.put y.dst u) (fun t ht => by rw [St.put_tmps_ne _ _ _ _ (fun e => a1 t e ht)]) (by rw [St.put_rows])
    have e2 : s1.put y.dst u = ({ st.put y.dst u with rows := rows2 } : St).put x.dst v2 := by
      rw [e1, put_rows_comm, put_comm_st _ _ _ (fun d hd e => a2 d e hd)]
    refine ⟨_, ⟨g1, py, fun hcy => ?_⟩, ⟨by rw [e2]; exact h2, oblL_cls t3, fun _ => ?_⟩⟩
    · rw [load_cls t2] at hcy; omega
    · have := px2 t3
      simp only [oblW, St.put_rows] at this ⊢
      exact this
  · -- x reads, y writes
    unfold tabB at hT
    simp only [Bool.and_eq_true, Bool.not_eq_true', decide_eq_true_eq, List.all_eq_true] at hT
    obtain ⟨⟨⟨⟨⟨t1, t2⟩, t3⟩, t4⟩, t5⟩, t6⟩ := hT
    obtain ⟨T, p, sz, ag, v, hop, hsz, hv, rfl⟩ := Gst_load t1 t2 hx
    have hin : inT (st.ev p) (tget tbl kx) := by
      rw [hop] at px1
      rcases px1 with h | h
      · rw [h] at t4; cases t4
      · exact h
    have hw : ∀ s, (tget tbl ky).contains s = false → s2.rows s = st.rows s := by
      rcases py2 t3 with h | h
      · rw [h] at t5; cases t5
      · simpa only [St.put_rows] using h
    obtain ⟨v2, rows2, e1, h2⟩ := hy.congr (st2 := st) (fun t ht => yt t ht) (by rw [St.put_rows])
    have er : s2.rows = rows2 := by rw [e1, St.put_rows]
    have ep : (({ st with rows := rows2 } : St).put y.dst v2).ev p = st.ev p := ev_of_apart (xt h2) hop
    have hl : loadA ag sz (({ st with rows := rows2 } : St).put y.dst v2).rows ((({ st with rows := rows2 } : St).put y.dst v2).ev p) = some v := by
      rw [ep, St.put_rows, ← hv]
      refine loadA_congr hin fun s hs => ?_
      have := t6 s (by simpa using hs)
      rw [← er]
      exact hw s (by simpa using this)
    have g2 : Gst P BR ops sx x _ _ := Gst_load_mk t1 hop hsz hl
    have e2 : s2 = (({ st with rows := rows2 } : St).put y.dst v2).put x.dst v := by
      rw [e1, put_rows_comm, put_comm_st _ _ _ (fun d hd e => a2 d e hd)]
    refine ⟨_, ⟨h2, py, fun hcy => ?_⟩, ⟨by rw [e2]; exact g2, oblL_same (xt h2) px1, fun hcx => ?_⟩⟩
    · have := py2 hcy
      rw [← er] at *
      simp only [oblW, St.put_rows] at this ⊢
      exact this
    · rw [load_cls t2] at hcx; omega
/-- The operations in the list, one after the other. -/
def aSeqT (tbl : Tbl) (P : Program) (BR : Nat → Bool) (ops : Array Oper) (bs : Nat) : List Nat → St → (St → Prop) → Prop
  | [], st, K => K st
  | i :: L, st, K => ∃ o st', ops[i]? = some o ∧ GstT tbl P BR ops i (bs + 16 * i) o st st' ∧ aSeqT tbl P BR ops bs L st' K
end
section
variable {P : Program} {BR : Nat → Bool} {ops : Array Oper} {C : Ctx} {M : Imm} {ρ : Plc} {st : St} {a : Act} {w : World} {tbl : Tbl}
/-- Whatever is not ordered may change places; the text's order is one of the orders. -/
def regT (tbl : Tbl) (BR : Nat → Bool) (ops : Array Oper) : Bool :=
  (List.range ops.size).all fun i => match ops[i]? with
    | some o => (depsOf' ops i).all (fun k => decide (k < i)) && (let an := ancGo' ops i (depsOf' ops i); (List.range i).all fun k => an.contains k || match ops[k]? with | some x => indepT tbl BR ops i k o x | none => false)
    | none => false
structure ROKT (tbl : Tbl) (BR : Nat → Bool) (ops : Array Oper) : Prop where
  deps : ∀ i, i < ops.size → ∀ k ∈ depsOf' ops i, k < i
  ind : ∀ i k o x, k < i → ops[i]? = some o → ops[k]? = some x → k ∈ ancGo' ops i (depsOf' ops i) ∨ indepT tbl BR ops i k o x = true
theorem ROKT.of (h : regT tbl BR ops = true) : ROKT tbl BR ops := by
  unfold regT at h
  refine ⟨fun i hi k hk => ?_, fun i k o x hki ho hx => ?_⟩
  · have := List.all_eq_true.1 h i (List.mem_range.2 hi)
    rw [Array.getElem?_eq_getElem hi] at this
    simp only [Bool.and_eq_true] at this
    simpa using List.all_eq_true.1 this.1 k hk
  · have hi : i < ops.size := (Array.getElem?_eq_some_iff.1 ho).1
    have := List.all_eq_true.1 h i (List.mem_range.2 hi)
    rw [ho] at this
    simp only [Bool.and_eq_true] at this
    have := List.all_eq_true.1 this.2 k (List.mem_range.2 hki)
    rw [hx] at this
    simpa using this

/-- An operation that waits for none of those before it may come first. -/
theorem aSeqT_front {bs : Nat} {K : St → Prop} {i : Nat} {o : Oper} (ho : ops[i]? = some o) : ∀ (L1 L2 : List Nat) (st : St), (∀ k ∈ L1, k ≠ i ∧ ∀ x, ops[k]? = some x → indepT tbl BR ops i k o x = true) →
    (∀ t ∈ o.looksAt ops, ∀ s, refs (st.tmps t) s → st.rows s ≠ none) → aSeqT tbl P BR ops bs (L1 ++ i :: L2) st K → aSeqT tbl P BR ops bs (i :: (L1 ++ L2)) st K
  | [], L2, st, _, _, h => h
  | k :: L1, L2, st, hL, hlive, h => by
    obtain ⟨x, s1, hx, hg, h⟩ := h
    obtain ⟨hki, hind⟩ := hL k (by simp)
    have hi := hind x hx
    have ha : o.apart ops x = true := indepT_apart hi
    obtain ⟨a1, a2, a3⟩ := Oper.apart_spec ha
    have ih := aSeqT_front ho L1 L2 s1 (fun k' hk' => hL k' (by simp [hk'])) (fun t ht s hr => by
      rw [gst_tmps hg.1 t (fun e => a3 t e ht)] at hr
      exact gst_keep hg.1 s (hlive t ht s hr)) h
    obtain ⟨o', s2, ho', hg2, h2⟩ := ih
    rw [ho] at ho'; injection ho' with ho'; subst ho'
    obtain ⟨s1', e1, e2⟩ := swapT hg hg2 hi (by omega) hlive
    exact ⟨o, s1', ho, e1, x, s2, hx, e2, h2⟩

theorem aSeqT_any (hN : dstB C.N ops = true) (hOK : ROKT tbl BR ops) {Q : Exit → Act → World → Prop} {K : St → Prop} (hK : ∀ st' M' ρ' a' w', K st' → Rel C M' ρ' st' a' w' → Q .normal a' w') (bs : Nat) :
    ∀ (n : Nat) (L : List Nat) (listed : Array Bool) (st : St) (M : Imm) (ρ : Plc) (a : Act) (w : World), L.length = n → L.Pairwise (· < ·) → (∀ i, i ∈ L ↔ i < ops.size ∧ listed.getD i true = false) → listed.size = ops.size → Closed' ops listed →
      aSeqT tbl P BR ops bs L st K → Rel C M ρ st a w → wpAny P .any ops Q n listed a w := by
  intro n
  induction n with
  | zero =>
    intro L listed st M ρ a w hl hp hL hsz hc h hR
    have : L = [] := List.eq_nil_of_length_eq_zero hl
    subst this
    refine ⟨?_, hK _ _ _ _ _ h hR⟩
    cases hq : Region.ready .any ops listed with
    | nil => rfl
    | cons i r =>
      exfalso
      have hr : i ∈ Region.ready .any ops listed := by rw [hq]; simp
      obtain ⟨h1, o, ho, _⟩ := mem_ready.1 hr
      have := (hL i).2 ⟨(Array.getElem?_eq_some_iff.1 ho).1, h1⟩
      simp at this
  | succ n ih =>
    intro L listed st M ρ a w hl hp hL hsz hc h hR
    have lof : ∀ k, k < ops.size → k ∉ L → listed.getD k false = true := fun k hk hn => by
      have hk' : k < listed.size := by omega
      cases hq : listed[k] with
      | true => simp [hk', hq]
      | false =>
        exfalso
        exact hn ((hL k).2 ⟨hk, by simp [hk', hq]⟩)
    refine ⟨fun h0 => ?_, fun i hi => ?_⟩
    · exfalso
      cases L with
      | nil => simp at hl
      | cons i L =>
        have hiL := (hL i).1 (by simp)
        have ho : ops[i]? = some ops[i] := Array.getElem?_eq_getElem hiL.1
        have hr : i ∈ Region.ready .any ops listed := mem_ready.2 ⟨hiL.2, _, ho, fun e he hb => by
          have hk : e.on ∈ depsOf' ops i := by
            simp only [depsOf', ho, List.mem_map, List.mem_filter]
            exact ⟨e, ⟨by simpa using he, hb⟩, rfl⟩
          have hlt := hOK.deps i hiL.1 _ hk
          refine lof _ (by omega) (fun hm => ?_)
          rcases List.mem_cons.1 hm with hm | hm
          · omega
          · have := (List.pairwise_cons.1 hp).1 _ hm
            omega⟩
        rw [h0] at hr; cases hr
    · obtain ⟨h1, o, ho, _⟩ := mem_ready.1 hi
      have hiL : i ∈ L := (hL i).2 ⟨(Array.getElem?_eq_some_iff.1 ho).1, h1⟩
      obtain ⟨L1, L2, rfl⟩ := List.append_of_mem hiL
      have hlt1 : ∀ k ∈ L1, k < i := fun k hk => (List.pairwise_append.1 hp).2.2 k hk i (by simp)
      have hunl : ∀ k ∈ L1, listed.getD k false = true → False := fun k hk ht => by
        have := ((hL k).1 (by simp [hk])).2
        have hk' : k < listed.size := by have := ((hL k).1 (by simp [hk])).1; omega
        simp [hk'] at this ht
        rw [this] at ht; cases ht
      have hf := aSeqT_front ho L1 L2 st (fun k hk => ⟨by have := hlt1 k hk; omega, fun x hx => by
        rcases hOK.ind i k o x (hlt1 k hk) ho hx with h' | h'
        · exact (hunl k hk (ancGo'_listed hc i _ (ready_deps' hi) k h')).elim
        · exact h'⟩) (fun t ht s hr => rel_live hR t s hr) h
      obtain ⟨o', st', ho', hg, hrest⟩ := hf
      rw [ho] at ho'; injection ho' with ho'; subst ho'
      have hpw : (L1 ++ L2).Pairwise (· < ·) := by
        rw [List.pairwise_append] at hp ⊢
        exact ⟨hp.1, (List.pairwise_cons.1 hp.2.1).2, fun x hx y hy => hp.2.2 x hx y (by simp [hy])⟩
      have hni : i ∉ L1 ++ L2 := by
        intro hm
        rcases List.mem_append.1 hm with hm | hm
        · have := hlt1 i hm; omega
        · have := (List.pairwise_cons.1 (List.pairwise_append.1 hp).2.1).1 i hm; omega
      refine gst_ok ho hg.1 hR (dstB_spec hN ho) (fun M' ρ' a' w' hR' => ih (L1 ++ L2) _ st' M' ρ' a' w' (by simp at hl ⊢; omega) hpw (fun j => ?_) (by simpa using hsz) (hc.set hi) hrest hR')
      by_cases hji : j = i
      · subst hji
        have hjs : j < listed.size := by rw [hsz]; exact (Array.getElem?_eq_some_iff.1 ho).1
        constructor
        · intro hm; exact absurd hm hni
        · rintro ⟨_, hm⟩; simp [hjs] at hm
      · rw [getD_set_ne true (Ne.symm hji), ← hL j]
        simp [hji]
end
section
variable {P : Program} {BR : Nat → Bool} {C : Ctx} {st : St} {Q : Exit → St → Prop} {tbl : Tbl}
theorem aSeqT_seq {ops : Array Oper} {bs : Nat} {K : St → Prop} : ∀ {L : List Nat} {st : St}, aSeqT tbl P BR ops bs L st K → aSeq P BR ops bs L st K
  | [], _, h => h
  | _ :: _, _, ⟨o, st', h1, h2, h3⟩ => ⟨o, st', h1, h2.1, aSeqT_seq h3⟩
theorem AW_regionT {id : Nat} {ops : Array Oper} {draw : Bool} (hm : draw = true → P.follows .mixedOrders = true) (hN : dstB C.N ops = true) (hB : draw = true → regT tbl BR ops = true)
    (h : aSeqT tbl P BR ops st.bs (List.range ops.size) st (fun st' => Q .normal { st' with bs := st.bs + 16 * ops.size })) : AW P C (.region id ops draw) st Q := fun M ρ a w hR => by
  have hK : ∀ st' M' ρ' a' w', Q .normal { st' with bs := st.bs + 16 * ops.size } → Rel C M' ρ' st' a' w' → ∃ st' M' ρ', Q .normal st' ∧ Rel C M' ρ' st' a' w' := fun st' M' ρ' a' w' h1 h2 => ⟨_, M', ρ', h1, h2.next _⟩
  cases draw with
  | false => exact wp_region (aSeq_ops hN (Q := fun e a' w' => ∃ st' M' ρ', Q e st' ∧ Rel C M' ρ' st' a' w') hK _ _ _ _ _ _ _ (aSeqT_seq h) hR)
  | true =>
    refine wp_region_any (hm rfl) ?_
    refine aSeqT_any hN (ROKT.of (hB rfl)) (Q := fun e a' w' => ∃ st' M' ρ', Q e st' ∧ Rel C M' ρ' st' a' w') hK st.bs ops.size (List.range ops.size) _ st M ρ a _ (by simp) List.pairwise_lt_range (fun i => ?_) (by simp) (fun j hj => ?_) h hR.drew
    · constructor
      · intro hi
        have := List.mem_range.1 hi
        exact ⟨this, by simp [this]⟩
      · rintro ⟨hi, _⟩; exact List.mem_range.2 hi
    · rw [getD_replicate_false] at hj; cases hj

end
def aOT (l : List Nat) (P : Program) (BR : Nat → Bool) (site : Nat) (o : Oper) (st : St) (K : St → Prop) : Prop :=
  match cls BR o.op with
  | 0 => optK (aPure P st.ev o.op) fun v => K (st.put o.dst v)
  | 1 => oblL l st o.op ∧ optK (aMk P (FZ BR site) site st.ev st.rows o.op) fun v => (match v.2 with | some r => st.rows site = none ∧ K (({ st with rows := upd st.rows site (some r) } : St).put o.dst v.1) | none => K (st.put o.dst v.1))
  | 2 => match o.op with
    | .call c => match c.callee with
      | .value (.func f) => callK P f (evL st c.args.toList) st site o.dst K
      | _ => False
    | _ => False
  | 3 => optK (frzW (aWr P site st.ev st.rows o.op) (FZ BR site)) fun v => oblW l st (({ st with rows := v.2 } : St).put o.dst v.1) ∧ K (({ st with rows := v.2 } : St).put o.dst v.1)
  | 4 => match o.op with
    | .call c => match c.callee with
      | .value (.func f) => refK P f (evL st c.args.toList) st site o.dst fun st' => oblW l st st' ∧ K st'
      | _ => False
    | _ => False
  | _ => False
def aGT (l : List Nat) (P : Program) (BR : Nat → Bool) (ops : List Oper) (site : Nat) (o : Oper) (st : St) (K : St → Prop) : Prop :=
  match o.guard with
  | none => aOT l P BR site o st K
  | some (g, want) => match (ops[g]?).bind (·.dst) with
    | some t => match st.tmps t with
      | .bool b => gK b want (aOT l P BR site o st K) (K (st.put o.dst (.tup [])))
      | .tup [] => K (st.put o.dst (.tup []))
      | _ => False
    | none => False
def aRunT (tbl : Tbl) (P : Program) (BR : Nat → Bool) (ops : List Oper) (bs : Nat) : Nat → List Oper → St → (St → Prop) → Prop
  | _, [], st, K => K st
  | i, o :: l, st, K => aGT (tget tbl i) P BR ops (bs + 16 * i) o st (fun st' => aRunT tbl P BR ops bs (i + 1) l st' K)

section
variable {P : Program} {BR : Nat → Bool} {ops : List Oper} {tbl : Tbl}
theorem aOT_stp {l : List Nat} {site : Nat} {o : Oper} {st : St} {K : St → Prop} (h : aOT l P BR site o st K) : ∃ st', Stp P BR site o st st' ∧ propT BR l o st st' ∧ K st' := by
  unfold aOT at h
  have nol : cls BR o.op ≠ 1 → oblL l st o.op := fun hc => by
    by_cases hl : isLoad o.op = true
    · exact absurd (load_cls hl) hc
    · cases hop : o.op <;> rw [hop] at hl <;> first | trivial | exact absurd rfl hl
  split at h
  · rename_i hc
    obtain ⟨v, h1, h2⟩ := optK_some h
    simp only [Stp, hc]
    exact ⟨_, ⟨v, h1, rfl⟩, ⟨nol (by omega), fun h => by omega⟩, h2⟩
  · rename_i hc
    obtain ⟨h0, h⟩ := h
    obtain ⟨v, h1, h2⟩ := optK_some h
    obtain ⟨v, nw⟩ := v
    simp only [Stp, hc]
    cases nw with
    | none => exact ⟨_, ⟨v, none, h1, by simp, rfl⟩, ⟨h0, fun h => by omega⟩, h2⟩
    | some r => exact ⟨_, ⟨v, some r, h1, fun _ => h2.1, rfl⟩, ⟨h0, fun h => by omega⟩, h2.2⟩
  · rename_i hc
    simp only [Stp, hc]
    split at h
    · rename_i c hop
      split at h
      · rename_i f hcal
        obtain ⟨lnd, ret, mem', h1, h2, h3, h4, h5, h6⟩ := h
        refine ⟨_, ⟨c, f, lnd, ret, mem', hop, hcal, h1, List.nodup_nil, by simp, ?_, by simp, h3, by simpa using h4, by simpa using h5, rfl⟩, ⟨nol (by omega), fun h => by omega⟩, ?_⟩
        · rw [evL_map, List.map_map] at h2; exact h2
        · rw [rowsAfter_nil]; exact h6
      · exact h.elim
    · exact h.elim
  · rename_i hc
    obtain ⟨v, h1, h2⟩ := optK_some h
    obtain ⟨v, rows'⟩ := v
    simp only [Stp, hc]
    exact ⟨_, ⟨v, rows', h1, rfl⟩, ⟨nol (by omega), fun _ => h2.1⟩, h2.2⟩
  · rename_i hc
    simp only [Stp, hc]
    split at h
    · rename_i c hop
      split at h
      · rename_i f hcal
        obtain ⟨ι, lnd, ret, mem', h1, h2, h3, h4, h5, h6, h7, h8, h9⟩ := h
        refine ⟨_, ⟨ι, c, f, lnd, ret, mem', hop, hcal, h1, h2, h3, ?_, h5, h6, h7, h8, rfl⟩, ⟨nol (by omega), fun _ => h9.1⟩, h9.2⟩
        rw [evL_map, List.map_map] at h4; exact h4
      · exact h.elim
    · exact h.elim
  · exact h.elim
theorem aGT_gst {k site : Nat} {o : Oper} {st : St} {K : St → Prop} (h : aGT (tget tbl k) P BR ops site o st K) (hu : o.guard = none ∨ tget tbl k = []) : ∃ st', GstT tbl P BR ops.toArray k site o st st' ∧ K st' := by
  unfold aGT at h
  split at h
  · rename_i hg
    obtain ⟨st', h1, h2, h3⟩ := aOT_stp h
    exact ⟨st', ⟨by simp only [Gst, hg]; exact h1, h2⟩, h3⟩
  · rename_i g want hg
    have he : tget tbl k = [] := by
      rcases hu with h | h
      · rw [hg] at h; cases h
      · exact h
    have pT : ∀ st st', propT BR (tget tbl k) o st st' := fun st st' => ⟨by
      rw [he]
      cases o.op <;> first | trivial | exact .inl rfl, fun _ => .inl (by rw [he]; rfl)⟩
    split at h
    · rename_i t ht
      split at h
      · rename_i b hb
        by_cases e : b = want
        · obtain ⟨st', h1, h2, h3⟩ := aOT_stp (h.1 e)
          exact ⟨st', ⟨by simp only [Gst, hg]; exact ⟨t, by simpa using ht, .inl ⟨by rw [hb, e], h1⟩⟩, pT _ _⟩, h3⟩
        · exact ⟨_, ⟨by simp only [Gst, hg]; exact ⟨t, by simpa using ht, .inr ⟨.inr ⟨b, hb, e⟩, by trivial⟩⟩, pT _ _⟩, h.2 (by cases b <;> cases want <;> simp_all)⟩
      · rename_i hb
        exact ⟨_, ⟨by simp only [Gst, hg]; exact ⟨t, by simpa using ht, .inr ⟨.inl hb, by trivial⟩⟩, pT _ _⟩, h⟩
      · exact h.elim
    · exact h.elim
def tblOK (tbl : Tbl) : Nat → List Oper → Bool
  | _, [] => true
  | i, o :: l => (o.guard.isNone || (tget tbl i).isEmpty) && tblOK tbl (i + 1) l
theorem aRunT_seq {bs : Nat} {K : St → Prop} : ∀ (l : List Oper) (i : Nat) (st : St), (∀ j, l[j]? = ops[i + j]?) → tblOK tbl i l = true → aRunT tbl P BR ops bs i l st K → aSeqT tbl P BR ops.toArray bs (List.range' i l.length) st K
  | [], i, st, _, _, h => h
  | o :: l, i, st, hl, hu, h => by
    simp only [tblOK, Bool.and_eq_true, Bool.or_eq_true, Option.isNone_iff_eq_none, List.isEmpty_iff] at hu
    obtain ⟨st', h1, h2⟩ := aGT_gst h hu.1
    have h0 : ops[i]? = some o := by simpa using (hl 0).symm
    rw [List.length_cons, List.range'_succ]
    exact ⟨o, st', by simpa using h0, h1, aRunT_seq l (i + 1) st' (fun j => by have := hl (j + 1); simpa [Nat.add_assoc, Nat.add_comm 1 j] using this) hu.2 h2⟩
end
section
variable (tbl : Tbl) (P : Program) (BR : Nat → Bool) (ops : List Oper) (bs i : Nat) (o : Oper) (l : List Oper) (st : St) (K : St → Prop)
def rVT (x : Option AV) : Prop := optK x fun v => aRunT tbl P BR ops bs (i + 1) l (st.put o.dst v) K
def rFT (x : Option Row) (v : AV) (r : Row) : Prop := x = none ∧ aRunT tbl P BR ops bs (i + 1) l (({ st with rows := upd st.rows (bs + 16 * i) (some r) } : St).put o.dst v) K
def rMT (x : Option (AV × Option Row)) : Prop := oblL (tget tbl i) st o.op ∧ optK x fun v => (match v.2 with | some r => st.rows (bs + 16 * i) = none ∧ aRunT tbl P BR ops bs (i + 1) l (({ st with rows := upd st.rows (bs + 16 * i) (some r) } : St).put o.dst v.1) K | none => aRunT tbl P BR ops bs (i + 1) l (st.put o.dst v.1) K)
def rWT (x : Option (AV × (Nat → Option Row))) : Prop := optK x fun v => oblW (tget tbl i) st (({ st with rows := v.2 } : St).put o.dst v.1) ∧ aRunT tbl P BR ops bs (i + 1) l (({ st with rows := v.2 } : St).put o.dst v.1) K
def rCT (f : FuncId) (args : List AV) (dst : Option Tmp) : Prop := callK P f args st (bs + 16 * i) dst fun st' => aRunT tbl P BR ops bs (i + 1) l st' K
def rRT (f : FuncId) (args : List AV) (dst : Option Tmp) : Prop := refK P f args st (bs + 16 * i) dst fun st' => oblW (tget tbl i) st st' ∧ aRunT tbl P BR ops bs (i + 1) l st' K
def rOT (c : Nat) : Prop := match c with
  | 0 => rVT tbl P BR ops bs i o l st K (aPure P st.ev o.op)
  | 1 => rMT tbl P BR ops bs i o l st K (aMk P (FZ BR (bs + 16 * i)) (bs + 16 * i) st.ev st.rows o.op)
  | 2 => match o.op with
    | .call c => match c.callee with
      | .value (.func f) => rCT tbl P BR ops bs i l st K f (evL st c.args.toList) o.dst
      | _ => False
    | _ => False
  | 3 => rWT tbl P BR ops bs i o l st K (frzW (aWr P (bs + 16 * i) st.ev st.rows o.op) (FZ BR (bs + 16 * i)))
  | 4 => match o.op with
    | .call c => match c.callee with
      | .value (.func f) => rRT tbl P BR ops bs i l st K f (evL st c.args.toList) o.dst
      | _ => False
    | _ => False
  | _ => False
def rKT (b want : Bool) : Prop := gK b want (rOT tbl P BR ops bs i o l st K (cls BR o.op)) (aRunT tbl P BR ops bs (i + 1) l (st.put o.dst (.tup [])) K)
def rAT (a : AV) (want : Bool) : Prop := match a with
  | .bool b => rKT tbl P BR ops bs i o l st K b want
  | .tup [] => aRunT tbl P BR ops bs (i + 1) l (st.put o.dst (.tup [])) K
  | _ => False
def rBT (t : Option Tmp) (want : Bool) : Prop := match t with
  | some t => rAT tbl P BR ops bs i o l st K (st.tmps t) want
  | none => False
def rGT (g : Option (Nat × Bool)) : Prop := match g with
  | none => rOT tbl P BR ops bs i o l st K (cls BR o.op)
  | some (j, want) => rBT tbl P BR ops bs i o l st K ((ops[j]?).bind (·.dst)) want
theorem aRunT_nil : aRunT tbl P BR ops bs i [] st K = K st := (rfl)
theorem aRunT_cons : aRunT tbl P BR ops bs i (o :: l) st K = rGT tbl P BR ops bs i o l st K o.guard := (rfl)
theorem rGT_none : rGT tbl P BR ops bs i o l st K none = rOT tbl P BR ops bs i o l st K (cls BR o.op) := (rfl)
theorem rGT_some (j : Nat) (want : Bool) : rGT tbl P BR ops bs i o l st K (some (j, want)) = rBT tbl P BR ops bs i o l st K ((ops[j]?).bind (·.dst)) want := (rfl)
theorem rBT_some (t : Tmp) (want : Bool) : rBT tbl P BR ops bs i o l st K (some t) want = rAT tbl P BR ops bs i o l st K (st.tmps t) want := (rfl)
theorem rAT_bool (b want : Bool) : rAT tbl P BR ops bs i o l st K (.bool b) want = rKT tbl P BR ops bs i o l st K b want := (rfl)
theorem rAT_off (want : Bool) : rAT tbl P BR ops bs i o l st K (.tup []) want = aRunT tbl P BR ops bs (i + 1) l (st.put o.dst (.tup [])) K := (rfl)
theorem rKT_tt : rKT tbl P BR ops bs i o l st K true true = rOT tbl P BR ops bs i o l st K (cls BR o.op) := gK_tt _ _
theorem rKT_ff : rKT tbl P BR ops bs i o l st K false false = rOT tbl P BR ops bs i o l st K (cls BR o.op) := gK_ff _ _
theorem rKT_tf : rKT tbl P BR ops bs i o l st K true false = aRunT tbl P BR ops bs (i + 1) l (st.put o.dst (.tup [])) K := gK_tf _ _
theorem rKT_ft : rKT tbl P BR ops bs i o l st K false true = aRunT tbl P BR ops bs (i + 1) l (st.put o.dst (.tup [])) K := gK_ft _ _
theorem rOT_0 : rOT tbl P BR ops bs i o l st K 0 = rVT tbl P BR ops bs i o l st K (aPure P st.ev o.op) := (rfl)
theorem rOT_1 : rOT tbl P BR ops bs i o l st K 1 = rMT tbl P BR ops bs i o l st K (aMk P (FZ BR (bs + 16 * i)) (bs + 16 * i) st.ev st.rows o.op) := (rfl)
theorem rOT_3 : rOT tbl P BR ops bs i o l st K 3 = rWT tbl P BR ops bs i o l st K (frzW (aWr P (bs + 16 * i) st.ev st.rows o.op) (FZ BR (bs + 16 * i))) := (rfl)
theorem rOT_2 (d : Option Tmp) (f : FuncId) (args : Array Operand) (tys : Array TypeId) (t : TypeId) (p : String) (af : Array Edge) (g : Option (Nat × Bool)) :
    rOT tbl P BR ops bs i ⟨d, .call ⟨.value (.func f), args, tys⟩, t, p, af, g⟩ l st K 2 = rCT tbl P BR ops bs i l st K f (evL st args.toList) d := (rfl)
theorem rOT_4 (d : Option Tmp) (f : FuncId) (args : Array Operand) (tys : Array TypeId) (t : TypeId) (p : String) (af : Array Edge) (g : Option (Nat × Bool)) :
    rOT tbl P BR ops bs i ⟨d, .call ⟨.value (.func f), args, tys⟩, t, p, af, g⟩ l st K 4 = rRT tbl P BR ops bs i l st K f (evL st args.toList) d := (rfl)
theorem rVT_some (v : AV) : rVT tbl P BR ops bs i o l st K (some v) = aRunT tbl P BR ops bs (i + 1) l (st.put o.dst v) K := (rfl)
theorem rMT_none (v : AV) : rMT tbl P BR ops bs i o l st K (some (v, none)) = (oblL (tget tbl i) st o.op ∧ aRunT tbl P BR ops bs (i + 1) l (st.put o.dst v) K) := (rfl)
theorem rMT_some (v : AV) (r : Row) : rMT tbl P BR ops bs i o l st K (some (v, some r)) = (oblL (tget tbl i) st o.op ∧ rFT tbl P BR ops bs i o l st K (st.rows (bs + 16 * i)) v r) := (rfl)
theorem rFT_none (v : AV) (r : Row) : rFT tbl P BR ops bs i o l st K none v r = aRunT tbl P BR ops bs (i + 1) l (({ st with rows := upd st.rows (bs + 16 * i) (some r) } : St).put o.dst v) K := by simp [rFT]
theorem rWT_some (v : AV) (rows : Nat → Option Row) : rWT tbl P BR ops bs i o l st K (some (v, rows)) = (oblW (tget tbl i) st (({ st with rows := rows } : St).put o.dst v) ∧ aRunT tbl P BR ops bs (i + 1) l (({ st with rows := rows } : St).put o.dst v) K) := (rfl)
end
section
variable {P : Program} {BR : Nat → Bool} {ops : List Oper} {C : Ctx} {Q : Exit → St → Prop} {T : Nat → AV} {R : Nat → Option Row} {b : Nat}
theorem AW_regT {st : St} (tbl : Tbl) {id : Nat} {draw : Bool} (hu : tblOK tbl 0 ops = true) (hm : P.follows .mixedOrders = true) (hN : dstB C.N ops.toArray = true) (hB : (!draw || regT tbl BR ops.toArray) = true)
    (h : aRunT tbl P BR ops st.bs 0 ops st (fun st' => Q .normal { st' with bs := st.bs + 16 * ops.length })) : AW P C (.region id ops.toArray draw) st Q :=
  AW_regionT (BR := BR) (tbl := tbl) (fun _ => hm) hN (fun e => by rw [e] at hB; simpa using hB) (by
    have := aRunT_seq ops 0 st (by simp) hu h
    rw [← List.range_eq_range'] at this
    simpa using this)
theorem AW_rsT (tbl : Tbl) {id : Nat} {draw : Bool} {y : Code} (hu : tblOK tbl 0 ops = true) (hm : P.follows .mixedOrders = true) (hN : dstB C.N ops.toArray = true) (hB : (!draw || regT tbl BR ops.toArray) = true)
    (h : ∀ K : St → Prop, (∀ T' R' b', AW P C y (St.mk T' R' (b + 1024)) Q → K (St.mk T' R' b')) → aRunT tbl P BR ops b 0 ops (St.mk T R b) K) : AW P C (.seq (.region id ops.toArray draw) y) (St.mk T R b) Q :=
  AW_seq fun M ρ a w hR => by
    have := h (fun st' => AW P C y (St.mk st'.tmps st'.rows (b + 1024)) Q) (fun T' R' b' h => h)
    refine AW_regT (BR := BR) (Q := thenA (fun st' => AW P C y (St.mk st'.tmps st'.rows (b + 1024)) Q) Q) tbl hu hm hN hB this M ρ a w hR |> Code.wp_mono ?_
    rintro e a' w' ⟨st', M', ρ', h1, h2⟩
    cases e with
    | normal => exact ⟨St.mk st'.tmps st'.rows (b + 1024), M', ρ', h1, h2.next _⟩
    | _ => exact ⟨st', M', ρ', h1, h2⟩
theorem AW_reT (tbl : Tbl) {id : Nat} {draw : Bool} (hu : tblOK tbl 0 ops = true) (hm : P.follows .mixedOrders = true) (hN : dstB C.N ops.toArray = true) (hB : (!draw || regT tbl BR ops.toArray) = true)
    (h : ∀ K : St → Prop, (∀ T' R' b', Q .normal (St.mk T' R' (b + 1024)) → K (St.mk T' R' b')) → aRunT tbl P BR ops b 0 ops (St.mk T R b) K) : AW P C (.region id ops.toArray draw) (St.mk T R b) Q := fun M ρ a w hR => by
  have := h (fun st' => Q .normal (St.mk st'.tmps st'.rows (b + 1024))) (fun T' R' b' h => h)
  refine AW_regT (BR := BR) (Q := thenA (fun st' => Q .normal (St.mk st'.tmps st'.rows (b + 1024))) Q) tbl hu hm hN hB this M ρ a w hR |> Code.wp_mono ?_
  rintro e a' w' ⟨st', M', ρ', h1, h2⟩
  cases e with
  | normal => exact ⟨St.mk st'.tmps st'.rows (b + 1024), M', ρ', h1, h2.next _⟩
  | _ => exact ⟨st', M', ρ', h1, h2⟩
variable {st : St}
variable {bs i : Nat} {l : List Oper} {K : St → Prop} {f : FuncId} {args args' : List AV} {dst : Option Tmp} {ret : AV} {mem mem' : List Row}
/-- A call: nothing lent, or what comes back needs no immutable cells. -/
theorem rCT_p (tbl : Tbl) (hS : Spec P f args' [] ret mem') (ha : cvA (args.map (pass2 [] fun _ => none)) args') (hl : mem'.length ≤ 16)
    (hs : ∀ j, j < mem'.length → st.rows (bs + 16 * i + j) = none) (hK : aRunT tbl P BR ops bs (i + 1) l (({ st with rows := addRows st.rows (bs + 16 * i) (mem'.map (Row.ren (mId [] (bs + 16 * i)))) } : St).put dst (ren3 (mId [] (bs + 16 * i)) ret)) K) : rCT tbl P BR ops bs i l st K f args dst :=
  callK_plain (hS.le ha trivial) hl hs hK
theorem rCT_l (tbl : Tbl) (hS : Spec P f args' [] ret mem') (ha : cvA (args.map (pass2 [] st.rows)) args') (hf : fr3 ret ∧ frRs mem') (hl : mem'.length ≤ 16)
    (hs : ∀ j, j < mem'.length → st.rows (bs + 16 * i + j) = none) (hK : aRunT tbl P BR ops bs (i + 1) l (({ st with rows := addRows st.rows (bs + 16 * i) (mem'.map (Row.ren (mId [] (bs + 16 * i)))) } : St).put dst (ren3 (mId [] (bs + 16 * i)) ret)) K) : rCT tbl P BR ops bs i l st K f args dst :=
  callK_lend (hS.le ha trivial) ⟨fr3_ok hf.1, frRs_ok hf.2⟩ hl hs hK
theorem rRT_p (tbl : Tbl) (ι : List Nat) (hS : Spec P f args' mem ret mem') (ha : cvA (args.map (pass2 ι fun _ => none)) args') (hm : cvRs (ι.map (passRow ι (fun _ => none) st.rows)) mem) (hn : nodB ι = true) (hι : ∀ s ∈ ι, solidO (st.rows s)) (hle : ι.length ≤ mem'.length) (hl : mem'.length - ι.length ≤ 16)
    (hs : ∀ j, j < mem'.length - ι.length → st.rows (bs + 16 * i + j) = none) (hK : oblW (tget tbl i) st (({ st with rows := rowsAfter ι (bs + 16 * i) st.rows mem' } : St).put dst (ren3 (mId ι (bs + 16 * i)) ret)) ∧ aRunT tbl P BR ops bs (i + 1) l (({ st with rows := rowsAfter ι (bs + 16 * i) st.rows mem' } : St).put dst (ren3 (mId ι (bs + 16 * i)) ret)) K) : rRT tbl P BR ops bs i l st K f args dst :=
  ⟨ι, _, ret, mem', (fun _ _ h => by cases h), nodB_spec hn, fun s hs => by
    have := hι s hs
    unfold solidO at this
    split at this
    · exact ⟨_, by assumption, rfl⟩
    · exact ⟨_, by assumption, rfl⟩
    · exact this.elim, hS.le ha hm, hle, .inl (fun _ => rfl), hl, hs, hK⟩
end
end Go.Proofs.Ytfpfalknddfejaa
