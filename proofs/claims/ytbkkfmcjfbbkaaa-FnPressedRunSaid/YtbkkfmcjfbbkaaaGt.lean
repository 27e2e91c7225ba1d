/- The engine: an own slice cut short (s = s[:k]) in a region whose order is not drawn. Over any program. -/
import Derived.Test.YtbkkfmcjfbbkaaaGb
namespace Go.Proofs.Ytbkkfmcjfbbkaaa
open Go.RowKit
set_option maxRecDepth 100000
set_option linter.unusedVariables false
set_option linter.unusedSimpArgs false
section
variable {P : Program} {BR : Nat → Bool} {C : Ctx} {M : Imm} {ρ : Plc} {st : St} {a : Act} {w : World}
theorem ownsRow_take {w : World} {base : Nat} {e : TypeId} {sz g cap n k : Nat} {xs : List Value} (h : w.ownsRow base e sz (.slice (some ⟨g, 0, none⟩) n cap) n xs) (hk : k ≤ n) :
    w.ownsRow base e sz (.slice (some ⟨g, 0, none⟩) k cap) k (xs.take (k * sz)) := by
  obtain ⟨h1, h2⟩ := h
  have hm : k * sz ≤ n * sz := Nat.mul_le_mul_right _ hk
  rcases h2 with ⟨h0, _⟩ | ⟨g', cap', cur, hv, hb, hg, hn, hcap, hsz, htake⟩
  · cases h0
  · cases hv
    refine ⟨by rw [List.length_take]; omega, .inr ⟨g, cap, cur, rfl, hb, hg, by omega, hcap, hsz, ?_⟩⟩
    rw [← htake, List.take_take, Nat.min_eq_left hm]
theorem trunc_ok {o : Oper} {t : TypeId} {x hi : Operand} (hop : o.op = .slice t x none (some hi) none) {e : TypeId} {sz' : Nat} (he : elA P t = some (e, sz')) {site s n : Nat} {E : TypeId} {sz : Nat} {cs : List AV} {k : Int}
    (hx : st.ev x = .own s n) (hh : st.ev hi = .int .i64 k) (hk : 0 ≤ k ∧ k < n) (hr : st.rows s = some (.row E sz cs)) (hs : st.rows site = none) (hR : Rel C M ρ st a w) (hd : ∀ k, o.dst = some k → k < C.N) :
    ∃ z ρ', (execOp a.eval o).run P w = .ok (.value z) w ∧ Rel C M ρ' (({ st with rows := upd (upd st.rows s (some .gone)) site (some (.row E sz (cs.take (k.toNat * sz)))) } : St).put o.dst (.own site k.toNat)) (a.put o.dst z) w := by
  have ex := hR.ev x
  rw [hx] at ex
  have eh := hR.ev hi
  rw [hh] at eh
  have eh := eh.int_inv
  obtain ⟨g, cap, ⟨hρ, hv⟩ | ⟨_, hn, _⟩⟩ := ex.own_inv
  rotate_left
  · omega
  obtain ⟨y, hy, hY⟩ := hR.mr.row s _ hr rfl
  rw [hρ] at hy; injection hy with hy; subst hy
  rcases hY with ⟨hn1, _⟩ | ⟨_, xs, h1, h2, h3, h4⟩
  · cases hn1
  simp only at h1
  obtain ⟨inf, hu, hinf, hsz⟩ := elA_inv he
  have hcap : n ≤ cap := by
    rcases h1.2 with ⟨h0, _⟩ | ⟨g', cap', cur, hv', _, _, hn, _⟩
    · cases h0
    · cases hv'; exact hn
  have h1' := ownsRow_take h1 (k := k.toNat) (by omega)
  have hsx : s ≠ site := fun e => by rw [e, hs] at hr; cases hr
  have bnd : (Instr.sliceBounds true n cap (none : Option Value) (some (.int .i64 k)) none).run P w = .ok (0, k.toNat, cap) w := by
    have c1 : k ≤ (cap : Int) := by omega
    simp [Instr.sliceBounds, Instr.sliceBound, asIntOf, c1, hk.1]
  have hrun : (execOp a.eval o).run P w = .ok (.value (.slice (some ⟨g, 0, none⟩) k.toNat cap)) w := by
    have h0 : Instr.sliceAt t (.slice (some ⟨g, 0, none⟩) n cap) none (some (.int .i64 k)) none = (do
                    match ← underlying t with
                    | .array n' elem =>
                      let a ← Instr.sureAddr (.slice (some ⟨g, 0, none⟩) n cap)
                      let (l, h, m) ← Instr.sliceBounds false n' n' none (some (.int .i64 k)) none
                      let size ← sizeOf elem
                      pure (.slice (some (if m = l then a else a.add (l * size))) (h - l) (m - l))
                    | _ => Instr.slice t (.slice (some ⟨g, 0, none⟩) n cap) none (some (.int .i64 k)) none) := rfl
    have hsl : (Instr.sliceAt t (.slice (some ⟨g, 0, none⟩) n cap) none (some (.int .i64 k)) none).run P w = .ok (.slice (some ⟨g, 0, none⟩) k.toNat cap) w := by
      have hc0 : ¬ cap = 0 := by omega
      simp [h0, Instr.sliceAt, run_underlying hu, Instr.slice, bnd, sizeOf, typeInfo, hinf, hsz, hc0, Addr.add]
    unfold execOp
    simp [hop, hv, eh, hsl]
  have hgone := hR.set (r' := .gone) (w' := w) hr rfl hρ rfl ⟨rfl, rfl, rfl, Nat.le_refl _, fun _ _ _ => rfl⟩ (fun h => by cases h)
  have hA := hgone.addAt (s := site) (r := .row E sz (cs.take (k.toNat * sz))) (x := ⟨g, k.toNat, cap, false⟩) (by show upd st.rows s (some .gone) site = none; rw [upd_ne _ _ (Ne.symm hsx)]; exact hs)
    (fun _ => .inr ⟨rfl, xs.take (k.toNat * sz), h1', by rw [List.length_take, List.length_take, h2], fun v hv => h3 v (List.mem_of_mem_take hv), fun i c q hc hq => by
      rw [List.getElem?_take] at hc hq
      split at hc
      · rename_i hi'; rw [if_pos hi'] at hq; exact h4 i c q hc hq
      · cases hc⟩) (fun j q y hj hq hy hn1 _ => by
      have hj : upd st.rows s (some .gone) j = some q := hj
      have hjk : j ≠ s := fun e => by rw [e, upd_same] at hj; injection hj with hj; subst hj; cases hq
      rw [upd_ne _ _ hjk] at hj
      have hne := hR.mr.inj j s q _ y _ hj hr hq rfl hy hρ hjk hn1 rfl
      simp only at hne ⊢
      exact hne) (fun b o v hM _ => by
      have hne := hR.mr.apt b o v s _ _ hM hr rfl hρ rfl
      simp only at hne ⊢
      exact hne) (fun _ => by
      have := hR.new s _ _ hr rfl hρ rfl
      exact this)
  exact ⟨_, _, hrun, hA.put (.own site g k.toNat cap (upd_same _ _ _)) hd⟩
theorem aSeq_opsK {ops : Array Oper} (hN : dstB C.N ops = true) {Q : Exit → Act → World → Prop} {K : St → Prop} (L2 : List Nat) (hK : ∀ st' M' ρ' a' w', K st' → Rel C M' ρ' st' a' w' → wpOps P ops Q L2 a' w') :
    ∀ (L : List Nat) (bs : Nat) (st : St) (M : Imm) (ρ : Plc) (a : Act) (w : World), aSeq P BR ops bs L st K → Rel C M ρ st a w → wpOps P ops Q (L ++ L2) a w
  | [], bs, st, M, ρ, a, w, h, hR => hK _ _ _ _ _ h hR
  | i :: L, bs, st, M, ρ, a, w, h, hR => by
    obtain ⟨o, st', ho, hg, h⟩ := h
    rw [List.cons_append, wpOps_cons]
    exact gst_ok ho hg hR (dstB_spec hN ho) (fun M' ρ' a' w' hR' => aSeq_opsK hN L2 hK L bs st' M' ρ' a' w' h hR')
theorem aRun_seq2 {ops : List Oper} {bs : Nat} {K : St → Prop} : ∀ (l : List Oper) (i : Nat) (st : St), (∀ j, j < l.length → l[j]? = ops[i + j]?) → aRun P BR ops bs i l st K → aSeq P BR ops.toArray bs (List.range' i l.length) st K
  | [], i, st, _, h => h
  | o :: l, i, st, hl, h => by
    obtain ⟨st', h1, h2⟩ := aG_gst h
    have h0 : ops[i]? = some o := by simpa using (hl 0 (by simp)).symm
    rw [List.length_cons, List.range'_succ]
    exact ⟨o, st', by simpa using h0, h1, aRun_seq2 l (i + 1) st' (fun j hj => by have := hl (j + 1) (by simpa using hj); simpa [Nat.add_assoc, Nat.add_comm 1 j] using this) h2⟩
/-- The step that cuts. -/
def trK (site : Nat) (x hi : Operand) (dst : Option Tmp) (st : St) (K : St → Prop) : Prop :=
  ∃ s n E sz cs k, st.ev x = .own s n ∧ st.ev hi = .int .i64 k ∧ (0 ≤ k ∧ k < (n : Int)) ∧ st.rows s = some (.row E sz cs) ∧ st.rows site = none ∧
    K (({ st with rows := upd (upd st.rows s (some .gone)) site (some (.row E sz (cs.take (k.toNat * sz)))) } : St).put dst (.own site k.toNat))
theorem trK_mk {α : Type} {e : α → List AV} {sz : Nat} {l v : List α} {k : Int} {site s : Nat} {x hi : Operand} {dst : Option Tmp} {K : St → Prop} {E : TypeId} (he : ∀ x, (e x).length = sz) (hq : slc l 0 k = some v) (hlt : k < (l.length : Int))
    (hx : st.ev x = .own s l.length) (hh : st.ev hi = .int .i64 k) (hr : st.rows s = some (.row E sz (encL e l))) (hs : st.rows site = none)
    (hK : K (({ st with rows := upd (upd st.rows s (some .gone)) site (some (.row E sz (encL e v))) } : St).put dst (.own site v.length))) : trK site x hi dst st K := by
  obtain ⟨⟨h1, h2, h3⟩, h4, h5⟩ := slc_E he hq
  refine ⟨s, l.length, E, sz, encL e l, k, hx, hh, ⟨h2, hlt⟩, hr, hs, ?_⟩
  have e0 : k.toNat = v.length := by simpa using h5
  have e1 : (encL e l).take (k.toNat * sz) = encL e v := by rw [e0]; simpa using h4
  rw [e1, e0]
  exact hK
theorem AW_trunc {Q : Exit → St → Prop} {id : Nat} {y : Code} {ops : List Oper} (l1 : List Oper) (o : Oper) (l2 : List Oper) {t : TypeId} {x hi : Operand} {T : Nat → AV} {R : Nat → Option Row} {b : Nat} (site i1 : Nat) (hsite : site = b + 16 * l1.length) (hi1 : i1 = l1.length + 1) (hops : ops = l1 ++ o :: l2) (hg : o.guard = none) (hop : o.op = .slice t x none (some hi) none) {e : TypeId} {sz' : Nat} (he : elA P t = some (e, sz'))
    (hN : dstB C.N ops.toArray = true)
    (h : ∀ K : St → Prop, (∀ T' R' b', AW P C y (St.mk T' R' (b + 1024)) Q → K (St.mk T' R' b')) → aRun P BR ops b 0 l1 (St.mk T R b) fun st1 => trK site x hi o.dst st1 fun st2 => aRun P BR ops b i1 l2 st2 K) :
    AW P C (.seq (.region id ops.toArray false) y) (St.mk T R b) Q := AW_seq fun M ρ a w hR => by
  subst hsite hi1
  have h := h (fun st' => AW P C y (St.mk st'.tmps st'.rows (b + 1024)) Q) (fun T' R' b' h => h)
  have hlen : ops.length = l1.length + (1 + l2.length) := by rw [hops]; simp; omega
  have e1 : List.range ops.toArray.size = List.range' 0 l1.length ++ (l1.length :: List.range' (l1.length + 1) l2.length) := by
    rw [List.size_toArray, List.range_eq_range', hlen, ← List.range'_append_1, Nat.zero_add, Nat.add_comm 1, List.range'_succ]
  refine wp_region ?_
  rw [e1]
  have s1 := aRun_seq2 l1 0 _ (fun j hj => by rw [hops, Nat.zero_add, List.getElem?_append_left hj]) h
  refine aSeq_opsK (K := fun st1 => trK (b + 16 * l1.length) x hi o.dst st1 fun st2 => aRun P BR ops b (l1.length + 1) l2 st2 _) hN _ (fun st1 M1 ρ1 a1 w1 ht hR1 => ?_) _ _ _ M ρ a w s1 hR
  obtain ⟨s, n, E, sz, cs, k, hx, hh, hk, hr, hs, h2⟩ := ht
  have ho : ops.toArray[l1.length]? = some o := by rw [hops]; simp
  obtain ⟨z, ρ', hu, hU⟩ := trunc_ok hop he hx hh hk hr hs hR1 (dstB_spec hN ho)
  rw [wpOps_cons]
  unfold wpOp
  simp only [ho]
  have hw : Region.wanted o (yielded ops.toArray a1.tmps) = true := by simp [Region.wanted, hg]
  rw [if_pos hw]
  refine .inl ?_
  unfold Oper.wp
  rw [hu]
  have s2 := aRun_seq2 l2 (l1.length + 1) _ (fun j hj => by
    rw [hops, List.getElem?_append_right (by omega), show l1.length + 1 + j - l1.length = j + 1 by omega, List.getElem?_cons_succ]) h2
  refine aSeq_ops hN (Q := fun e a' w' => ∃ st' M' ρ', thenA (fun st' => AW P C y st' Q) Q e st' ∧ Rel C M' ρ' st' a' w') (fun st' M' ρ' a' w' h1 h2 => ?_) _ _ _ _ _ _ _ s2 hU
  exact ⟨St.mk st'.tmps st'.rows (b + 1024), M', ρ', h1, h2.next _⟩
end
end Go.Proofs.Ytbkkfmcjfbbkaaa
