/- The engine, part 4: operations that only reckon. Over any program. -/
import Derived.Test.YtfpfalknddfejaaEc
namespace Go.Proofs.Ytfpfalknddfejaa
open Go.RowKit
set_option linter.unusedVariables false
set_option linter.unusedSimpArgs false

section
variable {P : Program} {M : Imm} {ρ : Plc}
theorem eqGuard_int (op : BinOp) (t : TypeId) (x y : Operand) (k k' : IntKind) (a b : Int) (w : World) : (eqGuard op t x y (.int k a) (.int k' b)).run P w = .ok () w := by
  cases op <;> rfl
theorem eqGuard_bool (op : BinOp) (t : TypeId) (x y : Operand) (a b : Bool) (w : World) : (eqGuard op t x y (.bool a) (.bool b)).run P w = .ok () w := by
  cases op <;> rfl
theorem int_ok {op : BinOp} {t : TypeId} {k k' : IntKind} {a b : Int} {r : AV} (h : intA op k a k' b = some r) (w : World) :
    ∃ v, (binOp op t (.int k a) (.int k' b)).run P w = .ok v w ∧ PV M r v := by
  cases op <;> simp only [intA] at h <;> split at h <;> first | (cases h; done) | skip
  all_goals
    rename_i hc
    injection h with h
    subst h
    first
      | (obtain ⟨rfl, hb⟩ := hc
         refine ⟨_, ?_, by first | exact .int _ _ | exact .bool _⟩
         simp [binOp, Op.intDiv, hb]
         try rfl)
      | (subst hc
         refine ⟨_, ?_, by first | exact .int _ _ | exact .bool _⟩
         first
           | (simp only [binOp, ne_eq, not_true_eq_false, if_false]; rfl)
           | (simp [binOp, Op.intArith, Op.intBits, Op.intCmp]; done)
           | (simp [binOp, Op.intArith, Op.intBits, Op.intCmp]; rfl))
      | (refine ⟨_, ?_, by first | exact .int _ _ | exact .bool _⟩
         simp [binOp, Op.shift, hc]
         try rfl)
theorem equalIn_bool {t : TypeId} (hu : P.underlying t = some .bool) (d : Nat) (a b : Bool) (w : World) : (Op.equalIn (d + 1) t (.bool a) (.bool b)).run P w = .ok (a == b) w := by
  simp [Op.equalIn, run_underlying hu]
theorem equal_bool {t : TypeId} (hu : P.underlying t = some .bool) (a b : Bool) (w : World) : (Op.equal t (.bool a) (.bool b)).run P w = .ok (a == b) w :=
  equalIn_bool hu 9999 a b w
theorem bool_ok {op : BinOp} {t : TypeId} {a b : Bool} {r : AV} (h : binA P op t (.bool a) (.bool b) = some r) (w : World) :
    ∃ v, (binOp op t (.bool a) (.bool b)).run P w = .ok v w ∧ PV M r v := by
  simp only [binA] at h
  split at h
  · rename_i ht
    have hu : P.underlying t = some .bool := by
      unfold isBoolT at ht
      split at ht
      · assumption
      · cases ht
    cases op <;> simp only at h <;> first | (cases h; done) | skip
    all_goals
      injection h with h
      subst h
      refine ⟨_, ?_, .bool _⟩
      simp [binOp, equal_bool hu]
      try (cases a <;> cases b <;> rfl)
  · cases h
theorem eqL_split : ∀ {cs ds cs' ds' : List AV} {r : Bool}, cs.length = ds.length → eqL (cs ++ cs') (ds ++ ds') = some r → ∃ a b, eqL cs ds = some a ∧ eqL cs' ds' = some b ∧ r = (a && b)
  | [], [], cs', ds', r, _, h => ⟨true, r, rfl, h, by simp⟩
  | [], _ :: _, _, _, _, hl, _ => by simp at hl
  | _ :: _, [], _, _, _, hl, _ => by simp at hl
  | c :: cs, d :: ds, cs', ds', r, hl, h => by
    simp only [List.cons_append] at h
    unfold eqL at h
    split at h
    · rename_i h1 h2; cases h1
    · rename_i k a cs1 k' b ds1 h1 h2
      injection h1 with h1 h1'
      injection h2 with h2 h2'
      subst h1 h2 h1' h2'
      split at h
      · rename_i hk
        split at h
        · rename_i r' hr'
          injection h with h
          obtain ⟨x, y, e1, e2, rfl⟩ := eqL_split (by simpa using hl) hr'
          refine ⟨a == b && x, y, ?_, e2, ?_⟩
          · unfold eqL; simp only [hk, if_true, e1]
          · rw [← h, Bool.and_assoc]
        · cases h
      · cases h
    · cases h
theorem eqL_len : ∀ {cs ds : List AV} {r : Bool}, eqL cs ds = some r → cs.length = ds.length
  | [], [], _, _ => rfl
  | [], _ :: _, _, h => by cases h
  | _ :: _, [], _, h => by simp [eqL] at h
  | c :: cs, d :: ds, r, h => by
    unfold eqL at h
    split at h
    · rename_i h1 h2; cases h1
    · rename_i k a cs1 k' b ds1 h1 h2
      injection h1 with h1 h1'
      injection h2 with h2 h2'
      subst h1' h2'
      split at h
      · split at h
        · rename_i r' hr'
          simp [eqL_len hr']
        · cases h
      · cases h
    · cases h
def fldStep (P : Program) (d : Nat) (acc : Option Nat) (f : Field) : Option Nat := match acc with
  | some off => if f.name ≠ "_" ∧ f.offset = off then (match flatN P d f.type, szA P f.type with
    | some n, some (m, _) => if n = m then some (off + n) else none
    | _, _ => none) else none
  | none => none
theorem fldStep_none (d : Nat) : ∀ fs : List Field, fs.foldl (fldStep P d) none = none
  | [] => rfl
  | f :: fs => fldStep_none d fs
theorem flat_eq : ∀ (d : Nat) (t : TypeId) (n : Nat) (x y : AV) (u v : Value) (D : Nat) (w : World), flatN P d t = some n → d ≤ D → VR M ρ x u → VR M ρ y v → x.cells.length = n → y.cells.length = n →
    ∀ {ag : Bool}, szA P t = some (n, ag) → (ag = true → ∃ cs ds, x = .agg cs ∧ y = .agg ds) → (ag = false → ∃ k a k' b, x = .int k a ∧ y = .int k' b) → ∀ {r : Bool}, eqL x.cells y.cells = some r → (Op.equalIn D t u v).run P w = .ok r w
  | 0, t, n, x, y, u, v, D, w, h, hD, hx, hy, hxl, hyl, ag, hsz, hag, hng, r, he => by cases h
  | d + 1, t, n, x, y, u, v, D, w, h, hD, hx, hy, hxl, hyl, ag, hsz, hag, hng, r, he => by
    obtain ⟨D, rfl⟩ : ∃ D', D = D' + 1 := ⟨D - 1, by omega⟩
    unfold flatN at h
    split at h
    · rename_i k hu
      have hagf : ag = false := by
        unfold szA at hsz
        rw [hu] at hsz
        split at hsz
        · rename_i i dd hi hd
          injection hd with hd; subst hd
          injection hsz with hsz; injection hsz with _ hsz; exact hsz.symm
        · cases hsz
      obtain ⟨k1, a, k2, b, rfl, rfl⟩ := hng hagf
      obtain rfl := hx.int_inv
      obtain rfl := hy.int_inv
      simp only [AV.cells, eqL] at he
      split at he
      · rename_i hk
        subst hk
        injection he with he
        rw [Bool.and_true] at he
        rw [run_equalIn_int w D t k1 k a b hu, he]
      · cases he
    · rename_i fs hu
      split at h
      · cases h
      rename_i hgd
      have hagt : ag = true := by
        unfold szA at hsz
        rw [hu] at hsz
        split at hsz
        · rename_i i dd hi hd
          injection hd with hd; subst hd
          injection hsz with hsz; injection hsz with _ hsz; exact hsz.symm
        · cases hsz
      obtain ⟨cs, ds, rfl, rfl⟩ := hag hagt
      obtain ⟨xs, rfl, hl1, ho1, hv1⟩ := hx.agg_inv
      obtain ⟨ys, rfl, hl2, ho2, hv2⟩ := hy.agg_inv
      simp only [AV.cells] at he hxl hyl
      have hst : P.stoodInHeld t = false := by
        cases hq : P.stoodInHeld t with
        | false => rfl
        | true => exact absurd (.inl hq) hgd
      have hfo : P.fieldsOf t = fs := by unfold Program.fieldsOf; rw [hu]
      rw [run_equalIn_struct w D t xs ys (by rw [hfo]; exact hu) hst, hfo]
      have key : ∀ (l : List Field) (off : Nat) (r : Bool) (w : World), l.foldl (fldStep P d) (some off) = some n → off ≤ n → eqL (cs.drop off) (ds.drop off) = some r → (Op.eqFields D xs ys l).run P w = .ok r w := by
        intro l
        induction l with
        | nil =>
          intro off r w h1 h2 h3
          simp only [List.foldl_nil, Option.some.injEq] at h1
          subst h1
          rw [List.drop_of_length_le (by omega), List.drop_of_length_le (by omega)] at h3
          simp only [eqL, Option.some.injEq] at h3
          subst h3
          rfl
        | cons f l ih =>
          intro off r w h1 h2 h3
          rw [List.foldl_cons] at h1
          cases hs : fldStep P d (some off) f with
          | none => rw [hs, fldStep_none] at h1; cases h1
          | some off' =>
            rw [hs] at h1
            unfold fldStep at hs
            simp only at hs
            split at hs
            · rename_i hc
              obtain ⟨hname, hoff⟩ := hc
              split at hs
              · rename_i n' m' ag' hn' hm'
                split at hs
                · rename_i hnm
                  subst hnm
                  injection hs with hs
                  subst hs
                  have mono : ∀ (l : List Field) (o : Nat), l.foldl (fldStep P d) (some o) = some n → o ≤ n := by
                    intro l
                    induction l with
                    | nil => intro o h; simp only [List.foldl_nil, Option.some.injEq] at h; omega
                    | cons f l ih =>
                      intro o h
                      rw [List.foldl_cons] at h
                      cases hs : fldStep P d (some o) f with
                      | none => rw [hs, fldStep_none] at h; cases h
                      | some o' =>
                        rw [hs] at h
                        have := ih o' h
                        have : o ≤ o' := by
                          unfold fldStep at hs
                          simp only at hs
                          split at hs
                          · split at hs
                            · split at hs
                              · injection hs with hs; omega
                              · cases hs
                            · cases hs
                          · cases hs
                        omega
                  have hle := mono l _ h1
                  have hcl : ((cs.drop off).take n').length = ((ds.drop off).take n').length := by simp; omega
                  have h3' := h3
                  rw [← List.take_append_drop n' (cs.drop off), ← List.take_append_drop n' (ds.drop off)] at h3'
                  obtain ⟨p, q, e1, e2, rfl⟩ := eqL_split hcl h3'
                  rw [List.drop_drop, List.drop_drop] at e2
                  -- the field
                  have fld : ∀ (zs : Array Value) (es : List AV), es.length = n → es.length = zs.size → (∀ v ∈ zs, v.oneCell' = true) → (∀ (i : Nat) (c : AV) (u : Value), es[i]? = some c → zs[i]? = some u → VR M ρ c u) →
                      (∀ i, i < n → ∃ k a, es[i]? = some (.int k a)) → ∃ a z, pickA ag' n' (es.drop off) = some a ∧ (part f.type zs f.offset).run P w = .ok z w ∧ VR M ρ a z ∧ a.cells = (es.drop off).take n' ∧ (ag' = true → ∃ q, a = .agg q) ∧ (ag' = false → ∃ k b, a = .int k b) := by
                    intro zs es hel hes hzo hzv hint
                    have tk : ∀ (m : Nat) (l : List AV), m ≤ l.length → takeA m l = some (l.take m) := by
                      intro m
                      induction m with
                      | zero => intro l _; simp [takeA]
                      | succ m ihm =>
                        intro l hl
                        cases l with
                        | nil => simp at hl
                        | cons c l => simp only [takeA, ihm l (by simpa using hl), List.take_succ_cons]
                    have hpk : ∃ a, pickA ag' n' (es.drop off) = some a ∧ a.cells = (es.drop off).take n' ∧ (ag' = true → ∃ q, a = .agg q) ∧ (ag' = false → ∃ k b, a = .int k b) := by
                      cases hag' : ag' with
                      | true => exact ⟨.agg ((es.drop off).take n'), by simp only [pickA, tk n' (es.drop off) (by simp; omega)], rfl, fun _ => ⟨_, rfl⟩, fun h => by cases h⟩
                      | false =>
                        have hn1 : n' = 1 := by
                          cases d with
                          | zero => cases hn'
                          | succ d =>
                            unfold flatN at hn'
                            split at hn'
                            · injection hn' with hn'; exact hn'.symm
                            · rename_i fs' hfs'
                              exfalso
                              unfold szA at hm'
                              rw [hfs'] at hm'
                              split at hm'
                              · rename_i i dd hi hd
                                injection hd with hd; subst hd
                                injection hm' with hm'; injection hm' with _ hm'
                                rw [hag'] at hm'; cases hm'
                              · cases hm'
                            · cases hn'
                        subst hn1
                        obtain ⟨k, b, hkb⟩ := hint off (by omega)
                        have : es.drop off = .int k b :: es.drop (off + 1) := by
                          obtain ⟨hlt, he⟩ := List.getElem?_eq_some_iff.1 hkb
                          rw [List.drop_eq_getElem_cons hlt, he]
                        exact ⟨.int k b, by rw [this]; rfl, by rw [this]; rfl, (fun h => by cases h), fun _ => ⟨k, b, rfl⟩⟩
                    obtain ⟨a, h1, h2, h3, h4⟩ := hpk
                    obtain ⟨z, hz, hZ⟩ := pick_part (P := P) (M := M) (ρ := ρ) hm' es zs off hes hzo hzv h1 w
                    exact ⟨a, z, h1, by rw [hoff]; exact hz, hZ, h2, h3, h4⟩
                  have ints : ∀ (cs ds : List AV) (r : Bool), eqL cs ds = some r → (∀ i, i < cs.length → ∃ k a, cs[i]? = some (.int k a)) ∧ (∀ i, i < ds.length → ∃ k a, ds[i]? = some (.int k a)) := by
                    intro cs
                    induction cs with
                    | nil =>
                      intro ds r h
                      cases ds with
                      | nil => exact ⟨fun i h => by simp at h, fun i h => by simp at h⟩
                      | cons d ds => cases h
                    | cons c cs ihc =>
                      intro ds r h
                      cases ds with
                      | nil => simp [eqL] at h
                      | cons d ds =>
                        unfold eqL at h
                        split at h
                        · rename_i q1 q2; cases q1
                        · rename_i k a cs1 k' b ds1 q1 q2
                          injection q1 with q1 q1'
                          injection q2 with q2 q2'
                          subst q1 q2 q1' q2'
                          split at h
                          · split at h
                            · rename_i r' hr'
                              obtain ⟨i1, i2⟩ := ihc _ _ hr'
                              refine ⟨fun i hi => ?_, fun i hi => ?_⟩
                              · cases i with
                                | zero => exact ⟨k, a, rfl⟩
                                | succ i => exact i1 i (by simpa using hi)
                              · cases i with
                                | zero => exact ⟨k', b, rfl⟩
                                | succ i => exact i2 i (by simpa using hi)
                            · cases h
                          · cases h
                        · cases h
                  obtain ⟨i1, i2⟩ := ints cs ds _ he
                  obtain ⟨a1, z1, f1, f2, f3, f4, f5, f6⟩ := fld xs cs hxl hl1 ho1 hv1 (fun i hi => i1 i (by omega))
                  obtain ⟨a2, z2, g1, g2, g3, g4, g5, g6⟩ := fld ys ds hyl hl2 ho2 hv2 (fun i hi => i2 i (by omega))
                  have heq := flat_eq d f.type n' a1 a2 z1 z2 D w hn' (by omega) f3 g3 (by rw [f4]; simp; omega) (by rw [g4]; simp; omega) hm' (fun h => by
                    obtain ⟨q1, hq1⟩ := f5 h
                    obtain ⟨q2, hq2⟩ := g5 h
                    exact ⟨q1, q2, hq1, hq2⟩) (fun h => by
                    obtain ⟨k1, b1, hq1⟩ := f6 h
                    obtain ⟨k2, b2, hq2⟩ := g6 h
                    exact ⟨k1, b1, k2, b2, hq1, hq2⟩) (by rw [f4, g4]; exact e1)
                  have ihh := ih (off + n') q w h1 hle (by rw [← e2])
                  simp only [Op.eqFields, if_pos hname, Sem.run_bind, f2, g2, heq, Result.andThen_ok, Sem.run_ite]
                  cases p with
                  | true => simp only [Bool.not_true, Bool.false_eq_true, if_false, ihh, Bool.true_and]
                  | false => simp only [Bool.not_false, if_true, Sem.run_pure, Bool.false_and]
                · cases hs
              · cases hs
            · cases hs
      exact key fs.toList 0 r w h (by omega) (by simpa using he)
    · cases h
theorem bin_ok {op : BinOp} {t : TypeId} {x y : AV} {u v : Value} {r : AV} (h : binA P op t x y = some r) (hx : VR M ρ x u) (hy : VR M ρ y v) (ox oy : Operand) (w : World) :
    ∃ z, (do eqGuard op t ox oy u v; binOp op t u v : Sem Value).run P w = .ok z w ∧ VR M ρ r z := by
  unfold binA at h
  split at h
  · rename_i cs ds
    split at h
    · rename_i n m hn hm
      split at h
      · rename_i hnm
        subst hnm
        unfold aggA at h
        split at h
        · rename_i hc
          split at h
          · rename_i b hb
            have hguard : P.eqGuardType P.depth t = false := by
              have hn' := hn
              unfold flatN at hn'
              split at hn'
              · rename_i k hu
                exfalso
                unfold szA at hm
                rw [hu] at hm
                split at hm
                · rename_i i dd hi hd
                  injection hd with hd; subst hd
                  injection hm with hm; injection hm with _ hm; cases hm
                · cases hm
              · split at hn'
                · cases hn'
                · rename_i hgd
                  cases hq : P.eqGuardType P.depth t with
                  | false => rfl
                  | true => exact absurd (.inr hq) hgd
              · cases hn'
            have heq := flat_eq (P := P) 4 t n (.agg cs) (.agg ds) u v 10000 w hn (by omega) hx hy hc.1 hc.2 hm (fun _ => ⟨_, _, rfl, rfl⟩) (fun h => by cases h) hb
            obtain ⟨xs, rfl, _⟩ := hx.agg_inv
            obtain ⟨ys, rfl, _⟩ := hy.agg_inv
            cases op <;> simp only at h <;> first | (cases h; done) | skip
            · injection h with h; subst h
              exact ⟨.bool b, by simp only [Sem.run_bind, run_eqGuard_agg w _ t ox oy xs ys hguard, Result.andThen_ok, run_eql_struct, heq], .plain (.bool _)⟩
            · injection h with h; subst h
              exact ⟨.bool !b, by simp only [Sem.run_bind, run_eqGuard_agg w _ t ox oy xs ys hguard, Result.andThen_ok, run_neq_struct, heq], .plain (.bool _)⟩
          · cases h
        · cases h
      · cases h
    · cases h
  · obtain rfl := hx.int_inv
    obtain rfl := hy.int_inv
    obtain ⟨z, hz, hp⟩ := int_ok (P := P) (M := M) (t := t) h w
    exact ⟨z, by simp [eqGuard_int, hz], .plain hp⟩
  · rename_i a b
    obtain rfl := hx.bool_inv
    obtain rfl := hy.bool_inv
    obtain ⟨z, hz, hp⟩ := bool_ok (P := P) (M := M) (op := op) (t := t) (a := a) (b := b) (by simpa only [binA] using h) w
    exact ⟨z, by simp [eqGuard_bool, hz], .plain hp⟩
  · cases h
theorem un_ok {op : UnOp} {x r : AV} {u : Value} (h : unA op x = some r) (hx : VR M ρ x u) (w : World) : ∃ z, (Op.unary op u).run P w = .ok z w ∧ VR M ρ r z := by
  unfold unA at h
  split at h
  · obtain rfl := hx.bool_inv
    cases op <;> simp only at h <;> first | (cases h; done) | skip
    injection h with h; subst h
    exact ⟨_, rfl, .plain (.bool _)⟩
  · obtain rfl := hx.int_inv
    cases op <;> simp only at h <;> first | (cases h; done) | skip
    injection h with h; subst h
    exact ⟨_, rfl, .plain (.int _ _)⟩
  · cases h
theorem zeroA_inv {t : TypeId} {z : List AV} (h : zeroA P t = some z) : ∃ v, (∀ w, (zeroValue t).run P w = .ok v w) ∧ z.length = v.cells.size ∧ (∀ u ∈ v.cells, u.oneCell' = true) ∧
    ∀ (M : Imm) (i : Nat) (c : AV) (u : Value), z[i]? = some c → v.cells[i]? = some u → PV M c u := by
  unfold zeroA at h
  split at h
  · rename_i i hi
    split at h
    · rename_i v hv
      split at h
      · rename_i h1
        injection h with h; subst h
        refine ⟨v, fun w => by simp [zeroValue, typeInfo, hi, hv], by simp, Array.all_eq_true_iff_forall_mem.1 h1, fun M i c u hc hu => ?_⟩
        rw [List.getElem?_map] at hc
        have : v.cells.toList[i]? = some u := by simpa using hu
        rw [this] at hc
        injection hc with hc
        subst hc
        exact ofV1_ok M u
      · cases h
    · cases h
  · cases h
theorem partsA_get {ρA : Operand → AV} : ∀ (l : List (Nat × Operand)) (i : Nat), (partsA ρA l)[i]? = (l[i]?).map fun p => (p.1, ρA p.2)
  | [], i => by simp [partsA]
  | (k, x) :: l, 0 => by simp [partsA]
  | (k, x) :: l, i + 1 => by simp [partsA, partsA_get l i]
theorem partsA_length {ρA : Operand → AV} : ∀ (l : List (Nat × Operand)), (partsA ρA l).length = l.length
  | [] => rfl
  | (k, x) :: l => by simp [partsA, partsA_length l]
theorem places_ok {t : TypeId} {fs : Array Field} (hu : P.underlying t = some (.struct fs)) : ∀ (l : List Field), (∀ f ∈ l, ∃ i, P.info? f.type = some i) → ∀ w : World,
    (l.mapM fun f => (do pure (f.offset, ← sizeOf f.type) : Sem (Nat × Nat))).run P w = .ok (l.map fun f => (f.offset, P.cellsOf f.type)) w := by
  intro l
  induction l with
  | nil => intro _ w; rfl
  | cons f l ih =>
    intro h w
    obtain ⟨i, hi⟩ := h f (by simp)
    have hs : (sizeOf f.type).run P w = .ok (P.cellsOf f.type) w := by simp [sizeOf, typeInfo, hi, Program.cellsOf]
    rw [List.mapM_cons]
    simp only [Sem.run_bind, hs, Result.andThen_ok, Sem.run_pure, ih (fun g hg => h g (by simp [hg])) w, List.map_cons]
theorem pure_ok {ρA : Operand → AV} {ρC : Operand → Value} {o : Oper} {r : AV} (h : aPure P ρA o.op = some r) (hv : ∀ x, VR M ρ (ρA x) (ρC x)) (w : World) :
    ∃ v, (execOp ρC o).run P w = .ok (.value v) w ∧ VR M ρ r v := by
  have lift : ∀ {s : Sem Value} {z : Value}, s.run P w = .ok z w → (do pure (.value (← s)) : Sem Next).run P w = .ok (.value z) w := fun hs => by simp [hs]
  obtain ⟨dst, op, type, pos, after, guard⟩ := o
  cases op <;> simp only [aPure] at h <;> first | (cases h; done) | skip
  case move x => injection h with h; subst h; exact ⟨_, rfl, hv x⟩
  case assign x => injection h with h; subst h; exact ⟨_, rfl, hv x⟩
  case pick c a b =>
    split at h
    · rename_i t ht
      injection h with h; subst h
      have hc := hv c
      rw [ht] at hc
      have e := hc.bool_inv
      refine ⟨if t then ρC a else ρC b, ?_, ?_⟩
      · simp [execOp, asBool, e]
      · cases t
        · exact hv b
        · exact hv a
    · cases h
  case build t ps =>
    split at h
    · rename_i hst
      split at h
      · rename_i z hz
        split at h
        · rename_i r' hf
          injection h with h; subst h
          obtain ⟨v, z1, z2, z3, z4⟩ := zeroA_inv hz
          unfold isStT at hst
          split at hst
          · rename_i fs hfs
            have hinfo : ∀ f ∈ fs.toList, ∃ i, P.info? f.type = some i := fun f hf => Option.isSome_iff_exists.1 (by simpa using List.all_eq_true.1 hst f hf)
            have hpl := places_ok hfs fs.toList hinfo w
            obtain ⟨arr', f1, f2, f3, f4⟩ := fill_ok (M := M) (ρ := ρ) (placeA P t) (fun i => (fs.map fun f => (f.offset, P.cellsOf f.type))[i]?) (fun i x hx => by
              unfold placeA at hx
              split at hx
              · rename_i off n b hfl
                injection hx with hx; subst hx
                obtain ⟨fs', y, hu, hy, ho, hs, _⟩ := fldA_inv hfl
                rw [hfs] at hu
                injection hu with hu; injection hu with hu; subst hu
                have hc : P.cellsOf y.type = n := by
                  unfold szA at hs
                  split at hs
                  · rename_i i d hi hd
                    simp only [Option.some.injEq, Prod.mk.injEq] at hs
                    simp [Program.cellsOf, hi, hs.1]
                  · cases hs
                simp [hy, ho, hc]
              · cases hx) (partsA ρA ps.toList) (ps.toList.map fun p => (p.1, ρC p.2)) z v.cells r' (by simp [partsA_length]) (fun i x y hx hy => by
                rw [partsA_get] at hx
                rw [List.getElem?_map] at hy
                cases hp : ps.toList[i]? with
                | none => rw [hp] at hx; cases hx
                | some q =>
                  rw [hp] at hx hy
                  injection hx with hx; injection hy with hy
                  subst hx hy
                  exact ⟨rfl, hv _⟩) z2 z3 (fun i c u hc hu => .plain (z4 M i c u hc hu)) hf
            refine ⟨.agg arr', ?_, .agg _ _ f2 f3 f4⟩
            refine lift ?_
            have hpl' : (fs.mapM fun f => (do pure (f.offset, ← sizeOf f.type) : Sem (Nat × Nat))).run P w = .ok (fs.map fun f => (f.offset, P.cellsOf f.type)) w := by
              rw [← Array.toArray_toList (xs := fs), List.mapM_toArray]
              simp only [Sem.run_map, hpl, Result.andThen_ok, List.map_toArray]
            simp only [Instr.build, Sem.run_bind, z1 w, Result.andThen_ok, run_underlying hfs, hpl']
            have f1' : Instr.fill (fun x => (fs.map fun f => (f.offset, P.cellsOf f.type))[x]?) v.cells (ps.map fun x => (x.1, ρC x.2)).toList = some arr' := by
              rw [← f1]; simp
            simp only [f1']
            rfl
          · cases hst
        · cases h
      · cases h
    · cases h
  case binOp op t x y t2 =>
    obtain ⟨z, hz, hr⟩ := bin_ok h (hv x) (hv y) x y w
    exact ⟨z, lift hz, hr⟩
  case unOp op t x =>
    obtain ⟨z, hz, hr⟩ := un_ok h (hv x) w
    exact ⟨z, lift hz, hr⟩
  case convert s d x =>
    split at h
    · rename_i k0 k k1 n hs hd hx
      injection h with h; subst h
      have e := hv x
      rw [hx] at e
      have e := e.int_inv
      have us : P.underlying s = some (.int k0) := by
        unfold isIntT at hs; split at hs
        · rename_i q hq; injection hs with hs; subst hs; exact hq
        · cases hs
      have ud : P.underlying d = some (.int k) := by
        unfold isIntT at hd; split at hd
        · rename_i q hq; injection hd with hd; subst hd; exact hq
        · cases hd
      refine ⟨.int k (k.wrap n), lift ?_, .plain (.int _ _)⟩
      simp [convert, run_underlying us, run_underlying ud, e, Conv.intToInt]
    · cases h
  case fieldAddr s x f =>
    split at h
    · rename_i off n b r o hf hx
      injection h with h; subst h
      have e := hv x
      rw [hx] at e
      obtain ⟨y, hy, hyn, e⟩ := e.ptr_inv
      obtain ⟨fs, fl, hu, hfl, ho, hs, hn⟩ := fldA_inv hf
      refine ⟨.pointer (some ⟨y.g, o + off, none⟩), lift ?_, .ptr _ _ y hy hyn⟩
      simp [Instr.fieldAt, run_underlying hu, hfl, e, Instr.sureAddr, fieldPlace, (run_szA hs w).1, hn, add_off, ho]
    · rename_i off n b cs hf hx
      injection h with h; subst h
      have e := hv x
      rw [hx] at e
      have e := e.eptr_inv
      generalize hq : ρC x = q at e
      cases e with
      | eptr _ b off' g hm hh =>
        obtain ⟨fs, fl, hu, hfl, ho, hs, hn⟩ := fldA_inv hf
        refine ⟨.pointer (some ⟨b, off' + off, none⟩), lift ?_, .plain (.eptr _ b (off' + off) (fun i => g (off + i)) (fun i c hc => ?_) (fun i c hc => ?_))⟩
        · simp [Instr.fieldAt, run_underlying hu, hfl, hq, Instr.sureAddr, fieldPlace, (run_szA hs w).1, hn, add_off, ho]
        · rw [List.getElem?_drop] at hc
          rw [Nat.add_assoc]; exact hm _ c hc
        · rw [List.getElem?_drop] at hc
          exact hh _ c hc
    · cases h
  case field s x f =>
    split at h
    · rename_i off n b cs hf hx
      have e := hv x
      rw [hx] at e
      obtain ⟨vs, hvs, hl, h1, h2⟩ := e.agg_inv
      obtain ⟨fs, fl, hu, hfl, ho, hs, hn⟩ := fldA_inv hf
      obtain ⟨v', hr, hR⟩ := pick_part hs cs vs off hl h1 h2 h w
      refine ⟨v', lift ?_, hR⟩
      simp only [Instr.field, Sem.run_bind, run_underlying hu, Result.andThen_ok, hfl, hvs, asAgg, Sem.run_pure, ho, hr]
    · cases h
  case indexAddr t x i =>
    split at h
    · rename_i e' sz cs n k i' he hx hi
      split at h
      · rename_i hc
        injection h with h; subst h
        have ex := hv x
        rw [hx] at ex
        have ex := ex.sl_inv
        have ei := hv i
        rw [hi] at ei
        have ei := ei.int_inv
        obtain ⟨inf, hu, hinf, hsz⟩ := elA_inv he
        generalize hq : ρC x = q at ex
        cases ex with
        | sl _ _ A cap b off g hA hn hm hh =>
          obtain rfl := hA (by omega)
          refine ⟨.pointer (some ⟨b, off + i'.toNat * sz, none⟩), lift ?_, .plain (.eptr _ b (off + i'.toNat * sz) (fun j => g (i'.toNat * sz + j)) (fun j c hc => ?_) (fun j c hc => ?_))⟩
          · simp [Instr.indexAt, ei, asIntOf, run_underlying hu, hq, hc.1, hc.2, sizeOf, typeInfo, hinf, hsz, add_off]
          · rw [List.getElem?_drop] at hc
            rw [Nat.add_assoc]; exact hm _ c hc
          · rw [List.getElem?_drop] at hc
            exact hh _ c hc
      · cases h
    · rename_i e' sz s n k i' he hx hi
      split at h
      · rename_i hc
        injection h with h; subst h
        have ex := hv x
        rw [hx] at ex
        obtain ⟨g, cap, ⟨hs, ex⟩ | ⟨hs, hn0, ex⟩⟩ := ex.own_inv
        rotate_left
        · omega
        have ei := hv i
        rw [hi] at ei
        have ei := ei.int_inv
        obtain ⟨inf, hu, hinf, hsz⟩ := elA_inv he
        refine ⟨.pointer (some ⟨g, i'.toNat * sz, none⟩), lift ?_, .ptr s _ ⟨g, n, cap, false⟩ hs rfl⟩
        simp [Instr.indexAt, ei, asIntOf, run_underlying hu, ex, hc.1, hc.2, sizeOf, typeInfo, hinf, hsz, add_off]
      · cases h
    · cases h
  case extract x i =>
    split at h
    · rename_i vs hx
      have e := hv x
      rw [hx] at e
      obtain ⟨us, e, hl, hu⟩ := e.tup_inv
      have hlt : i < us.size := by
        rw [← hl]
        rcases Nat.lt_or_ge i vs.length with h' | h'
        · exact h'
        · rw [List.getElem?_eq_none h'] at h; cases h
      refine ⟨us[i], lift ?_, hu i r _ h (Array.getElem?_eq_getElem hlt)⟩
      simp [Instr.extract, e, hlt]
    · cases h
  case nilCheck x =>
    split at h
    · rename_i s o hx
      injection h with h; subst h
      have e := hv x
      rw [hx] at e
      have e0 := e
      obtain ⟨y, hy, hyn, e⟩ := e.ptr_inv
      refine ⟨_, ?_, e0⟩
      simp [execOp, e]
    · cases h
  case slice t x lo hi mx =>
    cases mx with
    | some _ => cases h
    | none =>
      simp only [aPure] at h
      split at h
      · rename_i e' sz cs n he hx
        split at h
        · rename_i kh hh kl hl ehi elo
          split at h
          · rename_i hc
            injection h with h; subst h
            have ex := hv x
            rw [hx] at ex
            have ex := ex.sl_inv
            obtain ⟨inf, hu, hinf, hsz⟩ := elA_inv he
            generalize hq : ρC x = q at ex
            cases ex with
            | sl _ _ A cap b off g hA hn hm hG =>
              have hhi : ∀ h', hi = some h' → ρC h' = .int kh hh := fun h' e => by
                subst e
                have := hv h'
                simp only at ehi
                rw [ehi] at this
                exact this.int_inv
              have hlo : ∀ l', lo = some l' → ρC l' = .int kl hl := fun l' e => by
                subst e
                have := hv l'
                simp only at elo
                rw [elo] at this
                exact this.int_inv
              have bnd : (Instr.sliceBounds true n cap (lo.map ρC) (hi.map ρC) none).run P w = .ok (hl.toNat, hh.toNat, cap) w := by
                have c1 : hh ≤ (cap : Int) := by omega
                have c2 : 0 ≤ hh := by omega
                have c3 : hl ≤ (hh.toNat : Int) := by omega
                cases hi with
                | none =>
                  simp only at ehi
                  injection ehi with _ e2
                  have e3 : hh.toNat = n := by omega
                  cases lo with
                  | none =>
                    simp only at elo
                    injection elo with _ e4
                    subst e4
                    simp [Instr.sliceBounds, e3]
                  | some l' =>
                    have c4 : hl ≤ (n : Int) := by omega
                    simp [Instr.sliceBounds, e3, hlo l' rfl, Instr.sliceBound, asIntOf, hc.1, c4]
                | some h' =>
                  cases lo with
                  | none =>
                    simp only at elo
                    injection elo with _ e4
                    subst e4
                    simp [Instr.sliceBounds, hhi h' rfl, Instr.sliceBound, asIntOf, c1, c2]
                  | some l' =>
                    simp [Instr.sliceBounds, hhi h' rfl, hlo l' rfl, Instr.sliceBound, asIntOf, c1, c2, hc.1]
                    intro hlt
                    omega
              have hnn : hh.toNat ≤ n := by omega
              refine ⟨.slice (if cap = hl.toNat then A else A.map (·.add (hl.toNat * sz))) (hh.toNat - hl.toNat) (cap - hl.toNat), lift ?_, .plain (.sl _ _ _ _ b (off + hl.toNat * sz) (fun j => g (hl.toNat * sz + j)) (fun hp => ?_) (by omega) (fun j c hcj => ?_) (fun j c hcj => ?_))⟩
              · have : Instr.sliceAt t (.slice A n cap) (lo.map ρC) (hi.map ρC) none = (do
                    match ← underlying t with
                    | .array n elem =>
                      let a ← Instr.sureAddr (.slice A n cap)
                      let (l, h, m) ← Instr.sliceBounds false n n (lo.map ρC) (hi.map ρC) none
                      let size ← sizeOf elem
                      pure (.slice (some (if m = l then a else a.add (l * size))) (h - l) (m - l))
                    | _ => Instr.slice t (.slice A n cap) (lo.map ρC) (hi.map ρC) none) := rfl
                simp [hq, Instr.sliceAt, run_underlying hu, Instr.slice, bnd, sizeOf, typeInfo, hinf, hsz]
              · have hnp : 0 < n := by omega
                obtain rfl := hA hnp
                rw [if_neg (by omega)]
                simp [add_off]
              · rw [List.getElem?_take] at hcj
                split at hcj
                · rw [List.getElem?_drop] at hcj
                  rw [Nat.add_assoc]; exact hm _ c hcj
                · cases hcj
              · rw [List.getElem?_take] at hcj
                split at hcj
                · rw [List.getElem?_drop] at hcj
                  exact hG _ c hcj
                · cases hcj
          · cases h
        · cases h
      · cases h
  case call c =>
    split at h
    · rename_i hcal
      split at h
      · rename_i t x ht hx
        split at h
        · rename_i hsl
          have hu : ∃ e, P.underlying t = some (.slice e) := by
            unfold isSlT at hsl
            split at hsl
            · rename_i e he; exact ⟨e, he⟩
            · cases hsl
          obtain ⟨e, hu⟩ := hu
          have hlen : ∀ (A : Option Addr) (n cap : Nat), ρC x = .slice A n cap → (execOp ρC ⟨dst, .call c, type, pos, after, guard⟩).run P w = .ok (.value (.int .i64 n)) w := fun A n cap hq => by
            have hargs : (c.args.map ρC)[0]? = some (.slice A n cap) := by simp [hx, hq]
            simp [execOp, resolve, hcal, invoke, builtin, Builtin.len_, ht, hargs, run_underlying hu, goInt]
          split at h
          · rename_i cs n hxx
            injection h with h; subst h
            have ex := hv x
            rw [hxx] at ex
            have ex := ex.sl_inv
            generalize hq : ρC x = q at ex
            cases ex with
            | sl _ _ A cap b off g hA hn hm hG => exact ⟨_, hlen _ _ _ hq, .plain (.int _ _)⟩
          · rename_i s n hxx
            injection h with h; subst h
            have ex := hv x
            rw [hxx] at ex
            obtain ⟨g, cap, ⟨hs, ey⟩ | ⟨hs, hn0, ey⟩⟩ := ex.own_inv
            · exact ⟨_, hlen _ _ _ ey, .plain (.int _ _)⟩
            · rw [hn0]
              exact ⟨_, hlen _ _ _ ey, .plain (.int _ _)⟩
          · rename_i hxx
            injection h with h; subst h
            have ex := hv x
            rw [hxx] at ex
            exact ⟨_, hlen _ _ _ ex.nil_inv, .plain (.int _ _)⟩
          · cases h
        · cases h
      · cases h
    · cases h
end
end Go.Proofs.Ytfpfalknddfejaa
