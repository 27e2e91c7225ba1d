/- The engine, part 14: rules for the walk over the code. Over any program. -/
import Derived.Test.YtfpfalknddfejaaEm
namespace Go.Proofs.Ytfpfalknddfejaa
open Go.RowKit
set_option linter.unusedVariables false
set_option linter.unusedSimpArgs false
section
variable {P : Program} {BR : Nat → Bool} {ops : List Oper} {C : Ctx} {Q : Exit → St → Prop} {T : Nat → AV} {R : Nat → Option Row} {b : Nat}
/-- A region, then the rest. -/
theorem AW_rs {id : Nat} {draw : Bool} {y : Code} (hm : P.follows .mixedOrders = true) (hN : dstB C.N ops.toArray = true) (hB : (!draw || regB BR ops.toArray) = true)
    (h : ∀ K : St → Prop, (∀ T' R' b', AW P C y (St.mk T' R' (b + 1024)) Q → K (St.mk T' R' b')) → aRun P BR ops b 0 ops (St.mk T R b) K) : AW P C (.seq (.region id ops.toArray draw) y) (St.mk T R b) Q :=
  AW_seq fun M ρ a w hR => by
    have := h (fun st' => AW P C y (St.mk st'.tmps st'.rows (b + 1024)) Q) (fun T' R' b' h => h)
    refine AW_reg (BR := BR) (Q := thenA (fun st' => AW P C y (St.mk st'.tmps st'.rows (b + 1024)) Q) Q) hm hN hB this M ρ a w hR |> Code.wp_mono ?_
    rintro e a' w' ⟨st', M', ρ', h1, h2⟩
    cases e with
    | normal => exact ⟨St.mk st'.tmps st'.rows (b + 1024), M', ρ', h1, h2.next _⟩
    | _ => exact ⟨st', M', ρ', h1, h2⟩
/-- A region at the end of a piece of code. -/
theorem AW_re {id : Nat} {draw : Bool} (hm : P.follows .mixedOrders = true) (hN : dstB C.N ops.toArray = true) (hB : (!draw || regB BR ops.toArray) = true)
    (h : ∀ K : St → Prop, (∀ T' R' b', Q .normal (St.mk T' R' (b + 1024)) → K (St.mk T' R' b')) → aRun P BR ops b 0 ops (St.mk T R b) K) : AW P C (.region id ops.toArray draw) (St.mk T R b) Q := fun M ρ a w hR => by
  have := h (fun st' => Q .normal (St.mk st'.tmps st'.rows (b + 1024))) (fun T' R' b' h => h)
  refine AW_reg (BR := BR) (Q := thenA (fun st' => Q .normal (St.mk st'.tmps st'.rows (b + 1024))) Q) hm hN hB this M ρ a w hR |> Code.wp_mono ?_
  rintro e a' w' ⟨st', M', ρ', h1, h2⟩
  cases e with
  | normal => exact ⟨St.mk st'.tmps st'.rows (b + 1024), M', ρ', h1, h2.next _⟩
  | _ => exact ⟨st', M', ρ', h1, h2⟩
def condK (a : AV) (A B : Prop) : Prop := match a with
  | .bool b => (b = true → A) ∧ (b = false → B)
  | _ => False
theorem AW_condK {c : Operand} {x y : Code} {st : St} {a : AV} (hc : st.ev c = a) (h : condK a (AW P C x st Q) (AW P C y st Q)) : AW P C (.cond c x y) st Q := by
  unfold condK at h
  split at h
  · exact AW_cond hc h.1 h.2
  · exact h.elim
theorem condK_true {A B : Prop} (h : A) : condK (.bool true) A B := ⟨fun _ => h, fun e => by cases e⟩
theorem condK_false {A B : Prop} (h : B) : condK (.bool false) A B := ⟨(fun e => by cases e), fun _ => h⟩
/-- What the function gives back, where nothing new lies in memory. -/
def endV (P : Program) (st : St) (l : List ResultVar) (ret : AV) : Prop := match resA P st l with
  | some rs => ret = pass3 [] (one3 rs)
  | none => False
def endR (P : Program) (st : St) (l : List ResultVar) (k : Nat) (ids : List Nat) (ret : AV) (mem' : List Row) : Prop := match resA P st l with
  | some rs => ret = pass3 ids (one3 rs) ∧ mem' = ids.map (passRow ids (fun _ => none) st.rows)
  | none => False
theorem end_r {fn : Func} {st : St} {k : Nat} (ids : List Nat) {ret : AV} {mem' : List Row} {e : Exit} (he : e = .normal ∨ e = .ret) (hnd : ids.Nodup) (hk : ∀ j, j < k → ids[j]? = some j) (h : endR P st fn.results.toList k ids ret mem') : (e = .normal ∨ e = .ret) ∧ EndA P fn k ret mem' st := by
  unfold endR at h
  split at h
  · rename_i rs hrs
    exact ⟨he, rs, ids, hrs, hnd, hk, h.1, h.2⟩
  · exact h.elim
theorem end_v {fn : Func} {st : St} {ret : AV} {e : Exit} (he : e = .normal ∨ e = .ret) (h : endV P st fn.results.toList ret) : (e = .normal ∨ e = .ret) ∧ EndA P fn 0 ret [] st := by
  unfold endV at h
  split at h
  · rename_i rs hrs
    exact ⟨he, rs, [], hrs, List.nodup_nil, by simp, h, rfl⟩
  · exact h.elim
end

def scal1 : AV → Option Value
  | .int k n => some (.int k n)
  | .bool b => some (.bool b)
  | .str s => some (.string s)
  | _ => none
def scalL : List AV → Option (List Value)
  | [] => some []
  | c :: cs => match scal1 c, scalL cs with
    | some v, some vs => some (v :: vs)
    | _, _ => none
def scal : AV → Option Value
  | .agg cs => match scalL cs with
    | some vs => some (.agg vs.toArray)
    | none => none
  | a => scal1 a
theorem scal1_inv {M : Imm} {ρ : Plc} {a : AV} {u v : Value} (h : scal1 a = some u) (hv : VR M ρ a v) : v = u := by
  cases a <;> simp only [scal1] at h <;> first | (cases h; done) | skip
  all_goals injection h with h; subst h
  · exact hv.int_inv
  · exact hv.bool_inv
  · cases hv with
    | plain h => cases h; rfl
theorem scalL_inv {M : Imm} {ρ : Plc} : ∀ {cs : List AV} {us : List Value} {vs : List Value}, scalL cs = some us → cs.length = vs.length → (∀ (i : Nat) (c : AV) (u : Value), cs[i]? = some c → vs[i]? = some u → VR M ρ c u) → vs = us
  | [], us, vs, h, hl, _ => by
    simp only [scalL, Option.some.injEq] at h
    subst h
    exact List.eq_nil_of_length_eq_zero (by simpa using hl.symm)
  | c :: cs, us, [], h, hl, _ => by simp at hl
  | c :: cs, us, v :: vs, h, hl, hv => by
    simp only [scalL] at h
    split at h
    · rename_i x xs hx hxs
      injection h with h; subst h
      rw [scal1_inv hx (hv 0 c v rfl rfl), scalL_inv (vs := vs) hxs (by simpa using hl) (fun i c' u hc hu => hv (i + 1) c' u (by simpa using hc) (by simpa using hu))]
    · cases h
theorem scal_inv {M : Imm} {ρ : Plc} {a : AV} {u v : Value} (h : scal a = some u) (hv : VR M ρ a v) : v = u := by
  by_cases hag : ∃ cs, a = .agg cs
  · obtain ⟨cs, rfl⟩ := hag
    simp only [scal] at h
    split at h
    · rename_i us hus
      injection h with h; subst h
      obtain ⟨vs, rfl, hl, h1, h2⟩ := hv.agg_inv
      have := scalL_inv (vs := vs.toList) hus (by simpa using hl) (fun i c u hc hu => h2 i c u hc (by simpa using hu))
      rw [← this]
    · cases h
  · have e : scal a = scal1 a := by cases a <;> first | rfl | exact absurd ⟨_, rfl⟩ hag
    rw [e] at h
    exact scal1_inv h hv
def scalA : List AV → Option (List Value)
  | [] => some []
  | c :: cs => match scal c, scalA cs with
    | some v, some vs => some (v :: vs)
    | _, _ => none
theorem scalA_inv {M : Imm} {ρ : Plc} : ∀ {cs : List AV} {us : List Value} {vs : List Value}, scalA cs = some us → cs.length = vs.length → (∀ (i : Nat) (c : AV) (u : Value), cs[i]? = some c → vs[i]? = some u → VR M ρ c u) → vs = us
  | [], us, vs, h, hl, _ => by
    simp only [scalA, Option.some.injEq] at h
    subst h
    exact List.eq_nil_of_length_eq_zero (by simpa using hl.symm)
  | c :: cs, us, [], h, hl, _ => by simp at hl
  | c :: cs, us, v :: vs, h, hl, hv => by
    simp only [scalA] at h
    split at h
    · rename_i x xs hx hxs
      injection h with h; subst h
      rw [scal_inv hx (hv 0 c v rfl rfl), scalA_inv (vs := vs) hxs (by simpa using hl) (fun i c' u hc hu => hv (i + 1) c' u (by simpa using hc) (by simpa using hu))]
    · cases h
/-- A contract on plain values, taken over. -/
theorem spec_lift {P : Program} {f : FuncId} {args : List AV} {vals : List Value} {ret : AV} {v : Value} (hc : callable P f = true) (hs : scalA args = some vals) (hr : ∀ (M : Imm) (ρ : Plc), VR M ρ ret v)
    (h : ∀ w, Calls P f vals.toArray w fun e w' => e = .returned v ∧ Below w.heap.size w w') : Spec P f args [] ret [] := by
  refine ⟨hc, fun M ρ w vs hmr hρ hlen hvs => ?_⟩
  have e : vs.toList = vals := scalA_inv hs (by simpa using hlen) (fun i c u hc hu => hvs i c u hc (by simpa using hu))
  have e' : vs = vals.toArray := by rw [← e]
  rw [e']
  refine (h w).mono fun e w' ⟨he, hb⟩ => ⟨v, M, ρ, he, Imm.le_refl _, Plc.le_refl _, hmr.same fun b hb' => hb.block b hb', hρ, hr M ρ, Below.chg hb _, fun _ _ _ => rfl, fun s r x hs => by simp [rowsOf] at hs⟩
end Go.Proofs.Ytfpfalknddfejaa
