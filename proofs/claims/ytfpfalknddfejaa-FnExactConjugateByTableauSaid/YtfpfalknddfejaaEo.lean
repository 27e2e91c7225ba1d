/- The engine, part 15: states in a canonical form. Over any program. -/
import Derived.Test.YtfpfalknddfejaaEn
namespace Go.Proofs.Ytfpfalknddfejaa
open Go.RowKit
set_option linter.unusedVariables false
set_option linter.unusedSimpArgs false
def mkT : List (Nat × AV) → (Nat → AV)
  | [] => fun _ => .top
  | (k, v) :: l => upd (mkT l) k v
def mkR : List (Nat × Row) → (Nat → Option Row)
  | [] => fun _ => none
  | (k, r) :: l => upd (mkR l) k (some r)
/-- The row that is referred to is there. -/
def ok1 (R : Nat → Option Row) : AV → Prop
  | .own s _ => R s ≠ none
  | .ptr s _ => R s ≠ none
  | .agg _ => False
  | .tup _ => False
  | _ => True
def okL (R : Nat → Option Row) : List AV → Prop
  | [] => True
  | c :: cs => ok1 R c ∧ okL R cs
def okV (R : Nat → Option Row) : AV → Prop
  | .agg cs => okL R cs
  | a => ok1 R a
def okR (R : Nat → Option Row) : Row → Prop
  | .box _ cs => okL R cs
  | _ => True
def leT (T : Nat → AV) (R' : Nat → Option Row) : List (Nat × AV) → Prop
  | [] => True
  | (k, v) :: l => T k = v ∧ okV R' v ∧ leT T R' l
def leR (R R' : Nat → Option Row) : List (Nat × Row) → Prop
  | [] => True
  | (k, r) :: l => R k = some r ∧ okR R' r ∧ leR R R' l
section
variable {C : Ctx} {T : Nat → AV} {R R' : Nat → Option Row}
theorem okL_mem : ∀ {cs : List AV}, okL R cs → ∀ c ∈ cs, ok1 R c
  | [], _, c, h => by cases h
  | c' :: cs, h, c, hc => by
    rcases List.mem_cons.1 hc with rfl | hc
    · exact h.1
    · exact okL_mem h.2 c hc
def cutP (R' : Nat → Option Row) (ρ : Plc) : Plc := fun s => match R' s with | some _ => ρ s | none => none
theorem cutP_of {ρ : Plc} {s : Nat} (h : R' s ≠ none) : cutP R' ρ s = ρ s := by
  unfold cutP
  cases hq : R' s with
  | none => exact absurd hq h
  | some r => rfl
theorem VR.cut1 {M : Imm} {ρ : Plc} {a : AV} {v : Value} (h : VR M ρ a v) (ho : ok1 R' a) : VR M (cutP R' ρ) a v := by
  cases h with
  | plain h => exact .plain h
  | own s g n cap h => exact .own s g n cap (by rw [cutP_of ho]; exact h)
  | ptr s off x h => exact .ptr s off x (by rw [cutP_of ho]; exact h)
  | agg => exact ho.elim
  | tup => exact ho.elim
theorem VR.cut {M : Imm} {ρ : Plc} {a : AV} {v : Value} (h : VR M ρ a v) (ho : okV R' a) : VR M (cutP R' ρ) a v := by
  by_cases hag : ∃ cs, a = .agg cs
  · obtain ⟨cs, rfl⟩ := hag
    obtain ⟨vs, rfl, hl, h1, h2⟩ := h.agg_inv
    exact .agg _ _ hl h1 fun i c u hc hu => (h2 i c u hc hu).cut1 (okL_mem ho c (List.mem_of_getElem? hc))
  · have e : okV R' a = ok1 R' a := by cases a <;> first | rfl | exact absurd ⟨_, rfl⟩ hag
    rw [e] at ho
    exact h.cut1 ho
theorem leT_get : ∀ {l : List (Nat × AV)}, leT T R' l → ∀ t, mkT l t = .top ∨ (mkT l t = T t ∧ okV R' (T t))
  | [], _, t => .inl rfl
  | (k, v) :: l, h, t => by
    obtain ⟨h1, h2, h3⟩ := h
    simp only [mkT]
    by_cases e : t = k
    · subst e; rw [upd_same]; exact .inr ⟨h1.symm, h1 ▸ h2⟩
    · rw [upd_ne _ _ e]; exact leT_get h3 t
theorem leR_get : ∀ {l : List (Nat × Row)}, leR R R' l → ∀ s r, mkR l s = some r → R s = some r ∧ okR R' r
  | [], _, s, r, h => by cases h
  | (k, q) :: l, h, s, r, hs => by
    obtain ⟨h1, h2, h3⟩ := h
    simp only [mkR] at hs
    by_cases e : s = k
    · subst e; rw [upd_same] at hs; injection hs with hs; subst hs; exact ⟨h1, h2⟩
    · rw [upd_ne _ _ e] at hs; exact leR_get h3 s r hs
theorem Le_mk {b b' : Nat} {lt : List (Nat × AV)} {lr : List (Nat × Row)} (hρ : ∀ s, C.ρ0 s = none) (hT : leT T (mkR lr) lt) (hR : leR R (mkR lr) lr) : Le C ⟨T, R, b⟩ ⟨mkT lt, mkR lr, b'⟩ := by
  intro M ρ a w h
  refine ⟨M, cutP (mkR lr) ρ, fun t => ?_, h.N, h.df, ⟨fun s r hs hsol => ?_, fun s s' r r' x x' hs hs' h1 h2 hx hx' hne => ?_, h.mr.imm, fun b o v s r x hM hs hsol hx => ?_⟩, h.chg, fun s r x hs hsol hx => ?_, h.m0, fun s x hs => ?_, h.mold, fun s hs => ?_⟩
  · show VR M (cutP (mkR lr) ρ) (mkT lt t) _
    rcases leT_get hT t with e | ⟨e, ho⟩
    · rw [e]; exact .plain (.top _)
    · rw [e]; exact (h.tm t).cut ho
  · obtain ⟨h1, h2⟩ := leR_get hR s r hs
    obtain ⟨x, hx, hX⟩ := h.mr.row s r h1 hsol
    have hs : mkR lr s = some r := hs
    refine ⟨x, by rw [cutP_of (by rw [hs]; simp)]; exact hx, ?_⟩
    cases r with
    | box T cs =>
      obtain ⟨arr, a1, a2, a3, a4⟩ := hX
      exact ⟨arr, a1, a2, a3, fun i c v hc hv => (a4 i c v hc hv).cut1 (okL_mem h2 c (List.mem_of_getElem? hc))⟩
    | row E sz cs => exact hX
    | gone => trivial
  · have hs0 : mkR lr s = some r := hs
    have hs0' : mkR lr s' = some r' := hs'
    rw [cutP_of (by rw [hs0]; simp)] at hx
    rw [cutP_of (by rw [hs0']; simp)] at hx'
    exact h.mr.inj s s' r r' x x' (leR_get hR s r hs).1 (leR_get hR s' r' hs').1 h1 h2 hx hx' hne
  · have hs0 : mkR lr s = some r := hs
    rw [cutP_of (by rw [hs0]; simp)] at hx
    exact h.mr.apt b o v s r x hM (leR_get hR s r hs).1 hsol hx
  · have hs0 : mkR lr s = some r := hs
    rw [cutP_of (by rw [hs0]; simp)] at hx
    exact h.new s r x (leR_get hR s r hs).1 hsol hx
  · rw [hρ s] at hs; cases hs
  · have hs0 : mkR lr s = none := hs
    unfold cutP
    rw [hs0]
end
section
variable {P : Program} {C : Ctx} {Q : Exit → St → Prop} {st : St}
/-- Where ways meet. -/
theorem AW_cut {x y : Code} (J : St → Prop) (h1 : AW P C x st (thenA (fun st' => ∃ S, J S ∧ Le C st' S) Q)) (h2 : ∀ S, J S → AW P C y S Q) : AW P C (.seq x y) st Q :=
  AW_seq (AW_mono h1 fun e s h => by
    cases e with
    | normal =>
      obtain ⟨S, hJ, hL⟩ := h
      exact AW_le hL (h2 S hJ)
    | _ => exact h)
end
end Go.Proofs.Ytfpfalknddfejaa
