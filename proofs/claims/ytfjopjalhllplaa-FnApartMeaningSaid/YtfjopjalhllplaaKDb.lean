/- The draw of BranchPhases: some lists of branches, of valid numbers. -/
import Derived.Test.YtfjopjalhllplaaK1
import Derived.Test.YtfjopjalhllplaaKMlc
import Derived.Test.YtfjopjalhllplaaKPvx
import Derived.Test.YtfjopjalhllplaaK17
import Derived.Test.YtfjopjalhllplaaKPd
namespace Go.Proofs.Ytfjopjalhllplaa
open Go.RowKit
set_option maxRecDepth 100000
set_option linter.unusedVariables false
set_option linter.unusedSimpArgs false
set_option maxHeartbeats 4000000
abbrev LB := List (Int × List (List DQ))
/-- Amplitudes of a state, all valid; branches of such states. -/
def GV (v : List DQ) : Prop := v ≠ [] ∧ v.length ≤ 1000 ∧ ∀ z ∈ v, vd z = true
def GL (L : LB) : Prop := L.length ≤ 1000 ∧ ∀ b ∈ L, b.2.length ≤ 1000 ∧ ∀ v ∈ b.2, GV v
theorem fin_choice {α : Type} (P : Nat → α → Prop) : ∀ n : Nat, (∀ i, i < n → ∃ y, P i y) → ∃ l : List α, l.length = n ∧ ∀ i y, l[i]? = some y → P i y
  | 0, _ => ⟨[], rfl, fun i y h => by simp at h⟩
  | n + 1, h => by
    obtain ⟨l, h1, h2⟩ := fin_choice P n (fun i hi => h i (by omega))
    obtain ⟨y, hy⟩ := h n (by omega)
    refine ⟨l ++ [y], by simp [h1], fun i z hz => ?_⟩
    by_cases hi : i < n
    · rw [List.getElem?_append_left (by omega)] at hz
      exact h2 i z hz
    · rw [List.getElem?_append_right (by omega), h1] at hz
      have : i = n := by
        rcases Nat.eq_or_lt_of_le (Nat.le_of_not_lt hi) with h | h
        · exact h.symm
        · rw [List.getElem?_eq_none (by simp; omega)] at hz; cases hz
      subst this
      rw [Nat.sub_self] at hz
      simp at hz; subst hz; exact hy
theorem enc5_fl : ∀ (v : List DQ), ∀ c ∈ encL EIIIII v, flA c = true
  | [], c, h => by simp [encL] at h
  | x :: v, c, h => by
    rw [encL_cons] at h
    rcases List.mem_append.1 h with h | h
    · simp only [EIIIII, List.mem_cons, List.not_mem_nil, or_false] at h
      rcases h with rfl | rfl | rfl | rfl | rfl <;> rfl
    · exact enc5_fl v c h
theorem encB_fl : ∀ (v : List Int), ∀ c ∈ encL EB v, flA c = true
  | [], c, h => by simp [encL] at h
  | x :: v, c, h => by
    rw [encL_cons] at h
    rcases List.mem_append.1 h with h | h
    · simp only [EB, List.mem_cons, List.not_mem_nil, or_false] at h
      subst h; rfl
    · exact encB_fl v c h
theorem encS_get : ∀ (S : List (List DQ)) (i : Nat) (c : AV), (encL ELIIIIIE S)[i]? = some c → ∃ q, S[i]? = some q ∧ c = .sl (encL EIIIII q) q.length
  | [], i, c, h => by simp [encL] at h
  | x :: S, 0, c, h => by
    rw [encL_cons] at h
    simp only [ELIIIIIE, List.cons_append, List.nil_append, List.getElem?_cons_zero, Option.some.injEq] at h
    exact ⟨x, rfl, h.symm⟩
  | x :: S, i + 1, c, h => by
    rw [encL_cons] at h
    simp only [ELIIIIIE, List.cons_append, List.nil_append, List.getElem?_cons_succ] at h
    obtain ⟨q, h1, h2⟩ := encS_get S i c h
    exact ⟨q, by simpa using h1, h2⟩
theorem encS_some : ∀ (S : List (List DQ)) (i : Nat) (q : List DQ), S[i]? = some q → (encL ELIIIIIE S)[i]? = some (.sl (encL EIIIII q) q.length)
  | x :: S, 0, q, h => by
    simp only [List.getElem?_cons_zero, Option.some.injEq] at h
    subst h; rfl
  | x :: S, i + 1, q, h => by
    rw [encL_cons]
    simp only [ELIIIIIE, List.cons_append, List.nil_append, List.getElem?_cons_succ]
    exact encS_some S i q (by simpa using h)
theorem encR_get : ∀ (L : LB) (k : Nat) (q : Int × List (List DQ)), L[k]? = some q → (encL EILLIIIIIEE L)[2 * k]? = some (.int .i64 q.1) ∧ (encL EILLIIIIIEE L)[2 * k + 1]? = some (.sl (encL ELIIIIIE q.2) q.2.length)
  | x :: L, 0, q, h => by
    simp only [List.getElem?_cons_zero, Option.some.injEq] at h
    subst h; exact ⟨rfl, rfl⟩
  | x :: L, k + 1, q, h => by
    obtain ⟨h1, h2⟩ := encR_get L k q (by simpa using h)
    rw [encL_cons]
    rw [show 2 * (k + 1) = (2 * k + 1) + 1 by omega]
    simp only [EILLIIIIIEE, List.cons_append, List.nil_append, List.getElem?_cons_succ]
    exact ⟨h1, h2⟩
theorem encR_len : ∀ L : LB, (encL EILLIIIIIEE L).length = 2 * L.length
  | [] => rfl
  | x :: L => by rw [encL_cons, List.length_append, encR_len L, EILLIIIIIEEl, List.length_cons]; omega
theorem pv_int {M : Imm} {k : IntKind} {n : Int} {v : Value} (h : PV M (.int k n) v) : v = .int k n := by cases h; rfl
theorem pv_slv {M : Imm} {cs : List AV} {n : Nat} {v : Value} (h : PV M (.sl cs n) v) : slV v = true := by cases h; rfl
section
variable {M : Imm} {g off : Nat} {u old : Value} {x0 x : List DQ}
theorem gs_upd (ho : M g off = some old) (hs : slV old = true) (hx : GV x) (hu : PV M (.sl (encL EIIIII x) x.length) u) {S : List (List DQ)} (hS : ∀ v ∈ S, GV v) {v : Value} (h : PV M (.sl (encL ELIIIIIE S) S.length) v) :
    ∃ S' : List (List DQ), S'.length = S.length ∧ (∀ v ∈ S', GV v) ∧ PV (updM M g off u) (.sl (encL ELIIIIIE S') S'.length) v := by
  have hns := updM_ns (u := u) ho hs
  cases h with
  | sl _ _ A cap b o f hA hn hm hh =>
    obtain ⟨S', h1, h2⟩ := fin_choice (fun i y => GV y ∧ updM M g off u b (o + i) = some (if b = g ∧ o + i = off then u else f i) ∧ PV (updM M g off u) (.sl (encL EIIIII y) y.length) (if b = g ∧ o + i = off then u else f i)) S.length (fun i hi => by
      have hq := encS_some S i S[i] (List.getElem?_eq_getElem hi)
      by_cases hc : b = g ∧ o + i = off
      · refine ⟨x, hx, ?_, ?_⟩
        · unfold updM; rw [if_pos hc, if_pos hc]
        · rw [if_pos hc]; exact pv_flsl (enc5_fl x) hns hu
      · refine ⟨S[i], hS _ (List.getElem_mem hi), ?_, ?_⟩
        · unfold updM; rw [if_neg hc, if_neg hc]; exact hm i _ hq
        · rw [if_neg hc]; exact pv_flsl (enc5_fl _) hns (hh i _ hq))
    have key1 : ∀ (i : Nat) (c : AV), (encL ELIIIIIE S')[i]? = some c → updM M g off u b (o + i) = some (if b = g ∧ o + i = off then u else f i) := fun i c hc => by
      obtain ⟨q, hq, rfl⟩ := encS_get S' i c hc
      exact (h2 i q hq).2.1
    have key2 : ∀ (i : Nat) (c : AV), (encL ELIIIIIE S')[i]? = some c → PV (updM M g off u) c (if b = g ∧ o + i = off then u else f i) := fun i c hc => by
      obtain ⟨q, hq, rfl⟩ := encS_get S' i c hc
      exact (h2 i q hq).2.2
    refine ⟨S', h1, fun v hv => ?_, by
      rw [h1]
      exact .sl (encL ELIIIIIE S') S.length A cap b o (fun i => if b = g ∧ o + i = off then u else f i) hA hn (fun i c hc => key1 i c hc) (fun i c hc => key2 i c hc)⟩
    · obtain ⟨i, hi, rfl⟩ := List.getElem_of_mem hv
      exact (h2 i _ (List.getElem?_eq_getElem hi)).1
/-- No cell holds both a slice of numbers and a slice of slices. -/
theorem no_clash (h1 : PV M (.sl (encL EIIIII x0) x0.length) old) (h0 : x0 ≠ []) {S : List (List DQ)} (h2 : PV M (.sl (encL ELIIIIIE S) S.length) old) : False := by
  have hp : 0 < x0.length := by cases x0 with | nil => exact absurd rfl h0 | cons a l => simp
  cases h1 with
  | sl _ n A cap b o f hA hn hm hh =>
    generalize hSl : S.length = m at h2
    generalize hxl : x0.length = n at *
    cases h2 with
    | sl _ _ _ _ b' o' f' hA' hn' hm' hh' =>
      have e1 := hA hp
      have e2 := hA' hp
      rw [e1] at e2
      injection e2 with e2; injection e2 with e2 e3
      subst e2 e3
      obtain ⟨z, l, rfl⟩ : ∃ z l, x0 = z :: l := by cases x0 with | nil => exact absurd rfl h0 | cons a l => exact ⟨a, l, rfl⟩
      obtain ⟨q, l', rfl⟩ : ∃ q l', S = q :: l' := by cases S with | nil => simp at hSl; omega | cons a l => exact ⟨a, l, rfl⟩
      have c1 := hm 0 _ rfl
      have c2 := hm' 0 _ rfl
      have d1 := hh 0 _ rfl
      have d2 := hh' 0 _ rfl
      rw [c1] at c2
      injection c2 with c2
      have d1 := pv_int d1
      have d2 := pv_slv d2
      rw [← c2, d1] at d2
      cases d2
theorem gl_upd (ho : M g off = some old) (hs : slV old = true) (hp : PV M (.sl (encL EIIIII x0) x0.length) old) (h0 : x0 ≠ []) (hx : GV x) (hu : PV M (.sl (encL EIIIII x) x.length) u) {L : LB} (hL : GL L) {v : Value} (h : PV M (.sl (encL EILLIIIIIEE L) L.length) v) :
    ∃ L' : LB, L'.length = L.length ∧ GL L' ∧ PV (updM M g off u) (.sl (encL EILLIIIIIEE L') L'.length) v := by
  have hns := updM_ns (u := u) ho hs
  cases h with
  | sl _ _ A cap b o f hA hn hm hh =>
    obtain ⟨L', h1, h2⟩ := fin_choice (fun k (y : Int × List (List DQ)) => (y.2.length ≤ 1000 ∧ ∀ v ∈ y.2, GV v) ∧ (updM M g off u b (o + 2 * k) = some (f (2 * k)) ∧ f (2 * k) = .int .i64 y.1) ∧ updM M g off u b (o + (2 * k + 1)) = some (f (2 * k + 1)) ∧ PV (updM M g off u) (.sl (encL ELIIIIIE y.2) y.2.length) (f (2 * k + 1))) L.length (fun k hk => by
      obtain ⟨q1, q2⟩ := encR_get L k L[k] (List.getElem?_eq_getElem hk)
      obtain ⟨g1, g2⟩ := hL.2 _ (List.getElem_mem hk)
      have p1 := hh _ _ q1
      have p2 := hh _ _ q2
      obtain ⟨S', s1, s2, s3⟩ := gs_upd ho hs hx hu g2 p2
      have e1 : f (2 * k) = .int .i64 L[k].1 := pv_int p1
      refine ⟨(L[k].1, S'), ⟨by simp only; omega, s2⟩, ⟨?_, e1⟩, ?_, s3⟩
      · exact hns _ _ _ (hm _ _ q1) (by rw [e1]; rfl)
      · unfold updM
        rw [if_neg]
        · exact hm _ _ q2
        · rintro ⟨rfl, hc⟩
          have hM := hm _ _ q2
          rw [hc, ho] at hM
          injection hM with hM
          rw [← hM] at p2
          exact no_clash hp h0 p2)
    have gL : GL L' := ⟨by rw [h1]; exact hL.1, fun y hy => by
      obtain ⟨k, hk, rfl⟩ := List.getElem_of_mem hy
      exact (h2 k _ (List.getElem?_eq_getElem hk)).1⟩
    have key : ∀ (i : Nat) (c : AV), (encL EILLIIIIIEE L')[i]? = some c → updM M g off u b (o + i) = some (f i) ∧ PV (updM M g off u) c (f i) := fun i c hc => by
      have hi : i < 2 * L'.length := by
        rw [← encR_len]
        rcases Nat.lt_or_ge i (encL EILLIIIIIEE L').length with h' | h'
        · exact h'
        · rw [List.getElem?_eq_none h'] at hc; cases hc
      have hk : i / 2 < L'.length := by omega
      obtain ⟨_, ⟨a1, a2⟩, a3, a4⟩ := h2 _ _ (List.getElem?_eq_getElem hk)
      obtain ⟨q1, q2⟩ := encR_get L' (i / 2) L'[i / 2] (List.getElem?_eq_getElem hk)
      have h2' : i = 2 * (i / 2) ∨ i = 2 * (i / 2) + 1 := by omega
      rcases h2' with e | e
      · rw [e] at hc ⊢
        rw [q1] at hc; injection hc with hc; subst hc
        exact ⟨a1, by rw [a2]; exact .int ..⟩
      · rw [e] at hc ⊢
        rw [q2] at hc; injection hc with hc; subst hc
        exact ⟨a3, a4⟩
    exact ⟨L', h1, gL, h1 ▸ .sl (encL EILLIIIIIEE L') L.length A cap b o f hA hn (fun i c hc => (key i c hc).1) (fun i c hc => (key i c hc).2)⟩
end
/-- A state times a phase is a state of valid numbers. -/
theorem sc_good {v : List DQ} (hv : GV v) {z : DQ} : ∃ r, s_ScaleState v z.1 z.2.1 z.2.2.1 z.2.2.2.1 z.2.2.2.2 = some r ∧ (r.2 = true → GV r.1) := by
  refine ⟨_, s_scM v z (by have := hv.2.1; omega), fun hr => ?_⟩
  cases h : scM v z with
  | none => rw [h] at hr; cases hr
  | some w =>
    show GV w
    unfold scM at h
    split at h
    · have hl := mpO_len (scK v z) v.length 0 w h
      refine ⟨fun e => ?_, by have := hv.2.1; omega, fun y hy => ?_⟩
      · rw [e] at hl
        exact hv.1 (List.eq_nil_of_length_eq_zero hl.symm)
      · obtain ⟨i, hi, rfl⟩ := List.getElem_of_mem hy
        have hg := mpO_get (scK v z) v.length 0 w h i (by omega)
        rw [List.getElem?_eq_getElem hi, Nat.zero_add] at hg
        unfold scK at hg
        split at hg
        · exact (mul_val hg).1
        · cases hg
    · cases h
end Go.Proofs.Ytfjopjalhllplaa
