/- Plain law: what is projected is stabilized, and is projected to itself. -/
import Derived.Test.YtfoiedjjhgpcpaaGreatKPvx
import Derived.Test.YtfoiedjjhgpcpaaGreatKPvz
import Derived.Test.YtfoiedjjhgpcpaaGreatKPvh
namespace Go.Proofs.YtfoiedjjhgpcpaaGreat
open Go.RowKit
set_option maxRecDepth 100000
set_option linter.unusedVariables false
set_option linter.unusedSimpArgs false
theorem mpO_get (g : Nat → Option DQ) : ∀ (c i : Nat) (r : List DQ), mpO g i c = some r → ∀ k, k < c → g (i + k) = some (r[k]?.getD d0)
  | 0, i, r, h, k, hk => by omega
  | c + 1, i, r, h, k, hk => by
    unfold mpO at h
    cases hz : g i with
    | none => rw [hz] at h; cases h
    | some z =>
      rw [hz] at h
      simp only [Option.bind_some] at h
      cases hr : mpO g (i + 1) c with
      | none => rw [hr] at h; cases h
      | some r' =>
        rw [hr] at h
        cases h
        cases k with
        | zero => exact hz
        | succ k =>
          have := mpO_get g c (i + 1) r' hr k (by omega)
          rw [show i + (k + 1) = i + 1 + k by omega, this]
          rfl
theorem gD_ext {v w : List DQ} (hl : v.length = w.length) (h : ∀ k, k < v.length → v[k]?.getD d0 = w[k]?.getD d0) : v = w := by
  refine List.ext_getElem hl fun k h1 h2 => ?_
  have := h k h1
  rw [List.getElem?_eq_getElem h1, List.getElem?_eq_getElem h2] at this
  exact this
theorem apM_ok {p : Q4} (hp : vP p = true) {v : List DQ} (hs : stB v = true) (hl : v.length = 2 ^ p.1.toNat) : apM (pmX p) v = some (apP p v) := by
  have h1 := (vP_iff.1 hp).1
  unfold apM pmX
  rw [if_pos hp]
  have hlen : (pmL p).length = 2 ^ p.1.toNat := by rw [pm_tb, tb_len]
  have hmt : mtB (pmL p) = true := by rw [pm_tb]; exact tb_mtB (qc_pw h1) (fun r c _ _ => pm_vd _ _ _)
  rw [if_pos ⟨⟨hmt, hs⟩, by rw [hlen, hl]⟩, ap_pm hp hl (st_inv hs).1]
theorem apM_inv {p : Q4} {v r : List DQ} (h : apM (pmX p) v = some r) : vP p = true ∧ stB v = true ∧ v.length = 2 ^ p.1.toNat ∧ r = apP p v := by
  cases hp : vP p with
  | false =>
    have e : pmX p = [] := by unfold pmX; rw [hp]; rfl
    rw [e] at h
    unfold apM at h
    rw [if_neg (fun hc => absurd hc.1.1 (by decide))] at h
    cases h
  | true =>
    have h0 := h
    unfold apM at h
    split at h
    · rename_i hc
      have hlen : (pmX p).length = 2 ^ p.1.toNat := by unfold pmX; rw [if_pos hp, pm_tb, tb_len]
      have hl : v.length = 2 ^ p.1.toNat := by rw [← hc.2, hlen]
      rw [apM_ok hp hc.1.2 hl] at h0
      exact ⟨rfl, hc.1.2, hl, (Option.some.inj h0).symm⟩
    · cases h
theorem adM_inv {u v r : List DQ} (h : adM u v = some r) : r.length = u.length ∧ ∀ k, k < u.length → addF (u[k]?.getD d0) (v[k]?.getD d0) = some (r[k]?.getD d0) := by
  refine ⟨adM_len h, fun k hk => ?_⟩
  unfold adM at h
  split at h
  · have := mpO_get _ _ _ _ h k hk
    rw [Nat.zero_add] at this
    unfold adK at this
    split at this
    · exact this
    · cases this
  · cases h
theorem scM_inv {v r : List DQ} {z : DQ} (h : scM v z = some r) : r.length = v.length ∧ ∀ k, k < v.length → mulF (v[k]?.getD d0) z = some (r[k]?.getD d0) := by
  unfold scM at h
  split at h
  · refine ⟨mpO_len _ _ _ _ h, fun k hk => ?_⟩
    have := mpO_get _ _ _ _ h k hk
    rw [Nat.zero_add] at this
    unfold scK at this
    split at this
    · exact this
    · cases this
  · cases h
theorem prM_inv {p : Q4} {v w : List DQ} (h : prM p v = some w) : vP p = true ∧ stB v = true ∧ v.length = 2 ^ p.1.toNat ∧ w.length = v.length ∧ ∃ s : Nat → DQ, ∀ k, k < v.length → addF (v[k]?.getD d0) (atp p v k) = some (s k) ∧ mulF (s k) h2 = some (w[k]?.getD d0) := by
  unfold prM at h
  cases ha : apM (pmX p) v with
  | none => rw [ha] at h; cases h
  | some a =>
    obtain ⟨h1, h2', h3, h4⟩ := apM_inv ha
    subst h4
    rw [ha] at h
    simp only [Option.bind_some] at h
    cases hs : adM v (apP p v) with
    | none => rw [hs] at h; cases h
    | some s =>
      rw [hs] at h
      simp only [Option.bind_some] at h
      obtain ⟨l1, g1⟩ := adM_inv hs
      obtain ⟨l2, g2⟩ := scM_inv h
      refine ⟨h1, h2', h3, by omega, fun k => s[k]?.getD d0, fun k hk => ⟨?_, g2 k (by omega)⟩⟩
      have := g1 k hk
      rw [ap_get p v (by omega), Option.getD_some] at this
      exact this
/-- What is projected is stabilized. -/
theorem prM_stab {p : Q4} (hh : hP p = true) {v w : List DQ} (h : prM p v = some w) : stB w = true ∧ w.length = 2 ^ p.1.toNat ∧ apP p w = w := by
  obtain ⟨hp, hs, hl, hw, s, hk⟩ := prM_inv h
  have h1 := (vP_iff.1 hp).1
  let P : Gp p.1 := ⟨p, hp, rfl⟩
  have hsq : P * P = Gp.one h1 := (Gp.sq_iff h1 P).1 hh
  have hwl : w.length = 2 ^ p.1.toNat := by omega
  have lt : ∀ {r}, r < 2 ^ p.1.toNat → pix p r < 2 ^ p.1.toNat := fun hr => pix_lt hp hr
  refine ⟨?_, hwl, ?_⟩
  · unfold stB at hs ⊢
    rw [Bool.and_eq_true] at hs ⊢
    refine ⟨?_, by rw [hw]; exact hs.2⟩
    rw [List.all_eq_true]
    intro x hx
    obtain ⟨k, hkk, rfl⟩ := List.getElem_of_mem hx
    have := hk k (by omega)
    rw [List.getElem?_eq_getElem hkk, Option.getD_some] at this
    exact (sum_half this.1 this.2).1
  · refine gD_ext (by rw [ap_len, hwl]) fun r hr => ?_
    rw [ap_len] at hr
    rw [ap_get p w hr, Option.getD_some]
    have a1 := hk r (by omega)
    have a2 := hk (pix p r) (by have := lt hr; omega)
    unfold atp at a1 a2 ⊢
    rw [pix_pix] at a2
    refine proj_stab a1.1 a1.2 a2.1 a2.2 ?_
    exact pe_herm h1 (p := P) hsq (c := r) hr
theorem prM_again {p : Q4} (hh : hP p = true) {v w y : List DQ} (h : prM p v = some w) (hy : prM p w = some y) : y = w := by
  obtain ⟨hs, hl, hst⟩ := prM_stab hh h
  obtain ⟨_, _, _, hyl, s, hk⟩ := prM_inv hy
  refine gD_ext hyl fun k hkk => ?_
  have hkw : k < w.length := by omega
  obtain ⟨e1, e2⟩ := hk k hkw
  have e3 : atp p w k = w[k]?.getD d0 := by
    have := ap_get p w (r := k) (by omega)
    rw [hst] at this
    rw [this]; rfl
  rw [e3] at e1
  have hv : vd (w[k]?.getD d0) = true := by
    rw [List.getElem?_eq_getElem hkw]
    exact (st_inv hs).1 _ (List.getElem_mem hkw)
  exact half_self hv e1 e2
theorem stM_true {p : Q4} (hh : hP p = true) {v w : List DQ} (h : prM p v = some w) : stM p w = true := by
  obtain ⟨hs, hl, hst⟩ := prM_stab hh h
  unfold stM
  rw [apM_ok (hP_vP hh) hs hl, hst]
  exact beq_self_eq_true w
end Go.Proofs.YtfoiedjjhgpcpaaGreat
