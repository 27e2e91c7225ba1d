/- Plain law: the reference's simulation, as a function on amplitudes: the whole. -/
import Derived.Test.YtfjopjalhllplaaKPsn
import Derived.Test.YtfjopjalhllplaaKDb
namespace Go.Proofs.Ytfjopjalhllplaa
open Go.RowKit
set_option maxRecDepth 100000
set_option linter.unusedVariables false
set_option linter.unusedSimpArgs false
def hx (o : OP) : Nat := if o.1 = 1 then kq (oG o).1 else 0
def hcO : List OP → Nat
 | [] => 0
 | o :: L => hx o + hcO L
theorem hcO_le : ∀ L : List OP, hcO L ≤ L.length
 | [] => Nat.le_refl 0
 | o :: L => by
  have := hcO_le L
  unfold hcO hx kq
  simp only [List.length_cons]
  split <;> (try split) <;> omega
def knx (o : OP) (kn : Nat) : Nat := if o.1 = 2 then kn + 1 else kn
theorem IvB.mono {kn h kn' h' : Nat} {B : BQ} (hB : IvB kn h B) (h1 : kn ≤ kn') (h2 : h ≤ h') : IvB kn' h' B := by
 obtain ⟨⟨b0, b1⟩, hK, hbd⟩ := hB
 refine ⟨⟨b0, ?_⟩, by omega, hbd⟩
 have : (2 : Int) ^ kn ≤ 2 ^ kn' := by
  have := Nat.pow_le_pow_right (n := 2) (by omega) h1
  exact_mod_cast this
 omega
theorem iv_in0 : IvB 0 0 in0 := ⟨⟨Int.le_refl _, by decide⟩, Nat.le_refl _, fun i => dl_bd i⟩
theorem iv_gt {kn h : Nat} {B : BQ} (hB : IvB kn h B) (o : OP) : IvB kn (h + kq (oG o).1) (gtF o B) := by
 unfold gtF
 split
 ·exact hB.mono (Nat.le_refl _) (by omega)
 ·obtain ⟨b, hK, hbd⟩ := hB
  exact ⟨b, by simp only; omega, fun i => gz_bd' (hbd i) (oG o)⟩
theorem prA_bd {M : Int} {f : Amp} (h : bdv M f) (hM : 0 ≤ M) (q : Nat) (one : Bool) : bdv M (prA q one f) := fun r => by
 unfold prA
 split
 ·exact h r
 ·unfold bdz; simp only; omega
theorem iv_ms {n inn kn h q : Nat} {B : BQ} (hB : IvB kn h B) : ∀ B' ∈ msF n inn q kn B, IvB (kn + 1) h B' := by
 obtain ⟨⟨b0, b1⟩, hK, hbd⟩ := hB
 have e2 : (2 : Int) ^ (kn + 1) = 2 ^ kn + 2 ^ kn := by rw [Int.pow_succ]; omega
 have hpos : (0 : Int) < 2 ^ kn := by
  have := Nat.pow_pos (n := kn) (show 0 < 2 by omega)
  exact_mod_cast this
 intro B' hB'
 unfold msF at hB'
 rcases List.mem_append.1 hB' with h | h
 ·split at h
  ·simp only [List.mem_cons, List.not_mem_nil, or_false] at h
   subst h
   exact ⟨⟨b0, by simp only; omega⟩, hK, fun i => prA_bd (hbd i) (Int.natCast_nonneg _) q false⟩
  ·simp at h
 ·split at h
  ·simp only [List.mem_cons, List.not_mem_nil, or_false] at h
   subst h
   exact ⟨⟨by simp only; omega, by simp only; omega⟩, hK, fun i => prA_bd (hbd i) (Int.natCast_nonneg _) q true⟩
  ·simp at h
/-- An operation that may stand behind so many known bits. -/
def okO (n bits : Int) (kn : Nat) (o : OP) : Prop := ovB n bits o = true ∧ oI o ≤ (kn : Int) ∧ (o.1 = 2 → oB o = (kn : Int))
theorem ov_gate {n bits : Int} {o : OP} (h : ovB n bits o = true) (h1 : o.1 = 1) : gvB n (oG o) = true ∧ (0 ≤ oI o ∧ oI o ≤ bits) := by
 unfold ovB at h
 rw [if_pos h1] at h
 simp only [Bool.and_eq_true, decide_eq_true_eq] at h
 exact ⟨h.2.2.2.1, h.2.2.2.2⟩
theorem ov_meas {n bits : Int} {o : OP} (h : ovB n bits o = true) (h1 : o.1 = 2) : (0 ≤ oQ o ∧ oQ o ≤ n - 1) ∧ (0 ≤ oB o ∧ oB o ≤ bits - 1) := by
 unfold ovB at h
 rw [if_neg (by omega), if_pos h1] at h
 simp only [Bool.and_eq_true, decide_eq_true_eq] at h
 exact ⟨h.2.2.2.1, h.2.2.2.2⟩
theorem ov_kind {n bits : Int} {o : OP} (h : ovB n bits o = true) : (o.1 = 1 ∨ o.1 = 2 ∨ o.1 = 3) ∧ (0 ≤ bits ∧ bits ≤ 3) := by
 unfold ovB at h
 simp only [Bool.and_eq_true, decide_eq_true_eq] at h
 refine ⟨?_, h.2.1⟩
 have h2 := h.2.2
 split at h2
 ·exact .inl (by assumption)
 split at h2
 ·exact .inr (.inl (by assumption))
 split at h2
 ·exact .inr (.inr (by assumption))
 ·cases h2
section
variable {n inn : Nat}
theorem ms_len (q bit : Nat) (B : BQ) : (msF n inn q bit B).length ≤ 2 := by
 unfold msF
 (repeat' split) <;> simp
theorem op_len (o : OP) (B : BQ) : (opF n inn o B).length ≤ (if o.1 = 2 then 2 else 1) := by
 unfold opF
 by_cases h1 : o.1 = 1
 ·rw [if_pos h1, if_neg (by omega)]; simp
 ·rw [if_neg h1]
  by_cases h2 : o.1 = 2
  ·rw [if_pos h2, if_pos h2]; exact ms_len _ _ _
  ·rw [if_neg h2, if_neg h2]; simp
theorem iv_op {bits : Int} {kn h : Nat} {o : OP} (ho : okO (n : Int) bits kn o) {B : BQ} (hB : IvB kn h B) : ∀ B' ∈ opF n inn o B, IvB (knx o kn) (h + hx o) B' := by
 intro B' hB'
 unfold opF at hB'
 unfold knx hx
 by_cases h1 : o.1 = 1
 ·rw [if_pos h1] at hB'
  simp only [List.mem_cons, List.not_mem_nil, or_false] at hB'
  subst hB'
  rw [if_neg (by omega), if_pos h1]
  exact iv_gt hB o
 ·rw [if_neg h1] at hB' ⊢
  by_cases h2 : o.1 = 2
  ·rw [if_pos h2] at hB' ⊢
   rw [ho.2.2 h2, Int.toNat_natCast] at hB'
   exact iv_ms hB B' hB'
  ·rw [if_neg h2] at hB' ⊢
   simp only [List.mem_cons, List.not_mem_nil, or_false] at hB'
   subst hB'
   exact hB
theorem s_step (hn : 1 ≤ n ∧ n ≤ 4) (hin : 1 ≤ inn ∧ inn ≤ n) {bits : Int} {kn h : Nat} (hkn : kn ≤ 3) (hh : h ≤ 23) {o : OP} (ho : okO (n : Int) bits kn o) {l : List BQ} (hl : l.length ≤ 8) (hB : ∀ B ∈ l, IvB kn h B) :
  s_l23Step (l.map (brC n inn)) o.1 o.2.1 o.2.2.1 o.2.2.2.1 o.2.2.2.2.1 o.2.2.2.2.2.1 o.2.2.2.2.2.2.1 o.2.2.2.2.2.2.2 = some ((l.flatMap (opF n inn o)).map (brC n inn), true) := by
 obtain ⟨hkd, hbits⟩ := ov_kind ho.1
 have key : ∀ (m i : Nat) (out : List (Int × List (List DQ))), i ≤ l.length → l.length - i < m → out.length ≤ 2 * i →
   s_l23Step_l1 (l.map (brC n inn)) o.1 o.2.1 o.2.2.1 o.2.2.2.1 o.2.2.2.2.1 o.2.2.2.2.2.1 o.2.2.2.2.2.2.1 o.2.2.2.2.2.2.2 m (i : Int) out = some (out ++ ((l.drop i).flatMap (opF n inn o)).map (brC n inn), true) := by
  intro m
  induction m with
  | zero => intro i out _ h; omega
  | succ m ih =>
   intro i out hi hm ho'
   rw [s_l23Step_l1, List.length_map]
   by_cases e : i = l.length
   ·rw [decide_eq_false (by omega), br_false, List.drop_of_length_le (by omega)]
    simp [s_l23Step_j1]
   ·have hil : i < l.length := by omega
    have hget : geti (l.map (brC n inn)) (i : Int) = some (brC n inn l[i]) := geti_nat (by rw [List.getElem?_map, List.getElem?_eq_getElem hil]; rfl)
    have hBi := hB _ (List.getElem_mem hil)
    rw [decide_eq_true (by omega), br_true, List.drop_eq_getElem_cons hil, List.flatMap_cons, List.map_append]
    unfold s_l23Step_j4
    rcases hkd with h1 | h1 | h1
    ·obtain ⟨g1, g2⟩ := ov_gate ho.1 h1
     have ef : opF n inn o l[i] = [gtF o l[i]] := by unfold opF; rw [if_pos h1]
     rw [show (o.1 == 1) = true by rw [h1]; rfl, br_true, hget, bO_some, s_gt hn hin g1 (by omega) hkn hh hBi, bO_some]
     simp only [Bool.not_true, br_false]
     rw [decide_eq_true (by simp; omega), gd_true, w64s hil (by omega), ih (i + 1) _ (by omega) (by omega) (by simp; omega), ef, List.append_assoc]
     rfl
    ·obtain ⟨g1, g2⟩ := ov_meas ho.1 h1
     have ef : opF n inn o l[i] = msF n inn (oQ o).toNat (oB o).toNat l[i] := by unfold opF; rw [if_neg (by omega), if_pos h1]
     have hms := s_ms hn hin (q := (oQ o).toNat) (bit := (oB o).toNat) (by omega) (by omega) hkn (show h ≤ 60 by omega) hBi
     rw [show (((oQ o).toNat : Nat) : Int) = oQ o by omega, show (((oB o).toNat : Nat) : Int) = oB o by omega] at hms
     have hl2 := ms_len (n := n) (inn := inn) (oQ o).toNat (oB o).toNat l[i]
     rw [show (o.1 == 1) = false by rw [h1]; rfl, br_false, show (o.1 == 2) = true by rw [h1]; rfl, br_true, hget, bO_some]
     show bO (s_MeasureBranch _ _ (oQ o) (oB o)) _ = _
     rw [hms, bO_some, decide_eq_true (by simp; omega), gd_true, w64s hil (by omega), ih (i + 1) _ (by omega) (by omega) (by simp; omega), ef, List.append_assoc]
    ·have ef : opF n inn o l[i] = [l[i]] := by unfold opF; rw [if_neg (by omega), if_neg (by omega)]
     rw [show (o.1 == 1) = false by rw [h1]; rfl, br_false, show (o.1 == 2) = false by rw [h1]; rfl, br_false, hget, bO_some, decide_eq_true (by simp; omega), gd_true, w64s hil (by omega), ih (i + 1) _ (by omega) (by omega) (by simp; omega), ef, List.append_assoc]
     rfl
 have := key FU 0 [] (by omega) (by rw [FU_eq]; omega) (by simp)
 exact this
theorem flat_len (o : OP) : ∀ l : List BQ, (l.flatMap (opF n inn o)).length ≤ l.length * (if o.1 = 2 then 2 else 1)
 | [] => by simp
 | B :: l => by
  rw [List.flatMap_cons, List.length_append, List.length_cons, Nat.succ_mul]
  have h1 := op_len (n := n) (inn := inn) o B
  have h2 := flat_len o l
  omega
theorem sim_run (hn : 1 ≤ n ∧ n ≤ 4) (hin : 1 ≤ inn ∧ inn ≤ n) {bits : Int} (hbits : 0 ≤ bits ∧ bits ≤ 3) : ∀ (L : List OP) (kn h : Nat) (l : List BQ), rvL (n : Int) bits L kn = true → (kn : Int) ≤ bits → l.length ≤ 2 ^ kn → (∀ B ∈ l, IvB kn h B) →
  (simF n inn L l).length ≤ 8 ∧ ∀ B ∈ simF n inn L l, IvB bits.toNat (h + hcO L) B
 | [], kn, h, l, hv, hk, hl, hB => by
  have := p8 (n := kn) (by omega)
  refine ⟨by show l.length ≤ 8; omega, fun B hb => (hB B hb).mono (by omega) (by omega)⟩
 | o :: L, kn, h, l, hv, hk, hl, hB => by
  unfold rvL at hv
  simp only [Bool.and_eq_true, decide_eq_true_eq, Bool.or_eq_true] at hv
  obtain ⟨⟨v1, v2⟩, v3, v4⟩ := hv
  have ho : okO (n : Int) bits kn o := ⟨v1, v2, fun h2 => by
    rcases v3 with v3 | v3
    · rw [h2] at v3; cases v3
    · exact eq_of_beq v3⟩
  have hk' : ((knx o kn : Nat) : Int) ≤ bits := by
   unfold knx
   split
   ·rename_i h2
    have := (ov_meas v1 h2).2
    have := ho.2.2 h2
    omega
   ·exact hk
  have hl' : (l.flatMap (opF n inn o)).length ≤ 2 ^ knx o kn := by
   have h1 := flat_len (n := n) (inn := inn) o l
   unfold knx
   split at h1
   ·rename_i h2
    rw [if_pos h2, Nat.pow_succ]; omega
   ·rename_i h2
    rw [if_neg h2]; omega
  obtain ⟨r1, r2⟩ := sim_run hn hin hbits L (knx o kn) (h + hx o) (l.flatMap (opF n inn o)) v4 hk' hl' (fun B' hB' => by
    obtain ⟨B, hb, hb'⟩ := List.mem_flatMap.1 hB'
    exact iv_op ho (hB B hb) B' hb')
  refine ⟨r1, fun B hb => ?_⟩
  have := r2 B hb
  rw [Nat.add_assoc] at this
  exact this
theorem s_simL (hn : 1 ≤ n ∧ n ≤ 4) (hin : 1 ≤ inn ∧ inn ≤ n) {bits : Int} (hbits : 0 ≤ bits ∧ bits ≤ 3) {L : List OP} (hL : L.length ≤ 4000000) : ∀ (m i kn h : Nat) (l : List BQ), i ≤ L.length → L.length - i < m → rvL (n : Int) bits (L.drop i) kn = true → (kn : Int) ≤ bits → l.length ≤ 2 ^ kn → (∀ B ∈ l, IvB kn h B) → h + hcO (L.drop i) ≤ 23 →
  s_SimulatePrefix_l1 L (L.length : Int) m (i : Int) (l.map (brC n inn)) = some ((simF n inn (L.drop i) l).map (brC n inn), true) := by
 intro m
 induction m with
 | zero => intro i kn h l _ h1; omega
 | succ m ih =>
  intro i kn h l hi hm hv hk hl hB hh
  rw [s_SimulatePrefix_l1]
  by_cases e : i = L.length
  ·rw [decide_eq_false (by omega), br_false, bO_some, List.drop_of_length_le (by omega)]
   rfl
  ·have hil : i < L.length := by omega
   rw [List.drop_eq_getElem_cons hil] at hv hh ⊢
   rw [decide_eq_true (by omega), br_true, bO_some]
   unfold s_SimulatePrefix_j4
   rw [br_true, geti_lt hil, bO_some]
   generalize L[i] = o at hv hh ⊢
   unfold hcO at hh
   unfold rvL at hv
   simp only [Bool.and_eq_true, decide_eq_true_eq, Bool.or_eq_true] at hv
   obtain ⟨⟨v1, v2⟩, v3, v4⟩ := hv
   have ho : okO (n : Int) bits kn o := ⟨v1, v2, fun h2 => by
     rcases v3 with v3 | v3
     · rw [h2] at v3; cases v3
     · exact eq_of_beq v3⟩
   have hk' : ((knx o kn : Nat) : Int) ≤ bits := by
    unfold knx
    split
    ·rename_i h2
     have := (ov_meas v1 h2).2
     have := ho.2.2 h2
     omega
    ·exact hk
   have hl' : (l.flatMap (opF n inn o)).length ≤ 2 ^ knx o kn := by
    have h1 := flat_len (n := n) (inn := inn) o l
    unfold knx
    split at h1
    ·rename_i h2
     rw [if_pos h2, Nat.pow_succ]; omega
    ·rename_i h2
     rw [if_neg h2]; omega
   have h8 := p8 (n := kn) (by omega)
   rw [s_step hn hin (by omega) (by omega) ho (by omega) hB, bO_some]
   simp only [Bool.not_true, br_false]
   have wi : IntKind.wrap .i64 ((i : Int) + 1) = ((i + 1 : Nat) : Int) := by rw [w64 (by omega) (by omega)]; omega
   rw [wi]
   exact ih (i + 1) (knx o kn) (h + hx o) _ (by omega) (by omega) v4 hk' hl' (fun B' hB' => by
     obtain ⟨B, hb, hb'⟩ := List.mem_flatMap.1 hB'
     exact iv_op ho (hB B hb) B' hb') (by omega)
end
theorem s_sim {n inn bits : Int} {L : List OP} (hL : L.length ≤ 4000000) (hh : hcO L ≤ 23) : s_Simulate n inn bits L = some (if rvB n inn bits L = true then ((simF n.toNat inn.toNat L [in0]).map (brC n.toNat inn.toNat), true) else ([], false)) := by
 unfold s_Simulate s_SimulatePrefix
 rw [s_rv hL, bO_some]
 cases hv : rvB n inn bits L with
 | false => rfl
 | true =>
  rw [Bool.not_true, br_false, if_pos rfl]
  unfold rvB at hv
  simp only [Bool.and_eq_true, decide_eq_true_eq] at hv
  obtain ⟨⟨h1, h2⟩, ⟨h3, h4⟩, h5⟩ := hv
  obtain ⟨n', rfl⟩ : ∃ n' : Nat, n = (n' : Int) := ⟨n.toNat, by omega⟩
  obtain ⟨i', rfl⟩ : ∃ i' : Nat, inn = (i' : Int) := ⟨inn.toNat, by omega⟩
  have hn : 1 ≤ n' ∧ n' ≤ 4 := by omega
  have hin : 1 ≤ i' ∧ i' ≤ n' := by omega
  rw [s_init hn hin, bO_some]
  have := s_simL hn hin h3 hL FU 0 0 0 [in0] (by omega) (by rw [FU_eq]; omega) (by rw [List.drop_zero]; exact h5) (by omega) (by simp) (fun B hb => by
    simp only [List.mem_cons, List.not_mem_nil, or_false] at hb
    subst hb
    exact iv_in0) (by rw [List.drop_zero]; omega)
  rw [List.drop_zero] at this
  show bO (s_SimulatePrefix_l1 L (L.length : Int) FU ((0 : Nat) : Int) ([in0].map (brC n' i'))) _ = _
  rw [this, bO_some, Int.toNat_natCast, Int.toNat_natCast]
/-- What a simulation gives are branches of valid numbers. -/
theorem sim_GL {n inn bits : Int} {L : List OP} (hh : hcO L ≤ 23) (hv : rvB n inn bits L = true) : GL ((simF n.toNat inn.toNat L [in0]).map (brC n.toNat inn.toNat)) := by
 unfold rvB at hv
 simp only [Bool.and_eq_true, decide_eq_true_eq] at hv
 obtain ⟨⟨h1, h2⟩, ⟨h3, h4⟩, h5⟩ := hv
 obtain ⟨r1, r2⟩ := sim_run (n := n.toNat) (inn := inn.toNat) (by omega) (by omega) h3 L 0 0 [in0] (by rw [show ((n.toNat : Nat) : Int) = n by omega]; exact h5) (by omega) (by simp) (fun B hb => by
   simp only [List.mem_cons, List.not_mem_nil, or_false] at hb
   subst hb
   exact iv_in0)
 refine ⟨by rw [List.length_map]; omega, fun b hb => ?_⟩
 obtain ⟨B, hB, rfl⟩ := List.mem_map.1 hb
 obtain ⟨_, hK, hbd⟩ := r2 B hB
 have hi16 := p16 (n := inn.toNat) (by omega)
 have hn16 := p16 (n := n.toNat) (by omega)
 have hpw := pow24 (e := B.2.1) (by omega)
 refine ⟨by simp [brC]; omega, fun v hvm => ?_⟩
 unfold brC at hvm
 obtain ⟨i, _, rfl⟩ := List.mem_map.1 hvm
 refine ⟨fun e => ?_, by rw [vc_len]; omega, fun z hz => ?_⟩
 ·have := congrArg List.length e
  rw [vc_len] at this
  have := Nat.pow_pos (n := n.toNat) (show 0 < 2 by omega)
  simp at *
 ·unfold vc at hz
  obtain ⟨r, _, rfl⟩ := List.mem_map.1 hz
  exact dq_vd (by omega) (bdz_mono (by omega) (hbd i r))
end Go.Proofs.Ytfjopjalhllplaa
