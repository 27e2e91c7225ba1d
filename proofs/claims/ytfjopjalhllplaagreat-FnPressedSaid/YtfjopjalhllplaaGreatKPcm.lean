/- Plain laws: gates on different places commute; one-qubit rows lifted to a place of several. -/
import Derived.Test.YtfjopjalhllplaaGreatKPvn
import Derived.Test.YtfjopjalhllplaaGreatK18
namespace Go.Proofs.YtfjopjalhllplaaGreat
set_option maxRecDepth 100000
set_option linter.unusedVariables false
set_option linter.unusedSimpArgs false
/-- What a gate of one qubit does, by its place's bit. -/
def mix (a : Nat) (c0 c1 : Bool → Z4) (f : Amp) (r : Nat) : Z4 := adz (mlz (c0 (r.testBit a)) (f r)) (mlz (c1 (r.testBit a)) (f (r ^^^ 2 ^ a)))
def cA (k : Int) (b : Bool) : Z4 :=
 if k = 1 ∨ k = 2 then (0, 0, 0, 0) else if k = 4 then (if b = true then (-1, 0, 0, 0) else (1, 0, 0, 0)) else
 if k = 3 then (if b = true then oz 4 else oz 0) else if k = 5 then (if b = true then oz 2 else oz 0) else if k = 6 then (if b = true then oz 6 else oz 0) else
 if k = 7 then (if b = true then oz 1 else oz 0) else if k = 8 then (if b = true then oz 7 else oz 0) else oz 0
def cB (k : Int) (b : Bool) : Z4 :=
 if k = 1 then (1, 0, 0, 0) else if k = 2 then (if b = true then oz 2 else oz 6) else if k = 4 then (1, 0, 0, 0) else (0, 0, 0, 0)
theorem one_mix {k : Int} (hk : 1 ≤ k ∧ k ≤ 8) (a b c : Int) (f : Amp) (r : Nat) : gz (k, a, b, c) f r = mix a.toNat (cA k) (cB k) f r := by
 have : k = 1 ∨ k = 2 ∨ k = 3 ∨ k = 4 ∨ k = 5 ∨ k = 6 ∨ k = 7 ∨ k = 8 := by omega
 unfold mix gz
 rcases this with rfl | rfl | rfl | rfl | rfl | rfl | rfl | rfl
 ·show mlz (oz 0) (f (r ^^^ 2 ^ a.toNat)) = adz (mlz (0, 0, 0, 0) (f r)) (mlz (1, 0, 0, 0) (f (r ^^^ 2 ^ a.toNat)))
  rw [oz_0, mlz_0l, mlz_1l, adz_comm, adz_0r]
 ·show mlz (oz (if (r ^^^ 2 ^ a.toNat).testBit a.toNat = true then 6 else 2)) (f (r ^^^ 2 ^ a.toNat)) = adz (mlz (0, 0, 0, 0) (f r)) (mlz (if r.testBit a.toNat = true then oz 2 else oz 6) (f (r ^^^ 2 ^ a.toNat)))
  rw [mlz_0l, adz_comm, adz_0r, tb_eq]
  cases r.testBit a.toNat <;> rfl
 ·show mlz (oz (if r.testBit a.toNat = true then 4 else 0)) (f r) = adz (mlz (if r.testBit a.toNat = true then oz 4 else oz 0) (f r)) (mlz (0, 0, 0, 0) (f (r ^^^ 2 ^ a.toNat)))
  rw [mlz_0l, adz_0r]
  cases r.testBit a.toNat <;> rfl
 ·show (if r.testBit a.toNat = true then adz (f (r ^^^ 2 ^ a.toNat)) (ngz (f r)) else adz (f r) (f (r ^^^ 2 ^ a.toNat))) = adz (mlz (if r.testBit a.toNat = true then (-1, 0, 0, 0) else (1, 0, 0, 0)) (f r)) (mlz (1, 0, 0, 0) (f (r ^^^ 2 ^ a.toNat)))
  cases r.testBit a.toNat with
  | true => simp only [if_true]; rw [mlz_1l, ← ngz_ml, adz_comm]
  | false => simp only [Bool.false_eq_true, if_false]; rw [mlz_1l, mlz_1l]
 ·show mlz (oz (if r.testBit a.toNat = true then 2 else 0)) (f r) = adz (mlz (if r.testBit a.toNat = true then oz 2 else oz 0) (f r)) (mlz (0, 0, 0, 0) (f (r ^^^ 2 ^ a.toNat)))
  rw [mlz_0l, adz_0r]
  cases r.testBit a.toNat <;> rfl
 ·show mlz (oz (if r.testBit a.toNat = true then 6 else 0)) (f r) = adz (mlz (if r.testBit a.toNat = true then oz 6 else oz 0) (f r)) (mlz (0, 0, 0, 0) (f (r ^^^ 2 ^ a.toNat)))
  rw [mlz_0l, adz_0r]
  cases r.testBit a.toNat <;> rfl
 ·show mlz (oz (if r.testBit a.toNat = true then 1 else 0)) (f r) = adz (mlz (if r.testBit a.toNat = true then oz 1 else oz 0) (f r)) (mlz (0, 0, 0, 0) (f (r ^^^ 2 ^ a.toNat)))
  rw [mlz_0l, adz_0r]
  cases r.testBit a.toNat <;> rfl
 ·show mlz (oz (if r.testBit a.toNat = true then 7 else 0)) (f r) = adz (mlz (if r.testBit a.toNat = true then oz 7 else oz 0) (f r)) (mlz (0, 0, 0, 0) (f (r ^^^ 2 ^ a.toNat)))
  rw [mlz_0l, adz_0r]
  cases r.testBit a.toNat <;> rfl
/-- A gate that does not touch a place. -/
def off (a : Nat) (q : GQ) : Prop := a ≠ q.2.1.toNat ∧ ((q.1 = 9 ∨ q.1 = 10 ∨ q.1 = 11 ∨ q.1 = 12) → a ≠ q.2.2.1.toNat) ∧ (q.1 = 12 → a ≠ q.2.2.2.toNat)
theorem xsw (i a b : Nat) : i ^^^ a ^^^ b = i ^^^ b ^^^ a := by rw [Nat.xor_assoc, Nat.xor_comm a, ← Nat.xor_assoc]
theorem off_bit {a : Nat} {q : GQ} (h : off a q) (r : Nat) : (mvA q r).testBit a = r.testBit a := by
 obtain ⟨h1, h2, h3⟩ := h
 unfold mvA
 split
 ·exact tb_ne h1
 split
 ·rename_i e
  split
  ·exact tb_ne (h2 (Or.inl e))
  ·rfl
 split
 ·rename_i e
  split
  ·rw [tb_ne (h2 (Or.inr (Or.inr (Or.inl e)))), tb_ne h1]
  ·rfl
 split
 ·rename_i e
  split
  ·exact tb_ne (h3 e)
  ·rfl
 ·rfl
theorem off_flip {a : Nat} {q : GQ} (h : off a q) (r : Nat) : mvA q (r ^^^ 2 ^ a) = mvA q r ^^^ 2 ^ a := by
 obtain ⟨h1, h2, h3⟩ := h
 unfold mvA
 split
 ·exact xsw ..
 split
 ·rename_i e
  rw [tb_ne h1.symm]
  split
  ·exact xsw ..
  ·rfl
 split
 ·rename_i e
  rw [tb_ne h1.symm, tb_ne (h2 (Or.inr (Or.inr (Or.inl e)))).symm]
  split
  ·rw [xsw r, xsw (r ^^^ 2 ^ q.2.1.toNat)]
  ·rfl
 split
 ·rename_i e
  rw [tb_ne h1.symm, tb_ne (h2 (Or.inr (Or.inr (Or.inr e)))).symm]
  split
  ·exact xsw ..
  ·rfl
 ·rfl
theorem off_ph {a : Nat} {q : GQ} (h : off a q) (i : Nat) : mvP q (i ^^^ 2 ^ a) = mvP q i := by
 obtain ⟨h1, h2, h3⟩ := h
 unfold mvP
 rw [tb_ne h1.symm]
 by_cases e : q.1 = 10
 ·rw [tb_ne (h2 (Or.inr (Or.inl e))).symm]
 ·simp only [if_neg e]
theorem off_mix {a : Nat} {q : GQ} (h : off a q) (c0 c1 : Bool → Z4) (f : Amp) (r : Nat) : gz q (mix a c0 c1 f) r = mix a c0 c1 (gz q f) r := by
 by_cases e : q.1 = 4
 ·have h1 := h.1
  unfold gz mix
  simp only [if_pos e]
  rw [tb_ne h1, tb_ne h1.symm, xsw r (2 ^ q.2.1.toNat) (2 ^ a)]
  split
  ·rw [adz_mix, mlz_add, mlz_add, mlz_ngz, mlz_ngz]
  ·rw [adz_mix', mlz_add, mlz_add]
 ·unfold gz mix
  simp only [if_neg e]
  rw [off_bit h, off_flip h, off_ph h, mlz_add, mlz_swap (oz _) (c0 _), mlz_swap (oz _) (c1 _)]
theorem off_com {a b c k : Int} (hk : 1 ≤ k ∧ k ≤ 8) {q : GQ} (h : off a.toNat q) (f : Amp) : gz (k, a, b, c) (gz q f) = gz q (gz (k, a, b, c) f) := by
 have e : ∀ g : Amp, gz (k, a, b, c) g = mix a.toNat (cA k) (cB k) g := fun g => funext fun r => one_mix hk a b c g r
 rw [e, e]
 exact funext fun r => (off_mix h _ _ f r).symm
/-- A gate of one qubit at place a. -/
def R1 (a : Int) (q : GQ) : Prop := (1 ≤ q.1 ∧ q.1 ≤ 8) ∧ q.2.1 = a ∧ q.2.2.1 = 0 ∧ q.2.2.2 = 0
theorem com_one {a : Int} {g : GQ} (h : off a.toNat g) : ∀ (p : List GQ), (∀ q ∈ p, R1 a q) → ∀ f, gz g (gzs p f) = gzs p (gz g f)
 | [], _, f => rfl
 | q :: p, hp, f => by
  obtain ⟨k, x, y, z⟩ := q
  obtain ⟨h1, h2, _⟩ := hp _ (List.mem_cons_self ..)
  simp only at h1 h2
  subst h2
  rw [gzs_cons, gzs_cons, com_one h p (fun q hq => hp q (List.mem_cons_of_mem _ hq)), off_com h1 h]
theorem eqv_sim {n : Nat} {A B : List GQ} (h : ∀ f, gzs A f = gzs B f) (hh : hc A = hc B) : Sim n A B := ⟨0, fun f r _ => by rw [h, hh, oz_0]⟩
def lo (a r : Nat) : Nat := if r.testBit a = true then r ^^^ 2 ^ a else r
def slc1 (a r : Nat) (f : Amp) : Amp := fun i => if i = 0 then f (lo a r) else f (lo a r ^^^ 2 ^ a)
def btN (a r : Nat) : Nat := if r.testBit a = true then 1 else 0
theorem lo_bit (a r : Nat) : (lo a r).testBit a = false := by
 unfold lo
 cases h : r.testBit a with
 | true => rw [if_pos rfl, tb_eq, h]; rfl
 | false => rw [if_neg (by simp)]; exact h
theorem slc_bt (a r : Nat) (f : Amp) : slc1 a r f (btN a r) = f r := by
 unfold slc1 btN lo
 cases h : r.testBit a with
 | true => simp only [if_true, Nat.one_ne_zero, if_false]; rw [xx]
 | false => simp
theorem btN_lt (a r : Nat) : btN a r < 2 ^ 1 := by unfold btN; split <;> omega
theorem slc_gz {k : Int} (hk : 1 ≤ k ∧ k ≤ 8) (a b c : Int) (r : Nat) (f : Amp) {i : Nat} (hi : i < 2 ^ 1) : slc1 a.toNat r (gz (k, a, b, c) f) i = gz (k, 0, 0, 0) (slc1 a.toNat r f) i := by
 have hb := lo_bit a.toNat r
 rw [one_mix hk]
 have h2 : i = 0 ∨ i = 1 := by omega
 rcases h2 with rfl | rfl
 ·show gz (k, a, b, c) f (lo a.toNat r) = mix 0 (cA k) (cB k) (slc1 a.toNat r f) 0
  rw [one_mix hk]
  unfold mix
  rw [hb]
  rfl
 ·show gz (k, a, b, c) f (lo a.toNat r ^^^ 2 ^ a.toNat) = mix 0 (cA k) (cB k) (slc1 a.toNat r f) 1
  rw [one_mix hk]
  unfold mix
  rw [tb_eq, hb, xx]
  rfl
theorem at_run {a : Int} : ∀ (L : List GQ), (∀ q ∈ L, G1 q) → ∀ (f : Amp) (r : Nat), gzs (L.map (setA a)) f r = gzs L (slc1 a.toNat r f) (btN a.toNat r)
 | [], _, f, r => (slc_bt a.toNat r f).symm
 | q :: L, hL, f, r => by
  obtain ⟨k, rfl, hk⟩ := g1_form (hL _ (List.mem_cons_self ..))
  have hL' : ∀ q ∈ L, G1 q := fun q hq => hL q (List.mem_cons_of_mem _ hq)
  rw [List.map_cons, gzs_cons, gzs_cons, at_run L hL']
  exact gzs_congr (n := 1) (fun q hq => g1_gok (hL' q hq)) (fun i hi => slc_gz hk a 0 0 r f hi) (btN_lt _ _)
theorem hc_at (a : Int) : ∀ L : List GQ, hc (L.map (setA a)) = hc L
 | [] => rfl
 | q :: L => by simp only [List.map_cons, hc, hc_at a L]; rfl
theorem sim_at {n : Nat} (a : Int) {L M : List GQ} (hL : ∀ q ∈ L, G1 q) (hM : ∀ q ∈ M, G1 q) (h : Sim 1 L M) : Sim n (L.map (setA a)) (M.map (setA a)) := by
 obtain ⟨k, h⟩ := h
 refine ⟨k, fun f r _ => ?_⟩
 rw [hc_at, hc_at, at_run L hL, at_run M hM]
 exact h _ _ (btN_lt _ _)
theorem srB_form {A : Int} {q : Q4} (h : srB A q = true) : R1 A q := by
 unfold srB at h
 simp only [Bool.and_eq_true, beq_iff_eq] at h
 obtain ⟨h1, h2, h3⟩ := h
 rw [ivg_1 h1] at h3
 simp only [Bool.and_eq_true, decide_eq_true_eq, beq_iff_eq] at h3
 refine ⟨?_, h2, h3.2.2.1, h3.2.2.2⟩
 unfold arity at h1
 (repeat' split at h1) <;> omega
/-- A run shortened does the same. -/
theorem sr_sim {n : Nat} {g : List Q4} (hg : g.length ≤ 1048576) : Sim n (srF g) g := by
 unfold srF
 split
 ·rename_i h
  have h1 := sr_g1 h.1
  obtain ⟨c3, c4, c5⟩ := st_ok hg h.1
  have hs := nf_sim h1 (by simpa using hg)
  have e : (g.map oneF).map (setA (hdA g)) = g := by
   rw [List.map_map]
   refine (List.map_congr_left fun q hq => ?_).trans (List.map_id _)
   obtain ⟨_, e1, e2, e3⟩ := srB_form (List.all_eq_true.1 h.1 q hq)
   show (q.1, hdA g, (0 : Int), (0 : Int)) = q
   exact q4_ext rfl e1.symm e2.symm e3.symm
  have := sim_at (n := n) (hdA g) (nfg_g1 c3 c4) h1 hs
  rw [e] at this
  exact this
 ·exact Sim.refl _ _
end Go.Proofs.YtfjopjalhllplaaGreat
