/- Plain laws: one qubit: a row of gates and the gates of its normal form do the same, up to a phase; and only one normal form does. -/
import Derived.Test.YtbkkfmcjfbbkaaaGreatK15
import Derived.Test.YtbkkfmcjfbbkaaaGreatK17
import Derived.Test.YtbkkfmcjfbbkaaaGreatKPnb
namespace Go.Proofs.YtbkkfmcjfbbkaaaGreat
open Go.RowKit
set_option maxRecDepth 100000
set_option linter.unusedVariables false
set_option linter.unusedSimpArgs false
def siW (l : List Q4) : Bool := ([1, 2, 3, 4, 5, 6] : List Int).all fun k => simB 1 (wdF (laF (k, 0, 0, 0) l)) (wdF l ++ [(k, 0, 0, 0)])
def siT (l : List Q4) : Bool := let t := t1F l; simB 1 (syl t.1 ++ wdF t.2) (wdF l ++ [(7, 0, 0, 0)]) && (t.1 != 0 || ([0, 1, 2] : List Int).all fun m => simB 1 (wdF (t2F t.2 m)) (syl m ++ (wdF l ++ [(7, 0, 0, 0)])))
def siD (l : List Q4) : Bool := let t := t1F (sdF l); simB 1 (syl t.1 ++ wdF t.2) (wdF l ++ [(8, 0, 0, 0)]) && (t.1 != 0 || ([0, 1, 2] : List Int).all fun m => simB 1 (wdF (t2F t.2 m)) (syl m ++ (wdF l ++ [(8, 0, 0, 0)])))
def siP (l : List Q4) : Bool := !simB 1 (wdF l) [] || l == idT 1
theorem si_fin : (ZL.all fun p => (siW p.2 && siT p.2) && (siD p.2 && siP p.2)) = true := by decide +kernel
theorem ivs_fin : (([1, 2, 3, 4, 5, 6, 7, 8] : List Int).all fun k => simB 1 [(k, 0, 0, 0), (invK k, 0, 0, 0)] []) = true := by decide +kernel
theorem syl_eq (k : Int) : syl k = syF k := rfl
theorem g1_form {q : Q4} (h : G1 q) : ∃ k : Int, q = (k, 0, 0, 0) ∧ 1 ≤ k ∧ k ≤ 8 := by
  obtain ⟨k, a, b, c⟩ := q
  obtain ⟨_, h2, h3⟩ := ivg_cases h
  simp only at h2 h3
  rcases h3 with ⟨g1, g2, g3⟩ | ⟨g1, g2, g3, g4⟩ | ⟨g1, g2, g3⟩
  · refine ⟨k, ?_, g1⟩
    have : a = 0 := by omega
    rw [this, g2, g3]
  · omega
  · omega
theorem g1_gok {q : Q4} (h : G1 q) : gok 1 q := by
  obtain ⟨k, a, b, c⟩ := q
  exact ivg_gok (n := 1) h
theorem c1_form {q : Q4} (h : C1 q = true) : ∃ k : Int, q = (k, 0, 0, 0) ∧ (k = 1 ∨ k = 2 ∨ k = 3 ∨ k = 4 ∨ k = 5 ∨ k = 6) := by
  obtain ⟨k, rfl, h1, h2⟩ := g1_form (c1_g1 h)
  refine ⟨k, rfl, ?_⟩
  unfold C1 clif at h
  simp at h
  omega
theorem rep_g1 {k : Int} (hk : 0 ≤ k ∧ k ≤ 2) : ∀ q ∈ syl k, G1 q := by
  intro q hq
  rw [syl_eq] at hq
  unfold syF at hq
  rcases List.mem_append.1 hq with hq | hq
  · exact c1_g1 ((rep_at hk).1 q hq)
  · simp only [List.mem_cons, List.not_mem_nil, or_false] at hq
    subst hq
    unfold G1; decide
theorem wd_g1 {l : List Q4} (ht : tB 1 l = true) : ∀ q ∈ wdF l, G1 q := fun q hq => c1_g1 ((wd_run (y := []) ht).2 q hq)
theorem app_g1 {A B : List Q4} (hA : ∀ q ∈ A, G1 q) (hB : ∀ q ∈ B, G1 q) : ∀ q ∈ A ++ B, G1 q := fun q hq => (List.mem_append.1 hq).elim (hA q) (hB q)
theorem one_g1 {k : Int} (hk : 1 ≤ k ∧ k ≤ 8) : ∀ q ∈ [((k, 0, 0, 0) : Q4)], G1 q := by
  intro q hq
  simp only [List.mem_cons, List.not_mem_nil, or_false] at hq
  subst hq
  have : k = 1 ∨ k = 2 ∨ k = 3 ∨ k = 4 ∨ k = 5 ∨ k = 6 ∨ k = 7 ∨ k = 8 := by omega
  rcases this with rfl | rfl | rfl | rfl | rfl | rfl | rfl | rfl <;> (unfold G1; decide)
theorem sim1 {A B : List Q4} (hA : ∀ q ∈ A, G1 q) (hB : ∀ q ∈ B, G1 q) (h : simB 1 A B = true) : Sim 1 A B := sim_of (fun q hq => g1_gok (hA q hq)) (fun q hq => g1_gok (hB q hq)) h
theorem si_at {l : List Q4} (ht : tB 1 l = true) : (siW l = true ∧ siT l = true) ∧ siD l = true ∧ siP l = true := by
  obtain ⟨p, hp, h1, h2⟩ := cwF_ok ht
  have := List.all_eq_true.1 si_fin p hp
  simp only [Bool.and_eq_true, h1] at this
  exact this
theorem fm_snoc (y : List Int) (k : Int) : (y ++ [k]).flatMap syF = y.flatMap syF ++ syl k := by rw [List.flatMap_append]; simp [syl_eq]
/-- A T gate (or its inverse) behind a normal form, by what the tables say. -/
theorem nt_sim {y : List Int} {l l' : List Q4} (hv : SV y) (ht : tB 1 l = true) (ht' : tB 1 l' = true) {k : Int} (hk : 1 ≤ k ∧ k ≤ 8)
    (h1 : simB 1 (syl (t1F l').1 ++ wdF (t1F l').2) (wdF l ++ [(k, 0, 0, 0)]) = true) (h2 : ((t1F l').1 != 0 || ([0, 1, 2] : List Int).all fun m => simB 1 (wdF (t2F (t1F l').2 m)) (syl m ++ (wdF l ++ [(k, 0, 0, 0)]))) = true) :
    Sim 1 (nfgF (ntF y l').1 (ntF y l').2) (nfgF y l ++ [(k, 0, 0, 0)]) := by
  have hy : y.length ≤ 2000000 ∨ True := Or.inr trivial
  have htd : tB 1 (t1F l').2 = true ∧ ∀ m : Int, 0 ≤ m ∧ m ≤ 2 → (t1F l').1 = 0 → tB 1 (t2F (t1F l').2 m) = true := by
    constructor
    · by_cases h0 : (t1F l').1 = 0
      · have := (nt_ok (y := []) (l := l') (by simp) sv_nil ht').2.2.2.1
        unfold ntF at this
        rw [if_neg (by simp)] at this
        exact this
      · have := (nt_ok (y := []) (l := l') (by simp) sv_nil ht').2.2.2.1
        unfold ntF at this
        rw [if_neg (by simp)] at this
        exact this
    · intro m hm h0
      have hs : SV [m] := by have := sv_push sv_nil hm (by simp); simpa using this
      have := (nt_ok (y := [m]) (l := l') (by simp) hs ht').2.2.2.1
      unfold ntF at this
      rw [if_pos ⟨h0, by simp⟩] at this
      exact this
  have hb := t1_bd ht'
  unfold ntF
  by_cases hc : (t1F l').1 = 0 ∧ 1 ≤ y.length
  · rw [if_pos hc]
    obtain ⟨h0, hl⟩ := hc
    have hlast : y.length - 1 < y.length := by omega
    have hq : y[y.length - 1]? = some y[y.length - 1] := List.getElem?_eq_getElem hlast
    have hm := hv.1 _ _ hq
    have ey : y = y.take (y.length - 1) ++ [y[y.length - 1]] := by
      have e1 : y.take (y.length - 1 + 1) = y.take (y.length - 1) ++ [y[y.length - 1]] := by rw [List.take_add_one, hq]; rfl
      rw [show y.length - 1 + 1 = y.length by omega, List.take_length] at e1
      exact e1
    rw [hq, Option.getD_some]
    generalize y[y.length - 1] = m at *
    have e : nfgF y l ++ [(k, 0, 0, 0)] = (y.take (y.length - 1)).flatMap syF ++ (syl m ++ (wdF l ++ [(k, 0, 0, 0)])) := by
      unfold nfgF
      conv => lhs; rw [ey]
      rw [fm_snoc, List.append_assoc, List.append_assoc]
    rw [e]
    unfold nfgF
    refine Sim.pre ?_ _
    have hz : ((t1F l').1 != 0) = false := by rw [h0]; rfl
    rw [hz, Bool.false_or] at h2
    have hmm : m ∈ ([0, 1, 2] : List Int) := by
      have : m = 0 ∨ m = 1 ∨ m = 2 := by omega
      simpa using this
    exact sim1 (wd_g1 (htd.2 m hm h0)) (app_g1 (rep_g1 hm) (app_g1 (wd_g1 ht) (one_g1 hk))) (List.all_eq_true.1 h2 m hmm)
  · rw [if_neg hc]
    unfold nfgF
    rw [fm_snoc, List.append_assoc, List.append_assoc]
    exact Sim.pre (sim1 (app_g1 (rep_g1 hb) (wd_g1 htd.1)) (app_g1 (wd_g1 ht) (one_g1 hk)) h1) _
theorem nf_step {y : List Int} {l : List Q4} {q : Q4} (hv : SV y) (ht : tB 1 l = true) (hg : G1 q) : Sim 1 (nfgF (naF q.1 q.2.1 q.2.2.1 (y, l)).1 (naF q.1 q.2.1 q.2.2.1 (y, l)).2) (nfgF y l ++ [q]) := by
  obtain ⟨k, rfl, h1, h8⟩ := g1_form hg
  obtain ⟨⟨hW, hT⟩, hD, _⟩ := si_at ht
  by_cases h7 : k = 7
  · subst h7
    unfold siT at hT
    simp only [Bool.and_eq_true] at hT
    exact nt_sim hv ht ht (by omega) hT.1 hT.2
  by_cases h88 : k = 8
  · subst h88
    unfold siD at hD
    simp only [Bool.and_eq_true] at hD
    exact nt_sim hv ht (sd_tB ht) (by omega) hD.1 hD.2
  · have hC : C1 (k, 0, 0, 0) = true := by
      have : k = 1 ∨ k = 2 ∨ k = 3 ∨ k = 4 ∨ k = 5 ∨ k = 6 := by omega
      rcases this with rfl | rfl | rfl | rfl | rfl | rfl <;> decide
    have e : naF k 0 0 (y, l) = (y, laF (k, 0, 0, 0) l) := by
      unfold naF
      rw [if_neg h7, if_neg h88, la_eq ht hC]
    have hl := la_tB ht hC
    show Sim 1 (nfgF (naF k 0 0 (y, l)).1 (naF k 0 0 (y, l)).2) (nfgF y l ++ [(k, 0, 0, 0)])
    rw [e]
    unfold nfgF
    rw [List.append_assoc]
    refine Sim.pre (sim1 (wd_g1 hl) (app_g1 (wd_g1 ht) (one_g1 ⟨h1, h8⟩)) ?_) _
    unfold siW at hW
    refine List.all_eq_true.1 hW k ?_
    have : k = 1 ∨ k = 2 ∨ k = 3 ∨ k = 4 ∨ k = 5 ∨ k = 6 := by omega
    simpa using this
theorem na_keep {y : List Int} {l : List Q4} {q : Q4} (hv : SV y) (ht : tB 1 l = true) (hg : G1 q) (hy : y.length ≤ 1048576) : SV (naF q.1 q.2.1 q.2.2.1 (y, l)).1 ∧ tB 1 (naF q.1 q.2.1 q.2.2.1 (y, l)).2 = true ∧ (naF q.1 q.2.1 q.2.2.1 (y, l)).1.length ≤ y.length + 1 := by
  obtain ⟨_, _, h3, h4, h5, _⟩ := na_ok hy hv ht hg
  exact ⟨h3, h4, h5⟩
theorem nf_run : ∀ (g : List Q4) (y : List Int) (l : List Q4), (∀ q ∈ g, G1 q) → SV y → tB 1 l = true → y.length + g.length ≤ 1048576 → Sim 1 (nfgF (fo g (y, l)).1 (fo g (y, l)).2) (nfgF y l ++ g)
  | [], y, l, _, _, _, _ => by rw [List.append_nil]; exact Sim.refl _ _
  | q :: g, y, l, hg, hv, ht, hy => by
    simp only [List.length_cons] at hy
    obtain ⟨k1, k2, k3⟩ := na_keep hv ht (hg q (List.mem_cons_self ..)) (by omega)
    have h1 := nf_run g _ _ (fun x hx => hg x (List.mem_cons_of_mem _ hx)) k1 k2 (by omega)
    have h2 := (nf_step hv ht (hg q (List.mem_cons_self ..))).post (C := g) (fun x hx => g1_gok (hg x (List.mem_cons_of_mem _ hx)))
    rw [fo_cons]
    rw [show nfgF y l ++ q :: g = nfgF y l ++ [q] ++ g by simp]
    exact h1.trans h2
theorem nf0 : nfgF [] (idT 1) = [] := by decide +kernel
/-- The gates of the normal form do the same as the row. -/
theorem nf_sim {g : List Q4} (hg : ∀ q ∈ g, G1 q) (hl : g.length ≤ 1048576) : Sim 1 (nfgF (fo g S0).1 (fo g S0).2) g := by
  have := nf_run g [] (idT 1) hg sv_nil id1 (by simpa using hl)
  rw [nf0] at this
  exact this
def ivQ (q : Q4) : Q4 := (invK q.1, q.2.1, q.2.2.1, q.2.2.2)
def ivL (b : List Q4) : List Q4 := (b.map ivQ).reverse
theorem iv_g1 {q : Q4} (h : G1 q) : G1 (ivQ q) := by
  unfold G1 ivQ at *
  simp only
  rw [inv_ivg]
  exact h
theorem ivL_g1 {b : List Q4} (hb : ∀ q ∈ b, G1 q) : ∀ q ∈ ivL b, G1 q := by
  intro q hq
  unfold ivL at hq
  rw [List.mem_reverse] at hq
  obtain ⟨x, hx, rfl⟩ := List.mem_map.1 hq
  exact iv_g1 (hb x hx)
theorem iv_sim : ∀ (b : List Q4), (∀ q ∈ b, G1 q) → Sim 1 (b ++ ivL b) []
  | [], _ => Sim.refl _ _
  | q :: b, hb => by
    have hq := hb q (List.mem_cons_self ..)
    have hb' : ∀ x ∈ b, G1 x := fun x hx => hb x (List.mem_cons_of_mem _ hx)
    have e : q :: b ++ ivL (q :: b) = [q] ++ ((b ++ ivL b) ++ [ivQ q]) := by unfold ivL; simp
    rw [e]
    have h1 : Sim 1 ([q] ++ ((b ++ ivL b) ++ [ivQ q])) ([q] ++ ([] ++ [ivQ q])) := ((iv_sim b hb').post (C := [ivQ q]) (fun x hx => by
      simp only [List.mem_cons, List.not_mem_nil, or_false] at hx
      subst hx
      exact g1_gok (iv_g1 hq))).pre [q]
    refine h1.trans ?_
    obtain ⟨k, rfl, h1', h8⟩ := g1_form hq
    have hi := iv_g1 hq
    refine sim1 (fun x hx => ?_) (fun x hx => by simp at hx) (List.all_eq_true.1 ivs_fin k ?_)
    · simp only [List.nil_append, List.cons_append, List.mem_cons, List.not_mem_nil, or_false] at hx
      rcases hx with rfl | rfl
      · exact hq
      · exact hi
    · have : k = 1 ∨ k = 2 ∨ k = 3 ∨ k = 4 ∨ k = 5 ∨ k = 6 ∨ k = 7 ∨ k = 8 := by omega
      simpa using this
theorem invK_invK (k : Int) : invK (invK k) = k := by
  unfold invK
  repeat' split
  all_goals omega
theorem fo_keep : ∀ (g : List Q4) (y : List Int) (l : List Q4), (∀ q ∈ g, G1 q) → SV y → tB 1 l = true → y.length + g.length ≤ 1048576 → SV (fo g (y, l)).1 ∧ tB 1 (fo g (y, l)).2 = true ∧ (fo g (y, l)).1.length ≤ y.length + g.length
  | [], y, l, _, hv, ht, _ => ⟨hv, ht, Nat.le_add_right _ _⟩
  | q :: g, y, l, hg, hv, ht, hy => by
    simp only [List.length_cons] at hy
    obtain ⟨k1, k2, k3⟩ := na_keep hv ht (hg q (List.mem_cons_self ..)) (by omega)
    obtain ⟨a, b, c⟩ := fo_keep g _ _ (fun x hx => hg x (List.mem_cons_of_mem _ hx)) k1 k2 (by omega)
    rw [fo_cons, List.length_cons]
    exact ⟨a, b, Nat.le_trans c (by omega)⟩
theorem fo_iv : ∀ (b : List Q4) (y : List Int) (l : List Q4), (∀ q ∈ b, G1 q) → SV y → tB 1 l = true → y.length + b.length ≤ 1048576 → fo b (fo (ivL b) (y, l)) = (y, l)
  | [], y, l, _, _, _, _ => rfl
  | q :: b, y, l, hb, hv, ht, hy => by
    simp only [List.length_cons] at hy
    have hq := hb q (List.mem_cons_self ..)
    have hb' : ∀ x ∈ b, G1 x := fun x hx => hb x (List.mem_cons_of_mem _ hx)
    obtain ⟨a1, a2, _⟩ := fo_keep (ivL b) y l (ivL_g1 hb') hv ht (by unfold ivL; simp; omega)
    have e : ivL (q :: b) = ivL b ++ [ivQ q] := by unfold ivL; simp
    rw [e, fo_append, fo_cons]
    have hi := na_inv (k := invK q.1) (a := q.2.1) (b := q.2.2.1) (c := q.2.2.2) a1 a2 (iv_g1 hq)
    rw [invK_invK] at hi
    have : naF q.1 q.2.1 q.2.2.1 (fo [ivQ q] (fo (ivL b) (y, l))) = fo (ivL b) (y, l) := hi
    rw [this]
    exact fo_iv b y l hb' hv ht (by omega)
/-- Rows of gates are equal up to a phase exactly if their normal forms are equal. -/
theorem nf_uniq {a b : List Q4} (ha : ∀ q ∈ a, G1 q) (hb : ∀ q ∈ b, G1 q) (la : a.length ≤ 10000) (lb : b.length ≤ 10000) : Sim 1 a b ↔ fo a S0 = fo b S0 := by
  constructor
  · intro h
    have h1 : Sim 1 (a ++ ivL b) [] := (h.post (C := ivL b) (fun x hx => g1_gok (ivL_g1 hb x hx))).trans (iv_sim b hb)
    have lib : (ivL b).length = b.length := by unfold ivL; simp
    have hab : ∀ q ∈ a ++ ivL b, G1 q := app_g1 ha (ivL_g1 hb)
    have h2 : Sim 1 (nfgF (fo (a ++ ivL b) S0).1 (fo (a ++ ivL b) S0).2) [] := (nf_sim hab (by rw [List.length_append, lib]; omega)).trans h1
    obtain ⟨k1, k2, k3⟩ := fo_keep (a ++ ivL b) [] (idT 1) hab sv_nil id1 (by rw [List.length_append, lib]; simp; omega)
    have e0 : fo (a ++ ivL b) S0 = S0 := by
      change SV (fo (a ++ ivL b) S0).1 at k1
      change tB 1 (fo (a ++ ivL b) S0).2 = true at k2
      generalize fo (a ++ ivL b) S0 = s at *
      obtain ⟨y, l⟩ := s
      simp only at *
      cases y with
      | nil =>
        obtain ⟨_, _, hP⟩ := si_at k2
        have e : nfgF [] l = wdF l := rfl
        rw [e] at h2
        have hs : simB 1 (wdF l) [] = true := by
          obtain ⟨k, hk⟩ := h2
          unfold simB
          rw [List.any_eq_true]
          refine ⟨k % 8, List.mem_range.2 (by omega), List.all_eq_true.2 fun c hc => List.all_eq_true.2 fun r hr => ?_⟩
          have := hk (dl c) r (List.mem_range.1 hr)
          rw [oz_mod] at this
          unfold simA
          rw [this]
          exact beq_self_eq_true _
        unfold siP at hP
        rw [hs, Bool.not_true, Bool.false_or] at hP
        rw [eq_of_beq hP]
        rfl
      | cons k y =>
        exfalso
        have hk0 : (k :: y)[0]? = some k := rfl
        refine no_phase (k := k) (y := y) (k1.1 0 k hk0) (fun x hx => ?_) (w := wdF l) (fun q hq => c1_form ((wd_run (y := []) k2).2 q hq)) ?_
        · obtain ⟨i, hi, rfl⟩ := List.getElem_of_mem hx
          have e : (k :: y)[i + 1]? = some y[i] := by rw [List.getElem?_cons_succ, List.getElem?_eq_getElem hi]
          have h3 := k1.1 (i + 1) _ e
          have h4 := k1.2 (i + 1) (by omega)
          rw [e] at h4
          have : y[i] ≠ 0 := fun h => h4 (by rw [h])
          omega
        · exact h2
    have e1 : fo b (fo (ivL b) (fo a S0)) = fo b S0 := by rw [← fo_append a (ivL b), e0]
    obtain ⟨c1, c2, c3⟩ := fo_keep a [] (idT 1) ha sv_nil id1 (by simp; omega)
    rw [← e1]
    exact (fo_iv b (fo a S0).1 (fo a S0).2 hb c1 c2 (by have : (fo a S0).1.length ≤ 0 + a.length := c3
                                                        omega)).symm
  · intro h
    have h1 := nf_sim ha (by omega)
    have h2 := nf_sim hb (by omega)
    rw [h] at h1
    exact h1.symm.trans h2
end Go.Proofs.YtbkkfmcjfbbkaaaGreat
