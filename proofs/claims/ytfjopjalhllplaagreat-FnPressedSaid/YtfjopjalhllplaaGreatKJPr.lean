/- Plain law and its bridge: Pressed. -/
import Derived.Test.YtfjopjalhllplaaGreatKMLPr
import Derived.Test.YtfjopjalhllplaaGreatKPcn
import Derived.Test.YtfjopjalhllplaaGreatK11
import Derived.Test.YtfjopjalhllplaaGreatK1
namespace Go.Proofs.YtfjopjalhllplaaGreat
open Go.RowKit
set_option maxRecDepth 100000
set_option linter.unusedVariables false
set_option linter.unusedSimpArgs false
theorem right14_ok {b : List Int} {i h most : Int} {n : Nat} (hcu : CurP (b, i, h)) (hn : 1 ≤ n ∧ n ≤ 4) (hm : 0 ≤ most ∧ most ≤ 14) : Ok (s_l11Right b i h n most) (fun r => (r.1 = n ∧ (r.2.1.length : Int) ≤ most) ∧ CurP r.2.2) := by
 unfold s_l11Right
 refine (below_ok hcu).bO fun x hx => ?_
 have hw : IntKind.wrap .i64 (most + 1) = most + 1 := w64 (by omega) (by omega)
 rw [hw] at hx
 have hx1 := hx.1.2.1 (by omega)
 have key : ∀ (m : Nat) (k : Nat) (b : List Int) (i h : Int) (gs : List Q4), (k : Int) ≤ x.1 → x.1 - k < m → gs.length = k → CurP (b, i, h) →
   Ok (s_l11Right_l1 n x m b i h k gs) (fun r => (r.1 = n ∧ (r.2.1.length : Int) ≤ most) ∧ CurP r.2.2) := by
  intro m
  induction m with
  | zero => intro k b i h gs h1 h2; omega
  | succ m ih =>
   intro k b i h gs h1 h2 h3 hcu
   rw [s_l11Right_l1]
   refine Ok.br (fun e => ?_) (fun e => Ok.some ⟨⟨rfl, by show (gs.length : Int) ≤ most; omega⟩, hcu⟩)
   have e := of_decide_eq_true e
   refine (gate_ok hcu hn).bO fun g hg1 => Ok.gd (decide_eq_true (by simp; omega)) ?_
   rw [w64 (by omega) (by omega), show (k : Int) + 1 = ((k + 1 : Nat) : Int) by omega]
   exact ih (k + 1) _ _ _ _ (by omega) (by omega) (by simp; omega) hg1.2
 exact key FU 0 _ _ _ [] (by omega) (by rw [FU_eq]; omega) rfl hx.2
/-- At most 15 gates, and then X gates at place 0. -/
def Core (g : List Q4) : Prop := ∃ co xs, (g = co ++ xs ∧ co.length ≤ 15) ∧ (∀ q ∈ xs, q = ((1, 0, 0, 0) : Q4)) ∧ g.length ≤ 100
theorem bent14_ok {b : List Int} {i h : Int} (hcu : CurP (b, i, h)) : Ok (s_l11Bent b i h 14) (fun r => Core r.2.1) := by
 unfold s_l11Bent
 refine (below_ok hcu).bO fun x hx => ?_
 have hb := hx.1.2.1 (by omega)
 obtain ⟨n, hn, hn1⟩ := nat_of (n := IntKind.wrap .i64 (1 + x.1)) (by rw [w64 (by omega) (by omega)]; omega)
 rw [hn]
 refine (right14_ok hx.2 hn1 (by omega)).bO fun r hr => ?_
 obtain ⟨⟨r1, r2⟩, r3⟩ := hr
 have hf : Core r.2.1 := ⟨r.2.1, [], ⟨(List.append_nil _).symm, by omega⟩, fun q hq => by simp at hq, by omega⟩
 refine (below_ok r3).bO fun y hy => Ok.br (fun _ => (pick_ok hy.2 (by simp)).bO fun q hq => Ok.some hf) (fun _ => Ok.br (fun _ => ?_) (fun _ => Ok.br (fun _ => ?_) (fun _ => Ok.some hf)))
 ·have hmx : s_l1Max 1 r.1 = some (n : Int) := by
   unfold s_l1Max
   rw [r1]
   by_cases e : (n : Int) < 1
   ·omega
   ·have : n = 1 ∨ n = 2 ∨ n = 3 ∨ n = 4 := by omega
    rcases this with rfl | rfl | rfl | rfl <;> rfl
  rw [hmx, bO_some]
  refine (gbent_ok hy.2 hn1).bO fun g hg => Ok.gd (decide_eq_true (by simp; omega)) (Ok.some ?_)
  exact ⟨r.2.1 ++ [(g.1, g.2.1, g.2.2.1, g.2.2.2.1)], [], ⟨(List.append_nil _).symm, by simp; omega⟩, fun q hq => by simp at hq, by simp; omega⟩
 ·refine (once_ok hy.2).bO fun o ho => Ok.br (fun _ => ?_) (fun _ => Ok.some hf)
  have key : ∀ (m : Nat) (b : List Int) (i h : Int) (xs : List Q4), (r.2.1 ++ xs).length ≤ 70 → 70 - (r.2.1 ++ xs).length < m → (∀ q ∈ xs, q = ((1, 0, 0, 0) : Q4)) → CurP (b, i, h) → Ok (s_l11Bent_l1 r m b i h (r.2.1 ++ xs)) (fun r => Core r.2.1) := by
   intro m
   induction m with
   | zero => intro b i h xs h1 h2; omega
   | succ m ih =>
    intro b i h xs h1 h2 h3 hcu
    rw [s_l11Bent_l1]
    refine (below_ok hcu).bO fun z hz => Ok.br (fun e => ?_) (fun _ => Ok.some ⟨r.2.1, xs, ⟨rfl, by omega⟩, h3, by show (r.2.1 ++ xs).length ≤ 100; omega⟩)
    have e := of_decide_eq_true e
    have hz1 := hz.1.2.1 (by omega)
    have hz0 := hz.1.1
    rw [w64 (by omega) (by omega)] at e
    rw [List.append_assoc]
    have hlen : (r.2.1 ++ (xs ++ [((1, 0, 0, 0) : Q4)])).length = (r.2.1 ++ xs).length + 1 := by simp only [List.length_append, List.length_cons, List.length_nil]; omega
    refine Ok.gd (decide_eq_true (by simp only [List.length_cons, List.length_nil]; omega)) (ih _ _ _ _ (by omega) (by omega) (fun q hq => ?_) hz.2)
    rcases List.mem_append.1 hq with hq | hq
    ·exact h3 q hq
    ·simpa using hq
  have := key FU o.2.1 o.2.2.1 o.2.2.2 [] (by simp; omega) (by rw [FU_eq]; omega) (fun q hq => by simp at hq) ho
  rw [List.append_nil] at this
  exact this
theorem dsrs_ok {code : List Int} (h : code.length ≤ 1048576) : Ok (s_DrawShortenRuns code) (fun r => Core r.1) := by
 unfold s_DrawShortenRuns
 exact (new_ok h).bO fun c hcu => (bent14_ok hcu).bO fun r hr => Ok.some hr
theorem pressed_loop {g : List Q4} {n : Int} (hl : g.length ≤ 100) (hC : (∀ q ∈ g, vG n q = true) → hc (srsF n g) ≤ 24 ∧ hc g ≤ 24) : ∀ (m k : Nat), k ≤ g.length → g.length - k < m → (∀ q ∈ g.take k, vG n q = true) →
  l_FnPressed_l1 (g, n) (srsF n g) m (k : Int) = some true := by
 intro m
 induction m with
 | zero => intro k _ h; omega
 | succ m ih =>
  intro k hk hm hv
  rw [l_FnPressed_l1]
  by_cases e : k = g.length
  ·subst e
   rw [List.take_length] at hv
   have hlt : decide ((g.length : Int) < (g.length : Int)) = false := decide_eq_false (by omega)
   simp only [hlt, br_false]
   unfold l_FnPressed_j2
   have hn : (1 ≤ n ∧ n ≤ 4) ∨ g = [] := by
    cases g with
    | nil => exact Or.inr rfl
    | cons q g =>
     have := hv q (List.mem_cons_self ..)
     exact Or.inl (ivg_cases this).1
   by_cases hn1 : 1 ≤ n ∧ n ≤ 4
   ·obtain ⟨⟨k1, k2⟩, k3, k4⟩ := srs_les (n := n) (l := g) (by omega) hv
    obtain ⟨c1, c2⟩ := hC hv
    have hsl := srs_len g n (by omega)
    obtain ⟨r, r1, r2⟩ := l_ap hn1 (A := srsF n g) (B := g) (by omega) (by omega) k2 hv c1 c2
    have hr : r.2 = true := r2.2 k1
    have d1 : decide (n < 1) = false := decide_eq_false (by omega)
    have d2 : decide (4 < n) = false := decide_eq_false (by omega)
    have d3 : decide (((tcF (srsF n g) : Nat) : Int) ≤ ((tcF g : Nat) : Int)) = true := decide_eq_true (by omega)
    have d4 : decide (rcF (srsF n g) ≤ rcF g) = true := decide_eq_true k4
    simp only [d1, d2, br_false, bO_some, l_FnPressed_j3, r1, hr, br_true, l_tc (srsF n g) (by omega), l_tc g (by omega), d3, i_rc (srsF n g) (by omega), i_rc g (by omega), d4, l_FnPressed_j4]
   ·have hg : g = [] := by
     rcases hn with h | h
     ·exact absurd h hn1
     ·exact h
    subst hg
    have hb : ∃ b, b = true ∧ bO (br (decide (n < 1)) (some true) (some (decide (4 < n)))) (fun x17 => l_FnPressed_j3 (([] : List Q4), n) (srsF n []) x17) = l_FnPressed_j3 (([] : List Q4), n) (srsF n []) b := by
     by_cases h1 : n < 1
     ·exact ⟨true, rfl, by rw [decide_eq_true h1, br_true, bO_some]⟩
     ·exact ⟨true, rfl, by rw [decide_eq_false h1, br_false, decide_eq_true (by omega), bO_some]⟩
    obtain ⟨b, rfl, hb⟩ := hb
    show bO (br (decide (n < 1)) (some true) (some (decide (4 < n)))) (fun x17 => l_FnPressed_j3 (([] : List Q4), n) (srsF n []) x17) = some true
    rw [hb]
    rfl
  ·have hil : k < g.length := by omega
   have hlt : decide ((k : Int) < (g.length : Int)) = true := decide_eq_true (by omega)
   simp only [hlt, br_true, geti_lt hil, bO_some, s_ivg]
   cases hb : ivg g[k].1 g[k].2.1 g[k].2.2.1 g[k].2.2.2 n with
   | true =>
    rw [Bool.not_true, br_false, w64s (n := g.length) hil (by omega)]
    refine ih (k + 1) (by omega) (by omega) fun q hq => ?_
    rw [List.take_add_one, List.getElem?_eq_getElem hil] at hq
    rcases List.mem_append.1 hq with h | h
    ·exact hv q h
    ·simp at h
     subst h
     exact hb
   | false =>
    have hs : srsF n g = g := by
     unfold srsF
     rw [if_neg]
     intro h
     have := List.all_eq_true.1 h g[k] (List.getElem_mem hil)
     unfold vG at this
     rw [hb] at this
     cases this
    rw [hs, Bool.not_false, br_true, same_self g (by omega), bO_some]
theorem law_Pressed (code : List Int) : l_FnPressed code = some true := by
 unfold l_FnPressed
 rw [big_eq, bO_some]
 by_cases hb : 1048576 < (code.length : Int)
 ·simp only [hb, decide_true, br_true]
 simp only [hb, decide_false, br_false]
 obtain ⟨⟨g, n⟩, e2, co, xs, ⟨rfl, hco⟩, hx, hl⟩ := dsrs_ok (code := code) (by omega)
 rw [e2, bO_some]
 simp only at hl
 have hsl := srs_len (co ++ xs) n (by omega)
 have hC : (∀ q ∈ co ++ xs, vG n q = true) → hc (srsF n (co ++ xs)) ≤ 24 ∧ hc (co ++ xs) ≤ 24 := fun hv => by
  refine ⟨srs_hc (by omega) hco hx hv, ?_⟩
  have := (x_cnt (xs := xs) (fun q hq => by rw [hx q hq])).2
  have := hc_le co
  rw [hc_append]
  omega
 have hlp := pressed_loop hl hC FU 0 (by omega) (by rw [FU_eq]; omega) (fun q hq => by simp at hq)
 generalize co ++ xs = g at *
 simp only [i_srs g n (by omega), s_srs g n (by omega), bO_some, same_self (srsF n g) (by omega), Bool.not_true, br_false, i_rc g (by omega), s_rc g (by omega), bne_self_eq_false, l_FnPressed_j1]
 exact hlp
theorem law_Pr (A : Option Addr) (n c : Nat) (l : List Int) (w : World) (wa : IsBytesC w A n c l) :
  Calls Tryz.prog 4 #[.slice A n c] w fun e w' => e = .returned (.bool true) ∧ Below w.heap.size w w' :=
 spec_calls (l_FnPressed_ok (law_Pressed l)) rfl (args1 (.plain (pv_bytes wa)))
end Go.Proofs.YtfjopjalhllplaaGreat
