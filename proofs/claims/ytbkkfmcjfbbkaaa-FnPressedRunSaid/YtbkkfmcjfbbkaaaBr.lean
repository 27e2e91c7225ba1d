/- From a contract on abstract values to calls in a given world; what comes in, as abstract values over the printed encodings. -/
import Derived.Test.YtbkkfmcjfbbkaaaGn
import Derived.Test.YtbkkfmcjfbbkaaaFs
namespace Go.Proofs.Ytbkkfmcjfbbkaaa
open Go.RowKit
set_option maxRecDepth 100000
set_option linter.unusedVariables false
set_option linter.unusedSimpArgs false
def wM (w : World) : Imm := fun b o => match w.cell? ⟨b, o, none⟩ with
  | some v => if v.oneCell' then some v else none
  | none => none
theorem wM_some {w : World} {b o : Nat} {v : Value} (h : w.cell? ⟨b, o, none⟩ = some v) (h1 : v.oneCell' = true) : wM w b o = some v := by simp [wM, h, h1]
theorem wM_inv {w : World} {b o : Nat} {v : Value} (h : wM w b o = some v) : w.cell? ⟨b, o, none⟩ = some v ∧ v.oneCell' = true := by
  unfold wM at h
  split at h
  · rename_i u hu
    split at h
    · rename_i h1
      injection h with h; subst h
      exact ⟨hu, h1⟩
    · cases h
  · cases h
theorem spec_calls {P : Program} {f : FuncId} {args : List AV} {b : Bool} {vs : Array Value} {w : World} (hS : Spec P f args [] (.bool b) []) (hlen : args.length = vs.size)
    (hv : ∀ (i : Nat) (c : AV) (v : Value), args[i]? = some c → vs[i]? = some v → VR (wM w) (fun _ => none) c v) : Calls P f vs w fun e w' => e = .returned (.bool b) ∧ Below w.heap.size w w' := by
  refine (hS.2 (wM w) (fun _ => none) w vs (MR.empty _ _ _ fun b o v h => wM_inv h) (fun _ _ => rfl) hlen hv).mono ?_
  rintro e w' ⟨v, M', ρ', rfl, _, _, _, _, hr, hc, _, _⟩
  obtain rfl := hr.bool_inv
  refine ⟨rfl, hc.os, hc.tape, hc.output, hc.size, fun k hk => hc.block k hk ?_⟩
  rintro ⟨s, r, x, hs, _⟩
  simp [rowsOf] at hs
theorem encL_get {α : Type} {e : α → List AV} {sz : Nat} (h : ∀ x, (e x).length = sz) : ∀ (l : List α) (k j : Nat) (q : α), l[k]? = some q → j < sz → (encL e l)[k * sz + j]? = (e q)[j]?
  | x :: l, 0, j, q, hq, hj => by
    simp only [List.getElem?_cons_zero, Option.some.injEq] at hq
    subst hq
    rw [encL_cons, Nat.zero_mul, Nat.zero_add, List.getElem?_append_left (by rw [h]; exact hj)]
  | x :: l, k + 1, j, q, hq, hj => by
    rw [encL_cons, List.getElem?_append_right (by rw [h, Nat.succ_mul]; omega), h, show (k + 1) * sz + j - sz = k * sz + j by rw [Nat.succ_mul]; omega]
    exact encL_get h l k j q (by simpa using hq) hj
theorem pv_quads {w : World} {A : Option Addr} {n c : Nat} {l : List Quad} (h : SlQ w A n l) (hc : n ≤ c) : PV (wM w) (.sl (encL EIIII l) l.length) (.slice A n c) := by
  obtain rfl := h.1
  have H := h.2
  by_cases hp : 0 < l.length
  · obtain ⟨b, off, hA, hb, hcell⟩ := H hp
    have hlen := encL_len EIIIIl l
    have key : ∀ (i : Nat) (x : AV), (encL EIIII l)[i]? = some x → ∃ n : Int, x = .int .i64 n ∧ w.cell? ⟨b, off + i, none⟩ = some (.int .i64 n) := by
      intro i x hx
      have hi : i < l.length * 4 := by
        rw [← hlen]
        rcases Nat.lt_or_ge i (encL EIIII l).length with h' | h'
        · exact h'
        · rw [List.getElem?_eq_none h'] at hx; cases hx
      have hk : i / 4 < l.length := by omega
      have hq := List.getElem?_eq_getElem hk
      have e := encL_get EIIIIl l (i / 4) (i % 4) _ hq (by omega)
      rw [show i / 4 * 4 + i % 4 = i by omega, hx] at e
      obtain ⟨c0, c1, c2, c3⟩ := hcell (i / 4) _ hq
      have h4 : i % 4 = 0 ∨ i % 4 = 1 ∨ i % 4 = 2 ∨ i % 4 = 3 := by omega
      have hoff : off + i = off + i / 4 * 4 + i % 4 := by omega
      rw [hoff]
      rcases h4 with h4 | h4 | h4 | h4 <;> rw [h4] at e ⊢ <;> simp only [EIIII, List.getElem?_cons_zero, List.getElem?_cons_succ, Option.some.injEq] at e
      · exact ⟨_, e, c0⟩
      · exact ⟨_, e, c1⟩
      · exact ⟨_, e, c2⟩
      · exact ⟨_, e, c3⟩
    refine .sl _ _ _ _ b off (fun i => (w.cell? ⟨b, off + i, none⟩).getD undef) (fun _ => hA) hc (fun i x hx => ?_) (fun i x hx => ?_)
    · obtain ⟨n, rfl, hn⟩ := key i x hx
      rw [wM_some hn rfl, hn]; rfl
    · obtain ⟨n, rfl, hn⟩ := key i x hx
      simp only [hn, Option.getD_some]
      exact .int ..
  · have : l = [] := List.eq_nil_of_length_eq_zero (by omega)
    subst this
    exact .sl _ _ _ _ 0 0 (fun _ => undef) (fun h => absurd h (by simp)) hc (fun i x hx => by simp [encL] at hx) (fun i x hx => by simp [encL] at hx)
theorem pv_ints {w : World} {A : Option Addr} {n c : Nat} {l : List Int} (h : SlI w A n l) (hc : n ≤ c) : PV (wM w) (.sl (encL EI l) l.length) (.slice A n c) := by
  obtain rfl := h.1
  have H := h.2
  by_cases hp : 0 < l.length
  · obtain ⟨b, off, hA, hb, hcell⟩ := H hp
    have hlen := encL_len EIl l
    have key : ∀ (i : Nat) (x : AV), (encL EI l)[i]? = some x → ∃ n : Int, x = .int .i64 n ∧ w.cell? ⟨b, off + i, none⟩ = some (.int .i64 n) := by
      intro i x hx
      have hi : i < l.length := by
        have : i < l.length * 1 := by
          rw [← hlen]
          rcases Nat.lt_or_ge i (encL EI l).length with h' | h'
          · exact h'
          · rw [List.getElem?_eq_none h'] at hx; cases hx
        omega
      have hq := List.getElem?_eq_getElem hi
      have e := encL_get EIl l i 0 _ hq (by omega)
      rw [show i * 1 + 0 = i by omega, hx] at e
      simp only [EI, List.getElem?_cons_zero, Option.some.injEq] at e
      exact ⟨_, e, hcell i _ hq⟩
    refine .sl _ _ _ _ b off (fun i => (w.cell? ⟨b, off + i, none⟩).getD undef) (fun _ => hA) hc (fun i x hx => ?_) (fun i x hx => ?_)
    · obtain ⟨n, rfl, hn⟩ := key i x hx
      rw [wM_some hn rfl, hn]; rfl
    · obtain ⟨n, rfl, hn⟩ := key i x hx
      simp only [hn, Option.getD_some]
      exact .int ..
  · have : l = [] := List.eq_nil_of_length_eq_zero (by omega)
    subst this
    exact .sl _ _ _ _ 0 0 (fun _ => undef) (fun h => absurd h (by simp)) hc (fun i x hx => by simp [encL] at hx) (fun i x hx => by simp [encL] at hx)
theorem vr_int (M : Imm) (ρ : Plc) (n : Int) : VR M ρ (.int .i64 n) (.int .i64 n) := .plain (.int ..)
theorem vr_tab {w : World} {N : Int} {A : Option Addr} {n c : Nat} {l : List Quad} (h : SlQ w A n l) (hc : n ≤ c) : VR (wM w) (fun _ => none) (.agg [.int .i64 N, .sl (encL EIIII l) l.length]) (.agg #[.int .i64 N, .slice A n c]) := by
  refine .agg _ _ rfl (fun v hv => ?_) (fun i x v hx hv => ?_)
  · simp at hv; rcases hv with rfl | rfl <;> rfl
  · match i with
    | 0 => simp at hx hv; subst hx hv; exact .plain (.int ..)
    | 1 => simp at hx hv; subst hx hv; exact .plain (pv_quads h hc)
    | i + 2 => simp at hx
theorem vr_nf {w : World} {N : Int} {A B : Option Addr} {n c m d : Nat} {l : List Int} {k : List Quad} (h : SlI w A n l) (hc : n ≤ c) (h2 : SlQ w B m k) (hd : m ≤ d) :
    VR (wM w) (fun _ => none) (.agg [.sl (encL EI l) l.length, .int .i64 N, .sl (encL EIIII k) k.length]) (.agg #[.slice A n c, .int .i64 N, .slice B m d]) := by
  refine .agg _ _ rfl (fun v hv => ?_) (fun i x v hx hv => ?_)
  · simp at hv; rcases hv with rfl | rfl | rfl <;> rfl
  · match i with
    | 0 => simp at hx hv; subst hx hv; exact .plain (pv_ints h hc)
    | 1 => simp at hx hv; subst hx hv; exact .plain (.int ..)
    | 2 => simp at hx hv; subst hx hv; exact .plain (pv_quads h2 hd)
    | i + 3 => simp at hx
theorem vr_quad (M : Imm) (ρ : Plc) (a b c d : Int) : VR M ρ (.agg [.int .i64 a, .int .i64 b, .int .i64 c, .int .i64 d]) (.agg #[.int .i64 a, .int .i64 b, .int .i64 c, .int .i64 d]) := by
  refine .agg _ _ rfl (fun v hv => ?_) (fun i x v hx hv => ?_)
  · simp at hv; rcases hv with rfl | rfl | rfl | rfl <;> rfl
  · match i with
    | 0 => simp at hx hv; subst hx hv; exact .plain (.int ..)
    | 1 => simp at hx hv; subst hx hv; exact .plain (.int ..)
    | 2 => simp at hx hv; subst hx hv; exact .plain (.int ..)
    | 3 => simp at hx hv; subst hx hv; exact .plain (.int ..)
    | i + 4 => simp at hx
theorem args1 {M : Imm} {ρ : Plc} {x : AV} {u : Value} (h1 : VR M ρ x u) : ∀ (i : Nat) (c : AV) (w : Value), [x][i]? = some c → #[u][i]? = some w → VR M ρ c w := by
  intro i c w hc hw
  match i with
  | 0 => simp at hc hw; subst hc hw; exact h1
  | i + 1 => simp at hc
theorem args2 {M : Imm} {ρ : Plc} {x y : AV} {u v : Value} (h1 : VR M ρ x u) (h2 : VR M ρ y v) : ∀ (i : Nat) (c : AV) (w : Value), [x, y][i]? = some c → #[u, v][i]? = some w → VR M ρ c w := by
  intro i c w hc hw
  match i with
  | 0 => simp at hc hw; subst hc hw; exact h1
  | 1 => simp at hc hw; subst hc hw; exact h2
  | i + 2 => simp at hc
theorem args3 {M : Imm} {ρ : Plc} {x y z : AV} {u v t : Value} (h1 : VR M ρ x u) (h2 : VR M ρ y v) (h3 : VR M ρ z t) : ∀ (i : Nat) (c : AV) (w : Value), [x, y, z][i]? = some c → #[u, v, t][i]? = some w → VR M ρ c w := by
  intro i c w hc hw
  match i with
  | 0 => simp at hc hw; subst hc hw; exact h1
  | 1 => simp at hc hw; subst hc hw; exact h2
  | 2 => simp at hc hw; subst hc hw; exact h3
  | i + 3 => simp at hc
end Go.Proofs.Ytbkkfmcjfbbkaaa
