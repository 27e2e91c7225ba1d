/- From a contract on abstract values to calls in a given world. -/
import Derived.Test.YtfpfalknddfejaaSa
import Derived.Test.YtfpfalknddfejaaFr
namespace Go.Proofs.Ytfpfalknddfejaa
open Go.RowKit Pop
set_option maxRecDepth 100000
set_option linter.unusedVariables false
set_option linter.unusedSimpArgs false
def wM (w : World) : Imm := fun b o => match w.cell? ⟨b, o, none⟩ with
  | some v => if v.oneCell' then some v else none
  | none => none
theorem wM_some {w : World} {b o : Nat} {v : Value} (h : w.cell? ⟨b, o, none⟩ = some v) (h1 : v.oneCell' = true) : wM w b o = some v := by simp [wM, h, h1]
theorem wM_inv {w : World} {b o : Nat} {v : Value} (h : wM w b o = some v) : w.cell? ⟨b, o, none⟩ = some v ∧ v.oneCell' = true := by
  unfold wM at h
  split at h
  · rename_i u hu
    split at h
    · rename_i h1
      injection h with h; subst h
      exact ⟨hu, h1⟩
    · cases h
  · cases h
theorem spec_calls {P : Program} {f : FuncId} {args : List AV} {b : Bool} {vs : Array Value} {w : World} (hS : Spec P f args [] (.bool b) []) (hlen : args.length = vs.size)
    (hv : ∀ (i : Nat) (c : AV) (v : Value), args[i]? = some c → vs[i]? = some v → VR (wM w) (fun _ => none) c v) : Calls P f vs w fun e w' => e = .returned (.bool b) ∧ Below w.heap.size w w' := by
  refine (hS.2 (wM w) (fun _ => none) w vs (MR.empty _ _ _ fun b o v h => wM_inv h) (fun _ _ => rfl) hlen hv).mono ?_
  rintro e w' ⟨v, M', ρ', rfl, _, _, _, _, hr, hc, _, _⟩
  obtain rfl := hr.bool_inv
  refine ⟨rfl, hc.os, hc.tape, hc.output, hc.size, fun k hk => hc.block k hk ?_⟩
  rintro ⟨s, r, x, hs, _⟩
  simp [rowsOf] at hs
theorem pv_quads {w : World} {A : Option Addr} {n c : Nat} {l : List Quad} (h : SlQ w A n l) (hc : n ≤ c) : PV (wM w) (.sl (qav l) l.length) (.slice A n c) := by
  obtain rfl := h.1
  have H := h.2
  by_cases hp : 0 < l.length
  · obtain ⟨b, off, hA, hb, hcell⟩ := H hp
    have key : ∀ (i : Nat) (x : AV), (qav l)[i]? = some x → ∃ n : Int, x = .int .i64 n ∧ w.cell? ⟨b, off + i, none⟩ = some (.int .i64 n) := by
      intro i x hx
      have hi : i < l.length * 4 := by
        rw [← qav_length]
        rcases Nat.lt_or_ge i (qav l).length with h' | h'
        · exact h'
        · rw [List.getElem?_eq_none h'] at hx; cases hx
      have hk : i / 4 < l.length := by omega
      have hq := List.getElem?_eq_getElem hk
      have e := qav_get l (i / 4) (i % 4) _ hq (by omega)
      rw [show i / 4 * 4 + i % 4 = i by omega, hx] at e
      obtain ⟨c0, c1, c2, c3⟩ := hcell (i / 4) _ hq
      have h4 : i % 4 = 0 ∨ i % 4 = 1 ∨ i % 4 = 2 ∨ i % 4 = 3 := by omega
      have hoff : off + i = off + i / 4 * 4 + i % 4 := by omega
      rw [hoff]
      rcases h4 with h4 | h4 | h4 | h4 <;> rw [h4] at e ⊢ <;> simp only [qa, List.getElem?_cons_zero, List.getElem?_cons_succ, Option.some.injEq] at e
      · exact ⟨_, e, c0⟩
      · exact ⟨_, e, c1⟩
      · exact ⟨_, e, c2⟩
      · exact ⟨_, e, c3⟩
    refine .sl _ _ _ _ b off (fun i => (w.cell? ⟨b, off + i, none⟩).getD undef) (fun _ => hA) hc (fun i x hx => ?_) (fun i x hx => ?_)
    · obtain ⟨n, rfl, hn⟩ := key i x hx
      rw [wM_some hn rfl, hn]; rfl
    · obtain ⟨n, rfl, hn⟩ := key i x hx
      simp only [hn, Option.getD_some]
      exact .int ..
  · have : l = [] := List.eq_nil_of_length_eq_zero (by omega)
    subst this
    exact .sl _ _ _ _ 0 0 (fun _ => undef) (fun h => absurd h (by simp)) hc (fun i x hx => by simp [qav] at hx) (fun i x hx => by simp [qav] at hx)
theorem vr_tab {w : World} {N : Int} {A : Option Addr} {n c : Nat} {l : List Quad} (h : SlQ w A n l) (hc : n ≤ c) : VR (wM w) (fun _ => none) (.agg [.int .i64 N, .sl (qav l) l.length]) (.agg #[.int .i64 N, .slice A n c]) := by
  refine .agg _ _ rfl (fun v hv => ?_) (fun i x v hx hv => ?_)
  · simp at hv; rcases hv with rfl | rfl <;> rfl
  · match i with
    | 0 => simp at hx hv; subst hx hv; exact .plain (.int ..)
    | 1 => simp at hx hv; subst hx hv; exact .plain (pv_quads h hc)
    | i + 2 => simp at hx
theorem args2 {M : Imm} {ρ : Plc} {x y : AV} {u v : Value} (h1 : VR M ρ x u) (h2 : VR M ρ y v) : ∀ (i : Nat) (c : AV) (w : Value), [x, y][i]? = some c → #[u, v][i]? = some w → VR M ρ c w := by
  intro i c w hc hw
  match i with
  | 0 => simp at hc hw; subst hc hw; exact h1
  | 1 => simp at hc hw; subst hc hw; exact h2
  | i + 2 => simp at hc
theorem args1 {M : Imm} {ρ : Plc} {x : AV} {u : Value} (h1 : VR M ρ x u) : ∀ (i : Nat) (c : AV) (w : Value), [x][i]? = some c → #[u][i]? = some w → VR M ρ c w := by
  intro i c w hc hw
  match i with
  | 0 => simp at hc hw; subst hc hw; exact h1
  | i + 1 => simp at hc
end Go.Proofs.Ytfpfalknddfejaa
