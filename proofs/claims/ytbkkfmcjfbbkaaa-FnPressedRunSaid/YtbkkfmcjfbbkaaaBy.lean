/- How an argument []byte is opened, with its capacity; as an abstract value. -/
import Derived.Test.YtbkkfmcjfbbkaaaBr
namespace Go.Proofs.Ytbkkfmcjfbbkaaa
open Go.ChangeShapes Go.WideShapes Go.ChangeAt Go.RowKit Go.Joins Go.Deep
set_option linter.unusedVariables false
set_option linter.unusedSimpArgs false
def IsBytesC (w : World) (A : Option Addr) (n c : Nat) (zs : List Int) : Prop :=
  n ≤ maxLen ∧ n ≤ c ∧ zs.length = n ∧ (∀ z ∈ zs, 0 ≤ z ∧ z ≤ 255) ∧ (0 < n → ∃ b off, A = some ⟨b, off, none⟩ ∧ b < w.heap.size ∧ ∀ i z, zs[i]? = some z → w.cell? ⟨b, off + i, none⟩ = some (.int .u8 z))
section
variable {H : Type} {enc : TypeId × Value → H} {P : Program} {w : World} {base : Nat} {spare : Nat → Bool} {held : Bool}
theorem isBytesC_of_trod {t e : TypeId} {A : Option Addr} {n c : Nat} {d : DataW H} {p : List MemPlace} (ht : P.underlying t = some (.slice e)) (he : P.underlying e = some (.int .u8)) (hC : P.cellsOf e = 1)
    (h : DataW.Trod enc P w base spare held t (.slice A n c) d p) : ∃ zs, IsBytesC w A n c zs := by
  obtain ⟨fuel, hf⟩ := h
  rcases open_ints ht he hC hf with ⟨hcs, _⟩ | ⟨x, l, c', zs, hcs, _, hl, hm, hz, _, hcell, hwz⟩
  · simp [Value.cells] at hcs
    obtain ⟨rfl, rfl, rfl⟩ := hcs
    exact ⟨[], by simp [maxLen], Nat.le_refl _, rfl, by simp, fun h => absurd h (by omega)⟩
  · simp [Value.cells] at hcs
    obtain ⟨rfl, rfl, rfl⟩ := hcs
    have hlz : n ≤ zs.length := by rw [hz]; split <;> omega
    refine ⟨zs.take n, by omega, hl, by simp; omega, fun z hz' => ?_, fun hp => ?_⟩
    · have := hwz z (List.mem_of_mem_take hz')
      have := bounds_u8 this
      omega
    · obtain ⟨b, off, spot⟩ := x
      have h0 := hcell 0 (by omega)
      have hs : spot = none := by simpa [Addr.add] using World.cell?_spot h0
      subst hs
      refine ⟨b, off, rfl, ?_, fun i z hiz => ?_⟩
      · exact World.block_lt_of_cell? w _ (by simpa [Addr.add] using h0)
      · have hi : i < n := by
          rcases Nat.lt_or_ge i n with h' | h'
          · exact h'
          · rw [List.getElem?_eq_none (by simp; omega)] at hiz; cases hiz
        have hc := hcell i (by omega)
        rw [show (⟨b, off, none⟩ : Addr).add i = ⟨b, off + i, none⟩ from by unfold Addr.add; split <;> simp_all] at hc
        rw [hc]
        have : zs.getD i 0 = z := by
          rw [List.getElem?_take, if_pos hi] at hiz
          simp [hiz]
        rw [this]

end
theorem pv_bytes {w : World} {A : Option Addr} {n c : Nat} {l : List Int} (h : IsBytesC w A n c l) : PV (wM w) (.sl (encL EB l) l.length) (.slice A n c) := by
  obtain rfl := h.2.2.1
  have hc := h.2.1
  have H := h.2.2.2.2
  by_cases hp : 0 < l.length
  · obtain ⟨b, off, hA, hb, hcell⟩ := H hp
    have hlen := encL_len EBl l
    have key : ∀ (i : Nat) (x : AV), (encL EB l)[i]? = some x → ∃ n : Int, x = .int .u8 n ∧ w.cell? ⟨b, off + i, none⟩ = some (.int .u8 n) := by
      intro i x hx
      have hi : i < l.length := by
        have : i < l.length * 1 := by
          rw [← hlen]
          rcases Nat.lt_or_ge i (encL EB l).length with h' | h'
          · exact h'
          · rw [List.getElem?_eq_none h'] at hx; cases hx
        omega
      have hq := List.getElem?_eq_getElem hi
      have e := encL_get EBl l i 0 _ hq (by omega)
      rw [show i * 1 + 0 = i by omega, hx] at e
      simp only [EB, List.getElem?_cons_zero, Option.some.injEq] at e
      exact ⟨_, e, hcell i _ hq⟩
    refine .sl _ _ _ _ b off (fun i => (w.cell? ⟨b, off + i, none⟩).getD undef) (fun _ => hA) hc (fun i x hx => ?_) (fun i x hx => ?_)
    · obtain ⟨n, rfl, hn⟩ := key i x hx
      rw [wM_some hn rfl, hn]; rfl
    · obtain ⟨n, rfl, hn⟩ := key i x hx
      simp only [hn, Option.getD_some]
      exact .int ..
  · have : l = [] := List.eq_nil_of_length_eq_zero (by omega)
    subst this
    exact .sl _ _ _ _ 0 0 (fun _ => undef) (fun h => absurd h (by simp)) hc (fun i x hx => by simp [encL] at hx) (fun i x hx => by simp [encL] at hx)
end Go.Proofs.Ytbkkfmcjfbbkaaa
