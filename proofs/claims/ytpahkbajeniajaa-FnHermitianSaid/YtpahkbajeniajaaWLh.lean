/- The walk of the law FnHermitian. -/
import Derived.Test.YtpahkbajeniajaaWLg
import Derived.Test.YtpahkbajeniajaaWd
namespace Go.Proofs.Ytpahkbajeniajaa
open Go.RowKit Pop
set_option maxRecDepth 100000
set_option linter.unusedVariables false
set_option linter.unusedSimpArgs false
theorem hermB_valid {n x z p : Int} (h : hermB n x z p = true) : validB n x z p = true := by
  simp only [hermB, Bool.and_eq_true] at h; exact h.1
theorem fmtTo_ne (x z p : Int) : ∀ k, 1 ≤ (fmtTo x z p k).size
  | 0 => by simp only [fmtTo, phStr]; split <;> (try split) <;> (try split) <;> decide
  | k + 1 => by simp only [fmtTo, ByteArray.size_append]; have := fmtTo_ne x z p k; omega
theorem fmtTo_herm {n x z p : Int} (h : hermB n x z p = true) (c : UInt8) (hc : phStr ((p - andPop x z) % 4) = ⟨#[c]⟩) : ∀ k, (fmtTo x z p k).size = k + 1 ∧ (fmtTo x z p k).data.toList.head? = some c
  | 0 => by simp only [fmtTo, hc]; exact ⟨rfl, rfl⟩
  | k + 1 => by
    have ih := fmtTo_herm h c hc k
    simp only [fmtTo, ByteArray.size_append, chStr_size]
    refine ⟨by omega, ?_⟩
    rw [ByteArray.data_append, Array.toList_append]
    cases hl : (fmtTo x z p k).data.toList with
    | nil => rw [hl] at ih; cases ih.2
    | cons a l => rw [hl] at ih; simpa using ih.2
theorem herm_ph {n x z p : Int} (h : hermB n x z p = true) : ∃ c : UInt8, (c = 43 ∨ c = 45) ∧ phStr ((p - andPop x z) % 4) = ⟨#[c]⟩ := by
  simp only [hermB, Bool.and_eq_true, beq_iff_eq] at h
  have h4 : (p - andPop x z) % 4 = 0 ∨ (p - andPop x z) % 4 = 2 := by omega
  rcases h4 with h4 | h4 <;> rw [h4]
  · exact ⟨43, .inl rfl, rfl⟩
  · exact ⟨45, .inr rfl, rfl⟩
theorem herm_str {n x z p : Int} (h : hermB n x z p = true) : ∃ s : ByteArray, Hid (fmtP n x z p = s) ∧ (s.size : Int) = n + 1 ∧ ∃ h0 : 0 < s.size, s[0] = 43 ∨ s[0] = 45 := by
  obtain ⟨c, hc, hp⟩ := herm_ph h
  have hv := hermB_valid h
  have hn : 1 ≤ n ∧ n ≤ 4 := by simp only [validB, Bool.and_eq_true] at hv; exact inB_true.1 hv.1
  have hs := fmtTo_herm h c hp n.toNat
  refine ⟨fmtTo x z p n.toNat, Lib.hid (by simp [fmtP, hv]), by omega, by omega, ?_⟩
  have : (fmtTo x z p n.toNat)[0]'(by omega) = c := by
    have h2 := hs.2
    rw [List.head?_eq_getElem?] at h2
    have : (fmtTo x z p n.toNat).data.toList[0]'(by have := hs.1; simp; omega) = c := by
      rw [List.getElem?_eq_getElem (by have := hs.1; simp; omega)] at h2
      exact Option.some.inj h2
    simpa [ByteArray.getElem_eq_getElem_data] using this
  rw [this]; exact hc
theorem herm_sq {n x z p : Int} (h : hermB n x z p = true) : mulPh p p z x = 0 := by
  simp only [hermB, Bool.and_eq_true, beq_iff_eq] at h
  unfold mulPh; rw [andPop_comm z x]; omega
set_option maxHeartbeats 2000000 in
theorem law_hermitian (A : Option Addr) (n c : Nat) (zs : List Int) (w : World) (hq : IsBytes w A n c zs) : Calls Try.prog 5 #[.slice A n c] w fun e w' => e = .returned (.bool true) ∧ Below w.heap.size w w' := by
  by_cases hn : n ≤ 1048576
  · have hg := guard_pauli
    have hne := eql_pauli
    go_enter Try.func5, Try.ntmps5
    go_wp2_with fail
    refine (big_no _ _ _ _ hn).mono ?_
    rintro e w' ⟨rfl, hw'⟩
    rw [hw']
    clear hw' w'
    go_wp2_with fail
    refine (drawIsHermitianPauli_any A n c zs _ (bytes_of hq) hn).mono ?_
    rintro e w1 ⟨m, x, z, p, rfl, b1⟩
    have hz1 := b1.size
    go_wp2_with fail
    refine (isHermitianPauli_impl _ _ _ _ _).mono ?_
    rintro e w2 ⟨rfl, b2⟩
    have hz2 := b2.size
    simp only [World.size_alloc] at hz2
    have hLa2 : w1.heap.size < w2.heap.size := by omega
    have La2 := Lib.hid ((b2.block (w1.heap.size) (by first | omega | (simp only [World.size_alloc]; done) | (simp only [World.size_alloc]; omega))).trans (by repeat' (first | (with_reducible exact (trivial).out) | ((with_reducible refine heap_alloc_at ?_); focus (first | (with_reducible rfl) | (simp only [World.size_alloc]; done))) | ((with_reducible apply heap_alloc_before); focus (first | omega | (simp only [World.size_alloc]; done) | (simp only [World.size_alloc]; omega))))))
    obtain ⟨q0, q1, q2, q3, qf⟩ := blk4 La2.out
    go_wp2_with fail
    refine (isHermitianPauli_spec _ _ _ _ _).mono ?_
    rintro e w3 ⟨rfl, b3⟩
    clear q0 q1 q2 q3 qf
    have hz3 := b3.size
    have hLa3 : w1.heap.size < w3.heap.size := by omega
    have La3 := Lib.hid ((b3.block (w1.heap.size) (by first | omega | (simp only [World.size_alloc]; done) | (simp only [World.size_alloc]; omega))).trans (by repeat' (first | (with_reducible exact (La2).out) | ((with_reducible refine heap_alloc_at ?_); focus (first | (with_reducible rfl) | (simp only [World.size_alloc]; done))) | ((with_reducible apply heap_alloc_before); focus (first | omega | (simp only [World.size_alloc]; done) | (simp only [World.size_alloc]; omega))))))
    obtain ⟨q0, q1, q2, q3, qf⟩ := blk4 La3.out
    cases hh : hermB m x z p with
    | false =>
      go_wp2_with fail
      refine (isHermitianPauli_spec _ _ _ _ _).mono ?_
      rintro e w4 ⟨rfl, b4⟩
      go_wp2_with fail
      go_ret
      refine ⟨rfl, ?_⟩
      repeat' (first | (with_reducible exact Below.refl _ _) | (with_reducible refine below_drewN ?_ _) | (with_reducible refine Below.drew ?_) | (with_reducible refine Below.alloc ?_ ?_ _) | (with_reducible refine Below.setCell ?_ ?_ _) | (with_reducible refine Below.trans ?_ (Below.mono (by with_reducible assumption) ?_)) | go_size | (with_reducible refine Nat.le_trans ?_ (Below.size (by with_reducible assumption))))
    | true =>
      obtain ⟨s, Hs, hsz, hs0, hs1⟩ := herm_str hh
      have hv := hermB_valid hh
      have Hv := Lib.hid hv; clear hv
      have hsq := herm_sq hh
      have Hsq := Lib.hid hsq; clear hsq
      have Hs1 := Lib.hid hs1; clear hs1
      have hlen : ((s.size : Int) == m + 1) = true := by simpa using hsz
      have Hsz := Lib.hid hsz; clear hsz
      go_wp2_with fail
      refine (formatPauli_impl _ _ _ _ _).mono ?_
      rintro e w4 ⟨rfl, b4⟩
      rw [Hs.out]
      clear q0 q1 q2 q3 qf
      have hz4 := b4.size
      have hLa4 : w1.heap.size < w4.heap.size := by omega
      have La4 := Lib.hid ((b4.block (w1.heap.size) (by first | omega | (simp only [World.size_alloc]; done) | (simp only [World.size_alloc]; omega))).trans (by repeat' (first | (with_reducible exact (La3).out) | ((with_reducible refine heap_alloc_at ?_); focus (first | (with_reducible rfl) | (simp only [World.size_alloc]; done))) | ((with_reducible apply heap_alloc_before); focus (first | omega | (simp only [World.size_alloc]; done) | (simp only [World.size_alloc]; omega))))))
      obtain ⟨q0, q1, q2, q3, qf⟩ := blk4 La4.out
      go_wp2_with fail
      refine (mulPauli_impl_ok _ _ _ _ _ _ _ _ Hv.out Hv.out).mono ?_
      rintro e w5 ⟨rfl, b5⟩
      rw [Hsq.out, xorI_self, xorI_self]
      clear q0 q1 q2 q3 qf
      have hz5 := b5.size
      have hLa5 : w1.heap.size < w5.heap.size := by omega
      have La5 := Lib.hid ((b5.block (w1.heap.size) (by first | omega | (simp only [World.size_alloc]; done) | (simp only [World.size_alloc]; omega))).trans (by repeat' (first | (with_reducible exact (La4).out) | ((with_reducible refine heap_alloc_at ?_); focus (first | (with_reducible rfl) | (simp only [World.size_alloc]; done))) | ((with_reducible apply heap_alloc_before); focus (first | omega | (simp only [World.size_alloc]; done) | (simp only [World.size_alloc]; omega))))))
      obtain ⟨q0, q1, q2, q3, qf⟩ := blk4 La5.out
      have hm : 1 ≤ m ∧ m ≤ 4 := by have hv := Hv.out; simp only [validB, Bool.and_eq_true] at hv; exact inB_true.1 hv.1
      have hbel : Below w.heap.size w w5 := by
        repeat' (first | (with_reducible exact Below.refl _ _) | (with_reducible refine below_drewN ?_ _) | (with_reducible refine Below.drew ?_) | (with_reducible refine Below.alloc ?_ ?_ _) | (with_reducible refine Below.setCell ?_ ?_ _) | (with_reducible refine Below.trans ?_ (Below.mono (by with_reducible assumption) ?_)) | go_size | (with_reducible refine Nat.le_trans ?_ (Below.size (by with_reducible assumption))))
      go_wp2_with fail
      all_goals
        first
          | (refine (formatPauli_spec _ _ _ _ _).mono ?_
             rintro e w6 ⟨rfl, b6⟩
             rw [Hs.out]
             have hbel6 : Below w.heap.size w w6 := (hbel.alloc hbel.size _).trans (b6.mono (by simp; have := hbel.size; omega))
             clear b1 b2 b3 b4 b5 b6 hbel
             go_wp2_with fail
             go_ret
             exact ⟨rfl, hbel6⟩)
          | (exfalso
             have h1 : ¬ ((s[0].toNat : Int) = 43) := by assumption
             have h2 : ¬ ((s[0].toNat : Int) = 45) := by assumption
             rcases Hs1.out with h | h
             · exact h1 (by rw [h]; rfl)
             · exact h2 (by rw [h]; rfl))
  · go_enter Try.func5, Try.ntmps5
    go_wp2_with fail
    refine (big_yes _ _ _ _ (by omega)).mono ?_
    rintro e w' ⟨rfl, hw'⟩
    rw [hw']
    clear hw' w'
    go_wp2_with fail
    go_ret
    exact ⟨rfl, Below.refl _ _⟩
end Go.Proofs.Ytpahkbajeniajaa
