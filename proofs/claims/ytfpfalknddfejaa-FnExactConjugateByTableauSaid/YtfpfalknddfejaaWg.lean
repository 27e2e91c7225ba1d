/- IdentityTableau whole. -/
import Derived.Test.YtfpfalknddfejaaWf
namespace Go.Proofs.Ytfpfalknddfejaa
open Go.RowKit Pop
set_option maxRecDepth 100000
set_option linter.unusedVariables false
set_option linter.unusedSimpArgs false
theorem identityTableau_spec (n : Int) (w : World) : Calls Try.prog 107 #[.int .i64 n] w (RetT 28 (idTab n).1 (idTab n).2 w) := by
  cases hin : inB n 1 4 with
  | true =>
    obtain ⟨h1, h4⟩ := inB_true.1 hin
    have e : idTab n = (n, idRows n (2 * n).toNat) := by simp [idTab, hin]
    rw [e]
    exact identityTableau_spec_ok n w h1 h4
  | false =>
    have e : idTab n = (0, []) := by simp [idTab, hin]
    rw [e]
    clear e
    go_enter Try.func107, Try.ntmps107
    go_wp2_with (go_at_call 73; refine (l1In_any _ _ _ _).mono ?_; rintro e w' ⟨rfl, hw'⟩; rw [hw']; clear hw' w')
    refine bodyPost_ret (v := .agg #[.int .i64 0, .slice none 0 0]) (by simp [results, Try.results107, go_sem, *]) rfl ⟨none, 0, rfl, OwnQ.nil _ _ _, ?_⟩
    repeat' (first | (with_reducible exact Below.refl _ _) | (with_reducible refine below_drewN ?_ _) | (with_reducible refine Below.drew ?_) | (with_reducible refine Below.alloc ?_ ?_ _) | (with_reducible refine Below.setCell ?_ ?_ _) | (with_reducible refine Below.trans ?_ (Below.mono (by with_reducible assumption) ?_)) | go_size | (with_reducible refine Nat.le_trans ?_ (Below.size (by with_reducible assumption))))
theorem identityTableau_impl (n : Int) (w : World) : Calls Try.prog 100 #[.int .i64 n] w (RetT 28 (idTab n).1 (idTab n).2 w) := by
  cases hin : inB n 1 4 with
  | true =>
    obtain ⟨h1, h4⟩ := inB_true.1 hin
    have e : idTab n = (n, idRows n (2 * n).toNat) := by simp [idTab, hin]
    rw [e]
    exact identityTableau_impl_ok n w h1 h4
  | false =>
    have e : idTab n = (0, []) := by simp [idTab, hin]
    rw [e]
    clear e
    go_enter Try.func100, Try.ntmps100
    go_wp2_with (go_at_call 75; refine (in_any _ _ _ _).mono ?_; rintro e w' ⟨rfl, hw'⟩; rw [hw']; clear hw' w')
    refine bodyPost_ret (v := .agg #[.int .i64 0, .slice none 0 0]) (by simp [results, Try.results100, go_sem, *]) rfl ⟨none, 0, rfl, OwnQ.nil _ _ _, ?_⟩
    repeat' (first | (with_reducible exact Below.refl _ _) | (with_reducible refine below_drewN ?_ _) | (with_reducible refine Below.drew ?_) | (with_reducible refine Below.alloc ?_ ?_ _) | (with_reducible refine Below.setCell ?_ ?_ _) | (with_reducible refine Below.trans ?_ (Below.mono (by with_reducible assumption) ?_)) | go_size | (with_reducible refine Nat.le_trans ?_ (Below.size (by with_reducible assumption))))
theorem idTab_len (n : Int) : (idTab n).2.length ≤ 8 := by
  cases h : inB n 1 4 with
  | false => simp [idTab, h]
  | true =>
    obtain ⟨h1, h4⟩ := inB_true.1 h
    simp [idTab, h, idRows_len]
    omega
end Go.Proofs.Ytfpfalknddfejaa
