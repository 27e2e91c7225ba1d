/- Encodings of the program's types; printed. -/
import Derived.Test.YtcclapenpaediaaTy
namespace Go.Proofs.Ytcclapenpaediaa
open Go.RowKit
set_option maxRecDepth 100000
set_option linter.unusedVariables false
set_option linter.unusedSimpArgs false
set_option linter.defProp false
def EIIII (q : Int × Int × Int × Int) : List AV := [.int .i64 q.1, .int .i64 q.2.1, .int .i64 q.2.2.1, .int .i64 q.2.2.2]
theorem EIIIIl : ∀ q, (EIIII q).length = 4 := fun _ => rfl
theorem EIIIIe (q : Int × Int × Int × Int) : EIIII q = [.int .i64 q.1, .int .i64 q.2.1, .int .i64 q.2.2.1, .int .i64 q.2.2.2] := (rfl)
theorem EIIIIf : ∀ l, (∀ c ∈ encL EIIII l, Free c) = True := free_enc fun q => by simp only [EIIIIe, AL, and_self]
def EI (q : Int) : List AV := [.int .i64 q]
theorem EIl : ∀ q, (EI q).length = 1 := fun _ => rfl
theorem EIe (q : Int) : EI q = [.int .i64 q] := (rfl)
theorem EIf : ∀ l, (∀ c ∈ encL EI l, Free c) = True := free_enc fun q => by simp only [EIe, AL, and_self]
def EB (q : Int) : List AV := [.int .u8 q]
theorem EBl : ∀ q, (EB q).length = 1 := fun _ => rfl
theorem EBe (q : Int) : EB q = [.int .u8 q] := (rfl)
theorem EBf : ∀ l, (∀ c ∈ encL EB l, Free c) = True := free_enc fun q => by simp only [EBe, AL, and_self]
def EILIIIIE (q : Int × List (Int × Int × Int × Int)) : List AV := [.int .i64 q.1, .sl (encL EIIII q.2) q.2.length]
theorem EILIIIIEl : ∀ q, (EILIIIIE q).length = 2 := fun _ => rfl
theorem EILIIIIEe (q : Int × List (Int × Int × Int × Int)) : EILIIIIE q = [.int .i64 q.1, .sl (encL EIIII q.2) q.2.length] := (rfl)
def ELIIIIE (q : List (Int × Int × Int × Int)) : List AV := [.sl (encL EIIII q) q.length]
theorem ELIIIIEl : ∀ q, (ELIIIIE q).length = 1 := fun _ => rfl
theorem ELIIIIEe (q : List (Int × Int × Int × Int)) : ELIIIIE q = [.sl (encL EIIII q) q.length] := (rfl)
def EN := (And.intro (And.intro @EIIIIe @EIe) (And.intro @EBe (And.intro @EILIIIIEe @ELIIIIEe)))
def EF := (And.intro @EIIIIf (And.intro @EIf @EBf))
def EV := And.intro AE (And.intro TY EN)
abbrev LQ := List (Int × Int × Int × Int)
theorem le_d {n m : Nat} (h : Nat.ble n m = true) : n ≤ m := Nat.le_of_ble_eq_true h
theorem no_j {n : Nat} {p : Nat → Prop} (h : Nat.ble n 0 = true) : ∀ j, j < n → p j := fun j hj => absurd (Nat.lt_of_lt_of_le hj (Nat.le_of_ble_eq_true h)) (Nat.not_lt_zero _)
theorem FM : Try.prog.follows .mixedOrders = true := by kernel_rfl
end Go.Proofs.Ytcclapenpaediaa
