/- The engine, part 20: the rules for regions with tables, bundled. Over any program. -/
import Derived.Test.YtfpfalknddfejaaEs
namespace Go.Proofs.Ytfpfalknddfejaa
open Go.RowKit
set_option linter.unusedVariables false
set_option linter.defProp false
def sameOut (l : List Nat) (R R2 : Nat → Option Row) : Prop := ∀ s, l.contains s = false → R2 s = R s
theorem sameOut_refl (l : List Nat) (R : Nat → Option Row) : sameOut l R R = True := eq_true fun _ _ => rfl
theorem sameOut_r (l : List Nat) (R R2 : Nat → Option Row) (k : Nat) (v : Option Row) (h : l.contains k = true) : sameOut l R (upd R2 k v) = sameOut l R R2 := by
  refine propext (forall_congr' fun s => ?_)
  refine forall_congr' fun hs => ?_
  rw [upd_ne _ _ (fun e => by rw [e, h] at hs; cases hs)]
theorem sameOut_l (l : List Nat) (R R2 : Nat → Option Row) (k : Nat) (v : Option Row) (h : l.contains k = true) : sameOut l (upd R k v) R2 = sameOut l R R2 := by
  refine propext (forall_congr' fun s => ?_)
  refine forall_congr' fun hs => ?_
  rw [upd_ne _ _ (fun e => by rw [e, h] at hs; cases hs)]
theorem oblW_mk (l : List Nat) (T T2 : Nat → AV) (R R2 : Nat → Option Row) (b b2 : Nat) : oblW l (St.mk T R b) (St.mk T2 R2 b2) = (l.isEmpty = true ∨ sameOut l R R2) := (rfl)
theorem inT_ptr (s o : Nat) (l : List Nat) : inT (.ptr s o) l = (l.contains s = true) := (rfl)
theorem inT_eptr (cs : List AV) (l : List Nat) : inT (.eptr cs) l = True := (rfl)
def AT :=
  (And.intro
   (And.intro
    (And.intro
     (And.intro
      (And.intro
       @or_true
       @true_or)
      (And.intro
       @or_false
       (And.intro
        @false_or
        @aRunT_nil)))
     (And.intro
      (And.intro
       @aRunT_cons
       @rGT_none)
      (And.intro
       @rGT_some
       (And.intro
        @rBT_some
        @rAT_bool))))
    (And.intro
     (And.intro
      (And.intro
       @rAT_off
       @rKT_tt)
      (And.intro
       @rKT_ff
       (And.intro
        @rKT_tf
        @rKT_ft)))
     (And.intro
      (And.intro
       @rOT_0
       @rOT_1)
      (And.intro
       @rOT_2
       (And.intro
        @rOT_3
        @rOT_4)))))
   (And.intro
    (And.intro
     (And.intro
      (And.intro
       @rVT_some
       @rMT_none)
      (And.intro
       @rMT_some
       (And.intro
        @rFT_none
        @rWT_some)))
     (And.intro
      (And.intro
       @tget.eq_1
       @tget.eq_2)
      (And.intro
       @oblL.eq_1
       (And.intro
        @sameOut_refl
        @sameOut_r))))
    (And.intro
     (And.intro
      (And.intro
       @sameOut_l
       @oblW_mk)
      (And.intro
       @inT_ptr
       (And.intro
        @inT_eptr
        @List.isEmpty_cons.{0})))
     (And.intro
      (And.intro
       @List.isEmpty_nil.{0}
       (fun (l : List Nat) (st : St) (t : Nat) => @id (oblL l st (.alloc t) = True) rfl))
      (And.intro
       (fun (l : List Nat) (st : St) (t : Nat) (x : Operand) => @id (oblL l st (.box t x) = True) rfl)
       (And.intro
        (fun (l : List Nat) (st : St) (t n : Nat) (ps : Array (Nat × Operand)) => @id (oblL l st (.buildSlice t n ps) = True) rfl)
        (fun (l : List Nat) (st : St) (t : Nat) (x y : Operand) => @id (oblL l st (.makeSlice t x y) = True) rfl)))))))
end Go.Proofs.Ytfpfalknddfejaa
