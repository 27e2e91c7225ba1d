/- The engine, part 18: its rules, bundled. Over any program. -/
import Derived.Test.YtfpfalknddfejaaEq
namespace Go.Proofs.Ytfpfalknddfejaa
open Go.RowKit
set_option linter.unusedVariables false
set_option linter.defProp false
def AE :=
  (And.intro
   (And.intro
    (And.intro
     (And.intro
      (And.intro
       (And.intro
        (And.intro
         (And.intro
          @aRun_nil
          @aRun_cons)
         (And.intro
          @rG_none
          @rG_some))
        (And.intro
         (And.intro
          @rB_some
          @rA_bool)
         (And.intro
          @rA_off
          (And.intro
           @rK_tt
           @rK_ff))))
       (And.intro
        (And.intro
         (And.intro
          @rK_tf
          @rK_ft)
         (And.intro
          @rO_0
          (And.intro
           @rO_1
           @rO_2)))
        (And.intro
         (And.intro
          @rO_3
          @rO_4)
         (And.intro
          @rV_some
          (And.intro
           @rM_none
           @rM_some)))))
      (And.intro
       (And.intro
        (And.intro
         (And.intro
          @rF_none
          @rW_some)
         (And.intro
          @St.put_some
          (And.intro
           @St.put_none
           @ev_tmp)))
        (And.intro
         (And.intro
          @ev_const
          @upd_apply)
         (And.intro
          @cls.eq_1
          (And.intro
           @cls.eq_2
           @cls.eq_3))))
       (And.intro
        (And.intro
         (And.intro
          @cls.eq_4
          @cls.eq_5)
         (And.intro
          @cls.eq_6
          (And.intro
           @cls.eq_7
           (fun (BR : Nat → Bool) (x : Operand) => @id (cls BR (.move x) = 0) rfl))))
        (And.intro
         (And.intro
          (fun (BR : Nat → Bool) (x : Operand) => @id (cls BR (.assign x) = 0) rfl)
          (fun (BR : Nat → Bool) (c a b : Operand) => @id (cls BR (.pick c a b) = 0) rfl))
         (And.intro
          (fun (BR : Nat → Bool) (t : Nat) (ps : Array (Nat × Operand)) => @id (cls BR (.build t ps) = 0) rfl)
          (And.intro
           (fun (BR : Nat → Bool) (o : BinOp) (t t2 : Nat) (x y : Operand) => @id (cls BR (.binOp o t x y t2) = 0) rfl)
           (fun (BR : Nat → Bool) (o : UnOp) (t : Nat) (x : Operand) => @id (cls BR (.unOp o t x) = 0) rfl)))))))
     (And.intro
      (And.intro
       (And.intro
        (And.intro
         (And.intro
          (fun (BR : Nat → Bool) (s d : Nat) (x : Operand) => @id (cls BR (.convert s d x) = 0) rfl)
          (fun (BR : Nat → Bool) (s f : Nat) (x : Operand) => @id (cls BR (.fieldAddr s x f) = 0) rfl))
         (And.intro
          (fun (BR : Nat → Bool) (s f : Nat) (x : Operand) => @id (cls BR (.field s x f) = 0) rfl)
          (fun (BR : Nat → Bool) (t : Nat) (x i : Operand) => @id (cls BR (.indexAddr t x i) = 0) rfl)))
        (And.intro
         (And.intro
          (fun (BR : Nat → Bool) (t : Nat) (x i : Operand) => @id (cls BR (.index t x i) = 0) rfl)
          (fun (BR : Nat → Bool) (i : Nat) (x : Operand) => @id (cls BR (.extract x i) = 0) rfl))
         (And.intro
          (fun (BR : Nat → Bool) (x : Operand) => @id (cls BR (.nilCheck x) = 0) rfl)
          (And.intro
           (fun (BR : Nat → Bool) (t : Nat) (x : Operand) (l h m : Option Operand) => @id (cls BR (.slice t x l h m) = 0) rfl)
           @aPure.eq_1))))
       (And.intro
        (And.intro
         (And.intro
          @aPure.eq_2
          @aPure.eq_3)
         (And.intro
          @aPure.eq_4
          (And.intro
           @aPure.eq_5
           @aPure.eq_6)))
        (And.intro
         (And.intro
          @aPure.eq_7
          @aPure.eq_8)
         (And.intro
          @aPure.eq_9
          (And.intro
           @aPure.eq_10
           @aPure.eq_11)))))
      (And.intro
       (And.intro
        (And.intro
         (And.intro
          @aPure.eq_12
          @aPure.eq_13)
         (And.intro
          @aPure.eq_14
          (And.intro
           @aPure.eq_15
           @aMk.eq_1)))
        (And.intro
         (And.intro
          @aMk.eq_2
          @aMk.eq_3)
         (And.intro
          @aMk.eq_4
          (And.intro
           @aMk.eq_5
           @aWr.eq_1))))
       (And.intro
        (And.intro
         (And.intro
          @aWr.eq_2
          @binA.eq_1)
         (And.intro
          @binA.eq_2
          (And.intro
           @binA.eq_3
           @binA.eq_4)))
        (And.intro
         (And.intro
          @unA.eq_1
          @unA.eq_3)
         (And.intro
          @loadA.eq_1
          (And.intro
           @loadA.eq_2
           @pickA.eq_1)))))))
    (And.intro
     (And.intro
      (And.intro
       (And.intro
        (And.intro
         (And.intro
          @pickA.eq_2
          @takeA.eq_1)
         (And.intro
          @takeA.eq_2
          @fillA.eq_1))
        (And.intro
         (And.intro
          @fillA.eq_2
          @partsA.eq_1)
         (And.intro
          @partsA.eq_2
          (And.intro
           @spliceA.eq_1
           @srcA.eq_1))))
       (And.intro
        (And.intro
         (And.intro
          @srcA.eq_2
          @srcA.eq_3)
         (And.intro
          @zrow.eq_1
          (And.intro
           @zrow.eq_2
           @ofV1.eq_1)))
        (And.intro
         (And.intro
          @ofV1.eq_2
          @ofV1.eq_3)
         (And.intro
          @ofV1.eq_4
          (And.intro
           @eqL.eq_1
           @eqL.eq_2)))))
      (And.intro
       (And.intro
        (And.intro
         (And.intro
          @aggA.eq_1
          @immB.eq_1)
         (And.intro
          @resA.eq_1
          (And.intro
           @resA.eq_2
           @resA.eq_3)))
        (And.intro
         (And.intro
          @one3.eq_1
          @endR.eq_1)
         (And.intro
          @pass3.eq_1
          (And.intro
           @frzW.eq_1
           @frzW.eq_2))))
       (And.intro
        (And.intro
         (And.intro
          @frzO.eq_1
          @frzV.eq_1)
         (And.intro
          @frzR.eq_1
          (And.intro
           @BRx_eq
           @FZ_x)))
        (And.intro
         (And.intro
          @intA.eq_1
          @intA.eq_2)
         (And.intro
          @intA.eq_3
          (And.intro
           @intA.eq_4
           @intA.eq_5))))))
     (And.intro
      (And.intro
       (And.intro
        (And.intro
         (And.intro
          @intA.eq_6
          @intA.eq_7)
         (And.intro
          @intA.eq_8
          (And.intro
           @intA.eq_9
           @intA.eq_10)))
        (And.intro
         (And.intro
          @intA.eq_11
          @intA.eq_12)
         (And.intro
          @intA.eq_13
          (And.intro
           @intA.eq_14
           @intA.eq_15))))
       (And.intro
        (And.intro
         (And.intro
          @intA.eq_16
          @intA.eq_17)
         (And.intro
          (fun (k : IntKind) (n : Int) => @id (ofV (.int k n : Value) = ofV1 (.int k n)) rfl)
          (And.intro
           (fun (b : Bool) => @id (ofV (.bool b : Value) = ofV1 (.bool b)) rfl)
           (fun (s : ByteArray) => @id (ofV (.string s : Value) = ofV1 (.string s)) rfl))))
        (And.intro
         (And.intro
          (@id (ofV (.slice none 0 0 : Value) = ofV1 (.slice none 0 0)) rfl)
          (fun (v u : AV) (l : List AV) => @id (one3 (v :: u :: l) = .tup (v :: u :: l)) rfl))
         (And.intro
          @List.drop_zero.{0}
          (And.intro
           @List.drop_succ_cons.{0}
           @List.take_zero.{0})))))
      (And.intro
       (And.intro
        (And.intro
         (And.intro
          @List.take_succ_cons.{0}
          @List.drop_nil.{0})
         (And.intro
          @List.take_nil.{0}
          (And.intro
           @List.map_cons.{0,0}
           @List.map_nil.{0,0})))
        (And.intro
         (And.intro
          @List.all_cons.{0}
          @List.all_nil.{0})
         (And.intro
          @List.length_cons.{0}
          (And.intro
           @List.length_nil.{0}
           @List.cons_append.{0}))))
       (And.intro
        (And.intro
         (And.intro
          @List.nil_append.{0}
          @List.append_nil.{0})
         (And.intro
          @List.append_assoc.{0}
          (And.intro
           @List.length_append.{0}
           @List.getElem?_toArray.{0})))
        (And.intro
         (And.intro
          @List.getElem?_cons_zero.{0}
          @List.getElem?_cons_succ.{0})
         (And.intro
          @List.getElem?_nil.{0}
          (And.intro
           @Option.bind_some.{0,0}
           @Bool.and_true))))))))
   (And.intro
    (And.intro
     (And.intro
      (And.intro
       (And.intro
        (And.intro
         (And.intro
          @Bool.true_and
          @Bool.and_self)
         (And.intro
          @Bool.and_false
          @Bool.false_and))
        (And.intro
         (And.intro
          @and_self
          @and_true)
         (And.intro
          @true_and
          (And.intro
           @if_true.{1}
           @if_false.{1}))))
       (And.intro
        (And.intro
         (And.intro
          @ite_true.{1}
          @ite_false.{1})
         (And.intro
          @Bool.false_eq_true
          (And.intro
           @List.contains_cons.{0}
           @List.contains_nil.{0})))
        (And.intro
         (And.intro
          @Bool.or_false
          @Bool.false_or)
         (And.intro
          @Bool.or_self
          (And.intro
           @Bool.or_true
           @Bool.true_or)))))
      (And.intro
       (And.intro
        (And.intro
         (And.intro
          @Nat.zero_add
          @Nat.add_zero)
         (And.intro
          @Nat.zero_mul
          (And.intro
           @Nat.not_lt_zero
           @eq_self.{1})))
        (And.intro
         (And.intro
          @not_false_eq_true
          @not_true_eq_false)
         (And.intro
          @Bool.not_true
          (And.intro
           @Bool.not_false
           @ne_eq.{1}))))
       (And.intro
        (And.intro
         (And.intro
          @Option.some.injEq.{0}
          @List.length_map.{0,0})
         (And.intro
          @List.length_set.{0}
          (And.intro
           @List.length_replicate.{0}
           @encL_nil)))
        (And.intro
         (And.intro
          @encL_cons
          @encL_app)
         (And.intro
          (fun (f : Nat → Nat) (k : IntKind) (n : Int) => @id (ren1 f (.int k n : AV) = (.int k n : AV)) rfl)
          (And.intro
           (fun (f : Nat → Nat) (k : IntKind) (n : Int) => @id (ren2 f (.int k n : AV) = ren1 f (.int k n : AV)) rfl)
           (fun (f : Nat → Nat) (k : IntKind) (n : Int) => @id (ren3 f (.int k n : AV) = ren2 f (.int k n : AV)) rfl)))))))
     (And.intro
      (And.intro
       (And.intro
        (And.intro
         (And.intro
          (fun (ι : List Nat) (rows : Nat → Option Row) (k : IntKind) (n : Int) => @id (pass1 ι rows (.int k n : AV) = (.int k n : AV)) rfl)
          (fun (ι : List Nat) (rows : Nat → Option Row) (k : IntKind) (n : Int) => @id (pass2 ι rows (.int k n : AV) = pass1 ι rows (.int k n : AV)) rfl))
         (And.intro
          (fun (ids : List Nat) (k : IntKind) (n : Int) => @id (pass3 ids (.int k n : AV) = pass2 ids (fun _ => none) (.int k n : AV)) rfl)
          (fun (k : IntKind) (n : Int) => @id (AV.cells (.int k n : AV) = [(.int k n : AV)]) rfl)))
        (And.intro
         (And.intro
          (fun (k : IntKind) (n : Int) => @id (AV.one (.int k n : AV) = true) rfl)
          (fun (k : IntKind) (n : Int) => @id (AV.pl (.int k n : AV) = true) rfl))
         (And.intro
          (fun (f : Nat → Nat) (b : Bool) => @id (ren1 f (.bool b : AV) = (.bool b : AV)) rfl)
          (And.intro
           (fun (f : Nat → Nat) (b : Bool) => @id (ren2 f (.bool b : AV) = ren1 f (.bool b : AV)) rfl)
           (fun (f : Nat → Nat) (b : Bool) => @id (ren3 f (.bool b : AV) = ren2 f (.bool b : AV)) rfl)))))
       (And.intro
        (And.intro
         (And.intro
          (fun (ι : List Nat) (rows : Nat → Option Row) (b : Bool) => @id (pass1 ι rows (.bool b : AV) = (.bool b : AV)) rfl)
          (fun (ι : List Nat) (rows : Nat → Option Row) (b : Bool) => @id (pass2 ι rows (.bool b : AV) = pass1 ι rows (.bool b : AV)) rfl))
         (And.intro
          (fun (ids : List Nat) (b : Bool) => @id (pass3 ids (.bool b : AV) = pass2 ids (fun _ => none) (.bool b : AV)) rfl)
          (And.intro
           (fun (b : Bool) => @id (AV.cells (.bool b : AV) = [(.bool b : AV)]) rfl)
           (fun (b : Bool) => @id (AV.one (.bool b : AV) = true) rfl))))
        (And.intro
         (And.intro
          (fun (b : Bool) => @id (AV.pl (.bool b : AV) = true) rfl)
          (fun (f : Nat → Nat) (s : ByteArray) => @id (ren1 f (.str s : AV) = (.str s : AV)) rfl))
         (And.intro
          (fun (f : Nat → Nat) (s : ByteArray) => @id (ren2 f (.str s : AV) = ren1 f (.str s : AV)) rfl)
          (And.intro
           (fun (f : Nat → Nat) (s : ByteArray) => @id (ren3 f (.str s : AV) = ren2 f (.str s : AV)) rfl)
           (fun (ι : List Nat) (rows : Nat → Option Row) (s : ByteArray) => @id (pass1 ι rows (.str s : AV) = (.str s : AV)) rfl))))))
      (And.intro
       (And.intro
        (And.intro
         (And.intro
          (fun (ι : List Nat) (rows : Nat → Option Row) (s : ByteArray) => @id (pass2 ι rows (.str s : AV) = pass1 ι rows (.str s : AV)) rfl)
          (fun (ids : List Nat) (s : ByteArray) => @id (pass3 ids (.str s : AV) = pass2 ids (fun _ => none) (.str s : AV)) rfl))
         (And.intro
          (fun (s : ByteArray) => @id (AV.cells (.str s : AV) = [(.str s : AV)]) rfl)
          (And.intro
           (fun (s : ByteArray) => @id (AV.one (.str s : AV) = true) rfl)
           (fun (s : ByteArray) => @id (AV.pl (.str s : AV) = true) rfl))))
        (And.intro
         (And.intro
          (fun (f : Nat → Nat) (cs : List AV) => @id (ren1 f (.agg cs : AV) = .top) rfl)
          (fun (f : Nat → Nat) (cs : List AV) => @id (ren2 f (.agg cs : AV) = .agg (cs.map (ren1 f))) rfl))
         (And.intro
          (fun (f : Nat → Nat) (cs : List AV) => @id (ren3 f (.agg cs : AV) = ren2 f (.agg cs : AV)) rfl)
          (And.intro
           (fun (ι : List Nat) (rows : Nat → Option Row) (cs : List AV) => @id (pass1 ι rows (.agg cs : AV) = .top) rfl)
           (fun (ι : List Nat) (rows : Nat → Option Row) (cs : List AV) => @id (pass2 ι rows (.agg cs : AV) = .agg (cs.map (pass1 ι rows))) rfl)))))
       (And.intro
        (And.intro
         (And.intro
          (fun (ids : List Nat) (cs : List AV) => @id (pass3 ids (.agg cs : AV) = pass2 ids (fun _ => none) (.agg cs : AV)) rfl)
          (fun (cs : List AV) => @id (AV.cells (.agg cs : AV) = cs) rfl))
         (And.intro
          (fun (cs : List AV) => @id (AV.one (.agg cs : AV) = false) rfl)
          (And.intro
           (fun (cs : List AV) => @id (AV.pl (.agg cs : AV) = false) rfl)
           (fun (f : Nat → Nat) (cs : List AV) => @id (ren1 f (.tup cs : AV) = .top) rfl))))
        (And.intro
         (And.intro
          (fun (f : Nat → Nat) (cs : List AV) => @id (ren2 f (.tup cs : AV) = .top) rfl)
          (fun (f : Nat → Nat) (cs : List AV) => @id (ren3 f (.tup cs : AV) = .tup (cs.map (ren2 f))) rfl))
         (And.intro
          (fun (ι : List Nat) (rows : Nat → Option Row) (cs : List AV) => @id (pass1 ι rows (.tup cs : AV) = .top) rfl)
          (And.intro
           (fun (ι : List Nat) (rows : Nat → Option Row) (cs : List AV) => @id (pass2 ι rows (.tup cs : AV) = .top) rfl)
           (fun (ids : List Nat) (cs : List AV) => @id (pass3 ids (.tup cs : AV) = .tup (cs.map (pass2 ids fun _ => none))) rfl))))))))
    (And.intro
     (And.intro
      (And.intro
       (And.intro
        (And.intro
         (And.intro
          (fun (cs : List AV) => @id (AV.cells (.tup cs : AV) = [(.tup cs : AV)]) rfl)
          (fun (cs : List AV) => @id (AV.one (.tup cs : AV) = false) rfl))
         (And.intro
          (fun (cs : List AV) => @id (AV.pl (.tup cs : AV) = false) rfl)
          (fun (f : Nat → Nat)  => @id (ren1 f (.nil : AV) = (.nil : AV)) rfl)))
        (And.intro
         (And.intro
          (fun (f : Nat → Nat)  => @id (ren2 f (.nil : AV) = ren1 f (.nil : AV)) rfl)
          (fun (f : Nat → Nat)  => @id (ren3 f (.nil : AV) = ren2 f (.nil : AV)) rfl))
         (And.intro
          (fun (ι : List Nat) (rows : Nat → Option Row)  => @id (pass1 ι rows (.nil : AV) = (.nil : AV)) rfl)
          (And.intro
           (fun (ι : List Nat) (rows : Nat → Option Row)  => @id (pass2 ι rows (.nil : AV) = pass1 ι rows (.nil : AV)) rfl)
           (fun (ids : List Nat)  => @id (pass3 ids (.nil : AV) = pass2 ids (fun _ => none) (.nil : AV)) rfl)))))
       (And.intro
        (And.intro
         (And.intro
          (@id (AV.cells (.nil : AV) = [(.nil : AV)]) rfl)
          (@id (AV.one (.nil : AV) = true) rfl))
         (And.intro
          (@id (AV.pl (.nil : AV) = true) rfl)
          (And.intro
           (fun (f : Nat → Nat) (cs : List AV) (n : Nat) => @id (ren1 f (.sl cs n : AV) = (.sl cs n : AV)) rfl)
           (fun (f : Nat → Nat) (cs : List AV) (n : Nat) => @id (ren2 f (.sl cs n : AV) = ren1 f (.sl cs n : AV)) rfl))))
        (And.intro
         (And.intro
          (fun (f : Nat → Nat) (cs : List AV) (n : Nat) => @id (ren3 f (.sl cs n : AV) = ren2 f (.sl cs n : AV)) rfl)
          (fun (ι : List Nat) (rows : Nat → Option Row) (cs : List AV) (n : Nat) => @id (pass1 ι rows (.sl cs n : AV) = (.sl cs n : AV)) rfl))
         (And.intro
          (fun (ι : List Nat) (rows : Nat → Option Row) (cs : List AV) (n : Nat) => @id (pass2 ι rows (.sl cs n : AV) = pass1 ι rows (.sl cs n : AV)) rfl)
          (And.intro
           (fun (ids : List Nat) (cs : List AV) (n : Nat) => @id (pass3 ids (.sl cs n : AV) = pass2 ids (fun _ => none) (.sl cs n : AV)) rfl)
           (fun (cs : List AV) (n : Nat) => @id (AV.cells (.sl cs n : AV) = [(.sl cs n : AV)]) rfl))))))
      (And.intro
       (And.intro
        (And.intro
         (And.intro
          (fun (cs : List AV) (n : Nat) => @id (AV.one (.sl cs n : AV) = true) rfl)
          (fun (cs : List AV) (n : Nat) => @id (AV.pl (.sl cs n : AV) = true) rfl))
         (And.intro
          (fun (f : Nat → Nat) (s : Nat) (n : Nat) => @id (ren1 f (.own s n : AV) = .own (f s) n) rfl)
          (And.intro
           (fun (f : Nat → Nat) (s : Nat) (n : Nat) => @id (ren2 f (.own s n : AV) = ren1 f (.own s n : AV)) rfl)
           (fun (f : Nat → Nat) (s : Nat) (n : Nat) => @id (ren3 f (.own s n : AV) = ren2 f (.own s n : AV)) rfl))))
        (And.intro
         (And.intro
          @pass1.eq_1
          (fun (ι : List Nat) (rows : Nat → Option Row) (s : Nat) (n : Nat) => @id (pass2 ι rows (.own s n : AV) = pass1 ι rows (.own s n : AV)) rfl))
         (And.intro
          (fun (ids : List Nat) (s : Nat) (n : Nat) => @id (pass3 ids (.own s n : AV) = pass2 ids (fun _ => none) (.own s n : AV)) rfl)
          (And.intro
           (fun (s : Nat) (n : Nat) => @id (AV.cells (.own s n : AV) = [(.own s n : AV)]) rfl)
           (fun (s : Nat) (n : Nat) => @id (AV.one (.own s n : AV) = true) rfl)))))
       (And.intro
        (And.intro
         (And.intro
          (fun (s : Nat) (n : Nat) => @id (AV.pl (.own s n : AV) = false) rfl)
          (fun (f : Nat → Nat) (s : Nat) (o : Nat) => @id (ren1 f (.ptr s o : AV) = .ptr (f s) o) rfl))
         (And.intro
          (fun (f : Nat → Nat) (s : Nat) (o : Nat) => @id (ren2 f (.ptr s o : AV) = ren1 f (.ptr s o : AV)) rfl)
          (And.intro
           (fun (f : Nat → Nat) (s : Nat) (o : Nat) => @id (ren3 f (.ptr s o : AV) = ren2 f (.ptr s o : AV)) rfl)
           @pass1.eq_2)))
        (And.intro
         (And.intro
          (fun (ι : List Nat) (rows : Nat → Option Row) (s : Nat) (o : Nat) => @id (pass2 ι rows (.ptr s o : AV) = pass1 ι rows (.ptr s o : AV)) rfl)
          (fun (ids : List Nat) (s : Nat) (o : Nat) => @id (pass3 ids (.ptr s o : AV) = pass2 ids (fun _ => none) (.ptr s o : AV)) rfl))
         (And.intro
          (fun (s : Nat) (o : Nat) => @id (AV.cells (.ptr s o : AV) = [(.ptr s o : AV)]) rfl)
          (And.intro
           (fun (s : Nat) (o : Nat) => @id (AV.one (.ptr s o : AV) = true) rfl)
           (fun (s : Nat) (o : Nat) => @id (AV.pl (.ptr s o : AV) = false) rfl)))))))
     (And.intro
      (And.intro
       (And.intro
        (And.intro
         (And.intro
          (fun (f : Nat → Nat) (cs : List AV) => @id (ren1 f (.eptr cs : AV) = (.eptr cs : AV)) rfl)
          (fun (f : Nat → Nat) (cs : List AV) => @id (ren2 f (.eptr cs : AV) = ren1 f (.eptr cs : AV)) rfl))
         (And.intro
          (fun (f : Nat → Nat) (cs : List AV) => @id (ren3 f (.eptr cs : AV) = ren2 f (.eptr cs : AV)) rfl)
          (And.intro
           (fun (ι : List Nat) (rows : Nat → Option Row) (cs : List AV) => @id (pass1 ι rows (.eptr cs : AV) = (.eptr cs : AV)) rfl)
           (fun (ι : List Nat) (rows : Nat → Option Row) (cs : List AV) => @id (pass2 ι rows (.eptr cs : AV) = pass1 ι rows (.eptr cs : AV)) rfl))))
        (And.intro
         (And.intro
          (fun (ids : List Nat) (cs : List AV) => @id (pass3 ids (.eptr cs : AV) = pass2 ids (fun _ => none) (.eptr cs : AV)) rfl)
          (fun (cs : List AV) => @id (AV.cells (.eptr cs : AV) = [(.eptr cs : AV)]) rfl))
         (And.intro
          (fun (cs : List AV) => @id (AV.one (.eptr cs : AV) = true) rfl)
          (And.intro
           (fun (cs : List AV) => @id (AV.pl (.eptr cs : AV) = true) rfl)
           (fun (f : Nat → Nat)  => @id (ren1 f (.top : AV) = (.top : AV)) rfl)))))
       (And.intro
        (And.intro
         (And.intro
          (fun (f : Nat → Nat)  => @id (ren2 f (.top : AV) = ren1 f (.top : AV)) rfl)
          (fun (f : Nat → Nat)  => @id (ren3 f (.top : AV) = ren2 f (.top : AV)) rfl))
         (And.intro
          (fun (ι : List Nat) (rows : Nat → Option Row)  => @id (pass1 ι rows (.top : AV) = (.top : AV)) rfl)
          (And.intro
           (fun (ι : List Nat) (rows : Nat → Option Row)  => @id (pass2 ι rows (.top : AV) = pass1 ι rows (.top : AV)) rfl)
           (fun (ids : List Nat)  => @id (pass3 ids (.top : AV) = pass2 ids (fun _ => none) (.top : AV)) rfl))))
        (And.intro
         (And.intro
          (@id (AV.cells (.top : AV) = [(.top : AV)]) rfl)
          (@id (AV.one (.top : AV) = false) rfl))
         (And.intro
          (@id (AV.pl (.top : AV) = true) rfl)
          (And.intro
           @Row.ren.eq_1
           @mId.eq_1)))))
      (And.intro
       (And.intro
        (And.intro
         (And.intro
          @addRows.eq_1
          @addRows.eq_2)
         (And.intro
          @setRowsI.eq_1
          (And.intro
           @findI.eq_1
           @findI.eq_2)))
        (And.intro
         (And.intro
          @rowsOf.eq_1
          @rowsAfter.eq_1)
         (And.intro
          @evL.eq_1
          (And.intro
           @evL.eq_2
           @mkT.eq_1))))
       (And.intro
        (And.intro
         (And.intro
          @mkT.eq_2
          @mkR.eq_1)
         (And.intro
          @mkR.eq_2
          (And.intro
           @tmps0.eq_1
           @tmps0.eq_2)))
        (And.intro
         (And.intro
          @st0.eq_1
          (fun (f : Nat → Nat) (E sz : Nat) (cs : List AV) => @id (Row.ren f (.row E sz cs) = .row E sz cs) rfl))
         (And.intro
          (fun (f : Nat → Nat) => @id (Row.ren f .gone = .gone) rfl)
          (And.intro
           (fun (rows : Nat → Option Row) (l : List Row) => @id (setRowsI rows [] l = rows) rfl)
           @passRow.eq_1)))))))))
def AL :=
  (And.intro
   (And.intro
    (And.intro
     (And.intro
      (And.intro
       (And.intro
        (fun (g : GMap) (F : Nat → Option Row) (k : IntKind) (n : Int) => @id (cv1 g F (.int k n : AV) .top = True) rfl)
        (And.intro
         (fun (g : GMap) (F : Nat → Option Row) (k : IntKind) (n : Int) (x : AV) => @id (cvV g F (.int k n : AV) x = cv1 g F (.int k n : AV) x) rfl)
         (fun (g : GMap) (F : Nat → Option Row) (k : IntKind) (n : Int) (x : AV) => @id (cvW g F (.int k n : AV) x = cvV g F (.int k n : AV) x) rfl)))
       (And.intro
        (And.intro
         (fun (g : GMap) (F : Nat → Option Row) (b : Bool) => @id (cv1 g F (.bool b : AV) .top = True) rfl)
         (fun (g : GMap) (F : Nat → Option Row) (b : Bool) (x : AV) => @id (cvV g F (.bool b : AV) x = cv1 g F (.bool b : AV) x) rfl))
        (And.intro
         (fun (g : GMap) (F : Nat → Option Row) (b : Bool) (x : AV) => @id (cvW g F (.bool b : AV) x = cvV g F (.bool b : AV) x) rfl)
         (fun (g : GMap) (F : Nat → Option Row) (s : ByteArray) => @id (cv1 g F (.str s : AV) .top = True) rfl))))
      (And.intro
       (And.intro
        (fun (g : GMap) (F : Nat → Option Row) (s : ByteArray) (x : AV) => @id (cvV g F (.str s : AV) x = cv1 g F (.str s : AV) x) rfl)
        (And.intro
         (fun (g : GMap) (F : Nat → Option Row) (s : ByteArray) (x : AV) => @id (cvW g F (.str s : AV) x = cvV g F (.str s : AV) x) rfl)
         (fun (g : GMap) (F : Nat → Option Row) (cs : List AV) => @id (cv1 g F (.agg cs : AV) .top = True) rfl)))
       (And.intro
        (And.intro
         (fun (g : GMap) (F : Nat → Option Row) (cs : List AV) (x : AV) => @id (cvW g F (.agg cs : AV) x = cvV g F (.agg cs : AV) x) rfl)
         (fun (g : GMap) (F : Nat → Option Row) (cs : List AV) => @id (cv1 g F (.tup cs : AV) .top = True) rfl))
        (And.intro
         (fun (g : GMap) (F : Nat → Option Row) (cs : List AV) (x : AV) => @id (cvV g F (.tup cs : AV) x = cv1 g F (.tup cs : AV) x) rfl)
         (fun (g : GMap) (F : Nat → Option Row)  => @id (cv1 g F (.nil : AV) .top = True) rfl)))))
     (And.intro
      (And.intro
       (And.intro
        (fun (g : GMap) (F : Nat → Option Row)  (x : AV) => @id (cvV g F (.nil : AV) x = cv1 g F (.nil : AV) x) rfl)
        (And.intro
         (fun (g : GMap) (F : Nat → Option Row)  (x : AV) => @id (cvW g F (.nil : AV) x = cvV g F (.nil : AV) x) rfl)
         (fun (g : GMap) (F : Nat → Option Row) (cs : List AV) (n : Nat) => @id (cv1 g F (.sl cs n : AV) .top = True) rfl)))
       (And.intro
        (And.intro
         (fun (g : GMap) (F : Nat → Option Row) (cs : List AV) (n : Nat) (x : AV) => @id (cvV g F (.sl cs n : AV) x = cv1 g F (.sl cs n : AV) x) rfl)
         (fun (g : GMap) (F : Nat → Option Row) (cs : List AV) (n : Nat) (x : AV) => @id (cvW g F (.sl cs n : AV) x = cvV g F (.sl cs n : AV) x) rfl))
        (And.intro
         (fun (g : GMap) (F : Nat → Option Row) (s : Nat) (n : Nat) => @id (cv1 g F (.own s n : AV) .top = True) rfl)
         (fun (g : GMap) (F : Nat → Option Row) (s : Nat) (n : Nat) (x : AV) => @id (cvV g F (.own s n : AV) x = cv1 g F (.own s n : AV) x) rfl))))
      (And.intro
       (And.intro
        (And.intro
         (fun (g : GMap) (F : Nat → Option Row) (s : Nat) (n : Nat) (x : AV) => @id (cvW g F (.own s n : AV) x = cvV g F (.own s n : AV) x) rfl)
         (fun (g : GMap) (F : Nat → Option Row) (s : Nat) (o : Nat) => @id (cv1 g F (.ptr s o : AV) .top = True) rfl))
        (And.intro
         (fun (g : GMap) (F : Nat → Option Row) (s : Nat) (o : Nat) (x : AV) => @id (cvV g F (.ptr s o : AV) x = cv1 g F (.ptr s o : AV) x) rfl)
         (fun (g : GMap) (F : Nat → Option Row) (s : Nat) (o : Nat) (x : AV) => @id (cvW g F (.ptr s o : AV) x = cvV g F (.ptr s o : AV) x) rfl)))
       (And.intro
        (And.intro
         (fun (g : GMap) (F : Nat → Option Row) (cs : List AV) => @id (cv1 g F (.eptr cs : AV) .top = True) rfl)
         (fun (g : GMap) (F : Nat → Option Row) (cs : List AV) (x : AV) => @id (cvV g F (.eptr cs : AV) x = cv1 g F (.eptr cs : AV) x) rfl))
        (And.intro
         (fun (g : GMap) (F : Nat → Option Row) (cs : List AV) (x : AV) => @id (cvW g F (.eptr cs : AV) x = cvV g F (.eptr cs : AV) x) rfl)
         (fun (g : GMap) (F : Nat → Option Row)  => @id (cv1 g F .top .top = True) rfl))))))
    (And.intro
     (And.intro
      (And.intro
       (And.intro
        (fun (g : GMap) (F : Nat → Option Row)  (x : AV) => @id (cvV g F (.top : AV) x = cv1 g F (.top : AV) x) rfl)
        (And.intro
         (fun (g : GMap) (F : Nat → Option Row)  (x : AV) => @id (cvW g F (.top : AV) x = cvV g F (.top : AV) x) rfl)
         (fun (g : GMap) (F : Nat → Option Row) (cs cs2 : List AV) => @id (cvV g F (.agg cs) (.agg cs2) = cvL g F cs cs2) rfl)))
       (And.intro
        (And.intro
         (fun (g : GMap) (F : Nat → Option Row) (cs : List AV) => @id (cvV g F (.agg cs) .top = True) rfl)
         (fun (g : GMap) (F : Nat → Option Row) (cs cs2 : List AV) => @id (cvW g F (.tup cs) (.tup cs2) = cvT g F cs cs2) rfl))
        (And.intro
         (fun (g : GMap) (F : Nat → Option Row) (cs : List AV) => @id (cvW g F (.tup cs) .top = True) rfl)
         @cvT.eq_1)))
      (And.intro
       (And.intro
        @cvT.eq_2
        (And.intro
         @enumR.eq_1
         @enumR.eq_2))
       (And.intro
        (And.intro
         (fun (g : GMap) (F : Nat → Option Row) (s n s2 n2 : Nat) => @id (cv1 g F (.own s n) (.own s2 n2) = (g s2 = some (some s) ∧ n = n2)) rfl)
         (fun (g : GMap) (F : Nat → Option Row) (s2 n2 : Nat) => @id (cv1 g F .nil (.own s2 n2) = (g s2 = some none ∧ n2 = 0)) rfl))
        (And.intro
         (fun (g : GMap) (F : Nat → Option Row) (s n s2 n2 : Nat) => @id (cv1 g F (.ptr s n) (.ptr s2 n2) = (g s2 = some (some s) ∧ n = n2)) rfl)
         (fun (g : GMap) (F : Nat → Option Row) (cs cs2 : List AV) (n n2 : Nat) => @id (cv1 g F (.sl cs n) (.sl cs2 n2) = (cs = cs2 ∧ n = n2)) rfl)))))
     (And.intro
      (And.intro
       (And.intro
        (fun (g : GMap) (F : Nat → Option Row) (cs2 : List AV) (n2 : Nat) => @id (cv1 g F .nil (.sl cs2 n2) = (cs2 = [] ∧ n2 = 0)) rfl)
        (And.intro
         (fun (g : GMap) (F : Nat → Option Row) (cs2 : List AV) (s n n2 : Nat) => @id (cv1 g F (.own s n) (.sl cs2 n2) = (fz1 (F s) cs2 ∧ n = n2)) rfl)
         (fun (g : GMap) (F : Nat → Option Row) (k k2 : IntKind) (n n2 : Int) => @id (cv1 g F (.int k n) (.int k2 n2) = (k = k2 ∧ n = n2)) rfl)))
       (And.intro
        (And.intro
         (fun (g : GMap) (F : Nat → Option Row) (b b2 : Bool) => @id (cv1 g F (.bool b) (.bool b2) = (b = b2)) rfl)
         (fun (g : GMap) (F : Nat → Option Row) (b b2 : ByteArray) => @id (cv1 g F (.str b) (.str b2) = (b = b2)) rfl))
        (And.intro
         (fun (g : GMap) (F : Nat → Option Row)  => @id (cv1 g F .nil .nil = True) rfl)
         (fun (g : GMap) (F : Nat → Option Row) (cs cs2 : List AV) => @id (cv1 g F (.eptr cs) (.eptr cs2) = (cs = cs2)) rfl))))
      (And.intro
       (And.intro
        (And.intro
         @cvL.eq_1
         @cvL.eq_2)
        (And.intro
         @cvR.eq_1
         @cvR.eq_2))
       (And.intro
        (And.intro
         @rowR.eq_1
         @rowK.eq_1)
        (And.intro
         @leT.eq_1
         @leT.eq_2))))))
   (And.intro
    (And.intro
     (And.intro
      (And.intro
       (And.intro
        @leR.eq_1
        (And.intro
         @leR.eq_2
         @lk.eq_1))
       (And.intro
        (And.intro
         @lk.eq_2
         @fz1.eq_1)
        (And.intro
         @fzF.eq_1
         (fun (g : GMap) (F : Nat → Option Row) (T : Nat) (cs : List AV) => @id (cvR g F (.box T cs) .gone = True) rfl))))
      (And.intro
       (And.intro
        (fun (g : GMap) (F : Nat → Option Row) (E sz : Nat) (cs : List AV) => @id (cvR g F (.row E sz cs) .gone = True) rfl)
        (And.intro
         (fun (g : GMap) (F : Nat → Option Row)  => @id (cvR g F .gone .gone = True) rfl)
         (fun (g : GMap) (F : Nat → Option Row)  => @id (rowR g F none .gone = True) rfl)))
       (And.intro
        (And.intro
         (fun (g : GMap) (F : Nat → Option Row) (R : Nat → Option Row) (E sz : Nat) (cs : List AV) => @id (rowK g F R (some none) (.row E sz cs) = (cs = [])) rfl)
         (fun (g : GMap) (F : Nat → Option Row) (R : Nat → Option Row) => @id (rowK g F R none .gone = True) rfl))
        (And.intro
         (fun (k : IntKind) (n : Int) => @id (fr1 (.int k n : AV) = True) rfl)
         (fun (k : IntKind) (n : Int) => @id (fr2 (.int k n : AV) = fr1 (.int k n : AV)) rfl)))))
     (And.intro
      (And.intro
       (And.intro
        (fun (k : IntKind) (n : Int) => @id (fr3 (.int k n : AV) = fr2 (.int k n : AV)) rfl)
        (And.intro
         (fun (b : Bool) => @id (fr1 (.bool b : AV) = True) rfl)
         (fun (b : Bool) => @id (fr2 (.bool b : AV) = fr1 (.bool b : AV)) rfl)))
       (And.intro
        (And.intro
         (fun (b : Bool) => @id (fr3 (.bool b : AV) = fr2 (.bool b : AV)) rfl)
         (fun (s : ByteArray) => @id (fr1 (.str s : AV) = True) rfl))
        (And.intro
         (fun (s : ByteArray) => @id (fr2 (.str s : AV) = fr1 (.str s : AV)) rfl)
         (fun (s : ByteArray) => @id (fr3 (.str s : AV) = fr2 (.str s : AV)) rfl))))
      (And.intro
       (And.intro
        (And.intro
         (fun (cs : List AV) => @id (fr1 (.agg cs : AV) = False) rfl)
         (fun (cs : List AV) => @id (fr2 (.agg cs : AV) = frL fr1 cs) rfl))
        (And.intro
         (fun (cs : List AV) => @id (fr3 (.agg cs : AV) = fr2 (.agg cs : AV)) rfl)
         (fun (cs : List AV) => @id (fr1 (.tup cs : AV) = False) rfl)))
       (And.intro
        (And.intro
         (fun (cs : List AV) => @id (fr2 (.tup cs : AV) = fr1 (.tup cs : AV)) rfl)
         (fun (cs : List AV) => @id (fr3 (.tup cs : AV) = frL fr2 cs) rfl))
        (And.intro
         (@id (fr1 (.nil : AV) = True) rfl)
         (@id (fr2 (.nil : AV) = fr1 (.nil : AV)) rfl))))))
    (And.intro
     (And.intro
      (And.intro
       (And.intro
        (@id (fr3 (.nil : AV) = fr2 (.nil : AV)) rfl)
        (And.intro
         (fun (cs : List AV) (n : Nat) => @id (fr1 (.sl cs n : AV) = False) rfl)
         (fun (cs : List AV) (n : Nat) => @id (fr2 (.sl cs n : AV) = fr1 (.sl cs n : AV)) rfl)))
       (And.intro
        (And.intro
         (fun (cs : List AV) (n : Nat) => @id (fr3 (.sl cs n : AV) = fr2 (.sl cs n : AV)) rfl)
         (fun (s : Nat) (n : Nat) => @id (fr1 (.own s n : AV) = True) rfl))
        (And.intro
         (fun (s : Nat) (n : Nat) => @id (fr2 (.own s n : AV) = fr1 (.own s n : AV)) rfl)
         (fun (s : Nat) (n : Nat) => @id (fr3 (.own s n : AV) = fr2 (.own s n : AV)) rfl))))
      (And.intro
       (And.intro
        (fun (s : Nat) (o : Nat) => @id (fr1 (.ptr s o : AV) = True) rfl)
        (And.intro
         (fun (s : Nat) (o : Nat) => @id (fr2 (.ptr s o : AV) = fr1 (.ptr s o : AV)) rfl)
         (fun (s : Nat) (o : Nat) => @id (fr3 (.ptr s o : AV) = fr2 (.ptr s o : AV)) rfl)))
       (And.intro
        (And.intro
         (fun (cs : List AV) => @id (fr1 (.eptr cs : AV) = False) rfl)
         (fun (cs : List AV) => @id (fr2 (.eptr cs : AV) = fr1 (.eptr cs : AV)) rfl))
        (And.intro
         (fun (cs : List AV) => @id (fr3 (.eptr cs : AV) = fr2 (.eptr cs : AV)) rfl)
         (@id (fr1 (.top : AV) = True) rfl)))))
     (And.intro
      (And.intro
       (And.intro
        (@id (fr2 (.top : AV) = fr1 (.top : AV)) rfl)
        (And.intro
         (@id (fr3 (.top : AV) = fr2 (.top : AV)) rfl)
         @frL.eq_1))
       (And.intro
        (And.intro
         @frL.eq_2
         @frR.eq_1)
        (And.intro
         @frR.eq_2
         @frR.eq_3)))
      (And.intro
       (And.intro
        (And.intro
         @frRs.eq_1
         @frRs.eq_2)
        (And.intro
         (fun (s : Nat) => @id (gid s = some (some s)) rfl)
         (fun (s : Nat) => @id (fno s = none) rfl)))
       (And.intro
        (And.intro
         @cvA.eq_1
         @cvA.eq_2)
        (And.intro
         @cvRs.eq_1
         @cvRs.eq_2)))))))
end Go.Proofs.Ytfpfalknddfejaa
