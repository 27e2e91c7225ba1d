/- The engine, part 13: the steps as rules of rewriting. Over any program. -/
import Derived.Test.YtfpfalknddfejaaEl
namespace Go.Proofs.Ytfpfalknddfejaa
open Go.RowKit
set_option linter.unusedVariables false
set_option linter.unusedSimpArgs false
section
variable (P : Program) (BR : Nat → Bool) (ops : List Oper) (bs i : Nat) (o : Oper) (l : List Oper) (st : St) (K : St → Prop)
def rV (x : Option AV) : Prop := optK x fun v => aRun P BR ops bs (i + 1) l (st.put o.dst v) K
def rF (x : Option Row) (v : AV) (r : Row) : Prop := x = none ∧ aRun P BR ops bs (i + 1) l (({ st with rows := upd st.rows (bs + 16 * i) (some r) } : St).put o.dst v) K
def rM (x : Option (AV × Option Row)) : Prop := optK x fun v => (match v.2 with | some r => st.rows (bs + 16 * i) = none ∧ aRun P BR ops bs (i + 1) l (({ st with rows := upd st.rows (bs + 16 * i) (some r) } : St).put o.dst v.1) K | none => aRun P BR ops bs (i + 1) l (st.put o.dst v.1) K)
def rW (x : Option (AV × (Nat → Option Row))) : Prop := optK x fun v => aRun P BR ops bs (i + 1) l (({ st with rows := v.2 } : St).put o.dst v.1) K
def rC (f : FuncId) (args : List AV) (dst : Option Tmp) : Prop := callK P f args st (bs + 16 * i) dst fun st' => aRun P BR ops bs (i + 1) l st' K
def rR (f : FuncId) (args : List AV) (dst : Option Tmp) : Prop := refK P f args st (bs + 16 * i) dst fun st' => aRun P BR ops bs (i + 1) l st' K
def rO (c : Nat) : Prop := match c with
  | 0 => rV P BR ops bs i o l st K (aPure P st.ev o.op)
  | 1 => rM P BR ops bs i o l st K (aMk P (FZ BR (bs + 16 * i)) (bs + 16 * i) st.ev st.rows o.op)
  | 2 => match o.op with
    | .call c => match c.callee with
      | .value (.func f) => rC P BR ops bs i l st K f (evL st c.args.toList) o.dst
      | _ => False
    | _ => False
  | 3 => rW P BR ops bs i o l st K (frzW (aWr P (bs + 16 * i) st.ev st.rows o.op) (FZ BR (bs + 16 * i)))
  | 4 => match o.op with
    | .call c => match c.callee with
      | .value (.func f) => rR P BR ops bs i l st K f (evL st c.args.toList) o.dst
      | _ => False
    | _ => False
  | _ => False
def rK (b want : Bool) : Prop := gK b want (rO P BR ops bs i o l st K (cls BR o.op)) (aRun P BR ops bs (i + 1) l (st.put o.dst (.tup [])) K)
def rA (a : AV) (want : Bool) : Prop := match a with
  | .bool b => rK P BR ops bs i o l st K b want
  | .tup [] => aRun P BR ops bs (i + 1) l (st.put o.dst (.tup [])) K
  | _ => False
def rB (t : Option Tmp) (want : Bool) : Prop := match t with
  | some t => rA P BR ops bs i o l st K (st.tmps t) want
  | none => False
def rG (g : Option (Nat × Bool)) : Prop := match g with
  | none => rO P BR ops bs i o l st K (cls BR o.op)
  | some (j, want) => rB P BR ops bs i o l st K ((ops[j]?).bind (·.dst)) want
theorem aRun_nil : aRun P BR ops bs i [] st K = K st := (rfl)
theorem aRun_cons : aRun P BR ops bs i (o :: l) st K = rG P BR ops bs i o l st K o.guard := (rfl)
theorem rG_none : rG P BR ops bs i o l st K none = rO P BR ops bs i o l st K (cls BR o.op) := (rfl)
theorem rG_some (j : Nat) (want : Bool) : rG P BR ops bs i o l st K (some (j, want)) = rB P BR ops bs i o l st K ((ops[j]?).bind (·.dst)) want := (rfl)
theorem rB_some (t : Tmp) (want : Bool) : rB P BR ops bs i o l st K (some t) want = rA P BR ops bs i o l st K (st.tmps t) want := (rfl)
theorem rA_bool (b want : Bool) : rA P BR ops bs i o l st K (.bool b) want = rK P BR ops bs i o l st K b want := (rfl)
theorem rA_off (want : Bool) : rA P BR ops bs i o l st K (.tup []) want = aRun P BR ops bs (i + 1) l (st.put o.dst (.tup [])) K := (rfl)
theorem rK_tt : rK P BR ops bs i o l st K true true = rO P BR ops bs i o l st K (cls BR o.op) := gK_tt _ _
theorem rK_ff : rK P BR ops bs i o l st K false false = rO P BR ops bs i o l st K (cls BR o.op) := gK_ff _ _
theorem rK_tf : rK P BR ops bs i o l st K true false = aRun P BR ops bs (i + 1) l (st.put o.dst (.tup [])) K := gK_tf _ _
theorem rK_ft : rK P BR ops bs i o l st K false true = aRun P BR ops bs (i + 1) l (st.put o.dst (.tup [])) K := gK_ft _ _
theorem rO_0 : rO P BR ops bs i o l st K 0 = rV P BR ops bs i o l st K (aPure P st.ev o.op) := (rfl)
theorem rO_1 : rO P BR ops bs i o l st K 1 = rM P BR ops bs i o l st K (aMk P (FZ BR (bs + 16 * i)) (bs + 16 * i) st.ev st.rows o.op) := (rfl)
theorem rO_3 : rO P BR ops bs i o l st K 3 = rW P BR ops bs i o l st K (frzW (aWr P (bs + 16 * i) st.ev st.rows o.op) (FZ BR (bs + 16 * i))) := (rfl)
theorem rO_2 (d : Option Tmp) (f : FuncId) (args : Array Operand) (tys : Array TypeId) (t : TypeId) (p : String) (af : Array Edge) (g : Option (Nat × Bool)) :
    rO P BR ops bs i ⟨d, .call ⟨.value (.func f), args, tys⟩, t, p, af, g⟩ l st K 2 = rC P BR ops bs i l st K f (evL st args.toList) d := (rfl)
theorem rO_4 (d : Option Tmp) (f : FuncId) (args : Array Operand) (tys : Array TypeId) (t : TypeId) (p : String) (af : Array Edge) (g : Option (Nat × Bool)) :
    rO P BR ops bs i ⟨d, .call ⟨.value (.func f), args, tys⟩, t, p, af, g⟩ l st K 4 = rR P BR ops bs i l st K f (evL st args.toList) d := (rfl)
theorem rV_some (v : AV) : rV P BR ops bs i o l st K (some v) = aRun P BR ops bs (i + 1) l (st.put o.dst v) K := (rfl)
theorem rM_none (v : AV) : rM P BR ops bs i o l st K (some (v, none)) = aRun P BR ops bs (i + 1) l (st.put o.dst v) K := (rfl)
theorem rM_some (v : AV) (r : Row) : rM P BR ops bs i o l st K (some (v, some r)) = rF P BR ops bs i o l st K (st.rows (bs + 16 * i)) v r := (rfl)
theorem rF_none (v : AV) (r : Row) : rF P BR ops bs i o l st K none v r = aRun P BR ops bs (i + 1) l (({ st with rows := upd st.rows (bs + 16 * i) (some r) } : St).put o.dst v) K := by simp [rF]
theorem rW_some (v : AV) (rows : Nat → Option Row) : rW P BR ops bs i o l st K (some (v, rows)) = aRun P BR ops bs (i + 1) l (({ st with rows := rows } : St).put o.dst v) K := (rfl)
end
/-- A region walked with some sites frozen. -/
def BRx (B : Nat → Bool) (l : List Nat) (f : Nat) : Bool := B f || l.contains f
theorem BRx_eq (B : Nat → Bool) (l : List Nat) (f : Nat) : BRx B l f = (B f || l.contains f) := (rfl)
theorem FZ_x (B : Nat → Bool) (l : List Nat) (n : Nat) : FZ (BRx B l) n = (FZ B n || l.contains (1000000 + n)) := (rfl)
theorem St.put_some (T : Nat → AV) (R : Nat → Option Row) (b : Nat) (d : Tmp) (v : AV) : (St.mk T R b).put (some d) v = St.mk (upd T d v) R b := (rfl)
theorem St.put_none (st : St) (v : AV) : st.put none v = st := (rfl)
theorem ev_tmp (T : Nat → AV) (R : Nat → Option Row) (b : Nat) (t : Tmp) : (St.mk T R b).ev (.tmp t) = T t := (rfl)
theorem ev_const (st : St) (v : Value) : st.ev (.const v) = ofV v := (rfl)
section
variable {P : Program} {BR : Nat → Bool} {ops : List Oper} {C : Ctx} {st : St} {Q : Exit → St → Prop}
theorem AW_regK {id : Nat} {draw : Bool} (hm : P.follows .mixedOrders = true) (hN : dstB C.N ops.toArray = true) (hB : (!draw || regB BR ops.toArray) = true)
    (h : ∀ K : St → Prop, (∀ st', Q .normal { st' with bs := st.bs + 16 * ops.length } → K st') → aRun P BR ops st.bs 0 ops st K) : AW P C (.region id ops.toArray draw) st Q :=
  AW_reg hm hN hB (h _ fun _ h => h)
theorem AW_seqK {x y : Code} (h : ∀ K : St → Prop, (∀ st', AW P C y st' Q → K st') → AW P C x st (thenA K Q)) : AW P C (.seq x y) st Q := AW_seq (h _ fun _ h => h)
variable {bs i : Nat} {l : List Oper} {K : St → Prop} {f : FuncId} {args : List AV} {dst : Option Tmp} {ret : AV} {mem' : List Row}
theorem rC_val (hS : Spec P f (args.map (pass2 [] st.rows)) [] ret []) (hf : Free ret) (hK : aRun P BR ops bs (i + 1) l (st.put dst (ren3 (mId [] (bs + 16 * i)) ret)) K) : rC P BR ops bs i l st K f args dst := callK_val hS hf hK
theorem rC_plain (hS : Spec P f (args.map (pass2 [] fun _ => none)) [] ret mem') (hl : mem'.length ≤ 16)
    (hs : ∀ j, j < mem'.length → st.rows (bs + 16 * i + j) = none) (hK : aRun P BR ops bs (i + 1) l (({ st with rows := addRows st.rows (bs + 16 * i) (mem'.map (Row.ren (mId [] (bs + 16 * i)))) } : St).put dst (ren3 (mId [] (bs + 16 * i)) ret)) K) : rC P BR ops bs i l st K f args dst := callK_plain hS hl hs hK
theorem rC_lend (hS : Spec P f (args.map (pass2 [] st.rows)) [] ret mem') (hf : Free ret ∧ ∀ r ∈ mem', ∀ c ∈ r.cells, Free c) (hl : mem'.length ≤ 16)
    (hs : ∀ j, j < mem'.length → st.rows (bs + 16 * i + j) = none) (hK : aRun P BR ops bs (i + 1) l (({ st with rows := addRows st.rows (bs + 16 * i) (mem'.map (Row.ren (mId [] (bs + 16 * i)))) } : St).put dst (ren3 (mId [] (bs + 16 * i)) ret)) K) : rC P BR ops bs i l st K f args dst := callK_lend hS hf hl hs hK
end
end Go.Proofs.Ytfpfalknddfejaa
