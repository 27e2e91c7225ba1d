/- The engine, part 2: what the operations do to abstract values. Over any program. -/
import Derived.Test.YtfpfalknddfejaaEa
namespace Go.Proofs.Ytfpfalknddfejaa
open Go.RowKit
set_option linter.unusedVariables false
set_option linter.unusedSimpArgs false

def ofV1 : Value → AV
  | .int k n => .int k n
  | .bool b => .bool b
  | .string s => .str s
  | .slice none 0 0 => .nil
  | _ => .top
def ofV : Value → AV
  | .agg cs => if cs.all (·.oneCell') then .agg (cs.toList.map ofV1) else .top
  | v => ofV1 v
theorem ofV1_ok (M : Imm) (v : Value) : PV M (ofV1 v) v := by
  unfold ofV1
  split
  · exact .int ..
  · exact .bool ..
  · exact .str ..
  · exact .nil
  · exact .top _
theorem ofV_ok (M : Imm) (v : Value) : PV M (ofV v) v := by
  unfold ofV
  split
  · rename_i cs
    split
    · rename_i h
      refine .agg _ _ (by simp) (fun v hv => ?_) (fun i c v hc hv => ?_)
      · exact Array.all_eq_true_iff_forall_mem.1 h v hv
      · rw [List.getElem?_map] at hc
        have : cs.toList[i]? = some v := by simpa using hv
        rw [this] at hc
        injection hc with hc
        subst hc
        exact ofV1_ok M v
    · exact .top _
  · exact ofV1_ok M v

def St.ev (st : St) : Operand → AV
  | .tmp t => st.tmps t
  | .const v => ofV v
  | _ => .top
def St.put (st : St) (d : Option Tmp) (v : AV) : St := match d with
  | some d => { st with tmps := upd st.tmps d v }
  | none => st

/-- The size of a type in cells, and whether its values are aggregates. -/
def szA (P : Program) (t : TypeId) : Option (Nat × Bool) := match P.info? t, P.underlying t with
  | some i, some d => some (i.size, match d with | .struct _ | .array _ _ => true | _ => false)
  | _, _ => none
def zeroA (P : Program) (t : TypeId) : Option (List AV) := match P.info? t with
  | some i => match i.zero with
    | some v => if v.cells.all (·.oneCell') then some (v.cells.toList.map ofV1) else none
    | none => none
  | none => none
/-- The element type of a slice type and its size. -/
def elA (P : Program) (t : TypeId) : Option (TypeId × Nat) := match P.underlying t with
  | some (.slice e) => match P.info? e with
    | some i => some (e, i.size)
    | none => none
  | _ => none
def fldA (P : Program) (s : TypeId) (f : Nat) : Option (Nat × Nat × Bool) := match P.underlying s with
  | some (.struct fs) => match fs[f]? with
    | some x => match szA P x.type with
      | some (n, b) => if n = 0 then none else some (x.offset, n, b)
      | none => none
    | none => none
  | _ => none

def takeA : Nat → List AV → Option (List AV)
  | 0, _ => some []
  | n + 1, c :: cs => match takeA n cs with
    | some r => some (c :: r)
    | none => none
  | _ + 1, [] => none
def pickA (ag : Bool) (sz : Nat) (cs : List AV) : Option AV := match ag with
  | true => match takeA sz cs with
    | some r => some (.agg r)
    | none => none
  | false => match cs with
    | c :: _ => some c
    | [] => none

def intA (op : BinOp) (k : IntKind) (a : Int) (k' : IntKind) (b : Int) : Option AV := match op with
  | .shl => if b < 0 then none else some (.int k (k.wrap (a * 2 ^ min b.toNat k.bits)))
  | .shr => if b < 0 then none else some (.int k (a.fdiv (2 ^ min b.toNat k.bits)))
  | .add => if k = k' then some (.int k (k.wrap (a + b))) else none
  | .sub => if k = k' then some (.int k (k.wrap (a - b))) else none
  | .mul => if k = k' then some (.int k (k.wrap (a * b))) else none
  | .quo => if k = k' ∧ b ≠ 0 then some (.int k (k.wrap (a.tdiv b))) else none
  | .rem => if k = k' ∧ b ≠ 0 then some (.int k (a.tmod b)) else none
  | .and => if k = k' then some (.int k (bits .and k a b)) else none
  | .or => if k = k' then some (.int k (bits .or k a b)) else none
  | .xor => if k = k' then some (.int k (bits .xor k a b)) else none
  | .andNot => if k = k' then some (.int k (bits .andNot k a b)) else none
  | .eql => if k = k' then some (.bool (a == b)) else none
  | .neq => if k = k' then some (.bool (a != b)) else none
  | .lss => if k = k' then some (.bool (decide (a < b))) else none
  | .leq => if k = k' then some (.bool (decide (a ≤ b))) else none
  | .gtr => if k = k' then some (.bool (decide (b < a))) else none
  | .geq => if k = k' then some (.bool (decide (b ≤ a))) else none
def isBoolT (P : Program) (t : TypeId) : Bool := match P.underlying t with | some .bool => true | _ => false
/-- The number of cells of a type whose '==' compares integer cells one by one. -/
def flatN (P : Program) : Nat → TypeId → Option Nat
  | 0, _ => none
  | d + 1, t => match P.underlying t with
    | some (.int _) => some 1
    | some (.struct fs) => if P.stoodInHeld t = true ∨ P.eqGuardType P.depth t = true then none else
      fs.toList.foldl (fun (acc : Option Nat) f => match acc with
        | some off => if f.name ≠ "_" ∧ f.offset = off then (match flatN P d f.type, szA P f.type with
          | some n, some (m, _) => if n = m then some (off + n) else none
          | _, _ => none) else none
        | none => none) (some 0)
    | _ => none
def eqL : List AV → List AV → Option Bool
  | [], [] => some true
  | .int k a :: cs, .int k' b :: ds => if k = k' then (match eqL cs ds with | some r => some (a == b && r) | none => none) else none
  | _, _ => none
def aggA (op : BinOp) (n : Nat) (cs ds : List AV) : Option AV := if cs.length = n ∧ ds.length = n then (match eqL cs ds with
  | some b => (match op with | .eql => some (.bool b) | .neq => some (.bool !b) | _ => none)
  | none => none) else none
def binA (P : Program) (op : BinOp) (t : TypeId) : AV → AV → Option AV
  | .agg cs, .agg ds => match flatN P 4 t, szA P t with
    | some n, some (m, true) => if n = m then aggA op n cs ds else none
    | _, _ => none
  | .int k a, .int k' b => intA op k a k' b
  | .bool a, .bool b => if isBoolT P t then (match op with | .eql => some (.bool (a == b)) | .neq => some (.bool (a != b)) | _ => none) else none
  | _, _ => none
def unA (op : UnOp) : AV → Option AV
  | .bool b => match op with | .not => some (.bool !b) | _ => none
  | .int k n => match op with | .neg => some (.int k (k.wrap (0 - n))) | _ => none
  | _ => none
def isIntT (P : Program) (t : TypeId) : Option IntKind := match P.underlying t with | some (.int k) => some k | _ => none
def partsA (ρ : Operand → AV) : List (Nat × Operand) → List (Nat × AV)
  | [] => []
  | (i, x) :: l => (i, ρ x) :: partsA ρ l
def AV.one : AV → Bool
  | .agg _ | .tup _ | .top => false
  | _ => true
def AV.cells : AV → List AV
  | .agg cs => cs
  | v => [v]
/-- Parts laid into the cells of a struct. -/
def fillA (place : Nat → Option (Nat × Nat)) : List AV → List (Nat × AV) → Option (List AV)
  | cs, [] => some cs
  | cs, (i, v) :: rest => match place i with
    | some (off, size) => if v.cells.length = size ∧ off + size ≤ cs.length ∧ v.cells.all AV.one = true then fillA place (cs.take off ++ v.cells ++ cs.drop (off + size)) rest else none
    | none => none
def placeA (P : Program) (t : TypeId) (i : Nat) : Option (Nat × Nat) := match fldA P t i with
  | some (off, n, _) => some (off, n)
  | none => none
def isSlT (P : Program) (t : TypeId) : Bool := match P.underlying t with | some (.slice _) => true | _ => false
def isStT (P : Program) (t : TypeId) : Bool := match P.underlying t with | some (.struct fs) => fs.toList.all fun f => (P.info? f.type).isSome | _ => false

def aPure (P : Program) (ρ : Operand → AV) : Op → Option AV
  | .move x => some (ρ x)
  | .assign x => some (ρ x)
  | .pick c a b => match ρ c with
    | .bool t => some (if t then ρ a else ρ b)
    | _ => none
  | .build t ps => if isStT P t then (match zeroA P t with
    | some z => (match fillA (placeA P t) z (partsA ρ ps.toList) with | some r => some (.agg r) | none => none)
    | none => none) else none
  | .binOp op t x y _ => binA P op t (ρ x) (ρ y)
  | .unOp op _ x => unA op (ρ x)
  | .convert s d x => match isIntT P s, isIntT P d, ρ x with
    | some _, some k, .int _ n => some (.int k (k.wrap n))
    | _, _, _ => none
  | .fieldAddr s x f => match fldA P s f, ρ x with
    | some (off, _, _), .ptr r o => some (.ptr r (o + off))
    | some (off, _, _), .eptr cs => some (.eptr (cs.drop off))
    | _, _ => none
  | .field s x f => match fldA P s f, ρ x with
    | some (off, n, b), .agg cs => pickA b n (cs.drop off)
    | _, _ => none
  | .indexAddr t x i => match elA P t, ρ x, ρ i with
    | some (_, sz), .sl cs n, .int _ i => if 0 ≤ i ∧ i < n then some (.eptr (cs.drop (i.toNat * sz))) else none
    | some (_, sz), .own s n, .int _ i => if 0 ≤ i ∧ i < n then some (.ptr s (i.toNat * sz)) else none
    | _, _, _ => none
  | .extract x i => match ρ x with
    | .tup vs => vs[i]?
    | _ => none
  | .nilCheck x => match ρ x with
    | .ptr s o => some (.ptr s o)
    | _ => none
  | .slice t x lo hi none => match elA P t, ρ x with
    | some (_, sz), .sl cs n =>
      match (match hi with | some h => ρ h | none => .int .i64 n), (match lo with | some l => ρ l | none => .int .i64 0) with
      | .int _ h, .int _ l => if 0 ≤ l ∧ l ≤ h ∧ h ≤ n then some (.sl ((cs.drop (l.toNat * sz)).take ((h.toNat - l.toNat) * sz)) (h.toNat - l.toNat)) else none
      | _, _ => none
    | _, _ => none
  | .call c => match c.callee with
    | .builtin .len => match c.argTypes[0]?, c.args[0]? with
      | some t, some x => if isSlT P t then (match ρ x with
        | .sl _ n => some (.int .i64 n)
        | .own _ n => some (.int .i64 n)
        | .nil => some (.int .i64 0)
        | _ => none) else none
      | _, _ => none
    | _ => none
  | _ => none
end Go.Proofs.Ytfpfalknddfejaa
