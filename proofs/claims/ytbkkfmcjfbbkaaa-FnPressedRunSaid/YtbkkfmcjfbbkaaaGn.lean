/- Encodings of the program's types; printed. -/
import Derived.Test.YtbkkfmcjfbbkaaaTy
namespace Go.Proofs.Ytbkkfmcjfbbkaaa
open Go.RowKit
set_option maxRecDepth 100000
set_option linter.unusedVariables false
set_option linter.unusedSimpArgs false
set_option linter.defProp false
theorem FM : Try.prog.follows .mixedOrders = true := by kernel_rfl
def EIIII (q : Int × Int × Int × Int) : List AV := [.int .i64 q.1, .int .i64 q.2.1, .int .i64 q.2.2.1, .int .i64 q.2.2.2]
theorem EIIIIl : ∀ q, (EIIII q).length = 4 := fun _ => rfl
theorem EIIIIe (q : Int × Int × Int × Int) : EIIII q = [.int .i64 q.1, .int .i64 q.2.1, .int .i64 q.2.2.1, .int .i64 q.2.2.2] := (rfl)
theorem EIIIIf : ∀ l, (∀ c ∈ encL EIIII l, Free c) = True := free_enc fun q => by simp only [EIIIIe, AL, and_self]
def EI (q : Int) : List AV := [.int .i64 q]
theorem EIl : ∀ q, (EI q).length = 1 := fun _ => rfl
theorem EIe (q : Int) : EI q = [.int .i64 q] := (rfl)
theorem EIf : ∀ l, (∀ c ∈ encL EI l, Free c) = True := free_enc fun q => by simp only [EIe, AL, and_self]
def EB (q : Int) : List AV := [.int .u8 q]
theorem EBl : ∀ q, (EB q).length = 1 := fun _ => rfl
theorem EBe (q : Int) : EB q = [.int .u8 q] := (rfl)
theorem EBf : ∀ l, (∀ c ∈ encL EB l, Free c) = True := free_enc fun q => by simp only [EBe, AL, and_self]
def EILIIIIE (q : Int × List (Int × Int × Int × Int)) : List AV := [.int .i64 q.1, .sl (encL EIIII q.2) q.2.length]
theorem EILIIIIEl : ∀ q, (EILIIIIE q).length = 2 := fun _ => rfl
theorem EILIIIIEe (q : Int × List (Int × Int × Int × Int)) : EILIIIIE q = [.int .i64 q.1, .sl (encL EIIII q.2) q.2.length] := (rfl)
def ELIIIIE (q : List (Int × Int × Int × Int)) : List AV := [.sl (encL EIIII q) q.length]
theorem ELIIIIEl : ∀ q, (ELIIIIE q).length = 1 := fun _ => rfl
theorem ELIIIIEe (q : List (Int × Int × Int × Int)) : ELIIIIE q = [.sl (encL EIIII q) q.length] := (rfl)
def EIIIII (q : Int × Int × Int × Int × Int) : List AV := [.int .i64 q.1, .int .i64 q.2.1, .int .i64 q.2.2.1, .int .i64 q.2.2.2.1, .int .i64 q.2.2.2.2]
theorem EIIIIIl : ∀ q, (EIIIII q).length = 5 := fun _ => rfl
theorem EIIIIIe (q : Int × Int × Int × Int × Int) : EIIIII q = [.int .i64 q.1, .int .i64 q.2.1, .int .i64 q.2.2.1, .int .i64 q.2.2.2.1, .int .i64 q.2.2.2.2] := (rfl)
theorem EIIIIIf : ∀ l, (∀ c ∈ encL EIIIII l, Free c) = True := free_enc fun q => by simp only [EIIIIIe, AL, and_self]
def ELIIIIIE (q : List (Int × Int × Int × Int × Int)) : List AV := [.sl (encL EIIIII q) q.length]
theorem ELIIIIIEl : ∀ q, (ELIIIIIE q).length = 1 := fun _ => rfl
theorem ELIIIIIEe (q : List (Int × Int × Int × Int × Int)) : ELIIIIIE q = [.sl (encL EIIIII q) q.length] := (rfl)
def EIIIIII (q : Int × Int × Int × Int × Int × Int) : List AV := [.int .i64 q.1, .int .i64 q.2.1, .int .i64 q.2.2.1, .int .i64 q.2.2.2.1, .int .i64 q.2.2.2.2.1, .int .i64 q.2.2.2.2.2]
theorem EIIIIIIl : ∀ q, (EIIIIII q).length = 6 := fun _ => rfl
theorem EIIIIIIe (q : Int × Int × Int × Int × Int × Int) : EIIIIII q = [.int .i64 q.1, .int .i64 q.2.1, .int .i64 q.2.2.1, .int .i64 q.2.2.2.1, .int .i64 q.2.2.2.2.1, .int .i64 q.2.2.2.2.2] := (rfl)
theorem EIIIIIIf : ∀ l, (∀ c ∈ encL EIIIIII l, Free c) = True := free_enc fun q => by simp only [EIIIIIIe, AL, and_self]
def EN := (And.intro (And.intro (And.intro @EIIIIe @EIe) (And.intro @EBe @EILIIIIEe)) (And.intro (And.intro @ELIIIIEe @EIIIIIe) (And.intro @ELIIIIIEe @EIIIIIIe)))
def EF := (And.intro (And.intro @EIIIIf @EIf) (And.intro @EBf (And.intro @EIIIIIf @EIIIIIIf)))
theorem lap_n {α : Type} (m : List α) : List.append [] m = m := (rfl)
theorem lap_c {α : Type} (a : α) (l m : List α) : List.append (a :: l) m = a :: List.append l m := (rfl)
def EV := And.intro (And.intro @lap_n @lap_c) (And.intro AE (And.intro TY EN))
abbrev LQ := List (Int × Int × Int × Int)
theorem le_d {n m : Nat} (h : Nat.ble n m = true) : n ≤ m := Nat.le_of_ble_eq_true h
theorem no_j {n : Nat} {p : Nat → Prop} (h : Nat.ble n 0 = true) : ∀ j, j < n → p j := fun j hj => absurd (Nat.lt_of_lt_of_le hj (Nat.le_of_ble_eq_true h)) (Nat.not_lt_zero _)
section
variable {C : Ctx} {Q : Exit → St → Prop} {T : Nat → AV} {R : Nat → Option Row} {b n : Nat} {ops : List Oper} {st : St}
theorem AR {id : Nat} {draw : Bool} {y : Code} (hC : C.N = n) (h : ∀ K : St → Prop, (∀ T' R' b', AW Try.prog C y (St.mk T' R' (b + 1024)) Q → K (St.mk T' R' b')) → aRun Try.prog BR ops b 0 ops (St.mk T R b) K) (hN : dstB n ops.toArray = true := by kernel_rfl) (hB : (!draw || regB BR ops.toArray) = true := by kernel_rfl) :
    AW Try.prog C (.seq (.region id ops.toArray draw) y) (St.mk T R b) Q := AW_rs (BR := BR) FM (by rw [hC]; exact hN) hB h
theorem AS {id : Nat} {draw : Bool} (hC : C.N = n) (h : ∀ K : St → Prop, (∀ T' R' b', Q .normal (St.mk T' R' (b + 1024)) → K (St.mk T' R' b')) → aRun Try.prog BR ops b 0 ops (St.mk T R b) K) (hN : dstB n ops.toArray = true := by kernel_rfl) (hB : (!draw || regB BR ops.toArray) = true := by kernel_rfl) :
    AW Try.prog C (.region id ops.toArray draw) (St.mk T R b) Q := AW_re (BR := BR) FM (by rw [hC]; exact hN) hB h
theorem AJ {id : Nat} {draw : Bool} {y : Code} (J : St → Prop) (hC : C.N = n) (h : ∀ K : St → Prop, (∀ T' R' b', cutK C J (St.mk T' R' b') → K (St.mk T' R' b')) → aRun Try.prog BR ops b 0 ops (St.mk T R b) K) (h2 : ∀ S, J S → AW Try.prog C y S Q) (hN : dstB n ops.toArray = true := by kernel_rfl) (hB : (!draw || regB BR ops.toArray) = true := by kernel_rfl) :
    AW Try.prog C (.seq (.region id ops.toArray draw) y) (St.mk T R b) Q := AW_rsJ (BR := BR) J FM (by rw [hC]; exact hN) hB h h2
theorem AK {c : Code} (h : AW Try.prog C c st Q) : AW Try.prog C c st Q := h
theorem EQ {k : Nat} {fn : Func} {ret : AV} {mem' : List Row} (ids : List Nat) (h : endR Try.prog st fn.results.toList k ids ret mem') (hnd : nodB ids = true := by kernel_rfl)
    (hk : upB k (fun j => match ids[j]? with | some i => i == j | none => false) = true := by kernel_rfl) : (Exit.ret = .normal ∨ Exit.ret = .ret) ∧ EndA Try.prog fn k ret mem' st := end_q ids (.inr rfl) hnd hk h
theorem AX {k b' : Nat} (lt : List (Nat × AV)) (lr : List (Nat × Row)) (G : List (Nat × Option Nat)) (fz : List Nat) (hρ : ∀ s, k ≤ s → C.ρ0 s = none) (h : Q .ret ⟨mkT lt, mkR lr, b'⟩)
    (hG : gOK k G fz (lr.map fun x => (x.1, x.2.solid)) = true := by kernel_rfl) (hT : leT (lk G) (fzF fz R) T lt := by simp only [AL, EV, seval]) (hR : leR (lk G) (fzF fz R) R lr := by simp only [AL, EV, seval]) : AW Try.prog C .ret ⟨T, R, b⟩ Q :=
  AW_le (Le_can (b' := b') G fz hρ hG hT hR) (AW_ret h)
theorem AC {J : St → Prop} {k b' : Nat} {lt : List (Nat × AV)} {lr : List (Nat × Row)} (hJ : J ⟨mkT lt, mkR lr, b'⟩) (G : List (Nat × Option Nat)) (fz : List Nat) (hρ : ∀ s, k ≤ s → C.ρ0 s = none) (hG : gOK k G fz (lr.map fun x => (x.1, x.2.solid)) = true := by kernel_rfl)
    (hT : leT (lk G) (fzF fz R) T lt := by simp only [AL, EV, seval]) (hR : leR (lk G) (fzF fz R) R lr := by simp only [AL, EV, seval]) : cutK C J ⟨T, R, b⟩ := cutL hJ (Le_can G fz hρ hG hT hR)
theorem CP {BR : Nat → Bool} {i : Nat} {bs : Nat} {l : List Oper} {K : St → Prop} {f : FuncId} {args args' : List AV} {dst : Option Tmp} {ret : AV} {mem' : List Row} (hS : Spec Try.prog f args' [] ret mem')
    (hK : aRun Try.prog BR ops bs (i + 1) l (({ st with rows := addRows st.rows (bs + 16 * i) (mem'.map (Row.ren (mId [] (bs + 16 * i)))) } : St).put dst (ren3 (mId [] (bs + 16 * i)) ret)) K)
    (ha : cvA (args.map (pass2 [] fun _ => none)) args' := by simp only [AL, EV, seval]) (hl : mem'.length ≤ 16 := by exact le_d rfl) (hs : ∀ j, j < mem'.length → st.rows (bs + 16 * i + j) = none := by exact no_j rfl) :
    rC Try.prog BR ops bs i l st K f args dst := rC_p hS ha hl hs hK
end
end Go.Proofs.Ytbkkfmcjfbbkaaa
