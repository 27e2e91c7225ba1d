/- Texts joined by a program (short names, no comments): Pxe Pxf Pxg Fs Br By JOu. -/
import Derived.Test.YtbfmljdablopjaaGreatK6
import Derived.WalkKit
import Derived.Lib.Hide
import Derived.Handy
import Derived.Deep.QuietTactic
import Derived.BigQuiet
import Derived.Deep.Slices
import Derived.Deep.Fields
import Derived.Lib.SmallJoins
import Derived.Test.YtbfmljdablopjaaGreatRows
import Derived.ProofKit
import Derived.OpenShut
import Derived.ShutString
import Derived.ChangeOld
namespace Go.Proofs.YtbfmljdablopjaaGreat
open Go.RowKit
set_option maxRecDepth 100000
set_option linter.unusedVariables false
set_option linter.unusedSimpArgs false
set_option linter.defProp false
set_option maxHeartbeats 4000000
abbrev T (α : Type) : α → Prop := fun _ => True
def SW (s : ByteArray) : Prop := s.size ≤ 100
def SL (l : List ByteArray) : Prop := l.length ≤ 10 ∧ ∀ a ∈ l, SW a
theorem lz (l : List ByteArray) (x : ByteArray) (hl : l.length ≤ 40000) : Ok (fA l x) (T Bool) := by
 unfold fA
 have key : ∀ (m i : Nat), i ≤ l.length → l.length - i < m → Ok (i8 l x m (i : Int)) (T Bool) := by
  intro m
  induction m with
  | zero => intro i _ h; omega
  | succ m ih =>
   intro i hi hm
   rw [i8]
   refine Ok.br (fun e => ?_) (fun _ => Ok.some trivial)
   have hil : i < l.length := by have := of_decide_eq_true e; omega
   rw [bB hil, aC, cn hil (by omega)]
   exact Ok.br (fun _ => Ok.some trivial) (fun _ => ih (i + 1) (by omega) (by omega))
 exact key FU 0 (Nat.zero_le _) (by rw [bP]; omega)
theorem tS (l : List ByteArray) (x : ByteArray) (hl : l.length ≤ 40000) : Ok (jv l x) (T Int) := by
 unfold jv
 have key : ∀ (m i : Nat), i ≤ l.length → l.length - i < m → Ok (iA l x m (i : Int)) (T Int) := by
  intro m
  induction m with
  | zero => intro i _ h; omega
  | succ m ih =>
   intro i hi hm
   rw [iA]
   refine Ok.br (fun e => ?_) (fun _ => Ok.some trivial)
   have hil : i < l.length := by have := of_decide_eq_true e; omega
   rw [bB hil, aC, cn hil (by omega)]
   exact Ok.br (fun _ => Ok.some trivial) (fun _ => ih (i + 1) (by omega) (by omega))
 exact key FU 0 (Nat.zero_le _) (by rw [bP]; omega)
theorem A8 (x : Int) : Ok (kM x) (T Bool) := by
 unfold kM jC
 exact (Ok.br (R := T Bool) (fun _ => Ok.some trivial) (fun _ => Ok.some trivial)).bO fun _ _ => (Ok.br (R := T Bool) (fun _ => Ok.some trivial) (fun _ => (Ok.br (R := T Bool) (fun _ => Ok.some trivial) (fun _ => Ok.some trivial)).bO fun _ _ => Ok.some trivial)).bO fun _ _ => Ok.some trivial
theorem Hd {s : ByteArray} (hs : SW s) : Ok (gk s) (T Bool) := by
 have hs : s.size ≤ 100 := hs
 unfold gk
 have key : ∀ (m i : Nat), i ≤ s.size → s.size - i < m → Ok (d5 s m (i : Int)) (T Bool) := by
  intro m
  induction m with
  | zero => intro i _ h; omega
  | succ m ih =>
   intro i hi hm
   rw [d5]
   refine Ok.br (fun e => ?_) (fun _ => ?_)
   ·have hil : i < s.size := by have := of_decide_eq_true e; omega
    refine Ok.gd (decide_eq_true (by omega)) ((A8 _).bO fun x _ => Ok.br (fun _ => Ok.some trivial) (fun _ => ?_))
    rw [cn hil (by omega)]
    exact ih (i + 1) (by omega) (by omega)
   ·unfold gH
    rw [bx]
    exact Ok.some trivial
 exact key FU 0 (Nat.zero_le _) (by rw [bP]; omega)
theorem vX {l : List ByteArray} (h : SL l) : Ok (jd l) (T Bool) := by
 obtain ⟨hl, hw⟩ := h
 unfold jd
 have key : ∀ (m i : Nat), i ≤ l.length → l.length - i < m → Ok (eA l m (i : Int)) (T Bool) := by
  intro m
  induction m with
  | zero => intro i _ h; omega
  | succ m ih =>
   intro i hi hm
   rw [eA]
   refine Ok.br (fun e => ?_) (fun _ => Ok.some trivial)
   have hil : i < l.length := by have := of_decide_eq_true e; omega
   rw [bB hil, aC, cn hil (by omega)]
   exact (Hd (hw _ (List.getElem_mem hil))).bO fun x _ => Ok.br (fun _ => Ok.some trivial) (fun _ => ih (i + 1) (by omega) (by omega))
 exact key FU 0 (Nat.zero_le _) (by rw [bP]; omega)
def ID (k : Nat) : Bool := match i6 (k : Int) with
 | some w => decide (w.size ≤ 100)
 | none => false
theorem Dd : ∀ k : Fin 14, ID k.val = true := by decide +kernel
theorem xg {k : Nat} (h : k ≤ 13) : Ok (i6 (k : Int)) SW := by
 have := Dd ⟨k, by omega⟩
 unfold ID at this
 simp only at this
 cases hq : i6 (k : Int) with
 | none => rw [hq] at this; cases this
 | some w => rw [hq] at this; exact Ok.some (show SW w from of_decide_eq_true (p := w.size ≤ 100) this)
theorem uO (w : ByteArray) : Ok (i7 w) (T Int) := by
 unfold i7
 have key : ∀ (m i : Nat), i ≤ 13 → 13 - i < m → Ok (e9 w m (i : Int)) (T Int) := by
  intro m
  induction m with
  | zero => intro i _ h; omega
  | succ m ih =>
   intro i hi hm
   rw [e9]
   refine Ok.br (fun e => (xg hi).bO fun x _ => Ok.br (fun _ => Ok.some trivial) (fun _ => ?_)) (fun _ => Ok.some trivial)
   have hil : i ≤ 12 := by have := of_decide_eq_true e; omega
   rw [cn (n := 14) (by omega) (by omega)]
   exact ih (i + 1) (by omega) (by omega)
 exact key FU 1 (by omega) (by rw [bP]; omega)
theorem uP {D : Type} (a1 : Int) (a2 : ByteArray) (a3 : List ByteArray) (a4 : Int) (a5 : List D) : Ok (je a1 a2 a3 a4 a5) (fun x => ((a1 = 4 ∨ a1 = 5 ∨ a1 = 7) → x.1 = 1) ∧ (a1 = 6 → x.1 = 2)) := by
 unfold je
 refine Ok.br (fun e => (uO a2).bO fun x _ => ?_) (fun e => ?_)
 ·have e := eq_of_beq e
  rw [wU, aC]
  exact Ok.some ⟨fun h => by omega, fun h => by omega⟩
 ·have j : ∀ v : Bool, (v = true → a1 = 2 ∨ a1 = 3) → Ok (gI a1 v) (fun x => ((a1 = 4 ∨ a1 = 5 ∨ a1 = 7) → x.1 = 1) ∧ (a1 = 6 → x.1 = 2)) := fun v hv => by
   unfold gI
   have j2 : ∀ u : Bool, (u = true → a1 = 4 ∨ a1 = 5 ∨ a1 = 7) → (u = false → a1 ≠ 4 ∧ a1 ≠ 5 ∧ a1 ≠ 7) → Ok (f9 u) (fun x => ((a1 = 4 ∨ a1 = 5 ∨ a1 = 7) → x.1 = 1) ∧ (a1 = 6 → x.1 = 2)) := fun u h1 h2 => by
    unfold f9
    refine Ok.br (fun e => Ok.some ⟨fun _ => rfl, fun h => ?_⟩) (fun e => Ok.some ⟨fun h => ?_, fun _ => rfl⟩)
    ·have := h1 e; omega
    ·have := h2 e; omega
   refine Ok.br (fun e => Ok.some ⟨fun h => ?_, fun h => ?_⟩) (fun e => Ok.br (fun e4 => ?_) (fun e4 => Ok.br (fun e5 => ?_) (fun e5 => ?_)))
   ·have := hv e; omega
   ·have := hv e; omega
   ·rw [e4]; exact j2 true (fun _ => .inl (eq_of_beq e4)) (fun h => by cases h)
   ·rw [e5]; exact j2 true (fun _ => .inr (.inl (eq_of_beq e5))) (fun h => by cases h)
   ·have n4 := beq_eq_false_iff_ne.1 e4
    have n5 := beq_eq_false_iff_ne.1 e5
    exact j2 (a1 == 7) (fun h => .inr (.inr (eq_of_beq h))) (fun h => ⟨n4, n5, beq_eq_false_iff_ne.1 h⟩)
  refine Ok.br (fun e => j _ fun h => .inl (eq_of_beq h)) (fun e => j _ fun h => .inr (eq_of_beq h))
theorem qg (l : List ByteArray) (x : ByteArray) (hl : l.length ≤ 40000) : Ok (fp l x) (fun r => r.length = l.length + 1) := by
 unfold fp
 exact Ok.gd (decide_eq_true (by simp; omega)) (Ok.gd (decide_eq_true (by simp; omega)) (Ok.some (by simp)))
theorem uQ (n h : List ByteArray) (i : Bool) (b : List ByteArray) (x : ByteArray) (hn : n.length ≤ 40000) (hh : h.length ≤ 40000) : Ok (kP n h i b x) (T _) := by
 unfold kP
 exact (lz n x hn).bO fun y _ => Ok.br (fun _ => Ok.some trivial) (fun _ => (lz h x hh).bO fun z _ => Ok.br (fun _ => Ok.some trivial) (fun _ => Ok.some trivial))
theorem wh (a b : Int) : Ok (jG a b) (T Bool) := by
 unfold jG gu gv
 have B : ∀ (c : Bool) (x y : Bool), Ok (br c (some x) (some y)) (T Bool) := fun c x y => Ok.br (fun _ => Ok.some trivial) (fun _ => Ok.some trivial)
 refine Ok.br (fun _ => Ok.some trivial) (fun _ => Ok.br (fun _ => (B _ _ _).bO fun x _ => (B _ _ _).bO fun y _ => Ok.some trivial) (fun _ => ?_))
 exact (Ok.br (R := T Bool) (fun _ => (B _ _ _).bO fun x _ => Ok.some trivial) (fun _ => Ok.some trivial)).bO fun y _ => Ok.some trivial
theorem tT {D : Type} (a1 : Int) (a2 : ByteArray) (a3 : List ByteArray) (a4 : Int) (a5 : List D) (n h : List ByteArray) (i : Bool) (b : List ByteArray) (h3 : a3.length ≤ 10) (hn : n.length ≤ 40000) (hh : h.length ≤ 40000) : Ok (lR a1 a2 a3 a4 a5 n h i b) (T _) := by
 unfold lR
 have key : ∀ (m j : Nat), j ≤ a3.length → a3.length - j < m → Ok (fC a2 a3 n h i b m (j : Int)) (T _) := by
  intro m
  induction m with
  | zero => intro i _ h; omega
  | succ m ih =>
   intro j hj hm
   rw [fC]
   refine Ok.br (fun e => ?_) (fun _ => ?_)
   ·have hil : j < a3.length := by have := of_decide_eq_true e; omega
    rw [bB hil, aC, cn hil (by omega)]
    refine (uQ n h i b _ hn hh).bO fun x _ => Ok.br (fun _ => Ok.some trivial) (fun _ => ?_)
    have hs : slc a3 0 (j : Int) = some (a3.take j) := by
     unfold slc
     rw [if_pos (by omega)]
     simp
    rw [hs, aC]
    exact (lz _ _ (by simp; omega)).bO fun y _ => Ok.br (fun _ => Ok.some trivial) (fun _ => ih (j + 1) (by omega) (by omega))
   ·unfold lJ
    exact (uO a2).bO fun x _ => (wh _ _).bO fun y _ => Ok.br (fun _ => Ok.some trivial) (fun _ => Ok.some trivial)
 exact key FU 0 (Nat.zero_le _) (by rw [bP]; omega)
theorem A9 (l : List OP) (n : Int) (hl : l.length ≤ 2000) : Ok (kR l n) (fun r => r.length ≤ 18000) := by
 unfold kR
 have key : ∀ (m j : Nat) (o : List OP), j ≤ 9 → 9 - j < m → o.length = j * l.length → Ok (dC l n m (j : Int) o) (fun r => r.length ≤ 18000) := by
  intro m
  induction m with
  | zero => intro j o _ h; omega
  | succ m ih =>
   intro j o hj hm ho
   have hb : j * l.length ≤ 9 * 2000 := Nat.mul_le_mul hj hl
   rw [dC]
   refine (Ok.br (R := fun x => x = true → j < 9) (fun _ => Ok.some fun e => by have := of_decide_eq_true e; omega) (fun _ => Ok.some fun e => by cases e)).bO fun x hx => ?_
   unfold jJ jI
   refine Ok.br (fun e => ?_) (fun _ => Ok.some (by omega))
   have h9 := hx e
   rw [cn h9 (by omega)]
   exact Ok.gd (decide_eq_true (by omega)) (ih (j + 1) _ (by omega) (by omega) (by rw [List.length_append, ho, Nat.succ_mul]))
 exact key FU 0 [] (by omega) (by rw [bP]; omega) (by simp)
theorem wj (a b c d : Int) : Ok (gj a b c d) (T _) := by
 unfold gj cU
 exact Ok.br (fun _ => Ok.some trivial) (fun _ => Ok.br (fun _ => Ok.some trivial) (fun _ => Ok.br (fun _ => Ok.some trivial) (fun _ => Ok.br (fun _ => Ok.some trivial) (fun _ => Ok.some trivial))))
theorem wl (l : List OP) (hl : l.length ≤ 2000) : Ok (jK l) (fun r => r.length ≤ 18000) := by
 unfold jK
 have key : ∀ (m j : Nat) (o : List OP), j ≤ l.length → j < m → o.length = l.length - j → Ok (cF l m ((j : Int) - 1) o) (fun r => r.length ≤ 18000) := by
  intro m
  induction m with
  | zero => intro j o _ h; omega
  | succ m ih =>
   intro j o hj hm ho
   rw [cF]
   refine Ok.br (fun e => ?_) (fun _ => Ok.some (by show o.length ≤ 18000; omega))
   have e := of_decide_eq_true e
   obtain ⟨k, rfl⟩ : ∃ k, j = k + 1 := ⟨j - 1, by omega⟩
   have ek : ((k + 1 : Nat) : Int) - 1 = (k : Int) := by omega
   rw [ek, bB (show k < l.length by omega), aC]
   have j3 : ∀ (q : OP) (a b c d : Int), Ok (dh (k : Int) o (cF l m) q a b c d) (fun r => r.length ≤ 18000) := fun q a b c d => by
    unfold dh
    rw [w64 (by omega) (by omega)]
    exact Ok.gd (decide_eq_true (by simp; omega)) (ih k _ (by omega) (by omega) (by simp; omega))
   exact Ok.br (fun _ => (wj _ _ _ _).bO fun x _ => j3 _ _ _ _ _) (fun _ => j3 _ _ _ _ _)
 rw [w64 (by omega) (by omega)]
 exact key FU l.length [] (Nat.le_refl _) (by rw [bP]; omega) (by simp)
theorem La (l : List OP) (c : Int) (hl : l.length ≤ 2000) : Ok (qK l c) (fun r => r.length ≤ 18000) := by
 unfold qK
 have key : ∀ (m j : Nat) (o : List OP), j ≤ l.length → l.length - j < m → o.length = j → Ok (eC l c m (j : Int) o) (fun r => r.length ≤ 18000) := by
  intro m
  induction m with
  | zero => intro j o _ h; omega
  | succ m ih =>
   intro j o hj hm ho
   rw [eC]
   refine Ok.br (fun e => ?_) (fun _ => Ok.some (by show o.length ≤ 18000; omega))
   have hil : j < l.length := by have := of_decide_eq_true e; omega
   rw [bB hil, aC]
   have j4 : ∀ (q : OP) (a : Int), Ok (jf (j : Int) o (eC l c m) q a) (fun r => r.length ≤ 18000) := fun q a => by
    unfold jf
    rw [cn hil (by omega)]
    exact Ok.gd (decide_eq_true (by simp; omega)) (ih (j + 1) _ (by omega) (by omega) (by simp; omega))
   exact Ok.br (fun _ => j4 _ _) (fun _ => j4 _ _)
 exact key FU 0 [] (Nat.zero_le _) (by rw [bP]; omega) rfl
theorem wm (l : List GQ) (c : Int) (hl : l.length ≤ 7) : Ok (mz l c) (fun r => r.length ≤ 7) := by
 unfold mz
 have key : ∀ (m j : Nat) (o : List OP), j ≤ l.length → l.length - j < m → o.length = j → Ok (fE l c m (j : Int) o) (fun r => r.length ≤ 7) := by
  intro m
  induction m with
  | zero => intro j o _ h; omega
  | succ m ih =>
   intro j o hj hm ho
   rw [fE]
   refine Ok.br (fun e => ?_) (fun _ => Ok.some (by show o.length ≤ 7; omega))
   have hil : j < l.length := by have := of_decide_eq_true e; omega
   rw [bB hil, aC, cn hil (by omega)]
   exact Ok.gd (decide_eq_true (by simp; omega)) (ih (j + 1) _ (by omega) (by omega) (by simp; omega))
 exact key FU 0 [] (Nat.zero_le _) (by rw [bP]; omega) rfl
theorem AA (k a b c q : Int) : Ok (oK k a b c q) (T Bool) := by
 unfold oK
 rw [Kh, aC, I2 _ _ (by simp; omega), aC]
 exact Ok.some trivial
theorem Jz (q k a b c : Int) : Ok (eW q k a b c) (fun r => r.1.length ≤ 7) := by
 unfold eW
 rw [DB, aC]
 refine (Ok.br (R := T Bool) (fun _ => Ok.some trivial) (fun _ => by rw [bx, aC]; exact Ok.some trivial)).bO fun x _ => (Ok.br (R := T Bool) (fun _ => Ok.some trivial) (fun _ => (AA _ _ _ _ _).bO fun y _ => Ok.some trivial)).bO fun y _ => ?_
 unfold eM cc gw
 simp only [aC]
 repeat' (refine Ok.br (fun _ => ?_) (fun _ => ?_))
 all_goals exact Ok.some (by simp)
theorem AD (q : Int) (l : List OP) (hl : l.length ≤ 2000) : Ok (fN q l) (fun r => r.1.length ≤ 18000) := by
 unfold fN
 have key : ∀ (m j : Nat) (o : List OP), j ≤ l.length → l.length - j < m → o.length ≤ 7 * j → Ok (bh q l m (j : Int) o) (fun r => r.1.length ≤ 18000) := by
  intro m
  induction m with
  | zero => intro j o _ h; omega
  | succ m ih =>
   intro j o hj hm ho
   rw [bh]
   refine Ok.br (fun e => ?_) (fun _ => Ok.some (by show o.length ≤ 18000; omega))
   have hil : j < l.length := by have := of_decide_eq_true e; omega
   rw [bB hil, aC]
   unfold da
   refine Ok.br (fun _ => Ok.gd (decide_eq_true (by simp; omega)) ?_) (fun _ => (Jz _ _ _ _ _).bO fun x hx => Ok.br (fun _ => Ok.some (by simp)) (fun _ => (wm _ _ hx).bO fun y hy => Ok.gd (decide_eq_true (by omega)) ?_))
   ·rw [cn hil (by omega)]
    exact ih (j + 1) _ (by omega) (by omega) (by simp; omega)
   ·rw [cn hil (by omega)]
    exact ih (j + 1) _ (by omega) (by omega) (by simp; omega)
 exact key FU 0 [] (Nat.zero_le _) (by rw [bP]; omega) (by simp)
theorem AF {D : Type} (a1 : Int) (a2 : ByteArray) (a3 : List ByteArray) (a4 : Int) (a5 : List D) (n : List ByteArray) (h3 : 1 ≤ a3.length) (hn : n.length ≤ 40000) : Ok (n6 a1 a2 a3 a4 a5 n) (T _) := by
 unfold n6
 refine (uO a2).bO fun x _ => (bg ⟨by omega, by omega⟩).bO fun q _ => (tS n q hn).bO fun y _ => ?_
 have j1 : ∀ v : Int, Ok (gN a3 n x y v) (T _) := fun v => by
  unfold gN jL
  refine Ok.br (fun e => (bg ⟨by omega, ?_⟩).bO fun q _ => (tS n q hn).bO fun y _ => Ok.some trivial) (fun _ => Ok.some trivial)
  have := of_decide_eq_true e; omega
 refine Ok.br (fun e => (bg ⟨by omega, ?_⟩).bO fun q _ => (tS n q hn).bO fun y _ => j1 _) (fun _ => j1 _)
 have := of_decide_eq_true e; omega
theorem De (a b : Int) : Ok (jk a b) (T Int) := by
 unfold jk
 exact Ok.br (fun _ => Ok.some trivial) (fun _ => Ok.some trivial)
def AG : List OP → Nat
 | [] => 0
 | o :: L => (if o.1 = 1 then 1 else 0) + AG L
theorem vY (n i b : Int) (L : List OP) (hL : L.length ≤ 4000000) : d6 n i b L = some (AG L : Int) := by
 unfold d6
 have key : ∀ (m j c : Nat), j ≤ L.length → L.length - j < m → c ≤ j → bC L m (c : Int) (j : Int) = some ((c + AG (L.drop j) : Nat) : Int) := by
  intro m
  induction m with
  | zero => intro i c _ h; omega
  | succ m ih =>
   intro j c hj hm hc
   rw [bC]
   by_cases e : j = L.length
   ·rw [decide_eq_false (by omega), aF, List.drop_of_length_le (by omega)]; rfl
   ·have hil : j < L.length := by omega
    rw [decide_eq_true (by omega), aS, bB hil, aC, List.drop_eq_getElem_cons hil]
    unfold AG cr
    have wc : IntKind.wrap .i64 ((c : Int) + 1) = ((c + 1 : Nat) : Int) := by rw [w64 (by omega) (by omega)]; omega
    rw [cn hil (by omega), wc]
    by_cases h : L[j].1 = 1
    ·rw [beq_iff_eq.2 h, aS, if_pos h, ih (j + 1) (c + 1) (by omega) (by omega) (by omega)]
     congr 2; omega
    ·rw [beq_eq_false_iff_ne.2 h, aF, if_neg h, ih (j + 1) c (by omega) (by omega) (by omega)]
     congr 2; omega
 have := key FU 0 0 (Nat.zero_le _) (by rw [bP]; omega) (Nat.le_refl _)
 rw [List.drop_zero, Nat.zero_add] at this
 exact this
section
variable {D : Type}
def PS (P : D → Prop) (q : StT D) : Prop := SW q.2.1 ∧ SL q.2.2.1 ∧ q.2.2.2.2.length ≤ 10 ∧ ∀ b ∈ q.2.2.2.2, P b
def PL (P : D → Prop) (l : List D) : Prop := l.length ≤ 10 ∧ ∀ b ∈ l, P b
def VS (V : D → Prop) (q : StT D) : Prop := ((1 ≤ q.1 ∧ q.1 ≤ 7) ∧ ((q.1 ≠ 2 ∧ q.1 ≠ 3) → 1 ≤ q.2.2.1.length) ∧ (q.1 = 6 → 2 ≤ q.2.2.1.length)) ∧ ∀ b ∈ q.2.2.2.2, V b
theorem Df {P V : D → Prop} {zV : List D → Option Bool} (hV : ∀ l, PL P l → Ok (zV l) (fun r => r = true → ∀ b ∈ l, V b)) (q : StT D) (hq : PS P q) : Ok (gl zV q.1 q.2.1 q.2.2.1 q.2.2.2.1 q.2.2.2.2) (fun r => r = true → VS V q) := by
 obtain ⟨k, w, a, c, body⟩ := q
 obtain ⟨q1, q2, q3, q4⟩ := hq
 simp only at q1 q2 q3 q4 ⊢
 unfold gl
 refine (uP _ _ _ _ _).bO fun x1 h1 => ?_
 rw [bx, aC]
 refine (Ok.br (R := fun r => r = false → (1 ≤ k ∧ k ≤ 7) ∧ (a.length : Int) = x1.1) (fun _ => Ok.some fun h => by cases h) (fun e => Ok.some fun h => ⟨?_, ?_⟩)).bO fun x3 h3 => ?_
 ·cases hd : decide (1 ≤ k ∧ k ≤ 7) with
  | true => exact of_decide_eq_true hd
  | false => rw [hd] at e; cases e
 ·simpa using h
 refine (Ok.br (R := fun r => r = false → x3 = false) (fun _ => Ok.some fun h => by cases h) (fun e => (vX q2).bO fun x4 _ => Ok.some fun _ => e)).bO fun x5 h5 => ?_
 refine (Ok.br (R := fun r => r = false → x5 = false) (fun _ => Ok.some fun h => by cases h) (fun e => (Ok.br (R := T Bool) (fun _ => Ok.some trivial) (fun _ => Ok.some trivial)).bO fun x6 _ => Ok.some fun _ => e)).bO fun x7 h7 => ?_
 unfold gM
 refine Ok.br (fun _ => Ok.some fun h => by cases h) (fun e7 => ?_)
 refine (Ok.br (R := fun r => r = false → k = 1 → x1.1 ≠ 0) (fun _ => Ok.some fun h => by cases h) (fun _ => (Ok.br (R := fun r => r = false → k = 1 → x1.1 ≠ 0) (fun _ => Ok.some fun h _ => beq_eq_false_iff_ne.1 h) (fun e => Ok.some fun _ h => absurd h (beq_eq_false_iff_ne.1 e))).bO fun x19 h19 => Ok.some h19)).bO fun x20 h20 => ?_
 unfold gL
 refine Ok.br (fun _ => Ok.some fun h => by cases h) (fun e20 => ?_)
 refine (Ok.br (R := T Bool) (fun _ => by rw [bx]; exact Ok.some trivial) (fun _ => Ok.some trivial)).bO fun x23 _ => ?_
 refine (Ok.br (R := T Bool) (fun _ => Ok.some trivial) (fun _ => (Ok.br (R := T Bool) (fun _ => Ok.some trivial) (fun _ => Ok.some trivial)).bO fun x24 _ => Ok.some trivial)).bO fun x25 _ => ?_
 unfold gJ
 refine Ok.br (fun _ => Ok.some fun h => by cases h) (fun _ => (hV body ⟨q3, q4⟩).bO fun x32 h32 => Ok.some fun h => ?_)
 obtain ⟨g1, g2⟩ := h3 (h5 (h7 e7))
 have g3 := h20 e20
 obtain ⟨g4, g5⟩ := h1
 have hl : (0 : Int) ≤ (a.length : Int) := Int.natCast_nonneg _
 refine ⟨⟨g1, fun hk => ?_, fun hk => ?_⟩, h32 h⟩
 ·simp only at hk ⊢
  by_cases h1 : k = 1
  ·have := g3 h1; omega
  ·by_cases h6 : k = 6
   ·have := g5 h6; omega
   ·have := g4 (by omega); omega
 ·have := g5 hk
  simp only
  omega
theorem uR {P V : D → Prop} {zV : List D → Option Bool} (hV : ∀ l, PL P l → Ok (zV l) (fun r => r = true → ∀ b ∈ l, V b)) (l : List (StT D)) (hl : PL (PS P) l) : Ok (jE zV l) (fun r => r = true → ∀ b ∈ l, VS V b) := by
 obtain ⟨hl1, hl2⟩ := hl
 unfold jE
 have key : ∀ (m j : Nat), j ≤ l.length → l.length - j < m → (∀ i (h : i < l.length), i < j → VS V l[i]) → Ok (fo zV l m (j : Int)) (fun r => r = true → ∀ b ∈ l, VS V b) := by
  intro m
  induction m with
  | zero => intro i _ h; omega
  | succ m ih =>
   intro j hj hm hv
   rw [fo]
   refine Ok.br (fun e => ?_) (fun e => Ok.some fun _ b hb => ?_)
   ·have hil : j < l.length := by have := of_decide_eq_true e; omega
    rw [bB hil, aC, cn hil (by omega)]
    refine (Df hV l[j] (hl2 _ (List.getElem_mem hil))).bO fun x hx => Ok.br (fun _ => Ok.some fun h => by cases h) (fun e' => ih (j + 1) (by omega) (by omega) fun i hi hij => ?_)
    by_cases h : i = j
    ·subst h; exact hx (by simpa using e')
    ·exact hv i hi (by omega)
   ·have := of_decide_eq_false e
    obtain ⟨i, hi, rfl⟩ := List.getElem_of_mem hb
    exact hv i hi (by omega)
 exact key FU 0 (Nat.zero_le _) (by rw [bP]; omega) (fun i _ h => by omega)
theorem qN {P : D → Prop} {zN : List D → Option Int} (hN : ∀ l, PL P l → Ok (zN l) (T Int)) (l : List (StT D)) (hl : PL (PS P) l) : Ok (cd zN l) (T Int) := by
 obtain ⟨hl1, hl2⟩ := hl
 unfold cd
 have key : ∀ (m j : Nat) (v : Int), j ≤ l.length → l.length - j < m → Ok (bu zN l m v (j : Int)) (T Int) := by
  intro m
  induction m with
  | zero => intro i _ _ h; omega
  | succ m ih =>
   intro j v hj hm
   rw [bu]
   refine Ok.br (fun e => ?_) (fun e => Ok.some trivial)
   have hil : j < l.length := by have := of_decide_eq_true e; omega
   have hq := hl2 _ (List.getElem_mem hil)
   rw [bB hil, aC]
   unfold dn
   rw [cn hil (by omega)]
   exact (uP _ _ _ _ _).bO fun x _ => Ok.br (fun _ => (hN _ ⟨hq.2.2.1, hq.2.2.2⟩).bO fun y _ => (De _ _).bO fun z _ => ih (j + 1) _ (by omega) (by omega)) (fun _ => ih (j + 1) _ (by omega) (by omega))
 exact key FU 0 0 (Nat.zero_le _) (by rw [bP]; omega)
theorem qO {P : D → Prop} {zK : List D → Option Int} (hK : ∀ l, PL P l → Ok (zK l) (T Int)) (l : List (StT D)) (hl : PL (PS P) l) : Ok (cI zK l) (T Int) := by
 obtain ⟨hl1, hl2⟩ := hl
 unfold cI
 have key : ∀ (m j : Nat) (v : Int), j ≤ l.length → l.length - j < m → Ok (b6 zK l m v (j : Int)) (T Int) := by
  intro m
  induction m with
  | zero => intro i _ _ h; omega
  | succ m ih =>
   intro j v hj hm
   rw [b6]
   refine Ok.br (fun e => ?_) (fun e => Ok.some trivial)
   have hil : j < l.length := by have := of_decide_eq_true e; omega
   have hq := hl2 _ (List.getElem_mem hil)
   rw [bB hil, aC]
   have j7 : ∀ (x : Int × Bool) (u : Int), Ok (cl zK (j : Int) (b6 zK l m) l[j] x u) (T Int) := fun x u => by
    unfold cl dI
    rw [cn hil (by omega)]
    exact Ok.br (fun _ => (hK _ ⟨hq.2.2.1, hq.2.2.2⟩).bO fun y _ => ih (j + 1) _ (by omega) (by omega)) (fun _ => ih (j + 1) _ (by omega) (by omega))
   exact (uP _ _ _ _ _).bO fun x _ => Ok.br (fun _ => j7 _ _) (fun _ => j7 _ _)
 exact key FU 0 0 (Nat.zero_le _) (by rw [bP]; omega)
def HC (P V : D → Prop) (B : Nat) (zC : List D → List ByteArray → List ByteArray → List ByteArray → Option (Int × ByteArray)) : Prop :=
 ∀ l n h b, PL P l → (∀ x ∈ l, V x) → n.length ≤ B → h.length ≤ B → Ok (zC l n h b) (T _)
theorem Dg {P V : D → Prop} {B : Nat} {zC : List D → List ByteArray → List ByteArray → List ByteArray → Option (Int × ByteArray)} (hB : B ≤ 2000) (hC : HC P V (B + 1) zC) (q : StT D) (hq : PS P q) (hv : VS V q) (n h b : List ByteArray) (hn : n.length ≤ B) (hh : h.length ≤ B) :
  Ok (kQ zC q.1 q.2.1 q.2.2.1 q.2.2.2.1 q.2.2.2.2 n h b) (T _) := by
 obtain ⟨k, w, a, c, body⟩ := q
 obtain ⟨q1, q2, q3, q4⟩ := hq
 obtain ⟨⟨v1, v2, v3⟩, v4⟩ := hv
 simp only at q1 q2 q3 q4 v1 v2 v3 v4 ⊢
 have ha := q2.1
 unfold kQ
 have j1 : ∀ n' h' : List ByteArray, n'.length ≤ B + 1 → h'.length ≤ B + 1 → Ok (dZ zC body b n' h') (T _) := fun n' h' e1 e2 => by
  unfold dZ
  exact (hC body n' h' b ⟨q3, q4⟩ v4 e1 e2).bO fun x _ => Ok.some trivial
 refine Ok.br (fun _ => (tT _ _ _ _ _ _ _ _ _ ha (by omega) (by omega)).bO fun x _ => Ok.some trivial) (fun _ => Ok.br (fun e => ?_) (fun _ => Ok.br (fun e => ?_) (fun _ => Ok.br (fun e => ?_) (fun _ => Ok.br (fun e => ?_) (fun _ => j1 _ _ (by omega) (by omega))))))
 ·have e := eq_of_beq e
  exact (bg ⟨by omega, by have := v2 (by omega); omega⟩).bO fun x _ => (uQ _ _ _ _ _ (by omega) (by omega)).bO fun y _ => Ok.br (fun _ => Ok.some trivial) (fun _ => (qg _ _ (by omega)).bO fun z hz => j1 _ _ (by omega) (by omega))
 ·have e := eq_of_beq e
  exact (bg ⟨by omega, by have := v2 (by omega); omega⟩).bO fun x _ => (lz _ _ (by omega)).bO fun y _ => Ok.br (fun _ => Ok.some trivial) (fun _ => Ok.br (fun _ => Ok.some trivial) (fun _ => (qg _ _ (by omega)).bO fun z hz => j1 _ _ (by omega) (by omega)))
 ·have e := eq_of_beq e
  unfold jH
  rw [show bO (bO (ak a 0) fun q1 => some ((6 : Int), q1)) (fun x6 => some (x6.1, x6.2)) = bO (ak a 0) (fun q1 => bO (some ((6 : Int), q1)) fun x6 => some (x6.1, x6.2)) by cases ak a 0 <;> rfl]
  exact (bg ⟨by omega, by have := v2 (by omega); omega⟩).bO fun x _ => Ok.some trivial
 ·have e := eq_of_beq e
  exact (bg ⟨by omega, by have := v2 (by omega); omega⟩).bO fun x _ => Ok.some trivial
theorem uS {P V : D → Prop} {B : Nat} {zC : List D → List ByteArray → List ByteArray → List ByteArray → Option (Int × ByteArray)} (hB : B ≤ 2000) (hC : HC P V (B + 1) zC) : HC (PS P) (VS V) B (fq zC) := by
 intro l n h b hl hv hn hh
 obtain ⟨hl1, hl2⟩ := hl
 unfold fq
 have key : ∀ (m j : Nat), j ≤ l.length → l.length - j < m → Ok (eB zC l n h b m (j : Int)) (T _) := by
  intro m
  induction m with
  | zero => intro i _ h; omega
  | succ m ih =>
   intro j hj hm
   rw [eB]
   refine Ok.br (fun e => ?_) (fun e => Ok.some trivial)
   have hil : j < l.length := by have := of_decide_eq_true e; omega
   rw [bB hil, aC, cn hil (by omega)]
   exact (Dg hB hC l[j] (hl2 _ (List.getElem_mem hil)) (hv _ (List.getElem_mem hil)) n h b hn hh).bO fun x _ => Ok.br (fun _ => Ok.some trivial) (fun _ => ih (j + 1) (by omega) (by omega))
 exact key FU 0 (Nat.zero_le _) (by rw [bP]; omega)
theorem wn (a1 : Int) (a2 : ByteArray) (a : List ByteArray) (a4 : Int) (a5 : List D) (n h : List ByteArray) (i : Bool) (b : List ByteArray) (ha : 2 ≤ a.length) (hn : n.length ≤ 1000) (hh : h.length ≤ 1000) (hb : b.length ≤ 3) :
  Ok (jP a1 a2 a a4 a5 n h i b) (fun r => r.2.2.1.length ≤ 1000 ∧ r.2.2.2.1.length ≤ 1000 ∧ r.2.2.2.2.2.length ≤ 3) := by
 unfold jP
 refine Ok.br (fun _ => (bg ⟨by omega, by omega⟩).bO fun x _ => Ok.some ⟨hn, hh, hb⟩) (fun _ => (bg ⟨by omega, by omega⟩).bO fun x _ => (uQ _ _ _ _ _ (by omega) (by omega)).bO fun y _ => Ok.br (fun _ => Ok.some ⟨hn, hh, hb⟩) (fun _ => (bg ⟨by omega, by omega⟩).bO fun z _ => (lz _ _ (by omega)).bO fun u _ => ?_))
 refine (Ok.br (R := T Bool) (fun _ => Ok.some trivial) (fun _ => (lz _ _ (by omega)).bO fun t _ => Ok.some trivial)).bO fun v _ => ?_
 unfold gx
 refine Ok.br (fun _ => (bg ⟨by omega, by omega⟩).bO fun x _ => Ok.some ⟨hn, hh, hb⟩) (fun _ => Ok.br (fun _ => (bg ⟨by omega, by omega⟩).bO fun x _ => Ok.some ⟨hn, hh, hb⟩) (fun e => (bg ⟨by omega, by omega⟩).bO fun x _ => Ok.gd (decide_eq_true (by simp; omega)) (Ok.some ⟨hn, hh, ?_⟩)))
 have := beq_eq_false_iff_ne.1 e
 simp
 omega
theorem He {P V : D → Prop} {zC : List D → List ByteArray → List ByteArray → List ByteArray → Option (Int × ByteArray)} (hC : HC P V 1001 zC) (q : StT D) (hq : PS P q) (hv : VS V q) (n h : List ByteArray) (i : Bool) (b : List ByteArray) (hn : n.length ≤ 1000) (hh : h.length ≤ 1000) (hb : b.length ≤ 3) :
  Ok (nA zC q.1 q.2.1 q.2.2.1 q.2.2.2.1 q.2.2.2.2 n h i b) (fun r => r.2.2.1.length ≤ 1000 ∧ r.2.2.2.1.length ≤ 1000 ∧ r.2.2.2.2.2.length ≤ 3) := by
 obtain ⟨k, w, a, c, body⟩ := q
 obtain ⟨q1, q2, q3, q4⟩ := hq
 obtain ⟨⟨v1, v2, v3⟩, v4⟩ := hv
 simp only at q1 q2 q3 q4 v1 v2 v3 v4 ⊢
 have ha := q2.1
 unfold nA
 have j1 : ∀ n' h' : List ByteArray, n'.length ≤ 1001 → h'.length ≤ 1001 → Ok (dr zC body n h i b n' h') (fun r => r.2.2.1.length ≤ 1000 ∧ r.2.2.2.1.length ≤ 1000 ∧ r.2.2.2.2.2.length ≤ 3) := fun n' h' e1 e2 => by
  unfold dr
  exact (hC body n' h' b ⟨q3, q4⟩ v4 e1 e2).bO fun x _ => Ok.some ⟨hn, hh, hb⟩
 refine Ok.br (fun _ => (tT _ _ _ _ _ _ _ _ _ ha (by omega) (by omega)).bO fun x _ => Ok.some ⟨hn, hh, hb⟩) (fun _ => Ok.br (fun e => ?_) (fun _ => Ok.br (fun e => ?_) (fun _ => Ok.br (fun e => ?_) (fun _ => Ok.br (fun e => ?_) (fun _ => j1 _ _ (by omega) (by omega))))))
 ·have e := eq_of_beq e
  exact (bg ⟨by omega, by have := v2 (by omega); omega⟩).bO fun x _ => (uQ _ _ _ _ _ (by omega) (by omega)).bO fun y _ => Ok.br (fun _ => Ok.some ⟨hn, hh, hb⟩) (fun _ => (qg _ _ (by omega)).bO fun z hz => j1 _ _ (by omega) (by omega))
 ·have e := eq_of_beq e
  exact (bg ⟨by omega, by have := v2 (by omega); omega⟩).bO fun x _ => (lz _ _ (by omega)).bO fun y _ => Ok.br (fun _ => Ok.some ⟨hn, hh, hb⟩) (fun _ => Ok.br (fun _ => Ok.some ⟨hn, hh, hb⟩) (fun _ => (qg _ _ (by omega)).bO fun z hz => j1 _ _ (by omega) (by omega)))
 ·exact (wn _ _ _ _ _ _ _ _ _ (v3 (eq_of_beq e)) hn hh hb).bO fun x hx => Ok.some hx
 ·have e := eq_of_beq e
  refine Ok.br (fun _ => (bg ⟨by omega, by have := v2 (by omega); omega⟩).bO fun x _ => Ok.some ⟨hn, hh, hb⟩) (fun _ => (bg ⟨by omega, by have := v2 (by omega); omega⟩).bO fun x _ => (lz _ _ (by omega)).bO fun y _ => Ok.br (fun _ => Ok.some ⟨hn, hh, hb⟩) (fun _ => j1 _ _ (by omega) (by omega)))
theorem Hf {P V : D → Prop} {zC : List D → List ByteArray → List ByteArray → List ByteArray → Option (Int × ByteArray)} (hC : HC P V 1001 zC) (l : List (StT D)) (hl : PL (PS P) l) (hv : ∀ q ∈ l, VS V q) (n h : List ByteArray) (i : Bool) (hn : n.length ≤ 1000) (hh : h.length ≤ 1000) : Ok (ly zC l n h i) (T _) := by
 obtain ⟨hl1, hl2⟩ := hl
 unfold ly
 have key : ∀ (m j : Nat) (n h : List ByteArray) (i : Bool) (b : List ByteArray), n.length ≤ 1000 → h.length ≤ 1000 → b.length ≤ 3 → j ≤ l.length → l.length - j < m → Ok (eE zC l m n h i b (j : Int)) (T _) := by
  intro m
  induction m with
  | zero => intro j _ _ _ _ _ _ _ _ h; omega
  | succ m ih =>
   intro j n h i b hn hh hb hj hm
   rw [eE]
   refine Ok.br (fun e => ?_) (fun e => Ok.some trivial)
   have hil : j < l.length := by have := of_decide_eq_true e; omega
   rw [bB hil, aC, cn hil (by omega)]
   exact (He hC l[j] (hl2 _ (List.getElem_mem hil)) (hv _ (List.getElem_mem hil)) n h i b hn hh hb).bO fun x hx => Ok.br (fun _ => Ok.some trivial) (fun _ => ih (j + 1) _ _ _ _ hx.1 hx.2.1 hx.2.2 (by omega) (by omega))
 exact key FU 0 n h i [] hn hh (by simp) (Nat.zero_le _) (by rw [bP]; omega)
def HL (P V : D → Prop) (B G : Nat) (zL : List D → List ByteArray → List ByteArray → Int → Bool → Option (List OP × List ByteArray × List ByteArray × Int × Bool)) : Prop :=
 ∀ l n b m g, PL P l → (∀ x ∈ l, V x) → n.length ≤ B → b.length + G ≤ 30000 → Ok (zL l n b m g) (fun r => r.1.length ≤ 2000 ∧ r.2.1 = n ∧ r.2.2.1.length ≤ b.length + G)
theorem AH {P V : D → Prop} {B G : Nat} {zL : List D → List ByteArray → List ByteArray → Int → Bool → Option (List OP × List ByteArray × List ByteArray × Int × Bool)} (hB : B ≤ 1000) (hL : HL P V (B + 1) G zL) (q : StT D) (hq : PS P q) (hv : VS V q) (n b : List ByteArray) (m : Int) (g : Bool) (hn : n.length ≤ B) (hb : b.length + (G + 1) ≤ 30000) :
  Ok (n7 zL q.1 q.2.1 q.2.2.1 q.2.2.2.1 q.2.2.2.2 n b m g) (fun r => r.1.length ≤ 18002 ∧ r.2.1 = n ∧ r.2.2.1.length ≤ b.length + (G + 1)) := by
 obtain ⟨k, w, a, c, body⟩ := q
 obtain ⟨q1, q2, q3, q4⟩ := hq
 obtain ⟨⟨v1, v2, v3⟩, v4⟩ := hv
 simp only at q1 q2 q3 q4 v1 v2 v3 v4 ⊢
 have hz := fun n' (hn' : n'.length ≤ B + 1) m' => hL body n' b m' g ⟨q3, q4⟩ v4 hn' (by omega)
 unfold n7
 refine Ok.br (fun e => ?_) (fun e1 => Ok.br (fun e => ?_) (fun e2 => Ok.br (fun e => ?_) (fun e3 => Ok.br (fun e => ?_) (fun e4 => Ok.br (fun e => ?_) (fun e5 => Ok.br (fun e => ?_) (fun e6 => ?_))))))
 ·have e := eq_of_beq e
  exact (AF _ _ _ _ _ _ (v2 (by omega)) (by omega)).bO fun x _ => Ok.some ⟨by simp, rfl, by show b.length ≤ _; omega⟩
 ·exact (hz n (by omega) m).bO fun x hx => (A9 _ _ hx.1).bO fun y hy => Ok.some ⟨by show y.length ≤ _; omega, hx.2.1, by show x.2.2.1.length ≤ _; omega⟩
 ·exact (hz n (by omega) m).bO fun x hx => (wl _ hx.1).bO fun y hy => Ok.some ⟨by show y.length ≤ _; omega, hx.2.1, by show x.2.2.1.length ≤ _; omega⟩
 ·have e := eq_of_beq e
  exact (bg ⟨by omega, by have := v2 (by omega); omega⟩).bO fun u _ => (tS _ _ (by omega)).bO fun t _ => (hz n (by omega) m).bO fun x hx => (AD _ _ hx.1).bO fun y hy => Ok.some ⟨by show y.1.length ≤ _; omega, hx.2.1, by show x.2.2.1.length ≤ _; omega⟩
 ·have e := eq_of_beq e
  unfold lK
  have anc : Ok (bO (ak a 0) fun q1 => bO (fp n q1) fun x1 => bO (jk m ((x1.length : Int))) fun x2 => bO (zL body x1 b x2 g) fun x3 => gd (decide (([(3, 0, 0, 0, 0, (n.length : Int), 0, 0)] : List OP).length + x3.1.length ≤ 16777216)) (gd (decide ((([(3, 0, 0, 0, 0, (n.length : Int), 0, 0)] : List OP) ++ x3.1).length + ([(3, 0, 0, 0, 0, (n.length : Int), 0, 0)] : List OP).length ≤ 16777216)) (some ((([(3, 0, 0, 0, 0, (n.length : Int), 0, 0)] : List OP) ++ x3.1) ++ ([(3, 0, 0, 0, 0, (n.length : Int), 0, 0)] : List OP), n, x3.2.2.1, x3.2.2.2.1, x3.2.2.2.2)))) (fun r => r.1.length ≤ 18002 ∧ r.2.1 = n ∧ r.2.2.1.length ≤ b.length + (G + 1)) :=
   (bg ⟨by omega, by have := v2 (by omega); omega⟩).bO fun u _ => (qg _ _ (by omega)).bO fun t ht => (De _ _).bO fun s _ => (hz t (by omega) s).bO fun x hx => Ok.gd (decide_eq_true (by simp; omega)) (Ok.gd (decide_eq_true (by simp; omega)) (Ok.some ⟨by simp; omega, rfl, by show x.2.2.1.length ≤ _; omega⟩))
  exact anc.bO fun x hx => Ok.some hx
 ·have e := eq_of_beq e
  exact (bg ⟨by omega, by have := v3 (by omega); omega⟩).bO fun u _ => (qg _ _ (by omega)).bO fun t ht => (bg ⟨by omega, by have := v2 (by omega); omega⟩).bO fun s _ => (tS _ _ (by omega)).bO fun y _ => Ok.some ⟨by simp, rfl, by show t.length ≤ _; omega⟩
 ·have e2 := beq_eq_false_iff_ne.1 e2
  have e3 := beq_eq_false_iff_ne.1 e3
  exact (hz n (by omega) m).bO fun x hx => (bg ⟨by omega, by have := v2 (by omega); omega⟩).bO fun u _ => (tS _ _ (by omega)).bO fun t _ => (La _ _ hx.1).bO fun y hy => Ok.some ⟨by show y.length ≤ _; omega, hx.2.1, by show x.2.2.1.length ≤ _; omega⟩
theorem qP {P V : D → Prop} {B G : Nat} {zL : List D → List ByteArray → List ByteArray → Int → Bool → Option (List OP × List ByteArray × List ByteArray × Int × Bool)} (hB : B ≤ 1000) (hL : HL P V (B + 1) G zL) : HL (PS P) (VS V) B (10 * (G + 1)) (jM zL) := by
 intro l n b m g hl hv hn hb
 obtain ⟨hl1, hl2⟩ := hl
 unfold jM
 have key : ∀ (f j : Nat) (b' : List ByteArray) (m : Int) (g : Bool) (o : List OP), b'.length ≤ b.length + j * (G + 1) → o.length ≤ 2000 → j ≤ l.length → l.length - j < f → Ok (ft zL l f n b' m g (j : Int) o) (fun r => r.1.length ≤ 2000 ∧ r.2.1 = n ∧ r.2.2.1.length ≤ b.length + 10 * (G + 1)) := by
  intro f
  induction f with
  | zero => intro j _ _ _ _ _ _ _ h; omega
  | succ f ih =>
   intro j b' m g o hb' ho hj hm
   have hj10 : j * (G + 1) ≤ 10 * (G + 1) := Nat.mul_le_mul_right _ (by omega)
   rw [ft]
   refine Ok.br (fun e => ?_) (fun e => Ok.some ⟨ho, rfl, by show b'.length ≤ _; omega⟩)
   have hil : j < l.length := by have := of_decide_eq_true e; omega
   have hj1 : (j + 1) * (G + 1) ≤ 10 * (G + 1) := Nat.mul_le_mul_right _ (by omega)
   have hj2 : (j + 1) * (G + 1) = j * (G + 1) + (G + 1) := Nat.succ_mul _ _
   rw [bB hil, aC, cn hil (by omega)]
   refine (AH hB hL l[j] (hl2 _ (List.getElem_mem hil)) (hv _ (List.getElem_mem hil)) n b' m g hn (by omega)).bO fun x hx => Ok.gd (decide_eq_true (by omega)) (Ok.br (fun _ => Ok.some ⟨by simp, hx.2.1, by show x.2.2.1.length ≤ _; omega⟩) (fun e => ?_))
   have e := of_decide_eq_false e
   rw [hx.2.1]
   exact ih (j + 1) _ _ _ _ (by omega) (by omega) (by omega) (by omega)
 exact key FU 0 b m g [] (by omega) (by simp) (Nat.zero_le _) (by rw [bP]; omega)
end
def P0 : Empty → Prop := fun _ => False
theorem PL0 (l : List Empty) : l = [] := by
 cases l with
 | nil => rfl
 | cons x _ => exact nomatch x
abbrev P4 := PS (PS (PS (PS P0)))
abbrev V4 := VS (VS (VS (VS P0)))
theorem MH (l) (h : PL P4 l) : Ok (cV l) (fun r => r = true → ∀ b ∈ l, V4 b) :=
 uR (fun l h => uR (fun l h => uR (fun l h => uR (fun l h => by rw [PL0 l]; exact Ok.some fun _ b hb => by cases hb) l h) l h) l h) l h
theorem MI (l) (h : PL P4 l) : Ok (cN l) (T Int) :=
 qN (fun l h => qN (fun l h => qN (fun l h => qN (P := P0) (fun l h => by rw [PL0 l]; exact Ok.some trivial) l h) l h) l h) l h
theorem MJ (l) (h : PL P4 l) : Ok (cK l) (T Int) :=
 qO (fun l h => qO (fun l h => qO (fun l h => qO (P := P0) (fun l h => by rw [PL0 l]; exact Ok.some trivial) l h) l h) l h) l h
theorem MK : HC (PS (PS (PS P0))) (VS (VS (VS P0))) 1001 cC2 := by
 have h0 : ∀ B, HC P0 P0 B nC := fun B l n h b _ _ _ _ => by rw [PL0 l]; exact Ok.some trivial
 exact uS (by omega) (uS (by omega) (uS (by omega) (h0 _)))
theorem ML : HL P4 V4 100 11110 cL := by
 have h0 : ∀ B, HL P0 P0 B 0 nL := fun B l n b m g _ _ _ _ => by rw [PL0 l]; exact Ok.some ⟨by simp, rfl, by simp⟩
 exact qP (G := 1110) (by omega) (qP (G := 110) (by omega) (qP (G := 10) (by omega) (qP (G := 0) (by omega) (h0 _))))
def SN (l : List ByteArray) : Prop := (1 ≤ l.length ∧ l.length ≤ 3) ∧ ∀ a ∈ l, SW a
theorem vZ {n : List ByteArray} {l} (hn : SN n) (h : PL P4 l) : Ok (dU n l) (fun r => r = true → ∀ b ∈ l, V4 b) := by
 unfold dU eN
 rw [bx, aC]
 refine (Ok.br (R := T Bool) (fun _ => (vX ⟨by have := hn.1; omega, hn.2⟩).bO fun x _ => Ok.some trivial) (fun _ => Ok.some trivial)).bO fun x3 _ => ?_
 refine (Ok.br (R := fun r => r = true → ∀ b ∈ l, V4 b) (fun _ => (MH l h).bO fun x hx => Ok.some hx) (fun _ => Ok.some fun h => by cases h)).bO fun x5 h5 => ?_
 refine (Ok.br (R := fun r => r = true → x5 = true) (fun e => (MI l h).bO fun x hx => Ok.some fun _ => e) (fun _ => Ok.some fun h => by cases h)).bO fun x7 h7 => ?_
 refine (Ok.br (R := fun r => r = true → x7 = true) (fun e => (MJ l h).bO fun x hx => Ok.some fun _ => e) (fun _ => Ok.some fun h => by cases h)).bO fun x9 h9 => ?_
 exact Ok.some fun e => h5 (h7 (h9 e))
theorem Dh {n : List ByteArray} {l} (hn : SN n) (h : PL P4 l) : Ok (fv n l) (T _) := by
 unfold fv
 refine (vZ hn h).bO fun x hx => Ok.br (fun _ => Ok.some trivial) (fun e => ?_)
 have hv := hx (by simpa using e)
 have h3 := hn.1
 have key : ∀ (m j : Nat), j ≤ n.length → n.length - j < m → Ok (ce n l m (j : Int)) (T _) := by
  intro m
  induction m with
  | zero => intro i _ h; omega
  | succ m ih =>
   intro j hj hm
   rw [ce]
   refine Ok.br (fun e => ?_) (fun _ => ?_)
   ·have hil : j < n.length := by have := of_decide_eq_true e; omega
    have hs : slc n 0 (j : Int) = some (n.take j) := by
     unfold slc
     rw [if_pos (by omega)]
     simp
    rw [hs, aC, bB hil, aC, cn hil (by omega)]
    exact (lz _ _ (by simp; omega)).bO fun y _ => Ok.br (fun _ => Ok.some trivial) (fun _ => ih (j + 1) (by omega) (by omega))
   ·unfold fX
    exact (Hf MK l h hv n [] false (by omega) (by simp)).bO fun y _ => Ok.some trivial
 exact key FU 0 (Nat.zero_le _) (by rw [bP]; omega)
theorem Hg {n : List ByteArray} {l} (hn : SN n) (h : PL P4 l) : Ok (kT n l) (fun r => r.2.2.2.1.length ≤ 2000) := by
 unfold kT
 have h3 := hn.1
 refine (Dh hn h).bO fun x1 _ => (vZ hn h).bO fun x2 h2 => ?_
 refine (Ok.br (R := fun r => r = false → x2 = true) (fun _ => Ok.some fun h => by cases h) (fun e => Ok.some fun _ => by simpa using e)).bO fun x3 h3' => ?_
 unfold jR
 refine Ok.br (fun _ => Ok.some (by simp)) (fun e => Ok.gd (decide_eq_true (by simp; omega)) ((ML l n [] _ false h (h2 (h3' e)) (by omega) (by simp)).bO fun x4 h4 => ?_))
 refine (Ok.br (R := T Bool) (fun _ => Ok.some trivial) (fun _ => by rw [vY _ _ _ _ (by omega), aC]; exact Ok.some trivial)).bO fun x6 _ => ?_
 refine (Ok.br (R := T Bool) (fun _ => Ok.some trivial) (fun _ => by rw [Kk (by omega), aC]; exact Ok.some trivial)).bO fun x8 _ => ?_
 unfold jQ
 exact Ok.br (fun _ => Ok.some (by simp)) (fun _ => Ok.some h4.1)
theorem wo {b : List Int} {i h most : Int} (hcu : cZ (b, i, h)) (hm : 0 ≤ most ∧ most ≤ 20) : Ok (lw b i h most) (fun r => (r.2.2.2.1.length : Int) ≤ most ∧ cZ r.2.2.2.2) := by
 unfold lw
 refine (cC hcu).bO fun x hx => ?_
 have hb := hx.1.2.1 (by omega)
 obtain ⟨n, hn, hn1⟩ := JS (n := IntKind.wrap .i64 (1 + x.1)) (by rw [w64 (by omega) (by omega)]; omega)
 rw [hn]
 have core : ∀ (v8 : List Int) (v9 v10 v12 v13 : Int), cZ (v8, v9, v10) → Ok (fQ most v8 v9 v10 (n : Int) v12 v13) (fun r => (r.2.2.2.1.length : Int) ≤ most ∧ cZ r.2.2.2.2) := by
  intro v8 v9 v10 v12 v13 hc
  unfold fQ
  refine (jq hc).bO fun x5 h5 => (cC h5).bO fun x6 h6 => ?_
  have hw : IntKind.wrap .i64 (most + 1) = most + 1 := w64 (by omega) (by omega)
  rw [hw] at h6
  have h6b := h6.1.2.1 (by omega)
  have key : ∀ (m : Nat) (k : Nat) (b : List Int) (i h bt : Int) (gs : List OP), (k : Int) ≤ x6.1 → x6.1 - k < m → gs.length = k → cZ (b, i, h) →
    Ok (cG (n : Int) v12 v13 x5 x6 m b i h (k : Int) bt gs) (fun r => (r.2.2.2.1.length : Int) ≤ most ∧ cZ r.2.2.2.2) := by
   intro m
   induction m with
   | zero => intro k b i h bt gs h1 h2; omega
   | succ m ih =>
    intro k b i h bt gs h1 h2 h3 hc
    rw [cG]
    refine Ok.br (fun e => ?_) (fun e => Ok.some ⟨by show (gs.length : Int) ≤ most; omega, hc⟩)
    have e := of_decide_eq_true e
    have wk : IntKind.wrap .i64 ((k : Int) + 1) = ((k + 1 : Nat) : Int) := by rw [w64 (by omega) (by omega)]; omega
    have go : ∀ (b : List Int) (i h bt : Int) (g : OP), cZ (b, i, h) → Ok (gd (decide (gs.length + [g].length ≤ 16777216)) (eX (k : Int) (cG (n : Int) v12 v13 x5 x6 m) b i h bt (gs ++ [g]))) (fun r => (r.2.2.2.1.length : Int) ≤ most ∧ cZ r.2.2.2.2) := by
     intro b i h bt g hc
     refine Ok.gd (decide_eq_true (by simp; omega)) ?_
     unfold eX
     rw [wk]
     exact ih (k + 1) _ _ _ _ _ (by omega) (by omega) (by simp; omega) hc
    have fl : ∃ z, br x5.1 (some (decide (bt < 2))) (some false) = some z := by cases x5.1 <;> exact ⟨_, rfl⟩
    obtain ⟨z, hz⟩ := fl
    rw [hz, aC]
    have s2 : Ok (br z (bO (dF b i h 4) fun x24 => some (x24.1, x24.2.1, x24.2.2.1, x24.2.2.2)) (some (false, b, i, h))) (fun y => cZ y.2) :=
     Ok.br (fun _ => (jq hc).bO fun y hy => Ok.some hy) (fun _ => Ok.some hc)
    refine s2.bO fun y hy => ?_
    unfold jO
    refine Ok.br (fun _ => (cC hy).bO fun x30 h30 => go _ _ _ _ _ h30.2) (fun _ => (xR hy hn1).bO fun x31 h31 => ?_)
    have s3 : Ok (br (decide (0 < bt)) (bO (dF x31.2.2.2.2.1 x31.2.2.2.2.2.1 x31.2.2.2.2.2.2 2) fun x32 => some (x32.1, x32.2.1, x32.2.2.1, x32.2.2.2)) (some (false, x31.2.2.2.2.1, x31.2.2.2.2.2.1, x31.2.2.2.2.2.2))) (fun y => cZ y.2) :=
     Ok.br (fun _ => (jq h31.2).bO fun y hy => Ok.some hy) (fun _ => Ok.some h31.2)
    refine s3.bO fun u hu => ?_
    unfold jN fu
    exact Ok.br (fun _ => (cC hu).bO fun x35 h35 => go _ _ _ _ _ h35.2) (fun _ => go _ _ _ _ _ hu)
  exact key FU 0 _ _ _ 0 [] (by omega) (by rw [bP]; omega) rfl h6.2
 have s1 : Ok (br (decide (1 < (n : Int))) (bO (dF x.2.1 x.2.2.1 x.2.2.2 4) fun x2 => some (x2.1, x2.2.1, x2.2.2.1, x2.2.2.2)) (some (false, x.2.1, x.2.2.1, x.2.2.2))) (fun y => cZ y.2) :=
  Ok.br (fun _ => (jq hx.2).bO fun y hy => Ok.some hy) (fun _ => Ok.some hx.2)
 refine s1.bO fun y hy => ?_
 unfold jx
 exact Ok.br (fun _ => core _ _ _ _ _ hy) (fun _ => core _ _ _ _ _ hy)
theorem qQ {b : List Int} {i h : Int} {l : List ByteArray} (hc : cZ (b, i, h)) (hl : 0 < l.length) : Ok (kN b i h l) (fun r => r.1 ∈ l ∧ cZ r.2) := by
 unfold kN
 exact (cC hc).bO fun r hr => (bg ⟨hr.1.1, hr.1.2.1 (by omega)⟩).bO fun q hq => Ok.some ⟨hq, hr.2⟩
theorem oc {b : List Int} {i h : Int} {l : List ByteArray} (hc : cZ (b, i, h)) (hn : SN l) : Ok (iO b i h l) (fun r => (SW r.2.1 ∧ SL r.2.2.2.1) ∧ cZ r.2.2.2.2) := by
 obtain ⟨h3, hw⟩ := hn
 unfold iO rL
 rw [decide_eq_false (by omega), aF, aC]
 refine (xR hc (n := l.length) (by omega)).bO fun x2 h2 => (xQ h2.2 (n := l.length) (by omega)).bO fun x3 hx3 => ?_
 obtain ⟨c1, c2, c3⟩ := iN h2.1
 obtain ⟨k, hk, hk12⟩ : ∃ k : Nat, x2.1 = (k : Int) ∧ k ≤ 13 := ⟨x2.1.toNat, by omega, by omega⟩
 have har : dR x2.1 ≤ (l.length : Int) := by
  unfold dR
  rcases c3 with ⟨c3, _⟩ | ⟨c3, c4, c5, _⟩ | ⟨c3, c4, c5, c6, c7⟩
  ·rw [if_pos c3]; omega
  ·rw [if_neg (by omega), if_pos c3]; omega
  ·rw [if_neg (by omega), if_neg (by omega), if_pos c3]; omega
 rw [hk]
 refine (xg hk12).bO fun x4 h4 => ?_
 have key : ∀ (m j : Nat) (o : List ByteArray), j ≤ l.length → l.length - j < m → o.length = j → (∀ a ∈ o, SW a) → Ok (fB l x2 x3 x4 m (j : Int) o) (fun r => (SW r.2.1 ∧ SL r.2.2.2.1) ∧ cZ r.2.2.2.2) := by
  intro m
  induction m with
  | zero => intro j o _ h; omega
  | succ m ih =>
   intro j o hj hm ho hs
   rw [fB, wU, aC]
   unfold lG
   refine Ok.br (fun e => ?_) (fun _ => Ok.some ⟨⟨h4, by show o.length ≤ 10; omega, hs⟩, hx3.2⟩)
   have hil : j < l.length := by have := of_decide_eq_true e; omega
   obtain ⟨p1, p2, p3⟩ := hx3.1
   have hjp : j < x3.1.length := by omega
   have hp := p2 j hjp
   rw [bB hjp, aC, cn hil (by omega)]
   refine (bg ⟨hp.1, by omega⟩).bO fun q hq => Ok.gd (decide_eq_true (by simp; omega)) (ih (j + 1) _ (by omega) (by omega) (by simp; omega) fun a ha => ?_)
   rcases List.mem_append.1 ha with h | h
   ·exact hs a h
   ·simp only [List.mem_cons, List.not_mem_nil, or_false] at h
    subst h; exact hw _ hq
 exact key FU 0 [] (by omega) (by rw [bP]; omega) rfl (fun a h => by cases h)
theorem Hh (l k : List ByteArray) (hl : SN l) (hk : k.length ≤ 10) : Ok (mw l k) (fun r => r.length ≤ 3 ∧ ∀ a ∈ r, SW a) := by
 obtain ⟨h3, hw⟩ := hl
 unfold mw
 have key : ∀ (m j : Nat) (o : List ByteArray), j ≤ l.length → l.length - j < m → o.length ≤ j → (∀ a ∈ o, SW a) → Ok (dO l k m (j : Int) o) (fun r => r.length ≤ 3 ∧ ∀ a ∈ r, SW a) := by
  intro m
  induction m with
  | zero => intro j o _ h; omega
  | succ m ih =>
   intro j o hj hm ho hs
   rw [dO]
   unfold lI
   refine Ok.br (fun e => ?_) (fun _ => Ok.some ⟨by omega, hs⟩)
   have hil : j < l.length := by have := of_decide_eq_true e; omega
   rw [bB hil, aC]
   unfold jD
   rw [cn hil (by omega)]
   refine (lz _ _ (by omega)).bO fun x _ => Ok.br (fun _ => Ok.gd (decide_eq_true (by simp; omega)) (ih (j + 1) _ (by omega) (by omega) (by simp; omega) fun a ha => ?_)) (fun _ => ih (j + 1) _ (by omega) (by omega) (by omega) hs)
   rcases List.mem_append.1 ha with h | h
   ·exact hs a h
   ·simp only [List.mem_cons, List.not_mem_nil, or_false] at h
    subst h; exact hw _ (List.getElem_mem hil)
 exact key FU 0 [] (by omega) (by rw [bP]; omega) (by simp) (fun a h => by cases h)
section
variable {D : Type} {P : D → Prop}
theorem kr {k c : Int} {w : ByteArray} {a : List ByteArray} {body : List D} (h1 : SW w) (h2 : SL a) (h3 : PL P body) : PS P (k, w, a, c, body) := ⟨h1, h2, h3.1, h3.2⟩
theorem mV : PL P ([] : List D) := ⟨by simp, fun b h => by cases h⟩
theorem wq {q : D} (h : P q) : PL P [q] := ⟨by simp, fun b hb => by simp only [List.mem_cons, List.not_mem_nil, or_false] at hb; subst hb; exact h⟩
theorem Lb : SL [] := ⟨by simp, fun b h => by cases h⟩
theorem AI {a : ByteArray} (h : SW a) : SL [a] := ⟨by simp, fun b hb => by simp only [List.mem_cons, List.not_mem_nil, or_false] at hb; subst hb; exact h⟩
theorem Hi {a c : ByteArray} (h : SW a) (h' : SW c) : SL [a, c] := ⟨by simp, fun b hb => by
  simp only [List.mem_cons, List.not_mem_nil, or_false] at hb
  rcases hb with rfl | rfl
  · exact h
  · exact h'⟩
theorem swl {n : Nat} {a : Array UInt8} (h : a.size ≤ 100) : SW (ByteArray.mk a) := h
theorem sS {l : List ByteArray} {s : ByteArray} (hs : s ∈ l) (h : (l.all fun a => decide (a.size ≤ 100)) = true) : SW s := by
 have := List.all_eq_true.1 h s hs
 exact of_decide_eq_true (p := s.size ≤ 100) this
theorem Di {b : List Int} {i h : Int} {l : List ByteArray} {z : ByteArray} (hc : cZ (b, i, h)) (hn : SN l) (hz : SW z) : Ok (lv (D := D) b i h l z) (fun r => PL (PS P) r.1 ∧ cZ r.2) := by
 unfold lv
 have h3 := hn.1
 refine (cC hc).bO fun x1 h1 => (bg ⟨h1.1.1, h1.1.2.1 (by omega)⟩).bO fun q hq => (qQ h1.2 (by simp)).bO fun x2 h2 => Ok.some ⟨⟨by simp, fun s hs => ?_⟩, h2.2⟩
 have hq' := hn.2 q hq
 have hw : SW (ByteArray.mk #[99, 120]) := swl (n := 0) (by decide)
 have h2' : SW x2.1 := sS h2.1 (by decide)
 simp only [List.mem_cons, List.not_mem_nil, or_false] at hs
 rcases hs with rfl | rfl | rfl
 ·exact kr hw (Hi hq' hz) mV
 ·exact kr h2' (AI hz) mV
 ·exact kr hw (Hi hq' hz) mV
def HB (P : D → Prop) (d : Int) (zB : List Int → Int → Int → List ByteArray → Int → Bool → Option (List D × List Int × Int × Int)) : Prop :=
 ∀ b i h l w, cZ (b, i, h) → SN l → Ok (zB b i h l d w) (fun r => (r.1.length ≤ 4 ∧ PL P r.1) ∧ cZ r.2)
theorem uT {zB : List Int → Int → Int → List ByteArray → Int → Bool → Option (List (StT D) × List Int × Int × Int)} {d : Int} (hd : 0 ≤ d ∧ d ≤ 10) (hB : 1 < d → HB (PS P) (d - 1) zB) : HB (PS (PS P)) d (jh zB) := by
 intro b i h l w hc hn
 unfold jh
 refine (cC hc).bO fun x1 h1 => ?_
 have hx1 := h1.1.2.1 (by omega)
 have h3 := hn.1
 have key : ∀ (m j : Nat) (b : List Int) (i h : Int) (o : List (StT (StT D))), j ≤ 4 → 4 - j < m → o.length ≤ j → (∀ q ∈ o, PS (PS P) q) → cZ (b, i, h) → Ok (bw zB l d w x1 m b i h (j : Int) o) (fun r => (r.1.length ≤ 4 ∧ PL (PS (PS P)) r.1) ∧ cZ r.2) := by
  intro m
  induction m with
  | zero => intro j _ _ _ _ _ h; omega
  | succ m ih =>
   intro j b i h o hj hm ho hs hc
   rw [bw]
   unfold lL
   refine Ok.br (fun e => (cC hc).bO fun x36 h36 => ?_) (fun _ => Ok.some ⟨⟨by show o.length ≤ 4; omega, by show o.length ≤ 10; omega, hs⟩, hc⟩)
   have hj4 : j < 4 := by have := of_decide_eq_true e; omega
   have nx : ∀ (b : List Int) (i h : Int), cZ (b, i, h) → Ok (bI (j : Int) (bw zB l d w x1 m) b i h o) (fun r => (r.1.length ≤ 4 ∧ PL (PS (PS P)) r.1) ∧ cZ r.2) := fun b i h hc => by
    unfold bI
    rw [cn hj4 (by omega)]
    exact ih (j + 1) b i h o (by omega) (by omega) (by omega) hs hc
   have ad : ∀ (b : List Int) (i h : Int) (q : StT (StT D)), PS (PS P) q → cZ (b, i, h) → Ok (gd (decide (o.length + [q].length ≤ 16777216)) (bI (j : Int) (bw zB l d w x1 m) b i h (o ++ [q]))) (fun r => (r.1.length ≤ 4 ∧ PL (PS (PS P)) r.1) ∧ cZ r.2) := fun b i h q hq hc => by
    refine Ok.gd (decide_eq_true (by simp; omega)) ?_
    unfold bI
    rw [cn hj4 (by omega)]
    refine ih (j + 1) b i h _ (by omega) (by omega) (by simp; omega) (fun y hy => ?_) hc
    rcases List.mem_append.1 hy with h | h
    ·exact hs y h
    ·simp only [List.mem_cons, List.not_mem_nil, or_false] at h
     subst h; exact hq
   have e0 : SW (ByteArray.mk #[]) := swl (n := 0) (by decide)
   have z9 : SW (ByteArray.mk #[122, 57]) := swl (n := 0) (by decide)
   have j9 : ∀ v : Int, (d ≤ 1 → v = 9) → Ok (gO zB l d w (j : Int) o (bw zB l d w x1 m) x36 v) (fun r => (r.1.length ≤ 4 ∧ PL (PS (PS P)) r.1) ∧ cZ r.2) := fun v hv => by
    have wd : IntKind.wrap .i64 (d - 1) = d - 1 := w64 (by omega) (by omega)
    unfold gO
    rw [wd]
    refine Ok.br (fun e => ?_) (fun _ => Ok.br (fun e => ?_) (fun _ => Ok.br (fun e => ?_) (fun _ => Ok.br (fun e => ?_) (fun _ => Ok.br (fun e => ?_) (fun _ => Ok.br (fun e => ?_) (fun _ => ?_))))))
    ·have e := eq_of_beq e
     exact (cC h36.2).bO fun x37 h37 => (hB (by omega) _ _ _ l w h37.2 hn).bO fun x38 h38 => ad _ _ _ _ (kr e0 Lb h38.1.2) h38.2
    ·have e := eq_of_beq e
     exact (Ok.br (R := fun (y : Bool × List Int × Int × Int) => cZ y.2) (fun _ => (jq h36.2).bO fun y hy => Ok.some hy) (fun _ => Ok.some h36.2)).bO fun x40 h40 => (hB (by omega) _ _ _ l _ h40 hn).bO fun x41 h41 => ad _ _ _ _ (kr e0 Lb h41.1.2) h41.2
    ·refine (cC h36.2).bO fun x45 h45 => (bg ⟨h45.1.1, h45.1.2.1 (by omega)⟩).bO fun q7 hq7 => (Hh l [q7] hn (by simp)).bO fun x46 h46 => Ok.br (fun e => ?_) (fun _ => nx _ _ _ h45.2)
     have hl := of_decide_eq_true e
     exact (qQ h45.2 (by simp)).bO fun x47 h47 => (bg ⟨by omega, hl⟩).bO fun q8 hq8 => ad _ _ _ _ (kr e0 (AI (hn.2 q7 hq7)) (wq (kr (sS h47.1 (by decide)) (AI (h46.2 q8 hq8)) mV))) h47.2
    ·refine (lz l _ (by omega)).bO fun x48 _ => (Ok.br (R := T Bool) (fun _ => Ok.some trivial) (fun _ => Ok.some trivial)).bO fun x49 _ => ?_
     unfold jw
     exact Ok.br (fun _ => (Di h36.2 hn z9).bO fun x50 h50 => ad _ _ _ _ (kr e0 (AI z9) h50.1) h50.2) (fun _ => nx _ _ _ h36.2)
    ·exact Ok.br (fun _ => (cC h36.2).bO fun x51 h51 => (bg ⟨h51.1.1, h51.1.2.1 (by omega)⟩).bO fun q9 hq9 => (qQ h51.2 (by simp)).bO fun x52 h52 => ad _ _ _ _ (kr e0 (Hi (hn.2 q9 hq9) (sS h52.1 (by decide))) mV) h52.2) (fun _ => nx _ _ _ h36.2)
    ·exact Ok.br (fun _ => (qQ h36.2 (by simp)).bO fun x53 h53 => (oc h53.2 hn).bO fun x54 h54 => ad _ _ _ _ (kr e0 (AI (sS h53.1 (by decide))) (wq (kr h54.1.1 h54.1.2 mV))) h54.2) (fun _ => nx _ _ _ h36.2)
    ·exact (oc h36.2 hn).bO fun x55 h55 => ad _ _ _ _ (kr h55.1.1 h55.1.2 mV) h55.2
   exact Ok.br (fun _ => j9 9 fun _ => rfl) (fun e => j9 _ fun hd => absurd hd (of_decide_eq_false e))
 exact key FU 0 _ _ _ [] (by omega) (by rw [bP]; omega) (by simp) (fun q h => by cases h) h1.2
end
theorem MM : HB P4 3 cB :=
 uT (by omega) fun _ => uT (by omega) fun _ => uT (P := P0) (by omega) fun h => by omega
theorem ws {b : List Int} {i h : Int} (hc : cZ (b, i, h)) : Ok (lx b i h) (fun r => (SN r.1 ∧ PL P4 r.2.1) ∧ cZ r.2.2) := by
 unfold lx
 refine (cC hc).bO fun x1 h1 => ?_
 have hx := h1.1.2.1 (by omega)
 obtain ⟨k, hk, hk3⟩ : ∃ k : Nat, IntKind.wrap .i64 (1 + x1.1) = ((k + 1 : Nat) : Int) ∧ k < 3 := ⟨x1.1.toNat, by rw [w64 (by omega) (by omega)]; omega, by omega⟩
 have hsl : Ok (slc ([ByteArray.mk #[97], ByteArray.mk #[98], ByteArray.mk #[99]]) 0 (IntKind.wrap .i64 (1 + x1.1))) SN := by
  rw [hk]
  unfold slc
  rw [if_pos (by simp; omega)]
  refine Ok.some ⟨by simp; omega, fun a ha => ?_⟩
  have ha := List.mem_of_mem_drop (List.mem_of_mem_take ha)
  exact sS ha (by decide)
 refine hsl.bO fun l1 hl1 => Ok.gd (decide_eq_true (by have := hl1.1; simp; omega)) ((jq h1.2).bO fun x2 h2 => ?_)
 refine (Ok.br (R := fun (y : Bool × List Int × Int × Int) => cZ y.2) (fun _ => (jq h2).bO fun y hy => Ok.some (r := (y.1, y.2.1, y.2.2.1, y.2.2.2)) hy) (fun _ => Ok.some (r := (false, x2.2.1, x2.2.2.1, x2.2.2.2)) h2)).bO fun x4 h4 => ?_
 have e0 : SW (ByteArray.mk #[]) := swl (n := 0) (by decide)
 have er : SW (ByteArray.mk #[114]) := swl (n := 0) (by decide)
 have j1 : ∀ (b : List Int) (i h : Int) (o : List (StT (StT (StT (StT Empty))))), o.length ≤ 0 ∨ o.length = 3 → (∀ q ∈ o, P4 q) → cZ (b, i, h) → Ok (fR l1 x2 b i h o) (fun r => (SN r.1 ∧ PL P4 r.2.1) ∧ cZ r.2.2) := fun b i h o ho hs hc => by
  unfold fR
  refine (MM b i h l1 x2.1 hc hl1).bO fun x8 h8 => Ok.gd (decide_eq_true (by omega)) (Ok.some ⟨⟨hl1, ?_⟩, h8.2⟩)
  refine ⟨by show (o ++ x8.1).length ≤ 10; rw [List.length_append]; omega, fun q hq => ?_⟩
  rcases List.mem_append.1 hq with h | h
  ·exact hs q h
  ·exact h8.1.2.2 q h
 unfold jy
 refine Ok.br (fun _ => (oc h4 hl1).bO fun x6 h6 => (bg ⟨by omega, by have := hl1.1; omega⟩).bO fun q1 hq1 => (oc h6.2 hl1).bO fun x7 h7 => Ok.gd (decide_eq_true (by simp)) (j1 _ _ _ _ (.inr rfl) (fun q hq => ?_) h7.2)) (fun _ => j1 _ _ _ [] (.inl (by simp)) (fun q h => by cases h) h4)
 simp only [List.mem_cons, List.not_mem_nil, or_false] at hq
 rcases hq with rfl | rfl | rfl
 ·exact kr h6.1.1 h6.1.2 mV
 ·exact kr e0 (Hi (hl1.2 q1 hq1) er) mV
 ·exact kr e0 (AI er) (wq (kr h7.1.1 h7.1.2 mV))
theorem Lc (o : OP) : hx o ≤ 1 := by
 unfold hx kq
 split <;> (try split) <;> omega
theorem uU : ∀ (l k : List OP), hcO (l ++ k) = hcO l + hcO k
 | [], k => by simp [hcO]
 | o :: l, k => by
  show hx o + hcO (l ++ k) = hx o + hcO l + hcO k
  rw [uU l k, Nat.add_assoc]
theorem xh : ∀ L : List OP, hcO L ≤ AG L
 | [] => Nat.le_refl 0
 | o :: L => by
  have := xh L
  unfold hcO AG hx kq
  split <;> (try split) <;> omega
def DP (L : List OP) : Prop := L.length ≤ 4000000 ∧ hcO L ≤ 23
theorem Dj {L : List OP} (o : OP) (h : L.length ≤ 8) : DP (L ++ [o]) := by
 have h1 := uE L
 have h2 := Lc o
 refine ⟨by simp; omega, ?_⟩
 rw [uU]
 show hcO L + (hx o + 0) ≤ 23
 omega
theorem AM {b : List Int} {i h : Int} (hc : cZ (b, i, h)) : Ok (n8 b i h 8) (fun r => DP r.2.2.2.1 ∧ cZ r.2.2.2.2) := by
 unfold n8
 refine (wo hc (by omega)).bO fun x1 h1 => ?_
 have hl : x1.2.2.2.1.length ≤ 8 := by have := h1.1; omega
 have hd : DP x1.2.2.2.1 := ⟨by omega, by have := uE x1.2.2.2.1; omega⟩
 refine (cC h1.2).bO fun x2 h2 => ?_
 unfold cO
 refine Ok.br (fun _ => (rT h2.2 (by simp)).bO fun y hy => Ok.some ⟨hd, hy.2⟩) (fun _ => Ok.br (fun _ => (rT h2.2 (by simp)).bO fun y hy => Ok.some ⟨hd, hy.2⟩) (fun _ => Ok.br (fun _ => (rT h2.2 (by simp)).bO fun y hy => Ok.some ⟨hd, hy.2⟩) (fun _ => Ok.br (fun _ => ?_) (fun _ => Ok.br (fun _ => ?_) (fun _ => Ok.br (fun _ => ?_) (fun _ => Ok.some ⟨hd, h2.2⟩))))))
 ·exact (cC h2.2).bO fun y6 h6 => (cC h6.2).bO fun y7 h7 => (cC h7.2).bO fun y8 h8 => (cC h8.2).bO fun y9 h9 => Ok.gd (decide_eq_true (by simp; omega)) (Ok.some ⟨Dj _ hl, h9.2⟩)
 ·exact (cC h2.2).bO fun y6 h6 => Ok.gd (decide_eq_true (by simp; omega)) (Ok.some ⟨Dj _ hl, h6.2⟩)
 ·refine (jq h2.2).bO fun x11 h11 => Ok.br (fun _ => ?_) (fun _ => Ok.some ⟨hd, h11⟩)
  have key : ∀ (m : Nat) (b : List Int) (i h : Int) (o : List OP), 200 - o.length < m → o.length ≤ 130 → hcO o ≤ 8 → cZ (b, i, h) → Ok (fF x1 m b i h o) (fun r => DP r.2.2.2.1 ∧ cZ r.2.2.2.2) := by
   intro m
   induction m with
   | zero => intro b i h o h1; omega
   | succ m ih =>
    intro b i h o hm ho hh hc
    rw [fF]
    refine (cC hc).bO fun x14 h14 => ?_
    have h3 := h14.1.2.1 (by omega)
    have h0 := h14.1.1
    unfold cO
    rw [w64 (by omega) (by omega)]
    refine Ok.br (fun e => Ok.gd (decide_eq_true (by simp; omega)) ?_) (fun _ => Ok.some ⟨⟨by show o.length ≤ 4000000; omega, by show hcO o ≤ 23; omega⟩, h14.2⟩)
    have e := of_decide_eq_true e
    refine ih _ _ _ _ (by simp; omega) (by simp; omega) ?_ h14.2
    rw [uU]
    have : hcO [((1, 1, 0, 0, 0, 0, 0, 0) : OP)] = 0 := by decide
    omega
  exact key FU _ _ _ _ (by rw [bP]; omega) (by omega) (by have := uE x1.2.2.2.1; omega) h11
theorem Dk {b : List Int} {i h : Int} (hc : cZ (b, i, h)) : Ok (oM b i h) (fun r => DP r.2.2.2.1) := by
 unfold oM
 have j1 : ∀ (b : List Int) (i h : Int), cZ (b, i, h) → Ok (iQ b i h) (fun r => DP r.2.2.2.1) := fun b i h hc => by
  unfold iQ
  exact (AM hc).bO fun x hx => Ok.some hx.1
 refine (jq hc).bO fun x1 h1 => Ok.br (fun _ => (ws h1).bO fun x2 h2 => (Hg h2.1.1 h2.1.2).bO fun x3 h3 => ?_) (fun _ => j1 _ _ _ h1)
 refine (Ok.br (R := fun r => r = true → hcO x3.2.2.2.1 ≤ 20) (fun _ => ?_) (fun _ => Ok.some fun h => by cases h)).bO fun x5 h5 => ?_
 ·rw [vY _ _ _ _ (by omega), aC]
  refine Ok.some fun e => ?_
  have := of_decide_eq_true e
  have := xh x3.2.2.2.1
  omega
 ·unfold mI
  exact Ok.br (fun e => Ok.some ⟨by show x3.2.2.2.1.length ≤ _; omega, by show hcO x3.2.2.2.1 ≤ 23; have := h5 e; omega⟩) (fun _ => j1 _ _ _ h2.2)
theorem Hj {code : List Int} (h : code.length ≤ 1048576) : Ok (eY code) (fun r => DP r.2.2.2) := by
 unfold eY
 exact (JQ h).bO fun c hc => (Dk hc).bO fun x hx => Ok.some hx
section
open Go.RowKit Go.Lib
abbrev va := Int × Int × Int × Int
def SlQ (w : World) (A : Option Addr) (n : Nat) (l : List va) : Prop :=
 l.length = n ∧ (0 < n → ∃ b off, A = some ⟨b, off, none⟩ ∧ b < w.heap.size ∧ ∀ (i : Nat) (q : va), l[i]? = some q →
   w.cell? ⟨b, off + i * 4, none⟩ = some (.int .i64 q.1) ∧ w.cell? ⟨b, off + i * 4 + 1, none⟩ = some (.int .i64 q.2.1) ∧
   w.cell? ⟨b, off + i * 4 + 2, none⟩ = some (.int .i64 q.2.2.1) ∧ w.cell? ⟨b, off + i * 4 + 3, none⟩ = some (.int .i64 q.2.2.2))
theorem SlQ.at {w : World} {A : Option Addr} {n k : Nat} {l : List va} (h : SlQ w A n l) (hk : k < n) :
  ∃ (b off : Nat) (q0 q1 q2 q3 : Int), A = some ⟨b, off, none⟩ ∧ b < w.heap.size ∧ Hid (l[k]? = some (q0, q1, q2, q3)) ∧
   w.cell? ⟨b, off + k * 4, none⟩ = some (.int .i64 q0) ∧ w.cell? ⟨b, off + k * 4 + 1, none⟩ = some (.int .i64 q1) ∧
   w.cell? ⟨b, off + k * 4 + 2, none⟩ = some (.int .i64 q2) ∧ w.cell? ⟨b, off + k * 4 + 3, none⟩ = some (.int .i64 q3) := by
 obtain ⟨b, off, hA, hb, hc⟩ := h.2 (by omega)
 have hl : k < l.length := by rw [h.1]; exact hk
 obtain ⟨c0, c1, c2, c3⟩ := hc k _ (List.getElem?_eq_getElem hl)
 exact ⟨b, off, l[k].1, l[k].2.1, l[k].2.2.1, l[k].2.2.2, hA, hb, hid (List.getElem?_eq_getElem hl), c0, c1, c2, c3⟩
theorem SlQ.keep {w w' : World} {A : Option Addr} {n : Nat} {l : List va} (h : SlQ w A n l) (hs : w.heap.size ≤ w'.heap.size)
  (hk : ∀ p : Addr, p.block < w.heap.size → w'.cell? p = w.cell? p) : SlQ w' A n l :=
 ⟨h.1, fun hn => by
   obtain ⟨b, off, hA, hb, hc⟩ := h.2 hn
   refine ⟨b, off, hA, by omega, fun i q hq => ?_⟩
   obtain ⟨c0, c1, c2, c3⟩ := hc i q hq
   exact ⟨(hk _ hb).trans c0, (hk _ hb).trans c1, (hk _ hb).trans c2, (hk _ hb).trans c3⟩⟩
theorem SlQ.below {w w' : World} {A : Option Addr} {n : Nat} {l : List va} (h : SlQ w A n l) (hb : Below w.heap.size w w') : SlQ w' A n l :=
 h.keep hb.size fun _ hp => hb.cell hp
theorem SlQ.alloc {w : World} {A : Option Addr} {n : Nat} {l : List va} (h : SlQ w A n l) (o : Obj) : SlQ (w.alloc o) A n l :=
 h.below ((Below.refl _ _).alloc (Nat.le_refl _) o)
theorem SlQ.drewN {w : World} {A : Option Addr} {n : Nat} {l : List va} (h : SlQ w A n l) (k : Nat) : SlQ (w.drewN k) A n l := h
theorem SlQ.drew {w : World} {A : Option Addr} {n : Nat} {l : List va} (h : SlQ w A n l) : SlQ w.drew A n l := h
theorem SlQ.nil (w : World) (A : Option Addr) : SlQ w A 0 [] := ⟨rfl, fun h => absurd h (by omega)⟩
def SlI (w : World) (A : Option Addr) (n : Nat) (l : List Int) : Prop :=
 l.length = n ∧ (0 < n → ∃ b off, A = some ⟨b, off, none⟩ ∧ b < w.heap.size ∧ ∀ (i : Nat) (q : Int), l[i]? = some q → w.cell? ⟨b, off + i, none⟩ = some (.int .i64 q))
theorem SlI.at {w : World} {A : Option Addr} {n k : Nat} {l : List Int} (h : SlI w A n l) (hk : k < n) :
  ∃ (b off : Nat) (q : Int), A = some ⟨b, off, none⟩ ∧ b < w.heap.size ∧ Hid (l[k]? = some q) ∧ w.cell? ⟨b, off + k, none⟩ = some (.int .i64 q) := by
 obtain ⟨b, off, hA, hb, hc⟩ := h.2 (by omega)
 have hl : k < l.length := by rw [h.1]; exact hk
 exact ⟨b, off, l[k], hA, hb, hid (List.getElem?_eq_getElem hl), hc k _ (List.getElem?_eq_getElem hl)⟩
theorem SlI.keep {w w' : World} {A : Option Addr} {n : Nat} {l : List Int} (h : SlI w A n l) (hs : w.heap.size ≤ w'.heap.size)
  (hk : ∀ p : Addr, p.block < w.heap.size → w'.cell? p = w.cell? p) : SlI w' A n l :=
 ⟨h.1, fun hn => by
   obtain ⟨b, off, hA, hb, hc⟩ := h.2 hn
   exact ⟨b, off, hA, by omega, fun i q hq => (hk _ hb).trans (hc i q hq)⟩⟩
theorem SlI.below {w w' : World} {A : Option Addr} {n : Nat} {l : List Int} (h : SlI w A n l) (hb : Below w.heap.size w w') : SlI w' A n l :=
 h.keep hb.size fun _ hp => hb.cell hp
theorem SlI.alloc {w : World} {A : Option Addr} {n : Nat} {l : List Int} (h : SlI w A n l) (o : Obj) : SlI (w.alloc o) A n l :=
 h.below ((Below.refl _ _).alloc (Nat.le_refl _) o)
theorem SlI.nil (w : World) (A : Option Addr) : SlI w A 0 [] := ⟨rfl, fun h => absurd h (by omega)⟩
end
section
open Go.ChangeShapes Go.WideShapes Go.ChangeAt Go.RowKit Go.Joins Go.Deep
theorem own : ownKnob Tryz.prog.godebug = none := by kernel_rfl
theorem laidOut : laidOutB Tryz.prog = true := by kernel_rfl
section
variable {H : Type} {enc : TypeId × Value → H} {P : Program} {w : World} {base : Nat} {spare : Nat → Bool} {held : Bool}
end
end
section
open Go.ChangeShapes Go.WideShapes Go.ChangeAt Go.RowKit Go.Joins Go.Deep
section
variable {H : Type} {enc : TypeId × Value → H} {P : Program} {w : World} {base : Nat} {spare : Nat → Bool} {held : Bool}
end
end
def wM (w : World) : Imm := fun b o => match w.cell? ⟨b, o, none⟩ with
 | some v => if v.oneCell' && !slV v then some v else none
 | none => none
theorem Hk {w : World} {b o : Nat} {v : Value} (h : w.cell? ⟨b, o, none⟩ = some v) (h1 : v.oneCell' = true) (h2 : slV v = false := by rfl) : wM w b o = some v := by simp [wM, h, h1, h2]
theorem K1 {w : World} {b o : Nat} {v : Value} (h : wM w b o = some v) : w.cell? ⟨b, o, none⟩ = some v ∧ rX w b o v := by
 unfold wM at h
 split at h
 ·rename_i u hu
  split at h
  ·rename_i h1
   injection h with h; subst h
   rw [Bool.and_eq_true, Bool.not_eq_true'] at h1
   exact ⟨hu, h1.1, fun h => by rw [h1.2] at h; cases h⟩
  ·cases h
 ·cases h
theorem wt {P : Program} {f : FuncId} {args : List AV} {b : Bool} {vs : Array Value} {w : World} (hS : aU P f args [] (.bool b) []) (hlen : args.length = vs.size)
  (hv : ∀ (i : Nat) (c : AV) (v : Value), args[i]? = some c → vs[i]? = some v → VR (wM w) (fun _ => none) c v) : Calls P f vs w fun e w' => e = .returned (.bool b) ∧ Below w.heap.size w w' := by
 refine (hS.2 (wM w) (fun _ => none) w vs (MR.empty _ _ _ fun b o v h => K1 h) (fun _ _ => rfl) hlen hv).mono ?_
 rintro e w' ⟨v, M', ρ', rfl, _, _, _, _, hr, hc, _, _⟩
 obtain rfl := hr.bool_inv
 refine ⟨rfl, hc.os, hc.tape, hc.output, hc.size, fun k hk => hc.block k hk ?_⟩
 rintro ⟨s, r, x, hs, _⟩
 simp [bd] at hs
theorem vb {α : Type} {e : α → List AV} {sz : Nat} (h : ∀ x, (e x).length = sz) : ∀ (l : List α) (k j : Nat) (q : α), l[k]? = some q → j < sz → (aB e l)[k * sz + j]? = (e q)[j]?
 | x :: l, 0, j, q, hq, hj => by
  simp only [List.getElem?_cons_zero, Option.some.injEq] at hq
  subst hq
  rw [qT, Nat.zero_mul, Nat.zero_add, List.getElem?_append_left (by rw [h]; exact hj)]
 | x :: l, k + 1, j, q, hq, hj => by
  rw [qT, List.getElem?_append_right (by rw [h, Nat.succ_mul]; omega), h, show (k + 1) * sz + j - sz = k * sz + j by rw [Nat.succ_mul]; omega]
  exact vb h l k j q (by simpa using hq) hj
theorem Ld {M : Imm} {ρ : Plc} {x : AV} {u : Value} (h1 : VR M ρ x u) : ∀ (i : Nat) (c : AV) (w : Value), [x][i]? = some c → #[u][i]? = some w → VR M ρ c w := by
 intro i c w hc hw
 match i with
 | 0 => simp at hc hw; subst hc hw; exact h1
 | i + 1 => simp at hc
section
open Go.ChangeShapes Go.WideShapes Go.ChangeAt Go.RowKit Go.Joins Go.Deep
def sT (w : World) (A : Option Addr) (n c : Nat) (zs : List Int) : Prop :=
 n ≤ maxLen ∧ n ≤ c ∧ zs.length = n ∧ (∀ z ∈ zs, 0 ≤ z ∧ z ≤ 255) ∧ (0 < n → ∃ b off, A = some ⟨b, off, none⟩ ∧ b < w.heap.size ∧ ∀ i z, zs[i]? = some z → w.cell? ⟨b, off + i, none⟩ = some (.int .u8 z))
section
variable {H : Type} {enc : TypeId × Value → H} {P : Program} {w : World} {base : Nat} {spare : Nat → Bool} {held : Bool}
theorem isBytesC_of_trod {t e : TypeId} {A : Option Addr} {n c : Nat} {d : DataW H} {p : List MemPlace} (ht : P.underlying t = some (.slice e)) (he : P.underlying e = some (.int .u8)) (hC : P.cellsOf e = 1)
  (h : DataW.Trod enc P w base spare held t (.slice A n c) d p) : ∃ zs, sT w A n c zs := by
 obtain ⟨fuel, hf⟩ := h
 rcases open_ints ht he hC hf with ⟨hcs, _⟩ | ⟨x, l, c', zs, hcs, _, hl, hm, hz, _, hcell, hwz⟩
 ·simp [Value.cells] at hcs
  obtain ⟨rfl, rfl, rfl⟩ := hcs
  exact ⟨[], by simp [maxLen], Nat.le_refl _, rfl, by simp, fun h => absurd h (by omega)⟩
 ·simp [Value.cells] at hcs
  obtain ⟨rfl, rfl, rfl⟩ := hcs
  have hlz : n ≤ zs.length := by rw [hz]; split <;> omega
  refine ⟨zs.take n, by omega, hl, by simp; omega, fun z hz' => ?_, fun hp => ?_⟩
  ·have := hwz z (List.mem_of_mem_take hz')
   have := bounds_u8 this
   omega
  ·obtain ⟨b, off, spot⟩ := x
   have h0 := hcell 0 (by omega)
   have hs : spot = none := by simpa [Addr.add] using World.cell?_spot h0
   subst hs
   refine ⟨b, off, rfl, ?_, fun i z hiz => ?_⟩
   ·exact World.block_lt_of_cell? w _ (by simpa [Addr.add] using h0)
   ·have hi : i < n := by
     rcases Nat.lt_or_ge i n with h' | h'
     ·exact h'
     ·rw [List.getElem?_eq_none (by simp; omega)] at hiz; cases hiz
    have hc := hcell i (by omega)
    rw [show (⟨b, off, none⟩ : Addr).add i = ⟨b, off + i, none⟩ from by unfold Addr.add; split <;> simp_all] at hc
    rw [hc]
    have : zs.getD i 0 = z := by
     rw [List.getElem?_take, if_pos hi] at hiz
     simp [hiz]
    rw [this]
end
theorem Dl {w : World} {A : Option Addr} {n c : Nat} {l : List Int} (h : sT w A n c l) : PV (wM w) (.sl (aB EB l) l.length) (.slice A n c) := by
 obtain rfl := h.2.2.1
 have hc := h.2.1
 have H := h.2.2.2.2
 by_cases hp : 0 < l.length
 ·obtain ⟨b, off, hA, hb, hcell⟩ := H hp
  have hlen := iY EBl l
  have key : ∀ (i : Nat) (x : AV), (aB EB l)[i]? = some x → ∃ n : Int, x = .int .u8 n ∧ w.cell? ⟨b, off + i, none⟩ = some (.int .u8 n) := by
   intro i x hx
   have hi : i < l.length := by
    have : i < l.length * 1 := by
     rw [← hlen]
     rcases Nat.lt_or_ge i (aB EB l).length with h' | h'
     ·exact h'
     ·rw [List.getElem?_eq_none h'] at hx; cases hx
    omega
   have hq := List.getElem?_eq_getElem hi
   have e := vb EBl l i 0 _ hq (by omega)
   rw [show i * 1 + 0 = i by omega, hx] at e
   simp only [EB, List.getElem?_cons_zero, Option.some.injEq] at e
   exact ⟨_, e, hcell i _ hq⟩
  refine .sl _ _ _ _ b off (fun i => (w.cell? ⟨b, off + i, none⟩).getD undef) (fun _ => hA) hc (fun i x hx => ?_) (fun i x hx => ?_)
  ·obtain ⟨n, rfl, hn⟩ := key i x hx
   rw [Hk hn rfl, hn]; rfl
  ·obtain ⟨n, rfl, hn⟩ := key i x hx
   simp only [hn, Option.getD_some]
   exact .int ..
 ·have : l = [] := List.eq_nil_of_length_eq_zero (by omega)
  subst this
  exact .sl _ _ _ _ 0 0 (fun _ => undef) (fun h => absurd h (by simp)) hc (fun i x hx => by simp [aB] at hx) (fun i x hx => by simp [aB] at hx)
end
theorem uV (code : List Int) : gT code = some true := by
 by_cases h : (1048576 : Int) < (code.length : Int)
 ·unfold gT
  rw [show vS code = some (decide (1048576 < (code.length : Int))) from rfl, aC, decide_eq_true h, aS]
 ·obtain ⟨x2, e, h1, h2⟩ := Hj (code := code) (by omega)
  exact Dc e h1 h2
theorem law_Ou (A : Option Addr) (n c : Nat) (l : List Int) (w : World) (wa : sT w A n c l) :
  Calls Tryz.prog 4 #[.slice A n c] w fun e w' => e = .returned (.bool true) ∧ Below w.heap.size w w' :=
 wt (rD (uV l)) rfl (Ld (.plain (Dl wa)))
end Go.Proofs.YtbfmljdablopjaaGreat
