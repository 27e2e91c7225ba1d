/- The engine, part 17: words for walks that a program prints. Over any program. -/
import Derived.Test.YtfpfalknddfejaaEp
namespace Go.Proofs.Ytfpfalknddfejaa
open Go.RowKit
set_option linter.unusedVariables false
set_option linter.unusedSimpArgs false

-- words of the models
def FU : Nat := 4194304
section
variable {α β : Type}
def bO (x : Option α) (k : α → Option β) : Option β := match x with
  | some a => k a
  | none => none
def gd (p : Bool) (k : Option β) : Option β := match p with
  | true => k
  | false => none
def br (b : Bool) (x y : Option β) : Option β := match b with
  | true => x
  | false => y
def geti (l : List α) (i : Int) : Option α := if 0 ≤ i ∧ i < (l.length : Int) then l[i.toNat]? else none
def slc (l : List α) (a b : Int) : Option (List α) := if 0 ≤ a ∧ a ≤ b ∧ b ≤ (l.length : Int) then some ((l.drop a.toNat).take (b.toNat - a.toNat)) else none
theorem bO_inv {x : Option α} {k : α → Option β} {r : β} (h : bO x k = some r) : ∃ a, x = some a ∧ k a = some r := by
  cases x with
  | none => cases h
  | some a => exact ⟨a, rfl, h⟩
theorem gd_inv {p : Bool} {k : Option β} {r : β} (h : gd p k = some r) : p = true ∧ k = some r := by
  cases p with
  | false => cases h
  | true => exact ⟨rfl, h⟩
theorem br_inv {b : Bool} {x y : Option β} {r : β} (h : br b x y = some r) : (b = true ∧ x = some r) ∨ (b = false ∧ y = some r) := by
  cases b with
  | false => exact .inr ⟨rfl, h⟩
  | true => exact .inl ⟨rfl, h⟩
theorem geti_inv {l : List α} {i : Int} {q : α} (h : geti l i = some q) : (0 ≤ i ∧ i < (l.length : Int)) ∧ l[i.toNat]? = some q := by
  unfold geti at h
  split at h
  · exact ⟨by assumption, h⟩
  · cases h
theorem br_t {x y : Option β} {r : β} (h : br true x y = some r) : x = some r := h
theorem br_f {x y : Option β} {r : β} (h : br false x y = some r) : y = some r := h
theorem bO_some (a : α) (k : α → Option β) : bO (some a) k = k a := rfl
theorem gd_true (k : Option β) : gd true k = k := rfl
theorem br_true (x y : Option β) : br true x y = x := rfl
theorem br_false (x y : Option β) : br false x y = y := rfl

-- lists of cells
def encL (e : α → List AV) : List α → List AV
  | [] => []
  | x :: l => e x ++ encL e l
variable {e : α → List AV} {sz : Nat}
theorem encL_nil : encL e [] = [] := (rfl)
theorem encL_cons (x : α) (l : List α) : encL e (x :: l) = e x ++ encL e l := (rfl)
theorem encL_app : ∀ l m : List α, encL e (l ++ m) = encL e l ++ encL e m
  | [], m => rfl
  | x :: l, m => by simp [encL, encL_app l m]
theorem encL_len (h : ∀ x, (e x).length = sz) : ∀ l : List α, (encL e l).length = l.length * sz
  | [] => by simp [encL]
  | x :: l => by simp [encL, encL_len h l, h, Nat.add_mul]; omega
theorem encL_drop (h : ∀ x, (e x).length = sz) : ∀ (l : List α) (k : Nat), (encL e l).drop (k * sz) = encL e (l.drop k)
  | [], k => by simp [encL]
  | x :: l, 0 => by simp
  | x :: l, k + 1 => by
    have e1 : (k + 1) * sz = sz + k * sz := by rw [Nat.add_mul, Nat.one_mul, Nat.add_comm]
    have e2 : (e x ++ encL e l).drop sz = encL e l := by rw [List.drop_append, h, Nat.sub_self, List.drop_zero, List.drop_of_length_le (by rw [h]; omega), List.nil_append]
    rw [e1, ← List.drop_drop]
    show ((e x ++ encL e l).drop sz).drop (k * sz) = _
    rw [e2, encL_drop h l k, List.drop_succ_cons]
theorem encL_take (h : ∀ x, (e x).length = sz) : ∀ (l : List α) (k : Nat), (encL e l).take (k * sz) = encL e (l.take k)
  | [], k => by simp [encL]
  | x :: l, 0 => by simp [encL]
  | x :: l, k + 1 => by
    rw [Nat.add_mul, Nat.one_mul, Nat.add_comm]
    simp only [encL, List.take_succ_cons]
    rw [List.take_append, h, List.take_of_length_le (by rw [h]; omega), Nat.add_sub_cancel_left, encL_take h l k]
/-- An element that is there: the bounds, and what the cells are from there on. -/
theorem geti_E (h : ∀ x, (e x).length = sz) {l : List α} {i : Int} {q : α} (hq : geti l i = some q) : (0 ≤ i ∧ i < (l.length : Int)) ∧ (encL e l).drop (i.toNat * sz) = e q ++ encL e (l.drop (i.toNat + 1)) := by
  obtain ⟨h1, h2⟩ := geti_inv hq
  refine ⟨h1, ?_⟩
  rw [encL_drop h]
  obtain ⟨hlt, he⟩ := List.getElem?_eq_some_iff.1 h2
  rw [List.drop_eq_getElem_cons hlt, he]
  rfl
theorem geti_F (h : ∀ x, (e x).length = sz) (o : Nat) {l : List α} {i : Int} {q : α} (hq : geti l i = some q) : (encL e l).drop (i.toNat * sz + o) = (e q ++ encL e (l.drop (i.toNat + 1))).drop o := by
  rw [← (geti_E h hq).2, List.drop_drop]
theorem slc_E (h : ∀ x, (e x).length = sz) {l s : List α} {a b : Int} (hq : slc l a b = some s) : (0 ≤ a ∧ a ≤ b ∧ b ≤ (l.length : Int)) ∧ ((encL e l).drop (a.toNat * sz)).take (s.length * sz) = encL e s ∧ b.toNat - a.toNat = s.length := by
  unfold slc at hq
  split at hq
  · rename_i hc
    injection hq with hq
    subst hq
    have hl : ((l.drop a.toNat).take (b.toNat - a.toNat)).length = b.toNat - a.toNat := by simp; omega
    exact ⟨hc, by rw [hl, encL_drop h, encL_take h], hl.symm⟩
  · cases hq
theorem encL_splice (h : ∀ x, (e x).length = sz) : ∀ (l : List α) (k o : Nat) (q q' : α) (vs : List AV), l[k]? = some q → o + vs.length ≤ sz → e q' = spliceA (e q) o vs → spliceA (encL e l) (k * sz + o) vs = encL e (l.set k q')
  | [], k, o, q, q', vs, hq, _, _ => by simp at hq
  | x :: l, 0, o, q, q', vs, hq, ho, he => by
    simp at hq; subst hq
    simp only [encL, List.set_cons_zero, Nat.zero_mul, Nat.zero_add, he, spliceA]
    rw [List.take_append_of_le_length (by rw [h]; omega), List.drop_append_of_le_length (by rw [h]; omega)]
    simp only [List.append_assoc]
  | x :: l, k + 1, o, q, q', vs, hq, ho, he => by
    have ih := encL_splice h l k o q q' vs (by simpa using hq) ho he
    simp only [encL, List.set_cons_succ]
    rw [← ih]
    simp only [spliceA]
    have e1 : (k + 1) * sz + o = sz + (k * sz + o) := by rw [Nat.add_mul, Nat.one_mul]; omega
    rw [e1, List.take_append, List.take_of_length_le (by rw [h]; omega), h, Nat.add_sub_cancel_left, Nat.add_assoc, List.drop_append, List.drop_of_length_le (by rw [h]; omega), h, Nat.add_sub_cancel_left, List.nil_append]
    simp only [List.append_assoc]
theorem zrow_enc (z : α) : ∀ n, zrow n (e z) = encL e (List.replicate n z)
  | 0 => rfl
  | n + 1 => by simp only [zrow, List.replicate_succ, encL, zrow_enc z n]
/-- A store into an element. -/
theorem set_E (h : ∀ x, (e x).length = sz) {l : List α} {i : Int} {q : α} (q' : α) (o : Nat) (vs : List AV) (hq : geti l i = some q) (ho : o + vs.length ≤ sz) (he : e q' = spliceA (e q) o vs) :
    spliceA (encL e l) (i.toNat * sz + o) vs = encL e (l.set i.toNat q') ∧ i.toNat * sz + o + vs.length ≤ (encL e l).length := by
  obtain ⟨h1, h2⟩ := geti_inv hq
  refine ⟨encL_splice h l _ o q q' vs h2 ho he, ?_⟩
  rw [encL_len h]
  have h3 : i.toNat + 1 ≤ l.length := by omega
  have h4 : (i.toNat + 1) * sz ≤ l.length * sz := Nat.mul_le_mul_right _ h3
  rw [Nat.add_mul, Nat.one_mul] at h4
  omega
end

/-- What a contract takes, and more: nil for an empty slice. -/
def gid : GMap := fun s => some (some s)
def fno : Nat → Option Row := fun _ => none
def cvA : List AV → List AV → Prop
  | [], [] => True
  | a :: al, b :: bl => cvV gid fno a b ∧ cvA al bl
  | _, _ => False
def cvRs : List Row → List Row → Prop
  | [], [] => True
  | a :: al, b :: bl => cvR gid fno a b ∧ cvRs al bl
  | _, _ => False
section
variable {M : Imm} {ρ : Plc} {w : World}
theorem VR.cv1 {c c' : AV} {v : Value} (hv : VR M ρ c v) (hc : cv1 gid fno c c') : VR M ρ c' v := by
  unfold Proofs.Ytfpfalknddfejaa.cv1 at hc
  split at hc
  · exact .plain (.top _)
  · obtain ⟨hg, rfl⟩ := hc
    injection hg with hg; injection hg with hg; subst hg; exact hv
  · obtain ⟨hg, rfl⟩ := hc
    injection hg with hg; cases hg
  · obtain ⟨hg, rfl⟩ := hc
    injection hg with hg; injection hg with hg; subst hg; exact hv
  · obtain ⟨rfl, rfl⟩ := hc; exact hv
  · obtain ⟨rfl, rfl⟩ := hc
    obtain rfl := hv.nil_inv
    exact .plain (.sl [] 0 none 0 0 0 (fun _ => undef) (fun h => by omega) (Nat.le_refl _) (fun i c hc => by simp at hc) (fun i c hc => by simp at hc))
  · exact hc.1.elim
  · obtain ⟨rfl, rfl⟩ := hc; exact hv
  · subst hc; exact hv
  · subst hc; exact hv
  · exact hv
  · subst hc; exact hv
  · exact hc.elim
theorem VR.cvV {c c' : AV} {v : Value} (hv : VR M ρ c v) (hc : cvV gid fno c c') : VR M ρ c' v := by
  unfold Proofs.Ytfpfalknddfejaa.cvV at hc
  split at hc
  · obtain ⟨vs, rfl, hl, h1, h2⟩ := hv.agg_inv
    obtain ⟨e1, e2⟩ := cvL_get hc
    refine .agg _ _ (by omega) h1 (fun i c' u hc' hu => ?_)
    obtain ⟨c, hc, hcc⟩ := e2 i c' hc'
    exact (h2 i c u hc hu).cv1 hcc
  · exact hv.cv1 hc
theorem cvA_get : ∀ {al bl : List AV}, cvA al bl → al.length = bl.length ∧ ∀ (i : Nat) (b : AV), bl[i]? = some b → ∃ a, al[i]? = some a ∧ Proofs.Ytfpfalknddfejaa.cvV gid fno a b
  | [], [], _ => ⟨rfl, fun i c h => by simp at h⟩
  | a :: al, b :: bl, h => by
    obtain ⟨h1, h2⟩ := cvA_get h.2
    refine ⟨by simp [h1], fun i q hq => ?_⟩
    cases i with
    | zero => simp only [List.getElem?_cons_zero, Option.some.injEq] at hq; subst hq; exact ⟨a, rfl, h.1⟩
    | succ i => exact h2 i q (by simpa using hq)
  | [], _ :: _, h => h.elim
  | _ :: _, [], h => h.elim
theorem cvRs_get : ∀ {al bl : List Row}, cvRs al bl → al.length = bl.length ∧ ∀ (i : Nat) (b : Row), bl[i]? = some b → ∃ a, al[i]? = some a ∧ cvR gid fno a b
  | [], [], _ => ⟨rfl, fun i c h => by simp at h⟩
  | a :: al, b :: bl, h => by
    obtain ⟨h1, h2⟩ := cvRs_get h.2
    refine ⟨by simp [h1], fun i q hq => ?_⟩
    cases i with
    | zero => simp only [List.getElem?_cons_zero, Option.some.injEq] at hq; subst hq; exact ⟨a, rfl, h.1⟩
    | succ i => exact h2 i q (by simpa using hq)
  | [], _ :: _, h => h.elim
  | _ :: _, [], h => h.elim
theorem cvR_solid {g : GMap} {F : Nat → Option Row} {r r' : Row} (h : cvR g F r r') (hs : r'.solid = true) : r.solid = true := by
  unfold cvR at h
  split at h
  · rfl
  · rfl
  · cases hs
  · exact h.elim
theorem RowAt.cv {r r' : Row} {x : At} (h : RowAt M ρ w r x) (hc : cvR gid fno r r') : RowAt M ρ w r' x := by
  unfold cvR at hc
  split at hc
  · obtain ⟨rfl, hL⟩ := hc
    obtain ⟨h0, arr, a1, a2, a3, a4⟩ := h
    obtain ⟨l1, l2⟩ := cvL_get hL
    refine ⟨h0, arr, a1, by omega, a3, fun i c' v hc hv => ?_⟩
    obtain ⟨c, hc', hcc⟩ := l2 i c' hc
    exact (a4 i c v hc' hv).cv1 hcc
  · obtain ⟨rfl, rfl, rfl⟩ := hc; exact h
  · trivial
  · exact hc.elim
theorem MR.cv {mem mem' : List Row} (h : MR M ρ (rowsOf mem) w) (hc : cvRs mem mem') : MR M ρ (rowsOf mem') w := by
  obtain ⟨hl, hg⟩ := cvRs_get hc
  refine ⟨fun s r hr hs => ?_, fun s s' r r' x x' hr hr' hs hs' hx hx' => ?_, h.imm, fun b o v s r x hM hr hs hx => ?_⟩
  · obtain ⟨q, hq, hqc⟩ := hg s r hr
    obtain ⟨x, hx, hX⟩ := h.row s q hq (cvR_solid hqc hs)
    exact ⟨x, hx, hX.cv hqc⟩
  · obtain ⟨q, hq, hqc⟩ := hg s r hr
    obtain ⟨q', hq', hqc'⟩ := hg s' r' hr'
    exact h.inj s s' q q' x x' hq hq' (cvR_solid hqc hs) (cvR_solid hqc' hs') hx hx'
  · obtain ⟨q, hq, hqc⟩ := hg s r hr
    exact h.apt b o v s q x hM hq (cvR_solid hqc hs) hx
theorem Spec.le {P : Program} {f : FuncId} {args args' : List AV} {mem mem' out : List Row} {ret : AV} (h : Spec P f args' mem' ret out) (ha : cvA args args') (hm : cvRs mem mem') : Spec P f args mem ret out := by
  obtain ⟨h1, h2⟩ := h
  obtain ⟨al, ag⟩ := cvA_get ha
  obtain ⟨ml, mg⟩ := cvRs_get hm
  have hD : ∀ {ρ : Plc} {b : Nat}, DOf ρ (rowsOf mem') b → DOf ρ (rowsOf mem) b := by
    rintro ρ b ⟨s, r, x, e1, e2, e3⟩
    obtain ⟨q, hq, hqc⟩ := mg s r e1
    exact ⟨s, q, x, hq, cvR_solid hqc e2, e3⟩
  refine ⟨h1, fun M ρ w vs hmr hρ hlen hvs => ?_⟩
  refine (h2 M ρ w vs (hmr.cv hm) (fun s hs => hρ s (by omega)) (by omega) (fun i c v hc hv => ?_)).mono (fun e w' ⟨v, M', ρ', he, q1, q2, q3, q4, q5, q6, q7, q8⟩ => ⟨v, M', ρ', he, q1, q2, q3, q4, q5, ⟨q6.os, q6.tape, q6.output, q6.size, fun k hk hn => q6.block k hk fun hd => hn (hD hd)⟩, fun b hb hn => q7 b hb fun hd => hn (hD hd), fun s r x e1 e2 e3 e4 => (q8 s r x e1 e2 e3 e4).imp hD id⟩)
  obtain ⟨c0, hc0, hcc⟩ := ag i c hc
  exact (hvs i c0 v hc0 hv).cvV hcc
end

-- nothing in it refers to immutable cells
def fr1 : AV → Prop
  | .sl _ _ => False
  | .eptr _ => False
  | .agg _ => False
  | .tup _ => False
  | _ => True
def frL (f : AV → Prop) : List AV → Prop
  | [] => True
  | c :: cs => f c ∧ frL f cs
def fr2 : AV → Prop
  | .agg cs => frL fr1 cs
  | a => fr1 a
def fr3 : AV → Prop
  | .tup cs => frL fr2 cs
  | a => fr2 a
def frR : Row → Prop
  | .box _ cs => frL fr1 cs
  | .row _ _ cs => ∀ c ∈ cs, Free c
  | .gone => True
def frRs : List Row → Prop
  | [] => True
  | r :: rs => frR r ∧ frRs rs
theorem fr1_ok {a : AV} (h : fr1 a) : Free a := by
  cases a <;> first | exact h.elim | constructor
theorem frL_mem {f : AV → Prop} : ∀ {cs : List AV}, frL f cs → ∀ c ∈ cs, f c
  | [], _, c, h => by cases h
  | c' :: cs, h, c, hc => by
    rcases List.mem_cons.1 hc with rfl | hc
    · exact h.1
    · exact frL_mem h.2 c hc
theorem fr2_ok {a : AV} (h : fr2 a) : Free a := by
  by_cases hag : ∃ cs, a = .agg cs
  · obtain ⟨cs, rfl⟩ := hag
    exact .agg _ fun c hc => fr1_ok (frL_mem h c hc)
  · have e : fr2 a = fr1 a := by cases a <;> first | rfl | exact absurd ⟨_, rfl⟩ hag
    rw [e] at h; exact fr1_ok h
theorem fr3_ok {a : AV} (h : fr3 a) : Free a := by
  by_cases hag : ∃ cs, a = .tup cs
  · obtain ⟨cs, rfl⟩ := hag
    exact .tup _ fun c hc => fr2_ok (frL_mem h c hc)
  · have e : fr3 a = fr2 a := by cases a <;> first | rfl | exact absurd ⟨_, rfl⟩ hag
    rw [e] at h; exact fr2_ok h
theorem frRs_ok : ∀ {rs : List Row}, frRs rs → ∀ r ∈ rs, ∀ c ∈ r.cells, Free c
  | [], _, r, h => by cases h
  | r' :: rs, h, r, hr => by
    rcases List.mem_cons.1 hr with rfl | hr
    · intro c hc
      cases r with
      | box T cs => exact fr1_ok (frL_mem h.1 c hc)
      | row E sz cs => exact h.1 c hc
      | gone => cases hc
    · exact frRs_ok h.2 r hr
theorem free_enc {α : Type} {e : α → List AV} (h : ∀ x, frL fr1 (e x)) : ∀ l, (∀ c ∈ encL e l, Free c) = True
  | [] => by simp [encL]
  | x :: l => by
    refine eq_true (fun c hc => ?_)
    rcases List.mem_append.1 hc with hc | hc
    · exact fr1_ok (frL_mem (h x) c hc)
    · exact (of_eq_true (free_enc h l)) c hc

-- words of the walk
def cutK (C : Ctx) (J : St → Prop) (st : St) : Prop := ∃ S, J S ∧ Le C st S
section
variable {P : Program} {BR : Nat → Bool} {ops : List Oper} {C : Ctx} {Q : Exit → St → Prop} {T : Nat → AV} {R : Nat → Option Row} {b : Nat} {st : St}
theorem cutL {J : St → Prop} {S : St} (h : J S) (hl : Le C st S) : cutK C J st := ⟨S, h, hl⟩
theorem AW_cutK {x y : Code} (J : St → Prop) (h1 : AW P C x st (thenA (cutK C J) Q)) (h2 : ∀ S, J S → AW P C y S Q) : AW P C (.seq x y) st Q := AW_cut J h1 h2
theorem AW_loopF {c : Code} (I : Nat → St → Prop) (n0 : Nat) (h0 : cutK C (I n0) st) (hz : ∀ S, ¬ I 0 S) (hr : ∀ n S, I (n + 1) S → AW P C c S (thenA (cutK C (I n)) Q)) : AW P C (.loop c) st Q :=
  AW_loop I (let ⟨S, h1, h2⟩ := h0; ⟨n0, S, h1, h2⟩) fun n S hI => by
    cases n with
    | zero => exact absurd hI (hz S)
    | succ n =>
      refine AW_mono (hr n S hI) (fun e s h => ?_)
      cases e with
      | normal => obtain ⟨S', h1, h2⟩ := h; exact ⟨n, S', Nat.lt_succ_self n, h1, h2⟩
      | _ => exact h
/-- A region whose ways meet again, then the rest. -/
theorem AW_rsJ {id : Nat} {draw : Bool} {y : Code} (J : St → Prop) (hm : P.follows .mixedOrders = true) (hN : dstB C.N ops.toArray = true) (hB : (!draw || regB BR ops.toArray) = true)
    (h : ∀ K : St → Prop, (∀ T' R' b', cutK C J (St.mk T' R' b') → K (St.mk T' R' b')) → aRun P BR ops b 0 ops (St.mk T R b) K) (h2 : ∀ S, J S → AW P C y S Q) : AW P C (.seq (.region id ops.toArray draw) y) (St.mk T R b) Q :=
  AW_cutK J (fun M ρ a w hR => by
    refine AW_re (BR := BR) (Q := thenA (cutK C J) Q) hm hN hB (fun K hK => h K fun T' R' b' hc => hK T' R' b' ?_) M ρ a w hR
    obtain ⟨S, h1, h2⟩ := hc
    exact ⟨S, h1, fun M ρ a w hR => h2 M ρ a w (hR.next b')⟩) h2
theorem brK {β : Type} {c : Bool} {X Y : Option β} {r : β} {A B : Prop} (h : br c X Y = some r) (ht : c = true → X = some r → A) (hf : c = false → Y = some r → B) : condK (.bool c) A B :=
  ⟨fun e => ht e (by rw [e] at h; exact h), fun e => hf e (by rw [e] at h; exact h)⟩
variable {bs i : Nat} {l : List Oper} {K : St → Prop} {f : FuncId} {args args' : List AV} {dst : Option Tmp} {ret : AV} {mem mem' : List Row}
/-- A call: nothing lent, or what comes back needs no immutable cells. -/
theorem rC_p (hS : Spec P f args' [] ret mem') (ha : cvA (args.map (pass2 [] fun _ => none)) args') (hl : mem'.length ≤ 16)
    (hs : ∀ j, j < mem'.length → st.rows (bs + 16 * i + j) = none) (hK : aRun P BR ops bs (i + 1) l (({ st with rows := addRows st.rows (bs + 16 * i) (mem'.map (Row.ren (mId [] (bs + 16 * i)))) } : St).put dst (ren3 (mId [] (bs + 16 * i)) ret)) K) : rC P BR ops bs i l st K f args dst :=
  rC_plain (hS.le ha trivial) hl hs hK
theorem rC_l (hS : Spec P f args' [] ret mem') (ha : cvA (args.map (pass2 [] st.rows)) args') (hf : fr3 ret ∧ frRs mem') (hl : mem'.length ≤ 16)
    (hs : ∀ j, j < mem'.length → st.rows (bs + 16 * i + j) = none) (hK : aRun P BR ops bs (i + 1) l (({ st with rows := addRows st.rows (bs + 16 * i) (mem'.map (Row.ren (mId [] (bs + 16 * i)))) } : St).put dst (ren3 (mId [] (bs + 16 * i)) ret)) K) : rC P BR ops bs i l st K f args dst :=
  rC_lend (hS.le ha trivial) ⟨fr3_ok hf.1, frRs_ok hf.2⟩ hl hs hK
def solidO : Option Row → Prop
  | some (.box _ _) => True
  | some (.row _ _ _) => True
  | _ => False
theorem rR_p (ι : List Nat) (hS : Spec P f args' mem ret mem') (ha : cvA (args.map (pass2 ι fun _ => none)) args') (hm : cvRs (ι.map (passRow ι (fun _ => none) st.rows)) mem) (hn : nodB ι = true) (hι : ∀ s ∈ ι, solidO (st.rows s)) (hle : ι.length ≤ mem'.length) (hl : mem'.length - ι.length ≤ 16)
    (hs : ∀ j, j < mem'.length - ι.length → st.rows (bs + 16 * i + j) = none) (hK : aRun P BR ops bs (i + 1) l (({ st with rows := rowsAfter ι (bs + 16 * i) st.rows mem' } : St).put dst (ren3 (mId ι (bs + 16 * i)) ret)) K) : rR P BR ops bs i l st K f args dst :=
  ⟨ι, _, ret, mem', (fun _ _ h => by cases h), nodB_spec hn, fun s hs => by
    have := hι s hs
    unfold solidO at this
    split at this
    · exact ⟨_, by assumption, rfl⟩
    · exact ⟨_, by assumption, rfl⟩
    · exact this.elim, hS.le ha hm, hle, .inl (fun _ => rfl), hl, hs, hK⟩
theorem end_q {fn : Func} {st : St} {k : Nat} (ids : List Nat) {ret : AV} {mem' : List Row} {e : Exit} (he : e = .normal ∨ e = .ret) (hnd : nodB ids = true) (hk : upB k (fun j => match ids[j]? with | some i => i == j | none => false) = true) (h : endR P st fn.results.toList k ids ret mem') : (e = .normal ∨ e = .ret) ∧ EndA P fn k ret mem' st :=
  end_r ids he (nodB_spec hnd) (fun j hj => by
    have := upB_spec hk j hj
    split at this
    · rename_i i hi
      rw [beq_iff_eq] at this
      rw [hi, this]
    · cases this) h
theorem site_1 {R : Nat → Option Row} {n : Nat} (h0 : R n = none) : ∀ j, j < 1 → R (n + j) = none := fun j hj => by
  obtain rfl : j = 0 := by omega
  exact h0
theorem site_2 {R : Nat → Option Row} {n : Nat} (h : R n = none ∧ R (n + 1) = none) : ∀ j, j < 2 → R (n + j) = none := fun j hj => by
  rcases (by omega : j = 0 ∨ j = 1) with rfl | rfl
  · exact h.1
  · exact h.2
theorem site_3 {R : Nat → Option Row} {n : Nat} (h : R n = none ∧ R (n + 1) = none ∧ R (n + 2) = none) : ∀ j, j < 3 → R (n + j) = none := fun j hj => by
  rcases (by omega : j = 0 ∨ j = 1 ∨ j = 2) with rfl | rfl | rfl
  · exact h.1
  · exact h.2.1
  · exact h.2.2
end
end Go.Proofs.Ytfpfalknddfejaa
