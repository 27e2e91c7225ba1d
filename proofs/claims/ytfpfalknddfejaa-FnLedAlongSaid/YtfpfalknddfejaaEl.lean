/- The engine, part 12: steps as a goal that is reckoned out. Over any program. -/
import Derived.Test.YtfpfalknddfejaaEk
namespace Go.Proofs.Ytfpfalknddfejaa
open Go.RowKit
set_option linter.unusedVariables false
set_option linter.unusedSimpArgs false

def optK {α : Type} (x : Option α) (K : α → Prop) : Prop := match x with
  | some v => K v
  | none => False
/-- A call without rows by reference. -/
def callK (P : Program) (f : FuncId) (args : List AV) (st : St) (site : Nat) (dst : Option Tmp) (K : St → Prop) : Prop :=
  ∃ (lnd : Nat → Option Row) (ret : AV) (mem' : List Row), (∀ s r, lnd s = some r → st.rows s = some r) ∧ Spec P f (args.map (pass2 [] lnd)) [] ret mem' ∧ ((∀ s, lnd s = none) ∨ (Free ret ∧ ∀ r ∈ mem', ∀ c ∈ r.cells, Free c)) ∧
    mem'.length ≤ 16 ∧ (∀ j, j < mem'.length → st.rows (site + j) = none) ∧ K (({ st with rows := addRows st.rows site (mem'.map (Row.ren (mId [] site))) } : St).put dst (ren3 (mId [] site) ret))
def refK (P : Program) (f : FuncId) (args : List AV) (st : St) (site : Nat) (dst : Option Tmp) (K : St → Prop) : Prop :=
  ∃ (ι : List Nat) (lnd : Nat → Option Row) (ret : AV) (mem' : List Row), (∀ s r, lnd s = some r → st.rows s = some r) ∧ ι.Nodup ∧ (∀ s ∈ ι, ∃ r, st.rows s = some r ∧ r.solid = true) ∧
    Spec P f (args.map (pass2 ι lnd)) (ι.map (passRow ι lnd st.rows)) ret mem' ∧ ι.length ≤ mem'.length ∧ ((∀ s, lnd s = none) ∨ (Free ret ∧ ∀ r ∈ mem', ∀ c ∈ r.cells, Free c)) ∧
    mem'.length - ι.length ≤ 16 ∧ (∀ j, j < mem'.length - ι.length → st.rows (site + j) = none) ∧ K (({ st with rows := rowsAfter ι site st.rows mem' } : St).put dst (ren3 (mId ι site) ret))
def evL (st : St) : List Operand → List AV
  | [] => []
  | x :: l => st.ev x :: evL st l
def aO (P : Program) (BR : Nat → Bool) (site : Nat) (o : Oper) (st : St) (K : St → Prop) : Prop :=
  match cls BR o.op with
  | 0 => optK (aPure P st.ev o.op) fun v => K (st.put o.dst v)
  | 1 => optK (aMk P (FZ BR site) site st.ev st.rows o.op) fun v => (match v.2 with | some r => st.rows site = none ∧ K (({ st with rows := upd st.rows site (some r) } : St).put o.dst v.1) | none => K (st.put o.dst v.1))
  | 2 => match o.op with
    | .call c => match c.callee with
      | .value (.func f) => callK P f (evL st c.args.toList) st site o.dst K
      | _ => False
    | _ => False
  | 3 => optK (frzW (aWr P site st.ev st.rows o.op) (FZ BR site)) fun v => K (({ st with rows := v.2 } : St).put o.dst v.1)
  | 4 => match o.op with
    | .call c => match c.callee with
      | .value (.func f) => refK P f (evL st c.args.toList) st site o.dst K
      | _ => False
    | _ => False
  | _ => False
def gK (b want : Bool) (A B : Prop) : Prop := (b = want → A) ∧ (b = !want → B)
def aG (P : Program) (BR : Nat → Bool) (ops : List Oper) (site : Nat) (o : Oper) (st : St) (K : St → Prop) : Prop :=
  match o.guard with
  | none => aO P BR site o st K
  | some (g, want) => match (ops[g]?).bind (·.dst) with
    | some t => match st.tmps t with
      | .bool b => gK b want (aO P BR site o st K) (K (st.put o.dst (.tup [])))
      | .tup [] => K (st.put o.dst (.tup []))
      | _ => False
    | none => False
def aRun (P : Program) (BR : Nat → Bool) (ops : List Oper) (bs : Nat) : Nat → List Oper → St → (St → Prop) → Prop
  | _, [], st, K => K st
  | i, o :: l, st, K => aG P BR ops (bs + 16 * i) o st (fun st' => aRun P BR ops bs (i + 1) l st' K)

section
variable {P : Program} {BR : Nat → Bool} {ops : List Oper}
theorem evL_map (st : St) : ∀ l, evL st l = l.map st.ev
  | [] => rfl
  | x :: l => by simp [evL, evL_map st l]
theorem optK_some {α : Type} {x : Option α} {K : α → Prop} (h : optK x K) : ∃ v, x = some v ∧ K v := by
  cases x with
  | none => exact h.elim
  | some v => exact ⟨v, rfl, h⟩
theorem aO_stp {site : Nat} {o : Oper} {st : St} {K : St → Prop} (h : aO P BR site o st K) : ∃ st', Stp P BR site o st st' ∧ K st' := by
  unfold aO at h
  split at h
  · rename_i hc
    obtain ⟨v, h1, h2⟩ := optK_some h
    simp only [Stp, hc]
    exact ⟨_, ⟨v, h1, rfl⟩, h2⟩
  · rename_i hc
    obtain ⟨v, h1, h2⟩ := optK_some h
    obtain ⟨v, nw⟩ := v
    simp only [Stp, hc]
    cases nw with
    | none => exact ⟨_, ⟨v, none, h1, by simp, rfl⟩, h2⟩
    | some r => exact ⟨_, ⟨v, some r, h1, fun _ => h2.1, rfl⟩, h2.2⟩
  · rename_i hc
    simp only [Stp, hc]
    split at h
    · rename_i c hop
      split at h
      · rename_i f hcal
        obtain ⟨lnd, ret, mem', h1, h2, h3, h4, h5, h6⟩ := h
        refine ⟨_, ⟨c, f, lnd, ret, mem', hop, hcal, h1, List.nodup_nil, by simp, ?_, by simp, h3, by simpa using h4, by simpa using h5, rfl⟩, ?_⟩
        · rw [evL_map, List.map_map] at h2; exact h2
        · rw [rowsAfter_nil]; exact h6
      · exact h.elim
    · exact h.elim
  · rename_i hc
    obtain ⟨v, h1, h2⟩ := optK_some h
    obtain ⟨v, rows'⟩ := v
    simp only [Stp, hc]
    exact ⟨_, ⟨v, rows', h1, rfl⟩, h2⟩
  · rename_i hc
    simp only [Stp, hc]
    split at h
    · rename_i c hop
      split at h
      · rename_i f hcal
        obtain ⟨ι, lnd, ret, mem', h1, h2, h3, h4, h5, h6, h7, h8, h9⟩ := h
        refine ⟨_, ⟨ι, c, f, lnd, ret, mem', hop, hcal, h1, h2, h3, ?_, h5, h6, h7, h8, rfl⟩, h9⟩
        rw [evL_map, List.map_map] at h4; exact h4
      · exact h.elim
    · exact h.elim
  · exact h.elim
theorem aG_gst {site : Nat} {o : Oper} {st : St} {K : St → Prop} (h : aG P BR ops site o st K) : ∃ st', Gst P BR ops.toArray site o st st' ∧ K st' := by
  unfold aG at h
  split at h
  · rename_i hg
    simp only [Gst, hg]
    exact aO_stp h
  · rename_i g want hg
    simp only [Gst, hg]
    split at h
    · rename_i t ht
      split at h
      · rename_i b hb
        by_cases e : b = want
        · obtain ⟨st', h1, h2⟩ := aO_stp (h.1 e)
          exact ⟨st', ⟨t, by simpa using ht, .inl ⟨by rw [hb, e], h1⟩⟩, h2⟩
        · exact ⟨_, ⟨t, by simpa using ht, .inr ⟨.inr ⟨b, hb, e⟩, rfl⟩⟩, h.2 (by cases b <;> cases want <;> simp_all)⟩
      · rename_i hb
        exact ⟨_, ⟨t, by simpa using ht, .inr ⟨.inl hb, rfl⟩⟩, h⟩
      · exact h.elim
    · exact h.elim
theorem aRun_seq {bs : Nat} {K : St → Prop} : ∀ (l : List Oper) (i : Nat) (st : St), (∀ j, l[j]? = ops[i + j]?) → aRun P BR ops bs i l st K → aSeq P BR ops.toArray bs (List.range' i l.length) st K
  | [], i, st, _, h => h
  | o :: l, i, st, hl, h => by
    obtain ⟨st', h1, h2⟩ := aG_gst h
    have h0 : ops[i]? = some o := by simpa using (hl 0).symm
    rw [List.length_cons, List.range'_succ]
    exact ⟨o, st', by simpa using h0, h1, aRun_seq l (i + 1) st' (fun j => by have := hl (j + 1); simpa [Nat.add_assoc, Nat.add_comm 1 j] using this) h2⟩
theorem AW_reg {C : Ctx} {st : St} {Q : Exit → St → Prop} {id : Nat} {draw : Bool} (hm : P.follows .mixedOrders = true) (hN : dstB C.N ops.toArray = true) (hB : (!draw || regB BR ops.toArray) = true)
    (h : aRun P BR ops st.bs 0 ops st (fun st' => Q .normal { st' with bs := st.bs + 16 * ops.length })) : AW P C (.region id ops.toArray draw) st Q :=
  AW_region (BR := BR) (fun _ => hm) hN (fun e => by rw [e] at hB; simpa using hB) (by
    have := aRun_seq ops 0 st (by simp) h
    rw [← List.range_eq_range'] at this
    simpa using this)
/-- A call whose arguments hold no slice of the caller's own. -/
theorem callK_plain {f : FuncId} {args : List AV} {st : St} {site : Nat} {dst : Option Tmp} {K : St → Prop} {ret : AV} {mem' : List Row} (hS : Spec P f (args.map (pass2 [] fun _ => none)) [] ret mem') (hl : mem'.length ≤ 16)
    (hs : ∀ j, j < mem'.length → st.rows (site + j) = none) (hK : K (({ st with rows := addRows st.rows site (mem'.map (Row.ren (mId [] site))) } : St).put dst (ren3 (mId [] site) ret))) : callK P f args st site dst K :=
  ⟨_, ret, mem', (fun _ _ h => by cases h), hS, .inl (fun _ => rfl), hl, hs, hK⟩
/-- A call that is lent slices. -/
theorem callK_lend {f : FuncId} {args : List AV} {st : St} {site : Nat} {dst : Option Tmp} {K : St → Prop} {ret : AV} {mem' : List Row} (hS : Spec P f (args.map (pass2 [] st.rows)) [] ret mem') (hf : Free ret ∧ ∀ r ∈ mem', ∀ c ∈ r.cells, Free c) (hl : mem'.length ≤ 16)
    (hs : ∀ j, j < mem'.length → st.rows (site + j) = none) (hK : K (({ st with rows := addRows st.rows site (mem'.map (Row.ren (mId [] site))) } : St).put dst (ren3 (mId [] site) ret))) : callK P f args st site dst K :=
  ⟨_, ret, mem', fun _ _ h => h, hS, .inr hf, hl, hs, hK⟩
/-- The same where nothing but a value that needs no memory comes back. -/
theorem callK_val {f : FuncId} {args : List AV} {st : St} {site : Nat} {dst : Option Tmp} {K : St → Prop} {ret : AV} (hS : Spec P f (args.map (pass2 [] st.rows)) [] ret []) (hf : Free ret) (hK : K (st.put dst (ren3 (mId [] site) ret))) : callK P f args st site dst K :=
  callK_lend hS ⟨hf, by simp⟩ (by simp) (by simp) hK
theorem gK_tt (A B : Prop) : gK true true A B = A := by simp [gK]
theorem gK_tf (A B : Prop) : gK true false A B = B := by simp [gK]
theorem gK_ft (A B : Prop) : gK false true A B = B := by simp [gK]
theorem gK_ff (A B : Prop) : gK false false A B = A := by simp [gK]
theorem gK_split {b want : Bool} {A B : Prop} (h1 : b = want → A) (h2 : b = !want → B) : gK b want A B := ⟨h1, h2⟩
end
end Go.Proofs.Ytfpfalknddfejaa
