/- Regions whose order is open: reads, calls that change nothing that was there, and new blocks, in whatever order; then the last few operations in their forced order. Over any program. -/
import Derived.Test.YtcclapenpaediaaQd
import Derived.StillTail
namespace Go.Proofs.Ytcclapenpaediaa
open Go.RowKit
set_option linter.unusedVariables false
set_option linter.unusedSimpArgs false

/-- A property of worlds that no change above the heap's top takes away. -/
def Stable (Φ : World → Prop) : Prop := ∀ w w', Φ w → Below w.heap.size w w' → Φ w'
structure LatF (w : World) (Φ : World → Prop) where
  val : World
  ok : Below w.heap.size w val
  phi : Φ val
def laterF {w : World} {Φ : World → Prop} (x : LatF w Φ) : World := x.val
theorem laterF_below {w : World} {Φ : World → Prop} (x : LatF w Φ) : Below w.heap.size w (laterF x) := x.ok
@[go_sem] theorem laterF_cell {w : World} {Φ : World → Prop} (x : LatF w Φ) (b o : Nat) (h : b < w.heap.size) : (laterF x).cell? ⟨b, o, none⟩ = w.cell? ⟨b, o, none⟩ := x.ok.cell (p := ⟨b, o, none⟩) h
@[go_sem] theorem laterF_frozen {w : World} {Φ : World → Prop} (x : LatF w Φ) (b o : Nat) (h : b < w.heap.size) : (laterF x).frozen? ⟨b, o, none⟩ = w.frozen? ⟨b, o, none⟩ := x.ok.frozen (p := ⟨b, o, none⟩) h
theorem laterF_of {P : Program} {f : FuncId} {args : Array Value} {w : World} {Φ : World → Prop} (hΦ : Stable Φ) {x : LatF w Φ} {v : Value}
    (h : Calls P f args (laterF x) fun e w' => e = .returned v ∧ Below (laterF x).heap.size (laterF x) w') : Calls P f args (laterF x) fun e w'' => e = .returned v ∧ ∃ y : LatF w Φ, w'' = laterF y :=
  h.mono fun _ w' ⟨he, hb⟩ => ⟨he, ⟨w', (laterF_below x).trans (hb.mono (laterF_below x).size), hΦ _ _ x.phi hb⟩, rfl⟩
theorem laterF_of_same {P : Program} {f : FuncId} {args : Array Value} {w : World} {Φ : World → Prop} (hΦ : Stable Φ) {x : LatF w Φ} {v : Value}
    (h : Calls P f args (laterF x) fun e w' => e = .returned v ∧ w' = laterF x) : Calls P f args (laterF x) fun e w'' => e = .returned v ∧ ∃ y : LatF w Φ, w'' = laterF y :=
  h.mono fun _ _ ⟨he, hb⟩ => ⟨he, x, hb⟩

section
variable {P : Program} {ops : Array Oper} {C : World → Prop} {a' : Act}

theorem put_size (a : Act) (d : Option Tmp) (v : Value) : (a.put d v).tmps.size = a.tmps.size := by cases d <;> simp [Act.put]
theorem put_defs (a : Act) (d : Option Tmp) (v : Value) : (a.put d v).defers = a.defers := by cases d <;> rfl
theorem put_get_ne (a : Act) (d : Option Tmp) (v : Value) (s : Nat) (h : d ≠ some s) : (a.put d v).tmps[s]? = a.tmps[s]? := by
  cases d with
  | none => rfl
  | some d => simp [Act.put, Array.getElem?_setIfInBounds_ne (show d ≠ s from fun e => h (by rw [e]))]
theorem put_get_eq (a : Act) (s : Nat) (v : Value) (h : s < a.tmps.size) : (a.put (some s) v).tmps[s]? = some v := by simp [Act.put, h]
theorem act_ext {a b : Act} (h1 : a.tmps.size = b.tmps.size) (h2 : a.defers = b.defers) (h : ∀ s : Nat, a.tmps[s]? = b.tmps[s]?) : a = b := by
  cases a; cases b
  simp only [Act.mk.injEq]
  exact ⟨Array.ext_getElem? (fun i => h i), h2⟩

theorem same_at {a b : Act} {o : Oper} (hs : ∀ cs b, o.op ≠ .select cs b) (h : ∀ s ∈ o.looksAt ops, a.tmps[s]? = b.tmps[s]?) :
    execOp a.eval o = execOp b.eval o ∧ Region.wanted o (yielded ops a.tmps) = Region.wanted o (yielded ops b.tmps) := by
  constructor
  · refine execOp_congr o hs fun x hx => ?_
    cases x with
    | tmp t =>
      have ht : t ∈ o.looksAt ops := List.mem_append_left _ (List.mem_filterMap.2 ⟨.tmp t, by simpa using hx, rfl⟩)
      simp [Act.eval, h t ht]
    | _ => rfl
  · unfold Region.wanted
    cases hg : o.guard with
    | none => rfl
    | some gw =>
      obtain ⟨g, want⟩ := gw
      have hy : yielded ops a.tmps g = yielded ops b.tmps g := by
        unfold yielded
        cases ht : (ops[g]?).bind (·.dst) with
        | none => rfl
        | some t =>
          have hm : t ∈ o.looksAt ops := by simp [Oper.looksAt, hg, ht]
          simp [h t hm]
      simp only [hy]

theorem pin : ∀ (l : List Oper) (b : Act), wpQuiet P ops C (fun x => x = a') l b → a'.tmps.size = b.tmps.size ∧ a'.defers = b.defers ∧ ∀ s, (∀ o ∈ l, o.dst ≠ some s) → a'.tmps[s]? = b.tmps[s]?
  | [], b, h => by
    have e : b = a' := h
    subst e
    exact ⟨rfl, rfl, fun _ _ => rfl⟩
  | o :: l, b, h => by
    have key : ∃ v, wpQuiet P ops C (fun x => x = a') l (b.put o.dst v) := by
      unfold wpQuiet at h
      split at h
      · obtain ⟨v, _, h2⟩ := h
        exact ⟨v, h2⟩
      · exact ⟨_, h⟩
    obtain ⟨v, hv⟩ := key
    obtain ⟨h1, h2, h3⟩ := pin l _ hv
    refine ⟨h1.trans (put_size _ _ _), h2.trans (put_defs _ _ _), fun s hs => (h3 s (fun k hk => hs k (by simp [hk]))).trans (put_get_ne _ _ _ _ (hs o (by simp)))⟩

/-- Each operation of the list has a target; it looks at no target of itself or of a later one; the targets differ. -/
def chainOK (ops : Array Oper) : List Oper → Bool
  | [] => true
  | o :: l => o.dst.isSome && (o.looksAt ops).all (fun s => (o :: l).all fun k => k.dst != some s) && l.all (fun k => k.dst != o.dst) && chainOK ops l

theorem self_of (hsel : ∀ o ∈ ops, ∀ cs b, o.op ≠ .select cs b) : ∀ (l : List Oper) (b : Act), (∀ o ∈ l, o ∈ ops) → wpQuiet P ops C (fun x => x = a') l b → chainOK ops l = true →
    ∀ o ∈ l, ∃ v, YieldsIn P ops C o v a' ∧ ∀ d, o.dst = some d → d < a'.tmps.size → a'.tmps[d]? = some v
  | [], b, _, _, _ => fun o ho => by cases ho
  | o :: l, b, hin, h, hc => by
    simp only [chainOK, Bool.and_eq_true] at hc
    obtain ⟨⟨⟨hd, hl⟩, hne⟩, hrest⟩ := hc
    have hp := pin (o :: l) b h
    have hlook : ∀ s ∈ o.looksAt ops, a'.tmps[s]? = b.tmps[s]? := fun s hs => hp.2.2 s fun k hk => by
      have := List.all_eq_true.1 (List.all_eq_true.1 hl s hs) k hk
      simpa using this
    obtain ⟨he, hw⟩ := same_at (ops := ops) (a := a') (b := b) (hsel o (hin o (by simp))) hlook
    have key : ∃ v, YieldsIn P ops C o v b ∧ wpQuiet P ops C (fun x => x = a') l (b.put o.dst v) := by
      unfold wpQuiet at h
      split at h
      · rename_i hw'
        obtain ⟨v, h1, h2⟩ := h
        exact ⟨v, .inl ⟨hw', h1⟩, h2⟩
      · rename_i hw'
        exact ⟨undef, .inr ⟨by simpa using hw', rfl⟩, h⟩
    obtain ⟨v, hy, hr⟩ := key
    intro k hk
    rcases List.mem_cons.1 hk with rfl | hk
    · refine ⟨v, hy.of_same he hw, fun d hdd hlt => ?_⟩
      have hq := pin l _ hr
      have e := hq.2.2 d fun m hm => by
        have := List.all_eq_true.1 hne m hm
        rw [hdd] at this
        simpa using this
      rw [e, hdd, put_get_eq _ _ _ (by rw [← put_size b k.dst v, ← hq.1]; exact hlt)]
    · exact self_of hsel l _ (fun m hm => hin m (by simp [hm])) hr hrest k hk
end

def dstOf (ops : Array Oper) (j : Nat) : Option Tmp := (ops[j]?).bind (·.dst)
def depsB (ops : Array Oper) (i : Nat) (p : Nat → Bool) : Bool := match ops[i]? with
  | some o => o.after.all fun e => !Region.binds .any e || p e.on
  | none => false
def lookB (ops : Array Oper) (i : Nat) (p : Tmp → Bool) : Bool := match ops[i]? with
  | some o => (o.looksAt ops).all p
  | none => false
def depsOf (ops : Array Oper) (i : Nat) : List Nat := match ops[i]? with
  | some o => (o.after.toList.filter (Region.binds .any)).map (·.on)
  | none => []
/-- All that comes before what is in the list. -/
def ancGo (ops : Array Oper) : Nat → List Nat → List Nat
  | 0, acc => acc
  | k + 1, acc => if acc.contains k then ancGo ops k (depsOf ops k ++ acc) else ancGo ops k acc
def ancB (ops : Array Oper) (t h : Nat) : Bool := (ancGo ops ops.size (depsOf ops t)).contains h
def Closed (ops : Array Oper) (listed : Array Bool) : Prop := ∀ j, listed.getD j false = true → ∀ k ∈ depsOf ops j, listed.getD k false = true
theorem ancGo_listed {ops : Array Oper} {listed : Array Bool} (hc : Closed ops listed) : ∀ (k : Nat) (acc : List Nat), (∀ x ∈ acc, listed.getD x false = true) → ∀ x ∈ ancGo ops k acc, listed.getD x false = true
  | 0, acc, h => h
  | k + 1, acc, h => by
    unfold ancGo
    split
    · rename_i hk
      refine ancGo_listed hc k _ fun x hx => ?_
      rcases List.mem_append.1 hx with hx | hx
      · exact hc k (h k (by simpa using hk)) x hx
      · exact h x hx
    · exact ancGo_listed hc k acc h
theorem ready_deps {ops : Array Oper} {listed : Array Bool} {i : Nat} (hr : i ∈ Region.ready .any ops listed) : ∀ k ∈ depsOf ops i, listed.getD k false = true := by
  obtain ⟨_, o, ho, hall⟩ := mem_ready.1 hr
  intro k hk
  simp only [depsOf, ho, List.mem_map, List.mem_filter] at hk
  obtain ⟨e, ⟨he, hb⟩, rfl⟩ := hk
  exact hall e (by simpa using he) hb
theorem anc_listed {ops : Array Oper} {listed : Array Bool} (hc : Closed ops listed) {i k : Nat} (hr : i ∈ Region.ready .any ops listed) (h : ancB ops i k = true) : listed.getD k false = true :=
  ancGo_listed hc ops.size _ (ready_deps hr) k (by simpa [ancB] using h)
theorem Closed.set {ops : Array Oper} {listed : Array Bool} (hc : Closed ops listed) {i : Nat} (hr : i ∈ Region.ready .any ops listed) : Closed ops (listed.setIfInBounds i true) := by
  intro j hj k hk
  by_cases hij : j = i
  · subst hij; exact getD_set_true (ready_deps hr k hk)
  · rw [getD_set_ne false (Ne.symm hij)] at hj
    exact getD_set_true (hc j hj k hk)
def orderB (ops : Array Oper) : List Nat → List Nat → Bool
  | _, [] => true
  | done, i :: l => depsB ops i (done.contains ·) && orderB ops (i :: done) l
def seqL (ops : Array Oper) : List Nat → Array Bool → Bool
  | [], listed => (Region.ready .any ops listed).isEmpty
  | t :: ts, listed => decide (Region.ready .any ops listed = [t]) && seqL ops ts (listed.setIfInBounds t true)
def pureB (ops : Array Oper) (i : Nat) : Bool := match ops[i]? with
  | some o => o.guard.isNone
  | none => false
def apartB (ops : Array Oper) (i j : Nat) : Bool := match ops[i]?, ops[j]? with
  | some x, some y => x.apart ops y
  | _, _ => false
def plainB (ops : Array Oper) (j : Nat) : Bool := match ops[j]? with
  | some o => o.guard.isNone && o.dst.isSome
  | none => false
def pickOps (ops : Array Oper) (l : List Nat) : List Oper := l.filterMap (ops[·]?)

def makeB (ops : Array Oper) (hd mk ts late : List Nat) : Bool :=
  Region.noSelect ops && decide (hd ++ (mk ++ ts)).Nodup && (hd ++ (mk ++ ts)).all (· < ops.size) && decide ((hd ++ (mk ++ ts)).length = ops.size) && (List.range ops.size).all (fun i => (hd ++ (mk ++ ts)).contains i) &&
  chainOK ops (pickOps ops hd) && hd.all (fun i => hd.all fun k => i == k || dstOf ops i != dstOf ops k) &&
  (hd ++ mk).all (fun i => lookB ops i fun s => mk.all fun k => dstOf ops k != some s) &&
  (hd ++ mk).all (fun i => lookB ops i fun s => hd.all fun k => dstOf ops k != some s || ancB ops i k) &&
  mk.all (fun j => plainB ops j && hd.all (fun k => dstOf ops k != dstOf ops j) && mk.all (fun k => k == j || dstOf ops k != dstOf ops j)) &&
  orderB ops [] (hd ++ mk) && hd.all (fun i => depsB ops i (hd.contains ·)) &&
  ts.all (fun t => (hd ++ mk).all fun h => ancB ops t h || (late.contains h && hd.contains h && depsB ops h (fun k => ancB ops t k))) &&
  late.all (fun h => pureB ops h && (List.range ops.size).all fun j => j == h || Region.waitsFor .any ops j h || ancB ops h j || apartB ops h j) &&
  seqL ops ts ((Array.range ops.size).map fun i => !ts.contains i)

structure MOK (ops : Array Oper) (hd mk ts late : List Nat) : Prop where
  sel : ∀ (j : Nat) (o : Oper) cs b, ops[j]? = some o → o.op ≠ .select cs b
  nod : (hd ++ (mk ++ ts)).Nodup
  lt : ∀ i ∈ hd ++ (mk ++ ts), i < ops.size
  len : (hd ++ (mk ++ ts)).length = ops.size
  cov : ∀ i, i < ops.size → i ∈ hd ++ (mk ++ ts)
  chain : chainOK ops (pickOps ops hd) = true
  hdHd : ∀ i ∈ hd, ∀ k ∈ hd, i ≠ k → dstOf ops i ≠ dstOf ops k
  lookMk : ∀ i ∈ hd ++ mk, ∀ o, ops[i]? = some o → ∀ s ∈ o.looksAt ops, ∀ k ∈ mk, dstOf ops k ≠ some s
  lookHd : ∀ i ∈ hd ++ mk, ∀ o, ops[i]? = some o → ∀ s ∈ o.looksAt ops, ∀ k ∈ hd, dstOf ops k = some s → ancB ops i k = true
  mkPlain : ∀ j ∈ mk, ∀ o, ops[j]? = some o → o.guard = none ∧ ∃ d, o.dst = some d
  mkHd : ∀ j ∈ mk, ∀ k ∈ hd, dstOf ops k ≠ dstOf ops j
  mkMk : ∀ j ∈ mk, ∀ k ∈ mk, k ≠ j → dstOf ops k ≠ dstOf ops j
  ord : orderB ops [] (hd ++ mk) = true
  tails : ∀ t ∈ ts, ∀ h ∈ hd ++ mk, ancB ops t h = true ∨ (h ∈ late ∧ h ∈ hd ∧ ∀ o, ops[h]? = some o → ∀ e ∈ o.after, Region.binds .any e = true → ancB ops t e.on = true)
  lates : ∀ h ∈ late, pureB ops h = true ∧ ∀ (j : Nat) (oj : Oper), ops[j]? = some oj → j ≠ h → Region.waitsFor .any ops j h = true ∨ ancB ops h j = true ∨ apartB ops h j = true
  seq : seqL ops ts ((Array.range ops.size).map fun i => !ts.contains i) = true

theorem depsB_spec {ops : Array Oper} {i : Nat} {p : Nat → Bool} (h : depsB ops i p = true) (o : Oper) (ho : ops[i]? = some o) : ∀ e ∈ o.after, Region.binds .any e = true → p e.on = true := by
  intro e he hb
  simp only [depsB, ho] at h
  have := Array.all_eq_true_iff_forall_mem.1 h e he
  simpa [hb] using this
theorem lookB_spec {ops : Array Oper} {i : Nat} {p : Tmp → Bool} (h : lookB ops i p = true) (o : Oper) (ho : ops[i]? = some o) : ∀ s ∈ o.looksAt ops, p s = true := by
  intro s hs
  simp only [lookB, ho] at h
  exact List.all_eq_true.1 h s hs

theorem MOK.of {ops : Array Oper} {hd mk ts late : List Nat} (h : makeB ops hd mk ts late = true) : MOK ops hd mk ts late := by
  simp only [makeB, Bool.and_eq_true, decide_eq_true_eq] at h
  obtain ⟨⟨⟨⟨⟨⟨⟨⟨⟨⟨⟨⟨⟨⟨h1, h2⟩, h3⟩, h4⟩, hcv⟩, h5⟩, h6⟩, h7⟩, h8⟩, h9⟩, h10⟩, h11⟩, h12⟩, h13⟩, h14⟩ := h
  refine ⟨Region.noSelect_spec h1, h2, ?_, h4, fun i hi => by simpa using List.all_eq_true.1 hcv i (List.mem_range.2 hi), h5, ?_, ?_, ?_, ?_, ?_, ?_, h10, ?_, ?_, h14⟩
  · intro i hi; simpa using List.all_eq_true.1 h3 i hi
  · intro i hi k hk hne
    have := List.all_eq_true.1 (List.all_eq_true.1 h6 i hi) k hk
    simpa [hne] using this
  · intro i hi o ho s hs k hk
    have := List.all_eq_true.1 (lookB_spec (List.all_eq_true.1 h7 i hi) o ho s hs) k hk
    simpa using this
  · intro i hi o ho s hs k hk hd'
    have := List.all_eq_true.1 (lookB_spec (List.all_eq_true.1 h8 i hi) o ho s hs) k hk
    simpa [hd'] using this
  · intro j hj o ho
    have := List.all_eq_true.1 h9 j hj
    simp only [Bool.and_eq_true] at this
    have hp := this.1.1
    simp only [plainB, ho, Bool.and_eq_true, Option.isNone_iff_eq_none, Option.isSome_iff_exists] at hp
    exact hp
  · intro j hj k hk
    have := List.all_eq_true.1 h9 j hj
    simp only [Bool.and_eq_true] at this
    simpa using List.all_eq_true.1 this.1.2 k hk
  · intro j hj k hk hne
    have := List.all_eq_true.1 h9 j hj
    simp only [Bool.and_eq_true] at this
    simpa [hne] using List.all_eq_true.1 this.2 k hk
  · intro t ht h hh
    have := List.all_eq_true.1 (List.all_eq_true.1 h12 t ht) h hh
    simp only [Bool.or_eq_true, Bool.and_eq_true] at this
    rcases this with h' | ⟨⟨h1', h2'⟩, h3'⟩
    · exact .inl h'
    · exact .inr ⟨by simpa using h1', by simpa using h2', fun o ho e he hb => depsB_spec h3' o ho e he hb⟩
  · intro h hh
    have := List.all_eq_true.1 h13 h hh
    simp only [Bool.and_eq_true] at this
    refine ⟨this.1, fun j oj hj hne => ?_⟩
    have h' := List.all_eq_true.1 this.2 j (List.mem_range.2 (Array.getElem?_eq_some_iff.1 hj).1)
    simp only [Bool.or_eq_true, beq_iff_eq, hne, false_or] at h'
    rcases h' with (h' | h') | h'
    · exact .inl h'
    · exact .inr (.inl h')
    · exact .inr (.inr h')

section
variable {P : Program} {ops : Array Oper} {Q : Exit → Act → World → Prop} {w0 : World} {a' : Act} {hd mk ts late : List Nat} {Ψ : Nat → Nat → Nat → Value → World → Prop}

def putMk (ops : Array Oper) (U : Nat → Value) : List Nat → Act → Act
  | [], a => a
  | j :: l, a => (putMk ops U l a).put (dstOf ops j) (U j)
theorem putMk_size (U : Nat → Value) (a : Act) : ∀ l, (putMk ops U l a).tmps.size = a.tmps.size
  | [] => rfl
  | j :: l => (put_size _ _ _).trans (putMk_size U a l)
theorem putMk_defs (U : Nat → Value) (a : Act) : ∀ l, (putMk ops U l a).defers = a.defers
  | [] => rfl
  | j :: l => (put_defs _ _ _).trans (putMk_defs U a l)
theorem putMk_ne (U : Nat → Value) (a : Act) (s : Nat) : ∀ l, (∀ j ∈ l, dstOf ops j ≠ some s) → (putMk ops U l a).tmps[s]? = a.tmps[s]?
  | [], _ => rfl
  | j :: l, h => (put_get_ne _ _ _ _ (h j (by simp))).trans (putMk_ne U a s l (fun k hk => h k (by simp [hk])))
theorem putMk_eq (U : Nat → Value) (a : Act) (s : Nat) (hs : s < a.tmps.size) (j : Nat) (hj : dstOf ops j = some s) : ∀ l, j ∈ l → (∀ k ∈ l, k ≠ j → dstOf ops k ≠ dstOf ops j) → (putMk ops U l a).tmps[s]? = some (U j)
  | [], h, _ => by cases h
  | k :: l, h, hne => by
    by_cases hk : k = j
    · subst hk
      show ((putMk ops U l a).put (dstOf ops k) (U k)).tmps[s]? = _
      rw [hj, put_get_eq _ _ _ (by rw [putMk_size]; exact hs)]
    · have hm : j ∈ l := by
        rcases List.mem_cons.1 h with h | h
        · exact absurd h.symm hk
        · exact h
      refine (put_get_ne _ _ _ _ ?_).trans (putMk_eq U a s hs j hj l hm (fun m hm' => hne m (by simp [hm'])))
      rw [← hj]; exact hne k (by simp) hk

structure MInv (ops : Array Oper) (w0 : World) (a' : Act) (hd mk ts : List Nat) (Ψ : Nat → Nat → Nat → Value → World → Prop) (listed : Array Bool) (U : Nat → Value) (B T : Nat → Nat) (act : Act) (w : World) : Prop where
  size : listed.size = ops.size
  closed : Closed ops listed
  tail : ∀ t ∈ ts, listed.getD t true = false
  tsz : act.tmps.size = a'.tmps.size
  defs : act.defers = a'.defers
  hds : ∀ k ∈ hd, listed.getD k false = true → ∀ s, dstOf ops k = some s → act.tmps[s]? = a'.tmps[s]?
  mks : ∀ k ∈ mk, listed.getD k false = true → ∀ s, dstOf ops k = some s → s < a'.tmps.size → act.tmps[s]? = some (U k)
  rest : ∀ s, (∀ k ∈ hd, dstOf ops k ≠ some s) → (∀ k ∈ mk, dstOf ops k ≠ some s) → act.tmps[s]? = a'.tmps[s]?
  bel : Below w0.heap.size w0 w
  made : ∀ k ∈ mk, listed.getD k false = true → w0.heap.size ≤ B k ∧ B k ≤ T k ∧ T k ≤ w.heap.size ∧ Ψ k (B k) (T k) (U k) w
  diff : ∀ j ∈ mk, ∀ k ∈ mk, listed.getD j false = true → listed.getD k false = true → j ≠ k → T j ≤ B k ∨ T k ≤ B j

/-- What is said of a new thing stays true when only newer things change. -/
def StableΨ (Ψ : Nat → Nat → Nat → Value → World → Prop) : Prop := ∀ j b t u w w', Ψ j b t u w → t ≤ w.heap.size → Below w.heap.size w w' → Ψ j b t u w'
/-- The operation makes something new, of which Ψ speaks, and changes nothing that was there. -/
def MakesP (P : Program) (o : Oper) (a' : Act) (w : World) (Ψ : Nat → Nat → Value → World → Prop) : Prop :=
  ∀ (a : Act) (K : Act → World → Prop) (Q : Exit → Act → World → Prop), execOp a.eval o = execOp a'.eval o →
    (∀ u w1, Below w.heap.size w w1 → Ψ w.heap.size w1.heap.size u w1 → K (a.put o.dst u) w1) → o.wp P a w K Q
theorem MakesP.alloc {o : Oper} {w : World} {V : Nat → Value} {ob : Obj} (h : (execOp a'.eval o).run P w = .ok (.value (V w.heap.size)) (w.alloc ob)) :
    MakesP P o a' w (fun b t u w' => u = V b ∧ t = b + 1 ∧ w'.heap[b]? = some ob) := by
  intro a K Q he hK
  unfold Oper.wp
  rw [he, h]
  exact hK _ _ ((Below.refl _ _).alloc (Nat.le_refl _) _) ⟨rfl, by simp, heap_alloc_new w _⟩
theorem MakesP.call {o : Oper} {w : World} {f : FuncId} {args : Array Value} {Ψ : Nat → Nat → Value → World → Prop} (h : (execOp a'.eval o).run P w = .ok (.enter f args) w)
    (hc : Calls P f args w fun e w' => ∃ u, e = .returned u ∧ Below w.heap.size w w' ∧ Ψ w.heap.size w'.heap.size u w') : MakesP P o a' w Ψ := by
  intro a K Q he hK
  unfold Oper.wp
  rw [he, h]
  refine Calls.mono hc fun e w' ⟨u, h1, h2, h3⟩ => ?_
  subst h1
  exact hK u w' h2 h3

theorem getD_back {listed : Array Bool} {i k : Nat} (hne : k ≠ i) (h : (listed.setIfInBounds i true).getD k false = true) : listed.getD k false = true := by
  rw [getD_set_ne false (Ne.symm hne)] at h; exact h
theorem listed_or {listed : Array Bool} {k : Nat} (h : k < listed.size) : listed.getD k true = false ∨ listed.getD k false = true := by
  simp [h]
theorem not_both {listed : Array Bool} {k : Nat} (h : listed.getD k true = false) (h' : listed.getD k false = true) : False := by
  rw [getD_both h] at h'; cases h'

/-- What a ready head or make looks at is as in the description. -/
theorem MInv.looks {listed : Array Bool} {U : Nat → Value} {B T : Nat → Nat} {act : Act} {w : World} (S : MOK ops hd mk ts late) (I : MInv ops w0 a' hd mk ts Ψ listed U B T act w) {i : Nat} {o : Oper} (hi : i ∈ hd ++ mk) (ho : ops[i]? = some o)
    (hr : i ∈ Region.ready .any ops listed) : execOp act.eval o = execOp a'.eval o ∧ Region.wanted o (yielded ops act.tmps) = Region.wanted o (yielded ops a'.tmps) := by
  refine same_at (fun cs b => S.sel i o cs b ho) fun s hs => ?_
  by_cases hex : ∃ k ∈ hd, dstOf ops k = some s
  · obtain ⟨k, hk, hd'⟩ := hex
    exact I.hds k hk (anc_listed I.closed hr (S.lookHd i hi o ho s hs k hk hd')) s hd'
  · exact I.rest s (fun k hk he => hex ⟨k, hk, he⟩) (S.lookMk i hi o ho s hs)

theorem MInv.head {listed : Array Bool} {U : Nat → Value} {B T : Nat → Nat} {act : Act} {w w' : World} (S : MOK ops hd mk ts late) (hst : StableΨ Ψ) (I : MInv ops w0 a' hd mk ts Ψ listed U B T act w) {i : Nat} {o : Oper} {v : Value} (hi : i ∈ hd) (ho : ops[i]? = some o)
    (hr : i ∈ Region.ready .any ops listed) (hv : ∀ d, o.dst = some d → d < a'.tmps.size → a'.tmps[d]? = some v) (hb : Below w.heap.size w w') :
    MInv ops w0 a' hd mk ts Ψ (listed.setIfInBounds i true) U B T (act.put o.dst v) w' := by
  have hdi : dstOf ops i = o.dst := by simp [dstOf, ho]
  have nd := List.nodup_append.1 S.nod
  have hmi : ∀ k ∈ mk, k ≠ i := fun k hk e => nd.2.2 i hi k (List.mem_append_left _ hk) e.symm
  refine ⟨by simp [I.size], I.closed.set hr, fun t ht => ?_, (put_size _ _ _).trans I.tsz, (put_defs _ _ _).trans I.defs, fun k hk hl s hs => ?_, fun k hk hl s hs hlt => ?_, fun s h1 h2 => ?_, I.bel.trans (hb.mono I.bel.size), fun k hk hl => ?_, fun j hj k hk h1 h2 hne => ?_⟩
  · have : i ≠ t := fun e => nd.2.2 i hi t (List.mem_append_right _ ht) e
    rw [getD_set_ne true this]; exact I.tail t ht
  · by_cases hki : k = i
    · subst hki
      rw [hdi] at hs
      by_cases hlt : s < a'.tmps.size
      · rw [hs, put_get_eq _ _ _ (by rw [I.tsz]; exact hlt), hv s hs hlt]
      · have hge : a'.tmps.size ≤ s := Nat.le_of_not_lt hlt
        rw [Array.getElem?_eq_none (by rw [put_size, I.tsz]; exact hge), Array.getElem?_eq_none hge]
    · rw [put_get_ne _ _ _ _ (by rw [← hdi, ← hs]; exact S.hdHd i hi k hk (Ne.symm hki))]
      exact I.hds k hk (getD_back hki hl) s hs
  · rw [put_get_ne _ _ _ _ (by rw [← hdi, ← hs]; exact S.mkHd k hk i hi)]
    exact I.mks k hk (getD_back (hmi k hk) hl) s hs hlt
  · rw [put_get_ne _ _ _ _ (by rw [← hdi]; exact h1 i hi)]
    exact I.rest s h1 h2
  · obtain ⟨g1, g2, g3, g4⟩ := I.made k hk (getD_back (hmi k hk) hl)
    exact ⟨g1, g2, Nat.le_trans g3 hb.size, hst _ _ _ _ _ _ g4 g3 hb⟩
  · exact I.diff j hj k hk (getD_back (hmi j hj) h1) (getD_back (hmi k hk) h2) hne

theorem MInv.make {listed : Array Bool} {U : Nat → Value} {B T : Nat → Nat} {act : Act} {w w1 : World} {u : Value} (S : MOK ops hd mk ts late) (hst : StableΨ Ψ) (I : MInv ops w0 a' hd mk ts Ψ listed U B T act w) {j : Nat} {o : Oper} (hj : j ∈ mk) (ho : ops[j]? = some o)
    (hr : j ∈ Region.ready .any ops listed) (hb : Below w.heap.size w w1) (hΨ : Ψ j w.heap.size w1.heap.size u w1) :
    MInv ops w0 a' hd mk ts Ψ (listed.setIfInBounds j true) (fun k => if k = j then u else U k) (fun k => if k = j then w.heap.size else B k) (fun k => if k = j then w1.heap.size else T k) (act.put o.dst u) w1 := by
  have hdi : dstOf ops j = o.dst := by simp [dstOf, ho]
  have nd := List.nodup_append.1 S.nod
  have nd2 := List.nodup_append.1 nd.2.1
  have hhi : ∀ k ∈ hd, k ≠ j := fun k hk e => nd.2.2 k hk j (List.mem_append_left _ hj) e
  refine ⟨by simp [I.size], I.closed.set hr, fun t ht => ?_, (put_size _ _ _).trans I.tsz, (put_defs _ _ _).trans I.defs, fun k hk hl s hs => ?_, fun k hk hl s hs hlt => ?_, fun s h1 h2 => ?_, I.bel.trans (hb.mono I.bel.size), fun k hk hl => ?_, fun i hi k hk h1 h2 hne => ?_⟩
  · have : j ≠ t := fun e => nd2.2.2 j hj t ht e
    rw [getD_set_ne true this]; exact I.tail t ht
  · rw [put_get_ne _ _ _ _ (by rw [← hdi, ← hs]; exact (S.mkHd j hj k hk).symm)]
    exact I.hds k hk (getD_back (hhi k hk) hl) s hs
  · by_cases hkj : k = j
    · subst hkj
      rw [hdi] at hs
      rw [hs, put_get_eq _ _ _ (by rw [I.tsz]; exact hlt)]
      simp
    · rw [put_get_ne _ _ _ _ (by rw [← hdi, ← hs]; exact (S.mkMk j hj k hk hkj).symm)]
      simp only [hkj, if_false]
      exact I.mks k hk (getD_back hkj hl) s hs hlt
  · rw [put_get_ne _ _ _ _ (by rw [← hdi]; exact h2 j hj)]
    exact I.rest s h1 h2
  · by_cases hkj : k = j
    · subst hkj
      simp only [if_true]
      exact ⟨I.bel.size, hb.size, Nat.le_refl _, hΨ⟩
    · simp only [hkj, if_false]
      obtain ⟨g1, g2, g3, g4⟩ := I.made k hk (getD_back hkj hl)
      exact ⟨g1, g2, Nat.le_trans g3 hb.size, hst _ _ _ _ _ _ g4 g3 hb⟩
  · by_cases hij : i = j
    · subst hij
      have hki : k ≠ i := Ne.symm hne
      simp only [if_true, hki, if_false]
      exact .inr (I.made k hk (getD_back hki h2)).2.2.1
    · by_cases hkj : k = j
      · subst hkj
        simp only [if_true, hij, if_false]
        exact .inl (I.made i hi (getD_back hij h1)).2.2.1
      · simp only [hij, hkj, if_false]
        exact I.diff i hi k hk (getD_back hij h1) (getD_back hkj h2) hne

def cnt (l : List Nat) (listed : Array Bool) : Nat := (l.filter fun i => !listed.getD i true).length
theorem cnt_same (l : List Nat) (listed : Array Bool) (i : Nat) (h : i ∉ l) : cnt l (listed.setIfInBounds i true) = cnt l listed := by
  induction l with
  | nil => rfl
  | cons k l ih =>
    have hk : i ≠ k := fun e => h (by simp [e])
    have := ih (fun hm => h (by simp [hm]))
    unfold cnt at *
    simp only [List.filter_cons, getD_set_ne true hk]
    split <;> simp_all
theorem cnt_set (l : List Nat) (listed : Array Bool) (i : Nat) (hn : l.Nodup) (hi : i ∈ l) (hun : listed.getD i true = false) : cnt l (listed.setIfInBounds i true) + 1 = cnt l listed := by
  have hlt : i < listed.size := by
    rcases Nat.lt_or_ge i listed.size with h' | h'
    · exact h'
    · simp [Array.getElem?_eq_none h'] at hun
  have hset : (listed.setIfInBounds i true).getD i true = true := by simp [hlt]
  induction l with
  | nil => cases hi
  | cons k l ih =>
    obtain ⟨hkl, hnl⟩ := List.nodup_cons.1 hn
    by_cases hki : k = i
    · subst hki
      have := cnt_same l listed k hkl
      unfold cnt at *
      simp only [List.filter_cons, hset, hun]
      simpa using this
    · have hm : i ∈ l := by
        rcases List.mem_cons.1 hi with h | h
        · exact absurd h.symm hki
        · exact h
      have := ih hnl hm
      unfold cnt at *
      simp only [List.filter_cons, getD_set_ne true (Ne.symm hki)]
      split
      · simp only [List.length_cons]; omega
      · exact this
theorem cnt_zero {l : List Nat} {listed : Array Bool} (h : cnt l listed = 0) : ∀ i ∈ l, listed.getD i true = true := by
  intro i hi
  unfold cnt at h
  have := List.eq_nil_of_length_eq_zero h
  rw [List.filter_eq_nil_iff] at this
  simpa using this i hi
theorem cnt_pos {l : List Nat} {listed : Array Bool} {m : Nat} (h : cnt l listed = m + 1) : ∃ i ∈ l, listed.getD i true = false := by
  unfold cnt at h
  have hne : (l.filter fun i => !listed.getD i true) ≠ [] := fun e => by rw [e] at h; simp at h
  obtain ⟨i, hi⟩ := List.exists_mem_of_ne_nil _ hne
  obtain ⟨h1, h2⟩ := List.mem_filter.1 hi
  exact ⟨i, h1, by simpa using h2⟩

theorem first_ready {listed : Array Bool} : ∀ (l done : List Nat), orderB ops done l = true → (∀ k ∈ done, listed.getD k false = true) → (∀ i ∈ l, i < listed.size) → (∀ i ∈ l, i < ops.size) →
    (∃ i ∈ l, listed.getD i true = false) → ∃ i ∈ l, i ∈ Region.ready .any ops listed
  | [], _, _, _, _, _, ⟨i, hi, _⟩ => by cases hi
  | k :: l, done, ho, hd', hlt, hlo, hex => by
    simp only [orderB, Bool.and_eq_true] at ho
    rcases listed_or (hlt k (by simp)) with hun | hl
    · have hk := hlo k (by simp)
      refine ⟨k, by simp, mem_ready.2 ⟨hun, ops[k], Array.getElem?_eq_getElem hk, fun e he hb => ?_⟩⟩
      exact hd' _ (by simpa using depsB_spec ho.1 _ (Array.getElem?_eq_getElem hk) e he hb)
    · obtain ⟨i, hi, hun⟩ := hex
      have him : i ∈ l := by
        rcases List.mem_cons.1 hi with h | h
        · subst h; exact (not_both hun hl).elim
        · exact h
      obtain ⟨j, hj, hr⟩ := first_ready l (k :: done) ho.2 (fun m hm => by
        rcases List.mem_cons.1 hm with h | h
        · subst h; exact hl
        · exact hd' m h) (fun m hm => hlt m (by simp [hm])) (fun m hm => hlo m (by simp [hm])) ⟨i, him, hun⟩
      exact ⟨j, by simp [hj], hr⟩

theorem any_of_seqL : ∀ (ts : List Nat) (listed : Array Bool) (a : Act) (w : World), seqL ops ts listed = true → wpList P ops Q (pickOps ops ts) a w → wpAny P .any ops Q ts.length listed a w
  | [], listed, a, w, hB, h => ⟨by simpa [seqL] using hB, h⟩
  | t :: ts, listed, a, w, hB, h => by
    simp only [seqL, Bool.and_eq_true, decide_eq_true_eq] at hB
    refine ⟨fun h1 => (by rw [hB.1] at h1; cases h1), fun i hi => ?_⟩
    have hr := hi
    rw [hB.1] at hi
    obtain rfl : i = t := by simpa using hi
    obtain ⟨_, o, ho, _⟩ := mem_ready.1 hr
    have hp : pickOps ops (i :: ts) = o :: pickOps ops ts := by simp [pickOps, ho]
    rw [hp] at h
    have hw : wpOp P ops Q i (wpList P ops Q (pickOps ops ts)) a w := by unfold wpOp; simp only [ho]; exact h
    exact wpOp_mono (fun a' w' h' => any_of_seqL ts _ a' w' hB.2 h') hw

theorem pure_yields {C : World → Prop} {o : Oper} {v v' : Value} {a : Act} {w : World} (hC : C w) (hg : o.guard = none) (hp : ∀ w, (execOp a.eval o).run P w = .ok (.value v') w) (h : YieldsIn P ops C o v a) : Yields P ops o v a := by
  have hw : Region.wanted o (yielded ops a.tmps) = true := by simp [Region.wanted, hg]
  rcases h with ⟨_, h⟩ | ⟨h, _⟩
  · refine .inl ⟨hw, ?_⟩
    have h1 := h w hC
    unfold Oper.quietAt at h1
    rw [hp w] at h1
    simp only [Oper.quietUpon] at h1
    rw [← h1.2]; exact hp
  · rw [hw] at h; cases h

theorem make_any (S : MOK ops hd mk ts late) (hst : StableΨ Ψ)
    (hself : ∀ i ∈ hd, ∀ o, ops[i]? = some o → ∀ Φ, Stable Φ → Nonempty (LatF w0 Φ) → ∃ v, YieldsIn P ops (fun w' => ∃ x : LatF w0 Φ, w' = laterF x) o v a' ∧ ∀ d, o.dst = some d → d < a'.tmps.size → a'.tmps[d]? = some v)
    (hmk : ∀ j ∈ mk, ∀ o, ops[j]? = some o → ∀ w, Below w0.heap.size w0 w → MakesP P o a' w (Ψ j))
    (hlt : ∀ h ∈ late, ∀ o, ops[h]? = some o → ∃ v, ∀ w, (execOp a'.eval o).run P w = .ok (.value v) w)
    (hQ : ∀ c a d v w, Q (.panic c) (Act.put a d v) w → Q (.panic c) a w)
    (ht : ∀ (U : Nat → Value) (B T : Nat → Nat) (w' : World), Below w0.heap.size w0 w' → (∀ j ∈ mk, w0.heap.size ≤ B j ∧ B j ≤ T j ∧ T j ≤ w'.heap.size ∧ Ψ j (B j) (T j) (U j) w') → (∀ j ∈ mk, ∀ k ∈ mk, j ≠ k → T j ≤ B k ∨ T k ≤ B j) →
      wpList P ops Q (pickOps ops ts) (putMk ops U mk a') w') :
    ∀ (m : Nat) (listed : Array Bool) (U : Nat → Value) (B T : Nat → Nat) (act : Act) (w : World), MInv ops w0 a' hd mk ts Ψ listed U B T act w → cnt (hd ++ mk) listed = m → wpAny P .any ops Q (m + ts.length) listed act w := by
  have nd := List.nodup_append.1 S.nod
  have nd2 := List.nodup_append.1 nd.2.1
  have hnhm : (hd ++ mk).Nodup := List.nodup_append.2 ⟨nd.1, nd2.1, fun a ha b hb => nd.2.2 a ha b (List.mem_append_left _ hb)⟩
  have hltA : ∀ i ∈ hd ++ mk, i < ops.size := fun i hi => S.lt i (by
    rcases List.mem_append.1 hi with h | h
    · exact List.mem_append_left _ h
    · exact List.mem_append_right _ (List.mem_append_left _ h))
  have hcov : ∀ i, i < ops.size → i ∈ hd ++ mk ∨ i ∈ ts := by
    intro i hi
    have hmem := S.cov i hi
    rcases List.mem_append.1 hmem with h | h
    · exact .inl (List.mem_append_left _ h)
    · rcases List.mem_append.1 h with h | h
      · exact .inl (List.mem_append_right _ h)
      · exact .inr h
  intro m
  induction m with
  | zero =>
    intro listed U B T act w I hc
    have hall : ∀ i ∈ hd ++ mk, listed.getD i false = true := fun i hi => by
      rcases listed_or (listed := listed) (k := i) (by rw [I.size]; exact hltA i hi) with h | h
      · rw [cnt_zero hc i hi] at h; cases h
      · exact h
    have hL : listed = (Array.range ops.size).map fun i => !ts.contains i := by
      apply Array.ext
      · simp [I.size]
      · intro i h1 h2
        have hi : i < ops.size := by rw [← I.size]; exact h1
        rcases hcov i hi with h | h
        · have hx := hall i h
          have hnt : i ∉ ts := fun hts => by
            have := I.tail i hts
            exact not_both this hx
          simp [h1] at hx
          simp [hx, hnt]
        · have hx := I.tail i h
          simp [h1] at hx
          simp [hx, h]
    have hact : act = putMk ops U mk a' := by
      refine act_ext (I.tsz.trans (putMk_size U a' mk).symm) (I.defs.trans (putMk_defs U a' mk).symm) fun s => ?_
      by_cases hm : ∃ k ∈ mk, dstOf ops k = some s
      · obtain ⟨k, hk, hdk⟩ := hm
        by_cases hlt : s < a'.tmps.size
        · rw [I.mks k hk (hall k (List.mem_append_right _ hk)) s hdk hlt, putMk_eq U a' s hlt k hdk mk hk (fun m hm' hne => S.mkMk k hk m hm' hne)]
        · have hge : a'.tmps.size ≤ s := Nat.le_of_not_lt hlt
          rw [Array.getElem?_eq_none (by rw [I.tsz]; exact hge), Array.getElem?_eq_none (by rw [putMk_size]; exact hge)]
      · have hno : ∀ k ∈ mk, dstOf ops k ≠ some s := fun k hk e => hm ⟨k, hk, e⟩
        rw [putMk_ne U a' s mk hno]
        by_cases hh : ∃ k ∈ hd, dstOf ops k = some s
        · obtain ⟨k, hk, hdk⟩ := hh
          exact I.hds k hk (hall k (List.mem_append_left _ hk)) s hdk
        · exact I.rest s (fun k hk e => hh ⟨k, hk, e⟩) hno
    rw [Nat.zero_add, hact]
    refine any_of_seqL ts listed _ w (by rw [hL]; exact S.seq) (ht U B T w I.bel (fun j hj => I.made j hj (hall j (List.mem_append_right _ hj))) (fun j hj k hk hne => I.diff j hj k hk (hall j (List.mem_append_right _ hj)) (hall k (List.mem_append_right _ hk)) hne))
  | succ m ih =>
    intro listed U B T act w I hc
    rw [show m + 1 + ts.length = (m + ts.length) + 1 by omega]
    have hstable : Stable (fun w' => Below w.heap.size w w') := fun x y hx hy => hx.trans (hy.mono hx.size)
    have hne : Nonempty (LatF w0 (fun w' => Below w.heap.size w w')) := ⟨⟨w, I.bel, Below.refl _ _⟩⟩
    by_cases hex : ∃ t ∈ ts, t ∈ Region.ready .any ops listed
    · obtain ⟨t, htt, htr⟩ := hex
      obtain ⟨h, hh, hun⟩ := cnt_pos hc
      rcases S.tails t htt h hh with hw | ⟨hlate, hhd, hdeps⟩
      · exact (not_both hun (anc_listed I.closed htr hw)).elim
      · have hhlt := hltA h hh
        have ho : ops[h]? = some ops[h] := Array.getElem?_eq_getElem hhlt
        have hr : h ∈ Region.ready .any ops listed := mem_ready.2 ⟨hun, _, ho, fun e he hb => anc_listed I.closed htr (hdeps _ ho e he hb)⟩
        obtain ⟨hpure, hfree⟩ := S.lates h hlate
        simp only [pureB, ho, Option.isNone_iff_eq_none] at hpure
        obtain ⟨v', hv'⟩ := hlt h hlate _ ho
        obtain ⟨v, hy, hv⟩ := hself h hhd _ ho _ hstable hne
        obtain ⟨he, hw⟩ := I.looks S (List.mem_append_left _ hhd) ho hr
        have hyy : Yields P ops ops[h] v act := pure_yields (w := w) ⟨⟨w, I.bel, Below.refl _ _⟩, rfl⟩ hpure (by rw [he]; exact hv') (hy.of_same he hw)
        refine wpAny_first ho S.sel (fun c a w => hQ c a _ _ w) _ listed act w (fun j oj hoj hjh hunj hno => ?_) hr hyy
          (ih _ U B T _ w (I.head S hst hhd ho hr hv (Below.refl _ _)) (by have := cnt_set _ listed h hnhm hh hun; omega))
        rcases hfree j oj hoj hjh with h1 | h1 | h1
        · obtain ⟨o', ho', e, he', hb, hon⟩ := Region.waitsFor_spec h1
          have : o' = oj := Option.some.inj (ho'.symm.trans hoj)
          subst this
          exact absurd hon (hno e he' hb)
        · exact (not_both hunj (anc_listed I.closed hr h1)).elim
        · simpa [apartB, ho, hoj] using h1
    · refine ⟨fun h0 => ?_, fun i hi => ?_⟩
      · obtain ⟨h, hh, hun⟩ := cnt_pos hc
        obtain ⟨i, _, hr⟩ := first_ready (hd ++ mk) [] S.ord (fun _ h => by cases h) (fun i hi => by rw [I.size]; exact hltA i hi) hltA ⟨h, hh, hun⟩
        rw [h0] at hr; cases hr
      · obtain ⟨hun, o, ho, _⟩ := mem_ready.1 hi
        have hil : i < ops.size := (Array.getElem?_eq_some_iff.1 ho).1
        have hin : i ∈ hd ++ mk := by
          rcases hcov i hil with h | h
          · exact h
          · exact absurd ⟨i, h, hi⟩ hex
        have hcnt := cnt_set _ listed i hnhm hin hun
        obtain ⟨he, hw⟩ := I.looks S hin ho hi
        rcases List.mem_append.1 hin with hhd | hmk'
        · obtain ⟨v, hy, hv⟩ := hself i hhd _ ho _ hstable hne
          refine wpOp_of_qOp (C := fun w' => ∃ x : LatF w0 (fun w' => Below w.heap.size w w'), w' = laterF x) (K := fun x => x = act.put o.dst v) ⟨⟨w, I.bel, Below.refl _ _⟩, rfl⟩ (fun x w' hw' hx => ?_) ((hy.of_same he hw).qOp ho rfl)
          subst hx
          obtain ⟨y, rfl⟩ := hw'
          exact ih _ U B T _ _ (I.head S hst hhd ho hi hv y.phi) (by omega)
        · have hg := (S.mkPlain i hmk' o ho).1
          have hwant : Region.wanted o (yielded ops act.tmps) = true := by simp [Region.wanted, hg]
          unfold wpOp
          simp only [ho, hwant, if_true]
          refine .inl (hmk i hmk' o ho w I.bel act _ _ he fun u w1 hb hΨ => ?_)
          exact ih _ _ _ _ _ _ (I.make S hst hmk' ho hi hb hΨ) (by omega)

/-- THE THEOREM: 'hd': the operations that read, reckon or call; 'mk': those that make something new; 'ts': the last ones, in their order; 'late': heads that may also come behind the first of the last. -/
theorem wp_region_makes {id : Nat} {a : Act} (hd mk ts late : List Nat) (Ψ : Nat → Nat → Nat → Value → World → Prop) (hm : P.follows .mixedOrders = true) (hB : makeB ops hd mk ts late = true)
    (hQ : ∀ c a d v w, Q (.panic c) (Act.put a d v) w → Q (.panic c) a w) (hst : StableΨ Ψ)
    (hq : ∀ Φ : World → Prop, Stable Φ → Nonempty (LatF w0 Φ) → wpQuiet P ops (fun w' => ∃ x : LatF w0 Φ, w' = laterF x) (fun x => x = a') (pickOps ops hd) a)
    (hmk : ∀ j ∈ mk, ∀ o, ops[j]? = some o → ∀ w, Below w0.heap.size w0 w → MakesP P o a' w (Ψ j))
    (hlt : ∀ h ∈ late, ∀ o, ops[h]? = some o → ∃ v, ∀ w, (execOp a'.eval o).run P w = .ok (.value v) w)
    (ht : ∀ (U : Nat → Value) (B T : Nat → Nat) (w' : World), Below w0.heap.size w0 w' → (∀ j ∈ mk, w0.heap.size ≤ B j ∧ B j ≤ T j ∧ T j ≤ w'.heap.size ∧ Ψ j (B j) (T j) (U j) w') → (∀ j ∈ mk, ∀ k ∈ mk, j ≠ k → T j ≤ B k ∨ T k ≤ B j) →
      wpList P ops Q (pickOps ops ts) (putMk ops U mk a') w') : (Code.region id ops true).wp P Q a w0 := by
  have S := MOK.of hB
  have hq0 := hq (fun _ => True) (fun _ _ _ _ => trivial) ⟨⟨w0, Below.refl _ _, trivial⟩⟩
  have hpin := pin _ _ hq0
  refine wp_region_any hm ?_
  have hsub : ∀ o ∈ pickOps ops hd, o ∈ ops := fun o ho => by
    obtain ⟨i, _, h⟩ := List.mem_filterMap.1 ho
    exact Array.mem_of_getElem? h
  have hsel : ∀ o ∈ ops, ∀ cs b, o.op ≠ .select cs b := fun o ho cs b => by
    obtain ⟨i, h1, h2⟩ := Array.mem_iff_getElem.1 ho
    exact S.sel i o cs b (by rw [← h2]; exact Array.getElem?_eq_getElem h1)
  have hself : ∀ i ∈ hd, ∀ o, ops[i]? = some o → ∀ Φ, Stable Φ → Nonempty (LatF w0 Φ) → ∃ v, YieldsIn P ops (fun w' => ∃ x : LatF w0 Φ, w' = laterF x) o v a' ∧ ∀ d, o.dst = some d → d < a'.tmps.size → a'.tmps[d]? = some v :=
    fun i hi o ho Φ hΦ hn => self_of hsel (pickOps ops hd) a hsub (hq Φ hΦ hn) S.chain o (List.mem_filterMap.2 ⟨i, hi, ho⟩)
  have I0 : MInv ops w0 a' hd mk ts Ψ (Array.replicate ops.size false) (fun _ => undef) (fun _ => 0) (fun _ => 0) a w0.drew := by
    have hnol : ∀ k, (Array.replicate ops.size false).getD k false = true → False := fun k h => by rw [getD_replicate_false] at h; cases h
    refine ⟨by simp, fun j hj => (hnol j hj).elim, fun t ht' => ?_, hpin.1.symm, hpin.2.1.symm, fun k _ h => (hnol k h).elim, fun k _ h => (hnol k h).elim, fun s h1 h2 => ?_, (Below.refl _ _).drew, fun k _ h => (hnol k h).elim, fun j _ k _ h => (hnol j h).elim⟩
    · have := S.lt t (List.mem_append_right _ (List.mem_append_right _ ht'))
      simp [this]
    · refine (hpin.2.2 s fun o ho => ?_).symm
      obtain ⟨i, hi, h⟩ := List.mem_filterMap.1 ho
      have := h1 i hi
      simpa [dstOf, h] using this
  have hc0 : cnt (hd ++ mk) (Array.replicate ops.size false) = (hd ++ mk).length := by
    unfold cnt
    congr 1
    apply List.filter_eq_self.2
    intro i hi
    have : i < ops.size := S.lt i (by
      rcases List.mem_append.1 hi with h | h
      · exact List.mem_append_left _ h
      · exact List.mem_append_right _ (List.mem_append_left _ h))
    simp [this]
  have H := make_any (P := P) (Q := Q) S hst hself hmk hlt hQ ht _ _ _ _ _ a w0.drew I0 hc0
  have hl : (hd ++ mk).length + ts.length = ops.size := by rw [← S.len]; simp; omega
  rw [hl] at H
  exact H

/-- The same where all that is made are single blocks. -/
theorem wp_region_make {id : Nat} {a : Act} (hd mk ts late : List Nat) (V : Nat → Nat → Value) (ob : Nat → Obj) (hm : P.follows .mixedOrders = true) (hB : makeB ops hd mk ts late = true)
    (hQ : ∀ c a d v w, Q (.panic c) (Act.put a d v) w → Q (.panic c) a w)
    (hq : ∀ Φ : World → Prop, Stable Φ → Nonempty (LatF w0 Φ) → wpQuiet P ops (fun w' => ∃ x : LatF w0 Φ, w' = laterF x) (fun x => x = a') (pickOps ops hd) a)
    (hmk : ∀ j ∈ mk, ∀ o, ops[j]? = some o → ∀ w, Below w0.heap.size w0 w → (execOp a'.eval o).run P w = .ok (.value (V j w.heap.size)) (w.alloc (ob j)))
    (hlt : ∀ h ∈ late, ∀ o, ops[h]? = some o → ∃ v, ∀ w, (execOp a'.eval o).run P w = .ok (.value v) w)
    (ht : ∀ (G : Nat → Nat) (w' : World), Below w0.heap.size w0 w' → (∀ j ∈ mk, w0.heap.size ≤ G j ∧ G j < w'.heap.size ∧ w'.heap[G j]? = some (ob j)) → (∀ j ∈ mk, ∀ k ∈ mk, j ≠ k → G j ≠ G k) →
      wpList P ops Q (pickOps ops ts) (putMk ops (fun j => V j (G j)) mk a') w') : (Code.region id ops true).wp P Q a w0 := by
  refine wp_region_makes hd mk ts late (fun j b t u w => u = V j b ∧ t = b + 1 ∧ w.heap[b]? = some (ob j)) hm hB hQ ?_ hq (fun j hj o ho w hb => MakesP.alloc (hmk j hj o ho w hb)) hlt ?_
  · rintro j b t u w w' ⟨h1, h2, h3⟩ ht' hb
    exact ⟨h1, h2, (hb.block b (by omega)).trans h3⟩
  · intro U B T w' hb hmade hdiff
    have hU : putMk ops U mk a' = putMk ops (fun j => V j (B j)) mk a' := by
      have : ∀ l, (∀ j ∈ l, U j = V j (B j)) → putMk ops U l a' = putMk ops (fun j => V j (B j)) l a' := by
        intro l
        induction l with
        | nil => intro _; rfl
        | cons j l ih =>
          intro h
          simp only [putMk]
          rw [ih (fun k hk => h k (by simp [hk])), h j (by simp)]
      exact this mk fun j hj => (hmade j hj).2.2.2.1
    rw [hU]
    refine ht B w' hb (fun j hj => ?_) (fun j hj k hk hne => ?_)
    · obtain ⟨h1, h2, h3, _, h5, h6⟩ := hmade j hj
      exact ⟨h1, by omega, h6⟩
    · have h1 := (hmade j hj).2.2.2.2.1
      have h2 := (hmade k hk).2.2.2.2.1
      rcases hdiff j hj k hk hne with h | h <;> omega
end
def BlkΨ (V : Nat → Value) (ob : Obj) (b t : Nat) (u : Value) (w : World) : Prop := u = V b ∧ t = b + 1 ∧ w.heap[b]? = some ob
theorem BlkΨ.stable {V : Nat → Value} {ob : Obj} {b t : Nat} {u : Value} {w w' : World} (h : BlkΨ V ob b t u w) (ht : t ≤ w.heap.size) (hb : Below w.heap.size w w') : BlkΨ V ob b t u w' :=
  ⟨h.1, h.2.1, (hb.block b (by have := h.2.1; omega)).trans h.2.2⟩
theorem MakesP.blk {P : Program} {a' : Act} {o : Oper} {w : World} {V : Nat → Value} {ob : Obj} (h : (execOp a'.eval o).run P w = .ok (.value (V w.heap.size)) (w.alloc ob)) : MakesP P o a' w (BlkΨ V ob) := MakesP.alloc h
theorem blk4 {w : World} {g : Nat} {t : TypeId} {c0 c1 c2 c3 : Value} (h : w.heap[g]? = some (.cells #[c0, c1, c2, c3] t (0, 0))) :
    w.cell? ⟨g, 0, none⟩ = some c0 ∧ w.cell? ⟨g, 1, none⟩ = some c1 ∧ w.cell? ⟨g, 2, none⟩ = some c2 ∧ w.cell? ⟨g, 3, none⟩ = some c3 ∧ ∀ o, w.frozen? ⟨g, o, none⟩ = false :=
  ⟨cell_of_row w g 0 _ t (0, 0) h, cell_of_row w g 1 _ t (0, 0) h, cell_of_row w g 2 _ t (0, 0) h, cell_of_row w g 3 _ t (0, 0) h, fun o => frozen_of_row w g o _ t h⟩
theorem blk2 {w : World} {g : Nat} {t : TypeId} {c0 c1 : Value} (h : w.heap[g]? = some (.cells #[c0, c1] t (0, 0))) :
    w.cell? ⟨g, 0, none⟩ = some c0 ∧ w.cell? ⟨g, 1, none⟩ = some c1 ∧ ∀ o, w.frozen? ⟨g, o, none⟩ = false :=
  ⟨cell_of_row w g 0 _ t (0, 0) h, cell_of_row w g 1 _ t (0, 0) h, fun o => frozen_of_row w g o _ t h⟩
theorem heap_set_eq {w : World} {g : Nat} {t : TypeId} {cs : Array Value} (h : w.heap[g]? = some (.cells cs t (0, 0))) (i : Nat) (v : Value) : (w.setCell ⟨g, i, none⟩ v).heap[g]? = some (.cells (cs.setIfInBounds i v) t (0, 0)) :=
  heap_setCell_same w g i cs t v h
/-- A struct of four stored into a block of its own. -/
theorem stored4 {w1 : World} {g : Nat} {t : TypeId} {c0 c1 c2 c3 : Value} (h : w1.heap[g]? = some (.cells #[c0, c1, c2, c3] t (0, 0))) (v0 v1 v2 v3 : Value) :
    ∃ w2, w2 = (((w1.setCell ⟨g, 0, none⟩ v0).setCell ⟨g, 1, none⟩ v1).setCell ⟨g, 2, none⟩ v2).setCell ⟨g, 3, none⟩ v3 ∧ w2.heap[g]? = some (.cells #[v0, v1, v2, v3] t (0, 0)) ∧ w2.heap.size = w1.heap.size ∧
      ∀ B w0, Below B w0 w1 → B ≤ g → Below B w0 w2 := by
  refine ⟨_, rfl, ?_, by simp, fun B w0 hb hg => (((hb.setCell hg _).setCell hg _).setCell hg _).setCell hg _⟩
  have h1 := heap_set_eq (heap_set_eq (heap_set_eq (heap_set_eq h 0 v0) 1 v1) 2 v2) 3 v3
  simpa using h1
theorem stored2 {w1 : World} {g : Nat} {t : TypeId} {c0 c1 : Value} (h : w1.heap[g]? = some (.cells #[c0, c1] t (0, 0))) (v0 v1 : Value) :
    ∃ w2, w2 = (w1.setCell ⟨g, 0, none⟩ v0).setCell ⟨g, 1, none⟩ v1 ∧ w2.heap[g]? = some (.cells #[v0, v1] t (0, 0)) ∧ w2.heap.size = w1.heap.size ∧
      ∀ B w0, Below B w0 w1 → B ≤ g → Below B w0 w2 := by
  refine ⟨_, rfl, ?_, by simp, fun B w0 hb hg => (hb.setCell hg _).setCell hg _⟩
  have h1 := heap_set_eq (heap_set_eq h 0 v0) 1 v1
  simpa using h1
theorem OwnQ.lit {base : Nat} {E : TypeId} (w : World) (cs : Array Value) (l : List Quad) (n : Nat) (hn : n = l.length) (h : cs.toList = qcs l) (hb : base ≤ w.heap.size) (hm : n ≤ 1048576) :
    OwnQ (w.alloc (.cells cs E)) base E (.slice (some ⟨w.heap.size, 0, none⟩) n n) l := by
  subst hn
  have hs : cs.size = l.length * 4 := by rw [← Array.length_toList, h, qcs_length]
  have := World.ownsRow_lit (e := E) (size := 4) (base := base) w cs l.length hb (by simp only [maxLen]; omega) hs
  rw [h] at this
  exact this
end Go.Proofs.Ytcclapenpaediaa
