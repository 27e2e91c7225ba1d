/- The engine: families of slices that a table holds (any number of them), and the law of ways that meet for such states. Over any program. -/
import Derived.Test.YtoleoojcodlciaaGb
namespace Go.Proofs.Ytoleoojcodlciaa
open Go.RowKit
set_option linter.unusedVariables false
set_option linter.unusedSimpArgs false
section
variable {C : Ctx} {T : Nat → AV} {R : Nat → Option Row} {b : Nat}
theorem Le_gen {k : Nat} {b' : Nat} {T2 : Nat → AV} {R2 : Nat → Option Row} (g : GMap) (fz : List Nat) (hρ : ∀ s, k ≤ s → C.ρ0 s = none)
    (hid : ∀ s, s < k → g s = some (some s)) (ginj : ∀ s t u r r', R2 s = some r → r.solid = true → R2 t = some r' → r'.solid = true → g s = some (some u) → g t = some (some u) → s = t)
    (gfz : ∀ s u r, R2 s = some r → r.solid = true → g s = some (some u) → u ∉ fz) (hnone : ∀ s, R2 s = none → g s = none)
    (hT : ∀ t, T2 t = .top ∨ cvW g (fzF fz R) (T t) (T2 t)) (hR : ∀ s r, R2 s = some r → rowK g (fzF fz R) R (g s) r) : Le C ⟨T, R, b⟩ ⟨T2, R2, b'⟩ := by
  intro M ρ a w h
  have hle := lent_le h fz
  have sol : ∀ {s r}, R2 s = some r → r.solid = true → (∃ s0 r0, g s = some (some s0) ∧ R s0 = some r0 ∧ r0.solid = true ∧ cvR (g) (fzF fz R) r0 r) ∨ (g s = some none ∧ ∃ E sz, r = .row E sz [] ∨ r = .tab E sz []) :=
    fun hr hs => rowK_solid (hR _ _ hr) hs
  -- rows that lie somewhere come from rows
  have src : ∀ {s r x}, R2 s = some r → r.solid = true → canP (g) ρ s = some x → x.nl = false → ∃ s0 r0, g s = some (some s0) ∧ R s0 = some r0 ∧ r0.solid = true ∧ ρ s0 = some x := by
    intro s r x hr hs hx hn
    rcases sol hr hs with ⟨s0, r0, e1, e2, e3, e4⟩ | ⟨e1, _⟩
    · rw [canP_row e1] at hx
      exact ⟨s0, r0, e1, e2, e3, hx⟩
    · rw [canP_nil e1] at hx; injection hx with hx; subst hx; cases hn
  refine ⟨lentM M ρ (fzF fz R) [] w, canP (g) ρ, fun t => ?_, h.N, h.df, ⟨fun s r hs hsol => ?_, fun s s' r r' x x' hs hs' h1 h2 hx hx' hne hn hn' => ?_, fun b o v hM => ?_, fun b o v s r x hM hs hsol hx hn => ?_⟩, h.chg, fun s r x hs hsol hx hn => ?_, Imm.le_trans h.m0 hle, fun s x hs => ?_, fun b hb hD => ?_, fun s hs => ?_⟩
  · show VR _ (canP (g) ρ) (T2 t) _
    rcases hT t with e | e
    · rw [e]; exact .plain (.top _)
    · exact cvW_ok h fz (h.tm t) e
  · have hs : R2 s = some r := hs
    rcases sol hs hsol with ⟨s0, r0, e1, e2, e3, e4⟩ | ⟨e1, E, sz, rfl | rfl⟩
    · obtain ⟨x, hx, hX⟩ := h.mr.row s0 r0 e2 e3
      refine ⟨x, by rw [canP_row e1]; exact hx, ?_⟩
      unfold cvR at e4
      split at e4
      · obtain ⟨rfl, hL⟩ := e4
        obtain ⟨h0, arr, a1, a2, a3, a4⟩ := hX
        obtain ⟨l1, l2⟩ := cvL_get hL
        refine ⟨h0, arr, a1, by omega, a3, fun i c' v hc hv => ?_⟩
        obtain ⟨c, hc', hcc⟩ := l2 i c' hc
        exact cv1_ok h fz (a4 i c v hc' hv) hcc
      · obtain ⟨rfl, rfl, rfl⟩ := e4
        rcases hX with hX | ⟨h0, xs, a1, a2, a3, a4⟩
        · exact .inl hX
        · exact .inr ⟨h0, xs, a1, a2, a3, fun i c v hc hv => (a4 i c v hc hv).mono hle⟩
      · obtain ⟨rfl, rfl, hL⟩ := e4
        obtain ⟨l1, l2⟩ := cvL_get hL
        rcases hX with ⟨a1, a2, a3⟩ | ⟨h0, xs, a1, a2, a3, a4⟩
        · subst a2
          exact .inl ⟨a1, List.eq_nil_of_length_eq_zero (by simpa using l1.symm), a3⟩
        · refine .inr ⟨h0, xs, a1, by omega, a3, fun i c' v hc hv => ?_⟩
          obtain ⟨c, hc', hcc⟩ := l2 i c' hc
          exact cv1_ok h fz (a4 i c v hc' hv) hcc
      · obtain ⟨rfl, rfl, hL⟩ := e4
        obtain ⟨l1, l2⟩ := cvL_get hL
        rcases hX with ⟨a1, a2, a3⟩ | ⟨h0, xs, a1, a2, a3, a4⟩
        · subst a2
          exact .inl ⟨a1, List.eq_nil_of_length_eq_zero (by simpa using l1.symm), a3⟩
        · refine .inr ⟨h0, xs, a1, by omega, a3, fun i c' v hc hv => ?_⟩
          obtain ⟨c, hc', hcc⟩ := l2 i c' hc
          exact cv1_ok h fz (.plain (a4 i c v hc' hv)) hcc
      · cases hsol
      · exact e4.elim
    · exact ⟨_, canP_nil e1, .inl ⟨rfl, rfl, rfl⟩⟩
    · exact ⟨_, canP_nil e1, .inl ⟨rfl, rfl, rfl⟩⟩
  · obtain ⟨s0, r0, e1, e2, e3, e4⟩ := src hs h1 hx hn
    obtain ⟨s0', r0', e1', e2', e3', e4'⟩ := src hs' h2 hx' hn'
    refine h.mr.inj s0 s0' r0 r0' x x' e2 e2' e3 e3' e4 e4' (fun e => hne ?_) hn hn'
    subst e
    exact ginj _ _ _ _ _ hs h1 hs' h2 e1 e1'
  · unfold lentM at hM
    split at hM
    · rename_i hc
      obtain ⟨s, cs, x, h1, h2, h3, hn, h4, h5⟩ := hc
      subst h4
      obtain ⟨_, _, xs, k1, k2, k3⟩ := fzAny h h1 h3 hn
      have hi' : o < xs.length := by omega
      have := World.ownsRow.cells k1 (g := x.g) rfl o _ (List.getElem?_eq_getElem hi')
      rw [add_off, Nat.zero_add] at this
      rw [this] at hM
      injection hM with hM; subst hM
      exact ⟨this, k3 _ (List.getElem_mem hi')⟩
    · exact h.mr.imm b o v hM
  · obtain ⟨s0, r0, e1, e2, e3, e4⟩ := src hs hsol hx hn
    unfold lentM at hM
    split at hM
    · rename_i hc
      obtain ⟨s', cs, x', h1, h2, h3, hn', h4, h5⟩ := hc
      subst h4
      obtain ⟨r1, hrow, hsl, hmem⟩ := fzL h1
      exact h.mr.inj s0 s' r0 r1 x x' e2 hrow e3 hsl e4 h3 (fun e => gfz _ _ _ hs hsol e1 (e ▸ hmem)) hn hn'
    · exact h.mr.apt b o v s0 r0 x hM e2 e3 e4 hn
  · obtain ⟨s0, r0, e1, e2, e3, e4⟩ := src hs hsol hx hn
    exact h.new s0 r0 x e2 e3 e4 hn
  · have hlt : s < k := by
      rcases Nat.lt_or_ge s k with h' | h'
      · exact h'
      · rw [hρ s h'] at hs; cases hs
    have hg := hid s hlt
    rw [canP_row hg]
    exact h.r0 s x hs
  · have hnone : ¬ ∃ s cs x, Lnt (fzF fz R) s cs ∧ s ∉ ([] : List Nat) ∧ ρ s = some x ∧ x.nl = false ∧ x.g = b := by
      rintro ⟨s, cs, x, h1, h2, h3, hn, rfl⟩
      obtain ⟨r1, hrow, hsl, hmem⟩ := fzL h1
      rcases h.new s r1 x hrow hsl h3 hn with h' | h'
      · exact hD h'
      · omega
    rw [← h.mold b hb hD]
    funext o
    unfold lentM
    rw [if_neg]
    rintro ⟨s, cs, x, h1, h2, h3, hn, h4, _⟩
    exact hnone ⟨s, cs, x, h1, h2, h3, hn, h4⟩
  · have hs : R2 s = none := hs
    unfold canP
    rw [hnone s hs]
end
-- where the names of a family begin (above all names of the walk)
/-- The cells of a table: its rows are named one behind the other. -/
def ownF {α : Type} (k : Nat) : List (List α) → List AV
  | [] => []
  | x :: l => .own k x.length :: ownF (k + 1) l
def rowsL {α : Type} (E sz : Nat) (e : α → List AV) (le : List (List α)) : List Row := le.map fun x => Row.row E sz (encL e x)
section
variable {α : Type} {E sz : Nat} {e : α → List AV} {e2 : List α → List AV}
theorem ownF_len : ∀ (k : Nat) (le : List (List α)), (ownF k le).length = le.length
  | _, [] => (rfl)
  | k, x :: l => by simp [ownF, ownF_len (k + 1) l]
theorem ownF_nil (k : Nat) : ownF k ([] : List (List α)) = [] := (rfl)
theorem ownF_app : ∀ (k : Nat) (l m : List (List α)), ownF k (l ++ m) = ownF k l ++ ownF (k + l.length) m
  | k, [], m => (rfl)
  | k, x :: l, m => by simp [ownF, ownF_app (k + 1) l m]; congr 1; omega
theorem ownF_drop : ∀ (k : Nat) (l : List (List α)) (j : Nat), (ownF k l).drop j = ownF (k + j) (l.drop j)
  | k, [], j => by simp [ownF]
  | k, x :: l, 0 => by simp
  | k, x :: l, j + 1 => by simp [ownF, ownF_drop (k + 1) l j]; congr 1; omega
theorem ownF_get : ∀ (k : Nat) (l : List (List α)) (i : Nat), (ownF k l)[i]? = (l[i]?).map fun x => AV.own (k + i) x.length
  | k, [], i => by simp [ownF]
  | k, x :: l, 0 => by simp [ownF]
  | k, x :: l, i + 1 => by simp [ownF, ownF_get (k + 1) l i, show k + 1 + i = k + (i + 1) by omega]
theorem rowsL_len (le : List (List α)) : (rowsL E sz e le).length = le.length := by simp [rowsL]
theorem rowsL_ren (f : Nat → Nat) (le : List (List α)) : (rowsL E sz e le).map (Row.ren f) = rowsL E sz e le := by
  unfold rowsL
  rw [List.map_map]
  rfl
theorem ownF_ren (s : Nat) : ∀ (k : Nat) (le : List (List α)), (ownF k le).map (ren1 (mId [] s)) = ownF (s + k) le
  | k, [] => (rfl)
  | k, x :: l => by
    simp only [ownF, List.map_cons, ownF_ren s (k + 1) l]
    rw [show s + (k + 1) = s + k + 1 by omega]
    simp [ren1, mId]
theorem add_lt {R : Nat → Option Row} {k t : Nat} {l : List Row} (h : t < k) : addRows R k l t = R t := by rw [addRows_get, if_neg (by omega)]
theorem row_at {R : Nat → Option Row} {k i : Nat} {le : List (List α)} {x : List α} (h : le[i]? = some x) : addRows R k (rowsL E sz e le) (k + i) = some (.row E sz (encL e x)) := by
  obtain ⟨h1, h2⟩ := List.getElem?_eq_some_iff.1 h
  rw [addRows_get, if_pos (by rw [rowsL_len]; omega), show k + i - k = i by omega]
  simp [rowsL, h]
theorem upd_fam {R : Nat → Option Row} {r : Option Row} {s k j : Nat} (h : s < k) : upd R s r (k + j) = R (k + j) := upd_ne _ _ (by omega)
/-- The rows of a family lie where the state says. -/
def FamAt (E sz : Nat) (e : α → List AV) (k : Nat) (le : List (List α)) (R : Nat → Option Row) : Prop := ∀ (i : Nat) (x : List α), le[i]? = some x → R (k + i) = some (.row E sz (encL e x))
theorem famAt_add {R : Nat → Option Row} {k : Nat} {le : List (List α)} : FamAt E sz e k le (addRows R k (rowsL E sz e le)) := fun i x h => row_at h
theorem famAt_upd {R : Nat → Option Row} {r : Option Row} {s k : Nat} {le : List (List α)} (hs : s < k) (h : FamAt E sz e k le R) : FamAt E sz e k le (upd R s r) := fun i x hx => by rw [upd_fam hs]; exact h i x hx
theorem pass_own {R : Nat → Option Row} (h2 : ∀ x, e2 x = [.sl (encL e x) x.length]) : ∀ {k : Nat} {le : List (List α)}, FamAt E sz e k le R → (ownF k le).map (pass0 [] R) = encL e2 le
  | k, [], _ => (rfl)
  | k, x :: l, h => by
    have h0 := h 0 x rfl
    rw [Nat.add_zero] at h0
    have ih : (ownF (k + 1) l).map (pass0 [] R) = encL e2 l := pass_own h2 (fun i y hy => by
      have := h (i + 1) y (by simpa using hy)
      rwa [show k + (i + 1) = k + 1 + i by omega] at this)
    simp only [ownF, List.map_cons, encL, h2, ih]
    simp [pass0, findI, h0]
/-- An element of a table. -/
theorem geti_T (k : Nat) {l : List (List α)} {i : Int} {q : List α} (hq : geti l i = some q) : (0 ≤ i ∧ i < (l.length : Int)) ∧ (ownF k l).drop (i.toNat * 1) = .own (k + i.toNat) q.length :: ownF (k + i.toNat + 1) (l.drop (i.toNat + 1)) := by
  obtain ⟨h1, h2⟩ := geti_inv hq
  refine ⟨h1, ?_⟩
  obtain ⟨hlt, he⟩ := List.getElem?_eq_some_iff.1 h2
  rw [Nat.mul_one, ownF_drop, List.drop_eq_getElem_cons hlt, he]
  rfl
theorem geti_R {l : List (List α)} {i : Int} {q : List α} (hq : geti l i = some q) (k : Nat) (R : Nat → Option Row) : addRows R k (rowsL E sz e l) (k + i.toNat) = some (.row E sz (encL e q)) := row_at (geti_inv hq).2

-- ways that meet
def gfam (G : List (Nat × Option Nat)) (h : Nat → Nat) (n : Nat) : GMap := fun s => if (1099511627776 : Nat) ≤ s then (if s < (1099511627776 : Nat) + n then some (some (h (s - (1099511627776 : Nat)))) else none) else lk G s
theorem gfam_lt {G : List (Nat × Option Nat)} {h : Nat → Nat} {n s : Nat} (hs : s < 1099511627776) : gfam G h n s = lk G s := by unfold gfam; rw [if_neg (by omega)]
theorem gfam_ge {G : List (Nat × Option Nat)} {h : Nat → Nat} {n i : Nat} (hi : i < n) : gfam G h n ((1099511627776 : Nat) + i) = some (some (h i)) := by
  unfold gfam; rw [if_pos (by omega), if_pos (by omega), Nat.add_sub_cancel_left]
theorem cvL_own {g : GMap} {F : Nat → Option Row} : ∀ {cs : List AV} {k : Nat} {le : List (List α)} (h : Nat → Nat), (∀ i, i < le.length → g (k + i) = some (some (h i))) → cs.length = le.length → (∀ i x, le[i]? = some x → cs[i]? = some (AV.own (h i) x.length)) → cvL g F cs (ownF k le)
  | [], k, [], h, _, _, _ => trivial
  | [], k, x :: l, h, _, hl, _ => by simp at hl
  | c :: cs, k, [], h, _, hl, _ => by simp at hl
  | c :: cs, k, x :: l, h, h1, hl, h2 => by
    have hc := h2 0 x rfl
    simp only [List.getElem?_cons_zero, Option.some.injEq] at hc
    subst hc
    refine ⟨⟨by have := h1 0 (by simp); rwa [Nat.add_zero] at this, rfl⟩, cvL_own (fun i => h (i + 1)) (fun i hi => ?_) (by simpa using hl) (fun i y hy => ?_)⟩
    · have := h1 (i + 1) (by simpa using hi)
      rwa [show k + (i + 1) = k + 1 + i by omega] at this
    · have := h2 (i + 1) y (by simpa using hy)
      simpa using this
def hKu (k : Nat) : Nat → Nat := fun i => k + i
def hPu (n s0 : Nat) : Nat → Nat := fun i => if i < n then (1099511627776 : Nat) + i else s0
theorem cv_same {G : List (Nat × Option Nat)} {F : Nat → Option Row} {n : Nat} (k : Nat) (le : List (List α)) (hn : n = le.length) : cvL (gfam G (hKu k) n) F (ownF k le) (ownF 1099511627776 le) = True :=
  hn ▸ eq_true (cvL_own (hKu k) (fun i hi => gfam_ge hi) (ownF_len _ _) (fun i x hx => by rw [ownF_get, hx]; rfl))
theorem gfam_at {G : List (Nat × Option Nat)} {n k i : Nat} (h : i < n) : gfam G (hKu k) n (1099511627776 + i) = some (some (k + i)) := gfam_ge h
theorem tn_lt {i : Int} {n : Nat} (h1 : 0 ≤ i) (h2 : i < (n : Int)) : Int.toNat i < n := by omega
theorem cv_push0 {G : List (Nat × Option Nat)} {F : Nat → Option Row} (s0 : Nat) (le : List (List α)) (x : List α) : cvL (gfam G (hPu le.length s0) (le.length + 1)) F (ownF 1099511627776 le ++ [.own s0 x.length]) (ownF 1099511627776 (le ++ [x])) :=
  (cvL_own (hPu le.length s0) (fun i hi => gfam_ge (by simpa using hi)) (by simp [ownF_len]) (fun i y hy => by
    unfold hPu
    by_cases hi : i < le.length
    · rw [if_pos hi, List.getElem?_append_left (by rw [ownF_len]; exact hi), ownF_get]
      rw [List.getElem?_append_left hi] at hy
      rw [hy]; rfl
    · rw [if_neg hi]
      rw [List.getElem?_append_right (by omega)] at hy
      rw [List.getElem?_append_right (by rw [ownF_len]; omega), ownF_len]
      obtain ⟨hlt, he⟩ := List.getElem?_eq_some_iff.1 hy
      have : i - le.length = 0 := by simpa using hlt
      simp only [this] at hy ⊢
      simp only [List.getElem?_cons_zero, Option.some.injEq] at hy
      subst hy; rfl))
theorem cvL_last {g : GMap} {F : Nat → Option Row} : ∀ {a b : List AV} {x y : AV}, cvL g F (a ++ [x]) (b ++ [y]) → cv1 g F x y
  | [], [], x, y, h => h.1
  | [], [_], x, y, h => h.2.elim
  | [], _ :: _ :: _, x, y, h => h.2.elim
  | [_], [], x, y, h => h.2.elim
  | _ :: _ :: _, [], x, y, h => h.2.elim
  | _ :: a, _ :: b, x, y, h => cvL_last (a := a) (b := b) h.2
theorem cv_push {G : List (Nat × Option Nat)} {F : Nat → Option Row} (s0 n : Nat) (le : List (List α)) (x : List α) : cvL (gfam G (hPu le.length s0) (le.length + 1)) F (ownF 1099511627776 le ++ [.own s0 n]) (ownF 1099511627776 (le ++ [x])) = (n = x.length) := propext ⟨fun h => by
    rw [ownF_app] at h
    exact (cvL_last h).2, fun h => h ▸ cv_push0 s0 le x⟩
theorem cv_push1 {G : List (Nat × Option Nat)} {F : Nat → Option Row} (s0 n : Nat) (x : List α) : cvL (gfam G (hPu 0 s0) 1) F [.own s0 n] (ownF 1099511627776 [x]) = (n = x.length) := cv_push (G := G) (F := F) s0 n [] x
theorem famAt_nil {R : Nat → Option Row} {k : Nat} : FamAt E sz e k [] R := fun i x h => by simp at h
end
section
variable {C : Ctx} {T : Nat → AV} {R : Nat → Option Row} {b : Nat} {α : Type} {E sz : Nat} {e : α → List AV}
def ltB (k : Nat) (l : List Nat) : Bool := l.all fun s => Nat.blt s k
theorem ltB_spec {k : Nat} {l : List Nat} (h : ltB k l = true) : ∀ s ∈ l, s < k := fun s hs => by
  have := List.all_eq_true.1 h s hs
  exact Nat.blt_eq ▸ this
theorem Le_fam {k b' : Nat} {lt : List (Nat × AV)} {lr : List (Nat × Row)} {le : List (List α)} (h : Nat → Nat) (G : List (Nat × Option Nat)) (fz : List Nat) (hρ : ∀ s, k ≤ s → C.ρ0 s = none) (hk : Nat.blt k (1099511627776 : Nat) = true)
    (hG : gOK k G fz (lr.map fun x => (x.1, x.2.solid)) = true) (hlr : ltB (1099511627776 : Nat) (lr.map (·.1)) = true)
    (hinj : ∀ i j, i < le.length → j < le.length → h i = h j → i = j) (hdis : ∀ i, i < le.length → h i ∉ srcs G ∧ h i ∉ fz)
    (hT : leT (gfam G h le.length) (fzF fz R) T lt) (hR : leR (gfam G h le.length) (fzF fz R) R lr)
    (hF : ∀ i x, le[i]? = some x → R (h i) = some (.row E sz (encL e x))) : Le C ⟨T, R, b⟩ ⟨mkT lt, addRows (mkR lr) (1099511627776 : Nat) (rowsL E sz e le), b'⟩ := by
  have hk : k < (1099511627776 : Nat) := Nat.blt_eq ▸ hk
  have hG' := hG
  unfold gOK at hG
  simp only [Bool.and_eq_true] at hG
  obtain ⟨⟨⟨⟨g1, g2⟩, g3⟩, g4⟩, g5⟩ := hG
  have lo : ∀ {s : Nat} {r : Row}, mkR lr s = some r → s < (1099511627776 : Nat) := fun {s r} hs => by
    refine ltB_spec hlr s (Classical.byContradiction fun hc => ?_)
    have hn : mkR lr s = none := by
      clear hs hT hR g1 g2 g3 g4 g5 hG' hlr
      induction lr with
      | nil => rfl
      | cons a l ih =>
        simp only [List.map_cons, List.mem_cons, not_or] at hc
        simp only [mkR]
        rw [upd_ne _ _ hc.1]
        exact ih hc.2
    rw [hn] at hs; cases hs
  have cs : ∀ {s : Nat} {r : Row}, addRows (mkR lr) (1099511627776 : Nat) (rowsL E sz e le) s = some r → (s < (1099511627776 : Nat) ∧ mkR lr s = some r) ∨ (∃ i x, i < le.length ∧ s = (1099511627776 : Nat) + i ∧ le[i]? = some x ∧ r = .row E sz (encL e x)) := by
    intro s r hs
    rw [addRows_get] at hs
    split at hs
    · rename_i hc
      rw [rowsL_len] at hc
      obtain ⟨x, hx⟩ : ∃ x, le[s - (1099511627776 : Nat)]? = some x := ⟨_, List.getElem?_eq_getElem (by omega)⟩
      refine .inr ⟨s - (1099511627776 : Nat), x, by omega, by omega, hx, ?_⟩
      simp only [rowsL, List.getElem?_map, hx, Option.map_some, Option.some.injEq] at hs
      exact hs.symm
    · exact .inl ⟨lo hs, hs⟩
  refine Le_gen (gfam G h le.length) fz hρ (fun s hs => ?_) (fun s t u r r' hs h1 ht h2 e1 e2 => ?_) (fun s u r hs h1 e1 => ?_) (fun s hs => ?_) (fun t => leT_get hT t) (fun s r hs => ?_)
  · rw [gfam_lt (by omega)]
    have hg := upB_spec g1 s hs
    cases hq : lk G s with
    | none => rw [hq] at hg; cases hg
    | some u =>
      cases u with
      | none => rw [hq] at hg; cases hg
      | some u => rw [hq] at hg; simp only [isIt, beq_iff_eq] at hg; rw [hg]
  · rcases cs hs with ⟨l1, m1⟩ | ⟨i, x, li, rfl, hx, rfl⟩ <;> rcases cs ht with ⟨l2, m2⟩ | ⟨j, y, lj, rfl, hy, rfl⟩
    · rw [gfam_lt l1] at e1; rw [gfam_lt l2] at e2
      exact srcs_inj (nodB_spec g2) (List.mem_filter.2 ⟨lk_mem e1, solOf m1 h1⟩) (List.mem_filter.2 ⟨lk_mem e2, solOf m2 h2⟩)
    · rw [gfam_lt l1] at e1; rw [gfam_ge lj] at e2
      injection e2 with e2; injection e2 with e2
      exact absurd (e2 ▸ srcs_mem (lk_mem e1)) (hdis j lj).1
    · rw [gfam_lt l2] at e2; rw [gfam_ge li] at e1
      injection e1 with e1; injection e1 with e1
      exact absurd (e1 ▸ srcs_mem (lk_mem e2)) (hdis i li).1
    · rw [gfam_ge li] at e1; rw [gfam_ge lj] at e2
      injection e1 with e1; injection e1 with e1
      injection e2 with e2; injection e2 with e2
      rw [hinj i j li lj (by rw [e1, e2])]
  · rcases cs hs with ⟨l1, m1⟩ | ⟨i, x, li, rfl, hx, rfl⟩
    · rw [gfam_lt l1] at e1
      have := List.all_eq_true.1 g4 _ (srcs_mem (List.mem_filter.2 ⟨lk_mem e1, solOf m1 h1⟩))
      simpa using this
    · rw [gfam_ge li] at e1
      injection e1 with e1; injection e1 with e1
      exact e1 ▸ (hdis i li).2
  · rw [addRows_get] at hs
    by_cases hc : (1099511627776 : Nat) ≤ s ∧ s < (1099511627776 : Nat) + (rowsL E sz e le).length
    · rw [if_pos hc] at hs
      rw [List.getElem?_eq_none_iff] at hs
      omega
    · rw [if_neg hc] at hs
      rw [rowsL_len] at hc
      by_cases h2 : (1099511627776 : Nat) ≤ s
      · unfold gfam; rw [if_pos h2, if_neg (by omega)]
      · rw [gfam_lt (by omega)]
        have hk := mkR_none hs
        cases hq : lk G s with
        | none => rfl
        | some u =>
          exfalso
          have hm := List.all_eq_true.1 g5 s (List.mem_map.2 ⟨_, lk_mem hq, rfl⟩)
          obtain ⟨p, hp, he⟩ := List.any_eq_true.1 hm
          obtain ⟨x, hx, rfl⟩ := List.mem_map.1 hp
          exact hk (List.mem_map.2 ⟨x, hx, by simpa using he⟩)
  · rcases cs hs with ⟨l1, m1⟩ | ⟨i, x, li, rfl, hx, rfl⟩
    · exact leR_get hR s r m1
    · rw [gfam_ge li]
      show rowR _ _ (R (h i)) _
      rw [hF i x hx]
      exact ⟨rfl, rfl, rfl⟩
/-- The same family, its rows named from k2 on. -/
theorem Le_famK {k b' : Nat} {lt : List (Nat × AV)} {lr : List (Nat × Row)} {le : List (List α)} (k2 : Nat) (G : List (Nat × Option Nat)) (fz : List Nat) (hρ : ∀ s, k ≤ s → C.ρ0 s = none) (hk : Nat.blt k (1099511627776 : Nat) = true)
    (hG : gOK k G fz (lr.map fun x => (x.1, x.2.solid)) = true) (hlr : ltB (1099511627776 : Nat) (lr.map (·.1)) = true) (hs : (ltB k2 (srcs G) && ltB k2 fz) = true)
    (hT : leT (gfam G (hKu k2) le.length) (fzF fz R) T lt) (hR : leR (gfam G (hKu k2) le.length) (fzF fz R) R lr) (hF : FamAt E sz e k2 le R) : Le C ⟨T, R, b⟩ ⟨mkT lt, addRows (mkR lr) (1099511627776 : Nat) (rowsL E sz e le), b'⟩ := by
  rw [Bool.and_eq_true] at hs
  refine Le_fam (hKu k2) G fz hρ hk hG hlr (fun i j _ _ h => by unfold hKu at h; omega) (fun i hi => ⟨fun hm => ?_, fun hm => ?_⟩) hT hR hF
  · have := ltB_spec hs.1 _ hm; unfold hKu at this; omega
  · have := ltB_spec hs.2 _ hm; unfold hKu at this; omega
/-- The family, and one row of the walk's own at its end. -/
theorem Le_famP {k b' : Nat} {lt : List (Nat × AV)} {lr : List (Nat × Row)} {le : List (List α)} {x : List α} (s0 : Nat) (G : List (Nat × Option Nat)) (fz : List Nat) (hρ : ∀ s, k ≤ s → C.ρ0 s = none) (hk : Nat.blt k (1099511627776 : Nat) = true)
    (hG : gOK k G fz (lr.map fun x => (x.1, x.2.solid)) = true) (hlr : ltB (1099511627776 : Nat) (lr.map (·.1)) = true) (hs : (ltB (1099511627776 : Nat) (srcs G) && (ltB (1099511627776 : Nat) fz && (ltB (1099511627776 : Nat) [s0] && (!(srcs G).contains s0 && !fz.contains s0)))) = true)
    (hT : leT (gfam G (hPu le.length s0) (le.length + 1)) (fzF fz R) T lt) (hR : leR (gfam G (hPu le.length s0) (le.length + 1)) (fzF fz R) R lr) (hF : FamAt E sz e (1099511627776 : Nat) le R) (h0 : R s0 = some (.row E sz (encL e x))) : Le C ⟨T, R, b⟩ ⟨mkT lt, addRows (mkR lr) (1099511627776 : Nat) (rowsL E sz e (le ++ [x])), b'⟩ := by
  simp only [Bool.and_eq_true, Bool.not_eq_true', List.contains_eq_mem, decide_eq_false_iff_not] at hs
  obtain ⟨s1, s2, s3, s4, s5⟩ := hs
  have s3 := ltB_spec s3 s0 (by simp)
  have hl : (le ++ [x]).length = le.length + 1 := by simp
  refine Le_fam (hPu le.length s0) G fz hρ hk hG hlr (fun i j hi hj h => ?_) (fun i hi => ?_) (by rw [hl]; exact hT) (by rw [hl]; exact hR) (fun i y hy => ?_)
  · rw [hl] at hi hj
    unfold hPu at h
    split at h <;> split at h <;> omega
  · unfold hPu
    split
    · exact ⟨fun hm => by have := ltB_spec s1 _ hm; omega, fun hm => by have := ltB_spec s2 _ hm; omega⟩
    · exact ⟨s4, s5⟩
  · unfold hPu
    by_cases hi : i < le.length
    · rw [if_pos hi]
      rw [List.getElem?_append_left hi] at hy
      exact hF i y hy
    · rw [if_neg hi]
      rw [List.getElem?_append_right (by omega)] at hy
      obtain ⟨hlt, he⟩ := List.getElem?_eq_some_iff.1 hy
      have : i - le.length = 0 := by simpa using hlt
      simp only [this, List.getElem?_cons_zero, Option.some.injEq] at hy
      subst hy; exact h0
/-- The family frozen. -/
theorem Le_frz {k b' : Nat} {lt : List (Nat × AV)} {lr : List (Nat × Row)} {le : List (List α)} (kf : Nat) (G : List (Nat × Option Nat)) (fz : List Nat) (hρ : ∀ s, k ≤ s → C.ρ0 s = none)
    (hG : gOK k G fz (lr.map fun x => (x.1, x.2.solid)) = true) (hs : ltB kf (srcs G) = true) (hF : FamAt E sz e kf le R)
    (hT : leT (lk G) (addRows (fzF fz R) kf (rowsL E sz e le)) T lt) (hR : leR (lk G) (addRows (fzF fz R) kf (rowsL E sz e le)) R lr) : Le C ⟨T, R, b⟩ ⟨mkT lt, mkR lr, b'⟩ := by
  unfold gOK at hG
  simp only [Bool.and_eq_true] at hG
  obtain ⟨⟨⟨⟨g1, g2⟩, g3⟩, g4⟩, g5⟩ := hG
  have eF : fzF (fz ++ List.range' kf le.length) R = addRows (fzF fz R) kf (rowsL E sz e le) := by
    funext s
    rw [addRows_get, rowsL_len]
    unfold fzF
    by_cases hc : kf ≤ s ∧ s < kf + le.length
    · rw [if_pos hc]
      have hm : (fz ++ List.range' kf le.length).contains s = true := by
        rw [List.contains_iff_mem, List.mem_append]
        exact .inr (List.mem_range'_1.2 ⟨hc.1, by omega⟩)
      rw [hm]
      obtain ⟨x, hx⟩ : ∃ x, le[s - kf]? = some x := ⟨_, List.getElem?_eq_getElem (by omega)⟩
      have := hF (s - kf) x hx
      rw [show kf + (s - kf) = s by omega] at this
      simp only [this, rowsL, List.getElem?_map, hx, Option.map_some]
    · rw [if_neg hc]
      have hm : (fz ++ List.range' kf le.length).contains s = fz.contains s := by
        rw [Bool.eq_iff_iff, List.contains_iff_mem, List.contains_iff_mem, List.mem_append, List.mem_range'_1]
        constructor
        · rintro (h | h)
          · exact h
          · omega
        · exact .inl
      rw [hm]
  rw [← eF] at hT hR
  refine Le_gen (lk G) (fz ++ List.range' kf le.length) hρ (fun s hs => ?_) (fun s t u r r' hs h1 ht h2 e1 e2 => ?_) (fun s u r m1 h1 e1 => ?_) (fun s hs => ?_) (fun t => leT_get hT t) (fun s r hs => leR_get hR s r hs)
  · have hg := upB_spec g1 s hs
    cases hq : lk G s with
    | none => rw [hq] at hg; cases hg
    | some u =>
      cases u with
      | none => rw [hq] at hg; cases hg
      | some u => rw [hq] at hg; simp only [isIt, beq_iff_eq] at hg; rw [hg]
  · exact srcs_inj (nodB_spec g2) (List.mem_filter.2 ⟨lk_mem e1, solOf hs h1⟩) (List.mem_filter.2 ⟨lk_mem e2, solOf ht h2⟩)
  · intro hm
    rcases List.mem_append.1 hm with hm | hm
    · have := List.all_eq_true.1 g4 _ (srcs_mem (List.mem_filter.2 ⟨lk_mem e1, solOf m1 h1⟩))
      simp only [Bool.not_eq_true', List.contains_eq_mem, decide_eq_false_iff_not] at this
      exact this hm
    · have h3 := ltB_spec hs _ (srcs_mem (lk_mem e1))
      have := (List.mem_range'_1.1 hm).1
      omega
  · have hk := mkR_none hs
    cases hq : lk G s with
    | none => rfl
    | some u =>
      exfalso
      have hm := List.all_eq_true.1 g5 s (List.mem_map.2 ⟨_, lk_mem hq, rfl⟩)
      obtain ⟨p, hp, he⟩ := List.any_eq_true.1 hm
      obtain ⟨x, hx, rfl⟩ := List.mem_map.1 hp
      exact hk (List.mem_map.2 ⟨x, hx, by simpa using he⟩)
end
section
variable {P : Program} {α : Type} {E sz E1 : Nat} {e : α → List AV} {e2 : List α → List AV}
/-- A table handed back, taken as immutable. -/
theorem Spec.canF {f : FuncId} {args : List AV} {le : List (List α)} (h : Spec P f args [] (.own 0 le.length) (.tab E1 1 (ownF 1 le) :: rowsL E sz e le)) (h2 : ∀ x, e2 x = [.sl (encL e x) x.length]) : Spec P f args [] (.sl (encL e2 le) le.length) [] := by
  refine ⟨h.1, fun M ρ w vs hmr hρ hlen hvs => (h.2 M ρ w vs hmr hρ hlen hvs).mono ?_⟩
  rintro ex w' ⟨v, M', ρ', rfl, q1, q2, q3, q4, q5, q6, q7, q8⟩
  let C : Ctx := ⟨w, DOf ρ (rowsOf []), M, ρ, 1⟩
  have hRel : Rel C M' ρ' ⟨fun t => if t = 0 then .own 0 le.length else .top, rowsOf (.tab E1 1 (ownF 1 le) :: rowsL E sz e le), 0⟩ { tmps := #[v], defers := [] } w' := by
    refine ⟨fun t => ?_, rfl, rfl, q3, q6, q8, q1, q2, q7, fun s hs => ?_⟩
    · by_cases e : t = 0
      · subst e; simpa using q5
      · simp only [if_neg e]; exact .plain (.top _)
    · exact q4 s (by simpa [rowsOf] using hs)
  have hF : FamAt E sz e 1 le (rowsOf (.tab E1 1 (ownF 1 le) :: rowsL E sz e le)) := fun i x hx => by
    show (Row.tab E1 1 (ownF 1 le) :: rowsL E sz e le)[1 + i]? = _
    rw [Nat.add_comm 1 i, List.getElem?_cons_succ]
    simp [rowsL, hx]
  obtain ⟨M2, ρ2, hR2⟩ := Le_frz (C := C) (k := 0) (b' := 0) (lt := [(0, .sl (encL e2 le) le.length)]) (lr := []) 1 [] [0] hρ rfl rfl hF ⟨by
    simp only [if_pos rfl]
    refine ⟨?_, rfl⟩
    rw [add_lt (by omega)]
    exact pass_own h2 famAt_add, trivial⟩ trivial M' ρ' _ w' hRel
  refine ⟨v, M2, ρ2, rfl, hR2.m0, hR2.r0, hR2.mr, fun s hs => ?_, ?_, hR2.chg, hR2.mold, hR2.new⟩
  · exact hR2.fr s rfl
  · have := hR2.tm 0
    simpa [mkT, upd] using this
theorem findI_range : ∀ (n k i : Nat), i < n → findI (List.range' k n) (k + i) = some i
  | 0, k, i, h => by omega
  | n + 1, k, 0, h => by simp [List.range'_succ, findI]
  | n + 1, k, i + 1, h => by
    have ih := findI_range n (k + 1) i (by omega)
    rw [show k + 1 + i = k + (i + 1) by omega] at ih
    simp only [List.range'_succ, findI, ih]
    rw [if_neg (by omega)]
theorem findI_fam {cid n i : Nat} (hc : cid < (1099511627776 : Nat)) (hi : i < n) : findI (cid :: List.range' (1099511627776 : Nat) n) ((1099511627776 : Nat) + i) = some (1 + i) := by
  simp only [findI, findI_range n (1099511627776 : Nat) i hi]
  rw [if_neg (by omega), Nat.add_comm]
theorem own_pass {ι : List Nat} {lnd : Nat → Option Row} : ∀ {le : List (List α)} {k k2 : Nat}, (∀ i, i < le.length → findI ι (k + i) = some (k2 + i)) → (ownF k le).map (pass1 ι lnd) = ownF k2 le
  | [], k, k2, _ => rfl
  | x :: l, k, k2, h => by
    have h0 := h 0 (by simp)
    rw [Nat.add_zero, Nat.add_zero] at h0
    have ih := own_pass (ι := ι) (lnd := lnd) (le := l) (k := k + 1) (k2 := k2 + 1) (fun i hi => by
      have := h (i + 1) (by simpa using hi)
      rwa [show k + (i + 1) = k + 1 + i by omega, show k2 + (i + 1) = k2 + 1 + i by omega] at this)
    simp only [ownF, List.map_cons, ih]
    simp [pass1, h0]
theorem map_range {R : Nat → Option Row} {ι : List Nat} : ∀ {le : List (List α)} {k : Nat}, FamAt E sz e k le R → (List.range' k le.length).map (passRow ι (fun _ => none) R) = rowsL E sz e le
  | [], k, _ => rfl
  | x :: l, k, h => by
    have h0 := h 0 x rfl
    rw [Nat.add_zero] at h0
    have ih := map_range (ι := ι) (R := R) (le := l) (k := k + 1) (fun i y hy => by
      have := h (i + 1) y (by simpa using hy)
      rwa [show k + (i + 1) = k + 1 + i by omega] at this)
    simp only [List.length_cons, List.range'_succ, List.map_cons, ih]
    simp [rowsL, passRow, h0]
/-- The end of a function that hands a table back. -/
theorem end_fam {fn : Func} {T : Nat → AV} {R : Nat → Option Row} {b cid : Nat} {le : List (List α)} (hres : resA P ⟨T, addRows R (1099511627776 : Nat) (rowsL E sz e le), b⟩ fn.results.toList = some [.own cid le.length])
    (hc : R cid = some (.tab E1 1 (ownF (1099511627776 : Nat) le))) (hlt : Nat.blt cid (1099511627776 : Nat) = true) : (Exit.ret = .normal ∨ Exit.ret = .ret) ∧ EndA P fn 0 (.own 0 le.length) (.tab E1 1 (ownF 1 le) :: rowsL E sz e le) ⟨T, addRows R (1099511627776 : Nat) (rowsL E sz e le), b⟩ := by
  have hlt : cid < (1099511627776 : Nat) := Nat.blt_eq ▸ hlt
  refine ⟨.inr rfl, _, cid :: List.range' (1099511627776 : Nat) le.length, hres, ?_, fun j hj => by omega, ?_, ?_⟩
  · refine List.nodup_cons.2 ⟨fun hm => ?_, List.nodup_range'⟩
    have := (List.mem_range'_1.1 hm).1
    omega
  · simp [pass3, one3, pass2, pass1, findI]
  · simp only [List.map_cons, map_range famAt_add]
    congr 1
    simp only [passRow, add_lt hlt, hc]
    rw [own_pass (fun i hi => findI_fam hlt hi)]
/-- No row from a name on. -/
def NoneFrom (k : Nat) (R : Nat → Option Row) : Prop := ∀ s, k ≤ s → R s = none
theorem noneFrom_upd {k s : Nat} {R : Nat → Option Row} {r : Option Row} (h : s < k) : NoneFrom k (upd R s r) = NoneFrom k R := propext ⟨fun H t ht => by have := H t ht; rwa [upd_ne _ _ (by omega)] at this, fun H t ht => by rw [upd_ne _ _ (by omega)]; exact H t ht⟩
theorem noneFrom_0 {k : Nat} : NoneFrom k (fun _ => none) = True := eq_true fun _ _ => rfl
theorem noneFrom_1 {k : Nat} : NoneFrom k (rowsOf []) = True := eq_true fun _ _ => rfl
theorem famAt_upd' {k s : Nat} {R : Nat → Option Row} {r : Option Row} {le : List (List α)} (h : s < k) : FamAt E sz e k le (upd R s r) = FamAt E sz e k le R := propext ⟨fun H i x hx => by have := H i x hx; rwa [upd_fam h] at this, fun H => famAt_upd h H⟩
theorem famAt_add' {R : Nat → Option Row} {k : Nat} {le : List (List α)} : FamAt E sz e k le (addRows R k (rowsL E sz e le)) = True := eq_true famAt_add
theorem famAt_nil' {R : Nat → Option Row} {k : Nat} : FamAt E sz e k [] R = True := eq_true famAt_nil
theorem upd_fam' {R : Nat → Option Row} {r : Option Row} {s j : Nat} (h : s < 1099511627776) : upd R s r (1099511627776 + j) = R (1099511627776 + j) := upd_fam h
section
variable {BR : Nat → Bool} {ops : List Oper} {T : Nat → AV} {R : Nat → Option Row} {st : St} {bs i b : Nat} {l : List Oper} {K : St → Prop} {f : FuncId} {args args' : List AV} {dst : Option Tmp}
/-- A call that hands a table back. -/
theorem rR_t {r : List (List α)} (hS : Spec P f args' [] (.own 0 r.length) (.tab E1 1 (ownF 1 r) :: rowsL E sz e r)) (ha : cvA (args.map (passT2 [] fun _ => none)) args') (hs : NoneFrom (bs + 16 * i) st.rows)
    (hK : aRun P BR ops bs (i + 1) l (({ st with rows := addRows (upd st.rows (bs + 16 * i) (some (.tab E1 1 (ownF (bs + 16 * i + 1) r)))) (bs + 16 * i + 1) (rowsL E sz e r) } : St).put dst (.own (bs + 16 * i) r.length)) K) : rR P BR ops bs i l st K f args dst := by
  refine rR_g [] hS ha trivial List.nodup_nil (by simp) (by simp) (fun j _ => hs _ (by omega)) ?_
  rw [rowsAfter_nil]
  have e1 : (Row.tab E1 1 (ownF 1 r) :: rowsL E sz e r).map (Row.ren (mId [] (bs + 16 * i))) = .tab E1 1 (ownF (bs + 16 * i + 1) r) :: rowsL E sz e r := by
    rw [List.map_cons, rowsL_ren]
    simp only [Row.ren, ownF_ren]
  rw [e1]
  have e2 : ren3 (mId [] (bs + 16 * i)) (.own 0 r.length) = .own (bs + 16 * i) r.length := by simp [ren3, ren2, ren1, mId]
  rw [e2]
  exact hK
theorem setRowsI_range : ∀ (l : List Row) (k : Nat) (R : Nat → Option Row), setRowsI R (List.range' k l.length) l = addRows R k l
  | [], k, R => rfl
  | r :: l, k, R => by simp only [List.length_cons, List.range'_succ, setRowsI, addRows]; exact setRowsI_range l (k + 1) _
theorem ren_range {ι : List Nat} {s : Nat} : ∀ {le : List (List α)} {k k2 : Nat}, (∀ i, i < le.length → mId ι s (k + i) = k2 + i) → (ownF k le).map (ren1 (mId ι s)) = ownF k2 le
  | [], k, k2, _ => rfl
  | x :: l, k, k2, h => by
    have h0 := h 0 (by simp)
    rw [Nat.add_zero, Nat.add_zero] at h0
    have ih := ren_range (ι := ι) (s := s) (le := l) (k := k + 1) (k2 := k2 + 1) (fun i hi => by
      have := h (i + 1) (by simpa using hi)
      rwa [show k + (i + 1) = k + 1 + i by omega, show k2 + (i + 1) = k2 + 1 + i by omega] at this)
    simp only [ownF, List.map_cons, ih]
    simp [ren1, h0]
theorem cvRs_rows : ∀ (le : List (List α)), cvRs (rowsL E sz e le) (rowsL E sz e le)
  | [] => trivial
  | x :: l => ⟨⟨rfl, rfl, rfl⟩, cvRs_rows l⟩
/-- A table handed over by reference, with all that lies in it. -/
theorem rR_fam {le le' : List (List α)} {kk k2 : IntKind} {m z : Int} (cid : Nat) (hS : Spec P f [.own 0 le.length, .int kk m] (.tab E1 1 (ownF 1 le) :: rowsL E sz e le) (.int k2 z) (.tab E1 1 (ownF 1 le') :: rowsL E sz e le')) (hlen : le'.length = le.length)
    (hc : R cid = some (.tab E1 1 (ownF (1099511627776 : Nat) le))) (hlt : Nat.blt cid (1099511627776 : Nat) = true)
    (hK2 : aRun P BR ops bs (i + 1) l ((⟨T, addRows (upd R cid (some (.tab E1 1 (ownF (1099511627776 : Nat) le')))) (1099511627776 : Nat) (rowsL E sz e le'), b⟩ : St).put dst (.int k2 z)) K) : rR P BR ops bs i l ⟨T, addRows R (1099511627776 : Nat) (rowsL E sz e le), b⟩ K f [.own cid le.length, .int kk m] dst := by
  have hlt : cid < (1099511627776 : Nat) := Nat.blt_eq ▸ hlt
  have hnd : (cid :: List.range' (1099511627776 : Nat) le.length).Nodup := List.nodup_cons.2 ⟨fun hm => by have := (List.mem_range'_1.1 hm).1; omega, List.nodup_range'⟩
  have hr : (cid :: List.range' (1099511627776 : Nat) le.length).map (passRow (cid :: List.range' (1099511627776 : Nat) le.length) (fun _ => none) (addRows R (1099511627776 : Nat) (rowsL E sz e le))) = .tab E1 1 (ownF 1 le) :: rowsL E sz e le := by
    simp only [List.map_cons, map_range famAt_add]
    congr 1
    simp only [passRow, add_lt hlt, hc]
    rw [own_pass (fun i hi => findI_fam hlt hi)]
  refine rR_g (cid :: List.range' (1099511627776 : Nat) le.length) hS ?_ (by rw [hr]; exact ⟨⟨rfl, rfl, cvL_own (hKu 1) (fun i hi => rfl) (ownF_len _ _) (fun i x hx => by rw [ownF_get, hx]; rfl)⟩, cvRs_rows le⟩) hnd (fun s hs => ?_) (by simp [rowsL_len, hlen]) (fun j hj => ?_) ?_
  · simp only [List.map_cons, List.map_nil, passT2, passT1, findI, if_pos rfl, pass1]
    exact ⟨⟨rfl, rfl⟩, ⟨rfl, rfl⟩, trivial⟩
  · rcases List.mem_cons.1 hs with rfl | hs
    · show solidO (addRows R (1099511627776 : Nat) (rowsL E sz e le) s)
      rw [add_lt hlt, hc]; trivial
    · obtain ⟨h1, h2⟩ := List.mem_range'_1.1 hs
      obtain ⟨x, hx⟩ : ∃ x, le[s - (1099511627776 : Nat)]? = some x := ⟨_, List.getElem?_eq_getElem (by omega)⟩
      have := famAt_add (E := E) (sz := sz) (e := e) (R := R) (k := (1099511627776 : Nat)) (s - (1099511627776 : Nat)) x hx
      rw [show (1099511627776 : Nat) + (s - (1099511627776 : Nat)) = s by omega] at this
      show solidO (addRows R (1099511627776 : Nat) (rowsL E sz e le) s)
      rw [this]; trivial
  · simp [rowsL_len, hlen] at hj
  · have e0 : ren3 (mId (cid :: List.range' (1099511627776 : Nat) le.length) (bs + 16 * i)) (.int k2 z) = .int k2 z := rfl
    rw [e0]
    have e1 : rowsAfter (cid :: List.range' (1099511627776 : Nat) le.length) (bs + 16 * i) (addRows R (1099511627776 : Nat) (rowsL E sz e le)) (.tab E1 1 (ownF 1 le') :: rowsL E sz e le') = addRows (upd R cid (some (.tab E1 1 (ownF (1099511627776 : Nat) le')))) (1099511627776 : Nat) (rowsL E sz e le') := by
      unfold rowsAfter
      have t1 : (Row.tab E1 1 (ownF 1 le') :: rowsL E sz e le').take (cid :: List.range' (1099511627776 : Nat) le.length).length = Row.tab E1 1 (ownF 1 le') :: rowsL E sz e le' := List.take_of_length_le (by simp [rowsL_len, hlen])
      have t2 : (Row.tab E1 1 (ownF 1 le') :: rowsL E sz e le').drop (cid :: List.range' (1099511627776 : Nat) le.length).length = [] := List.drop_of_length_le (by simp [rowsL_len, hlen])
      rw [t1, t2, List.map_nil, List.map_cons, rowsL_ren]
      simp only [addRows, Row.ren, setRowsI]
      rw [ren_range (k := 1) (k2 := (1099511627776 : Nat)) (fun i hi => by
        unfold mId
        rw [hlen] at hi
        rw [if_pos (by simp; omega), Nat.add_comm 1 i]
        simp [List.getElem?_range', hi])]
      have := setRowsI_range (rowsL E sz e le') (1099511627776 : Nat) (upd (addRows R (1099511627776 : Nat) (rowsL E sz e le)) cid (some (.tab E1 1 (ownF (1099511627776 : Nat) le'))))
      rw [rowsL_len, hlen] at this
      rw [this]
      funext t
      rw [addRows_get, addRows_get, rowsL_len]
      by_cases h : (1099511627776 : Nat) ≤ t ∧ t < (1099511627776 : Nat) + le'.length
      · rw [if_pos h, if_pos h]
      · rw [if_neg h, if_neg h]
        unfold upd
        split
        · rfl
        · rw [addRows_get, if_neg (by rw [rowsL_len, ← hlen]; exact h)]
    show aRun P BR ops bs (i + 1) l ((⟨T, rowsAfter _ _ (addRows R (1099511627776 : Nat) (rowsL E sz e le)) _, b⟩ : St).put dst (.int k2 z)) K
    rw [e1]
    exact hK2
end
end
end Go.Proofs.Ytoleoojcodlciaa
