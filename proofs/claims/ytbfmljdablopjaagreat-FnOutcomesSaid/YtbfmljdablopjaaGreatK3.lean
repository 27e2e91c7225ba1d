/- Texts joined by a program (short names, no comments): Gu Gn Ma Mf Mk Mza Mzb Gv Ig Ih Mia Mic Gt Gw. -/
import Derived.Test.YtbfmljdablopjaaGreatK2
import Derived.Test.YtbfmljdablopjaaGreatProg
import Derived.WalkKit
import Derived.Deep.QuietTactic
import Derived.BigQuiet
import Derived.Lib.Hide
import Derived.Handy
import Derived.Maps.OwnOps
import Derived.Maps.OwnIn
import Derived.Maps.Views
namespace Go.Proofs.YtbfmljdablopjaaGreat
open Go.RowKit
set_option maxRecDepth 100000
set_option linter.unusedVariables false
set_option linter.unusedSimpArgs false
set_option linter.defProp false
set_option maxHeartbeats 4000000
section
variable {C : Ctx} {T : Nat → AV} {R : Nat → Option Row} {b : Nat}
theorem CZ {k : Nat} {b' : Nat} {T2 : Nat → AV} {R2 : Nat → Option Row} (g : bJ) (fz : List Nat) (hρ : ∀ s, k ≤ s → C.ρ0 s = none)
    (hid : ∀ s, s < k → g s = some (some s)) (ginj : ∀ s t u r r', R2 s = some r → r.solid = true → R2 t = some r' → r'.solid = true → g s = some (some u) → g t = some (some u) → s = t)
    (gfz : ∀ s u r, R2 s = some r → r.solid = true → g s = some (some u) → u ∉ fz) (hnone : ∀ s, R2 s = none → g s = none)
    (hT : ∀ t, T2 t = .top ∨ cvW g (fzF fz R) (T t) (T2 t)) (hR : ∀ s r, R2 s = some r → te g (fzF fz R) R (g s) r) : Le C ⟨T, R, b⟩ ⟨T2, R2, b'⟩ := by
  intro M ρ a w h
  have hle := po h fz
  have sol : ∀ {s r}, R2 s = some r → r.solid = true → (∃ s0 r0, g s = some (some s0) ∧ R s0 = some r0 ∧ r0.solid = true ∧ cvR (g) (fzF fz R) r0 r) ∨ (g s = some none ∧ ∃ E sz, r = .row E sz [] ∨ r = .tab E sz []) :=
    fun hr hs => rf (hR _ _ hr) hs
  -- rows that lie somewhere come from rows
  have src : ∀ {s r x}, R2 s = some r → r.solid = true → pM (g) ρ s = some x → x.nl = false → ∃ s0 r0, g s = some (some s0) ∧ R s0 = some r0 ∧ r0.solid = true ∧ ρ s0 = some x := by
    intro s r x hr hs hx hn
    rcases sol hr hs with ⟨s0, r0, e1, e2, e3, e4⟩ | ⟨e1, _⟩
    · rw [gg e1] at hx
      exact ⟨s0, r0, e1, e2, e3, hx⟩
    · rw [lT e1] at hx; injection hx with hx; subst hx; cases hn
  refine ⟨lentM M ρ (fzF fz R) [] w, pM (g) ρ, fun t => ?_, h.N, h.df, ⟨fun s r hs hsol => ?_, fun s s' r r' x x' hs hs' h1 h2 hx hx' hne hn hn' => ?_, fun b o v hM => ?_, fun b o v s r x hM hs hsol hx hn => ?_⟩, h.chg, fun s r x hs hsol hx hn => ?_, Imm.le_trans h.m0 hle, fun s x hs => ?_, fun b hb hD => ?_, fun s hs => ?_⟩
  · show VR _ (pM (g) ρ) (T2 t) _
    rcases hT t with e | e
    · rw [e]; exact .plain (.top _)
    · exact Ar h fz (h.tm t) e
  · have hs : R2 s = some r := hs
    rcases sol hs hsol with ⟨s0, r0, e1, e2, e3, e4⟩ | ⟨e1, E, sz, rfl | rfl⟩
    · obtain ⟨x, hx, hX⟩ := h.mr.row s0 r0 e2 e3
      refine ⟨x, by rw [gg e1]; exact hx, ?_⟩
      unfold cvR at e4
      split at e4
      · obtain ⟨rfl, hL⟩ := e4
        obtain ⟨h0, arr, a1, a2, a3, a4⟩ := hX
        obtain ⟨l1, l2⟩ := gn hL
        refine ⟨h0, arr, a1, by omega, a3, fun i c' v hc hv => ?_⟩
        obtain ⟨c, hc', hcc⟩ := l2 i c' hc
        exact nn h fz (a4 i c v hc' hv) hcc
      · obtain ⟨rfl, rfl, rfl⟩ := e4
        rcases hX with hX | ⟨h0, xs, a1, a2, a3, a4⟩
        · exact .inl hX
        · exact .inr ⟨h0, xs, a1, a2, a3, fun i c v hc hv => (a4 i c v hc hv).mono hle⟩
      · obtain ⟨rfl, rfl, hL⟩ := e4
        obtain ⟨l1, l2⟩ := gn hL
        rcases hX with ⟨a1, a2, a3⟩ | ⟨h0, xs, a1, a2, a3, a4⟩
        · subst a2
          exact .inl ⟨a1, List.eq_nil_of_length_eq_zero (by simpa using l1.symm), a3⟩
        · refine .inr ⟨h0, xs, a1, by omega, a3, fun i c' v hc hv => ?_⟩
          obtain ⟨c, hc', hcc⟩ := l2 i c' hc
          exact nn h fz (a4 i c v hc' hv) hcc
      · obtain ⟨rfl, rfl, hL⟩ := e4
        obtain ⟨l1, l2⟩ := gn hL
        rcases hX with ⟨a1, a2, a3⟩ | ⟨h0, xs, a1, a2, a3, a4⟩
        · subst a2
          exact .inl ⟨a1, List.eq_nil_of_length_eq_zero (by simpa using l1.symm), a3⟩
        · refine .inr ⟨h0, xs, a1, by omega, a3, fun i c' v hc hv => ?_⟩
          obtain ⟨c, hc', hcc⟩ := l2 i c' hc
          exact nn h fz (.plain (a4 i c v hc' hv)) hcc
      · cases hsol
      · exact e4.elim
    · exact ⟨_, lT e1, .inl ⟨rfl, rfl, rfl⟩⟩
    · exact ⟨_, lT e1, .inl ⟨rfl, rfl, rfl⟩⟩
  · obtain ⟨s0, r0, e1, e2, e3, e4⟩ := src hs h1 hx hn
    obtain ⟨s0', r0', e1', e2', e3', e4'⟩ := src hs' h2 hx' hn'
    refine h.mr.inj s0 s0' r0 r0' x x' e2 e2' e3 e3' e4 e4' (fun e => hne ?_) hn hn'
    subst e
    exact ginj _ _ _ _ _ hs h1 hs' h2 e1 e1'
  · unfold lentM at hM
    split at hM
    · rename_i hc
      obtain ⟨s, cs, x, h1, h2, h3, hn, h4, h5⟩ := hc
      subst h4
      obtain ⟨_, _, xs, k1, k2, k3⟩ := Hq h h1 h3 hn
      have hi' : o < xs.length := by omega
      have := World.ownsRow.cells k1 (g := x.g) rfl o _ (List.getElem?_eq_getElem hi')
      rw [dK, Nat.zero_add] at this
      rw [this] at hM
      injection hM with hM; subst hM
      exact ⟨this, oN k1 (k3 _ (List.getElem_mem hi'))⟩
    · exact h.mr.imm b o v hM
  · obtain ⟨s0, r0, e1, e2, e3, e4⟩ := src hs hsol hx hn
    unfold lentM at hM
    split at hM
    · rename_i hc
      obtain ⟨s', cs, x', h1, h2, h3, hn', h4, h5⟩ := hc
      subst h4
      obtain ⟨r1, hrow, hsl, hmem⟩ := fzL h1
      exact h.mr.inj s0 s' r0 r1 x x' e2 hrow e3 hsl e4 h3 (fun e => gfz _ _ _ hs hsol e1 (e ▸ hmem)) hn hn'
    · exact h.mr.apt b o v s0 r0 x hM e2 e3 e4 hn
  · obtain ⟨s0, r0, e1, e2, e3, e4⟩ := src hs hsol hx hn
    exact h.new s0 r0 x e2 e3 e4 hn
  · have hlt : s < k := by
      rcases Nat.lt_or_ge s k with h' | h'
      · exact h'
      · rw [hρ s h'] at hs; cases hs
    have hg := hid s hlt
    rw [gg hg]
    exact h.r0 s x hs
  · have hnone : ¬ ∃ s cs x, Lnt (fzF fz R) s cs ∧ s ∉ ([] : List Nat) ∧ ρ s = some x ∧ x.nl = false ∧ x.g = b := by
      rintro ⟨s, cs, x, h1, h2, h3, hn, rfl⟩
      obtain ⟨r1, hrow, hsl, hmem⟩ := fzL h1
      rcases h.new s r1 x hrow hsl h3 hn with h' | h'
      · exact hD h'
      · omega
    rw [← h.mold b hb hD]
    funext o
    unfold lentM
    rw [if_neg]
    rintro ⟨s, cs, x, h1, h2, h3, hn, h4, _⟩
    exact hnone ⟨s, cs, x, h1, h2, h3, hn, h4⟩
  · have hs : R2 s = none := hs
    unfold pM
    rw [hnone s hs]
end
def cm {α : Type} (k : Nat) : List (List α) → List AV
  | [] => []
  | x :: l => .own k x.length :: cm (k + 1) l
def cY {α : Type} (E sz : Nat) (e : α → List AV) (le : List (List α)) : List Row := le.map fun x => Row.row E sz (aB e x)
section
variable {α : Type} {E sz : Nat} {e : α → List AV} {e2 : List α → List AV}
theorem lV : ∀ (k : Nat) (le : List (List α)), (cm k le).length = le.length
  | _, [] => (rfl)
  | k, x :: l => by simp [cm, lV (k + 1) l]
theorem Ca (k : Nat) : cm k ([] : List (List α)) = [] := (rfl)
theorem uq : ∀ (k : Nat) (l m : List (List α)), cm k (l ++ m) = cm k l ++ cm (k + l.length) m
  | k, [], m => (rfl)
  | k, x :: l, m => by simp [cm, uq (k + 1) l m]; congr 1; omega
theorem tF : ∀ (k : Nat) (l : List (List α)) (j : Nat), (cm k l).drop j = cm (k + j) (l.drop j)
  | k, [], j => by simp [cm]
  | k, x :: l, 0 => by simp
  | k, x :: l, j + 1 => by simp [cm, tF (k + 1) l j]; congr 1; omega
theorem rl : ∀ (k : Nat) (l : List (List α)) (i : Nat), (cm k l)[i]? = (l[i]?).map fun x => AV.own (k + i) x.length
  | k, [], i => by simp [cm]
  | k, x :: l, 0 => by simp [cm]
  | k, x :: l, i + 1 => by simp [cm, rl (k + 1) l i, show k + 1 + i = k + (i + 1) by omega]
theorem md (le : List (List α)) : (cY E sz e le).length = le.length := by simp [cY]
theorem tG (f : Nat → Nat) (le : List (List α)) : (cY E sz e le).map (Row.ren f) = cY E sz e le := by
  unfold cY
  rw [List.map_map]
  rfl
theorem rn (s : Nat) : ∀ (k : Nat) (le : List (List α)), (cm k le).map (gX (mId [] s)) = cm (s + k) le
  | k, [] => (rfl)
  | k, x :: l => by
    simp only [cm, List.map_cons, rn s (k + 1) l]
    rw [show s + (k + 1) = s + k + 1 by omega]
    simp [gX, mId]
theorem Cb {R : Nat → Option Row} {k t : Nat} {l : List Row} (h : t < k) : ap R k l t = R t := by rw [bR, if_neg (by omega)]
theorem tg {R : Nat → Option Row} {k i : Nat} {le : List (List α)} {x : List α} (h : le[i]? = some x) : ap R k (cY E sz e le) (k + i) = some (.row E sz (aB e x)) := by
  obtain ⟨h1, h2⟩ := List.getElem?_eq_some_iff.1 h
  rw [bR, if_pos (by rw [md]; omega), show k + i - k = i by omega]
  simp [cY, h]
theorem th {R : Nat → Option Row} {r : Option Row} {s k j : Nat} (h : s < k) : upd R s r (k + j) = R (k + j) := au _ _ (by omega)
def ki (E sz : Nat) (e : α → List AV) (k : Nat) (le : List (List α)) (R : Nat → Option Row) : Prop := ∀ (i : Nat) (x : List α), le[i]? = some x → R (k + i) = some (.row E sz (aB e x))
theorem tH {R : Nat → Option Row} {k : Nat} {le : List (List α)} : ki E sz e k le (ap R k (cY E sz e le)) := fun i x h => tg h
theorem zw {R : Nat → Option Row} {r : Option Row} {s k : Nat} {le : List (List α)} (hs : s < k) (h : ki E sz e k le R) : ki E sz e k le (upd R s r) := fun i x hx => by rw [th hs]; exact h i x hx
theorem ur {R : Nat → Option Row} (h2 : ∀ x, e2 x = [.sl (aB e x) x.length]) : ∀ {k : Nat} {le : List (List α)}, ki E sz e k le R → (cm k le).map (fU [] R) = aB e2 le
  | k, [], _ => (rfl)
  | k, x :: l, h => by
    have h0 := h 0 x rfl
    rw [Nat.add_zero] at h0
    have ih : (cm (k + 1) l).map (fU [] R) = aB e2 l := ur h2 (fun i y hy => by
      have := h (i + 1) y (by simpa using hy)
      rwa [show k + (i + 1) = k + 1 + i by omega] at this)
    simp only [cm, List.map_cons, aB, h2, ih]
    simp [fU, gU, h0]
theorem J0 (k : Nat) {l : List (List α)} {i : Int} {q : List α} (hq : ak l i = some q) : (0 ≤ i ∧ i < (l.length : Int)) ∧ (cm k l).drop (i.toNat * 1) = .own (k + i.toNat) q.length :: cm (k + i.toNat + 1) (l.drop (i.toNat + 1)) := by
  obtain ⟨h1, h2⟩ := lU hq
  refine ⟨h1, ?_⟩
  obtain ⟨hlt, he⟩ := List.getElem?_eq_some_iff.1 h2
  rw [Nat.mul_one, tF, List.drop_eq_getElem_cons hlt, he]
  rfl
theorem J1 {l : List (List α)} {i : Int} {q : List α} (hq : ak l i = some q) (k : Nat) (R : Nat → Option Row) : ap R k (cY E sz e l) (k + i.toNat) = some (.row E sz (aB e q)) := tg (lU hq).2
theorem H5 {l : List (List α)} {i : Nat} {q : List α} : (l.set i q).length = l.length := List.length_set
theorem J2 {s j : Nat} (h : s < 1099511627776) : (s = 1099511627776 + j) = False := eq_false (by omega)
theorem ut {x : α} {q : List α} {j : Nat} : ∀ {l : List (List α)} {i k : Nat}, cm k (l.set i (q.set j x)) = cm k (l.set i q)
  | [], i, k => rfl
  | y :: l, 0, k => by simp only [List.set_cons_zero, cm, List.length_set]
  | y :: l, i + 1, k => by simp only [List.set_cons_succ, cm, ut]
theorem J3 {l : List (List α)} {i : Int} {q : List α} (hq : ak l i = some q) (k : Nat) (R : Nat → Option Row) (q' : List α) : ap R k (cY E sz e (l.set i.toNat q')) (k + i.toNat) = some (.row E sz (aB e q')) := by
  obtain ⟨hlt, _⟩ := List.getElem?_eq_some_iff.1 (lU hq).2
  exact tg (List.getElem?_set_self hlt)
theorem xF {l : List (List α)} {i : Int} {q : List α} (hq : ak l i = some q) : l.set i.toNat q = l := by
  obtain ⟨hlt, he⟩ := List.getElem?_eq_some_iff.1 (lU hq).2
  rw [← he, List.set_getElem_self]
theorem Cc {l : List (List α)} {i : Int} {q : List α} (hq : ak l i = some q) (k : Nat) (R : Nat → Option Row) (q1 q' : List α) : ki E sz e k (l.set i.toNat q') (upd (ap R k (cY E sz e (l.set i.toNat q1))) (k + i.toNat) (some (.row E sz (aB e q')))) = True := eq_true fun j x hx => by
  obtain ⟨hlt, _⟩ := List.getElem?_eq_some_iff.1 (lU hq).2
  by_cases h : j = i.toNat
  · subst h
    rw [List.getElem?_set_self hlt] at hx
    injection hx with hx; subst hx
    exact ai _ _ _
  · rw [au _ _ (by omega)]
    rw [List.getElem?_set_ne (Ne.symm h)] at hx
    exact tg (by rw [List.getElem?_set_ne (Ne.symm h)]; exact hx)
theorem J4 {l : List (List α)} {i : Int} {q : List α} (hq : ak l i = some q) (k : Nat) (R : Nat → Option Row) (q' : List α) : ki E sz e k (l.set i.toNat q') (upd (ap R k (cY E sz e l)) (k + i.toNat) (some (.row E sz (aB e q')))) = True := by
  have := Cc (E := E) (sz := sz) (e := e) hq k R q q'
  rwa [xF hq] at this
def nq (G : List (Nat × Option Nat)) (h : Nat → Nat) (n : Nat) : bJ := fun s => if (1099511627776 : Nat) ≤ s then (if s < (1099511627776 : Nat) + n then some (some (h (s - (1099511627776 : Nat)))) else none) else lk G s
theorem m9 {G : List (Nat × Option Nat)} {h : Nat → Nat} {n s : Nat} (hs : s < 1099511627776) : nq G h n s = lk G s := by unfold nq; rw [if_neg (by omega)]
theorem kt {G : List (Nat × Option Nat)} {h : Nat → Nat} {n i : Nat} (hi : i < n) : nq G h n ((1099511627776 : Nat) + i) = some (some (h i)) := by
  unfold nq; rw [if_pos (by omega), if_pos (by omega), Nat.add_sub_cancel_left]
theorem ti {g : bJ} {F : Nat → Option Row} : ∀ {cs : List AV} {k : Nat} {le : List (List α)} (h : Nat → Nat), (∀ i, i < le.length → g (k + i) = some (some (h i))) → cs.length = le.length → (∀ i x, le[i]? = some x → cs[i]? = some (AV.own (h i) x.length)) → cvL g F cs (cm k le)
  | [], k, [], h, _, _, _ => trivial
  | [], k, x :: l, h, _, hl, _ => by simp at hl
  | c :: cs, k, [], h, _, hl, _ => by simp at hl
  | c :: cs, k, x :: l, h, h1, hl, h2 => by
    have hc := h2 0 x rfl
    simp only [List.getElem?_cons_zero, Option.some.injEq] at hc
    subst hc
    refine ⟨⟨by have := h1 0 (by simp); rwa [Nat.add_zero] at this, rfl⟩, ti (fun i => h (i + 1)) (fun i hi => ?_) (by simpa using hl) (fun i y hy => ?_)⟩
    · have := h1 (i + 1) (by simpa using hi)
      rwa [show k + (i + 1) = k + 1 + i by omega] at this
    · have := h2 (i + 1) y (by simpa using hy)
      simpa using this
def hKu (k : Nat) : Nat → Nat := fun i => k + i
def hPu (n s0 : Nat) : Nat → Nat := fun i => if i < n then (1099511627776 : Nat) + i else s0
theorem H6 {G : List (Nat × Option Nat)} {F : Nat → Option Row} {n : Nat} (k : Nat) (le : List (List α)) (hn : n = le.length) : cvL (nq G (hKu k) n) F (cm k le) (cm 1099511627776 le) = True :=
  hn ▸ eq_true (ti (hKu k) (fun i hi => kt hi) (lV _ _) (fun i x hx => by rw [rl, hx]; rfl))
theorem H7 {G : List (Nat × Option Nat)} {n k i : Nat} (h : i < n) : nq G (hKu k) n (1099511627776 + i) = some (some (k + i)) := kt h
theorem KI {i : Int} {n : Nat} (h1 : 0 ≤ i) (h2 : i < (n : Int)) : Int.toNat i < n := by omega
theorem Cd {G : List (Nat × Option Nat)} {F : Nat → Option Row} (s0 : Nat) (le : List (List α)) (x : List α) : cvL (nq G (hPu le.length s0) (le.length + 1)) F (cm 1099511627776 le ++ [.own s0 x.length]) (cm 1099511627776 (le ++ [x])) :=
  (ti (hPu le.length s0) (fun i hi => kt (by simpa using hi)) (by simp [lV]) (fun i y hy => by
    unfold hPu
    by_cases hi : i < le.length
    · rw [if_pos hi, List.getElem?_append_left (by rw [lV]; exact hi), rl]
      rw [List.getElem?_append_left hi] at hy
      rw [hy]; rfl
    · rw [if_neg hi]
      rw [List.getElem?_append_right (by omega)] at hy
      rw [List.getElem?_append_right (by rw [lV]; omega), lV]
      obtain ⟨hlt, he⟩ := List.getElem?_eq_some_iff.1 hy
      have : i - le.length = 0 := by simpa using hlt
      simp only [this] at hy ⊢
      simp only [List.getElem?_cons_zero, Option.some.injEq] at hy
      subst hy; rfl))
theorem uu {g : bJ} {F : Nat → Option Row} : ∀ {a b : List AV} {x y : AV}, cvL g F (a ++ [x]) (b ++ [y]) → cv1 g F x y
  | [], [], x, y, h => h.1
  | [], [_], x, y, h => h.2.elim
  | [], _ :: _ :: _, x, y, h => h.2.elim
  | [_], [], x, y, h => h.2.elim
  | _ :: _ :: _, [], x, y, h => h.2.elim
  | _ :: a, _ :: b, x, y, h => uu (a := a) (b := b) h.2
theorem xG {G : List (Nat × Option Nat)} {F : Nat → Option Row} (s0 n : Nat) (le : List (List α)) (x : List α) : cvL (nq G (hPu le.length s0) (le.length + 1)) F (cm 1099511627776 le ++ [.own s0 n]) (cm 1099511627776 (le ++ [x])) = (n = x.length) := propext ⟨fun h => by
    rw [uq] at h
    exact (uu h).2, fun h => h ▸ Cd s0 le x⟩
theorem Ce {G : List (Nat × Option Nat)} {F : Nat → Option Row} (s0 n : Nat) (x : List α) : cvL (nq G (hPu 0 s0) 1) F [.own s0 n] (cm 1099511627776 [x]) = (n = x.length) := xG (G := G) (F := F) s0 n [] x
theorem zx {R : Nat → Option Row} {k : Nat} : ki E sz e k [] R := fun i x h => by simp at h
end
section
variable {C : Ctx} {T : Nat → AV} {R : Nat → Option Row} {b : Nat} {α : Type} {E sz : Nat} {e : α → List AV}
def ltB (k : Nat) (l : List Nat) : Bool := l.all fun s => Nat.blt s k
theorem lW {k : Nat} {l : List Nat} (h : ltB k l = true) : ∀ s ∈ l, s < k := fun s hs => by
  have := List.all_eq_true.1 h s hs
  exact Nat.blt_eq ▸ this
theorem Cf {k b' : Nat} {lt : List (Nat × AV)} {lr : List (Nat × Row)} {le : List (List α)} (h : Nat → Nat) (G : List (Nat × Option Nat)) (fz : List Nat) (hρ : ∀ s, k ≤ s → C.ρ0 s = none) (hk : Nat.blt k (1099511627776 : Nat) = true)
    (hG : gOK k G fz (lr.map fun x => (x.1, x.2.solid)) = true) (hlr : ltB (1099511627776 : Nat) (lr.map (·.1)) = true)
    (hinj : ∀ i j, i < le.length → j < le.length → h i = h j → i = j) (hdis : ∀ i, i < le.length → h i ∉ pn G ∧ h i ∉ fz)
    (hT : leT (nq G h le.length) (fzF fz R) T lt) (hR : leR (nq G h le.length) (fzF fz R) R lr)
    (hF : ∀ i x, le[i]? = some x → R (h i) = some (.row E sz (aB e x))) : Le C ⟨T, R, b⟩ ⟨mkT lt, ap (mkR lr) (1099511627776 : Nat) (cY E sz e le), b'⟩ := by
  have hk : k < (1099511627776 : Nat) := Nat.blt_eq ▸ hk
  have hG' := hG
  unfold gOK at hG
  simp only [Bool.and_eq_true] at hG
  obtain ⟨⟨⟨⟨g1, g2⟩, g3⟩, g4⟩, g5⟩ := hG
  have lo : ∀ {s : Nat} {r : Row}, mkR lr s = some r → s < (1099511627776 : Nat) := fun {s r} hs => by
    refine lW hlr s (Classical.byContradiction fun hc => ?_)
    have hn : mkR lr s = none := by
      clear hs hT hR g1 g2 g3 g4 g5 hG' hlr
      induction lr with
      | nil => rfl
      | cons a l ih =>
        simp only [List.map_cons, List.mem_cons, not_or] at hc
        simp only [mkR]
        rw [au _ _ hc.1]
        exact ih hc.2
    rw [hn] at hs; cases hs
  have cs : ∀ {s : Nat} {r : Row}, ap (mkR lr) (1099511627776 : Nat) (cY E sz e le) s = some r → (s < (1099511627776 : Nat) ∧ mkR lr s = some r) ∨ (∃ i x, i < le.length ∧ s = (1099511627776 : Nat) + i ∧ le[i]? = some x ∧ r = .row E sz (aB e x)) := by
    intro s r hs
    rw [bR] at hs
    split at hs
    · rename_i hc
      rw [md] at hc
      obtain ⟨x, hx⟩ : ∃ x, le[s - (1099511627776 : Nat)]? = some x := ⟨_, List.getElem?_eq_getElem (by omega)⟩
      refine .inr ⟨s - (1099511627776 : Nat), x, by omega, by omega, hx, ?_⟩
      simp only [cY, List.getElem?_map, hx, Option.map_some, Option.some.injEq] at hs
      exact hs.symm
    · exact .inl ⟨lo hs, hs⟩
  refine CZ (nq G h le.length) fz hρ (fun s hs => ?_) (fun s t u r r' hs h1 ht h2 e1 e2 => ?_) (fun s u r hs h1 e1 => ?_) (fun s hs => ?_) (fun t => rE hT t) (fun s r hs => ?_)
  · rw [m9 (by omega)]
    have hg := nk g1 s hs
    cases hq : lk G s with
    | none => rw [hq] at hg; cases hg
    | some u =>
      cases u with
      | none => rw [hq] at hg; cases hg
      | some u => rw [hq] at hg; simp only [E9, beq_iff_eq] at hg; rw [hg]
  · rcases cs hs with ⟨l1, m1⟩ | ⟨i, x, li, rfl, hx, rfl⟩ <;> rcases cs ht with ⟨l2, m2⟩ | ⟨j, y, lj, rfl, hy, rfl⟩
    · rw [m9 l1] at e1; rw [m9 l2] at e2
      exact nm (iC g2) (List.mem_filter.2 ⟨gY e1, oq m1 h1⟩) (List.mem_filter.2 ⟨gY e2, oq m2 h2⟩)
    · rw [m9 l1] at e1; rw [kt lj] at e2
      injection e2 with e2; injection e2 with e2
      exact absurd (e2 ▸ gf (gY e1)) (hdis j lj).1
    · rw [m9 l2] at e2; rw [kt li] at e1
      injection e1 with e1; injection e1 with e1
      exact absurd (e1 ▸ gf (gY e2)) (hdis i li).1
    · rw [kt li] at e1; rw [kt lj] at e2
      injection e1 with e1; injection e1 with e1
      injection e2 with e2; injection e2 with e2
      rw [hinj i j li lj (by rw [e1, e2])]
  · rcases cs hs with ⟨l1, m1⟩ | ⟨i, x, li, rfl, hx, rfl⟩
    · rw [m9 l1] at e1
      have := List.all_eq_true.1 g4 _ (gf (List.mem_filter.2 ⟨gY e1, oq m1 h1⟩))
      simpa using this
    · rw [kt li] at e1
      injection e1 with e1; injection e1 with e1
      exact e1 ▸ (hdis i li).2
  · rw [bR] at hs
    by_cases hc : (1099511627776 : Nat) ≤ s ∧ s < (1099511627776 : Nat) + (cY E sz e le).length
    · rw [if_pos hc] at hs
      rw [List.getElem?_eq_none_iff] at hs
      omega
    · rw [if_neg hc] at hs
      rw [md] at hc
      by_cases h2 : (1099511627776 : Nat) ≤ s
      · unfold nq; rw [if_pos h2, if_neg (by omega)]
      · rw [m9 (by omega)]
        have hk := pq hs
        cases hq : lk G s with
        | none => rfl
        | some u =>
          exfalso
          have hm := List.all_eq_true.1 g5 s (List.mem_map.2 ⟨_, gY hq, rfl⟩)
          obtain ⟨p, hp, he⟩ := List.any_eq_true.1 hm
          obtain ⟨x, hx, rfl⟩ := List.mem_map.1 hp
          exact hk (List.mem_map.2 ⟨x, hx, by simpa using he⟩)
  · rcases cs hs with ⟨l1, m1⟩ | ⟨i, x, li, rfl, hx, rfl⟩
    · exact rH hR s r m1
    · rw [kt li]
      show An _ _ (R (h i)) _
      rw [hF i x hx]
      exact ⟨rfl, rfl, rfl⟩
theorem fw {k b' : Nat} {lt : List (Nat × AV)} {lr : List (Nat × Row)} {le : List (List α)} (k2 : Nat) (G : List (Nat × Option Nat)) (fz : List Nat) (hρ : ∀ s, k ≤ s → C.ρ0 s = none) (hk : Nat.blt k (1099511627776 : Nat) = true)
    (hG : gOK k G fz (lr.map fun x => (x.1, x.2.solid)) = true) (hlr : ltB (1099511627776 : Nat) (lr.map (·.1)) = true) (hs : (ltB k2 (pn G) && ltB k2 fz) = true)
    (hT : leT (nq G (hKu k2) le.length) (fzF fz R) T lt) (hR : leR (nq G (hKu k2) le.length) (fzF fz R) R lr) (hF : ki E sz e k2 le R) : Le C ⟨T, R, b⟩ ⟨mkT lt, ap (mkR lr) (1099511627776 : Nat) (cY E sz e le), b'⟩ := by
  rw [Bool.and_eq_true] at hs
  refine Cf (hKu k2) G fz hρ hk hG hlr (fun i j _ _ h => by unfold hKu at h; omega) (fun i hi => ⟨fun hm => ?_, fun hm => ?_⟩) hT hR hF
  · have := lW hs.1 _ hm; unfold hKu at this; omega
  · have := lW hs.2 _ hm; unfold hKu at this; omega
theorem H8 {k b' : Nat} {lt : List (Nat × AV)} {lr : List (Nat × Row)} {le : List (List α)} {x : List α} (s0 : Nat) (G : List (Nat × Option Nat)) (fz : List Nat) (hρ : ∀ s, k ≤ s → C.ρ0 s = none) (hk : Nat.blt k (1099511627776 : Nat) = true)
    (hG : gOK k G fz (lr.map fun x => (x.1, x.2.solid)) = true) (hlr : ltB (1099511627776 : Nat) (lr.map (·.1)) = true) (hs : (ltB (1099511627776 : Nat) (pn G) && (ltB (1099511627776 : Nat) fz && (ltB (1099511627776 : Nat) [s0] && (!(pn G).contains s0 && !fz.contains s0)))) = true)
    (hT : leT (nq G (hPu le.length s0) (le.length + 1)) (fzF fz R) T lt) (hR : leR (nq G (hPu le.length s0) (le.length + 1)) (fzF fz R) R lr) (hF : ki E sz e (1099511627776 : Nat) le R) (h0 : R s0 = some (.row E sz (aB e x))) : Le C ⟨T, R, b⟩ ⟨mkT lt, ap (mkR lr) (1099511627776 : Nat) (cY E sz e (le ++ [x])), b'⟩ := by
  simp only [Bool.and_eq_true, Bool.not_eq_true', List.contains_eq_mem, decide_eq_false_iff_not] at hs
  obtain ⟨s1, s2, s3, s4, s5⟩ := hs
  have s3 := lW s3 s0 (by simp)
  have hl : (le ++ [x]).length = le.length + 1 := by simp
  refine Cf (hPu le.length s0) G fz hρ hk hG hlr (fun i j hi hj h => ?_) (fun i hi => ?_) (by rw [hl]; exact hT) (by rw [hl]; exact hR) (fun i y hy => ?_)
  · rw [hl] at hi hj
    unfold hPu at h
    split at h <;> split at h <;> omega
  · unfold hPu
    split
    · exact ⟨fun hm => by have := lW s1 _ hm; omega, fun hm => by have := lW s2 _ hm; omega⟩
    · exact ⟨s4, s5⟩
  · unfold hPu
    by_cases hi : i < le.length
    · rw [if_pos hi]
      rw [List.getElem?_append_left hi] at hy
      exact hF i y hy
    · rw [if_neg hi]
      rw [List.getElem?_append_right (by omega)] at hy
      obtain ⟨hlt, he⟩ := List.getElem?_eq_some_iff.1 hy
      have : i - le.length = 0 := by simpa using hlt
      simp only [this, List.getElem?_cons_zero, Option.some.injEq] at hy
      subst hy; exact h0
theorem J5 {k b' : Nat} {lt : List (Nat × AV)} {lr : List (Nat × Row)} {le : List (List α)} (kf : Nat) (G : List (Nat × Option Nat)) (fz : List Nat) (hρ : ∀ s, k ≤ s → C.ρ0 s = none)
    (hG : gOK k G fz (lr.map fun x => (x.1, x.2.solid)) = true) (hs : ltB kf (pn G) = true) (hF : ki E sz e kf le R)
    (hT : leT (lk G) (ap (fzF fz R) kf (cY E sz e le)) T lt) (hR : leR (lk G) (ap (fzF fz R) kf (cY E sz e le)) R lr) : Le C ⟨T, R, b⟩ ⟨mkT lt, mkR lr, b'⟩ := by
  unfold gOK at hG
  simp only [Bool.and_eq_true] at hG
  obtain ⟨⟨⟨⟨g1, g2⟩, g3⟩, g4⟩, g5⟩ := hG
  have eF : fzF (fz ++ List.range' kf le.length) R = ap (fzF fz R) kf (cY E sz e le) := by
    funext s
    rw [bR, md]
    unfold fzF
    by_cases hc : kf ≤ s ∧ s < kf + le.length
    · rw [if_pos hc]
      have hm : (fz ++ List.range' kf le.length).contains s = true := by
        rw [List.contains_iff_mem, List.mem_append]
        exact .inr (List.mem_range'_1.2 ⟨hc.1, by omega⟩)
      rw [hm]
      obtain ⟨x, hx⟩ : ∃ x, le[s - kf]? = some x := ⟨_, List.getElem?_eq_getElem (by omega)⟩
      have := hF (s - kf) x hx
      rw [show kf + (s - kf) = s by omega] at this
      simp only [this, cY, List.getElem?_map, hx, Option.map_some]
    · rw [if_neg hc]
      have hm : (fz ++ List.range' kf le.length).contains s = fz.contains s := by
        rw [Bool.eq_iff_iff, List.contains_iff_mem, List.contains_iff_mem, List.mem_append, List.mem_range'_1]
        constructor
        · rintro (h | h)
          · exact h
          · omega
        · exact .inl
      rw [hm]
  rw [← eF] at hT hR
  refine CZ (lk G) (fz ++ List.range' kf le.length) hρ (fun s hs => ?_) (fun s t u r r' hs h1 ht h2 e1 e2 => ?_) (fun s u r m1 h1 e1 => ?_) (fun s hs => ?_) (fun t => rE hT t) (fun s r hs => rH hR s r hs)
  · have hg := nk g1 s hs
    cases hq : lk G s with
    | none => rw [hq] at hg; cases hg
    | some u =>
      cases u with
      | none => rw [hq] at hg; cases hg
      | some u => rw [hq] at hg; simp only [E9, beq_iff_eq] at hg; rw [hg]
  · exact nm (iC g2) (List.mem_filter.2 ⟨gY e1, oq hs h1⟩) (List.mem_filter.2 ⟨gY e2, oq ht h2⟩)
  · intro hm
    rcases List.mem_append.1 hm with hm | hm
    · have := List.all_eq_true.1 g4 _ (gf (List.mem_filter.2 ⟨gY e1, oq m1 h1⟩))
      simp only [Bool.not_eq_true', List.contains_eq_mem, decide_eq_false_iff_not] at this
      exact this hm
    · have h3 := lW hs _ (gf (gY e1))
      have := (List.mem_range'_1.1 hm).1
      omega
  · have hk := pq hs
    cases hq : lk G s with
    | none => rfl
    | some u =>
      exfalso
      have hm := List.all_eq_true.1 g5 s (List.mem_map.2 ⟨_, gY hq, rfl⟩)
      obtain ⟨p, hp, he⟩ := List.any_eq_true.1 hm
      obtain ⟨x, hx, rfl⟩ := List.mem_map.1 hp
      exact hk (List.mem_map.2 ⟨x, hx, by simpa using he⟩)
end
section
variable {P : Program} {α : Type} {E sz E1 : Nat} {e : α → List AV} {e2 : List α → List AV}
theorem qm : ∀ (n k i : Nat), i < n → gU (List.range' k n) (k + i) = some i
  | 0, k, i, h => by omega
  | n + 1, k, 0, h => by simp [List.range'_succ, gU]
  | n + 1, k, i + 1, h => by
    have ih := qm n (k + 1) i (by omega)
    rw [show k + 1 + i = k + (i + 1) by omega] at ih
    simp only [List.range'_succ, gU, ih]
    rw [if_neg (by omega)]
theorem zy {cid n i : Nat} (hc : cid < (1099511627776 : Nat)) (hi : i < n) : gU (cid :: List.range' (1099511627776 : Nat) n) ((1099511627776 : Nat) + i) = some (1 + i) := by
  simp only [gU, qm n (1099511627776 : Nat) i hi]
  rw [if_neg (by omega), Nat.add_comm]
theorem uv {ι : List Nat} {lnd : Nat → Option Row} : ∀ {le : List (List α)} {k k2 : Nat}, (∀ i, i < le.length → gU ι (k + i) = some (k2 + i)) → (cm k le).map (bQ ι lnd) = cm k2 le
  | [], k, k2, _ => rfl
  | x :: l, k, k2, h => by
    have h0 := h 0 (by simp)
    rw [Nat.add_zero, Nat.add_zero] at h0
    have ih := uv (ι := ι) (lnd := lnd) (le := l) (k := k + 1) (k2 := k2 + 1) (fun i hi => by
      have := h (i + 1) (by simpa using hi)
      rwa [show k + (i + 1) = k + 1 + i by omega, show k2 + (i + 1) = k2 + 1 + i by omega] at this)
    simp only [cm, List.map_cons, ih]
    simp [bQ, h0]
theorem tI {R : Nat → Option Row} {ι : List Nat} : ∀ {le : List (List α)} {k : Nat}, ki E sz e k le R → (List.range' k le.length).map (bS ι (fun _ => none) R) = cY E sz e le
  | [], k, _ => rfl
  | x :: l, k, h => by
    have h0 := h 0 x rfl
    rw [Nat.add_zero] at h0
    have ih := tI (ι := ι) (R := R) (le := l) (k := k + 1) (fun i y hy => by
      have := h (i + 1) y (by simpa using hy)
      rwa [show k + (i + 1) = k + 1 + i by omega] at this)
    simp only [List.length_cons, List.range'_succ, List.map_cons, ih]
    simp [cY, bS, h0]
theorem Cg {fn : Func} {T : Nat → AV} {R : Nat → Option Row} {b cid : Nat} {kk : IntKind} {z : Int} {le : List (List α)} (hres : qt P ⟨T, ap R (1099511627776 : Nat) (cY E sz e le), b⟩ fn.results.toList = some [.agg [.int kk z, .own cid le.length]])
    (hc : R cid = some (.tab E1 1 (cm (1099511627776 : Nat) le))) (hlt : Nat.blt cid (1099511627776 : Nat) = true) : (Exit.ret = .normal ∨ Exit.ret = .ret) ∧ xp P fn 0 (.agg [.int kk z, .own 0 le.length]) (.tab E1 1 (cm 1 le) :: cY E sz e le) ⟨T, ap R (1099511627776 : Nat) (cY E sz e le), b⟩ := by
  have hlt : cid < (1099511627776 : Nat) := Nat.blt_eq ▸ hlt
  refine ⟨.inr rfl, _, cid :: List.range' (1099511627776 : Nat) le.length, hres, ?_, fun j hj => by omega, ?_, ?_⟩
  · refine List.nodup_cons.2 ⟨fun hm => ?_, List.nodup_range'⟩
    have := (List.mem_range'_1.1 hm).1
    omega
  · simp [iW, tc, bq, bQ, gU]
  · simp only [List.map_cons, tI tH]
    congr 1
    simp only [bS, Cb hlt, hc]
    rw [uv (fun i hi => zy hlt hi)]
def nr (k : Nat) (R : Nat → Option Row) : Prop := ∀ s, k ≤ s → R s = none
theorem tj {k s : Nat} {R : Nat → Option Row} {r : Option Row} (h : s < k) : nr k (upd R s r) = nr k R := propext ⟨fun H t ht => by have := H t ht; rwa [au _ _ (by omega)] at this, fun H t ht => by rw [au _ _ (by omega)]; exact H t ht⟩
theorem wC {k : Nat} : nr k (fun _ => none) = True := eq_true fun _ _ => rfl
theorem wD {k : Nat} : nr k (bd []) = True := eq_true fun _ _ => rfl
theorem wE {k s : Nat} {R : Nat → Option Row} {r : Option Row} {le : List (List α)} (h : s < k) : ki E sz e k le (upd R s r) = ki E sz e k le R := propext ⟨fun H i x hx => by have := H i x hx; rwa [th h] at this, fun H => zw h H⟩
theorem wF {R : Nat → Option Row} {k : Nat} {le : List (List α)} : ki E sz e k le (ap R k (cY E sz e le)) = True := eq_true tH
theorem wG {R : Nat → Option Row} {k : Nat} : ki E sz e k [] R = True := eq_true zx
theorem Ch {R : Nat → Option Row} {r : Option Row} {s j : Nat} (h : s < 1099511627776) : upd R s r (1099511627776 + j) = R (1099511627776 + j) := th h
section
variable {BR : Nat → Bool} {ops : List Oper} {T : Nat → AV} {R : Nat → Option Row} {st : St} {bs i b : Nat} {l : List Oper} {K : St → Prop} {f : FuncId} {args args' : List AV} {dst : Option Tmp}
theorem KJ {r : List (List α)} {kk : IntKind} {z : Int} (hS : aU P f args' [] (.agg [.int kk z, .own 0 r.length]) (.tab E1 1 (cm 1 r) :: cY E sz e r)) (ha : cvA (args.map (ee [] fun _ => none)) args') (hs : nr (bs + 16 * i) st.rows)
    (hK : di P BR ops bs (i + 1) l (({ st with rows := ap (upd st.rows (bs + 16 * i) (some (.tab E1 1 (cm (bs + 16 * i + 1) r)))) (bs + 16 * i + 1) (cY E sz e r) } : St).put dst (.agg [.int kk z, .own (bs + 16 * i) r.length])) K) : rR P BR ops bs i l st K f args dst := by
  refine Ln [] hS ha trivial List.nodup_nil (by simp) (by simp) (fun j _ => hs _ (by omega)) ?_
  rw [fO]
  have e1 : (Row.tab E1 1 (cm 1 r) :: cY E sz e r).map (Row.ren (mId [] (bs + 16 * i))) = .tab E1 1 (cm (bs + 16 * i + 1) r) :: cY E sz e r := by
    rw [List.map_cons, tG]
    simp only [Row.ren, rn]
  rw [e1]
  have e2 : fS (mId [] (bs + 16 * i)) (.agg [.int kk z, .own 0 r.length]) = .agg [.int kk z, .own (bs + 16 * i) r.length] := by simp [fS, iR, gX, mId]
  rw [e2]
  exact hK
end
end
theorem FM : Tryz.prog.follows .mixedOrders = true := by kernel_rfl
def EI (q : Int) : List AV := [.int .i64 q]
theorem EIl : ∀ q, (EI q).length = 1 := fun _ => rfl
theorem EIe (q : Int) : EI q = [.int .i64 q] := (rfl)
theorem EIf : ∀ l, (∀ c ∈ aB EI l, Free c) = True := k8 fun q => by simp only [EIe, AL, and_self]
def EB (q : Int) : List AV := [.int .u8 q]
theorem EBl : ∀ q, (EB q).length = 1 := fun _ => rfl
theorem EBe (q : Int) : EB q = [.int .u8 q] := (rfl)
theorem EBf : ∀ l, (∀ c ∈ aB EB l, Free c) = True := k8 fun q => by simp only [EBe, AL, and_self]
def aT (q : Int × Int × Int × Int × Int) : List AV := [.int .i64 q.1, .int .i64 q.2.1, .int .i64 q.2.2.1, .int .i64 q.2.2.2.1, .int .i64 q.2.2.2.2]
theorem co : ∀ q, (aT q).length = 5 := fun _ => rfl
theorem xH (q : Int × Int × Int × Int × Int) : aT q = [.int .i64 q.1, .int .i64 q.2.1, .int .i64 q.2.2.1, .int .i64 q.2.2.2.1, .int .i64 q.2.2.2.2] := (rfl)
theorem H9 : ∀ l, (∀ c ∈ aB aT l, Free c) = True := k8 fun q => by simp only [xH, AL, and_self]
def kA (q : Int × Int × Int × Int) : List AV := [.int .i64 q.1, .int .i64 q.2.1, .int .i64 q.2.2.1, .int .i64 q.2.2.2]
theorem Ci : ∀ q, (kA q).length = 4 := fun _ => rfl
theorem Cj (q : Int × Int × Int × Int) : kA q = [.int .i64 q.1, .int .i64 q.2.1, .int .i64 q.2.2.1, .int .i64 q.2.2.2] := (rfl)
theorem J6 : ∀ l, (∀ c ∈ aB kA l, Free c) = True := k8 fun q => by simp only [Cj, AL, and_self]
def cW (q : Int × Int × Int × Int × Int × Int) : List AV := [.int .i64 q.1, .int .i64 q.2.1, .int .i64 q.2.2.1, .int .i64 q.2.2.2.1, .int .i64 q.2.2.2.2.1, .int .i64 q.2.2.2.2.2]
theorem uw : ∀ q, (cW q).length = 6 := fun _ => rfl
theorem ux (q : Int × Int × Int × Int × Int × Int) : cW q = [.int .i64 q.1, .int .i64 q.2.1, .int .i64 q.2.2.1, .int .i64 q.2.2.2.1, .int .i64 q.2.2.2.2.1, .int .i64 q.2.2.2.2.2] := (rfl)
theorem Ck : ∀ l, (∀ c ∈ aB cW l, Free c) = True := k8 fun q => by simp only [ux, AL, and_self]
def aV (q : List (Int × Int × Int × Int × Int)) : List AV := [.sl (aB aT q) q.length]
theorem lN : ∀ q, (aV q).length = 1 := fun _ => rfl
theorem zz (q : List (Int × Int × Int × Int × Int)) : aV q = [.sl (aB aT q) q.length] := (rfl)
def aK (q : Int × Int × Int × Int × Int × Int × Int × Int) : List AV := [.int .i64 q.1, .int .i64 q.2.1, .int .i64 q.2.2.1, .int .i64 q.2.2.2.1, .int .i64 q.2.2.2.2.1, .int .i64 q.2.2.2.2.2.1, .int .i64 q.2.2.2.2.2.2.1, .int .i64 q.2.2.2.2.2.2.2]
theorem eg : ∀ q, (aK q).length = 8 := fun _ => rfl
theorem ro (q : Int × Int × Int × Int × Int × Int × Int × Int) : aK q = [.int .i64 q.1, .int .i64 q.2.1, .int .i64 q.2.2.1, .int .i64 q.2.2.2.1, .int .i64 q.2.2.2.2.1, .int .i64 q.2.2.2.2.2.1, .int .i64 q.2.2.2.2.2.2.1, .int .i64 q.2.2.2.2.2.2.2] := (rfl)
theorem wH : ∀ l, (∀ c ∈ aB aK l, Free c) = True := k8 fun q => by simp only [ro, AL, and_self]
def aL (q : Int × List (List (Int × Int × Int × Int × Int))) : List AV := [.int .i64 q.1, .sl (aB aV q.2) q.2.length]
theorem fx : ∀ q, (aL q).length = 2 := fun _ => rfl
theorem tl (q : Int × List (List (Int × Int × Int × Int × Int))) : aL q = [.int .i64 q.1, .sl (aB aV q.2) q.2.length] := (rfl)
def ES (q : ByteArray) : List AV := [.str q]
theorem ESl : ∀ q, (ES q).length = 1 := fun _ => rfl
theorem ESe (q : ByteArray) : ES q = [.str q] := (rfl)
theorem ESf : ∀ l, (∀ c ∈ aB ES l, Free c) = True := k8 fun q => by simp only [ESe, AL, and_self]
abbrev StT (D : Type) := Int × ByteArray × List ByteArray × Int × List D
abbrev Y1 := StT Empty
abbrev Y2 := StT Y1
abbrev Y3 := StT Y2
abbrev Y4 := StT Y3
def E0 : Empty → List AV := fun q => nomatch q
def EZ {D : Type} (eD : D → List AV) (q : Int × ByteArray × List ByteArray × Int × List (D)) : List AV := [.int .i64 q.1, .str q.2.1, .sl (aB ES q.2.2.1) q.2.2.1.length, .int .i64 q.2.2.2.1, .sl (aB eD q.2.2.2.2) q.2.2.2.2.length]
theorem EZl {D : Type} (eD : D → List AV) : ∀ q, (EZ eD q).length = 5 := fun _ => rfl
theorem EZe {D : Type} (eD : D → List AV) (q : Int × ByteArray × List ByteArray × Int × List (D)) : EZ eD q = [.int .i64 q.1, .str q.2.1, .sl (aB ES q.2.2.1) q.2.2.1.length, .int .i64 q.2.2.2.1, .sl (aB eD q.2.2.2.2) q.2.2.2.2.length] := (rfl)
def EN := (aI (aI (aI @EIe @EBe) (aI @xH (aI @Cj @ux))) (aI (aI @zz @ro) (aI @tl (aI @ESe @EZe))))
def EF := (aI (aI @EIf (aI @EBf @H9)) (aI (aI @J6 @Ck) (aI @wH @ESf)))
theorem wI {R : Nat → Option Row} {k : Nat} {le : List (List (Int × Int × Int × Int × Int))} (h : ki 36 5 aT k le R) : (cm k le).map (fU [] R) = aB aV le := ur (fun _ => rfl) h
def FX := (aI (aI (aI (aI @lV @Ca) (aI @md (aI @tG @rn))) (aI (aI @Cb (aI @H6 @xG)) (aI @Ce (aI @H7 @wE)))) (aI (aI (aI @wF @wG) (aI @H5 (aI @J2 @ut))) (aI (aI @Ch (aI @m9 @tj)) (aI @wC (aI @wD @wI)))))
theorem KK {α : Type} (m : List α) : List.append [] m = m := (rfl)
theorem KL {α : Type} (a : α) (l m : List α) : List.append (a :: l) m = a :: List.append l m := (rfl)
def EV := aI (aI @KK @KL) (aI AE (aI TY (aI EN FX)))
abbrev LQ := List (Int × Int × Int × Int)
abbrev LF := List (Int × Int × Int × Int × Int)
abbrev LO := List (Int × Int × Int × Int × Int × Int × Int × Int)
abbrev LZ := List (Int × List LF)
theorem aN {n m : Nat} (h : Nat.ble n m = true) : n ≤ m := Nat.le_of_ble_eq_true h
theorem ab {n : Nat} {p : Nat → Prop} (h : Nat.ble n 0 = true) : ∀ j, j < n → p j := fun j hj => absurd (Nat.lt_of_lt_of_le hj (Nat.le_of_ble_eq_true h)) (Nat.not_lt_zero _)
def RSS := (aI (aI (aI (aI (aI (aI (aI @Tryz.results3 @Tryz.results4) (aI @Tryz.results5 @Tryz.results6)) (aI (aI @Tryz.results7 @Tryz.results8) (aI @Tryz.results9 (aI @Tryz.results10 @Tryz.results11)))) (aI (aI (aI @Tryz.results12 @Tryz.results13) (aI @Tryz.results14 @Tryz.results15)) (aI (aI @Tryz.results16 @Tryz.results17) (aI @Tryz.results18 (aI @Tryz.results19 @Tryz.results20))))) (aI (aI (aI (aI @Tryz.results21 @Tryz.results22) (aI @Tryz.results23 @Tryz.results24)) (aI (aI @Tryz.results25 @Tryz.results26) (aI @Tryz.results27 (aI @Tryz.results28 @Tryz.results29)))) (aI (aI (aI @Tryz.results30 @Tryz.results31) (aI @Tryz.results32 (aI @Tryz.results33 @Tryz.results34))) (aI (aI @Tryz.results35 @Tryz.results36) (aI @Tryz.results37 (aI @Tryz.results38 @Tryz.results39)))))) (aI (aI (aI (aI (aI @Tryz.results40 @Tryz.results41) (aI @Tryz.results42 @Tryz.results43)) (aI (aI @Tryz.results44 @Tryz.results45) (aI @Tryz.results46 (aI @Tryz.results47 @Tryz.results48)))) (aI (aI (aI @Tryz.results49 @Tryz.results50) (aI @Tryz.results51 @Tryz.results52)) (aI (aI @Tryz.results53 @Tryz.results54) (aI @Tryz.results55 (aI @Tryz.results56 @Tryz.results57))))) (aI (aI (aI (aI @Tryz.results58 @Tryz.results59) (aI @Tryz.results60 @Tryz.results61)) (aI (aI @Tryz.results62 @Tryz.results63) (aI @Tryz.results64 (aI @Tryz.results65 @Tryz.results66)))) (aI (aI (aI @Tryz.results67 @Tryz.results68) (aI @Tryz.results69 (aI @Tryz.results70 @Tryz.results71))) (aI (aI @Tryz.results72 @Tryz.results73) (aI @Tryz.results74 (aI @Tryz.results75 @Tryz.results76))))))) (aI (aI (aI (aI (aI (aI @Tryz.results77 @Tryz.results78) (aI @Tryz.results79 @Tryz.results80)) (aI (aI @Tryz.results81 @Tryz.results82) (aI @Tryz.results83 (aI @Tryz.results84 @Tryz.results85)))) (aI (aI (aI @Tryz.results86 @Tryz.results87) (aI @Tryz.results88 @Tryz.results89)) (aI (aI @Tryz.results90 @Tryz.results91) (aI @Tryz.results92 (aI @Tryz.results93 @Tryz.results94))))) (aI (aI (aI (aI @Tryz.results95 @Tryz.results96) (aI @Tryz.results97 @Tryz.results98)) (aI (aI @Tryz.results99 @Tryz.results100) (aI @Tryz.results101 (aI @Tryz.results102 @Tryz.results103)))) (aI (aI (aI @Tryz.results104 @Tryz.results105) (aI @Tryz.results106 (aI @Tryz.results107 @Tryz.results108))) (aI (aI @Tryz.results109 @Tryz.results110) (aI @Tryz.results111 (aI @Tryz.results112 @Tryz.results113)))))) (aI (aI (aI (aI (aI @Tryz.results114 @Tryz.results115) (aI @Tryz.results116 @Tryz.results117)) (aI (aI @Tryz.results118 @Tryz.results119) (aI @Tryz.results120 (aI @Tryz.results121 @Tryz.results122)))) (aI (aI (aI @Tryz.results123 @Tryz.results124) (aI @Tryz.results125 @Tryz.results126)) (aI (aI @Tryz.results127 @Tryz.results128) (aI @Tryz.results129 (aI @Tryz.results130 @Tryz.results131))))) (aI (aI (aI (aI @Tryz.results132 @Tryz.results133) (aI @Tryz.results134 @Tryz.results135)) (aI (aI @Tryz.results136 @Tryz.results137) (aI @Tryz.results138 (aI @Tryz.results139 @Tryz.results140)))) (aI (aI (aI @Tryz.results141 @Tryz.results142) (aI @Tryz.results143 (aI @Tryz.results144 @Tryz.results145))) (aI (aI @Tryz.results146 @Tryz.results147) (aI @Tryz.results148 (aI @Tryz.results149 @Tryz.results150))))))))
section
variable {C : Ctx} {Q : Exit → St → Prop} {T : Nat → AV} {R : Nat → Option Row} {b n : Nat} {ops : List Oper} {st : St}
theorem AR {id : Nat} {draw : Bool} {y : Code} (hC : C.N = n) (h : ∀ K : St → Prop, (∀ T' R' b', AW Tryz.prog C y (St.mk T' R' (b + 1024)) Q → K (St.mk T' R' b')) → di Tryz.prog BR ops b 0 ops (St.mk T R b) K) (hN : mY n ops.toArray = true := by kernel_rfl) (hB : (!draw || qs BR ops.toArray) = true := by kernel_rfl) :
    AW Tryz.prog C (.seq (.region id ops.toArray draw) y) (St.mk T R b) Q := KA (BR := BR) FM (by rw [hC]; exact hN) hB h
theorem AS {id : Nat} {draw : Bool} (hC : C.N = n) (h : ∀ K : St → Prop, (∀ T' R' b', Q .normal (St.mk T' R' (b + 1024)) → K (St.mk T' R' b')) → di Tryz.prog BR ops b 0 ops (St.mk T R b) K) (hN : mY n ops.toArray = true := by kernel_rfl) (hB : (!draw || qs BR ops.toArray) = true := by kernel_rfl) :
    AW Tryz.prog C (.region id ops.toArray draw) (St.mk T R b) Q := wy (BR := BR) FM (by rw [hC]; exact hN) hB h
theorem AJ {id : Nat} {draw : Bool} {y : Code} (J : St → Prop) (hC : C.N = n) (h : ∀ K : St → Prop, (∀ T' R' b', aM C J (St.mk T' R' b') → K (St.mk T' R' b')) → di Tryz.prog BR ops b 0 ops (St.mk T R b) K) (h2 : ∀ S, J S → AW Tryz.prog C y S Q) (hN : mY n ops.toArray = true := by kernel_rfl) (hB : (!draw || qs BR ops.toArray) = true := by kernel_rfl) :
    AW Tryz.prog C (.seq (.region id ops.toArray draw) y) (St.mk T R b) Q := IR (BR := BR) J FM (by rw [hC]; exact hN) hB h h2
theorem SO {f : FuncId} {fn : Func} {c : Code} {args : List AV} {mem mem' : List Row} {ret : AV} (hf : Tryz.prog.funcs[f]? = some fn) (hb : fn.body = some c) (hn : fn.ntmps = n)
    (h : ∀ C : Ctx, C.N = n → (∀ s, mem.length ≤ s → C.ρ0 s = none) → AW Tryz.prog C c (st0 args mem) (fun e st' => (e = .normal ∨ e = .ret) ∧ xp Tryz.prog fn mem.length ret mem' st')) (hcl : iS Tryz.prog f = true := by kernel_rfl)
    (hl : args.length ≤ n := by simp only [List.length_cons, List.length_nil, Nat.reduceAdd, Nat.reduceLeDiff]) : aU Tryz.prog f args mem ret mem' := Dv hf hb hcl (hn ▸ hl) fun C hN hρ => h C (hN.trans hn) hρ
theorem AB {β : Type} {c : Operand} {x y : Code} {d : Bool} {X Y : Option β} {r : β} (h : br d X Y = some r) (ht : d = true → X = some r → AW Tryz.prog C x st Q) (hf : d = false → Y = some r → AW Tryz.prog C y st Q) (hc : st.ev c = .bool d := by simp only [EV, seval]) :
    AW Tryz.prog C (.cond c x y) st Q := ah hc (brK h ht hf)
theorem AK {c : Code} (h : AW Tryz.prog C c st Q) : AW Tryz.prog C c st Q := h
theorem EQ {k : Nat} {fn : Func} {ret : AV} {mem' : List Row} (ids : List Nat) (h : Al Tryz.prog st fn.results.toList k ids ret mem' := by simp only [EV, RSS, seval]) (hnd : sW ids = true := by kernel_rfl)
    (hk : upB k (fun j => match ids[j]? with | some i => i == j | none => false) = true := by kernel_rfl) : (Exit.ret = .normal ∨ Exit.ret = .ret) ∧ xp Tryz.prog fn k ret mem' st := cX ids (.inr rfl) hnd hk h
theorem AX {k b' : Nat} (lt : List (Nat × AV)) (lr : List (Nat × Row)) (G : List (Nat × Option Nat)) (fz : List Nat) (hρ : ∀ s, k ≤ s → C.ρ0 s = none) (h : Q .ret ⟨mkT lt, mkR lr, b'⟩)
    (hG : gOK k G fz (lr.map fun x => (x.1, x.2.solid)) = true := by kernel_rfl) (hT : leT (lk G) (fzF fz R) T lt := by simp only [AL, EV, seval]) (hR : leR (lk G) (fzF fz R) R lr := by simp only [AL, EV, seval]) : AW Tryz.prog C .ret ⟨T, R, b⟩ Q :=
  ba (aD (b' := b') G fz hρ hG hT hR) (bW h)
theorem AC {J : St → Prop} {k b' : Nat} {lt : List (Nat × AV)} {lr : List (Nat × Row)} (hJ : J ⟨mkT lt, mkR lr, b'⟩) (G : List (Nat × Option Nat)) (fz : List Nat) (hρ : ∀ s, k ≤ s → C.ρ0 s = none) (hG : gOK k G fz (lr.map fun x => (x.1, x.2.solid)) = true := by kernel_rfl)
    (hT : leT (lk G) (fzF fz R) T lt := by simp only [AL, EV, seval]) (hR : leR (lk G) (fzF fz R) R lr := by simp only [AL, EV, seval]) : aM C J ⟨T, R, b⟩ := aP hJ (aD G fz hρ hG hT hR)
theorem AN {id b' : Nat} {draw : Bool} {y : Code} {T' : Nat → AV} {R' : Nat → Option Row} (hC : C.N = n) (h : AW Tryz.prog C y (St.mk T' R' (b + 1024)) Q) (he : ∀ K : St → Prop, K (St.mk T' R' b') → di Tryz.prog BR ops b 0 ops (St.mk T R b) K := by intro K h; simp only [EV, seval]; exact h) (hN : mY n ops.toArray = true := by kernel_rfl) (hB : (!draw || qs BR ops.toArray) = true := by kernel_rfl) :
    AW Tryz.prog C (.seq (.region id ops.toArray draw) y) (St.mk T R b) Q := AR hC (fun K hK => he K (hK _ _ _ h)) hN hB
theorem CP {BR : Nat → Bool} {i : Nat} {bs : Nat} {l : List Oper} {K : St → Prop} {f : FuncId} {args args' : List AV} {dst : Option Tmp} {ret : AV} {mem' : List Row} (hS : aU Tryz.prog f args' [] ret mem')
    (hK : di Tryz.prog BR ops bs (i + 1) l (({ st with rows := ap st.rows (bs + 16 * i) (mem'.map (Row.ren (mId [] (bs + 16 * i)))) } : St).put dst (fS (mId [] (bs + 16 * i)) ret)) K)
    (ha : cvA (args.map (bq [] fun _ => none)) args' := by simp only [AL, EV, seval]) (hl : mem'.length ≤ 16 := by exact aN rfl) (hs : ∀ j, j < mem'.length → st.rows (bs + 16 * i + j) = none := by exact ab rfl) :
    rC Tryz.prog BR ops bs i l st K f args dst := aj hS ha hl hs hK
theorem AP {id b' : Nat} {draw : Bool} {y : Code} {T' : Nat → AV} {R' : Nat → Option Row} {f : FuncId} {args' : List AV} {ret : AV} {mem' : List Row} (hC : C.N = n) (hS : aU Tryz.prog f args' [] ret mem') (h : AW Tryz.prog C y (St.mk T' R' (b + 1024)) Q) (he : ∀ K : St → Prop, aU Tryz.prog f args' [] ret mem' → K (St.mk T' R' b') → di Tryz.prog BR ops b 0 ops (St.mk T R b) K := by intro K hS h; simp only [EV, seval]; refine CP hS ?_; simp only [EV, seval]; exact h) (hN : mY n ops.toArray = true := by kernel_rfl) (hB : (!draw || qs BR ops.toArray) = true := by kernel_rfl) :
    AW Tryz.prog C (.seq (.region id ops.toArray draw) y) (St.mk T R b) Q := AR hC (fun K hK => he K hS (hK _ _ _ h)) hN hB
theorem gdI {β : Type} {p : Prop} [Decidable p] {k : Option β} {r : β} (h : gd (decide p) k = some r) : p ∧ k = some r := let ⟨a, b⟩ := nI h; ⟨of_decide_eq_true a, b⟩
def SD := aI @List.mem_cons.{0} (aI @List.not_mem_nil.{0} (aI or_false (aI @forall_eq_or_imp.{1} @forall_eq.{1})))
end
def rJ (v1 : Bool) : Option Bool :=
  some v1
def ku (a1 a2 a3 : Int) : Option Bool :=
  bO (br (decide (a2 ≤ a1)) (some (decide (a1 ≤ a3))) (some false)) fun x1 => rJ x1
theorem dD {a1 a2 a3 : Int} {r : Bool} (h : ku a1 a2 a3 = some r) :
    aU Tryz.prog 55 [.int .i64 a1, .int .i64 a2, .int .i64 a3] [] (.bool r) [] := by
 unfold ku at h; refine SO Tryz.func55 rfl Tryz.ntmps55 fun C hN hρ => ?_; simp only [st0, aW, Nat.zero_add, Nat.reduceAdd]; refine AN hN ?_; refine AJ (fun S => ∃ (v1 : Bool), S = ⟨mkT [(6, .bool v1)], mkR [], 64⟩ ∧ rJ v1 = some r) hN ?_ ?_
 ·intro K hK; obtain ⟨x1, hv1, h⟩ := aA h; rcases aR hv1 with ⟨hc1, hv1⟩ | ⟨hc1, hv1⟩
  ·cases hv1; simp only [EV, seval, hc1]; refine hK _ _ _ (show aM _ _ _ from aP ⟨_, rfl, h⟩ (aD [] [] hρ (by kernel_rfl) ?_ ?_)) <;> simp only [AL, EV, seval, hc1]
  ·cases hv1; simp only [EV, seval, hc1]; refine hK _ _ _ (show aM _ _ _ from aP ⟨_, rfl, h⟩ (aD [] [] hρ (by kernel_rfl) ?_ ?_)) <;> simp only [AL, EV, seval, hc1]
 ·rintro S ⟨v1, rfl, h⟩; unfold rJ at h; injection h with h; subst h; exact AX (b' := 64) [(6, .bool v1)] [] [] [] hρ (EQ [])
def oX (v1 : Bool) : Option Bool :=
  some v1
def cH (a1 a2 a3 : Int) : Option Bool :=
  bO (br (decide (a2 ≤ a1)) (some (decide (a1 ≤ a3))) (some false)) fun x1 => oX x1
theorem av {a1 a2 a3 : Int} {r : Bool} (h : cH a1 a2 a3 = some r) :
    aU Tryz.prog 60 [.int .i64 a1, .int .i64 a2, .int .i64 a3] [] (.bool r) [] := by
 unfold cH at h; refine SO Tryz.func60 rfl Tryz.ntmps60 fun C hN hρ => ?_; simp only [st0, aW, Nat.zero_add, Nat.reduceAdd]; refine AN hN ?_; refine AJ (fun S => ∃ (v1 : Bool), S = ⟨mkT [(6, .bool v1)], mkR [], 64⟩ ∧ oX v1 = some r) hN ?_ ?_
 ·intro K hK; obtain ⟨x1, hv1, h⟩ := aA h; rcases aR hv1 with ⟨hc1, hv1⟩ | ⟨hc1, hv1⟩
  ·cases hv1; simp only [EV, seval, hc1]; refine hK _ _ _ (show aM _ _ _ from aP ⟨_, rfl, h⟩ (aD [] [] hρ (by kernel_rfl) ?_ ?_)) <;> simp only [AL, EV, seval, hc1]
  ·cases hv1; simp only [EV, seval, hc1]; refine hK _ _ _ (show aM _ _ _ from aP ⟨_, rfl, h⟩ (aD [] [] hρ (by kernel_rfl) ?_ ?_)) <;> simp only [AL, EV, seval, hc1]
 ·rintro S ⟨v1, rfl, h⟩; unfold oX at h; injection h with h; subst h; exact AX (b' := 64) [(6, .bool v1)] [] [] [] hρ (EQ [])
def jj (a1 : Int) : Option Int :=
  bO (cH a1 1 8) fun x1 => br x1 (some 1) (bO (cH a1 9 11) fun x2 => br x2 (some 2) (br (a1 == 12) (some 3) (some 0)))
theorem jW {a1 r : Int} (h : jj a1 = some r) :
    aU Tryz.prog 76 [.int .i64 a1] [] (.int .i64 r) [] := by
 unfold jj at h; refine SO Tryz.func76 rfl Tryz.ntmps76 fun C hN hρ => ?_; simp only [st0, aW, Nat.zero_add, Nat.reduceAdd]; refine AN hN ?_; refine aH ?_; refine aJ ?_; obtain ⟨x1, h1, h⟩ := aA h; refine AP hN (av h1) ?_; refine AB h (fun hc1 h => ?_) fun hc1 h => ?_
 ·refine AN hN ?_; injection h with h; subst h; exact AX (b' := 64) [(2, .int .i64 1)] [] [] [] hρ (EQ [])
 ·obtain ⟨x2, h2, h⟩ := aA h; refine AP hN (av h2) ?_; refine AB h (fun hc2 h => ?_) fun hc2 h => ?_
  ·refine AN hN ?_; injection h with h; subst h; exact AX (b' := 64) [(2, .int .i64 2)] [] [] [] hρ (EQ [])
  ·refine AN hN ?_; refine AB h (fun hc3 h => ?_) fun hc3 h => ?_
   ·refine AN hN ?_; injection h with h; subst h; exact AX (b' := 64) [(2, .int .i64 3)] [] [] [] hρ (EQ [])
   ·refine aE (AK ?_); refine AN hN ?_; injection h with h; subst h; exact AX (b' := 64) [(2, .int .i64 0)] [] [] [] hρ (EQ [])
def fy (a1 a2 a3 a4 : Int) : Option (List Int) :=
  bO (jj a1) fun x1 => bO (slc ([a2, a3, a4]) 0 x1) fun l1 => gd (decide (([] : List Int).length + l1.length ≤ 16777216)) (some l1)
theorem na {a1 a2 a3 a4 : Int} {r : List Int} (h : fy a1 a2 a3 a4 = some r) :
    aU Tryz.prog 116 [.agg [.int .i64 a1, .int .i64 a2, .int .i64 a3, .int .i64 a4]] [] (.own 0 r.length) [.row 3 1 (aB EI r)] := by
 unfold fy at h; refine SO Tryz.func116 rfl Tryz.ntmps116 fun C hN hρ => ?_; simp only [st0, aW, Nat.zero_add, Nat.reduceAdd]; refine AN hN ?_; refine AN hN ?_; refine AR hN fun K hK => ?_; obtain ⟨x1, h1, h⟩ := aA h; simp only [EV, seval]; refine CP (jW h1) ?_; obtain ⟨l1, h2, h⟩ := aA h; obtain ⟨⟨h3a, h3b, h3c⟩, h3d, h3e⟩ := t8 EIl h2; (try simp only [EV, seval] at h3d); (try simp only [EV, seval] at h3e); (try simp only [EV, seval] at h3a); (try simp only [EV, seval] at h3b); (try simp only [EV, seval] at h3c); obtain ⟨h4, h⟩ := gdI h; (try simp only [EV, seval] at h4); have h5 := iY EIl l1; simp only [EV, seval, h3a, h3b, h3c, h3d, h3e, h4, h5]; apply hK; clear hK K; injection h with h; subst h; refine ba (aD (lt := [(2, .own 32 l1.length)]) (lr := [(32, .row 3 1 (aB EI l1))]) (b' := 64) [(32, some 2208)] [] hρ (by kernel_rfl) ?_ ?_) (bW (cX [32] (.inr rfl) (by kernel_rfl) (by kernel_rfl) ?_))
 ·simp only [AL, EV, seval, h3a, h3b, h3c, h3d, h3e, h4, h5]
 ·simp only [AL, EV, seval, h3a, h3b, h3c, h3d, h3e, h4, h5]
 ·simp only [EV, Tryz.results116, seval]
def mL : Option Bool :=
  some false
def gh (a1 : List Int) (a2 : Int) : Nat → Int → Option Bool
  | 0, _ => none
  | n1 + 1, v2 =>
  br (decide (v2 < ((a1.length : Int)))) (bO (ak a1 v2) fun q3 => br (q3 == a2) (some true) ((gh a1 a2 n1) (IntKind.wrap .i64 (v2 + 1)))) (mL)
def lX (a1 : List Int) (a2 : Int) : Option Bool :=
  gh a1 a2 FU 0
theorem mM {a1 : List Int} {a2 : Int} {r : Bool} (h : lX a1 a2 = some r) :
    aU Tryz.prog 117 [.sl (aB EI a1) a1.length, .int .i64 a2] [] (.bool r) [] := by
 unfold lX at h; refine SO Tryz.func117 rfl Tryz.ntmps117 fun C hN hρ => ?_; simp only [st0, aW, Nat.zero_add, Nat.reduceAdd]; refine AN hN ?_; refine aQ (fun S => S = ⟨mkT [], mkR [], 64⟩ ∧ mL = some r) ?_ ?_
 ·refine AN hN ?_; refine aJ ?_; refine aX (fun n S => ∃ (v2 : Int), S = ⟨mkT [(0, .sl (aB EI a1) a1.length), (1, .int .i64 a2), (5, .int .i64 v2)], mkR [], 64⟩ ∧ gh a1 a2 n v2 = some r) FU ?_ ?_ ?_
  ·exact AC ⟨_, rfl, h⟩ [] [] hρ
  ·rintro S ⟨_, _, h⟩; rw [gh] at h; cases h
  ·rintro n1 S ⟨v2, rfl, h⟩; rw [gh] at h; refine aH ?_; refine AN hN ?_; refine AB h (fun hc5 h => ?_) fun hc5 h => ?_
   ·refine aE (AK ?_); refine aH ?_; refine aJ ?_; refine AR hN fun K hK => ?_; obtain ⟨q3, h5, h⟩ := aA h; obtain ⟨⟨h6a, h6b⟩, h6c⟩ := aY EIl h5; (try simp only [EV, seval] at h6c); simp only [EV, seval, h6a, h6b, h6c]; apply hK; clear hK K; refine ah (a := .bool (q3 == a2)) (by simp only [EV, seval, h6a, h6b, h6c]) (brK h (fun hc6 h => ?_) (fun hc6 h => ?_))
    ·refine AN hN ?_; injection h with h; subst h; exact AX (b' := 64) [(4, .bool true)] [] [] [] hρ (EQ [])
    ·refine aE (AK ?_); refine AS hN fun K hK => ?_; simp only [EV, seval]; exact hK _ _ _ (AC ⟨_, rfl, h⟩ [] [] hρ)
   ·exact aa (AC ⟨rfl, h⟩ [] [] hρ)
 ·rintro S ⟨rfl, h⟩; unfold mL at h; refine AN hN ?_; injection h with h; subst h; exact AX (b' := 64) [(4, .bool false)] [] [] [] hρ (EQ [])
def eQ (v6 : List Int) (v7 : Int) (kl1 : (List Int) → Int → Option Bool) (v8 : Bool) : Option Bool :=
  br v8 (some false) (kl1 v6 (IntKind.wrap .i64 (v7 + 1)))
def bX (v9 : Bool) : Option Bool :=
  some v9
def bY (a5 : Int) (x1 : List Int) : Option Bool :=
  bO (br (decide (0 < ((x1.length : Int)))) (bO (cH a5 1 4) fun x42 => some x42) (some false)) fun x43 => bX x43
def b7 (a5 : Int) (x1 : List Int) : Nat → (List Int) → Int → Option Bool
  | 0, _, _ => none
  | n1 + 1, v6, v7 =>
  br (decide (v7 < 3)) (bO (br (decide (((x1.length : Int)) ≤ v7)) (bO (ak v6 v7) fun q5 => some (q5 != 0)) (some false)) fun x14 => bO (br x14 (some true) (bO (br (decide (v7 < ((x1.length : Int)))) (bO (ak v6 v7) fun q6 => bO (cH q6 0 (IntKind.wrap .i64 (a5 - 1))) fun x15 => bO (br (!x15) (some true) (bO (slc x1 0 v7) fun l4 => bO (lX l4 q6) fun x16 => some x16)) fun x17 => some x17) (some false)) fun x18 => some x18)) fun x19 => eQ v6 v7 (b7 a5 x1 n1) x19) (bY a5 x1)
def du (a1 a2 a3 a4 a5 : Int) : Option Bool :=
  bO (fy a1 a2 a3 a4) fun x1 => b7 a5 x1 FU ([a2, a3, a4]) 0
theorem jX {a1 a2 a3 a4 a5 : Int} {r : Bool} (h : du a1 a2 a3 a4 a5 = some r) :
    aU Tryz.prog 91 [.agg [.int .i64 a1, .int .i64 a2, .int .i64 a3, .int .i64 a4], .int .i64 a5] [] (.bool r) [] := by
 unfold du at h; refine SO Tryz.func91 rfl Tryz.ntmps91 fun C hN hρ => ?_; simp only [st0, aW, Nat.zero_add, Nat.reduceAdd]; refine AN hN ?_; refine AR hN fun K hK => ?_; obtain ⟨x1, h1, h⟩ := aA h; simp only [EV, seval]; refine aj (na h1) (by simp only [AL, EV, seval]) (aN rfl) (ao (by simp only [EV, seval])) ?_; simp only [EV, seval]; apply hK; clear hK K; refine AN hN ?_; refine aQ (fun S => S = ⟨mkT [(1, .int .i64 a5), (5, .sl (aB EI x1) x1.length)], mkR [], 64⟩ ∧ bY a5 x1 = some r) ?_ ?_
 ·refine AN hN ?_; refine aJ ?_; refine aX (fun n S => ∃ (v6 : List Int) (v7 : Int), S = ⟨mkT [(1, .int .i64 a5), (5, .sl (aB EI x1) x1.length), (6, .sl (aB EI v6) v6.length), (7, .int .i64 v7)], mkR [], 64⟩ ∧ b7 a5 x1 n v6 v7 = some r) FU ?_ ?_ ?_
  ·exact AC ⟨_, _, rfl, h⟩ [] [1104] hρ
  ·rintro S ⟨_, _, _, h⟩; rw [b7] at h; cases h
  ·rintro n1 S ⟨v6, v7, rfl, h⟩; rw [b7] at h; refine aH ?_; refine AN hN ?_; refine AB h (fun hc13 h => ?_) fun hc13 h => ?_
   ·refine aE (AK ?_); refine aH ?_; refine aJ ?_; refine AJ (fun S => ∃ (v8 : Bool), S = ⟨mkT [(1, .int .i64 a5), (5, .sl (aB EI x1) x1.length), (6, .sl (aB EI v6) v6.length), (7, .int .i64 v7), (57, .bool v8)], mkR [], 64⟩ ∧ eQ v6 v7 (b7 a5 x1 n1) v8 = some r) hN ?_ ?_
    ·intro K hK; obtain ⟨x14, hv9, h⟩ := aA h; rcases aR hv9 with ⟨hc14, hv9⟩ | ⟨hc14, hv9⟩
     ·obtain ⟨q7, h26, hv9⟩ := aA hv9; obtain ⟨⟨h27a, h27b⟩, h27c⟩ := aY EIl h26; (try simp only [EV, seval] at h27c); cases hv9; obtain ⟨x24, hv13, h⟩ := aA h; rcases aR hv13 with ⟨hc18, hv13⟩ | ⟨hc18, hv13⟩
      ·cases hv13; simp only [EV, seval, hc14, h27a, h27b, h27c, hc18]; refine hK _ _ _ (show aM _ _ _ from aP ⟨_, rfl, h⟩ (aD [] [] hρ (by kernel_rfl) ?_ ?_)) <;> simp only [AL, EV, seval, hc14, h27a, h27b, h27c, hc18]
      ·obtain ⟨x28, hv16, hv13⟩ := aA hv13; rcases aR hv16 with ⟨hc21, hv16⟩ | ⟨hc21, hv16⟩
       ·obtain ⟨q10, h40, hv16⟩ := aA hv16; obtain rfl : q7 = q10 := Option.some.inj (h26.symm.trans h40); obtain ⟨x29, h41, hv16⟩ := aA hv16; simp only [EV, seval, hc14, h27a, h27b, h27c, hc18, hc21]; refine aj (av h41) (by simp only [AL, EV, seval, hc14, h27a, h27b, h27c, hc18, hc21]) (aN rfl) (ab rfl) ?_; obtain ⟨x31, hv18, hv16⟩ := aA hv16; rcases aR hv18 with ⟨hc23, hv18⟩ | ⟨hc23, hv18⟩
        ·cases hv18; cases hv16; cases hv13; simp only [EV, seval, hc14, h27a, h27b, h27c, hc18, hc21, hc23]; refine hK _ _ _ (show aM _ _ _ from aP ⟨_, rfl, h⟩ (aD [] [] hρ (by kernel_rfl) ?_ ?_)) <;> simp only [AL, EV, seval, hc14, h27a, h27b, h27c, hc18, hc21, hc23]
        ·obtain ⟨l8, h45, hv18⟩ := aA hv18; obtain ⟨⟨h46a, h46b, h46c⟩, h46d, h46e⟩ := t8 EIl h45; (try simp only [EV, seval] at h46d); (try simp only [EV, seval] at h46e); (try simp only [EV, seval] at h46a); (try simp only [EV, seval] at h46b); (try simp only [EV, seval] at h46c); obtain ⟨x32, h47, hv18⟩ := aA hv18; simp only [EV, seval, hc14, h27a, h27b, h27c, hc18, hc21, hc23, h46a, h46b, h46c, h46d, h46e]; refine aj (mM h47) (by simp only [AL, EV, seval, hc14, h27a, h27b, h27c, hc18, hc21, hc23, h46a, h46b, h46c, h46d, h46e]) (aN rfl) (ab rfl) ?_; cases hv18; cases hv16; cases hv13; simp only [EV, seval, hc14, h27a, h27b, h27c, hc18, hc21, hc23, h46a, h46b, h46c, h46d, h46e]; refine hK _ _ _ (show aM _ _ _ from aP ⟨_, rfl, h⟩ (aD [] [] hρ (by kernel_rfl) ?_ ?_)) <;> simp only [AL, EV, seval, hc14, h27a, h27b, h27c, hc18, hc21, hc23, h46a, h46b, h46c, h46d, h46e]
       ·cases hv16; cases hv13; simp only [EV, seval, hc14, h27a, h27b, h27c, hc18, hc21]; refine hK _ _ _ (show aM _ _ _ from aP ⟨_, rfl, h⟩ (aD [] [] hρ (by kernel_rfl) ?_ ?_)) <;> simp only [AL, EV, seval, hc14, h27a, h27b, h27c, hc18, hc21]
     ·cases hv9; obtain ⟨x33, hv19, h⟩ := aA h; replace hv19 := kU hv19; obtain ⟨x37, hv20, hv19⟩ := aA hv19; rcases aR hv20 with ⟨hc24, hv20⟩ | ⟨hc24, hv20⟩
      ·obtain ⟨q12, h54, hv20⟩ := aA hv20; obtain ⟨⟨h55a, h55b⟩, h55c⟩ := aY EIl h54; (try simp only [EV, seval] at h55c); obtain ⟨x38, h56, hv20⟩ := aA hv20; simp only [EV, seval, hc14, hc24, h55a, h55b, h55c]; refine aj (av h56) (by simp only [AL, EV, seval, hc14, hc24, h55a, h55b, h55c]) (aN rfl) (ab rfl) ?_; obtain ⟨x40, hv22, hv20⟩ := aA hv20; rcases aR hv22 with ⟨hc26, hv22⟩ | ⟨hc26, hv22⟩
       ·cases hv22; cases hv20; cases hv19; (try dsimp only at h); simp only [EV, seval, hc14, hc24, h55a, h55b, h55c, hc26]; refine hK _ _ _ (show aM _ _ _ from aP ⟨_, rfl, h⟩ (aD [] [] hρ (by kernel_rfl) ?_ ?_)) <;> simp only [AL, EV, seval, hc14, hc24, h55a, h55b, h55c, hc26]
       ·obtain ⟨l11, h60, hv22⟩ := aA hv22; obtain ⟨⟨h61a, h61b, h61c⟩, h61d, h61e⟩ := t8 EIl h60; (try simp only [EV, seval] at h61d); (try simp only [EV, seval] at h61e); (try simp only [EV, seval] at h61a); (try simp only [EV, seval] at h61b); (try simp only [EV, seval] at h61c); obtain ⟨x41, h62, hv22⟩ := aA hv22; simp only [EV, seval, hc14, hc24, h55a, h55b, h55c, hc26, h61a, h61b, h61c, h61d, h61e]; refine aj (mM h62) (by simp only [AL, EV, seval, hc14, hc24, h55a, h55b, h55c, hc26, h61a, h61b, h61c, h61d, h61e]) (aN rfl) (ab rfl) ?_; cases hv22; cases hv20; cases hv19; (try dsimp only at h); simp only [EV, seval, hc14, hc24, h55a, h55b, h55c, hc26, h61a, h61b, h61c, h61d, h61e]; refine hK _ _ _ (show aM _ _ _ from aP ⟨_, rfl, h⟩ (aD [] [] hρ (by kernel_rfl) ?_ ?_)) <;> simp only [AL, EV, seval, hc14, hc24, h55a, h55b, h55c, hc26, h61a, h61b, h61c, h61d, h61e]
      ·cases hv20; cases hv19; (try dsimp only at h); simp only [EV, seval, hc14, hc24]; refine hK _ _ _ (show aM _ _ _ from aP ⟨_, rfl, h⟩ (aD [] [] hρ (by kernel_rfl) ?_ ?_)) <;> simp only [AL, EV, seval, hc14, hc24]
    ·rintro S ⟨v8, rfl, h⟩; unfold eQ at h; refine AB h (fun hc27 h => ?_) fun hc27 h => ?_
     ·refine AN hN ?_; injection h with h; subst h; exact AX (b' := 64) [(4, .bool false)] [] [] [] hρ (EQ [])
     ·refine aE (AK ?_); refine AS hN fun K hK => ?_; simp only [EV, seval]; exact hK _ _ _ (AC ⟨_, _, rfl, h⟩ [] [] hρ)
   ·exact aa (AC ⟨rfl, h⟩ [] [] hρ)
 ·rintro S ⟨rfl, h⟩; unfold bY at h; refine AJ (fun S => ∃ (v9 : Bool), S = ⟨mkT [(4, .bool v9)], mkR [], 64⟩ ∧ bX v9 = some r) hN ?_ ?_
  ·intro K hK; obtain ⟨x43, hv23, h⟩ := aA h; rcases aR hv23 with ⟨hc28, hv23⟩ | ⟨hc28, hv23⟩
   ·obtain ⟨x44, h64, hv23⟩ := aA hv23; simp only [EV, seval, hc28]; refine aj (av h64) (by simp only [AL, EV, seval, hc28]) (aN rfl) (ab rfl) ?_; cases hv23; simp only [EV, seval, hc28]; refine hK _ _ _ (show aM _ _ _ from aP ⟨_, rfl, h⟩ (aD [] [] hρ (by kernel_rfl) ?_ ?_)) <;> simp only [AL, EV, seval, hc28]
   ·cases hv23; simp only [EV, seval, hc28]; refine hK _ _ _ (show aM _ _ _ from aP ⟨_, rfl, h⟩ (aD [] [] hρ (by kernel_rfl) ?_ ?_)) <;> simp only [AL, EV, seval, hc28]
  ·rintro S ⟨v9, rfl, h⟩; unfold bX at h; injection h with h; subst h; exact AX (b' := 64) [(4, .bool v9)] [] [] [] hρ (EQ [])
def nO (a1 : List Int) (v9 : Int) : Option (List Int × Int × Int) :=
  some (a1, 0, v9)
def lY (a1 : List Int) (v6 v7 : Int) (kl1 : Int → Int → Option (List Int × Int × Int)) (v8 : Bool) : Option (List Int × Int × Int) :=
  br v8 (bO (ak a1 v7) fun q3 => kl1 (bits .and .i64 (IntKind.wrap .i64 ((IntKind.wrap .i64 ((IntKind.wrap .i64 (v6 * 131)) + (IntKind.wrap .i64 q3))) + 7)) 1073741823) (IntKind.wrap .i64 (v7 + 1))) (nO a1 v6)
def fZ (a1 : List Int) : Nat → Int → Int → Option (List Int × Int × Int)
  | 0, _, _ => none
  | n1 + 1, v6, v7 =>
  bO (br (decide (v7 < ((a1.length : Int)))) (some (decide (v7 < 4000))) (some false)) fun x3 => lY a1 v6 v7 (fZ a1 n1) x3
def pr (a1 : List Int) : Option (List Int × Int × Int) :=
  fZ a1 FU (IntKind.wrap .i64 (28729 + ((a1.length : Int)))) 0
theorem wJ {a1 : List Int} {r : List Int × Int × Int} (h : pr a1 = some r) :
    aU Tryz.prog 18 [.sl (aB EB a1) a1.length] [] (.ptr 0 0) [.box 68 [.sl (aB EB r.1) r.1.length, .int .i64 r.2.1, .int .i64 r.2.2]] := by
 unfold pr at h; refine SO Tryz.func18 rfl Tryz.ntmps18 fun C hN hρ => ?_; simp only [st0, aW, Nat.zero_add, Nat.reduceAdd]; refine AN hN ?_; refine AN hN ?_; refine aQ (fun S => ∃ (v9 : Int), S = ⟨mkT [(0, .sl (aB EB a1) a1.length), (3, .int .i64 v9)], mkR [], 64⟩ ∧ nO a1 v9 = some r) ?_ ?_
 ·refine AN hN ?_; refine aJ ?_; refine aX (fun n S => ∃ (v6 v7 : Int), S = ⟨mkT [(0, .sl (aB EB a1) a1.length), (3, .int .i64 v6), (4, .int .i64 v7)], mkR [], 64⟩ ∧ fZ a1 n v6 v7 = some r) FU ?_ ?_ ?_
  ·exact AC ⟨_, _, rfl, h⟩ [] [] hρ
  ·rintro S ⟨_, _, _, h⟩; rw [fZ] at h; cases h
  ·rintro n1 S ⟨v6, v7, rfl, h⟩; rw [fZ] at h; refine aH ?_; refine AJ (fun S => ∃ (v8 : Bool), S = ⟨mkT [(0, .sl (aB EB a1) a1.length), (3, .int .i64 v6), (4, .int .i64 v7), (15, .bool v8)], mkR [], 64⟩ ∧ lY a1 v6 v7 (fZ a1 n1) v8 = some r) hN ?_ ?_
   ·intro K hK; obtain ⟨x3, hv3, h⟩ := aA h; rcases aR hv3 with ⟨hc5, hv3⟩ | ⟨hc5, hv3⟩
    ·cases hv3; simp only [EV, seval, hc5]; refine hK _ _ _ (show aM _ _ _ from aP ⟨_, rfl, h⟩ (aD [] [] hρ (by kernel_rfl) ?_ ?_)) <;> simp only [AL, EV, seval, hc5]
    ·cases hv3; simp only [EV, seval, hc5]; refine hK _ _ _ (show aM _ _ _ from aP ⟨_, rfl, h⟩ (aD [] [] hρ (by kernel_rfl) ?_ ?_)) <;> simp only [AL, EV, seval, hc5]
   ·rintro S ⟨v8, rfl, h⟩; unfold lY at h; refine AB h (fun hc6 h => ?_) fun hc6 h => ?_
    ·refine aE (AK ?_); refine aH ?_; refine aJ ?_; refine AS hN fun K hK => ?_; obtain ⟨q3, h5, h⟩ := aA h; obtain ⟨⟨h6a, h6b⟩, h6c⟩ := aY EBl h5; (try simp only [EV, seval] at h6c); simp only [EV, seval, h6a, h6b, h6c]; refine hK _ _ _ (show AW _ _ _ _ _ from ?_); refine AS hN fun K hK => ?_; simp only [EV, seval]; exact hK _ _ _ (AC ⟨_, _, rfl, h⟩ [] [] hρ)
    ·exact aa (AC ⟨_, rfl, h⟩ [] [] hρ)
 ·rintro S ⟨v9, rfl, h⟩; unfold nO at h; refine AN hN ?_; injection h with h; subst h; exact AX (b' := 64) [(2, .ptr 32 0)] [(32, .box 68 [.sl (aB EB a1) a1.length, .int .i64 0, .int .i64 v9])] [(32, some 112)] [] hρ (EQ [32])
def iE (a1 : List Int) (v1 v2 v3 : Int) : Option (Int × List Int × Int × Int) :=
  some (v3, a1, v1, v2)
def iZ (a1 : List Int) (a2 a3 : Int) : Option (Int × List Int × Int × Int) :=
  br (decide (a2 < ((a1.length : Int)))) (bO (ak a1 a2) fun q1 => iE a1 (IntKind.wrap .i64 (a2 + 1)) (IntKind.wrap .i64 ((IntKind.wrap .i64 (a3 * 6364136223846793005)) + 1442695040888963407)) (bits .and .i64 (IntKind.wrap .i64 ((bits .and .i64 (bits .xor .i64 (Int.fdiv (IntKind.wrap .i64 ((IntKind.wrap .i64 (a3 * 6364136223846793005)) + 1442695040888963407)) (2 ^ min (Int.toNat 33) (IntKind.bits .i64))) (Int.fdiv (IntKind.wrap .i64 ((IntKind.wrap .i64 (a3 * 6364136223846793005)) + 1442695040888963407)) (2 ^ min (Int.toNat 45) (IntKind.bits .i64)))) 255) + (IntKind.wrap .i64 q1))) 255)) (iE a1 a2 (IntKind.wrap .i64 ((IntKind.wrap .i64 (a3 * 6364136223846793005)) + 1442695040888963407)) (bits .and .i64 (bits .xor .i64 (Int.fdiv (IntKind.wrap .i64 ((IntKind.wrap .i64 (a3 * 6364136223846793005)) + 1442695040888963407)) (2 ^ min (Int.toNat 33) (IntKind.bits .i64))) (Int.fdiv (IntKind.wrap .i64 ((IntKind.wrap .i64 (a3 * 6364136223846793005)) + 1442695040888963407)) (2 ^ min (Int.toNat 45) (IntKind.bits .i64)))) 255))
theorem kB {a1 : List Int} {a2 a3 : Int} {r : Int × List Int × Int × Int} (h : iZ a1 a2 a3 = some r) :
    aU Tryz.prog 71 [.ptr 0 0] [.box 68 [.sl (aB EB a1) a1.length, .int .i64 a2, .int .i64 a3]] (.int .i64 r.1) [.box 68 [.sl (aB EB r.2.1) r.2.1.length, .int .i64 r.2.2.1, .int .i64 r.2.2.2]] := by
 unfold iZ at h; refine SO Tryz.func71 rfl Tryz.ntmps71 fun C hN hρ => ?_; simp only [st0, aW, Nat.zero_add, Nat.reduceAdd]; refine AN hN ?_; refine AN hN ?_; refine AN hN ?_; refine aQ (fun S => ∃ (v1 v2 v3 : Int), S = ⟨mkT [(3, .int .i64 v3)], mkR [(0, .box 68 [.sl (aB EB a1) a1.length, .int .i64 v1, .int .i64 v2])], 64⟩ ∧ iE a1 v1 v2 v3 = some r) ?_ ?_
 ·refine AN hN ?_; refine AB h (fun hc1 h => ?_) fun hc1 h => ?_
  ·refine AR hN fun K hK => ?_; obtain ⟨q1, h1, h⟩ := aA h; obtain ⟨⟨h2a, h2b⟩, h2c⟩ := aY EBl h1; (try simp only [EV, seval] at h2c); simp only [EV, seval, h2a, h2b, h2c]; apply hK; clear hK K; refine AS hN fun K hK => ?_; simp only [EV, seval]; exact hK _ _ _ (AC ⟨_, _, _, rfl, h⟩ [(0, some 0)] [] hρ)
  ·refine aE (show aM _ _ _ from aP ⟨_, _, _, rfl, h⟩ (aD [(0, some 0)] [] hρ (by kernel_rfl) ?_ ?_)) <;> simp only [AL, EV, seval]
 ·rintro S ⟨v1, v2, v3, rfl, h⟩; unfold iE at h; refine AN hN ?_; injection h with h; subst h; exact AX (b' := 64) [(2, .int .i64 v3)] [(0, .box 68 [.sl (aB EB a1) a1.length, .int .i64 v1, .int .i64 v2])] [(0, some 0)] [] hρ (EQ [0])
def b9 (a1 : List Int) (a2 a3 a4 : Int) : Option (Int × List Int × Int × Int) :=
  br (decide (a4 ≤ 0)) (some (0, a1, a2, a3)) (br (decide (a4 ≤ 256)) (bO (iZ a1 a2 a3) fun x1 => gd (decide (a4 ≠ 0)) (some (Int.tmod x1.1 a4, x1.2.1, x1.2.2.1, x1.2.2.2))) (bO (iZ a1 a2 a3) fun x2 => bO (iZ x2.2.1 x2.2.2.1 x2.2.2.2) fun x3 => bO (iZ x3.2.1 x3.2.2.1 x3.2.2.2) fun x4 => bO (iZ x4.2.1 x4.2.2.1 x4.2.2.2) fun x5 => gd (decide (a4 ≠ 0)) (some (Int.tmod (IntKind.wrap .i64 ((IntKind.wrap .i64 ((IntKind.wrap .i64 ((IntKind.wrap .i64 (x2.1 * 16777216)) + (IntKind.wrap .i64 (x3.1 * 65536)))) + (IntKind.wrap .i64 (x4.1 * 256)))) + x5.1)) a4, x5.2.1, x5.2.2.1, x5.2.2.2))))
theorem aq {a1 : List Int} {a2 a3 a4 : Int} {r : Int × List Int × Int × Int} (h : b9 a1 a2 a3 a4 = some r) :
    aU Tryz.prog 47 [.ptr 0 0, .int .i64 a4] [.box 68 [.sl (aB EB a1) a1.length, .int .i64 a2, .int .i64 a3]] (.int .i64 r.1) [.box 68 [.sl (aB EB r.2.1) r.2.1.length, .int .i64 r.2.2.1, .int .i64 r.2.2.2]] := by
 unfold b9 at h; refine SO Tryz.func47 rfl Tryz.ntmps47 fun C hN hρ => ?_; simp only [st0, aW, Nat.zero_add, Nat.reduceAdd]; refine AN hN ?_; refine aH ?_; refine AN hN ?_; refine AB h (fun hc1 h => ?_) fun hc1 h => ?_
 ·refine AN hN ?_; injection h with h; subst h; exact AX (b' := 64) [(4, .int .i64 0)] [(0, .box 68 [.sl (aB EB a1) a1.length, .int .i64 a2, .int .i64 a3])] [(0, some 0)] [] hρ (EQ [0])
 ·refine aE (AK ?_); refine aH ?_; refine AN hN ?_; refine AB h (fun hc2 h => ?_) fun hc2 h => ?_
  ·refine AR hN fun K hK => ?_; obtain ⟨x1, h1, h⟩ := aA h; simp only [EV, seval]; refine cJ [0] (kB h1) (by simp only [AL, EV, seval]) (by simp only [AL, EV, seval]) (by kernel_rfl) (by simp only [EV, aZ, SD, seval]) (aN rfl) (aN rfl) (ab rfl) ?_; obtain ⟨h2, h⟩ := gdI h; simp only [EV, seval, h2]; apply hK; clear hK K; injection h with h; subst h; refine ba (aD (lt := [(4, .int .i64 (Int.tmod x1.1 a4))]) (lr := [(0, .box 68 [.sl (aB EB x1.2.1) x1.2.1.length, .int .i64 x1.2.2.1, .int .i64 x1.2.2.2])]) (b' := 64) [(0, some 0)] [] hρ (by kernel_rfl) ?_ ?_) (bW (cX [0] (.inr rfl) (by kernel_rfl) (by kernel_rfl) ?_))
   ·simp only [AL, EV, seval, h2]
   ·simp only [AL, EV, seval, h2]
   ·simp only [EV, Tryz.results47, seval]
  ·refine aE (AK ?_); refine AR hN fun K hK => ?_; obtain ⟨x2, h3, h⟩ := aA h; simp only [EV, seval]; refine cJ [0] (kB h3) (by simp only [AL, EV, seval]) (by simp only [AL, EV, seval]) (by kernel_rfl) (by simp only [EV, aZ, SD, seval]) (aN rfl) (aN rfl) (ab rfl) ?_; simp only [EV, seval]; apply hK; clear hK K; refine AR hN fun K hK => ?_; obtain ⟨x3, h4, h⟩ := aA h; simp only [EV, seval]; refine cJ [0] (kB h4) (by simp only [AL, EV, seval]) (by simp only [AL, EV, seval]) (by kernel_rfl) (by simp only [EV, aZ, SD, seval]) (aN rfl) (aN rfl) (ab rfl) ?_; simp only [EV, seval]; apply hK; clear hK K; refine AR hN fun K hK => ?_; obtain ⟨x4, h5, h⟩ := aA h; simp only [EV, seval]; refine cJ [0] (kB h5) (by simp only [AL, EV, seval]) (by simp only [AL, EV, seval]) (by kernel_rfl) (by simp only [EV, aZ, SD, seval]) (aN rfl) (aN rfl) (ab rfl) ?_; simp only [EV, seval]; apply hK; clear hK K; refine AR hN fun K hK => ?_; obtain ⟨x5, h6, h⟩ := aA h; simp only [EV, seval]; refine cJ [0] (kB h6) (by simp only [AL, EV, seval]) (by simp only [AL, EV, seval]) (by kernel_rfl) (by simp only [EV, aZ, SD, seval]) (aN rfl) (aN rfl) (ab rfl) ?_; simp only [EV, seval]; apply hK; clear hK K; refine AR hN fun K hK => ?_; obtain ⟨h7, h⟩ := gdI h; simp only [EV, seval, h7]; apply hK; clear hK K; injection h with h; subst h; refine ba (aD (lt := [(4, .int .i64 (Int.tmod (IntKind.wrap .i64 ((IntKind.wrap .i64 ((IntKind.wrap .i64 ((IntKind.wrap .i64 (x2.1 * 16777216)) + (IntKind.wrap .i64 (x3.1 * 65536)))) + (IntKind.wrap .i64 (x4.1 * 256)))) + x5.1)) a4))]) (lr := [(0, .box 68 [.sl (aB EB x5.2.1) x5.2.1.length, .int .i64 x5.2.2.1, .int .i64 x5.2.2.2])]) (b' := 64) [(0, some 0)] [] hρ (by kernel_rfl) ?_ ?_) (bW (cX [0] (.inr rfl) (by kernel_rfl) (by kernel_rfl) ?_))
   ·simp only [AL, EV, seval, h7]
   ·simp only [AL, EV, seval, h7]
   ·simp only [EV, Tryz.results47, seval]
def dF (a1 : List Int) (a2 a3 a4 : Int) : Option (Bool × List Int × Int × Int) :=
  bO (b9 a1 a2 a3 a4) fun x1 => some (x1.1 == 0, x1.2.1, x1.2.2.1, x1.2.2.2)
theorem dQ {a1 : List Int} {a2 a3 a4 : Int} {r : Bool × List Int × Int × Int} (h : dF a1 a2 a3 a4 = some r) :
    aU Tryz.prog 26 [.ptr 0 0, .int .i64 a4] [.box 68 [.sl (aB EB a1) a1.length, .int .i64 a2, .int .i64 a3]] (.bool r.1) [.box 68 [.sl (aB EB r.2.1) r.2.1.length, .int .i64 r.2.2.1, .int .i64 r.2.2.2]] := by
 unfold dF at h; refine SO Tryz.func26 rfl Tryz.ntmps26 fun C hN hρ => ?_; simp only [st0, aW, Nat.zero_add, Nat.reduceAdd]; refine AN hN ?_; refine AR hN fun K hK => ?_; obtain ⟨x1, h1, h⟩ := aA h; simp only [EV, seval]; refine cJ [0] (aq h1) (by simp only [AL, EV, seval]) (by simp only [AL, EV, seval]) (by kernel_rfl) (by simp only [EV, aZ, SD, seval]) (aN rfl) (aN rfl) (ab rfl) ?_; simp only [EV, seval]; apply hK; clear hK K; injection h with h; subst h; exact AX (b' := 64) [(4, .bool (x1.1 == 0))] [(0, .box 68 [.sl (aB EB x1.2.1) x1.2.1.length, .int .i64 x1.2.2.1, .int .i64 x1.2.2.2])] [(0, some 0)] [] hρ (EQ [0])
def fa (a1 : List Int) (a2 a3 : Int) (a4 : List Int) : Option (Int × List Int × Int × Int) :=
  bO (b9 a1 a2 a3 ((a4.length : Int))) fun x1 => bO (ak a4 x1.1) fun q1 => some (q1, x1.2.1, x1.2.2.1, x1.2.2.2)
theorem ia {a1 : List Int} {a2 a3 : Int} {a4 : List Int} {r : Int × List Int × Int × Int} (h : fa a1 a2 a3 a4 = some r) :
    aU Tryz.prog 54 [.ptr 0 0, .sl (aB EI a4) a4.length] [.box 68 [.sl (aB EB a1) a1.length, .int .i64 a2, .int .i64 a3]] (.int .i64 r.1) [.box 68 [.sl (aB EB r.2.1) r.2.1.length, .int .i64 r.2.2.1, .int .i64 r.2.2.2]] := by
 unfold fa at h; refine SO Tryz.func54 rfl Tryz.ntmps54 fun C hN hρ => ?_; simp only [st0, aW, Nat.zero_add, Nat.reduceAdd]; refine AN hN ?_; refine AR hN fun K hK => ?_; obtain ⟨x1, h1, h⟩ := aA h; simp only [EV, seval]; refine cJ [0] (aq h1) (by simp only [AL, EV, seval]) (by simp only [AL, EV, seval]) (by kernel_rfl) (by simp only [EV, aZ, SD, seval]) (aN rfl) (aN rfl) (ab rfl) ?_; obtain ⟨q1, h2, h⟩ := aA h; obtain ⟨⟨h3a, h3b⟩, h3c⟩ := aY EIl h2; (try simp only [EV, seval] at h3c); simp only [EV, seval, h3a, h3b, h3c]; apply hK; clear hK K; injection h with h; subst h; refine ba (aD (lt := [(4, .int .i64 q1)]) (lr := [(0, .box 68 [.sl (aB EB x1.2.1) x1.2.1.length, .int .i64 x1.2.2.1, .int .i64 x1.2.2.2])]) (b' := 64) [(0, some 0)] [] hρ (by kernel_rfl) ?_ ?_) (bW (cX [0] (.inr rfl) (by kernel_rfl) (by kernel_rfl) ?_))
 ·simp only [AL, EV, seval, h3a, h3b, h3c]
 ·simp only [AL, EV, seval, h3a, h3b, h3c]
 ·simp only [EV, Tryz.results54, seval]
def dv (v9 : List Int) : Option (List Int) :=
  some v9
def dw (v6 : Int) (v7 : List Int) (kl1 : Int → (List Int) → Option (List Int)) (v8 : Bool) : Option (List Int) :=
  br v8 (gd (decide (v7.length + ([v6]).length ≤ 16777216)) (kl1 (IntKind.wrap .i64 (v6 + 1)) (v7 ++ ([v6])))) (dv v7)
def bm (a1 : Int) : Nat → Int → (List Int) → Option (List Int)
  | 0, _, _ => none
  | n1 + 1, v6, v7 =>
  bO (cH a1 1 4) fun x5 => bO (br x5 (some (decide (v6 < a1))) (some false)) fun x6 => dw v6 v7 (bm a1 n1) x6
def cq (a1 : Int) : Option (List Int) :=
  bm a1 FU 0 ([] : List Int)
theorem mN {a1 : Int} {r : List Int} (h : cq a1 = some r) :
    aU Tryz.prog 96 [.int .i64 a1] [] (.own 0 r.length) [.row 3 1 (aB EI r)] := by
 unfold cq at h; refine SO Tryz.func96 rfl Tryz.ntmps96 fun C hN hρ => ?_; simp only [st0, aW, Nat.zero_add, Nat.reduceAdd]; refine AN hN ?_; refine AN hN ?_; refine aQ (fun S => ∃ (v9 : List Int), S = ⟨mkT [(3, .own 32 v9.length)], mkR [(32, .row 3 1 (aB EI v9))], 64⟩ ∧ dv v9 = some r) ?_ ?_
 ·refine AN hN ?_; refine aJ ?_; refine aX (fun n S => ∃ (v6 : Int) (v7 : List Int), S = ⟨mkT [(0, .int .i64 a1), (3, .own 32 v7.length), (4, .int .i64 v6)], mkR [(32, .row 3 1 (aB EI v7))], 64⟩ ∧ bm a1 n v6 v7 = some r) FU ?_ ?_ ?_
  ·exact AC ⟨_, _, rfl, h⟩ [(32, some 1088)] [] hρ
  ·rintro S ⟨_, _, _, h⟩; rw [bm] at h; cases h
  ·rintro n1 S ⟨v6, v7, rfl, h⟩; rw [bm] at h; refine aH ?_; refine AJ (fun S => ∃ (v8 : Bool), S = ⟨mkT [(0, .int .i64 a1), (3, .own 32 v7.length), (4, .int .i64 v6), (12, .bool v8)], mkR [(32, .row 3 1 (aB EI v7))], 64⟩ ∧ dw v6 v7 (bm a1 n1) v8 = some r) hN ?_ ?_
   ·intro K hK; obtain ⟨x5, h5, h⟩ := aA h; simp only [EV, seval]; refine CP (av h5) ?_; obtain ⟨x6, hv3, h⟩ := aA h; rcases aR hv3 with ⟨hc5, hv3⟩ | ⟨hc5, hv3⟩
    ·cases hv3; simp only [EV, seval, hc5]; refine hK _ _ _ (show aM _ _ _ from aP ⟨_, rfl, h⟩ (aD [(32, some 32)] [] hρ (by kernel_rfl) ?_ ?_)) <;> simp only [AL, EV, seval, hc5]
    ·cases hv3; simp only [EV, seval, hc5]; refine hK _ _ _ (show aM _ _ _ from aP ⟨_, rfl, h⟩ (aD [(32, some 32)] [] hρ (by kernel_rfl) ?_ ?_)) <;> simp only [AL, EV, seval, hc5]
   ·rintro S ⟨v8, rfl, h⟩; unfold dw at h; refine AB h (fun hc6 h => ?_) fun hc6 h => ?_
    ·refine aE (AK ?_); refine aH ?_; refine aJ ?_; refine AS hN fun K hK => ?_; obtain ⟨h6, h⟩ := gdI h; (try simp only [EV, seval] at h6); simp only [EV, seval, h6]; refine hK _ _ _ (show AW _ _ _ _ _ from ?_); refine AS hN fun K hK => ?_; simp only [EV, seval]; exact hK _ _ _ (AC ⟨_, _, rfl, h⟩ [(32, some 112)] [] hρ)
    ·exact aa (AC ⟨_, rfl, h⟩ [(32, some 32)] [] hρ)
 ·rintro S ⟨v9, rfl, h⟩; unfold dv at h; refine AN hN ?_; injection h with h; subst h; exact AX (b' := 64) [(2, .own 32 v9.length)] [(32, .row 3 1 (aB EI v9))] [(32, some 32)] [] hρ (EQ [32])
def ns (v12 : List Int) (v13 v14 : Int) (v15 : List Int) : Option (List Int × List Int × Int × Int) :=
  some (v15, v12, v13, v14)
def fb : Nat → (List Int) → Int → Int → Int → (List Int) → Option (List Int × List Int × Int × Int)
  | 0, _, _, _, _, _ => none
  | n1 + 1, v7, v8, v9, v10, v11 =>
  br (decide (0 < v10)) (bO (b9 v7 v8 v9 (IntKind.wrap .i64 (v10 + 1))) fun x4 => bO (ak v11 v10) fun q7 => bO (ak v11 x4.1) fun q8 => bO (ak (v11.set (Int.toNat v10) q8) x4.1) fun q9 => (fb n1) x4.2.1 x4.2.2.1 x4.2.2.2 (IntKind.wrap .i64 (v10 - 1)) ((v11.set (Int.toNat v10) q8).set (Int.toNat x4.1) q7)) (ns v7 v8 v9 v11)
def me (a1 : List Int) (a2 a3 a4 : Int) : Option (List Int × List Int × Int × Int) :=
  bO (cq a4) fun x1 => fb FU a1 a2 a3 (IntKind.wrap .i64 (a4 - 1)) x1
theorem qn {a1 : List Int} {a2 a3 a4 : Int} {r : List Int × List Int × Int × Int} (h : me a1 a2 a3 a4 = some r) :
    aU Tryz.prog 74 [.ptr 0 0, .int .i64 a4] [.box 68 [.sl (aB EB a1) a1.length, .int .i64 a2, .int .i64 a3]] (.own 1 r.1.length) [.box 68 [.sl (aB EB r.2.1) r.2.1.length, .int .i64 r.2.2.1, .int .i64 r.2.2.2], .row 3 1 (aB EI r.1)] := by
 unfold me at h; refine SO Tryz.func74 rfl Tryz.ntmps74 fun C hN hρ => ?_; simp only [st0, aW, Nat.zero_add, Nat.reduceAdd]; refine AN hN ?_; refine AR hN fun K hK => ?_; obtain ⟨x1, h1, h⟩ := aA h; simp only [EV, seval]; refine aj (mN h1) (by simp only [AL, EV, seval]) (aN rfl) (ao (by simp only [EV, seval])) ?_; simp only [EV, seval]; apply hK; clear hK K; refine aQ (fun S => ∃ (v12 : List Int) (v13 v14 : Int) (v15 : List Int), S = ⟨mkT [(5, .own 32 v15.length)], mkR [(0, .box 68 [.sl (aB EB v12) v12.length, .int .i64 v13, .int .i64 v14]), (32, .row 3 1 (aB EI v15))], 64⟩ ∧ ns v12 v13 v14 v15 = some r) ?_ ?_
 ·refine AN hN ?_; refine aJ ?_; refine aX (fun n S => ∃ (v7 : List Int) (v8 v9 v10 : Int) (v11 : List Int), S = ⟨mkT [(0, .ptr 0 0), (5, .own 32 v11.length), (6, .int .i64 v10)], mkR [(0, .box 68 [.sl (aB EB v7) v7.length, .int .i64 v8, .int .i64 v9]), (32, .row 3 1 (aB EI v11))], 64⟩ ∧ fb n v7 v8 v9 v10 v11 = some r) FU ?_ ?_ ?_
  ·exact AC ⟨_, _, _, _, _, rfl, h⟩ [(0, some 0), (32, some 1104)] [] hρ
  ·rintro S ⟨_, _, _, _, _, _, h⟩; rw [fb] at h; cases h
  ·rintro n1 S ⟨v7, v8, v9, v10, v11, rfl, h⟩; rw [fb] at h; refine aH ?_; refine AN hN ?_; refine AB h (fun hc3 h => ?_) fun hc3 h => ?_
   ·refine aE (AK ?_); refine aH ?_; refine aJ ?_; refine AR hN fun K hK => ?_; obtain ⟨x4, h20, h⟩ := aA h; simp only [EV, seval]; refine cJ [0] (aq h20) (by simp only [AL, EV, seval]) (by simp only [AL, EV, seval]) (by kernel_rfl) (by simp only [EV, aZ, SD, seval]) (aN rfl) (aN rfl) (ab rfl) ?_; simp only [EV, seval]; apply hK; clear hK K; refine AR hN fun K hK => ?_; obtain ⟨q7, h21, h⟩ := aA h; obtain ⟨⟨h22a, h22b⟩, h22c⟩ := aY EIl h21; (try simp only [EV, seval] at h22c); simp only [EV, seval, h22a, h22b, h22c]; apply hK; clear hK K; refine AR hN fun K hK => ?_; obtain ⟨q8, h23, h⟩ := aA h; obtain ⟨⟨h24a, h24b⟩, h24c⟩ := aY EIl h23; (try simp only [EV, seval] at h24c); have h25 := qi EIl q8 0 [.int .i64 q8] h21 (Nat.le_of_ble_eq_true rfl) rfl; obtain ⟨h25a, h25b⟩ := h25; (try simp only [EV, seval] at h25a); (try simp only [EV, seval] at h25b); simp only [EV, seval, h24a, h24b, h24c, h22a, h22b, h22c, h25a, h25b]; apply hK; clear hK K; refine AS hN fun K hK => ?_; obtain ⟨q9, h26, h⟩ := aA h; obtain ⟨⟨h27a, h27b⟩, h27c⟩ := aY EIl h26; (try simp only [EV, seval] at h27c); (try simp only [EV, seval] at h27b); have h28 := qi EIl q7 0 [.int .i64 q7] h26 (Nat.le_of_ble_eq_true rfl) rfl; obtain ⟨h28a, h28b⟩ := h28; (try simp only [EV, seval] at h28a); (try simp only [EV, seval] at h28b); simp only [EV, seval, h27a, h27b, h27c, h28a, h28b]; refine hK _ _ _ (show AW _ _ _ _ _ from ?_); refine AS hN fun K hK => ?_; simp only [EV, seval]; exact hK _ _ _ (AC ⟨_, _, _, _, _, rfl, h⟩ [(0, some 0), (32, some 32)] [] hρ)
   ·exact aa (AC ⟨_, _, _, _, rfl, h⟩ [(0, some 0), (32, some 32)] [] hρ)
 ·rintro S ⟨v12, v13, v14, v15, rfl, h⟩; unfold ns at h; refine AN hN ?_; injection h with h; subst h; exact AX (b' := 64) [(4, .own 32 v15.length)] [(0, .box 68 [.sl (aB EB v12) v12.length, .int .i64 v13, .int .i64 v14]), (32, .row 3 1 (aB EI v15))] [(0, some 0), (32, some 32)] [] hρ (EQ [0, 32])
def oY (a4 : Int) (x1 : List Int × List Int × Int × Int) (q1 v1 v2 : Int) : Option (Int × Int × Int × Int × List Int × Int × Int) :=
  some (a4, q1, v1, v2, x1.2.1, x1.2.2.1, x1.2.2.2)
def lO (a4 : Int) (x1 : List Int × List Int × Int × Int) (q1 v1 : Int) : Option (Int × Int × Int × Int × List Int × Int × Int) :=
  bO (jj a4) fun x3 => br (decide (2 < x3)) (bO (ak x1.1 2) fun q3 => oY a4 x1 q1 v1 q3) (oY a4 x1 q1 v1 0)
def rp (a1 : List Int) (a2 a3 a4 a5 : Int) : Option (Int × Int × Int × Int × List Int × Int × Int) :=
  bO (me a1 a2 a3 a5) fun x1 => bO (ak x1.1 0) fun q1 => bO (jj a4) fun x2 => br (decide (1 < x2)) (bO (ak x1.1 1) fun q2 => lO a4 x1 q1 q2) (lO a4 x1 q1 0)
theorem A1 {a1 : List Int} {a2 a3 a4 a5 : Int} {r : Int × Int × Int × Int × List Int × Int × Int} (h : rp a1 a2 a3 a4 a5 = some r) :
    aU Tryz.prog 95 [.ptr 0 0, .int .i64 a4, .int .i64 a5] [.box 68 [.sl (aB EB a1) a1.length, .int .i64 a2, .int .i64 a3]] (.agg [.int .i64 r.1, .int .i64 r.2.1, .int .i64 r.2.2.1, .int .i64 r.2.2.2.1]) [.box 68 [.sl (aB EB r.2.2.2.2.1) r.2.2.2.2.1.length, .int .i64 r.2.2.2.2.2.1, .int .i64 r.2.2.2.2.2.2]] := by
 unfold rp at h; refine SO Tryz.func95 rfl Tryz.ntmps95 fun C hN hρ => ?_; simp only [st0, aW, Nat.zero_add, Nat.reduceAdd]; refine AN hN ?_; refine AR hN fun K hK => ?_; obtain ⟨x1, h1, h⟩ := aA h; simp only [EV, seval]; refine cJ [0] (qn h1) (by simp only [AL, EV, seval]) (by simp only [AL, EV, seval]) (by kernel_rfl) (by simp only [EV, aZ, SD, seval]) (aN rfl) (aN rfl) (ao (by simp only [EV, seval])) ?_; simp only [EV, seval]; apply hK; clear hK K; refine AR hN fun K hK => ?_; obtain ⟨q1, h2, h⟩ := aA h; obtain ⟨⟨h3a, h3b⟩, h3c⟩ := aY EIl h2; (try simp only [EV, seval] at h3c); simp only [EV, seval, h3a, h3b, h3c]; apply hK; clear hK K; refine aQ (fun S => ∃ (v1 : Int), S = ⟨mkT [(1, .int .i64 a4), (6, .ptr 32 0), (7, .own 33 x1.1.length), (8, .ptr 34 0)], mkR [(0, .box 68 [.sl (aB EB x1.2.1) x1.2.1.length, .int .i64 x1.2.2.1, .int .i64 x1.2.2.2]), (32, .box 73 [.int .i64 0, .int .i64 0, .int .i64 0, .int .i64 0]), (33, .row 3 1 (aB EI x1.1)), (34, .box 73 [.int .i64 a4, .int .i64 q1, .int .i64 v1, .int .i64 0])], 64⟩ ∧ lO a4 x1 q1 v1 = some r) ?_ ?_
 ·refine AR hN fun K hK => ?_; obtain ⟨x2, h4, h⟩ := aA h; simp only [EV, seval, h3c]; refine aj (jW h4) (by simp only [AL, EV, seval, h3c]) (aN rfl) (ab rfl) ?_; simp only [EV, seval, h3c]; apply hK; clear hK K; refine ah (a := .bool (decide (1 < x2))) (by simp only [EV, seval, h3c]) (brK h (fun hc1 h => ?_) (fun hc1 h => ?_))
  ·refine AS hN fun K hK => ?_; obtain ⟨q2, h5, h⟩ := aA h; obtain ⟨⟨h6a, h6b⟩, h6c⟩ := aY EIl h5; (try simp only [EV, seval, h3c] at h6c); simp only [EV, seval, h6a, h6b, h6c, h3c]; refine hK _ _ _ (show aM _ _ _ from aP ⟨_, rfl, h⟩ (aD [(0, some 0), (32, some 64), (33, some 1120), (34, some 2192)] [] hρ (by kernel_rfl) ?_ ?_)) <;> simp only [AL, EV, seval, h6a, h6b, h6c, h3c]
  ·refine aE (show aM _ _ _ from aP ⟨_, rfl, h⟩ (aD [(0, some 0), (32, some 64), (33, some 1120), (34, some 2192)] [] hρ (by kernel_rfl) ?_ ?_)) <;> simp only [AL, EV, seval, h3c]
 ·rintro S ⟨v1, rfl, h⟩; unfold lO at h; refine aQ (fun S => ∃ (v2 : Int), S = ⟨mkT [(6, .ptr 32 0), (8, .ptr 33 0)], mkR [(0, .box 68 [.sl (aB EB x1.2.1) x1.2.1.length, .int .i64 x1.2.2.1, .int .i64 x1.2.2.2]), (32, .box 73 [.int .i64 0, .int .i64 0, .int .i64 0, .int .i64 0]), (33, .box 73 [.int .i64 a4, .int .i64 q1, .int .i64 v1, .int .i64 v2])], 64⟩ ∧ oY a4 x1 q1 v1 v2 = some r) ?_ ?_
  ·refine AR hN fun K hK => ?_; obtain ⟨x3, h7, h⟩ := aA h; simp only [EV, seval, h3c]; refine aj (jW h7) (by simp only [AL, EV, seval, h3c]) (aN rfl) (ab rfl) ?_; simp only [EV, seval, h3c]; apply hK; clear hK K; refine ah (a := .bool (decide (2 < x3))) (by simp only [EV, seval, h3c]) (brK h (fun hc2 h => ?_) (fun hc2 h => ?_))
   ·refine AS hN fun K hK => ?_; obtain ⟨q3, h8, h⟩ := aA h; obtain ⟨⟨h9a, h9b⟩, h9c⟩ := aY EIl h8; (try simp only [EV, seval, h3c] at h9c); simp only [EV, seval, h9a, h9b, h9c, h3c]; refine hK _ _ _ (show aM _ _ _ from aP ⟨_, rfl, h⟩ (aD [(0, some 0), (32, some 32), (33, some 34)] [] hρ (by kernel_rfl) ?_ ?_)) <;> simp only [AL, EV, seval, h9a, h9b, h9c, h3c]
   ·refine aE (show aM _ _ _ from aP ⟨_, rfl, h⟩ (aD [(0, some 0), (32, some 32), (33, some 34)] [] hρ (by kernel_rfl) ?_ ?_)) <;> simp only [AL, EV, seval, h3c]
  ·rintro S ⟨v2, rfl, h⟩; unfold oY at h; refine AR hN fun K hK => ?_; simp only [EV, seval, h3c]; apply hK; clear hK K; injection h with h; subst h; refine ba (aD (lt := [(6, .ptr 32 0)]) (lr := [(0, .box 68 [.sl (aB EB x1.2.1) x1.2.1.length, .int .i64 x1.2.2.1, .int .i64 x1.2.2.2]), (32, .box 73 [.int .i64 a4, .int .i64 q1, .int .i64 v1, .int .i64 v2])]) (b' := 64) [(0, some 0), (32, some 32)] [] hρ (by kernel_rfl) ?_ ?_) (bW (cX [0] (.inr rfl) (by kernel_rfl) (by kernel_rfl) ?_))
   ·simp only [AL, EV, seval, h3c]
   ·simp only [AL, EV, seval, h3c]
   ·simp only [EV, Tryz.results95, seval]
def iF (a4 : Int) (v1 : List Int) (v2 v3 v5 : Int) : Option (Int × Int × Int × Int × List Int × Int × Int) :=
  bO (rp v1 v2 v3 v5 a4) fun x5 => some (x5.1, x5.2.1, x5.2.2.1, x5.2.2.2.1, x5.2.2.2.2.1, x5.2.2.2.2.2.1, x5.2.2.2.2.2.2)
def iG (a4 : Int) (v1 : List Int) (v2 v3 v4 : Int) : Option (Int × Int × Int × Int × List Int × Int × Int) :=
  bO (jj v4) fun x4 => br (decide (a4 < x4)) (iF a4 v1 v2 v3 4) (iF a4 v1 v2 v3 v4)
def mf (a1 : List Int) (a2 a3 a4 : Int) : Option (Int × Int × Int × Int × List Int × Int × Int) :=
  bO (ak ([0, 8, 11, 12, 12]) a4) fun q1 => bO (b9 a1 a2 a3 q1) fun x1 => bO (dF x1.2.1 x1.2.2.1 x1.2.2.2 2) fun x2 => br x2.1 (bO (fa x2.2.1 x2.2.2.1 x2.2.2.2 ([4, 7, 5, 8, 9, 9, 9, 9])) fun x3 => iG a4 x3.2.1 x3.2.2.1 x3.2.2.2 x3.1) (iG a4 x2.2.1 x2.2.2.1 x2.2.2.2 (IntKind.wrap .i64 (1 + x1.1)))
theorem qo {a1 : List Int} {a2 a3 a4 : Int} {r : Int × Int × Int × Int × List Int × Int × Int} (h : mf a1 a2 a3 a4 = some r) :
    aU Tryz.prog 72 [.ptr 0 0, .int .i64 a4] [.box 68 [.sl (aB EB a1) a1.length, .int .i64 a2, .int .i64 a3]] (.agg [.int .i64 r.1, .int .i64 r.2.1, .int .i64 r.2.2.1, .int .i64 r.2.2.2.1]) [.box 68 [.sl (aB EB r.2.2.2.2.1) r.2.2.2.2.1.length, .int .i64 r.2.2.2.2.2.1, .int .i64 r.2.2.2.2.2.2]] := by
 unfold mf at h; refine SO Tryz.func72 rfl Tryz.ntmps72 fun C hN hρ => ?_; simp only [st0, aW, Nat.zero_add, Nat.reduceAdd]; refine AN hN ?_; refine AR hN fun K hK => ?_; obtain ⟨q1, h1, h⟩ := aA h; obtain ⟨⟨h2a, h2b⟩, h2c⟩ := aY EIl h1; (try simp only [EV, seval] at h2c); (try simp only [EV, seval] at h2b); simp only [EV, seval, h2a, h2b, h2c]; apply hK; clear hK K; refine AR hN fun K hK => ?_; obtain ⟨x1, h3, h⟩ := aA h; simp only [EV, seval]; refine cJ [0] (aq h3) (by simp only [AL, EV, seval]) (by simp only [AL, EV, seval]) (by kernel_rfl) (by simp only [EV, aZ, SD, seval]) (aN rfl) (aN rfl) (ab rfl) ?_; simp only [EV, seval]; apply hK; clear hK K; refine aQ (fun S => ∃ (v1 : List Int) (v2 v3 v4 : Int), S = ⟨mkT [(0, .ptr 0 0), (1, .int .i64 a4), (4, .ptr 32 0), (6, .int .i64 v4)], mkR [(0, .box 68 [.sl (aB EB v1) v1.length, .int .i64 v2, .int .i64 v3]), (32, .box 73 [.int .i64 0, .int .i64 0, .int .i64 0, .int .i64 0])], 64⟩ ∧ iG a4 v1 v2 v3 v4 = some r) ?_ ?_
 ·refine AR hN fun K hK => ?_; obtain ⟨x2, h4, h⟩ := aA h; simp only [EV, seval]; refine cJ [0] (dQ h4) (by simp only [AL, EV, seval]) (by simp only [AL, EV, seval]) (by kernel_rfl) (by simp only [EV, aZ, SD, seval]) (aN rfl) (aN rfl) (ab rfl) ?_; simp only [EV, seval]; apply hK; clear hK K; refine AB h (fun hc1 h => ?_) fun hc1 h => ?_
  ·refine AS hN fun K hK => ?_; obtain ⟨x3, h5, h⟩ := aA h; simp only [EV, seval]; refine cJ [0] (ia h5) (by simp only [AL, EV, seval]) (by simp only [AL, EV, seval]) (by kernel_rfl) (by simp only [EV, aZ, SD, seval]) (aN rfl) (aN rfl) (ab rfl) ?_; simp only [EV, seval]; exact hK _ _ _ (AC ⟨_, _, _, _, rfl, h⟩ [(0, some 0), (32, some 64)] [] hρ)
  ·refine aE (show aM _ _ _ from aP ⟨_, _, _, _, rfl, h⟩ (aD [(0, some 0), (32, some 64)] [] hρ (by kernel_rfl) ?_ ?_)) <;> simp only [AL, EV, seval]
 ·rintro S ⟨v1, v2, v3, v4, rfl, h⟩; unfold iG at h; refine aQ (fun S => ∃ (v5 : Int), S = ⟨mkT [(0, .ptr 0 0), (1, .int .i64 a4), (4, .ptr 32 0), (6, .int .i64 v5)], mkR [(0, .box 68 [.sl (aB EB v1) v1.length, .int .i64 v2, .int .i64 v3]), (32, .box 73 [.int .i64 0, .int .i64 0, .int .i64 0, .int .i64 0])], 64⟩ ∧ iF a4 v1 v2 v3 v5 = some r) ?_ ?_
  ·obtain ⟨x4, h6, h⟩ := aA h; refine AP hN (jW h6) ?_; refine AB h (fun hc2 h => ?_) fun hc2 h => ?_
   ·refine AS hN fun K hK => ?_; simp only [EV, seval]; exact hK _ _ _ (AC ⟨_, rfl, h⟩ [(0, some 0), (32, some 32)] [] hρ)
   ·refine aE (show aM _ _ _ from aP ⟨_, rfl, h⟩ (aD [(0, some 0), (32, some 32)] [] hρ (by kernel_rfl) ?_ ?_)) <;> simp only [AL, EV, seval]
  ·rintro S ⟨v5, rfl, h⟩; unfold iF at h; refine AR hN fun K hK => ?_; obtain ⟨x5, h7, h⟩ := aA h; simp only [EV, seval]; refine cJ [0] (A1 h7) (by simp only [AL, EV, seval]) (by simp only [AL, EV, seval]) (by kernel_rfl) (by simp only [EV, aZ, SD, seval]) (aN rfl) (aN rfl) (ab rfl) ?_; simp only [EV, seval]; apply hK; clear hK K; injection h with h; subst h; exact AX (b' := 64) [(4, .ptr 32 0)] [(0, .box 68 [.sl (aB EB x5.2.2.2.2.1) x5.2.2.2.2.1.length, .int .i64 x5.2.2.2.2.2.1, .int .i64 x5.2.2.2.2.2.2]), (32, .box 73 [.int .i64 x5.1, .int .i64 x5.2.1, .int .i64 x5.2.2.1, .int .i64 x5.2.2.2.1])] [(0, some 0), (32, some 32)] [] hρ (EQ [0])
def rL (a1 a2 : Int) : Option Int :=
  br (decide (a1 < a2)) (some a1) (some a2)
theorem wK {a1 a2 r : Int} (h : rL a1 a2 = some r) :
    aU Tryz.prog 73 [.int .i64 a1, .int .i64 a2] [] (.int .i64 r) [] := by
 unfold rL at h; refine SO Tryz.func73 rfl Tryz.ntmps73 fun C hN hρ => ?_; simp only [st0, aW, Nat.zero_add, Nat.reduceAdd]; refine AN hN ?_; refine aH ?_; refine AN hN ?_; refine AB h (fun hc1 h => ?_) fun hc1 h => ?_
 ·refine AN hN ?_; injection h with h; subst h; exact AX (b' := 64) [(4, .int .i64 a1)] [] [] [] hρ (EQ [])
 ·refine aE (AK ?_); refine AN hN ?_; injection h with h; subst h; exact AX (b' := 64) [(4, .int .i64 a2)] [] [] [] hρ (EQ [])
def jk (a1 a2 : Int) : Option Int :=
  br (decide (a2 < a1)) (some a1) (some a2)
theorem pP {a1 a2 r : Int} (h : jk a1 a2 = some r) :
    aU Tryz.prog 101 [.int .i64 a1, .int .i64 a2] [] (.int .i64 r) [] := by
 unfold jk at h; refine SO Tryz.func101 rfl Tryz.ntmps101 fun C hN hρ => ?_; simp only [st0, aW, Nat.zero_add, Nat.reduceAdd]; refine AN hN ?_; refine aH ?_; refine AN hN ?_; refine AB h (fun hc1 h => ?_) fun hc1 h => ?_
 ·refine AN hN ?_; injection h with h; subst h; exact AX (b' := 64) [(4, .int .i64 a1)] [] [] [] hρ (EQ [])
 ·refine aE (AK ?_); refine AN hN ?_; injection h with h; subst h; exact AX (b' := 64) [(4, .int .i64 a2)] [] [] [] hρ (EQ [])
def eh (v1 : Bool) : Option Bool :=
  some v1
def ay (a1 a2 a3 a4 : Int) : Option Bool :=
  bO (ku a1 (-1073741824) 1073741824) fun x1 => bO (br x1 (bO (ku a2 (-1073741824) 1073741824) fun x2 => some x2) (some false)) fun x3 => bO (br x3 (bO (ku a3 (-1073741824) 1073741824) fun x4 => some x4) (some false)) fun x5 => bO (br x5 (bO (ku a4 (-1073741824) 1073741824) fun x6 => some x6) (some false)) fun x7 => eh x7
theorem bL {a1 a2 a3 a4 : Int} {r : Bool} (h : ay a1 a2 a3 a4 = some r) :
    aU Tryz.prog 66 [.agg [.int .i64 a1, .int .i64 a2, .int .i64 a3, .int .i64 a4]] [] (.bool r) [] := by
 unfold ay at h; refine SO Tryz.func66 rfl Tryz.ntmps66 fun C hN hρ => ?_; simp only [st0, aW, Nat.zero_add, Nat.reduceAdd]; refine AN hN ?_; refine AJ (fun S => ∃ (v1 : Bool), S = ⟨mkT [(2, .bool v1)], mkR [], 64⟩ ∧ eh v1 = some r) hN ?_ ?_
 ·intro K hK; obtain ⟨x1, h1, h⟩ := aA h; simp only [EV, seval]; refine CP (dD h1) ?_; obtain ⟨x3, hv1, h⟩ := aA h; rcases aR hv1 with ⟨hc1, hv1⟩ | ⟨hc1, hv1⟩
  ·obtain ⟨x8, h5, hv1⟩ := aA hv1; simp only [EV, seval, hc1]; refine aj (dD h5) (by simp only [AL, EV, seval, hc1]) (aN rfl) (ab rfl) ?_; cases hv1; obtain ⟨x10, hv4, h⟩ := aA h; rcases aR hv4 with ⟨hc4, hv4⟩ | ⟨hc4, hv4⟩
   ·obtain ⟨x13, h8, hv4⟩ := aA hv4; simp only [EV, seval, hc1, hc4]; refine aj (dD h8) (by simp only [AL, EV, seval, hc1, hc4]) (aN rfl) (ab rfl) ?_; cases hv4; obtain ⟨x15, hv6, h⟩ := aA h; rcases aR hv6 with ⟨hc6, hv6⟩ | ⟨hc6, hv6⟩
    ·obtain ⟨x16, h10, hv6⟩ := aA hv6; simp only [EV, seval, hc1, hc4, hc6]; refine aj (dD h10) (by simp only [AL, EV, seval, hc1, hc4, hc6]) (aN rfl) (ab rfl) ?_; cases hv6; simp only [EV, seval, hc1, hc4, hc6]; refine hK _ _ _ (show aM _ _ _ from aP ⟨_, rfl, h⟩ (aD [] [] hρ (by kernel_rfl) ?_ ?_)) <;> simp only [AL, EV, seval, hc1, hc4, hc6]
    ·cases hv6; simp only [EV, seval, hc1, hc4, hc6]; refine hK _ _ _ (show aM _ _ _ from aP ⟨_, rfl, h⟩ (aD [] [] hρ (by kernel_rfl) ?_ ?_)) <;> simp only [AL, EV, seval, hc1, hc4, hc6]
   ·cases hv4; obtain ⟨x17, hv7, h⟩ := aA h; replace hv7 := kU hv7; cases hv7; (try dsimp only at h); simp only [EV, seval, hc1, hc4]; refine hK _ _ _ (show aM _ _ _ from aP ⟨_, rfl, h⟩ (aD [] [] hρ (by kernel_rfl) ?_ ?_)) <;> simp only [AL, EV, seval, hc1, hc4]
  ·cases hv1; obtain ⟨x18, hv8, h⟩ := aA h; replace hv8 := kU hv8; cases hv8; (try dsimp only at h); obtain ⟨x19, hv9, h⟩ := aA h; replace hv9 := kU hv9; cases hv9; (try dsimp only at h); simp only [EV, seval, hc1]; refine hK _ _ _ (show aM _ _ _ from aP ⟨_, rfl, h⟩ (aD [] [] hρ (by kernel_rfl) ?_ ?_)) <;> simp only [AL, EV, seval, hc1]
 ·rintro S ⟨v1, rfl, h⟩; unfold eh at h; injection h with h; subst h; exact AX (b' := 64) [(2, .bool v1)] [] [] [] hρ (EQ [])
def lZ (a1 : Int) : Option Bool :=
  bO (cH a1 (-1073741824) 1073741824) fun x1 => some x1
theorem mA {a1 : Int} {r : Bool} (h : lZ a1 = some r) :
    aU Tryz.prog 150 [.int .i64 a1] [] (.bool r) [] := by
 unfold lZ at h; refine SO Tryz.func150 rfl Tryz.ntmps150 fun C hN hρ => ?_; simp only [st0, aW, Nat.zero_add, Nat.reduceAdd]; refine AN hN ?_; obtain ⟨x1, h1, h⟩ := aA h; refine AP hN (av h1) ?_; injection h with h; subst h; exact AX (b' := 64) [(2, .bool x1)] [] [] [] hρ (EQ [])
def ej (v1 : Bool) : Option Bool :=
  some v1
def bG (a1 a2 a3 a4 : Int) : Option Bool :=
  bO (lZ a1) fun x1 => bO (br x1 (bO (lZ a2) fun x2 => some x2) (some false)) fun x3 => bO (br x3 (bO (lZ a3) fun x4 => some x4) (some false)) fun x5 => bO (br x5 (bO (lZ a4) fun x6 => some x6) (some false)) fun x7 => ej x7
theorem be {a1 a2 a3 a4 : Int} {r : Bool} (h : bG a1 a2 a3 a4 = some r) :
    aU Tryz.prog 147 [.agg [.int .i64 a1, .int .i64 a2, .int .i64 a3, .int .i64 a4]] [] (.bool r) [] := by
 unfold bG at h; refine SO Tryz.func147 rfl Tryz.ntmps147 fun C hN hρ => ?_; simp only [st0, aW, Nat.zero_add, Nat.reduceAdd]; refine AN hN ?_; refine AJ (fun S => ∃ (v1 : Bool), S = ⟨mkT [(2, .bool v1)], mkR [], 64⟩ ∧ ej v1 = some r) hN ?_ ?_
 ·intro K hK; obtain ⟨x1, h1, h⟩ := aA h; simp only [EV, seval]; refine CP (mA h1) ?_; obtain ⟨x3, hv1, h⟩ := aA h; rcases aR hv1 with ⟨hc1, hv1⟩ | ⟨hc1, hv1⟩
  ·obtain ⟨x8, h5, hv1⟩ := aA hv1; simp only [EV, seval, hc1]; refine aj (mA h5) (by simp only [AL, EV, seval, hc1]) (aN rfl) (ab rfl) ?_; cases hv1; obtain ⟨x10, hv4, h⟩ := aA h; rcases aR hv4 with ⟨hc4, hv4⟩ | ⟨hc4, hv4⟩
   ·obtain ⟨x13, h8, hv4⟩ := aA hv4; simp only [EV, seval, hc1, hc4]; refine aj (mA h8) (by simp only [AL, EV, seval, hc1, hc4]) (aN rfl) (ab rfl) ?_; cases hv4; obtain ⟨x15, hv6, h⟩ := aA h; rcases aR hv6 with ⟨hc6, hv6⟩ | ⟨hc6, hv6⟩
    ·obtain ⟨x16, h10, hv6⟩ := aA hv6; simp only [EV, seval, hc1, hc4, hc6]; refine aj (mA h10) (by simp only [AL, EV, seval, hc1, hc4, hc6]) (aN rfl) (ab rfl) ?_; cases hv6; simp only [EV, seval, hc1, hc4, hc6]; refine hK _ _ _ (show aM _ _ _ from aP ⟨_, rfl, h⟩ (aD [] [] hρ (by kernel_rfl) ?_ ?_)) <;> simp only [AL, EV, seval, hc1, hc4, hc6]
    ·cases hv6; simp only [EV, seval, hc1, hc4, hc6]; refine hK _ _ _ (show aM _ _ _ from aP ⟨_, rfl, h⟩ (aD [] [] hρ (by kernel_rfl) ?_ ?_)) <;> simp only [AL, EV, seval, hc1, hc4, hc6]
   ·cases hv4; obtain ⟨x17, hv7, h⟩ := aA h; replace hv7 := kU hv7; cases hv7; (try dsimp only at h); simp only [EV, seval, hc1, hc4]; refine hK _ _ _ (show aM _ _ _ from aP ⟨_, rfl, h⟩ (aD [] [] hρ (by kernel_rfl) ?_ ?_)) <;> simp only [AL, EV, seval, hc1, hc4]
  ·cases hv1; obtain ⟨x18, hv8, h⟩ := aA h; replace hv8 := kU hv8; cases hv8; (try dsimp only at h); obtain ⟨x19, hv9, h⟩ := aA h; replace hv9 := kU hv9; cases hv9; (try dsimp only at h); simp only [EV, seval, hc1]; refine hK _ _ _ (show aM _ _ _ from aP ⟨_, rfl, h⟩ (aD [] [] hρ (by kernel_rfl) ?_ ?_)) <;> simp only [AL, EV, seval, hc1]
 ·rintro S ⟨v1, rfl, h⟩; unfold ej at h; injection h with h; subst h; exact AX (b' := 64) [(2, .bool v1)] [] [] [] hρ (EQ [])
def jl (v1 : Bool) (v2 v3 v4 v5 : Int) : Option (Int × Int × Int × Int × Bool) :=
  br v1 (some (0, 0, 0, 0, false)) (some (IntKind.wrap .i64 (Int.tdiv v2 2), IntKind.wrap .i64 (Int.tdiv v3 2), IntKind.wrap .i64 (Int.tdiv v4 2), IntKind.wrap .i64 (Int.tdiv v5 2), true))
def jY (a1 a2 a3 a4 : Int) : Option (Int × Int × Int × Int × Bool) :=
  bO (ay a1 a2 a3 a4) fun x1 => bO (br (!x1) (some true) (some ((Int.tmod (IntKind.wrap .i64 (a2 - a4)) 2) != 0))) fun x2 => bO (br x2 (some true) (some ((Int.tmod (IntKind.wrap .i64 (a1 + a3)) 2) != 0))) fun x3 => bO (br x3 (some true) (some ((Int.tmod (IntKind.wrap .i64 (a2 + a4)) 2) != 0))) fun x4 => bO (br x4 (some true) (some ((Int.tmod (IntKind.wrap .i64 (a3 - a1)) 2) != 0))) fun x5 => jl x5 (IntKind.wrap .i64 (a2 - a4)) (IntKind.wrap .i64 (a1 + a3)) (IntKind.wrap .i64 (a2 + a4)) (IntKind.wrap .i64 (a3 - a1))
theorem ow {a1 a2 a3 a4 : Int} {r : Int × Int × Int × Int × Bool} (h : jY a1 a2 a3 a4 = some r) :
    aU Tryz.prog 65 [.agg [.int .i64 a1, .int .i64 a2, .int .i64 a3, .int .i64 a4]] [] (.tup [.agg [.int .i64 r.1, .int .i64 r.2.1, .int .i64 r.2.2.1, .int .i64 r.2.2.2.1], .bool r.2.2.2.2]) [] := by
 unfold jY at h; refine SO Tryz.func65 rfl Tryz.ntmps65 fun C hN hρ => ?_; simp only [st0, aW, Nat.zero_add, Nat.reduceAdd]; refine AN hN ?_; refine AN hN ?_; refine aH ?_; refine AJ (fun S => ∃ (v1 : Bool) (v2 v3 v4 v5 : Int), S = ⟨mkT [(2, .ptr 32 0), (4, .ptr 33 0), (52, .bool v1)], mkR [(32, .box 34 [.int .i64 0, .int .i64 0, .int .i64 0, .int .i64 0]), (33, .box 34 [.int .i64 v2, .int .i64 v3, .int .i64 v4, .int .i64 v5])], 64⟩ ∧ jl v1 v2 v3 v4 v5 = some r) hN ?_ ?_
 ·intro K hK; obtain ⟨x1, h1, h⟩ := aA h; simp only [EV, seval]; refine CP (bL h1) ?_; obtain ⟨x2, hv1, h⟩ := aA h; rcases aR hv1 with ⟨hc1, hv1⟩ | ⟨hc1, hv1⟩
  ·cases hv1; obtain ⟨x6, hv5, h⟩ := aA h; replace hv5 := iX hv5; cases hv5; (try dsimp only at h); obtain ⟨x7, hv6, h⟩ := aA h; replace hv6 := iX hv6; cases hv6; (try dsimp only at h); obtain ⟨x8, hv7, h⟩ := aA h; replace hv7 := iX hv7; cases hv7; (try dsimp only at h); simp only [EV, seval, hc1]; refine hK _ _ _ (show aM _ _ _ from aP ⟨_, _, _, _, _, rfl, h⟩ (aD [(32, some 80), (33, some 1424)] [] hρ (by kernel_rfl) ?_ ?_)) <;> simp only [AL, EV, seval, hc1]
  ·cases hv1; obtain ⟨x9, hv8, h⟩ := aA h; rcases aR hv8 with ⟨hc5, hv8⟩ | ⟨hc5, hv8⟩
   ·cases hv8; obtain ⟨x12, hv11, h⟩ := aA h; replace hv11 := iX hv11; cases hv11; (try dsimp only at h); obtain ⟨x13, hv12, h⟩ := aA h; replace hv12 := iX hv12; cases hv12; (try dsimp only at h); simp only [EV, seval, hc1, hc5]; refine hK _ _ _ (show aM _ _ _ from aP ⟨_, _, _, _, _, rfl, h⟩ (aD [(32, some 80), (33, some 1424)] [] hρ (by kernel_rfl) ?_ ?_)) <;> simp only [AL, EV, seval, hc1, hc5]
   ·cases hv8; obtain ⟨x14, hv13, h⟩ := aA h; rcases aR hv13 with ⟨hc8, hv13⟩ | ⟨hc8, hv13⟩
    ·cases hv13; obtain ⟨x16, hv15, h⟩ := aA h; replace hv15 := iX hv15; cases hv15; (try dsimp only at h); simp only [EV, seval, hc1, hc5, hc8]; refine hK _ _ _ (show aM _ _ _ from aP ⟨_, _, _, _, _, rfl, h⟩ (aD [(32, some 80), (33, some 1424)] [] hρ (by kernel_rfl) ?_ ?_)) <;> simp only [AL, EV, seval, hc1, hc5, hc8]
    ·cases hv13; obtain ⟨x17, hv16, h⟩ := aA h; rcases aR hv16 with ⟨hc10, hv16⟩ | ⟨hc10, hv16⟩
     ·cases hv16; simp only [EV, seval, hc1, hc5, hc8, hc10]; refine hK _ _ _ (show aM _ _ _ from aP ⟨_, _, _, _, _, rfl, h⟩ (aD [(32, some 80), (33, some 1424)] [] hρ (by kernel_rfl) ?_ ?_)) <;> simp only [AL, EV, seval, hc1, hc5, hc8, hc10]
     ·cases hv16; simp only [EV, seval, hc1, hc5, hc8, hc10]; refine hK _ _ _ (show aM _ _ _ from aP ⟨_, _, _, _, _, rfl, h⟩ (aD [(32, some 80), (33, some 1424)] [] hρ (by kernel_rfl) ?_ ?_)) <;> simp only [AL, EV, seval, hc1, hc5, hc8, hc10]
 ·rintro S ⟨v1, v2, v3, v4, v5, rfl, h⟩; unfold jl at h; refine AB h (fun hc11 h => ?_) fun hc11 h => ?_
  ·refine AN hN ?_; injection h with h; subst h; exact AX (b' := 64) [(2, .ptr 32 0), (3, .bool false)] [(32, .box 34 [.int .i64 0, .int .i64 0, .int .i64 0, .int .i64 0])] [(32, some 32)] [] hρ (EQ [])
  ·refine aE (AK ?_); refine AN hN ?_; injection h with h; subst h; exact AX (b' := 64) [(2, .ptr 32 0), (3, .bool true)] [(32, .box 34 [.int .i64 (IntKind.wrap .i64 (Int.tdiv v2 2)), .int .i64 (IntKind.wrap .i64 (Int.tdiv v3 2)), .int .i64 (IntKind.wrap .i64 (Int.tdiv v4 2)), .int .i64 (IntKind.wrap .i64 (Int.tdiv v5 2))])] [(32, some 32)] [] hρ (EQ [])
def jm (v1 : Bool) (v2 v3 v4 v5 : Int) : Option (Int × Int × Int × Int × Bool) :=
  br v1 (some (0, 0, 0, 0, false)) (some (IntKind.wrap .i64 (Int.tdiv v2 2), IntKind.wrap .i64 (Int.tdiv v3 2), IntKind.wrap .i64 (Int.tdiv v4 2), IntKind.wrap .i64 (Int.tdiv v5 2), true))
def jZ (a1 a2 a3 a4 : Int) : Option (Int × Int × Int × Int × Bool) :=
  bO (bG a1 a2 a3 a4) fun x1 => br (!x1) (some (0, 0, 0, 0, false)) (bO (br ((Int.tmod (IntKind.wrap .i64 (a2 - a4)) 2) != 0) (some true) (some ((Int.tmod (IntKind.wrap .i64 (a1 + a3)) 2) != 0))) fun x2 => bO (br x2 (some true) (some ((Int.tmod (IntKind.wrap .i64 (a2 + a4)) 2) != 0))) fun x3 => bO (br x3 (some true) (some ((Int.tmod (IntKind.wrap .i64 (a3 - a1)) 2) != 0))) fun x4 => jm x4 (IntKind.wrap .i64 (a2 - a4)) (IntKind.wrap .i64 (a1 + a3)) (IntKind.wrap .i64 (a2 + a4)) (IntKind.wrap .i64 (a3 - a1)))
theorem p4 {a1 a2 a3 a4 : Int} {r : Int × Int × Int × Int × Bool} (h : jZ a1 a2 a3 a4 = some r) :
    aU Tryz.prog 146 [.agg [.int .i64 a1, .int .i64 a2, .int .i64 a3, .int .i64 a4]] [] (.tup [.agg [.int .i64 r.1, .int .i64 r.2.1, .int .i64 r.2.2.1, .int .i64 r.2.2.2.1], .bool r.2.2.2.2]) [] := by
 unfold jZ at h; refine SO Tryz.func146 rfl Tryz.ntmps146 fun C hN hρ => ?_; simp only [st0, aW, Nat.zero_add, Nat.reduceAdd]; refine AN hN ?_; refine aH ?_; obtain ⟨x1, h1, h⟩ := aA h; refine AP hN (be h1) ?_; refine AB h (fun hc1 h => ?_) fun hc1 h => ?_
 ·refine AN hN ?_; injection h with h; subst h; exact AX (b' := 64) [(2, .ptr 32 0), (3, .bool false)] [(32, .box 34 [.int .i64 0, .int .i64 0, .int .i64 0, .int .i64 0])] [(32, some 80)] [] hρ (EQ [])
 ·refine aE (AK ?_); refine AN hN ?_; refine aH ?_; refine AJ (fun S => ∃ (v1 : Bool) (v2 v3 v4 v5 : Int), S = ⟨mkT [(2, .ptr 32 0), (4, .ptr 33 0), (51, .bool v1)], mkR [(32, .box 34 [.int .i64 0, .int .i64 0, .int .i64 0, .int .i64 0]), (33, .box 34 [.int .i64 v2, .int .i64 v3, .int .i64 v4, .int .i64 v5])], 64⟩ ∧ jm v1 v2 v3 v4 v5 = some r) hN ?_ ?_
  ·intro K hK; obtain ⟨x2, hv1, h⟩ := aA h; rcases aR hv1 with ⟨hc2, hv1⟩ | ⟨hc2, hv1⟩
   ·cases hv1; obtain ⟨x5, hv4, h⟩ := aA h; replace hv4 := iX hv4; cases hv4; (try dsimp only at h); obtain ⟨x6, hv5, h⟩ := aA h; replace hv5 := iX hv5; cases hv5; (try dsimp only at h); simp only [EV, seval, hc2]; refine hK _ _ _ (show aM _ _ _ from aP ⟨_, _, _, _, _, rfl, h⟩ (aD [(32, some 80), (33, some 2448)] [] hρ (by kernel_rfl) ?_ ?_)) <;> simp only [AL, EV, seval, hc2]
   ·cases hv1; obtain ⟨x7, hv6, h⟩ := aA h; rcases aR hv6 with ⟨hc5, hv6⟩ | ⟨hc5, hv6⟩
    ·cases hv6; obtain ⟨x9, hv8, h⟩ := aA h; replace hv8 := iX hv8; cases hv8; (try dsimp only at h); simp only [EV, seval, hc2, hc5]; refine hK _ _ _ (show aM _ _ _ from aP ⟨_, _, _, _, _, rfl, h⟩ (aD [(32, some 80), (33, some 2448)] [] hρ (by kernel_rfl) ?_ ?_)) <;> simp only [AL, EV, seval, hc2, hc5]
    ·cases hv6; obtain ⟨x10, hv9, h⟩ := aA h; rcases aR hv9 with ⟨hc7, hv9⟩ | ⟨hc7, hv9⟩
     ·cases hv9; simp only [EV, seval, hc2, hc5, hc7]; refine hK _ _ _ (show aM _ _ _ from aP ⟨_, _, _, _, _, rfl, h⟩ (aD [(32, some 80), (33, some 2448)] [] hρ (by kernel_rfl) ?_ ?_)) <;> simp only [AL, EV, seval, hc2, hc5, hc7]
     ·cases hv9; simp only [EV, seval, hc2, hc5, hc7]; refine hK _ _ _ (show aM _ _ _ from aP ⟨_, _, _, _, _, rfl, h⟩ (aD [(32, some 80), (33, some 2448)] [] hρ (by kernel_rfl) ?_ ?_)) <;> simp only [AL, EV, seval, hc2, hc5, hc7]
  ·rintro S ⟨v1, v2, v3, v4, v5, rfl, h⟩; unfold jm at h; refine AB h (fun hc8 h => ?_) fun hc8 h => ?_
   ·refine AN hN ?_; injection h with h; subst h; exact AX (b' := 64) [(2, .ptr 32 0), (3, .bool false)] [(32, .box 34 [.int .i64 0, .int .i64 0, .int .i64 0, .int .i64 0])] [(32, some 32)] [] hρ (EQ [])
   ·refine aE (AK ?_); refine AN hN ?_; injection h with h; subst h; exact AX (b' := 64) [(2, .ptr 32 0), (3, .bool true)] [(32, .box 34 [.int .i64 (IntKind.wrap .i64 (Int.tdiv v2 2)), .int .i64 (IntKind.wrap .i64 (Int.tdiv v3 2)), .int .i64 (IntKind.wrap .i64 (Int.tdiv v4 2)), .int .i64 (IntKind.wrap .i64 (Int.tdiv v5 2))])] [(32, some 32)] [] hρ (EQ [])
def eo (v1 : Bool) : Option Bool :=
  some v1
def bU (a1 a2 a3 a4 a5 : Int) : Option Bool :=
  bO (jY a1 a2 a3 a4) fun x1 => bO (ay a1 a2 a3 a4) fun x2 => bO (br x2 (bO (ku a5 0 60) fun x3 => some x3) (some false)) fun x4 => bO (br x4 (bO (br (a5 == 0) (some true) (some (!x1.2.2.2.2))) fun x5 => some x5) (some false)) fun x6 => eo x6
theorem c9 {a1 a2 a3 a4 a5 : Int} {r : Bool} (h : bU a1 a2 a3 a4 a5 = some r) :
    aU Tryz.prog 39 [.agg [.int .i64 a1, .int .i64 a2, .int .i64 a3, .int .i64 a4, .int .i64 a5]] [] (.bool r) [] := by
 unfold bU at h; refine SO Tryz.func39 rfl Tryz.ntmps39 fun C hN hρ => ?_; simp only [st0, aW, Nat.zero_add, Nat.reduceAdd]; refine AN hN ?_; obtain ⟨x1, h1, h⟩ := aA h; refine AP hN (ow h1) ?_; refine AJ (fun S => ∃ (v1 : Bool), S = ⟨mkT [(2, .bool v1)], mkR [], 64⟩ ∧ eo v1 = some r) hN ?_ ?_
 ·intro K hK; obtain ⟨x2, h2, h⟩ := aA h; simp only [EV, seval]; refine CP (bL h2) ?_; obtain ⟨x4, hv1, h⟩ := aA h; rcases aR hv1 with ⟨hc1, hv1⟩ | ⟨hc1, hv1⟩
  ·obtain ⟨x7, h4, hv1⟩ := aA hv1; simp only [EV, seval, hc1]; refine aj (dD h4) (by simp only [AL, EV, seval, hc1]) (aN rfl) (ab rfl) ?_; cases hv1; obtain ⟨x9, hv4, h⟩ := aA h; rcases aR hv4 with ⟨hc4, hv4⟩ | ⟨hc4, hv4⟩
   ·obtain ⟨x10, hv6, hv4⟩ := aA hv4; rcases aR hv6 with ⟨hc6, hv6⟩ | ⟨hc6, hv6⟩
    ·cases hv6; cases hv4; simp only [EV, seval, hc1, hc4, hc6]; refine hK _ _ _ (show aM _ _ _ from aP ⟨_, rfl, h⟩ (aD [] [] hρ (by kernel_rfl) ?_ ?_)) <;> simp only [AL, EV, seval, hc1, hc4, hc6]
    ·cases hv6; cases hv4; simp only [EV, seval, hc1, hc4, hc6]; refine hK _ _ _ (show aM _ _ _ from aP ⟨_, rfl, h⟩ (aD [] [] hρ (by kernel_rfl) ?_ ?_)) <;> simp only [AL, EV, seval, hc1, hc4, hc6]
   ·cases hv4; simp only [EV, seval, hc1, hc4]; refine hK _ _ _ (show aM _ _ _ from aP ⟨_, rfl, h⟩ (aD [] [] hρ (by kernel_rfl) ?_ ?_)) <;> simp only [AL, EV, seval, hc1, hc4]
  ·cases hv1; obtain ⟨x11, hv7, h⟩ := aA h; replace hv7 := kU hv7; cases hv7; (try dsimp only at h); simp only [EV, seval, hc1]; refine hK _ _ _ (show aM _ _ _ from aP ⟨_, rfl, h⟩ (aD [] [] hρ (by kernel_rfl) ?_ ?_)) <;> simp only [AL, EV, seval, hc1]
 ·rintro S ⟨v1, rfl, h⟩; unfold eo at h; injection h with h; subst h; exact AX (b' := 64) [(2, .bool v1)] [] [] [] hρ (EQ [])
def eq (v1 : Bool) : Option Bool :=
  some v1
def cE (a1 a2 a3 a4 a5 : Int) : Option Bool :=
  bO (jZ a1 a2 a3 a4) fun x1 => bO (bG a1 a2 a3 a4) fun x2 => bO (br x2 (bO (cH a5 0 60) fun x3 => some x3) (some false)) fun x4 => bO (br x4 (bO (br (!x1.2.2.2.2) (some true) (some (a5 == 0))) fun x5 => some x5) (some false)) fun x6 => eq x6
theorem cw {a1 a2 a3 a4 a5 : Int} {r : Bool} (h : cE a1 a2 a3 a4 a5 = some r) :
    aU Tryz.prog 132 [.agg [.int .i64 a1, .int .i64 a2, .int .i64 a3, .int .i64 a4, .int .i64 a5]] [] (.bool r) [] := by
 unfold cE at h; refine SO Tryz.func132 rfl Tryz.ntmps132 fun C hN hρ => ?_; simp only [st0, aW, Nat.zero_add, Nat.reduceAdd]; refine AN hN ?_; obtain ⟨x1, h1, h⟩ := aA h; refine AP hN (p4 h1) ?_; refine AJ (fun S => ∃ (v1 : Bool), S = ⟨mkT [(2, .bool v1)], mkR [], 64⟩ ∧ eq v1 = some r) hN ?_ ?_
 ·intro K hK; obtain ⟨x2, h2, h⟩ := aA h; simp only [EV, seval]; refine CP (be h2) ?_; obtain ⟨x4, hv1, h⟩ := aA h; rcases aR hv1 with ⟨hc1, hv1⟩ | ⟨hc1, hv1⟩
  ·obtain ⟨x7, h4, hv1⟩ := aA hv1; simp only [EV, seval, hc1]; refine aj (av h4) (by simp only [AL, EV, seval, hc1]) (aN rfl) (ab rfl) ?_; cases hv1; obtain ⟨x9, hv4, h⟩ := aA h; rcases aR hv4 with ⟨hc4, hv4⟩ | ⟨hc4, hv4⟩
   ·obtain ⟨x10, hv6, hv4⟩ := aA hv4; rcases aR hv6 with ⟨hc6, hv6⟩ | ⟨hc6, hv6⟩
    ·cases hv6; cases hv4; simp only [EV, seval, hc1, hc4, hc6]; refine hK _ _ _ (show aM _ _ _ from aP ⟨_, rfl, h⟩ (aD [] [] hρ (by kernel_rfl) ?_ ?_)) <;> simp only [AL, EV, seval, hc1, hc4, hc6]
    ·cases hv6; cases hv4; simp only [EV, seval, hc1, hc4, hc6]; refine hK _ _ _ (show aM _ _ _ from aP ⟨_, rfl, h⟩ (aD [] [] hρ (by kernel_rfl) ?_ ?_)) <;> simp only [AL, EV, seval, hc1, hc4, hc6]
   ·cases hv4; simp only [EV, seval, hc1, hc4]; refine hK _ _ _ (show aM _ _ _ from aP ⟨_, rfl, h⟩ (aD [] [] hρ (by kernel_rfl) ?_ ?_)) <;> simp only [AL, EV, seval, hc1, hc4]
  ·cases hv1; obtain ⟨x11, hv7, h⟩ := aA h; replace hv7 := kU hv7; cases hv7; (try dsimp only at h); simp only [EV, seval, hc1]; refine hK _ _ _ (show aM _ _ _ from aP ⟨_, rfl, h⟩ (aD [] [] hρ (by kernel_rfl) ?_ ?_)) <;> simp only [AL, EV, seval, hc1]
 ·rintro S ⟨v1, rfl, h⟩; unfold eq at h; injection h with h; subst h; exact AX (b' := 64) [(2, .bool v1)] [] [] [] hρ (EQ [])
def eR (v12 v13 v14 v15 v16 : Int) : Option (Int × Int × Int × Int × Int × Bool) :=
  br (decide (60 < v12)) (some (0, 0, 0, 0, 0, false)) (some (v13, v14, v15, v16, v12, true))
def dA : Nat → Int → Int → Int → Int → Int → Option (Int × Int × Int × Int × Int × Bool)
  | 0, _, _, _, _, _ => none
  | n1 + 1, v7, v8, v9, v10, v11 =>
  br (decide (0 < v7)) (bO (jY v8 v9 v10 v11) fun x7 => br (!x7.2.2.2.2) (eR v7 v8 v9 v10 v11) ((dA n1) (IntKind.wrap .i64 (v7 - 1)) x7.1 x7.2.1 x7.2.2.1 x7.2.2.2.1)) (eR v7 v8 v9 v10 v11)
def ib (a1 a2 a3 a4 a5 : Int) (v1 : Bool) : Option (Int × Int × Int × Int × Int × Bool) :=
  br v1 (some (0, 0, 0, 0, 0, false)) (dA FU a5 a1 a2 a3 a4)
def iH (a1 a2 a3 a4 a5 : Int) : Option (Int × Int × Int × Int × Int × Bool) :=
  bO (ay a1 a2 a3 a4) fun x1 => bO (br (!x1) (some true) (bO (ku a5 0 120) fun x2 => some (!x2))) fun x3 => ib a1 a2 a3 a4 a5 x3
theorem nu {a1 a2 a3 a4 a5 : Int} {r : Int × Int × Int × Int × Int × Bool} (h : iH a1 a2 a3 a4 a5 = some r) :
    aU Tryz.prog 43 [.agg [.int .i64 a1, .int .i64 a2, .int .i64 a3, .int .i64 a4], .int .i64 a5] [] (.tup [.agg [.int .i64 r.1, .int .i64 r.2.1, .int .i64 r.2.2.1, .int .i64 r.2.2.2.1, .int .i64 r.2.2.2.2.1], .bool r.2.2.2.2.2]) [] := by
 unfold iH at h; refine SO Tryz.func43 rfl Tryz.ntmps43 fun C hN hρ => ?_; simp only [st0, aW, Nat.zero_add, Nat.reduceAdd]; refine AN hN ?_; refine aH ?_; refine AJ (fun S => ∃ (v1 : Bool), S = ⟨mkT [(1, .int .i64 a5), (2, .ptr 32 0), (4, .ptr 33 0), (15, .bool v1)], mkR [(32, .box 34 [.int .i64 a1, .int .i64 a2, .int .i64 a3, .int .i64 a4]), (33, .box 36 [.int .i64 0, .int .i64 0, .int .i64 0, .int .i64 0, .int .i64 0])], 64⟩ ∧ ib a1 a2 a3 a4 a5 v1 = some r) hN ?_ ?_
 ·intro K hK; obtain ⟨x1, h1, h⟩ := aA h; simp only [EV, seval]; refine CP (bL h1) ?_; obtain ⟨x3, hv1, h⟩ := aA h; rcases aR hv1 with ⟨hc1, hv1⟩ | ⟨hc1, hv1⟩
  ·cases hv1; simp only [EV, seval, hc1]; refine hK _ _ _ (show aM _ _ _ from aP ⟨_, rfl, h⟩ (aD [(32, some 64), (33, some 80)] [] hρ (by kernel_rfl) ?_ ?_)) <;> simp only [AL, EV, seval, hc1]
  ·obtain ⟨x4, h3, hv1⟩ := aA hv1; simp only [EV, seval, hc1]; refine aj (dD h3) (by simp only [AL, EV, seval, hc1]) (aN rfl) (ab rfl) ?_; cases hv1; simp only [EV, seval, hc1]; refine hK _ _ _ (show aM _ _ _ from aP ⟨_, rfl, h⟩ (aD [(32, some 64), (33, some 80)] [] hρ (by kernel_rfl) ?_ ?_)) <;> simp only [AL, EV, seval, hc1]
 ·rintro S ⟨v1, rfl, h⟩; unfold ib at h; refine AB h (fun hc2 h => ?_) fun hc2 h => ?_
  ·refine AN hN ?_; injection h with h; subst h; exact AX (b' := 64) [(4, .ptr 32 0), (5, .bool false)] [(32, .box 36 [.int .i64 0, .int .i64 0, .int .i64 0, .int .i64 0, .int .i64 0])] [(32, some 33)] [] hρ (EQ [])
  ·refine aE (AK ?_); refine aQ (fun S => ∃ (v12 v13 v14 v15 v16 : Int), S = ⟨mkT [(1, .int .i64 v12), (2, .ptr 32 0), (4, .ptr 33 0)], mkR [(32, .box 34 [.int .i64 v13, .int .i64 v14, .int .i64 v15, .int .i64 v16]), (33, .box 36 [.int .i64 0, .int .i64 0, .int .i64 0, .int .i64 0, .int .i64 0])], 64⟩ ∧ eR v12 v13 v14 v15 v16 = some r) ?_ ?_
   ·refine aJ ?_; refine aX (fun n S => ∃ (v7 v8 v9 v10 v11 : Int), S = ⟨mkT [(1, .int .i64 v7), (2, .ptr 32 0), (4, .ptr 33 0)], mkR [(32, .box 34 [.int .i64 v8, .int .i64 v9, .int .i64 v10, .int .i64 v11]), (33, .box 36 [.int .i64 0, .int .i64 0, .int .i64 0, .int .i64 0, .int .i64 0])], 64⟩ ∧ dA n v7 v8 v9 v10 v11 = some r) FU ?_ ?_ ?_
    ·exact AC ⟨_, _, _, _, _, rfl, h⟩ [(32, some 32), (33, some 33)] [] hρ
    ·rintro S ⟨_, _, _, _, _, _, h⟩; rw [dA] at h; cases h
    ·rintro n1 S ⟨v7, v8, v9, v10, v11, rfl, h⟩; rw [dA] at h; refine aH ?_; refine AN hN ?_; refine AB h (fun hc7 h => ?_) fun hc7 h => ?_
     ·refine aE (AK ?_); refine aJ ?_; obtain ⟨x7, h6, h⟩ := aA h; refine AP hN (ow h6) ?_; refine aH ?_; refine AN hN ?_; refine AB h (fun hc8 h => ?_) fun hc8 h => ?_
      ·exact aa (AC ⟨_, _, _, _, _, rfl, h⟩ [(32, some 32), (33, some 33)] [] hρ)
      ·refine aE (AK ?_); refine AN hN ?_; refine AS hN fun K hK => ?_; simp only [EV, seval]; exact hK _ _ _ (AC ⟨_, _, _, _, _, rfl, h⟩ [(32, some 32), (33, some 33)] [] hρ)
     ·exact aa (AC ⟨_, _, _, _, _, rfl, h⟩ [(32, some 32), (33, some 33)] [] hρ)
   ·rintro S ⟨v12, v13, v14, v15, v16, rfl, h⟩; unfold eR at h; refine aH ?_; refine AN hN ?_; refine AB h (fun hc9 h => ?_) fun hc9 h => ?_
    ·refine AN hN ?_; injection h with h; subst h; exact AX (b' := 64) [(4, .ptr 32 0), (5, .bool false)] [(32, .box 36 [.int .i64 0, .int .i64 0, .int .i64 0, .int .i64 0, .int .i64 0])] [(32, some 33)] [] hρ (EQ [])
    ·refine aE (AK ?_); refine AN hN ?_; injection h with h; subst h; exact AX (b' := 64) [(4, .ptr 32 0), (5, .bool true)] [(32, .box 36 [.int .i64 v13, .int .i64 v14, .int .i64 v15, .int .i64 v16, .int .i64 v12])] [(32, some 33)] [] hρ (EQ [])
def eS (v12 v13 v14 v15 v16 : Int) : Option (Int × Int × Int × Int × Int × Bool) :=
  br (decide (60 < v12)) (some (0, 0, 0, 0, 0, false)) (some (v13, v14, v15, v16, v12, true))
def dB : Nat → Int → Int → Int → Int → Int → Option (Int × Int × Int × Int × Int × Bool)
  | 0, _, _, _, _, _ => none
  | n1 + 1, v7, v8, v9, v10, v11 =>
  br (decide (0 < v7)) (bO (jZ v8 v9 v10 v11) fun x7 => br (!x7.2.2.2.2) (eS v7 v8 v9 v10 v11) ((dB n1) (IntKind.wrap .i64 (v7 - 1)) x7.1 x7.2.1 x7.2.2.1 x7.2.2.2.1)) (eS v7 v8 v9 v10 v11)
def ic (a1 a2 a3 a4 a5 : Int) (v1 : Bool) : Option (Int × Int × Int × Int × Int × Bool) :=
  br v1 (some (0, 0, 0, 0, 0, false)) (dB FU a5 a1 a2 a3 a4)
def iI (a1 a2 a3 a4 a5 : Int) : Option (Int × Int × Int × Int × Int × Bool) :=
  bO (bG a1 a2 a3 a4) fun x1 => bO (br (!x1) (some true) (bO (cH a5 0 120) fun x2 => some (!x2))) fun x3 => ic a1 a2 a3 a4 a5 x3
theorem nv {a1 a2 a3 a4 a5 : Int} {r : Int × Int × Int × Int × Int × Bool} (h : iI a1 a2 a3 a4 a5 = some r) :
    aU Tryz.prog 139 [.agg [.int .i64 a1, .int .i64 a2, .int .i64 a3, .int .i64 a4], .int .i64 a5] [] (.tup [.agg [.int .i64 r.1, .int .i64 r.2.1, .int .i64 r.2.2.1, .int .i64 r.2.2.2.1, .int .i64 r.2.2.2.2.1], .bool r.2.2.2.2.2]) [] := by
 unfold iI at h; refine SO Tryz.func139 rfl Tryz.ntmps139 fun C hN hρ => ?_; simp only [st0, aW, Nat.zero_add, Nat.reduceAdd]; refine AN hN ?_; refine aH ?_; refine AJ (fun S => ∃ (v1 : Bool), S = ⟨mkT [(1, .int .i64 a5), (2, .ptr 32 0), (4, .ptr 33 0), (15, .bool v1)], mkR [(32, .box 34 [.int .i64 a1, .int .i64 a2, .int .i64 a3, .int .i64 a4]), (33, .box 36 [.int .i64 0, .int .i64 0, .int .i64 0, .int .i64 0, .int .i64 0])], 64⟩ ∧ ic a1 a2 a3 a4 a5 v1 = some r) hN ?_ ?_
 ·intro K hK; obtain ⟨x1, h1, h⟩ := aA h; simp only [EV, seval]; refine CP (be h1) ?_; obtain ⟨x3, hv1, h⟩ := aA h; rcases aR hv1 with ⟨hc1, hv1⟩ | ⟨hc1, hv1⟩
  ·cases hv1; simp only [EV, seval, hc1]; refine hK _ _ _ (show aM _ _ _ from aP ⟨_, rfl, h⟩ (aD [(32, some 64), (33, some 80)] [] hρ (by kernel_rfl) ?_ ?_)) <;> simp only [AL, EV, seval, hc1]
  ·obtain ⟨x4, h3, hv1⟩ := aA hv1; simp only [EV, seval, hc1]; refine aj (av h3) (by simp only [AL, EV, seval, hc1]) (aN rfl) (ab rfl) ?_; cases hv1; simp only [EV, seval, hc1]; refine hK _ _ _ (show aM _ _ _ from aP ⟨_, rfl, h⟩ (aD [(32, some 64), (33, some 80)] [] hρ (by kernel_rfl) ?_ ?_)) <;> simp only [AL, EV, seval, hc1]
 ·rintro S ⟨v1, rfl, h⟩; unfold ic at h; refine AB h (fun hc2 h => ?_) fun hc2 h => ?_
  ·refine AN hN ?_; injection h with h; subst h; exact AX (b' := 64) [(4, .ptr 32 0), (5, .bool false)] [(32, .box 36 [.int .i64 0, .int .i64 0, .int .i64 0, .int .i64 0, .int .i64 0])] [(32, some 33)] [] hρ (EQ [])
  ·refine aE (AK ?_); refine aQ (fun S => ∃ (v12 v13 v14 v15 v16 : Int), S = ⟨mkT [(1, .int .i64 v12), (2, .ptr 32 0), (4, .ptr 33 0)], mkR [(32, .box 34 [.int .i64 v13, .int .i64 v14, .int .i64 v15, .int .i64 v16]), (33, .box 36 [.int .i64 0, .int .i64 0, .int .i64 0, .int .i64 0, .int .i64 0])], 64⟩ ∧ eS v12 v13 v14 v15 v16 = some r) ?_ ?_
   ·refine aJ ?_; refine aX (fun n S => ∃ (v7 v8 v9 v10 v11 : Int), S = ⟨mkT [(1, .int .i64 v7), (2, .ptr 32 0), (4, .ptr 33 0)], mkR [(32, .box 34 [.int .i64 v8, .int .i64 v9, .int .i64 v10, .int .i64 v11]), (33, .box 36 [.int .i64 0, .int .i64 0, .int .i64 0, .int .i64 0, .int .i64 0])], 64⟩ ∧ dB n v7 v8 v9 v10 v11 = some r) FU ?_ ?_ ?_
    ·exact AC ⟨_, _, _, _, _, rfl, h⟩ [(32, some 32), (33, some 33)] [] hρ
    ·rintro S ⟨_, _, _, _, _, _, h⟩; rw [dB] at h; cases h
    ·rintro n1 S ⟨v7, v8, v9, v10, v11, rfl, h⟩; rw [dB] at h; refine aH ?_; refine AN hN ?_; refine AB h (fun hc7 h => ?_) fun hc7 h => ?_
     ·refine aE (AK ?_); refine aJ ?_; obtain ⟨x7, h6, h⟩ := aA h; refine AP hN (p4 h6) ?_; refine aH ?_; refine AN hN ?_; refine AB h (fun hc8 h => ?_) fun hc8 h => ?_
      ·exact aa (AC ⟨_, _, _, _, _, rfl, h⟩ [(32, some 32), (33, some 33)] [] hρ)
      ·refine aE (AK ?_); refine AN hN ?_; refine AS hN fun K hK => ?_; simp only [EV, seval]; exact hK _ _ _ (AC ⟨_, _, _, _, _, rfl, h⟩ [(32, some 32), (33, some 33)] [] hρ)
     ·exact aa (AC ⟨_, _, _, _, _, rfl, h⟩ [(32, some 32), (33, some 33)] [] hρ)
   ·rintro S ⟨v12, v13, v14, v15, v16, rfl, h⟩; unfold eS at h; refine aH ?_; refine AN hN ?_; refine AB h (fun hc9 h => ?_) fun hc9 h => ?_
    ·refine AN hN ?_; injection h with h; subst h; exact AX (b' := 64) [(4, .ptr 32 0), (5, .bool false)] [(32, .box 36 [.int .i64 0, .int .i64 0, .int .i64 0, .int .i64 0, .int .i64 0])] [(32, some 33)] [] hρ (EQ [])
    ·refine aE (AK ?_); refine AN hN ?_; injection h with h; subst h; exact AX (b' := 64) [(4, .ptr 32 0), (5, .bool true)] [(32, .box 36 [.int .i64 v13, .int .i64 v14, .int .i64 v15, .int .i64 v16, .int .i64 v12])] [(32, some 33)] [] hρ (EQ [])
def lP (a1 a2 a3 a4 : Int) : Option (Int × Int × Int × Int × Bool) :=
  bO (ay a1 a2 a3 a4) fun x1 => br (!x1) (some (0, 0, 0, 0, false)) (some (a1, a2, a3, a4, true))
theorem pt {a1 a2 a3 a4 : Int} {r : Int × Int × Int × Int × Bool} (h : lP a1 a2 a3 a4 = some r) :
    aU Tryz.prog 67 [.agg [.int .i64 a1, .int .i64 a2, .int .i64 a3, .int .i64 a4]] [] (.tup [.agg [.int .i64 r.1, .int .i64 r.2.1, .int .i64 r.2.2.1, .int .i64 r.2.2.2.1], .bool r.2.2.2.2]) [] := by
 unfold lP at h; refine SO Tryz.func67 rfl Tryz.ntmps67 fun C hN hρ => ?_; simp only [st0, aW, Nat.zero_add, Nat.reduceAdd]; refine AN hN ?_; refine aH ?_; obtain ⟨x1, h1, h⟩ := aA h; refine AP hN (bL h1) ?_; refine AB h (fun hc1 h => ?_) fun hc1 h => ?_
 ·refine AN hN ?_; injection h with h; subst h; exact AX (b' := 64) [(2, .ptr 32 0), (3, .bool false)] [(32, .box 34 [.int .i64 0, .int .i64 0, .int .i64 0, .int .i64 0])] [(32, some 80)] [] hρ (EQ [])
 ·refine aE (AK ?_); refine AN hN ?_; injection h with h; subst h; exact AX (b' := 64) [(2, .ptr 32 0), (3, .bool true)] [(32, .box 34 [.int .i64 a1, .int .i64 a2, .int .i64 a3, .int .i64 a4])] [(32, some 80)] [] hρ (EQ [])
def ie (a1 a2 a3 a4 a5 a6 a7 a8 : Int) (v1 : Bool) : Option (Int × Int × Int × Int × Bool) :=
  br v1 (some (0, 0, 0, 0, false)) (bO (lP (IntKind.wrap .i64 ((IntKind.wrap .i64 ((IntKind.wrap .i64 ((IntKind.wrap .i64 (a1 * a5)) - (IntKind.wrap .i64 (a2 * a8)))) - (IntKind.wrap .i64 (a3 * a7)))) - (IntKind.wrap .i64 (a4 * a6)))) (IntKind.wrap .i64 ((IntKind.wrap .i64 ((IntKind.wrap .i64 ((IntKind.wrap .i64 (a1 * a6)) + (IntKind.wrap .i64 (a2 * a5)))) - (IntKind.wrap .i64 (a3 * a8)))) - (IntKind.wrap .i64 (a4 * a7)))) (IntKind.wrap .i64 ((IntKind.wrap .i64 ((IntKind.wrap .i64 ((IntKind.wrap .i64 (a1 * a7)) + (IntKind.wrap .i64 (a2 * a6)))) + (IntKind.wrap .i64 (a3 * a5)))) - (IntKind.wrap .i64 (a4 * a8)))) (IntKind.wrap .i64 ((IntKind.wrap .i64 ((IntKind.wrap .i64 ((IntKind.wrap .i64 (a1 * a8)) + (IntKind.wrap .i64 (a2 * a7)))) + (IntKind.wrap .i64 (a3 * a6)))) + (IntKind.wrap .i64 (a4 * a5))))) fun x5 => some (x5.1, x5.2.1, x5.2.2.1, x5.2.2.2.1, x5.2.2.2.2))
def fc (a1 a2 a3 a4 a5 a6 a7 a8 : Int) : Option (Int × Int × Int × Int × Bool) :=
  bO (ay a1 a2 a3 a4) fun x1 => bO (br (!x1) (some true) (bO (ay a5 a6 a7 a8) fun x2 => some (!x2))) fun x3 => ie a1 a2 a3 a4 a5 a6 a7 a8 x3
theorem o0 {a1 a2 a3 a4 a5 a6 a7 a8 : Int} {r : Int × Int × Int × Int × Bool} (h : fc a1 a2 a3 a4 a5 a6 a7 a8 = some r) :
    aU Tryz.prog 40 [.agg [.int .i64 a1, .int .i64 a2, .int .i64 a3, .int .i64 a4], .agg [.int .i64 a5, .int .i64 a6, .int .i64 a7, .int .i64 a8]] [] (.tup [.agg [.int .i64 r.1, .int .i64 r.2.1, .int .i64 r.2.2.1, .int .i64 r.2.2.2.1], .bool r.2.2.2.2]) [] := by
 unfold fc at h; refine SO Tryz.func40 rfl Tryz.ntmps40 fun C hN hρ => ?_; simp only [st0, aW, Nat.zero_add, Nat.reduceAdd]; refine AN hN ?_; refine aH ?_; refine AJ (fun S => ∃ (v1 : Bool), S = ⟨mkT [(2, .ptr 32 0), (3, .ptr 33 0), (4, .ptr 34 0), (15, .bool v1)], mkR [(32, .box 34 [.int .i64 a1, .int .i64 a2, .int .i64 a3, .int .i64 a4]), (33, .box 34 [.int .i64 a5, .int .i64 a6, .int .i64 a7, .int .i64 a8]), (34, .box 34 [.int .i64 0, .int .i64 0, .int .i64 0, .int .i64 0])], 64⟩ ∧ ie a1 a2 a3 a4 a5 a6 a7 a8 v1 = some r) hN ?_ ?_
 ·intro K hK; obtain ⟨x1, h1, h⟩ := aA h; simp only [EV, seval]; refine CP (bL h1) ?_; obtain ⟨x3, hv1, h⟩ := aA h; rcases aR hv1 with ⟨hc1, hv1⟩ | ⟨hc1, hv1⟩
  ·cases hv1; simp only [EV, seval, hc1]; refine hK _ _ _ (show aM _ _ _ from aP ⟨_, rfl, h⟩ (aD [(32, some 64), (33, some 80), (34, some 96)] [] hρ (by kernel_rfl) ?_ ?_)) <;> simp only [AL, EV, seval, hc1]
  ·obtain ⟨x4, h3, hv1⟩ := aA hv1; simp only [EV, seval, hc1]; refine aj (bL h3) (by simp only [AL, EV, seval, hc1]) (aN rfl) (ab rfl) ?_; cases hv1; simp only [EV, seval, hc1]; refine hK _ _ _ (show aM _ _ _ from aP ⟨_, rfl, h⟩ (aD [(32, some 64), (33, some 80), (34, some 96)] [] hρ (by kernel_rfl) ?_ ?_)) <;> simp only [AL, EV, seval, hc1]
 ·rintro S ⟨v1, rfl, h⟩; unfold ie at h; refine AB h (fun hc2 h => ?_) fun hc2 h => ?_
  ·refine AN hN ?_; injection h with h; subst h; exact AX (b' := 64) [(4, .ptr 32 0), (5, .bool false)] [(32, .box 34 [.int .i64 0, .int .i64 0, .int .i64 0, .int .i64 0])] [(32, some 34)] [] hρ (EQ [])
  ·refine aE (AK ?_); obtain ⟨x5, h4, h⟩ := aA h; refine AP hN (pt h4) ?_; refine AN hN ?_; injection h with h; subst h; exact AX (b' := 64) [(4, .ptr 32 0), (5, .bool x5.2.2.2.2)] [(32, .box 34 [.int .i64 x5.1, .int .i64 x5.2.1, .int .i64 x5.2.2.1, .int .i64 x5.2.2.2.1])] [(32, some 34)] [] hρ (EQ [])
def qX (a1 a2 a3 a4 : Int) : Option (Int × Int × Int × Int × Bool) :=
  bO (bG a1 a2 a3 a4) fun x1 => br (!x1) (some (0, 0, 0, 0, false)) (some (a1, a2, a3, a4, true))
theorem tJ {a1 a2 a3 a4 : Int} {r : Int × Int × Int × Int × Bool} (h : qX a1 a2 a3 a4 = some r) :
    aU Tryz.prog 149 [.agg [.int .i64 a1, .int .i64 a2, .int .i64 a3, .int .i64 a4]] [] (.tup [.agg [.int .i64 r.1, .int .i64 r.2.1, .int .i64 r.2.2.1, .int .i64 r.2.2.2.1], .bool r.2.2.2.2]) [] := by
 unfold qX at h; refine SO Tryz.func149 rfl Tryz.ntmps149 fun C hN hρ => ?_; simp only [st0, aW, Nat.zero_add, Nat.reduceAdd]; refine AN hN ?_; refine aH ?_; obtain ⟨x1, h1, h⟩ := aA h; refine AP hN (be h1) ?_; refine AB h (fun hc1 h => ?_) fun hc1 h => ?_
 ·refine AN hN ?_; injection h with h; subst h; exact AX (b' := 64) [(2, .ptr 32 0), (3, .bool false)] [(32, .box 34 [.int .i64 0, .int .i64 0, .int .i64 0, .int .i64 0])] [(32, some 80)] [] hρ (EQ [])
 ·refine aE (AK ?_); refine AN hN ?_; injection h with h; subst h; exact AX (b' := 64) [(2, .ptr 32 0), (3, .bool true)] [(32, .box 34 [.int .i64 a1, .int .i64 a2, .int .i64 a3, .int .i64 a4])] [(32, some 80)] [] hρ (EQ [])
def ig (a1 a2 a3 a4 a5 a6 a7 a8 : Int) (v1 : Bool) : Option (Int × Int × Int × Int × Bool) :=
  br v1 (some (0, 0, 0, 0, false)) (bO (qX (IntKind.wrap .i64 ((IntKind.wrap .i64 ((IntKind.wrap .i64 ((IntKind.wrap .i64 (a1 * a5)) - (IntKind.wrap .i64 (a2 * a8)))) - (IntKind.wrap .i64 (a3 * a7)))) - (IntKind.wrap .i64 (a4 * a6)))) (IntKind.wrap .i64 ((IntKind.wrap .i64 ((IntKind.wrap .i64 ((IntKind.wrap .i64 (a1 * a6)) + (IntKind.wrap .i64 (a2 * a5)))) - (IntKind.wrap .i64 (a3 * a8)))) - (IntKind.wrap .i64 (a4 * a7)))) (IntKind.wrap .i64 ((IntKind.wrap .i64 ((IntKind.wrap .i64 ((IntKind.wrap .i64 (a1 * a7)) + (IntKind.wrap .i64 (a2 * a6)))) + (IntKind.wrap .i64 (a3 * a5)))) - (IntKind.wrap .i64 (a4 * a8)))) (IntKind.wrap .i64 ((IntKind.wrap .i64 ((IntKind.wrap .i64 ((IntKind.wrap .i64 (a1 * a8)) + (IntKind.wrap .i64 (a2 * a7)))) + (IntKind.wrap .i64 (a3 * a6)))) + (IntKind.wrap .i64 (a4 * a5))))) fun x5 => some (x5.1, x5.2.1, x5.2.2.1, x5.2.2.2.1, x5.2.2.2.2))
def fd (a1 a2 a3 a4 a5 a6 a7 a8 : Int) : Option (Int × Int × Int × Int × Bool) :=
  bO (bG a1 a2 a3 a4) fun x1 => bO (br (!x1) (some true) (bO (bG a5 a6 a7 a8) fun x2 => some (!x2))) fun x3 => ig a1 a2 a3 a4 a5 a6 a7 a8 x3
theorem o1 {a1 a2 a3 a4 a5 a6 a7 a8 : Int} {r : Int × Int × Int × Int × Bool} (h : fd a1 a2 a3 a4 a5 a6 a7 a8 = some r) :
    aU Tryz.prog 138 [.agg [.int .i64 a1, .int .i64 a2, .int .i64 a3, .int .i64 a4], .agg [.int .i64 a5, .int .i64 a6, .int .i64 a7, .int .i64 a8]] [] (.tup [.agg [.int .i64 r.1, .int .i64 r.2.1, .int .i64 r.2.2.1, .int .i64 r.2.2.2.1], .bool r.2.2.2.2]) [] := by
 unfold fd at h; refine SO Tryz.func138 rfl Tryz.ntmps138 fun C hN hρ => ?_; simp only [st0, aW, Nat.zero_add, Nat.reduceAdd]; refine AN hN ?_; refine aH ?_; refine AJ (fun S => ∃ (v1 : Bool), S = ⟨mkT [(2, .ptr 32 0), (3, .ptr 33 0), (4, .ptr 34 0), (13, .bool v1)], mkR [(32, .box 34 [.int .i64 a1, .int .i64 a2, .int .i64 a3, .int .i64 a4]), (33, .box 34 [.int .i64 a5, .int .i64 a6, .int .i64 a7, .int .i64 a8]), (34, .box 34 [.int .i64 0, .int .i64 0, .int .i64 0, .int .i64 0])], 64⟩ ∧ ig a1 a2 a3 a4 a5 a6 a7 a8 v1 = some r) hN ?_ ?_
 ·intro K hK; obtain ⟨x1, h1, h⟩ := aA h; simp only [EV, seval]; refine CP (be h1) ?_; obtain ⟨x3, hv1, h⟩ := aA h; rcases aR hv1 with ⟨hc1, hv1⟩ | ⟨hc1, hv1⟩
  ·cases hv1; simp only [EV, seval, hc1]; refine hK _ _ _ (show aM _ _ _ from aP ⟨_, rfl, h⟩ (aD [(32, some 64), (33, some 80), (34, some 96)] [] hρ (by kernel_rfl) ?_ ?_)) <;> simp only [AL, EV, seval, hc1]
  ·obtain ⟨x4, h3, hv1⟩ := aA hv1; simp only [EV, seval, hc1]; refine aj (be h3) (by simp only [AL, EV, seval, hc1]) (aN rfl) (ab rfl) ?_; cases hv1; simp only [EV, seval, hc1]; refine hK _ _ _ (show aM _ _ _ from aP ⟨_, rfl, h⟩ (aD [(32, some 64), (33, some 80), (34, some 96)] [] hρ (by kernel_rfl) ?_ ?_)) <;> simp only [AL, EV, seval, hc1]
 ·rintro S ⟨v1, rfl, h⟩; unfold ig at h; refine AB h (fun hc2 h => ?_) fun hc2 h => ?_
  ·refine AN hN ?_; injection h with h; subst h; exact AX (b' := 64) [(4, .ptr 32 0), (5, .bool false)] [(32, .box 34 [.int .i64 0, .int .i64 0, .int .i64 0, .int .i64 0])] [(32, some 34)] [] hρ (EQ [])
  ·refine aE (AK ?_); obtain ⟨x5, h4, h⟩ := aA h; refine AP hN (tJ h4) ?_; injection h with h; subst h; exact AX (b' := 64) [(4, .ptr 32 0), (5, .bool x5.2.2.2.2)] [(32, .box 34 [.int .i64 x5.1, .int .i64 x5.2.1, .int .i64 x5.2.2.1, .int .i64 x5.2.2.2.1])] [(32, some 34)] [] hρ (EQ [])
def ii (a1 a2 a3 a4 a5 a6 a7 a8 : Int) (v1 : Bool) : Option (Int × Int × Int × Int × Bool) :=
  br v1 (some (0, 0, 0, 0, false)) (bO (lP (IntKind.wrap .i64 (a1 + a5)) (IntKind.wrap .i64 (a2 + a6)) (IntKind.wrap .i64 (a3 + a7)) (IntKind.wrap .i64 (a4 + a8))) fun x5 => some (x5.1, x5.2.1, x5.2.2.1, x5.2.2.2.1, x5.2.2.2.2))
def kC (a1 a2 a3 a4 a5 a6 a7 a8 : Int) : Option (Int × Int × Int × Int × Bool) :=
  bO (ay a1 a2 a3 a4) fun x1 => bO (br (!x1) (some true) (bO (ay a5 a6 a7 a8) fun x2 => some (!x2))) fun x3 => ii a1 a2 a3 a4 a5 a6 a7 a8 x3
theorem rq {a1 a2 a3 a4 a5 a6 a7 a8 : Int} {r : Int × Int × Int × Int × Bool} (h : kC a1 a2 a3 a4 a5 a6 a7 a8 = some r) :
    aU Tryz.prog 42 [.agg [.int .i64 a1, .int .i64 a2, .int .i64 a3, .int .i64 a4], .agg [.int .i64 a5, .int .i64 a6, .int .i64 a7, .int .i64 a8]] [] (.tup [.agg [.int .i64 r.1, .int .i64 r.2.1, .int .i64 r.2.2.1, .int .i64 r.2.2.2.1], .bool r.2.2.2.2]) [] := by
 unfold kC at h; refine SO Tryz.func42 rfl Tryz.ntmps42 fun C hN hρ => ?_; simp only [st0, aW, Nat.zero_add, Nat.reduceAdd]; refine AN hN ?_; refine aH ?_; refine AJ (fun S => ∃ (v1 : Bool), S = ⟨mkT [(2, .ptr 32 0), (3, .ptr 33 0), (4, .ptr 34 0), (15, .bool v1)], mkR [(32, .box 34 [.int .i64 a1, .int .i64 a2, .int .i64 a3, .int .i64 a4]), (33, .box 34 [.int .i64 a5, .int .i64 a6, .int .i64 a7, .int .i64 a8]), (34, .box 34 [.int .i64 0, .int .i64 0, .int .i64 0, .int .i64 0])], 64⟩ ∧ ii a1 a2 a3 a4 a5 a6 a7 a8 v1 = some r) hN ?_ ?_
 ·intro K hK; obtain ⟨x1, h1, h⟩ := aA h; simp only [EV, seval]; refine CP (bL h1) ?_; obtain ⟨x3, hv1, h⟩ := aA h; rcases aR hv1 with ⟨hc1, hv1⟩ | ⟨hc1, hv1⟩
  ·cases hv1; simp only [EV, seval, hc1]; refine hK _ _ _ (show aM _ _ _ from aP ⟨_, rfl, h⟩ (aD [(32, some 64), (33, some 80), (34, some 96)] [] hρ (by kernel_rfl) ?_ ?_)) <;> simp only [AL, EV, seval, hc1]
  ·obtain ⟨x4, h3, hv1⟩ := aA hv1; simp only [EV, seval, hc1]; refine aj (bL h3) (by simp only [AL, EV, seval, hc1]) (aN rfl) (ab rfl) ?_; cases hv1; simp only [EV, seval, hc1]; refine hK _ _ _ (show aM _ _ _ from aP ⟨_, rfl, h⟩ (aD [(32, some 64), (33, some 80), (34, some 96)] [] hρ (by kernel_rfl) ?_ ?_)) <;> simp only [AL, EV, seval, hc1]
 ·rintro S ⟨v1, rfl, h⟩; unfold ii at h; refine AB h (fun hc2 h => ?_) fun hc2 h => ?_
  ·refine AN hN ?_; injection h with h; subst h; exact AX (b' := 64) [(4, .ptr 32 0), (5, .bool false)] [(32, .box 34 [.int .i64 0, .int .i64 0, .int .i64 0, .int .i64 0])] [(32, some 34)] [] hρ (EQ [])
  ·refine aE (AK ?_); obtain ⟨x5, h4, h⟩ := aA h; refine AP hN (pt h4) ?_; refine AN hN ?_; injection h with h; subst h; exact AX (b' := 64) [(4, .ptr 32 0), (5, .bool x5.2.2.2.2)] [(32, .box 34 [.int .i64 x5.1, .int .i64 x5.2.1, .int .i64 x5.2.2.1, .int .i64 x5.2.2.2.1])] [(32, some 34)] [] hρ (EQ [])
def ij (a1 a2 a3 a4 a5 a6 a7 a8 : Int) (v1 : Bool) : Option (Int × Int × Int × Int × Bool) :=
  br v1 (some (0, 0, 0, 0, false)) (bO (qX (IntKind.wrap .i64 (a1 + a5)) (IntKind.wrap .i64 (a2 + a6)) (IntKind.wrap .i64 (a3 + a7)) (IntKind.wrap .i64 (a4 + a8))) fun x5 => some (x5.1, x5.2.1, x5.2.2.1, x5.2.2.2.1, x5.2.2.2.2))
def iJ (a1 a2 a3 a4 a5 a6 a7 a8 : Int) : Option (Int × Int × Int × Int × Bool) :=
  bO (bG a1 a2 a3 a4) fun x1 => bO (br (!x1) (some true) (bO (bG a5 a6 a7 a8) fun x2 => some (!x2))) fun x3 => ij a1 a2 a3 a4 a5 a6 a7 a8 x3
theorem rr {a1 a2 a3 a4 a5 a6 a7 a8 : Int} {r : Int × Int × Int × Int × Bool} (h : iJ a1 a2 a3 a4 a5 a6 a7 a8 = some r) :
    aU Tryz.prog 141 [.agg [.int .i64 a1, .int .i64 a2, .int .i64 a3, .int .i64 a4], .agg [.int .i64 a5, .int .i64 a6, .int .i64 a7, .int .i64 a8]] [] (.tup [.agg [.int .i64 r.1, .int .i64 r.2.1, .int .i64 r.2.2.1, .int .i64 r.2.2.2.1], .bool r.2.2.2.2]) [] := by
 unfold iJ at h; refine SO Tryz.func141 rfl Tryz.ntmps141 fun C hN hρ => ?_; simp only [st0, aW, Nat.zero_add, Nat.reduceAdd]; refine AN hN ?_; refine aH ?_; refine AJ (fun S => ∃ (v1 : Bool), S = ⟨mkT [(2, .ptr 32 0), (3, .ptr 33 0), (4, .ptr 34 0), (13, .bool v1)], mkR [(32, .box 34 [.int .i64 a1, .int .i64 a2, .int .i64 a3, .int .i64 a4]), (33, .box 34 [.int .i64 a5, .int .i64 a6, .int .i64 a7, .int .i64 a8]), (34, .box 34 [.int .i64 0, .int .i64 0, .int .i64 0, .int .i64 0])], 64⟩ ∧ ij a1 a2 a3 a4 a5 a6 a7 a8 v1 = some r) hN ?_ ?_
 ·intro K hK; obtain ⟨x1, h1, h⟩ := aA h; simp only [EV, seval]; refine CP (be h1) ?_; obtain ⟨x3, hv1, h⟩ := aA h; rcases aR hv1 with ⟨hc1, hv1⟩ | ⟨hc1, hv1⟩
  ·cases hv1; simp only [EV, seval, hc1]; refine hK _ _ _ (show aM _ _ _ from aP ⟨_, rfl, h⟩ (aD [(32, some 64), (33, some 80), (34, some 96)] [] hρ (by kernel_rfl) ?_ ?_)) <;> simp only [AL, EV, seval, hc1]
  ·obtain ⟨x4, h3, hv1⟩ := aA hv1; simp only [EV, seval, hc1]; refine aj (be h3) (by simp only [AL, EV, seval, hc1]) (aN rfl) (ab rfl) ?_; cases hv1; simp only [EV, seval, hc1]; refine hK _ _ _ (show aM _ _ _ from aP ⟨_, rfl, h⟩ (aD [(32, some 64), (33, some 80), (34, some 96)] [] hρ (by kernel_rfl) ?_ ?_)) <;> simp only [AL, EV, seval, hc1]
 ·rintro S ⟨v1, rfl, h⟩; unfold ij at h; refine AB h (fun hc2 h => ?_) fun hc2 h => ?_
  ·refine AN hN ?_; injection h with h; subst h; exact AX (b' := 64) [(4, .ptr 32 0), (5, .bool false)] [(32, .box 34 [.int .i64 0, .int .i64 0, .int .i64 0, .int .i64 0])] [(32, some 34)] [] hρ (EQ [])
  ·refine aE (AK ?_); obtain ⟨x5, h4, h⟩ := aA h; refine AP hN (tJ h4) ?_; injection h with h; subst h; exact AX (b' := 64) [(4, .ptr 32 0), (5, .bool x5.2.2.2.2)] [(32, .box 34 [.int .i64 x5.1, .int .i64 x5.2.1, .int .i64 x5.2.2.1, .int .i64 x5.2.2.2.1])] [(32, some 34)] [] hρ (EQ [])
def tn : Option (Int × Int × Int × Int) :=
  some (0, 1, 0, -1)
theorem A2 {r : Int × Int × Int × Int} (h : tn = some r) :
    aU Tryz.prog 41 [] [] (.agg [.int .i64 r.1, .int .i64 r.2.1, .int .i64 r.2.2.1, .int .i64 r.2.2.2]) [] := by
 unfold tn at h; refine SO Tryz.func41 rfl Tryz.ntmps41 fun C hN hρ => ?_; simp only [st0, aW, Nat.zero_add, Nat.reduceAdd]; refine AN hN ?_; refine AN hN ?_; injection h with h; subst h; exact AX (b' := 64) [(0, .ptr 32 0)] [(32, .box 34 [.int .i64 0, .int .i64 1, .int .i64 0, .int .i64 (-1)])] [(32, some 64)] [] hρ (EQ [])
def fe (v2 v3 v4 v5 v6 v22 v23 v24 v25 : Int) : Option (Int × Int × Int × Int × Int × Bool) :=
  bO (kC v2 v3 v4 v5 v22 v23 v24 v25) fun x11 => br (!x11.2.2.2.2) (some (0, 0, 0, 0, 0, false)) (bO (iH x11.1 x11.2.1 x11.2.2.1 x11.2.2.2.1 v6) fun x12 => some (x12.1, x12.2.1, x12.2.2.1, x12.2.2.2.1, x12.2.2.2.2.1, x12.2.2.2.2.2))
def dV (v2 v3 v4 v5 v6 : Int) : Nat → Int → Int → Int → Int → Int → Option (Int × Int × Int × Int × Int × Bool)
  | 0, _, _, _, _, _ => none
  | n1 + 1, v17, v18, v19, v20, v21 =>
  br (decide (v17 < v6)) (bO (tn) fun x9 => bO (fc v18 v19 v20 v21 x9.1 x9.2.1 x9.2.2.1 x9.2.2.2) fun x10 => br (!x10.2.2.2.2) (some (0, 0, 0, 0, 0, false)) ((dV v2 v3 v4 v5 v6 n1) (IntKind.wrap .i64 (v17 + 1)) x10.1 x10.2.1 x10.2.2.1 x10.2.2.2.1)) (fe v2 v3 v4 v5 v6 v18 v19 v20 v21)
def eT (v2 v3 v4 v5 v6 v7 v8 v9 v10 v11 : Int) : Option (Int × Int × Int × Int × Int × Bool) :=
  dV v2 v3 v4 v5 v6 FU v11 v7 v8 v9 v10
def ik (a1 a2 a3 a4 a5 a6 a7 a8 a9 a10 : Int) (v1 : Bool) : Option (Int × Int × Int × Int × Int × Bool) :=
  br v1 (some (0, 0, 0, 0, 0, false)) (br (decide (a5 < a10)) (eT a6 a7 a8 a9 a10 a1 a2 a3 a4 a5) (eT a1 a2 a3 a4 a5 a6 a7 a8 a9 a10))
def iK (a1 a2 a3 a4 a5 a6 a7 a8 a9 a10 : Int) : Option (Int × Int × Int × Int × Int × Bool) :=
  bO (bU a1 a2 a3 a4 a5) fun x1 => bO (br (!x1) (some true) (bO (bU a6 a7 a8 a9 a10) fun x2 => some (!x2))) fun x3 => ik a1 a2 a3 a4 a5 a6 a7 a8 a9 a10 x3
theorem o2 {a1 a2 a3 a4 a5 a6 a7 a8 a9 a10 : Int} {r : Int × Int × Int × Int × Int × Bool} (h : iK a1 a2 a3 a4 a5 a6 a7 a8 a9 a10 = some r) :
    aU Tryz.prog 23 [.agg [.int .i64 a1, .int .i64 a2, .int .i64 a3, .int .i64 a4, .int .i64 a5], .agg [.int .i64 a6, .int .i64 a7, .int .i64 a8, .int .i64 a9, .int .i64 a10]] [] (.tup [.agg [.int .i64 r.1, .int .i64 r.2.1, .int .i64 r.2.2.1, .int .i64 r.2.2.2.1, .int .i64 r.2.2.2.2.1], .bool r.2.2.2.2.2]) [] := by
 unfold iK at h; refine SO Tryz.func23 rfl Tryz.ntmps23 fun C hN hρ => ?_; simp only [st0, aW, Nat.zero_add, Nat.reduceAdd]; refine AN hN ?_; refine aH ?_; refine AJ (fun S => ∃ (v1 : Bool), S = ⟨mkT [(2, .ptr 32 0), (3, .ptr 33 0), (4, .ptr 34 0), (21, .bool v1)], mkR [(32, .box 36 [.int .i64 a1, .int .i64 a2, .int .i64 a3, .int .i64 a4, .int .i64 a5]), (33, .box 36 [.int .i64 a6, .int .i64 a7, .int .i64 a8, .int .i64 a9, .int .i64 a10]), (34, .box 36 [.int .i64 0, .int .i64 0, .int .i64 0, .int .i64 0, .int .i64 0])], 64⟩ ∧ ik a1 a2 a3 a4 a5 a6 a7 a8 a9 a10 v1 = some r) hN ?_ ?_
 ·intro K hK; obtain ⟨x1, h1, h⟩ := aA h; simp only [EV, seval]; refine CP (c9 h1) ?_; obtain ⟨x3, hv1, h⟩ := aA h; rcases aR hv1 with ⟨hc1, hv1⟩ | ⟨hc1, hv1⟩
  ·cases hv1; simp only [EV, seval, hc1]; refine hK _ _ _ (show aM _ _ _ from aP ⟨_, rfl, h⟩ (aD [(32, some 64), (33, some 80), (34, some 96)] [] hρ (by kernel_rfl) ?_ ?_)) <;> simp only [AL, EV, seval, hc1]
  ·obtain ⟨x4, h3, hv1⟩ := aA hv1; simp only [EV, seval, hc1]; refine aj (c9 h3) (by simp only [AL, EV, seval, hc1]) (aN rfl) (ab rfl) ?_; cases hv1; simp only [EV, seval, hc1]; refine hK _ _ _ (show aM _ _ _ from aP ⟨_, rfl, h⟩ (aD [(32, some 64), (33, some 80), (34, some 96)] [] hρ (by kernel_rfl) ?_ ?_)) <;> simp only [AL, EV, seval, hc1]
 ·rintro S ⟨v1, rfl, h⟩; unfold ik at h; refine AB h (fun hc2 h => ?_) fun hc2 h => ?_
  ·refine AN hN ?_; injection h with h; subst h; exact AX (b' := 64) [(4, .ptr 32 0), (5, .bool false)] [(32, .box 36 [.int .i64 0, .int .i64 0, .int .i64 0, .int .i64 0, .int .i64 0])] [(32, some 34)] [] hρ (EQ [])
  ·refine aE (AK ?_); refine aQ (fun S => ∃ (v2 v3 v4 v5 v6 v7 v8 v9 v10 v11 : Int), S = ⟨mkT [(2, .ptr 32 0), (3, .ptr 33 0), (4, .ptr 34 0)], mkR [(32, .box 36 [.int .i64 v2, .int .i64 v3, .int .i64 v4, .int .i64 v5, .int .i64 v6]), (33, .box 36 [.int .i64 v7, .int .i64 v8, .int .i64 v9, .int .i64 v10, .int .i64 v11]), (34, .box 36 [.int .i64 0, .int .i64 0, .int .i64 0, .int .i64 0, .int .i64 0])], 64⟩ ∧ eT v2 v3 v4 v5 v6 v7 v8 v9 v10 v11 = some r) ?_ ?_
   ·refine AN hN ?_; refine AB h (fun hc3 h => ?_) fun hc3 h => ?_
    ·refine AS hN fun K hK => ?_; simp only [EV, seval]; exact hK _ _ _ (AC ⟨_, _, _, _, _, _, _, _, _, _, rfl, h⟩ [(32, some 32), (33, some 33), (34, some 34)] [] hρ)
    ·refine aE (show aM _ _ _ from aP ⟨_, _, _, _, _, _, _, _, _, _, rfl, h⟩ (aD [(32, some 32), (33, some 33), (34, some 34)] [] hρ (by kernel_rfl) ?_ ?_)) <;> simp only [AL, EV, seval]
   ·rintro S ⟨v2, v3, v4, v5, v6, v7, v8, v9, v10, v11, rfl, h⟩; unfold eT at h; refine AN hN ?_; refine aQ (fun S => ∃ (v22 v23 v24 v25 : Int), S = ⟨mkT [(2, .ptr 32 0), (4, .ptr 33 0), (6, .ptr 34 0)], mkR [(32, .box 36 [.int .i64 v2, .int .i64 v3, .int .i64 v4, .int .i64 v5, .int .i64 v6]), (33, .box 36 [.int .i64 0, .int .i64 0, .int .i64 0, .int .i64 0, .int .i64 0]), (34, .box 34 [.int .i64 v22, .int .i64 v23, .int .i64 v24, .int .i64 v25])], 64⟩ ∧ fe v2 v3 v4 v5 v6 v22 v23 v24 v25 = some r) ?_ ?_
    ·refine AN hN ?_; refine aJ ?_; refine aX (fun n S => ∃ (v17 v18 v19 v20 v21 : Int), S = ⟨mkT [(2, .ptr 32 0), (4, .ptr 33 0), (6, .ptr 34 0), (7, .int .i64 v17)], mkR [(32, .box 36 [.int .i64 v2, .int .i64 v3, .int .i64 v4, .int .i64 v5, .int .i64 v6]), (33, .box 36 [.int .i64 0, .int .i64 0, .int .i64 0, .int .i64 0, .int .i64 0]), (34, .box 34 [.int .i64 v18, .int .i64 v19, .int .i64 v20, .int .i64 v21])], 64⟩ ∧ dV v2 v3 v4 v5 v6 n v17 v18 v19 v20 v21 = some r) FU ?_ ?_ ?_
     ·exact AC ⟨_, _, _, _, _, rfl, h⟩ [(32, some 32), (33, some 34), (34, some 96)] [] hρ
     ·rintro S ⟨_, _, _, _, _, _, h⟩; rw [dV] at h; cases h
     ·rintro n1 S ⟨v17, v18, v19, v20, v21, rfl, h⟩; rw [dV] at h; refine aH ?_; refine AN hN ?_; refine AB h (fun hc8 h => ?_) fun hc8 h => ?_
      ·refine aE (AK ?_); refine aH ?_; refine aJ ?_; refine AR hN fun K hK => ?_; obtain ⟨x9, h8, h⟩ := aA h; simp only [EV, seval]; refine CP (A2 h8) ?_; obtain ⟨x10, h9, h⟩ := aA h; simp only [EV, seval]; refine CP (o0 h9) ?_; simp only [EV, seval]; apply hK; clear hK K; refine aH ?_; refine AN hN ?_; refine AB h (fun hc9 h => ?_) fun hc9 h => ?_
       ·refine AN hN ?_; injection h with h; subst h; exact AX (b' := 64) [(4, .ptr 32 0), (5, .bool false)] [(32, .box 36 [.int .i64 0, .int .i64 0, .int .i64 0, .int .i64 0, .int .i64 0])] [(32, some 33)] [] hρ (EQ [])
       ·refine aE (AK ?_); refine AS hN fun K hK => ?_; simp only [EV, seval]; refine hK _ _ _ (show AW _ _ _ _ _ from ?_); refine AS hN fun K hK => ?_; simp only [EV, seval]; exact hK _ _ _ (AC ⟨_, _, _, _, _, rfl, h⟩ [(32, some 32), (33, some 33), (34, some 34)] [] hρ)
      ·exact aa (AC ⟨_, _, _, _, rfl, h⟩ [(32, some 32), (33, some 33), (34, some 34)] [] hρ)
    ·rintro S ⟨v22, v23, v24, v25, rfl, h⟩; unfold fe at h; obtain ⟨x11, h10, h⟩ := aA h; refine AP hN (rq h10) ?_; refine aH ?_; refine AN hN ?_; refine AB h (fun hc10 h => ?_) fun hc10 h => ?_
     ·refine AN hN ?_; injection h with h; subst h; exact AX (b' := 64) [(4, .ptr 32 0), (5, .bool false)] [(32, .box 36 [.int .i64 0, .int .i64 0, .int .i64 0, .int .i64 0, .int .i64 0])] [(32, some 33)] [] hρ (EQ [])
     ·refine aE (AK ?_); obtain ⟨x12, h11, h⟩ := aA h; refine AP hN (nu h11) ?_; refine AN hN ?_; injection h with h; subst h; exact AX (b' := 64) [(4, .ptr 32 0), (5, .bool x12.2.2.2.2.2)] [(32, .box 36 [.int .i64 x12.1, .int .i64 x12.2.1, .int .i64 x12.2.2.1, .int .i64 x12.2.2.2.1, .int .i64 x12.2.2.2.2.1])] [(32, some 33)] [] hρ (EQ [])
def qY (v11 v12 v13 v14 : Int) : Option (Int × Int × Int × Int × Bool) :=
  some (v11, v12, v13, v14, true)
def ja (a5 : Int) : Nat → Int → Int → Int → Int → Int → Option (Int × Int × Int × Int × Bool)
  | 0, _, _, _, _, _ => none
  | n1 + 1, v6, v7, v8, v9, v10 =>
  br (decide (v6 < a5)) (bO (fd v7 v8 v9 v10 0 1 0 (-1)) fun x3 => br (!x3.2.2.2.2) (some (0, 0, 0, 0, false)) ((ja a5 n1) (IntKind.wrap .i64 (v6 + 1)) x3.1 x3.2.1 x3.2.2.1 x3.2.2.2.1)) (qY v7 v8 v9 v10)
def qZ (a1 a2 a3 a4 a5 : Int) : Option (Int × Int × Int × Int × Bool) :=
  ja a5 FU 0 a1 a2 a3 a4
theorem tK {a1 a2 a3 a4 a5 : Int} {r : Int × Int × Int × Int × Bool} (h : qZ a1 a2 a3 a4 a5 = some r) :
    aU Tryz.prog 140 [.agg [.int .i64 a1, .int .i64 a2, .int .i64 a3, .int .i64 a4], .int .i64 a5] [] (.tup [.agg [.int .i64 r.1, .int .i64 r.2.1, .int .i64 r.2.2.1, .int .i64 r.2.2.2.1], .bool r.2.2.2.2]) [] := by
 unfold qZ at h; refine SO Tryz.func140 rfl Tryz.ntmps140 fun C hN hρ => ?_; simp only [st0, aW, Nat.zero_add, Nat.reduceAdd]; refine AN hN ?_; refine aQ (fun S => ∃ (v11 v12 v13 v14 : Int), S = ⟨mkT [(2, .ptr 32 0), (4, .ptr 33 0)], mkR [(32, .box 34 [.int .i64 v11, .int .i64 v12, .int .i64 v13, .int .i64 v14]), (33, .box 34 [.int .i64 0, .int .i64 0, .int .i64 0, .int .i64 0])], 64⟩ ∧ qY v11 v12 v13 v14 = some r) ?_ ?_
 ·refine AN hN ?_; refine aJ ?_; refine aX (fun n S => ∃ (v6 v7 v8 v9 v10 : Int), S = ⟨mkT [(1, .int .i64 a5), (2, .ptr 32 0), (4, .ptr 33 0), (6, .int .i64 v6)], mkR [(32, .box 34 [.int .i64 v7, .int .i64 v8, .int .i64 v9, .int .i64 v10]), (33, .box 34 [.int .i64 0, .int .i64 0, .int .i64 0, .int .i64 0])], 64⟩ ∧ ja a5 n v6 v7 v8 v9 v10 = some r) FU ?_ ?_ ?_
  ·exact AC ⟨_, _, _, _, _, rfl, h⟩ [(32, some 64), (33, some 80)] [] hρ
  ·rintro S ⟨_, _, _, _, _, _, h⟩; rw [ja] at h; cases h
  ·rintro n1 S ⟨v6, v7, v8, v9, v10, rfl, h⟩; rw [ja] at h; refine aH ?_; refine AN hN ?_; refine AB h (fun hc5 h => ?_) fun hc5 h => ?_
   ·refine aE (AK ?_); refine aH ?_; refine aJ ?_; obtain ⟨x3, h3, h⟩ := aA h; refine AP hN (o1 h3) ?_; refine aH ?_; refine AN hN ?_; refine AB h (fun hc6 h => ?_) fun hc6 h => ?_
    ·refine AN hN ?_; injection h with h; subst h; exact AX (b' := 64) [(4, .ptr 32 0), (5, .bool false)] [(32, .box 34 [.int .i64 0, .int .i64 0, .int .i64 0, .int .i64 0])] [(32, some 33)] [] hρ (EQ [])
    ·refine aE (AK ?_); refine AS hN fun K hK => ?_; simp only [EV, seval]; refine hK _ _ _ (show AW _ _ _ _ _ from ?_); refine AS hN fun K hK => ?_; simp only [EV, seval]; exact hK _ _ _ (AC ⟨_, _, _, _, _, rfl, h⟩ [(32, some 32), (33, some 33)] [] hρ)
   ·exact aa (AC ⟨_, _, _, _, rfl, h⟩ [(32, some 32), (33, some 33)] [] hρ)
 ·rintro S ⟨v11, v12, v13, v14, rfl, h⟩; unfold qY at h; refine AN hN ?_; injection h with h; subst h; exact AX (b' := 64) [(4, .ptr 32 0), (5, .bool true)] [(32, .box 34 [.int .i64 v11, .int .i64 v12, .int .i64 v13, .int .i64 v14])] [(32, some 33)] [] hρ (EQ [])
def ff (x5 : Int) (x8 : Int × Int × Int × Int × Bool) (v2 : Bool) : Option (Int × Int × Int × Int × Int × Bool) :=
  br v2 (some (0, 0, 0, 0, 0, false)) (bO (iI x8.1 x8.2.1 x8.2.2.1 x8.2.2.2.1 x5) fun x13 => some (x13.1, x13.2.1, x13.2.2.1, x13.2.2.2.1, x13.2.2.2.2.1, x13.2.2.2.2.2))
def il (a1 a2 a3 a4 a5 a6 a7 a8 a9 a10 : Int) (v1 : Bool) : Option (Int × Int × Int × Int × Int × Bool) :=
  br v1 (some (0, 0, 0, 0, 0, false)) (bO (jk a5 a10) fun x5 => bO (qZ a1 a2 a3 a4 (IntKind.wrap .i64 (x5 - a5))) fun x6 => bO (qZ a6 a7 a8 a9 (IntKind.wrap .i64 (x5 - a10))) fun x7 => bO (iJ x6.1 x6.2.1 x6.2.2.1 x6.2.2.2.1 x7.1 x7.2.1 x7.2.2.1 x7.2.2.2.1) fun x8 => bO (br (!x6.2.2.2.2) (some true) (some (!x7.2.2.2.2))) fun x9 => bO (br x9 (some true) (some (!x8.2.2.2.2))) fun x10 => ff x5 x8 x10)
def kD (a1 a2 a3 a4 a5 a6 a7 a8 a9 a10 : Int) : Option (Int × Int × Int × Int × Int × Bool) :=
  bO (cE a1 a2 a3 a4 a5) fun x1 => bO (br (!x1) (some true) (bO (cE a6 a7 a8 a9 a10) fun x2 => some (!x2))) fun x3 => il a1 a2 a3 a4 a5 a6 a7 a8 a9 a10 x3
theorem ru {a1 a2 a3 a4 a5 a6 a7 a8 a9 a10 : Int} {r : Int × Int × Int × Int × Int × Bool} (h : kD a1 a2 a3 a4 a5 a6 a7 a8 a9 a10 = some r) :
    aU Tryz.prog 122 [.agg [.int .i64 a1, .int .i64 a2, .int .i64 a3, .int .i64 a4, .int .i64 a5], .agg [.int .i64 a6, .int .i64 a7, .int .i64 a8, .int .i64 a9, .int .i64 a10]] [] (.tup [.agg [.int .i64 r.1, .int .i64 r.2.1, .int .i64 r.2.2.1, .int .i64 r.2.2.2.1, .int .i64 r.2.2.2.2.1], .bool r.2.2.2.2.2]) [] := by
 unfold kD at h; refine SO Tryz.func122 rfl Tryz.ntmps122 fun C hN hρ => ?_; simp only [st0, aW, Nat.zero_add, Nat.reduceAdd]; refine AN hN ?_; refine aH ?_; refine AJ (fun S => ∃ (v1 : Bool), S = ⟨mkT [(2, .ptr 32 0), (3, .ptr 33 0), (4, .ptr 34 0), (20, .bool v1)], mkR [(32, .box 36 [.int .i64 a1, .int .i64 a2, .int .i64 a3, .int .i64 a4, .int .i64 a5]), (33, .box 36 [.int .i64 a6, .int .i64 a7, .int .i64 a8, .int .i64 a9, .int .i64 a10]), (34, .box 36 [.int .i64 0, .int .i64 0, .int .i64 0, .int .i64 0, .int .i64 0])], 64⟩ ∧ il a1 a2 a3 a4 a5 a6 a7 a8 a9 a10 v1 = some r) hN ?_ ?_
 ·intro K hK; obtain ⟨x1, h1, h⟩ := aA h; simp only [EV, seval]; refine CP (cw h1) ?_; obtain ⟨x3, hv1, h⟩ := aA h; rcases aR hv1 with ⟨hc1, hv1⟩ | ⟨hc1, hv1⟩
  ·cases hv1; simp only [EV, seval, hc1]; refine hK _ _ _ (show aM _ _ _ from aP ⟨_, rfl, h⟩ (aD [(32, some 64), (33, some 80), (34, some 96)] [] hρ (by kernel_rfl) ?_ ?_)) <;> simp only [AL, EV, seval, hc1]
  ·obtain ⟨x4, h3, hv1⟩ := aA hv1; simp only [EV, seval, hc1]; refine aj (cw h3) (by simp only [AL, EV, seval, hc1]) (aN rfl) (ab rfl) ?_; cases hv1; simp only [EV, seval, hc1]; refine hK _ _ _ (show aM _ _ _ from aP ⟨_, rfl, h⟩ (aD [(32, some 64), (33, some 80), (34, some 96)] [] hρ (by kernel_rfl) ?_ ?_)) <;> simp only [AL, EV, seval, hc1]
 ·rintro S ⟨v1, rfl, h⟩; unfold il at h; refine AB h (fun hc2 h => ?_) fun hc2 h => ?_
  ·refine AN hN ?_; injection h with h; subst h; exact AX (b' := 64) [(4, .ptr 32 0), (5, .bool false)] [(32, .box 36 [.int .i64 0, .int .i64 0, .int .i64 0, .int .i64 0, .int .i64 0])] [(32, some 34)] [] hρ (EQ [])
  ·refine aE (AK ?_); obtain ⟨x5, h4, h⟩ := aA h; refine AP hN (pP h4) ?_; obtain ⟨x6, h5, h⟩ := aA h; refine AP hN (tK h5) ?_; obtain ⟨x7, h6, h⟩ := aA h; refine AP hN (tK h6) ?_; obtain ⟨x8, h7, h⟩ := aA h; refine AP hN (rr h7) ?_; refine aH ?_; refine AJ (fun S => ∃ (v2 : Bool), S = ⟨mkT [(4, .ptr 32 0), (6, .int .i64 x5), (11, .ptr 33 0), (62, .bool v2)], mkR [(32, .box 36 [.int .i64 0, .int .i64 0, .int .i64 0, .int .i64 0, .int .i64 0]), (33, .box 34 [.int .i64 x8.1, .int .i64 x8.2.1, .int .i64 x8.2.2.1, .int .i64 x8.2.2.2.1])], 64⟩ ∧ ff x5 x8 v2 = some r) hN ?_ ?_
   ·intro K hK; obtain ⟨x9, hv2, h⟩ := aA h; rcases aR hv2 with ⟨hc3, hv2⟩ | ⟨hc3, hv2⟩
    ·cases hv2; obtain ⟨x11, hv4, h⟩ := aA h; replace hv4 := iX hv4; cases hv4; (try dsimp only at h); simp only [EV, seval, hc3]; refine hK _ _ _ (show aM _ _ _ from aP ⟨_, rfl, h⟩ (aD [(32, some 34), (33, some 3232)] [] hρ (by kernel_rfl) ?_ ?_)) <;> simp only [AL, EV, seval, hc3]
    ·cases hv2; obtain ⟨x12, hv5, h⟩ := aA h; rcases aR hv5 with ⟨hc5, hv5⟩ | ⟨hc5, hv5⟩
     ·cases hv5; simp only [EV, seval, hc3, hc5]; refine hK _ _ _ (show aM _ _ _ from aP ⟨_, rfl, h⟩ (aD [(32, some 34), (33, some 3232)] [] hρ (by kernel_rfl) ?_ ?_)) <;> simp only [AL, EV, seval, hc3, hc5]
     ·cases hv5; simp only [EV, seval, hc3, hc5]; refine hK _ _ _ (show aM _ _ _ from aP ⟨_, rfl, h⟩ (aD [(32, some 34), (33, some 3232)] [] hρ (by kernel_rfl) ?_ ?_)) <;> simp only [AL, EV, seval, hc3, hc5]
   ·rintro S ⟨v2, rfl, h⟩; unfold ff at h; refine AB h (fun hc6 h => ?_) fun hc6 h => ?_
    ·refine AN hN ?_; injection h with h; subst h; exact AX (b' := 64) [(4, .ptr 32 0), (5, .bool false)] [(32, .box 36 [.int .i64 0, .int .i64 0, .int .i64 0, .int .i64 0, .int .i64 0])] [(32, some 32)] [] hρ (EQ [])
    ·refine aE (AK ?_); obtain ⟨x13, h8, h⟩ := aA h; refine AP hN (nv h8) ?_; injection h with h; subst h; exact AX (b' := 64) [(4, .ptr 32 0), (5, .bool x13.2.2.2.2.2)] [(32, .box 36 [.int .i64 x13.1, .int .i64 x13.2.1, .int .i64 x13.2.2.1, .int .i64 x13.2.2.2.1, .int .i64 x13.2.2.2.2.1])] [(32, some 32)] [] hρ (EQ [])
def im (a1 a2 a3 a4 a5 a6 a7 a8 a9 a10 : Int) (v1 : Bool) : Option (Int × Int × Int × Int × Int × Bool) :=
  br v1 (some (0, 0, 0, 0, 0, false)) (bO (fc a1 a2 a3 a4 a6 a7 a8 a9) fun x5 => br (!x5.2.2.2.2) (some (0, 0, 0, 0, 0, false)) (bO (iH x5.1 x5.2.1 x5.2.2.1 x5.2.2.2.1 (IntKind.wrap .i64 (a5 + a10))) fun x6 => some (x6.1, x6.2.1, x6.2.2.1, x6.2.2.2.1, x6.2.2.2.2.1, x6.2.2.2.2.2)))
def fg (a1 a2 a3 a4 a5 a6 a7 a8 a9 a10 : Int) : Option (Int × Int × Int × Int × Int × Bool) :=
  bO (bU a1 a2 a3 a4 a5) fun x1 => bO (br (!x1) (some true) (bO (bU a6 a7 a8 a9 a10) fun x2 => some (!x2))) fun x3 => im a1 a2 a3 a4 a5 a6 a7 a8 a9 a10 x3
theorem la {a1 a2 a3 a4 a5 a6 a7 a8 a9 a10 : Int} {r : Int × Int × Int × Int × Int × Bool} (h : fg a1 a2 a3 a4 a5 a6 a7 a8 a9 a10 = some r) :
    aU Tryz.prog 70 [.agg [.int .i64 a1, .int .i64 a2, .int .i64 a3, .int .i64 a4, .int .i64 a5], .agg [.int .i64 a6, .int .i64 a7, .int .i64 a8, .int .i64 a9, .int .i64 a10]] [] (.tup [.agg [.int .i64 r.1, .int .i64 r.2.1, .int .i64 r.2.2.1, .int .i64 r.2.2.2.1, .int .i64 r.2.2.2.2.1], .bool r.2.2.2.2.2]) [] := by
 unfold fg at h; refine SO Tryz.func70 rfl Tryz.ntmps70 fun C hN hρ => ?_; simp only [st0, aW, Nat.zero_add, Nat.reduceAdd]; refine AN hN ?_; refine aH ?_; refine AJ (fun S => ∃ (v1 : Bool), S = ⟨mkT [(2, .ptr 32 0), (3, .ptr 33 0), (4, .ptr 34 0), (17, .bool v1)], mkR [(32, .box 36 [.int .i64 a1, .int .i64 a2, .int .i64 a3, .int .i64 a4, .int .i64 a5]), (33, .box 36 [.int .i64 a6, .int .i64 a7, .int .i64 a8, .int .i64 a9, .int .i64 a10]), (34, .box 36 [.int .i64 0, .int .i64 0, .int .i64 0, .int .i64 0, .int .i64 0])], 64⟩ ∧ im a1 a2 a3 a4 a5 a6 a7 a8 a9 a10 v1 = some r) hN ?_ ?_
 ·intro K hK; obtain ⟨x1, h1, h⟩ := aA h; simp only [EV, seval]; refine CP (c9 h1) ?_; obtain ⟨x3, hv1, h⟩ := aA h; rcases aR hv1 with ⟨hc1, hv1⟩ | ⟨hc1, hv1⟩
  ·cases hv1; simp only [EV, seval, hc1]; refine hK _ _ _ (show aM _ _ _ from aP ⟨_, rfl, h⟩ (aD [(32, some 64), (33, some 80), (34, some 96)] [] hρ (by kernel_rfl) ?_ ?_)) <;> simp only [AL, EV, seval, hc1]
  ·obtain ⟨x4, h3, hv1⟩ := aA hv1; simp only [EV, seval, hc1]; refine aj (c9 h3) (by simp only [AL, EV, seval, hc1]) (aN rfl) (ab rfl) ?_; cases hv1; simp only [EV, seval, hc1]; refine hK _ _ _ (show aM _ _ _ from aP ⟨_, rfl, h⟩ (aD [(32, some 64), (33, some 80), (34, some 96)] [] hρ (by kernel_rfl) ?_ ?_)) <;> simp only [AL, EV, seval, hc1]
 ·rintro S ⟨v1, rfl, h⟩; unfold im at h; refine AB h (fun hc2 h => ?_) fun hc2 h => ?_
  ·refine AN hN ?_; injection h with h; subst h; exact AX (b' := 64) [(4, .ptr 32 0), (5, .bool false)] [(32, .box 36 [.int .i64 0, .int .i64 0, .int .i64 0, .int .i64 0, .int .i64 0])] [(32, some 34)] [] hρ (EQ [])
  ·refine aE (AK ?_); obtain ⟨x5, h4, h⟩ := aA h; refine AP hN (o0 h4) ?_; refine aH ?_; refine AN hN ?_; refine AB h (fun hc3 h => ?_) fun hc3 h => ?_
   ·refine AN hN ?_; injection h with h; subst h; exact AX (b' := 64) [(4, .ptr 32 0), (5, .bool false)] [(32, .box 36 [.int .i64 0, .int .i64 0, .int .i64 0, .int .i64 0, .int .i64 0])] [(32, some 34)] [] hρ (EQ [])
   ·refine aE (AK ?_); obtain ⟨x6, h5, h⟩ := aA h; refine AP hN (nu h5) ?_; refine AN hN ?_; injection h with h; subst h; exact AX (b' := 64) [(4, .ptr 32 0), (5, .bool x6.2.2.2.2.2)] [(32, .box 36 [.int .i64 x6.1, .int .i64 x6.2.1, .int .i64 x6.2.2.1, .int .i64 x6.2.2.2.1, .int .i64 x6.2.2.2.2.1])] [(32, some 34)] [] hρ (EQ [])
def io (a5 a10 : Int) (x1 : Int × Int × Int × Int × Bool) (v1 : Bool) : Option (Int × Int × Int × Int × Int × Bool) :=
  br v1 (some (0, 0, 0, 0, 0, false)) (bO (iI x1.1 x1.2.1 x1.2.2.1 x1.2.2.2.1 (IntKind.wrap .i64 (a5 + a10))) fun x9 => some (x9.1, x9.2.1, x9.2.2.1, x9.2.2.2.1, x9.2.2.2.2.1, x9.2.2.2.2.2))
def kE (a1 a2 a3 a4 a5 a6 a7 a8 a9 a10 : Int) : Option (Int × Int × Int × Int × Int × Bool) :=
  bO (fd a1 a2 a3 a4 a6 a7 a8 a9) fun x1 => bO (cE a1 a2 a3 a4 a5) fun x2 => bO (br (!x2) (some true) (bO (cE a6 a7 a8 a9 a10) fun x3 => some (!x3))) fun x4 => bO (br x4 (some true) (some (!x1.2.2.2.2))) fun x5 => io a5 a10 x1 x5
theorem rv {a1 a2 a3 a4 a5 a6 a7 a8 a9 a10 : Int} {r : Int × Int × Int × Int × Int × Bool} (h : kE a1 a2 a3 a4 a5 a6 a7 a8 a9 a10 = some r) :
    aU Tryz.prog 121 [.agg [.int .i64 a1, .int .i64 a2, .int .i64 a3, .int .i64 a4, .int .i64 a5], .agg [.int .i64 a6, .int .i64 a7, .int .i64 a8, .int .i64 a9, .int .i64 a10]] [] (.tup [.agg [.int .i64 r.1, .int .i64 r.2.1, .int .i64 r.2.2.1, .int .i64 r.2.2.2.1, .int .i64 r.2.2.2.2.1], .bool r.2.2.2.2.2]) [] := by
 unfold kE at h; refine SO Tryz.func121 rfl Tryz.ntmps121 fun C hN hρ => ?_; simp only [st0, aW, Nat.zero_add, Nat.reduceAdd]; refine AN hN ?_; obtain ⟨x1, h1, h⟩ := aA h; refine AP hN (o1 h1) ?_; refine aH ?_; refine AJ (fun S => ∃ (v1 : Bool), S = ⟨mkT [(2, .ptr 32 0), (3, .ptr 33 0), (4, .ptr 34 0), (6, .ptr 35 0), (27, .bool v1)], mkR [(32, .box 36 [.int .i64 a1, .int .i64 a2, .int .i64 a3, .int .i64 a4, .int .i64 a5]), (33, .box 36 [.int .i64 a6, .int .i64 a7, .int .i64 a8, .int .i64 a9, .int .i64 a10]), (34, .box 36 [.int .i64 0, .int .i64 0, .int .i64 0, .int .i64 0, .int .i64 0]), (35, .box 34 [.int .i64 x1.1, .int .i64 x1.2.1, .int .i64 x1.2.2.1, .int .i64 x1.2.2.2.1])], 64⟩ ∧ io a5 a10 x1 v1 = some r) hN ?_ ?_
 ·intro K hK; obtain ⟨x2, h2, h⟩ := aA h; simp only [EV, seval]; refine CP (cw h2) ?_; obtain ⟨x4, hv1, h⟩ := aA h; rcases aR hv1 with ⟨hc1, hv1⟩ | ⟨hc1, hv1⟩
  ·cases hv1; obtain ⟨x6, hv3, h⟩ := aA h; replace hv3 := iX hv3; cases hv3; (try dsimp only at h); simp only [EV, seval, hc1]; refine hK _ _ _ (show aM _ _ _ from aP ⟨_, rfl, h⟩ (aD [(32, some 64), (33, some 80), (34, some 96), (35, some 1216)] [] hρ (by kernel_rfl) ?_ ?_)) <;> simp only [AL, EV, seval, hc1]
  ·obtain ⟨x7, h4, hv1⟩ := aA hv1; simp only [EV, seval, hc1]; refine aj (cw h4) (by simp only [AL, EV, seval, hc1]) (aN rfl) (ab rfl) ?_; cases hv1; obtain ⟨x8, hv4, h⟩ := aA h; rcases aR hv4 with ⟨hc3, hv4⟩ | ⟨hc3, hv4⟩
   ·cases hv4; simp only [EV, seval, hc1, hc3]; refine hK _ _ _ (show aM _ _ _ from aP ⟨_, rfl, h⟩ (aD [(32, some 64), (33, some 80), (34, some 96), (35, some 1216)] [] hρ (by kernel_rfl) ?_ ?_)) <;> simp only [AL, EV, seval, hc1, hc3]
   ·cases hv4; simp only [EV, seval, hc1, hc3]; refine hK _ _ _ (show aM _ _ _ from aP ⟨_, rfl, h⟩ (aD [(32, some 64), (33, some 80), (34, some 96), (35, some 1216)] [] hρ (by kernel_rfl) ?_ ?_)) <;> simp only [AL, EV, seval, hc1, hc3]
 ·rintro S ⟨v1, rfl, h⟩; unfold io at h; refine AB h (fun hc4 h => ?_) fun hc4 h => ?_
  ·refine AN hN ?_; injection h with h; subst h; exact AX (b' := 64) [(4, .ptr 32 0), (5, .bool false)] [(32, .box 36 [.int .i64 0, .int .i64 0, .int .i64 0, .int .i64 0, .int .i64 0])] [(32, some 34)] [] hρ (EQ [])
  ·refine aE (AK ?_); obtain ⟨x9, h5, h⟩ := aA h; refine AP hN (nv h5) ?_; injection h with h; subst h; exact AX (b' := 64) [(4, .ptr 32 0), (5, .bool x9.2.2.2.2.2)] [(32, .box 36 [.int .i64 x9.1, .int .i64 x9.2.1, .int .i64 x9.2.2.1, .int .i64 x9.2.2.2.1, .int .i64 x9.2.2.2.2.1])] [(32, some 34)] [] hρ (EQ [])
def kV : Option Int :=
  some 0
def bj (a1 : LF) : Nat → Int → Option Int
  | 0, _ => none
  | n1 + 1, v2 =>
  br (decide (v2 ≤ 4)) (gd (decide (¬ v2 < 0)) (br (((a1.length : Int)) == (IntKind.wrap .i64 (1 * 2 ^ min (Int.toNat v2) (IntKind.bits .i64)))) (some v2) ((bj a1 n1) (IntKind.wrap .i64 (v2 + 1))))) (kV)
def g7 (a1 : LF) : Option Int :=
  bj a1 FU 1
theorem nc {a1 : LF} {r : Int} (h : g7 a1 = some r) :
    aU Tryz.prog 68 [.sl (aB aT a1) a1.length] [] (.int .i64 r) [] := by
 unfold g7 at h; refine SO Tryz.func68 rfl Tryz.ntmps68 fun C hN hρ => ?_; simp only [st0, aW, Nat.zero_add, Nat.reduceAdd]; refine AN hN ?_; refine aQ (fun S => S = ⟨mkT [], mkR [], 64⟩ ∧ kV = some r) ?_ ?_
 ·refine AN hN ?_; refine aJ ?_; refine aX (fun n S => ∃ (v2 : Int), S = ⟨mkT [(0, .sl (aB aT a1) a1.length), (3, .int .i64 v2)], mkR [], 64⟩ ∧ bj a1 n v2 = some r) FU ?_ ?_ ?_
  ·exact AC ⟨_, rfl, h⟩ [] [] hρ
  ·rintro S ⟨_, _, h⟩; rw [bj] at h; cases h
  ·rintro n1 S ⟨v2, rfl, h⟩; rw [bj] at h; refine aH ?_; refine AN hN ?_; refine AB h (fun hc5 h => ?_) fun hc5 h => ?_
   ·refine aE (AK ?_); refine aH ?_; refine aJ ?_; refine AR hN fun K hK => ?_; obtain ⟨h2, h⟩ := gdI h; simp only [EV, seval, h2]; apply hK; clear hK K; refine ah (a := .bool (((a1.length : Int)) == (IntKind.wrap .i64 (1 * 2 ^ min (Int.toNat v2) (IntKind.bits .i64))))) (by simp only [EV, seval, h2]) (brK h (fun hc6 h => ?_) (fun hc6 h => ?_))
    ·refine AN hN ?_; injection h with h; subst h; exact AX (b' := 64) [(2, .int .i64 v2)] [] [] [] hρ (EQ [])
    ·refine aE (AK ?_); refine AS hN fun K hK => ?_; simp only [EV, seval]; exact hK _ _ _ (AC ⟨_, rfl, h⟩ [] [] hρ)
   ·exact aa (AC ⟨rfl, h⟩ [] [] hρ)
 ·rintro S ⟨rfl, h⟩; unfold kV at h; refine AN hN ?_; injection h with h; subst h; exact AX (b' := 64) [(2, .int .i64 0)] [] [] [] hρ (EQ [])
def kW : Option Int :=
  some 0
def bk (a1 : LF) : Nat → Int → Option Int
  | 0, _ => none
  | n1 + 1, v2 =>
  br (decide (v2 ≤ 4)) (gd (decide (¬ (IntKind.wrap .u64 v2) < 0)) (br (((a1.length : Int)) == (IntKind.wrap .i64 (1 * 2 ^ min (Int.toNat (IntKind.wrap .u64 v2)) (IntKind.bits .i64)))) (some v2) ((bk a1 n1) (IntKind.wrap .i64 (v2 + 1))))) (kW)
def g8 (a1 : LF) : Option Int :=
  bk a1 FU 1
theorem ne {a1 : LF} {r : Int} (h : g8 a1 = some r) :
    aU Tryz.prog 119 [.sl (aB aT a1) a1.length] [] (.int .i64 r) [] := by
 unfold g8 at h; refine SO Tryz.func119 rfl Tryz.ntmps119 fun C hN hρ => ?_; simp only [st0, aW, Nat.zero_add, Nat.reduceAdd]; refine AN hN ?_; refine aQ (fun S => S = ⟨mkT [], mkR [], 64⟩ ∧ kW = some r) ?_ ?_
 ·refine AN hN ?_; refine aJ ?_; refine aX (fun n S => ∃ (v2 : Int), S = ⟨mkT [(0, .sl (aB aT a1) a1.length), (3, .int .i64 v2)], mkR [], 64⟩ ∧ bk a1 n v2 = some r) FU ?_ ?_ ?_
  ·exact AC ⟨_, rfl, h⟩ [] [] hρ
  ·rintro S ⟨_, _, h⟩; rw [bk] at h; cases h
  ·rintro n1 S ⟨v2, rfl, h⟩; rw [bk] at h; refine aH ?_; refine AN hN ?_; refine AB h (fun hc5 h => ?_) fun hc5 h => ?_
   ·refine aE (AK ?_); refine aH ?_; refine aJ ?_; refine AR hN fun K hK => ?_; obtain ⟨h3, h⟩ := gdI h; simp only [EV, seval, h3]; apply hK; clear hK K; refine ah (a := .bool (((a1.length : Int)) == (IntKind.wrap .i64 (1 * 2 ^ min (Int.toNat (IntKind.wrap .u64 v2)) (IntKind.bits .i64))))) (by simp only [EV, seval, h3]) (brK h (fun hc6 h => ?_) (fun hc6 h => ?_))
    ·refine AN hN ?_; injection h with h; subst h; exact AX (b' := 64) [(2, .int .i64 v2)] [] [] [] hρ (EQ [])
    ·refine aE (AK ?_); refine AS hN fun K hK => ?_; simp only [EV, seval]; exact hK _ _ _ (AC ⟨_, rfl, h⟩ [] [] hρ)
   ·exact aa (AC ⟨rfl, h⟩ [] [] hρ)
 ·rintro S ⟨rfl, h⟩; unfold kW at h; refine AN hN ?_; injection h with h; subst h; exact AX (b' := 64) [(2, .int .i64 0)] [] [] [] hρ (EQ [])
def ip : Option Bool :=
  some true
def bb (a1 : LF) : Nat → Int → Int → Option Bool
  | 0, _, _ => none
  | n1 + 1, v4, v5 =>
  br (decide (v5 < v4)) (bO (ak a1 v5) fun q3 => bO (bU q3.1 q3.2.1 q3.2.2.1 q3.2.2.2.1 q3.2.2.2.2) fun x4 => br (!x4) (some false) ((bb a1 n1) v4 (IntKind.wrap .i64 (v5 + 1)))) (ip)
def dW (a1 : LF) : Option Bool :=
  bO (g7 a1) fun x1 => br (x1 == 0) (some false) (bb a1 FU ((a1.length : Int)) 0)
theorem iq {a1 : LF} {r : Bool} (h : dW a1 = some r) :
    aU Tryz.prog 44 [.sl (aB aT a1) a1.length] [] (.bool r) [] := by
 unfold dW at h; refine SO Tryz.func44 rfl Tryz.ntmps44 fun C hN hρ => ?_; simp only [st0, aW, Nat.zero_add, Nat.reduceAdd]; refine AN hN ?_; refine aH ?_; obtain ⟨x1, h1, h⟩ := aA h; refine AP hN (nc h1) ?_; refine AB h (fun hc1 h => ?_) fun hc1 h => ?_
 ·refine AN hN ?_; injection h with h; subst h; exact AX (b' := 64) [(2, .bool false)] [] [] [] hρ (EQ [])
 ·refine aE (AK ?_); refine aQ (fun S => S = ⟨mkT [], mkR [], 64⟩ ∧ ip = some r) ?_ ?_
  ·refine AN hN ?_; refine aJ ?_; refine aX (fun n S => ∃ (v4 v5 : Int), S = ⟨mkT [(8, .sl (aB aT a1) a1.length), (9, .int .i64 v4), (10, .int .i64 v5)], mkR [], 64⟩ ∧ bb a1 n v4 v5 = some r) FU ?_ ?_ ?_
   ·exact AC ⟨_, _, rfl, h⟩ [] [] hρ
   ·rintro S ⟨_, _, _, h⟩; rw [bb] at h; cases h
   ·rintro n1 S ⟨v4, v5, rfl, h⟩; rw [bb] at h; refine AN hN ?_; refine aH ?_; refine AB h (fun hc6 h => ?_) fun hc6 h => ?_
    ·refine aE (AK ?_); refine aH ?_; refine aJ ?_; refine AR hN fun K hK => ?_; obtain ⟨q3, h8, h⟩ := aA h; obtain ⟨⟨h9a, h9b⟩, h9c⟩ := aY co h8; (try simp only [EV, seval] at h9c); simp only [EV, seval, h9a, h9b, h9c]; apply hK; clear hK K; obtain ⟨x4, h10, h⟩ := aA h; refine AP hN (c9 h10) ?_; refine AB h (fun hc7 h => ?_) fun hc7 h => ?_
     ·refine AN hN ?_; injection h with h; subst h; exact AX (b' := 64) [(2, .bool false)] [] [] [] hρ (EQ [])
     ·refine aE (AK ?_); refine AS hN fun K hK => ?_; simp only [EV, seval]; exact hK _ _ _ (AC ⟨_, _, rfl, h⟩ [] [] hρ)
    ·exact aa (AC ⟨rfl, h⟩ [] [] hρ)
  ·rintro S ⟨rfl, h⟩; unfold ip at h; refine AN hN ?_; injection h with h; subst h; exact AX (b' := 64) [(2, .bool true)] [] [] [] hρ (EQ [])
def fV (a1 : LF) : Option Bool :=
  bO (g8 a1) fun x4 => some (decide (0 < x4))
def bc (a1 : LF) : Nat → Int → Option Bool
  | 0, _ => none
  | n1 + 1, v2 =>
  br (decide (v2 < ((a1.length : Int)))) (bO (ak a1 v2) fun q3 => bO (cE q3.1 q3.2.1 q3.2.2.1 q3.2.2.2.1 q3.2.2.2.2) fun x3 => br (!x3) (some false) ((bc a1 n1) (IntKind.wrap .i64 (v2 + 1)))) (fV a1)
def fh (a1 : LF) : Option Bool :=
  bc a1 FU 0
theorem pu {a1 : LF} {r : Bool} (h : fh a1 = some r) :
    aU Tryz.prog 118 [.sl (aB aT a1) a1.length] [] (.bool r) [] := by
 unfold fh at h; refine SO Tryz.func118 rfl Tryz.ntmps118 fun C hN hρ => ?_; simp only [st0, aW, Nat.zero_add, Nat.reduceAdd]; refine AN hN ?_; refine aQ (fun S => S = ⟨mkT [(0, .sl (aB aT a1) a1.length)], mkR [], 64⟩ ∧ fV a1 = some r) ?_ ?_
 ·refine AN hN ?_; refine aJ ?_; refine aX (fun n S => ∃ (v2 : Int), S = ⟨mkT [(0, .sl (aB aT a1) a1.length), (3, .int .i64 v2)], mkR [], 64⟩ ∧ bc a1 n v2 = some r) FU ?_ ?_ ?_
  ·exact AC ⟨_, rfl, h⟩ [] [] hρ
  ·rintro S ⟨_, _, h⟩; rw [bc] at h; cases h
  ·rintro n1 S ⟨v2, rfl, h⟩; rw [bc] at h; refine aH ?_; refine AN hN ?_; refine AB h (fun hc5 h => ?_) fun hc5 h => ?_
   ·refine aE (AK ?_); refine aH ?_; refine aJ ?_; refine AR hN fun K hK => ?_; obtain ⟨q3, h7, h⟩ := aA h; obtain ⟨⟨h8a, h8b⟩, h8c⟩ := aY co h7; (try simp only [EV, seval] at h8c); obtain ⟨x3, h9, h⟩ := aA h; simp only [EV, seval, h8a, h8b, h8c]; refine aj (cw h9) (by simp only [AL, EV, seval, h8a, h8b, h8c]) (aN rfl) (ab rfl) ?_; simp only [EV, seval, h8a, h8b, h8c]; apply hK; clear hK K; refine ah (a := .bool (!x3)) (by simp only [EV, seval, h8a, h8b, h8c]) (brK h (fun hc6 h => ?_) (fun hc6 h => ?_))
    ·refine AN hN ?_; injection h with h; subst h; exact AX (b' := 64) [(2, .bool false)] [] [] [] hρ (EQ [])
    ·refine aE (AK ?_); refine AS hN fun K hK => ?_; simp only [EV, seval]; exact hK _ _ _ (AC ⟨_, rfl, h⟩ [] [] hρ)
   ·exact aa (AC ⟨rfl, h⟩ [] [] hρ)
 ·rintro S ⟨rfl, h⟩; unfold fV at h; obtain ⟨x4, h10, h⟩ := aA h; refine AP hN (ne h10) ?_; injection h with h; subst h; exact AX (b' := 64) [(2, .bool (decide (0 < x4)))] [] [] [] hρ (EQ [])
def gp (a1 : Int) : Option (Int × Int × Int × Int × Int) :=
  bO (ku a1 0 60) fun x1 => br (!x1) (some (0, 0, 0, 0, 0)) (some (1, 0, 0, 0, a1))
theorem pQ {a1 : Int} {r : Int × Int × Int × Int × Int} (h : gp a1 = some r) :
    aU Tryz.prog 114 [.int .i64 a1] [] (.agg [.int .i64 r.1, .int .i64 r.2.1, .int .i64 r.2.2.1, .int .i64 r.2.2.2.1, .int .i64 r.2.2.2.2]) [] := by
 unfold gp at h; refine SO Tryz.func114 rfl Tryz.ntmps114 fun C hN hρ => ?_; simp only [st0, aW, Nat.zero_add, Nat.reduceAdd]; refine AN hN ?_; refine aH ?_; obtain ⟨x1, h1, h⟩ := aA h; refine AP hN (dD h1) ?_; refine AB h (fun hc1 h => ?_) fun hc1 h => ?_
 ·refine AN hN ?_; injection h with h; subst h; exact AX (b' := 64) [(2, .ptr 32 0)] [(32, .box 36 [.int .i64 0, .int .i64 0, .int .i64 0, .int .i64 0, .int .i64 0])] [(32, some 64)] [] hρ (EQ [])
 ·refine aE (AK ?_); refine AN hN ?_; injection h with h; subst h; exact AX (b' := 64) [(2, .ptr 32 0)] [(32, .box 36 [.int .i64 1, .int .i64 0, .int .i64 0, .int .i64 0, .int .i64 a1])] [(32, some 64)] [] hρ (EQ [])
def kX (a1 : Int) : Option (Int × Int × Int × Int × Int) :=
  bO (cH a1 0 60) fun x1 => br (!x1) (some (0, 0, 0, 0, 0)) (some (1, 0, 0, 0, a1))
theorem pR {a1 : Int} {r : Int × Int × Int × Int × Int} (h : kX a1 = some r) :
    aU Tryz.prog 136 [.int .i64 a1] [] (.agg [.int .i64 r.1, .int .i64 r.2.1, .int .i64 r.2.2.1, .int .i64 r.2.2.2.1, .int .i64 r.2.2.2.2]) [] := by
 unfold kX at h; refine SO Tryz.func136 rfl Tryz.ntmps136 fun C hN hρ => ?_; simp only [st0, aW, Nat.zero_add, Nat.reduceAdd]; refine AN hN ?_; refine aH ?_; obtain ⟨x1, h1, h⟩ := aA h; refine AP hN (av h1) ?_; refine AB h (fun hc1 h => ?_) fun hc1 h => ?_
 ·refine AN hN ?_; injection h with h; subst h; exact AX (b' := 64) [(2, .ptr 32 0)] [(32, .box 36 [.int .i64 0, .int .i64 0, .int .i64 0, .int .i64 0, .int .i64 0])] [(32, some 64)] [] hρ (EQ [])
 ·refine aE (AK ?_); refine AN hN ?_; injection h with h; subst h; exact AX (b' := 64) [(2, .ptr 32 0)] [(32, .box 36 [.int .i64 1, .int .i64 0, .int .i64 0, .int .i64 0, .int .i64 a1])] [(32, some 64)] [] hρ (EQ [])
def cy (v3 v4 v5 v6 : Int) : Option (Int × Int × Int × Int × Int) :=
  some (v3, v4, v5, v6, 0)
def g9 (v1 v2 : Int) : Option (Int × Int × Int × Int × Int) :=
  br ((Int.tmod v1 4) == 0) (cy v2 0 0 0) (br ((Int.tmod v1 4) == 1) (cy 0 v2 0 0) (br ((Int.tmod v1 4) == 2) (cy 0 0 v2 0) (br ((Int.tmod v1 4) == 3) (cy 0 0 0 v2) (cy 0 0 0 0))))
def jn (a1 : Int) : Option (Int × Int × Int × Int × Int) :=
  br (decide (4 ≤ (Int.tmod (IntKind.wrap .i64 ((Int.tmod a1 8) + 8)) 8))) (g9 (Int.tmod (IntKind.wrap .i64 ((Int.tmod a1 8) + 8)) 8) (-1)) (g9 (Int.tmod (IntKind.wrap .i64 ((Int.tmod a1 8) + 8)) 8) 1)
theorem qa {a1 : Int} {r : Int × Int × Int × Int × Int} (h : jn a1 = some r) :
    aU Tryz.prog 112 [.int .i64 a1] [] (.agg [.int .i64 r.1, .int .i64 r.2.1, .int .i64 r.2.2.1, .int .i64 r.2.2.2.1, .int .i64 r.2.2.2.2]) [] := by
 unfold jn at h; refine SO Tryz.func112 rfl Tryz.ntmps112 fun C hN hρ => ?_; simp only [st0, aW, Nat.zero_add, Nat.reduceAdd]; refine AN hN ?_; refine AN hN ?_; refine AN hN ?_; refine aQ (fun S => ∃ (v1 v2 : Int), S = ⟨mkT [(2, .ptr 32 0), (3, .int .i64 v1), (4, .int .i64 v2)], mkR [(32, .box 36 [.int .i64 0, .int .i64 0, .int .i64 0, .int .i64 0, .int .i64 0])], 64⟩ ∧ g9 v1 v2 = some r) ?_ ?_
 ·refine AN hN ?_; refine AB h (fun hc1 h => ?_) fun hc1 h => ?_
  ·refine AS hN fun K hK => ?_; simp only [EV, seval]; exact hK _ _ _ (AC ⟨_, _, rfl, h⟩ [(32, some 64)] [] hρ)
  ·refine aE (show aM _ _ _ from aP ⟨_, _, rfl, h⟩ (aD [(32, some 64)] [] hρ (by kernel_rfl) ?_ ?_)) <;> simp only [AL, EV, seval]
 ·rintro S ⟨v1, v2, rfl, h⟩; unfold g9 at h; refine AN hN ?_; refine aQ (fun S => ∃ (v3 v4 v5 v6 : Int), S = ⟨mkT [(2, .ptr 32 0), (5, .ptr 33 0)], mkR [(32, .box 36 [.int .i64 0, .int .i64 0, .int .i64 0, .int .i64 0, .int .i64 0]), (33, .box 34 [.int .i64 v3, .int .i64 v4, .int .i64 v5, .int .i64 v6])], 64⟩ ∧ cy v3 v4 v5 v6 = some r) ?_ ?_
  ·refine AN hN ?_; refine aJ ?_; refine AN hN ?_; refine AB h (fun hc2 h => ?_) fun hc2 h => ?_
   ·refine AS hN fun K hK => ?_; simp only [EV, seval]; exact hK _ _ _ (AC ⟨_, _, _, _, rfl, h⟩ [(32, some 32), (33, some 80)] [] hρ)
   ·refine AN hN ?_; refine AB h (fun hc3 h => ?_) fun hc3 h => ?_
    ·refine AS hN fun K hK => ?_; simp only [EV, seval]; exact hK _ _ _ (AC ⟨_, _, _, _, rfl, h⟩ [(32, some 32), (33, some 80)] [] hρ)
    ·refine AN hN ?_; refine AB h (fun hc4 h => ?_) fun hc4 h => ?_
     ·refine AS hN fun K hK => ?_; simp only [EV, seval]; exact hK _ _ _ (AC ⟨_, _, _, _, rfl, h⟩ [(32, some 32), (33, some 80)] [] hρ)
     ·refine AN hN ?_; refine AB h (fun hc5 h => ?_) fun hc5 h => ?_
      ·refine AS hN fun K hK => ?_; simp only [EV, seval]; exact hK _ _ _ (AC ⟨_, _, _, _, rfl, h⟩ [(32, some 32), (33, some 80)] [] hρ)
      ·refine aE (show aM _ _ _ from aP ⟨_, _, _, _, rfl, h⟩ (aD [(32, some 32), (33, some 80)] [] hρ (by kernel_rfl) ?_ ?_)) <;> simp only [AL, EV, seval]
  ·rintro S ⟨v3, v4, v5, v6, rfl, h⟩; unfold cy at h; refine AN hN ?_; injection h with h; subst h; exact AX (b' := 64) [(2, .ptr 32 0)] [(32, .box 36 [.int .i64 v3, .int .i64 v4, .int .i64 v5, .int .i64 v6, .int .i64 0])] [(32, some 32)] [] hρ (EQ [])
def gA (v1 : Int) : Option (Int × Int × Int × Int × Int) :=
  bO (ak ([(1, 0, 0, 0), (0, 1, 0, 0), (0, 0, 1, 0), (0, 0, 0, 1), (-1, 0, 0, 0), (0, -1, 0, 0), (0, 0, -1, 0), (0, 0, 0, -1)]) v1) fun q1 => some (q1.1, q1.2.1, q1.2.2.1, q1.2.2.2, 0)
def fP (a1 : Int) : Option (Int × Int × Int × Int × Int) :=
  br (decide ((Int.tmod a1 8) < 0)) (gA (IntKind.wrap .i64 ((Int.tmod a1 8) + 8))) (gA (Int.tmod a1 8))
theorem gB {a1 : Int} {r : Int × Int × Int × Int × Int} (h : fP a1 = some r) :
    aU Tryz.prog 134 [.int .i64 a1] [] (.agg [.int .i64 r.1, .int .i64 r.2.1, .int .i64 r.2.2.1, .int .i64 r.2.2.2.1, .int .i64 r.2.2.2.2]) [] := by
 unfold fP at h; refine SO Tryz.func134 rfl Tryz.ntmps134 fun C hN hρ => ?_; simp only [st0, aW, Nat.zero_add, Nat.reduceAdd]; refine AN hN ?_; refine AN hN ?_; refine aQ (fun S => ∃ (v1 : Int), S = ⟨mkT [(0, .int .i64 v1), (2, .ptr 32 0)], mkR [(32, .box 36 [.int .i64 0, .int .i64 0, .int .i64 0, .int .i64 0, .int .i64 0])], 64⟩ ∧ gA v1 = some r) ?_ ?_
 ·refine AN hN ?_; refine AB h (fun hc1 h => ?_) fun hc1 h => ?_
  ·refine AS hN fun K hK => ?_; simp only [EV, seval]; exact hK _ _ _ (AC ⟨_, rfl, h⟩ [(32, some 64)] [] hρ)
  ·refine aE (show aM _ _ _ from aP ⟨_, rfl, h⟩ (aD [(32, some 64)] [] hρ (by kernel_rfl) ?_ ?_)) <;> simp only [AL, EV, seval]
 ·rintro S ⟨v1, rfl, h⟩; unfold gA at h; refine AN hN ?_; refine AR hN fun K hK => ?_; obtain ⟨q1, h1, h⟩ := aA h; obtain ⟨⟨h2a, h2b⟩, h2c⟩ := aY Ci h1; (try simp only [EV, seval] at h2c); (try simp only [EV, seval] at h2b); simp only [EV, seval, h2a, h2b, h2c]; apply hK; clear hK K; injection h with h; subst h; refine ba (aD (lt := [(2, .ptr 32 0)]) (lr := [(32, .box 36 [.int .i64 q1.1, .int .i64 q1.2.1, .int .i64 q1.2.2.1, .int .i64 q1.2.2.2, .int .i64 0])]) (b' := 64) [(32, some 32)] [] hρ (by kernel_rfl) ?_ ?_) (bW (cX [] (.inr rfl) (by kernel_rfl) (by kernel_rfl) ?_))
  ·simp only [AL, EV, seval, h2a, h2b, h2c]
  ·simp only [AL, EV, seval, h2a, h2b, h2c]
  ·simp only [EV, Tryz.results134, seval]
def dR (k : Int) : Int := if 1 ≤ k ∧ k ≤ 8 then 1 else if 9 ≤ k ∧ k ≤ 11 then 2 else if k = 12 then 3 else 0
def okQ (ar n : Int) : Nat → List Int → List Int → Bool
  | i, [], seen => true
  | i, q :: r, seen => if ar ≤ i then (q == 0) && okQ ar n (i + 1) r seen else (decide (0 ≤ q ∧ q ≤ n - 1) && !seen.contains q) && okQ ar n (i + 1) r (q :: seen)
def ivg (k a b c n : Int) : Bool := (decide (1 ≤ n ∧ n ≤ 4) && !(dR k == 0)) && okQ (dR k) n 0 [a, b, c] []
namespace Pop
def val : List Nat → Nat
 | [] => 0
 | b :: l => b + 256 * val l
def s1 (b : Nat) : Nat := ((b / 2) &&& 85) + (b &&& 85)
def s2 (b : Nat) : Nat := ((b / 4) &&& 51) + (b &&& 51)
def s3 (b : Nat) : Nat := (b / 16 + b) &&& 15
def M0 : Nat := 6148914691236517205
def M1 : Nat := 3689348814741910323
def M2 : Nat := 1085102592571150095
def t1 (x : Nat) : Nat := ((x / 2) &&& M0) + (x &&& M0)
def t2 (x : Nat) : Nat := ((x / 4) &&& M1) + (x &&& M1)
def t3 (x : Nat) : Nat := (x / 16 + x) &&& M2
def t4 (x : Nat) : Nat := x + x / 256
def t5 (x : Nat) : Nat := x + x / 65536
def t6 (x : Nat) : Nat := x + x / 4294967296
end Pop
section
open Go.RowKit Pop
theorem HA {k : IntKind} {a b : Int} (h : a = b) : Ending.returned (.int k a) = .returned (.int k b) := by rw [h]
theorem mh {a b : Bool} (h : a = b) : Ending.returned (.bool a) = .returned (.bool b) := by rw [h]
theorem o3 {B : Nat} {a w : World} (h : Below B a w) (n : Nat) : Below B a (w.drewN n) := ⟨h.os, h.tape, h.output, h.size, h.block⟩
def inB (n lo hi : Int) : Bool := decide (lo ≤ n) && decide (n ≤ hi)
theorem pv {n lo hi : Int} : inB n lo hi = true ↔ lo ≤ n ∧ n ≤ hi := by simp [inB]
theorem pS (n lo hi : Int) (w : World) :
  Calls Tryz.prog 55 #[.int .i64 n, .int .i64 lo, .int .i64 hi] w fun e w' => e = .returned (.bool (inB n lo hi)) ∧ w' = w := by
 go_enter Tryz.func55, Tryz.ntmps55
 go_wp2
 all_goals
  go_ret
  exact ⟨by simp [inB]; omega, rfl⟩
end
section
open Go.RowKit Pop
open Go.Maps
theorem lQ (k : Int) (w : World) :
  Calls Tryz.prog 110 #[.int .i64 k] w fun e w' => e = .returned (.int .i64 (dR k)) ∧ w' = w := by
 have inn := pS
 go_enter Tryz.func110, Tryz.ntmps110
 go_wp2
 all_goals
  go_ret
  refine ⟨HA ?_, rfl⟩
  try simp only [beq_iff_eq, beq_eq_false_iff_ne, ne_eq] at *
  unfold dR
  repeat' split
  all_goals omega
def Dm : List Int → DataW Unit
 | [] => .map []
 | q :: r => (Dm r).put (.int .i64 q) (.lit (.bool true))
theorem Cl : ∀ l, IsMap (Dm l)
 | [] => isMap_empty
 | q :: r => (Cl r).put _ _
theorem Hr (q : Int) : ∀ l : List Int, (Dm l).atKey (.int .i64 q) (.lit (.bool false)) = .lit (.bool (l.contains q))
 | [] => rfl
 | x :: r => by
  by_cases e : q = x
  ·subst e
   rw [Dm, atKey_put_same (Cl r) (by trivial)]
   simp
  ·rw [Dm, atKey_put_other (by intro h; injection h with _ h; exact e h), Hr q r]
   have : (q == x) = false := by simpa using e
   rw [List.contains_cons, this, Bool.false_or]
theorem pU {H : Type} {P : Program} {e : TypeId} (he : P.underlying e = some .bool) {v : Value} {z : DataW H × List MemPlace} (h : plainElem P e v = some z) : ∃ x, v = .bool x ∧ z = (.lit (.bool x), []) := by
 unfold plainElem at h
 rw [he] at h
 cases v <;> simp at h
 exact ⟨_, rfl, h.symm⟩
theorem uy {P : Program} {k e t : TypeId} {w : World} {b n : Nat} {l : List Int} (h : w.ownsMap P k (plainElem P e) b n (Dm l)) (hk : P.underlying k = some (.int .i64)) (ht : P.underlying t = some (.map k e)) (he : P.underlying e = some .bool)
  (hz : (zeroValue e).run P w = .ok (.bool false) w) {q : Int} (hq : (Lit.int .i64 q).wf = true) : (Instr.lookup t (.map (some b)) (.int .i64 q) false).run P w = .ok (.bool (l.contains q)) w := by
 obtain ⟨v, ps, hrun, hv⟩ := h.lookup (int_keyed hk) ht hz (plainElem_bool he false) (keyOf_int_mk hk hq)
 obtain ⟨x, rfl, hx⟩ := pU he hv
 rw [Hr] at hx
 injection hx with h1 h2
 injection h1 with h1
 injection h1 with h1
 rw [hrun, h1]
theorem uz {P : Program} {k e t : TypeId} {w : World} {b n : Nat} {l : List Int} (h : w.ownsMap P k (plainElem P e) b n (Dm l)) (hk : P.underlying k = some (.int .i64)) (ht : P.underlying t = some (.map k e)) (he : P.underlying e = some .bool)
  (hn : n < maxLen) {q : Int} (hq : (Lit.int .i64 q).wf = true) : ∃ w', (Instr.mapUpdate t (.map (some b)) (.int .i64 q) (.bool true)).run P w = .ok () w' ∧ w'.ownsMap P k (plainElem P e) b (n + 1) (Dm (q :: l)) ∧ w.grownBy w' (some b) :=
 h.update (int_keyed hk) ht hn (keyOf_int_mk hk hq) (plainElem_bool he true)
theorem KM (w : World) : (zeroValue 4).run Tryz.prog w = .ok (.bool false) w := by kernel_rfl
set_option maxHeartbeats 1000000 in
theorem xI (k a b c n : Int) (w : World) :
  Calls Tryz.prog 87 #[.agg #[.int .i64 k, .int .i64 a, .int .i64 b, .int .i64 c], .int .i64 n] w fun e w' => e = .returned (.bool (ivg k a b c n)) ∧ Below w.heap.size w w' := by
 have hmm := @run_makeMap Tryz.prog
 go_enter Tryz.func87, Tryz.ntmps87
 go_wp2_with (first | (go_at_call 55; refine (pS _ _ _ _).mono ?_; rintro e w' ⟨rfl, hw'⟩; rw [hw']; clear hw' w') | (go_at_call 110; refine (lQ _ _).mono ?_; rintro e w' ⟨rfl, hw'⟩; rw [hw']; clear hw' w'))
 ·go_ret
  rename_i h1 h2
  refine ⟨mh ?_, ?_⟩
  ·unfold ivg; rw [h2]; simp
  ·repeat' (first | (with_reducible exact Below.refl _ _) | (with_reducible refine o3 ?_ _) | (with_reducible refine Below.drew ?_) | (with_reducible refine Below.alloc ?_ ?_ _) | (with_reducible refine Below.setCell ?_ ?_ _) | (with_reducible refine Below.trans ?_ (Below.mono (by with_reducible assumption) ?_)) | go_size | (with_reducible refine Nat.le_trans ?_ (Below.size (by with_reducible assumption))))
 ·rename_i h1 h2 K0 hK0
  have hn' := pv.1 h1
  have e0 : ivg k a b c n = okQ (dR k) n 0 [a, b, c] [] := by
   unfold ivg; rw [h2, decide_eq_true hn']; rfl
  clear h2
  go_loopw [28] (fun i wr => ∃ (j : Nat) (rest seen : List Int), j + rest.length = 3 ∧ i = .int .i64 j ∧ [a, b, c].drop j = rest ∧ ivg k a b c n = okQ (dR k) n j rest seen ∧
      wr.ownsMap Tryz.prog 3 (plainElem Tryz.prog 4) (w.heap.size + 1 + 1) j (Dm seen) ∧ Below w.heap.size w wr ∧ w.heap.size + 1 + 1 + 1 ≤ wr.heap.size ∧
      wr.heap[w.heap.size]? = some (.cells #[.int .i64 k, .int .i64 a, .int .i64 b, .int .i64 c] 73) ∧ wr.heap[w.heap.size + 1]? = some (.cells #[.int .i64 a, .int .i64 b, .int .i64 c] 3)) (fun i _ => 3 - (intOf i).toNat)
  case atStart =>
   refine ⟨0, [a, b, c], [], rfl, rfl, rfl, e0, ?_, ?_, ?_, ?_, ?_⟩
   ·have hm0 := World.ownsMap_made (H := Unit) ((w.alloc (.cells #[.int .i64 k, .int .i64 a, .int .i64 b, .int .i64 c] 73)).alloc (.cells #[.int .i64 a, .int .i64 b, .int .i64 c] 3)) Tryz.prog 3 (plainElem Tryz.prog 4)
    simp only [World.size_alloc] at hm0
    exact hm0
   ·repeat' (first | (with_reducible exact Below.refl _ _) | (with_reducible refine o3 ?_ _) | (with_reducible refine Below.drew ?_) | (with_reducible refine Below.alloc ?_ ?_ _) | (with_reducible refine Below.setCell ?_ ?_ _) | (with_reducible refine Below.trans ?_ (Below.mono (by with_reducible assumption) ?_)) | go_size | (with_reducible refine Nat.le_trans ?_ (Below.size (by with_reducible assumption))))
   ·simp
   ·exact (Below.heap_alloc _ _ _ (by simp; omega)).trans ((Below.heap_alloc _ _ _ (by simp)).trans (heap_alloc_new _ _))
   ·exact (Below.heap_alloc _ _ _ (by simp)).trans (by have := heap_alloc_new (w.alloc (.cells #[.int .i64 k, .int .i64 a, .int .i64 b, .int .i64 c] 73)) (.cells #[.int .i64 a, .int .i64 b, .int .i64 c] 3); simp only [World.size_alloc] at this; exact this)
  case round =>
   obtain ⟨j, rest, seen, hj, rfl, hd, hok, hown, hbel, hsz, hb0, hb1⟩ := hrel
   match rest, hj, hd, hok with
   | [], hj, hd, hok =>
    have hj3 : j = 3 := by simpa using hj
    subst hj3
    go_wp2
    go_ret
    refine ⟨mh ?_, hbel⟩
    rw [hok]; rfl
   | q :: r, hj, hd, hok =>
    have hj3 : j < 3 := by simp at hj; omega
    have hk0 : wr.cell? ⟨w.heap.size, 0, none⟩ = some (.int .i64 k) := cell_of_row wr _ 0 _ 73 (0, 0) hb0
    have hkj : wr.cell? ⟨w.heap.size + 1, j, none⟩ = some (.int .i64 q) := by
     have : j = 0 ∨ j = 1 ∨ j = 2 := by omega
     rcases this with rfl | rfl | rfl <;> (simp at hd; rw [← hd.1]; first | exact cell_of_row wr _ 0 _ 3 (0, 0) hb1 | exact cell_of_row wr _ 1 _ 3 (0, 0) hb1 | exact cell_of_row wr _ 2 _ 3 (0, 0) hb1)
    by_cases hi : dR k ≤ j
    ·by_cases hq : q = 0
     ·subst hq
      go_wp2_with (first | (go_at_call 55; refine (pS _ _ _ _).mono ?_; rintro e w' ⟨rfl, hw'⟩; rw [hw']; clear hw' w') | (go_at_call 110; refine (lQ _ _).mono ?_; rintro e w' ⟨rfl, hw'⟩; rw [hw']; clear hw' w'))
      refine ⟨⟨j + 1, r, seen, by simp at hj; omega, by go_num, by rw [← List.tail_drop, hd]; rfl, hok.trans (by simp only [okQ, if_pos hi]; simp), hown.mono (Nat.le_succ _), hbel, hsz, hb0, hb1⟩, ?_⟩
      simp [intOf]; omega
     ·go_wp2_with (first | (go_at_call 55; refine (pS _ _ _ _).mono ?_; rintro e w' ⟨rfl, hw'⟩; rw [hw']; clear hw' w') | (go_at_call 110; refine (lQ _ _).mono ?_; rintro e w' ⟨rfl, hw'⟩; rw [hw']; clear hw' w'))
      go_ret
      exact ⟨mh (by rw [hok]; simp only [okQ, if_pos hi]; simp [hq]), hbel⟩
    ·by_cases hin : 0 ≤ q ∧ q ≤ n - 1
     ·have hB : inB q 0 (n - 1) = true := pv.2 hin
      have hwf : (Lit.int .i64 q).wf = true := by (have h1 : -9223372036854775808 ≤ q ∧ q ≤ 9223372036854775807 := by omega); (have h2 : IntKind.i64.min = -9223372036854775808 ∧ IntKind.i64.max = 9223372036854775807 := ⟨rfl, rfl⟩); simp only [Lit.wf, h2.1, h2.2, h1, decide_true, Bool.and_self]
      have hlk := uy (t := 148) hown Tryz.underlying3 Tryz.underlying148 Tryz.underlying4 (KM _) hwf
      cases hc : seen.contains q with
      | true =>
       rw [hc] at hlk
       go_wp2_with (first | (go_at_call 55; refine (pS _ _ _ _).mono ?_; rintro e w' ⟨rfl, hw'⟩; rw [hw']; clear hw' w') | (go_at_call 110; refine (lQ _ _).mono ?_; rintro e w' ⟨rfl, hw'⟩; rw [hw']; clear hw' w'))
       go_ret
       exact ⟨mh (by rw [hok]; simp only [okQ, if_neg (show ¬ dR k ≤ (j : Int) by omega), hc]; simp), hbel⟩
      | false =>
       rw [hc] at hlk
       obtain ⟨w2, hup, hown2, hg⟩ := uz (t := 148) hown Tryz.underlying3 Tryz.underlying148 Tryz.underlying4 (by unfold maxLen; omega) hwf
       go_wp2_with (first | (go_at_call 55; refine (pS _ _ _ _).mono ?_; rintro e w' ⟨rfl, hw'⟩; rw [hw']; clear hw' w') | (go_at_call 110; refine (lQ _ _).mono ?_; rintro e w' ⟨rfl, hw'⟩; rw [hw']; clear hw' w'))
       have hs2 := hg.size
       refine ⟨⟨j + 1, r, q :: seen, by simp at hj; omega, by go_num, by rw [← List.tail_drop, hd]; rfl, hok.trans (by simp only [okQ, if_neg (show ¬ dR k ≤ (j : Int) by omega), hc, decide_eq_true hin]; simp), hown2, hbel.grown hg (by omega) (fun j hj => by cases hj; omega), by omega, (hg.block _ (by omega) (by intro h; injection h; omega)).trans hb0, (hg.block _ (by omega) (by intro h; injection h; omega)).trans hb1⟩, ?_⟩
       simp [intOf]; omega
     ·have hB : inB q 0 (n - 1) = false := by cases h : inB q 0 (n - 1) with | true => exact absurd (pv.1 h) hin | false => rfl
      go_wp2_with (first | (go_at_call 55; refine (pS _ _ _ _).mono ?_; rintro e w' ⟨rfl, hw'⟩; rw [hw']; clear hw' w') | (go_at_call 110; refine (lQ _ _).mono ?_; rintro e w' ⟨rfl, hw'⟩; rw [hw']; clear hw' w'))
      go_ret
      exact ⟨mh (by rw [hok]; simp only [okQ, if_neg (show ¬ dR k ≤ (j : Int) by omega), decide_eq_false hin, Bool.false_and]), hbel⟩
 ·go_ret
  rename_i h1
  refine ⟨mh ?_, ?_⟩
  ·unfold ivg
   have : decide (1 ≤ n ∧ n ≤ 4) = false := by
    rw [decide_eq_false_iff_not]; intro h; exact h1 (pv.2 h)
   rw [this]; rfl
  ·repeat' (first | (with_reducible exact Below.refl _ _) | (with_reducible refine o3 ?_ _) | (with_reducible refine Below.drew ?_) | (with_reducible refine Below.alloc ?_ ?_ _) | (with_reducible refine Below.setCell ?_ ?_ _) | (with_reducible refine Below.trans ?_ (Below.mono (by with_reducible assumption) ?_)) | go_size | (with_reducible refine Nat.le_trans ?_ (Below.size (by with_reducible assumption))))
#print axioms xI
end
section
open Go.RowKit Pop
def gi (a1 a2 a3 a4 a5 : Int) : Option Bool := some (ivg a1 a2 a3 a4 a5)
theorem jb {a1 a2 a3 a4 a5 : Int} {r : Bool} (h : gi a1 a2 a3 a4 a5 = some r) :
  aU Tryz.prog 87 [.agg [.int .i64 a1, .int .i64 a2, .int .i64 a3, .int .i64 a4], .int .i64 a5] [] (.bool r) [] := by
 injection h with h
 subst h
 exact xu (by kernel_rfl) rfl (fun M ρ => .plain (.bool _)) (fun w => xI a1 a2 a3 a4 a5 w)
#print axioms jb
end
def rP (a1 a2 a3 a4 a5 : Int) : Option (Int × Int) :=
  gd (decide (¬ a2 < 0)) (gd (decide (¬ a3 < 0)) (gd (decide (¬ a4 < 0)) (br (a1 == 1) (gd (decide (¬ a2 < 0)) (some (bits .xor .i64 a5 (IntKind.wrap .i64 (1 * 2 ^ min (Int.toNat a2) (IntKind.bits .i64))), 0))) (br (a1 == 2) (gd (decide (¬ a2 < 0)) (some (bits .xor .i64 a5 (IntKind.wrap .i64 (1 * 2 ^ min (Int.toNat a2) (IntKind.bits .i64))), IntKind.wrap .i64 (2 + (IntKind.wrap .i64 (4 * (bits .and .i64 (Int.fdiv a5 (2 ^ min (Int.toNat a2) (IntKind.bits .i64))) 1))))))) (br (a1 == 3) (some (a5, IntKind.wrap .i64 (4 * (bits .and .i64 (Int.fdiv a5 (2 ^ min (Int.toNat a2) (IntKind.bits .i64))) 1)))) (br (a1 == 5) (some (a5, IntKind.wrap .i64 (2 * (bits .and .i64 (Int.fdiv a5 (2 ^ min (Int.toNat a2) (IntKind.bits .i64))) 1)))) (br (a1 == 6) (some (a5, IntKind.wrap .i64 (6 * (bits .and .i64 (Int.fdiv a5 (2 ^ min (Int.toNat a2) (IntKind.bits .i64))) 1)))) (br (a1 == 7) (some (a5, bits .and .i64 (Int.fdiv a5 (2 ^ min (Int.toNat a2) (IntKind.bits .i64))) 1)) (br (a1 == 8) (some (a5, IntKind.wrap .i64 (7 * (bits .and .i64 (Int.fdiv a5 (2 ^ min (Int.toNat a2) (IntKind.bits .i64))) 1)))) (br (a1 == 9) (gd (decide (¬ a3 < 0)) (some (bits .xor .i64 a5 (IntKind.wrap .i64 ((bits .and .i64 (Int.fdiv a5 (2 ^ min (Int.toNat a2) (IntKind.bits .i64))) 1) * 2 ^ min (Int.toNat a3) (IntKind.bits .i64))), 0))) (br (a1 == 10) (some (a5, IntKind.wrap .i64 ((IntKind.wrap .i64 (4 * (bits .and .i64 (Int.fdiv a5 (2 ^ min (Int.toNat a2) (IntKind.bits .i64))) 1))) * (bits .and .i64 (Int.fdiv a5 (2 ^ min (Int.toNat a3) (IntKind.bits .i64))) 1)))) (br (a1 == 11) (br ((bits .and .i64 (Int.fdiv a5 (2 ^ min (Int.toNat a2) (IntKind.bits .i64))) 1) != (bits .and .i64 (Int.fdiv a5 (2 ^ min (Int.toNat a3) (IntKind.bits .i64))) 1)) (gd (decide (¬ a2 < 0)) (gd (decide (¬ a3 < 0)) (some (bits .xor .i64 (bits .xor .i64 a5 (IntKind.wrap .i64 (1 * 2 ^ min (Int.toNat a2) (IntKind.bits .i64)))) (IntKind.wrap .i64 (1 * 2 ^ min (Int.toNat a3) (IntKind.bits .i64))), 0)))) (some (a5, 0))) (gd (decide (¬ a4 < 0)) (some (bits .xor .i64 a5 (IntKind.wrap .i64 ((IntKind.wrap .i64 ((bits .and .i64 (Int.fdiv a5 (2 ^ min (Int.toNat a2) (IntKind.bits .i64))) 1) * (bits .and .i64 (Int.fdiv a5 (2 ^ min (Int.toNat a3) (IntKind.bits .i64))) 1))) * 2 ^ min (Int.toNat a4) (IntKind.bits .i64))), 0)))))))))))))))
theorem wL {a1 a2 a3 a4 a5 : Int} {r : Int × Int} (h : rP a1 a2 a3 a4 a5 = some r) :
    aU Tryz.prog 111 [.agg [.int .i64 a1, .int .i64 a2, .int .i64 a3, .int .i64 a4], .int .i64 a5] [] (.tup [.int .i64 r.1, .int .i64 r.2]) [] := by
 unfold rP at h; refine SO Tryz.func111 rfl Tryz.ntmps111 fun C hN hρ => ?_; simp only [st0, aW, Nat.zero_add, Nat.reduceAdd]; refine AN hN ?_; refine AR hN fun K hK => ?_; obtain ⟨h1, h⟩ := gdI h; simp only [EV, seval, h1]; apply hK; clear hK K; refine AR hN fun K hK => ?_; obtain ⟨h2, h⟩ := gdI h; simp only [EV, seval, h2]; apply hK; clear hK K; refine AR hN fun K hK => ?_; obtain ⟨h3, h⟩ := gdI h; simp only [EV, seval, h3]; apply hK; clear hK K; refine aH ?_; refine AN hN ?_; refine aJ ?_; refine AN hN ?_; refine AB h (fun hc1 h => ?_) fun hc1 h => ?_
 ·refine AR hN fun K hK => ?_; obtain ⟨h4, h⟩ := gdI h; simp only [EV, seval, h4]; apply hK; clear hK K; injection h with h; subst h; refine ba (aD (lt := [(4, .int .i64 (bits .xor .i64 a5 (IntKind.wrap .i64 (1 * 2 ^ min (Int.toNat a2) (IntKind.bits .i64))))), (5, .int .i64 0)]) (lr := []) (b' := 64) [] [] hρ (by kernel_rfl) ?_ ?_) (bW (cX [] (.inr rfl) (by kernel_rfl) (by kernel_rfl) ?_))
  ·simp only [AL, EV, seval, h4]
  ·simp only [AL, EV, seval, h4]
  ·simp only [EV, Tryz.results111, seval]
 ·refine AN hN ?_; refine AB h (fun hc2 h => ?_) fun hc2 h => ?_
  ·refine AR hN fun K hK => ?_; obtain ⟨h5, h⟩ := gdI h; simp only [EV, seval, h5]; apply hK; clear hK K; injection h with h; subst h; refine ba (aD (lt := [(4, .int .i64 (bits .xor .i64 a5 (IntKind.wrap .i64 (1 * 2 ^ min (Int.toNat a2) (IntKind.bits .i64))))), (5, .int .i64 (IntKind.wrap .i64 (2 + (IntKind.wrap .i64 (4 * (bits .and .i64 (Int.fdiv a5 (2 ^ min (Int.toNat a2) (IntKind.bits .i64))) 1))))))]) (lr := []) (b' := 64) [] [] hρ (by kernel_rfl) ?_ ?_) (bW (cX [] (.inr rfl) (by kernel_rfl) (by kernel_rfl) ?_))
   ·simp only [AL, EV, seval, h5]
   ·simp only [AL, EV, seval, h5]
   ·simp only [EV, Tryz.results111, seval]
  ·refine AN hN ?_; refine AB h (fun hc3 h => ?_) fun hc3 h => ?_
   ·refine AN hN ?_; injection h with h; subst h; exact AX (b' := 64) [(4, .int .i64 a5), (5, .int .i64 (IntKind.wrap .i64 (4 * (bits .and .i64 (Int.fdiv a5 (2 ^ min (Int.toNat a2) (IntKind.bits .i64))) 1))))] [] [] [] hρ (EQ [])
   ·refine AN hN ?_; refine AB h (fun hc4 h => ?_) fun hc4 h => ?_
    ·refine AN hN ?_; injection h with h; subst h; exact AX (b' := 64) [(4, .int .i64 a5), (5, .int .i64 (IntKind.wrap .i64 (2 * (bits .and .i64 (Int.fdiv a5 (2 ^ min (Int.toNat a2) (IntKind.bits .i64))) 1))))] [] [] [] hρ (EQ [])
    ·refine AN hN ?_; refine AB h (fun hc5 h => ?_) fun hc5 h => ?_
     ·refine AN hN ?_; injection h with h; subst h; exact AX (b' := 64) [(4, .int .i64 a5), (5, .int .i64 (IntKind.wrap .i64 (6 * (bits .and .i64 (Int.fdiv a5 (2 ^ min (Int.toNat a2) (IntKind.bits .i64))) 1))))] [] [] [] hρ (EQ [])
     ·refine AN hN ?_; refine AB h (fun hc6 h => ?_) fun hc6 h => ?_
      ·refine AN hN ?_; injection h with h; subst h; exact AX (b' := 64) [(4, .int .i64 a5), (5, .int .i64 (bits .and .i64 (Int.fdiv a5 (2 ^ min (Int.toNat a2) (IntKind.bits .i64))) 1))] [] [] [] hρ (EQ [])
      ·refine AN hN ?_; refine AB h (fun hc7 h => ?_) fun hc7 h => ?_
       ·refine AN hN ?_; injection h with h; subst h; exact AX (b' := 64) [(4, .int .i64 a5), (5, .int .i64 (IntKind.wrap .i64 (7 * (bits .and .i64 (Int.fdiv a5 (2 ^ min (Int.toNat a2) (IntKind.bits .i64))) 1))))] [] [] [] hρ (EQ [])
       ·refine AN hN ?_; refine AB h (fun hc8 h => ?_) fun hc8 h => ?_
        ·refine AR hN fun K hK => ?_; obtain ⟨h6, h⟩ := gdI h; simp only [EV, seval, h6]; apply hK; clear hK K; injection h with h; subst h; refine ba (aD (lt := [(4, .int .i64 (bits .xor .i64 a5 (IntKind.wrap .i64 ((bits .and .i64 (Int.fdiv a5 (2 ^ min (Int.toNat a2) (IntKind.bits .i64))) 1) * 2 ^ min (Int.toNat a3) (IntKind.bits .i64))))), (5, .int .i64 0)]) (lr := []) (b' := 64) [] [] hρ (by kernel_rfl) ?_ ?_) (bW (cX [] (.inr rfl) (by kernel_rfl) (by kernel_rfl) ?_))
         ·simp only [AL, EV, seval, h6]
         ·simp only [AL, EV, seval, h6]
         ·simp only [EV, Tryz.results111, seval]
        ·refine AN hN ?_; refine AB h (fun hc9 h => ?_) fun hc9 h => ?_
         ·refine AN hN ?_; injection h with h; subst h; exact AX (b' := 64) [(4, .int .i64 a5), (5, .int .i64 (IntKind.wrap .i64 ((IntKind.wrap .i64 (4 * (bits .and .i64 (Int.fdiv a5 (2 ^ min (Int.toNat a2) (IntKind.bits .i64))) 1))) * (bits .and .i64 (Int.fdiv a5 (2 ^ min (Int.toNat a3) (IntKind.bits .i64))) 1))))] [] [] [] hρ (EQ [])
         ·refine AN hN ?_; refine AB h (fun hc10 h => ?_) fun hc10 h => ?_
          ·refine aH ?_; refine AN hN ?_; refine AB h (fun hc11 h => ?_) fun hc11 h => ?_
           ·refine AR hN fun K hK => ?_; obtain ⟨h7, h⟩ := gdI h; obtain ⟨h8, h⟩ := gdI h; simp only [EV, seval, h7, h8]; apply hK; clear hK K; injection h with h; subst h; refine ba (aD (lt := [(4, .int .i64 (bits .xor .i64 (bits .xor .i64 a5 (IntKind.wrap .i64 (1 * 2 ^ min (Int.toNat a2) (IntKind.bits .i64)))) (IntKind.wrap .i64 (1 * 2 ^ min (Int.toNat a3) (IntKind.bits .i64))))), (5, .int .i64 0)]) (lr := []) (b' := 64) [] [] hρ (by kernel_rfl) ?_ ?_) (bW (cX [] (.inr rfl) (by kernel_rfl) (by kernel_rfl) ?_))
            ·simp only [AL, EV, seval, h7, h8]
            ·simp only [AL, EV, seval, h7, h8]
            ·simp only [EV, Tryz.results111, seval]
           ·refine aE (AK ?_); refine AN hN ?_; injection h with h; subst h; exact AX (b' := 64) [(4, .int .i64 a5), (5, .int .i64 0)] [] [] [] hρ (EQ [])
          ·refine aE (AK ?_); refine AN hN ?_; refine AR hN fun K hK => ?_; obtain ⟨h9, h⟩ := gdI h; simp only [EV, seval, h9]; apply hK; clear hK K; injection h with h; subst h; refine ba (aD (lt := [(4, .int .i64 (bits .xor .i64 a5 (IntKind.wrap .i64 ((IntKind.wrap .i64 ((bits .and .i64 (Int.fdiv a5 (2 ^ min (Int.toNat a2) (IntKind.bits .i64))) 1) * (bits .and .i64 (Int.fdiv a5 (2 ^ min (Int.toNat a3) (IntKind.bits .i64))) 1))) * 2 ^ min (Int.toNat a4) (IntKind.bits .i64))))), (5, .int .i64 0)]) (lr := []) (b' := 64) [] [] hρ (by kernel_rfl) ?_ ?_) (bW (cX [] (.inr rfl) (by kernel_rfl) (by kernel_rfl) ?_))
           ·simp only [AL, EV, seval, h9]
           ·simp only [AL, EV, seval, h9]
           ·simp only [EV, Tryz.results111, seval]
def nP (a1 : LF) (a2 a3 a4 a5 a6 a7 : Int) : Option (Bool × LF) :=
  bO (ak a1 a2) fun q1 => bO (iK q1.1 q1.2.1 q1.2.2.1 q1.2.2.2.1 q1.2.2.2.2 a3 a4 a5 a6 a7) fun x1 => some (x1.2.2.2.2.2, a1.set (Int.toNat a2) ((x1.1, x1.2.1, x1.2.2.1, x1.2.2.2.1, x1.2.2.2.2.1)))
theorem pV {a1 : LF} {a2 a3 a4 a5 a6 a7 : Int} {r : Bool × LF} (h : nP a1 a2 a3 a4 a5 a6 a7 = some r) :
    aU Tryz.prog 113 [.own 0 a1.length, .int .i64 a2, .agg [.int .i64 a3, .int .i64 a4, .int .i64 a5, .int .i64 a6, .int .i64 a7]] [.row 36 5 (aB aT a1)] (.bool r.1) [.row 36 5 (aB aT r.2)] := by
 unfold nP at h; refine SO Tryz.func113 rfl Tryz.ntmps113 fun C hN hρ => ?_; simp only [st0, aW, Nat.zero_add, Nat.reduceAdd]; refine AN hN ?_; refine AR hN fun K hK => ?_; obtain ⟨q1, h1, h⟩ := aA h; obtain ⟨⟨h2a, h2b⟩, h2c⟩ := aY co h1; (try simp only [EV, seval] at h2c); obtain ⟨x1, h3, h⟩ := aA h; simp only [EV, seval, h2a, h2b, h2c]; refine aj (o2 h3) (by simp only [AL, EV, seval, h2a, h2b, h2c]) (aN rfl) (ab rfl) ?_; simp only [EV, seval, h2a, h2b, h2c]; apply hK; clear hK K; refine AR hN fun K hK => ?_; have h4 := qi co ((x1.1, x1.2.1, x1.2.2.1, x1.2.2.2.1, x1.2.2.2.2.1)) 0 [.int .i64 x1.1, .int .i64 x1.2.1, .int .i64 x1.2.2.1, .int .i64 x1.2.2.2.1, .int .i64 x1.2.2.2.2.1] h1 (Nat.le_of_ble_eq_true rfl) rfl; obtain ⟨h4a, h4b⟩ := h4; (try simp only [EV, seval] at h4a); (try simp only [EV, seval] at h4b); simp only [EV, seval, h2a, h2b, h2c, h4a, h4b]; apply hK; clear hK K; refine AN hN ?_; injection h with h; subst h; exact AX (b' := 64) [(6, .bool x1.2.2.2.2.2)] [(0, .row 36 5 (aB aT (a1.set (Int.toNat a2) ((x1.1, x1.2.1, x1.2.2.1, x1.2.2.2.1, x1.2.2.2.2.1)))))] [(0, some 0)] [] hρ (EQ [0])
def mB (a1 a2 a3 a4 : Int) : Option (Int × Int × Int × Int) :=
  bO (ay a1 a2 a3 a4) fun x1 => br (!x1) (some (0, 0, 0, 0)) (some (IntKind.wrap .i64 (0 - a1), IntKind.wrap .i64 (0 - a2), IntKind.wrap .i64 (0 - a3), IntKind.wrap .i64 (0 - a4)))
theorem rx {a1 a2 a3 a4 : Int} {r : Int × Int × Int × Int} (h : mB a1 a2 a3 a4 = some r) :
    aU Tryz.prog 131 [.agg [.int .i64 a1, .int .i64 a2, .int .i64 a3, .int .i64 a4]] [] (.agg [.int .i64 r.1, .int .i64 r.2.1, .int .i64 r.2.2.1, .int .i64 r.2.2.2]) [] := by
 unfold mB at h; refine SO Tryz.func131 rfl Tryz.ntmps131 fun C hN hρ => ?_; simp only [st0, aW, Nat.zero_add, Nat.reduceAdd]; refine AN hN ?_; refine aH ?_; obtain ⟨x1, h1, h⟩ := aA h; refine AP hN (bL h1) ?_; refine AB h (fun hc1 h => ?_) fun hc1 h => ?_
 ·refine AN hN ?_; injection h with h; subst h; exact AX (b' := 64) [(2, .ptr 32 0)] [(32, .box 34 [.int .i64 0, .int .i64 0, .int .i64 0, .int .i64 0])] [(32, some 80)] [] hρ (EQ [])
 ·refine aE (AK ?_); refine AN hN ?_; injection h with h; subst h; exact AX (b' := 64) [(2, .ptr 32 0)] [(32, .box 34 [.int .i64 (IntKind.wrap .i64 (0 - a1)), .int .i64 (IntKind.wrap .i64 (0 - a2)), .int .i64 (IntKind.wrap .i64 (0 - a3)), .int .i64 (IntKind.wrap .i64 (0 - a4))])] [(32, some 80)] [] hρ (EQ [])
def kF (a1 a2 a3 a4 a5 : Int) : Option (Int × Int × Int × Int × Int) :=
  bO (bU a1 a2 a3 a4 a5) fun x1 => br (!x1) (some (0, 0, 0, 0, 0)) (bO (mB a1 a2 a3 a4) fun x2 => some (x2.1, x2.2.1, x2.2.2.1, x2.2.2.2, a5))
theorem ry {a1 a2 a3 a4 a5 : Int} {r : Int × Int × Int × Int × Int} (h : kF a1 a2 a3 a4 a5 = some r) :
    aU Tryz.prog 115 [.agg [.int .i64 a1, .int .i64 a2, .int .i64 a3, .int .i64 a4, .int .i64 a5]] [] (.agg [.int .i64 r.1, .int .i64 r.2.1, .int .i64 r.2.2.1, .int .i64 r.2.2.2.1, .int .i64 r.2.2.2.2]) [] := by
 unfold kF at h; refine SO Tryz.func115 rfl Tryz.ntmps115 fun C hN hρ => ?_; simp only [st0, aW, Nat.zero_add, Nat.reduceAdd]; refine AN hN ?_; refine aH ?_; obtain ⟨x1, h1, h⟩ := aA h; refine AP hN (c9 h1) ?_; refine AB h (fun hc1 h => ?_) fun hc1 h => ?_
 ·refine AN hN ?_; injection h with h; subst h; exact AX (b' := 64) [(2, .ptr 32 0)] [(32, .box 36 [.int .i64 0, .int .i64 0, .int .i64 0, .int .i64 0, .int .i64 0])] [(32, some 80)] [] hρ (EQ [])
 ·refine aE (AK ?_); obtain ⟨x2, h2, h⟩ := aA h; refine AP hN (rx h2) ?_; injection h with h; subst h; exact AX (b' := 64) [(2, .ptr 32 0)] [(32, .box 36 [.int .i64 x2.1, .int .i64 x2.2.1, .int .i64 x2.2.2.1, .int .i64 x2.2.2.2, .int .i64 a5])] [(32, some 80)] [] hρ (EQ [])
def db (v27 v28 : Int) (kl1 : Int → Int → (LF) → Option (LF × Bool)) (v39 : LF) : Option (LF × Bool) :=
  kl1 v27 (IntKind.wrap .i64 (v28 + 1)) v39
def gq (v27 v28 : Int) (kl1 : Int → Int → (LF) → Option (LF × Bool)) (v30 : Bool) (v31 : LF) : Option (LF × Bool) :=
  br v30 (some ([], false)) (db v27 v28 kl1 v31)
def dc (a2 v27 v28 : Int) (kl1 : Int → Int → (LF) → Option (LF × Bool)) (v33 : LF) (v34 v35 v36 v37 v38 : Int) : Option (LF × Bool) :=
  gd (decide (¬ a2 < 0)) (bO (nP v33 (bits .or .i64 v28 (IntKind.wrap .i64 (1 * 2 ^ min (Int.toNat a2) (IntKind.bits .i64)))) v34 v35 v36 v37 v38) fun x41 => gd (decide (x41.2.length = v33.length)) (br (!x41.1) (some ([], false)) (db v27 v28 kl1 x41.2)))
def gr (a2 v27 v28 : Int) (kl1 : Int → Int → (LF) → Option (LF × Bool)) (x36 : Int × Int × Int × Int × Int × Bool) (v32 : Bool) (v33 : LF) : Option (LF × Bool) :=
  br v32 (some ([], false)) (gd (decide (¬ a2 < 0)) (br ((bits .and .i64 (Int.fdiv v28 (2 ^ min (Int.toNat a2) (IntKind.bits .i64))) 1) == 1) (bO (kF x36.1 x36.2.1 x36.2.2.1 x36.2.2.2.1 x36.2.2.2.2.1) fun x40 => dc a2 v27 v28 kl1 v33 x40.1 x40.2.1 x40.2.2.1 x40.2.2.2.1 x40.2.2.2.2) (dc a2 v27 v28 kl1 v33 x36.1 x36.2.1 x36.2.2.1 x36.2.2.2.1 x36.2.2.2.2.1)))
def ir (v40 : LF) : Option (LF × Bool) :=
  some (v40, true)
def bZ (a1 a2 a3 a4 : Int) (a5 : LF) : Nat → Int → Int → (LF) → Option (LF × Bool)
  | 0, _, _, _ => none
  | n1 + 1, v27, v28, v29 =>
  br (decide (v28 < v27)) (bO (ak a5 v28) fun q3 => br (a1 != 4) (bO (rP a1 a2 a3 a4 v28) fun x29 => bO (jn x29.2) fun x30 => bO (fg q3.1 q3.2.1 q3.2.2.1 q3.2.2.2.1 q3.2.2.2.2 x30.1 x30.2.1 x30.2.2.1 x30.2.2.2.1 x30.2.2.2.2) fun x31 => bO (br (!x31.2.2.2.2.2) (some (true, v29)) (bO (nP v29 x29.1 x31.1 x31.2.1 x31.2.2.1 x31.2.2.2.1 x31.2.2.2.2.1) fun x32 => gd (decide (x32.2.length = v29.length)) (some (!x32.1, x32.2)))) fun x33 => gq v27 v28 (bZ a1 a2 a3 a4 a5 n1) x33.1 x33.2) (bO (gp 1) fun x35 => bO (fg q3.1 q3.2.1 q3.2.2.1 q3.2.2.2.1 q3.2.2.2.2 x35.1 x35.2.1 x35.2.2.1 x35.2.2.2.1 x35.2.2.2.2) fun x36 => bO (br (!x36.2.2.2.2.2) (some (true, v29)) (gd (decide (¬ a2 < 0)) (bO (nP v29 (bits .andNot .i64 v28 (IntKind.wrap .i64 (1 * 2 ^ min (Int.toNat a2) (IntKind.bits .i64)))) x36.1 x36.2.1 x36.2.2.1 x36.2.2.2.1 x36.2.2.2.2.1) fun x37 => gd (decide (x37.2.length = v29.length)) (some (!x37.1, x37.2))))) fun x38 => gr a2 v27 v28 (bZ a1 a2 a3 a4 a5 n1) x36 x38.1 x38.2)) (ir v29)
def it (a1 a2 a3 a4 : Int) (a5 : LF) (v1 : Bool) : Option (LF × Bool) :=
  br v1 (some ([], false)) (gd (decide (0 ≤ (a5.length : Int) ∧ (a5.length : Int) ≤ 1048576)) (bZ a1 a2 a3 a4 a5 FU ((a5.length : Int)) 0 (List.replicate (Int.toNat ((a5.length : Int))) ((0, 0, 0, 0, 0) : Int × Int × Int × Int × Int))))
def iL (a1 a2 a3 a4 : Int) (a5 : LF) : Option (LF × Bool) :=
  bO (dW a5) fun x1 => bO (br (!x1) (some true) (bO (g7 a5) fun x2 => bO (gi a1 a2 a3 a4 x2) fun x3 => some (!x3))) fun x4 => it a1 a2 a3 a4 a5 x4
theorem s6 {a1 a2 a3 a4 : Int} {a5 : LF} {r : LF × Bool} (h : iL a1 a2 a3 a4 a5 = some r) :
    aU Tryz.prog 90 [.agg [.int .i64 a1, .int .i64 a2, .int .i64 a3, .int .i64 a4], .sl (aB aT a5) a5.length] [] (.tup [.own 0 r.1.length, .bool r.2]) [.row 36 5 (aB aT r.1)] := by
 unfold iL at h; refine SO Tryz.func90 rfl Tryz.ntmps90 fun C hN hρ => ?_; simp only [st0, aW, Nat.zero_add, Nat.reduceAdd]; refine AN hN ?_; refine aH ?_; refine AJ (fun S => ∃ (v1 : Bool), S = ⟨mkT [(1, .sl (aB aT a5) a5.length), (2, .ptr 32 0), (24, .bool v1)], mkR [(32, .box 73 [.int .i64 a1, .int .i64 a2, .int .i64 a3, .int .i64 a4])], 64⟩ ∧ it a1 a2 a3 a4 a5 v1 = some r) hN ?_ ?_
 ·intro K hK; obtain ⟨x1, h1, h⟩ := aA h; simp only [EV, seval]; refine CP (iq h1) ?_; obtain ⟨x4, hv1, h⟩ := aA h; rcases aR hv1 with ⟨hc1, hv1⟩ | ⟨hc1, hv1⟩
  ·cases hv1; simp only [EV, seval, hc1]; refine hK _ _ _ (show aM _ _ _ from aP ⟨_, rfl, h⟩ (aD [(32, some 64)] [] hρ (by kernel_rfl) ?_ ?_)) <;> simp only [AL, EV, seval, hc1]
  ·obtain ⟨x5, h4, hv1⟩ := aA hv1; simp only [EV, seval, hc1]; refine aj (nc h4) (by simp only [AL, EV, seval, hc1]) (aN rfl) (ab rfl) ?_; obtain ⟨x6, h5, hv1⟩ := aA hv1; simp only [EV, seval, hc1]; refine aj (jb h5) (by simp only [AL, EV, seval, hc1]) (aN rfl) (ab rfl) ?_; cases hv1; simp only [EV, seval, hc1]; refine hK _ _ _ (show aM _ _ _ from aP ⟨_, rfl, h⟩ (aD [(32, some 64)] [] hρ (by kernel_rfl) ?_ ?_)) <;> simp only [AL, EV, seval, hc1]
 ·rintro S ⟨v1, rfl, h⟩; unfold it at h; refine AB h (fun hc2 h => ?_) fun hc2 h => ?_
  ·refine AN hN ?_; injection h with h; subst h; exact AX (b' := 64) [(4, .own 32 0), (5, .bool false)] [(32, .row 36 5 (aB aT ([])))] [(32, none)] [] hρ (EQ [32])
  ·refine aE (AK ?_); refine AR hN fun K hK => ?_; obtain ⟨h6, h⟩ := gdI h; have h7 := mZ (e := aT) ((0, 0, 0, 0, 0)) (Int.toNat ((a5.length : Int))); simp only [EN] at h7; have h8 : (List.replicate (Int.toNat ((a5.length : Int))) ((0, 0, 0, 0, 0) : Int × Int × Int × Int × Int)).length = Int.toNat ((a5.length : Int)) := List.length_replicate; simp only [EV, seval, h6, h7, h8]; apply hK; clear hK K; refine aQ (fun S => ∃ (v40 : LF), S = ⟨mkT [(6, .own 32 v40.length)], mkR [(32, .row 36 5 (aB aT v40))], 64⟩ ∧ ir v40 = some r) ?_ ?_
   ·refine AN hN ?_; refine aJ ?_; refine aX (fun n S => ∃ (v27 v28 : Int) (v29 : LF), S = ⟨mkT [(2, .ptr 32 0), (6, .own 33 v29.length), (28, .sl (aB aT a5) a5.length), (29, .int .i64 v27), (30, .int .i64 v28)], mkR [(32, .box 73 [.int .i64 a1, .int .i64 a2, .int .i64 a3, .int .i64 a4]), (33, .row 36 5 (aB aT v29))], 64⟩ ∧ bZ a1 a2 a3 a4 a5 n v27 v28 v29 = some r) FU ?_ ?_ ?_
    ·exact AC ⟨_, _, _, rfl, h⟩ [(32, some 32), (33, some 96)] [] hρ
    ·rintro S ⟨_, _, _, _, h⟩; rw [bZ] at h; cases h
    ·rintro n1 S ⟨v27, v28, v29, rfl, h⟩; rw [bZ] at h; refine AN hN ?_; refine aH ?_; refine AB h (fun hc19 h => ?_) fun hc19 h => ?_
     ·refine aE (AK ?_); refine aQ (fun S => ∃ (v39 : LF), S = ⟨mkT [(2, .ptr 32 0), (6, .own 33 v39.length), (28, .sl (aB aT a5) a5.length), (29, .int .i64 v27), (30, .int .i64 v28)], mkR [(32, .box 73 [.int .i64 a1, .int .i64 a2, .int .i64 a3, .int .i64 a4]), (33, .row 36 5 (aB aT v39))], 64⟩ ∧ db v27 v28 (bZ a1 a2 a3 a4 a5 n1) v39 = some r) ?_ ?_
      ·refine aJ ?_; refine AR hN fun K hK => ?_; obtain ⟨q3, h43, h⟩ := aA h; obtain ⟨⟨h44a, h44b⟩, h44c⟩ := aY co h43; (try simp only [EV, seval] at h44c); simp only [EV, seval, h44a, h44b, h44c]; apply hK; clear hK K; refine aH ?_; refine AN hN ?_; refine AB h (fun hc20 h => ?_) fun hc20 h => ?_
       ·obtain ⟨x29, h45, h⟩ := aA h; refine AP hN (wL h45) ?_; refine AR hN fun K hK => ?_; obtain ⟨x30, h46, h⟩ := aA h; simp only [EV, seval]; refine CP (qa h46) ?_; obtain ⟨x31, h47, h⟩ := aA h; simp only [EV, seval]; refine CP (la h47) ?_; simp only [EV, seval]; apply hK; clear hK K; refine aH ?_; refine AJ (fun S => ∃ (v30 : Bool) (v31 : LF), S = ⟨mkT [(2, .ptr 32 0), (6, .own 33 v31.length), (28, .sl (aB aT a5) a5.length), (29, .int .i64 v27), (30, .int .i64 v28), (59, .bool v30)], mkR [(32, .box 73 [.int .i64 a1, .int .i64 a2, .int .i64 a3, .int .i64 a4]), (33, .row 36 5 (aB aT v31))], 64⟩ ∧ gq v27 v28 (bZ a1 a2 a3 a4 a5 n1) v30 v31 = some r) hN ?_ ?_
        ·intro K hK; obtain ⟨x33, hv6, h⟩ := aA h; rcases aR hv6 with ⟨hc21, hv6⟩ | ⟨hc21, hv6⟩
         ·cases hv6; (try dsimp only at h); simp only [EV, seval, hc21]; refine hK _ _ _ (show aM _ _ _ from aP ⟨_, _, rfl, h⟩ (aD [(32, some 32), (33, some 33)] [] hρ (by kernel_rfl) ?_ ?_)) <;> simp only [AL, EV, seval, hc21]
         ·obtain ⟨x34, h50, hv6⟩ := aA hv6; simp only [EV, seval, hc21]; obtain ⟨h51, hv6⟩ := nI hv6; replace h51 := of_decide_eq_true h51; refine cJ [33] (pV h50) (by simp only [AL, EV, seval, hc21, h51]) (by simp only [AL, EV, seval, hc21, h51]) (by kernel_rfl) (by simp only [EV, aZ, SD, seval]) (aN rfl) (aN rfl) (ab rfl) ?_; cases hv6; (try dsimp only at h); simp only [EV, seval, hc21, h51]; refine hK _ _ _ (show aM _ _ _ from aP ⟨_, _, rfl, h⟩ (aD [(32, some 32), (33, some 33)] [] hρ (by kernel_rfl) ?_ ?_)) <;> simp only [AL, EV, seval, hc21, h51]
        ·rintro S ⟨v30, v31, rfl, h⟩; unfold gq at h; refine AB h (fun hc22 h => ?_) fun hc22 h => ?_
         ·refine AN hN ?_; injection h with h; subst h; exact AX (b' := 64) [(4, .own 32 0), (5, .bool false)] [(32, .row 36 5 (aB aT ([])))] [(32, none)] [] hρ (EQ [32])
         ·refine aE (AK ?_); exact aa (AC ⟨_, rfl, h⟩ [(32, some 32), (33, some 33)] [] hρ)
       ·refine aE (AK ?_); refine AR hN fun K hK => ?_; obtain ⟨x35, h52, h⟩ := aA h; simp only [EV, seval]; refine CP (pQ h52) ?_; obtain ⟨x36, h53, h⟩ := aA h; simp only [EV, seval]; refine CP (la h53) ?_; simp only [EV, seval]; apply hK; clear hK K; refine aH ?_; refine AJ (fun S => ∃ (v32 : Bool) (v33 : LF), S = ⟨mkT [(2, .ptr 32 0), (6, .own 33 v33.length), (7, .int .i64 v28), (13, .ptr 34 0), (28, .sl (aB aT a5) a5.length), (29, .int .i64 v27), (30, .int .i64 v28), (78, .bool v32)], mkR [(32, .box 73 [.int .i64 a1, .int .i64 a2, .int .i64 a3, .int .i64 a4]), (33, .row 36 5 (aB aT v33)), (34, .box 36 [.int .i64 x36.1, .int .i64 x36.2.1, .int .i64 x36.2.2.1, .int .i64 x36.2.2.2.1, .int .i64 x36.2.2.2.2.1])], 64⟩ ∧ gr a2 v27 v28 (bZ a1 a2 a3 a4 a5 n1) x36 v32 v33 = some r) hN ?_ ?_
        ·intro K hK; obtain ⟨x38, hv7, h⟩ := aA h; rcases aR hv7 with ⟨hc23, hv7⟩ | ⟨hc23, hv7⟩
         ·cases hv7; (try dsimp only at h); simp only [EV, seval, hc23]; refine hK _ _ _ (show aM _ _ _ from aP ⟨_, _, rfl, h⟩ (aD [(32, some 32), (33, some 33), (34, some 3232)] [] hρ (by kernel_rfl) ?_ ?_)) <;> simp only [AL, EV, seval, hc23]
         ·obtain ⟨h57, hv7⟩ := nI hv7; replace h57 := of_decide_eq_true h57; obtain ⟨x39, h58, hv7⟩ := aA hv7; simp only [EV, seval, hc23, h57]; obtain ⟨h59, hv7⟩ := nI hv7; replace h59 := of_decide_eq_true h59; refine cJ [33] (pV h58) (by simp only [AL, EV, seval, hc23, h57, h59]) (by simp only [AL, EV, seval, hc23, h57, h59]) (by kernel_rfl) (by simp only [EV, aZ, SD, seval]) (aN rfl) (aN rfl) (ab rfl) ?_; cases hv7; (try dsimp only at h); simp only [EV, seval, hc23, h57, h59]; refine hK _ _ _ (show aM _ _ _ from aP ⟨_, _, rfl, h⟩ (aD [(32, some 32), (33, some 33), (34, some 3232)] [] hρ (by kernel_rfl) ?_ ?_)) <;> simp only [AL, EV, seval, hc23, h57, h59]
        ·rintro S ⟨v32, v33, rfl, h⟩; unfold gr at h; refine AB h (fun hc24 h => ?_) fun hc24 h => ?_
         ·refine AN hN ?_; injection h with h; subst h; exact AX (b' := 64) [(4, .own 32 0), (5, .bool false)] [(32, .row 36 5 (aB aT ([])))] [(32, none)] [] hρ (EQ [32])
         ·refine aE (AK ?_); refine aQ (fun S => ∃ (v34 v35 v36 v37 v38 : Int), S = ⟨mkT [(2, .ptr 32 0), (6, .own 33 v33.length), (7, .int .i64 v28), (13, .ptr 34 0), (28, .sl (aB aT a5) a5.length), (29, .int .i64 v27), (30, .int .i64 v28)], mkR [(32, .box 73 [.int .i64 a1, .int .i64 a2, .int .i64 a3, .int .i64 a4]), (33, .row 36 5 (aB aT v33)), (34, .box 36 [.int .i64 v34, .int .i64 v35, .int .i64 v36, .int .i64 v37, .int .i64 v38])], 64⟩ ∧ dc a2 v27 v28 (bZ a1 a2 a3 a4 a5 n1) v33 v34 v35 v36 v37 v38 = some r) ?_ ?_
          ·refine AR hN fun K hK => ?_; obtain ⟨h60, h⟩ := gdI h; simp only [EV, seval, h60]; apply hK; clear hK K; refine ah (a := .bool ((bits .and .i64 (Int.fdiv v28 (2 ^ min (Int.toNat a2) (IntKind.bits .i64))) 1) == 1)) (by simp only [EV, seval, h60]) (brK h (fun hc25 h => ?_) (fun hc25 h => ?_))
           ·refine AS hN fun K hK => ?_; obtain ⟨x40, h61, h⟩ := aA h; simp only [EV, seval]; refine CP (ry h61) ?_; simp only [EV, seval]; exact hK _ _ _ (AC ⟨_, _, _, _, _, rfl, h⟩ [(32, some 32), (33, some 33), (34, some 34)] [] hρ)
           ·refine aE (show aM _ _ _ from aP ⟨_, _, _, _, _, rfl, h⟩ (aD [(32, some 32), (33, some 33), (34, some 34)] [] hρ (by kernel_rfl) ?_ ?_)) <;> simp only [AL, EV, seval, h60]
          ·rintro S ⟨v34, v35, v36, v37, v38, rfl, h⟩; unfold dc at h; refine AR hN fun K hK => ?_; obtain ⟨h62, h⟩ := gdI h; obtain ⟨x41, h63, h⟩ := aA h; simp only [EV, seval, h62]; obtain ⟨h64, h⟩ := gdI h; refine cJ [33] (pV h63) (by simp only [AL, EV, seval, h62, h64]) (by simp only [AL, EV, seval, h62, h64]) (by kernel_rfl) (by simp only [EV, aZ, SD, seval]) (aN rfl) (aN rfl) (ab rfl) ?_; simp only [EV, seval, h62, h64]; apply hK; clear hK K; refine ah (a := .bool (!x41.1)) (by simp only [EV, seval, h62, h64]) (brK h (fun hc26 h => ?_) (fun hc26 h => ?_))
           ·refine AR hN fun K hK => ?_; simp only [EV, seval, h64]; apply hK; clear hK K; injection h with h; subst h; refine ba (aD (lt := [(4, .own 32 0), (5, .bool false)]) (lr := [(32, .row 36 5 (aB aT ([])))]) (b' := 64) [(32, none)] [] hρ (by kernel_rfl) ?_ ?_) (bW (cX [32] (.inr rfl) (by kernel_rfl) (by kernel_rfl) ?_))
            ·simp only [AL, EV, seval, h64]
            ·simp only [AL, EV, seval, h64]
            ·simp only [EV, Tryz.results90, seval]
           ·refine aE (show aM _ _ _ from aP ⟨_, rfl, h⟩ (aD [(32, some 32), (33, some 33)] [] hρ (by kernel_rfl) ?_ ?_)) <;> simp only [AL, EV, seval, h62, h64]
      ·rintro S ⟨v39, rfl, h⟩; unfold db at h; refine AS hN fun K hK => ?_; simp only [EV, seval]; exact hK _ _ _ (AC ⟨_, _, _, rfl, h⟩ [(32, some 32), (33, some 33)] [] hρ)
     ·exact aa (AC ⟨_, rfl, h⟩ [(32, some 33)] [] hρ)
   ·rintro S ⟨v40, rfl, h⟩; unfold ir at h; refine AN hN ?_; injection h with h; subst h; exact AX (b' := 64) [(4, .own 32 v40.length), (5, .bool true)] [(32, .row 36 5 (aB aT v40))] [(32, some 32)] [] hρ (EQ [32])
def kY (a1 : Int) (v8 : List (LF)) : Option (Int × List (LF)) :=
  some (a1, v8)
def dE (a1 : Int) (a2 : List (LF)) : Nat → Int → Int → (List (LF)) → Option (Int × List (LF))
  | 0, _, _, _ => none
  | n1 + 1, v5, v6, v7 =>
  br (decide (v6 < v5)) (bO (ak a2 v6) fun q3 => gd (decide (([] : LF).length + q3.length ≤ 16777216)) (gd (decide (v7.length + ([q3]).length ≤ 16777216)) ((dE a1 a2 n1) v5 (IntKind.wrap .i64 (v6 + 1)) (v7 ++ ([q3]))))) (kY a1 v7)
def kv (a1 : Int) (a2 : List (LF)) : Option (Int × List (LF)) :=
  dE a1 a2 FU ((a2.length : Int)) 0 ([] : List (LF))
theorem qv {a1 : Int} {a2 : List (LF)} {r : Int × List (LF)} (h : kv a1 a2 = some r) :
    aU Tryz.prog 88 [.agg [.int .i64 a1, .sl (aB aV a2) a2.length]] [] (.agg [.int .i64 r.1, .own 0 r.2.length]) (.tab 55 1 (cm 1 r.2) :: cY 36 5 aT r.2) := by
 unfold kv at h; refine SO Tryz.func88 rfl Tryz.ntmps88 fun C hN hρ => ?_; simp only [st0, aW, Nat.zero_add, Nat.reduceAdd]; refine AN hN ?_; refine AN hN ?_; refine aQ (fun S => ∃ (v8 : List (LF)), S = ⟨mkT [(2, .ptr 32 0), (3, .ptr 33 0)], ap (mkR [(32, .box 46 [.int .i64 0, .nil]), (33, .box 46 [.int .i64 a1, .own 34 v8.length]), (34, .tab 55 1 (cm 1099511627776 v8))]) 1099511627776 (cY 36 5 aT v8), 64⟩ ∧ kY a1 v8 = some r) ?_ ?_
 ·refine AN hN ?_; refine aJ ?_; refine aX (fun n S => ∃ (v5 v6 : Int) (v7 : List (LF)), S = ⟨mkT [(2, .ptr 32 0), (3, .ptr 33 0), (10, .sl (aB aV a2) a2.length), (11, .int .i64 v5), (12, .int .i64 v6)], ap (mkR [(32, .box 46 [.int .i64 0, .nil]), (33, .box 46 [.int .i64 a1, .own 34 v7.length]), (34, .tab 55 1 (cm 1099511627776 v7))]) 1099511627776 (cY 36 5 aT v7), 64⟩ ∧ dE a1 a2 n v5 v6 v7 = some r) FU ?_ ?_ ?_
  ·refine aP ⟨_, _, _, rfl, h⟩ (fw (E := 36) (sz := 5) (e := aT) 1099511627776 [(32, some 80), (33, some 1136), (34, none)] [] hρ (by kernel_rfl) (by kernel_rfl) (by kernel_rfl) (by kernel_rfl) ?_ ?_ (by simp only [EV, seval]))
   ·simp only [AL, EV, seval]
   ·simp only [AL, EV, seval]
  ·rintro S ⟨_, _, _, _, h⟩; rw [dE] at h; cases h
  ·rintro n1 S ⟨v5, v6, v7, rfl, h⟩; rw [dE] at h; refine AN hN ?_; refine aH ?_; refine AB h (fun hc3 h => ?_) fun hc3 h => ?_
   ·refine aE (AK ?_); refine aH ?_; refine aJ ?_; refine AR hN fun K hK => ?_; obtain ⟨q3, h11, h⟩ := aA h; obtain ⟨⟨h12a, h12b⟩, h12c⟩ := aY lN h11; (try simp only [EV, seval] at h12c); simp only [EV, seval, h12a, h12b, h12c]; apply hK; clear hK K; refine rk (BR := BR) [(1, [33]), (4, [2144, 2176])] (by kernel_rfl) FM (by rw [hN]; kernel_rfl) (by kernel_rfl) ?_; intro K hK; obtain ⟨h13, h⟩ := gdI h; (try simp only [EV, seval] at h13); have h14 := iY co q3; obtain ⟨h15, h⟩ := gdI h; (try simp only [EV, seval] at h15); simp only [AE, AT, TY, EN, FX, seval, h13, h14, h15]; refine hK _ _ _ (show AW _ _ _ _ _ from ?_); refine ba (H8 (E := 36) (sz := 5) (e := aT) (le := v7) (x := q3) 2176 (lt := [(2, .ptr 32 0), (3, .ptr 33 0), (10, .sl (aB aV a2) a2.length), (11, .int .i64 v5), (12, .int .i64 v6)]) (lr := [(32, .box 46 [.int .i64 0, .nil]), (33, .box 46 [.int .i64 a1, .own 2208 (v7 ++ ([q3])).length]), (2208, .tab 55 1 (cm 1099511627776 (v7 ++ ([q3]))))]) (b' := 3152) [(32, some 32), (33, some 33), (2208, some 2208)] [] hρ (by kernel_rfl) (by kernel_rfl) (by kernel_rfl) (by kernel_rfl) ?_ ?_ (by simp only [EV, seval]) (by simp only [EV, seval])) ?_
    ·simp only [AL, EV, seval]
    ·simp only [AL, EV, seval]
    refine AS hN fun K hK => ?_; simp only [EV, seval]; refine hK _ _ _ (show aM _ _ _ from aP ⟨_, _, _, rfl, h⟩ (fw (E := 36) (sz := 5) (e := aT) 1099511627776 [(32, some 32), (33, some 33), (34, some 2208)] [] hρ (by kernel_rfl) (by kernel_rfl) (by kernel_rfl) (by kernel_rfl) ?_ ?_ (by simp only [EV, seval])))
    ·simp only [AL, EV, seval]
    ·simp only [AL, EV, seval]
   ·refine aa (show aM _ _ _ from aP ⟨_, rfl, h⟩ (fw (E := 36) (sz := 5) (e := aT) 1099511627776 [(32, some 32), (33, some 33), (34, some 34)] [] hρ (by kernel_rfl) (by kernel_rfl) (by kernel_rfl) (by kernel_rfl) ?_ ?_ (by simp only [EV, seval])))
    ·simp only [AL, EV, seval]
    ·simp only [AL, EV, seval]
 ·rintro S ⟨v8, rfl, h⟩; unfold kY at h; refine AN hN ?_; injection h with h; subst h; refine ba (fw (E := 36) (sz := 5) (e := aT) 1099511627776 (lt := [(2, .ptr 32 0)]) (lr := [(32, .box 46 [.int .i64 a1, .own 33 v8.length]), (33, .tab 55 1 (cm 1099511627776 v8))]) (b' := 64) (le := v8) [(32, some 32), (33, some 34)] [] hρ (by kernel_rfl) (by kernel_rfl) (by kernel_rfl) (by kernel_rfl) ?_ ?_ (by simp only [EV, seval])) (bW (Cg (cid := 33) (by simp only [EV, Tryz.results88, seval]) (by simp only [EV, seval]) (by kernel_rfl)))
  ·simp only [AL, EV, seval]
  ·simp only [AL, EV, seval]
  skip
def o4 (v14 v15 : Int) (kl3 : Int → Int → Option Bool) : Option Bool :=
  kl3 v14 (IntKind.wrap .i64 (v15 + 1))
def ed (v14 v15 : Int) (kl3 : Int → Int → Option Bool) (q9 : LF) : Nat → Int → Int → Option Bool
  | 0, _, _ => none
  | n4 + 1, v19, v20 =>
  br (decide (v20 < v19)) (bO (ak q9 v20) fun q12 => br (!((q12.1 == 0) && ((q12.2.1 == 0) && ((q12.2.2.1 == 0) && ((q12.2.2.2.1 == 0) && (q12.2.2.2.2 == 0)))))) (some false) ((ed v14 v15 kl3 q9 n4) v19 (IntKind.wrap .i64 (v20 + 1)))) (o4 v14 v15 kl3)
def o5 : Option Bool :=
  some true
def dj (a2 : List (LF)) : Nat → Int → Int → Option Bool
  | 0, _, _ => none
  | n3 + 1, v14, v15 =>
  br (decide (v15 < v14)) (bO (ak a2 v15) fun q9 => ed v14 v15 (dj a2 n3) q9 FU ((q9.length : Int)) 0) (o5)
def o6 (a1 : Int) (a2 : List (LF)) : Option Bool :=
  dj a2 FU ((a2.length : Int)) 0
theorem vA {a1 : Int} {a2 : List (LF)} {r : Bool} (h : o6 a1 a2 = some r) :
    aU Tryz.prog 89 [.agg [.int .i64 a1, .sl (aB aV a2) a2.length]] [] (.bool r) [] := by
 unfold o6 at h; refine SO Tryz.func89 rfl Tryz.ntmps89 fun C hN hρ => ?_; simp only [st0, aW, Nat.zero_add, Nat.reduceAdd]; refine AN hN ?_; refine aQ (fun S => S = ⟨mkT [], mkR [], 64⟩ ∧ o5 = some r) ?_ ?_
 ·refine AN hN ?_; refine aJ ?_; refine aX (fun n S => ∃ (v14 v15 : Int), S = ⟨mkT [(8, .sl (aB aV a2) a2.length), (9, .int .i64 v14), (10, .int .i64 v15)], mkR [], 64⟩ ∧ dj a2 n v14 v15 = some r) FU ?_ ?_ ?_
  ·exact AC ⟨_, _, rfl, h⟩ [] [] hρ
  ·rintro S ⟨_, _, _, h⟩; rw [dj] at h; cases h
  ·rintro n3 S ⟨v14, v15, rfl, h⟩; rw [dj] at h; refine AN hN ?_; refine aH ?_; refine AB h (fun hc15 h => ?_) fun hc15 h => ?_
   ·refine aE (AK ?_); refine aQ (fun S => S = ⟨mkT [(8, .sl (aB aV a2) a2.length), (9, .int .i64 v14), (10, .int .i64 v15)], mkR [], 64⟩ ∧ o4 v14 v15 (dj a2 n3) = some r) ?_ ?_
    ·refine aJ ?_; refine AR hN fun K hK => ?_; obtain ⟨q9, h17, h⟩ := aA h; obtain ⟨⟨h18a, h18b⟩, h18c⟩ := aY lN h17; (try simp only [EV, seval] at h18c); simp only [EV, seval, h18a, h18b, h18c]; apply hK; clear hK K; refine AN hN ?_; refine aJ ?_; refine aX (fun n S => ∃ (v19 v20 : Int), S = ⟨mkT [(8, .sl (aB aV a2) a2.length), (9, .int .i64 v14), (10, .int .i64 v15), (14, .sl (aB aT q9) q9.length), (15, .int .i64 v19), (16, .int .i64 v20)], mkR [], 64⟩ ∧ ed v14 v15 (dj a2 n3) q9 n v19 v20 = some r) FU ?_ ?_ ?_
     ·exact AC ⟨_, _, rfl, h⟩ [] [] hρ
     ·rintro S ⟨_, _, _, h⟩; rw [ed] at h; cases h
     ·rintro n4 S ⟨v19, v20, rfl, h⟩; rw [ed] at h; refine AN hN ?_; refine aH ?_; refine AB h (fun hc20 h => ?_) fun hc20 h => ?_
      ·refine aE (AK ?_); refine aH ?_; refine aJ ?_; refine AR hN fun K hK => ?_; obtain ⟨q12, h23, h⟩ := aA h; obtain ⟨⟨h24a, h24b⟩, h24c⟩ := aY co h23; (try simp only [EV, seval] at h24c); simp only [EV, seval, h24a, h24b, h24c]; apply hK; clear hK K; refine AN hN ?_; refine AB h (fun hc21 h => ?_) fun hc21 h => ?_
       ·refine AN hN ?_; injection h with h; subst h; exact AX (b' := 64) [(2, .bool false)] [] [] [] hρ (EQ [])
       ·refine aE (AK ?_); refine AS hN fun K hK => ?_; simp only [EV, seval]; exact hK _ _ _ (AC ⟨_, _, rfl, h⟩ [] [] hρ)
      ·exact aa (AC ⟨rfl, h⟩ [] [] hρ)
    ·rintro S ⟨rfl, h⟩; unfold o4 at h; refine AS hN fun K hK => ?_; simp only [EV, seval]; exact hK _ _ _ (AC ⟨_, _, rfl, h⟩ [] [] hρ)
   ·exact aa (AC ⟨rfl, h⟩ [] [] hρ)
 ·rintro S ⟨rfl, h⟩; unfold o5 at h; refine AN hN ?_; injection h with h; subst h; exact AX (b' := 64) [(2, .bool true)] [] [] [] hρ (EQ [])
section
variable {P : Program} {BR : Nat → Bool} {C : Ctx} {M : Imm} {ρ : Plc} {st : St} {a : Act} {w : World}
theorem tL {ops : Array Oper} (hN : mY C.N ops = true) {Q : Exit → Act → World → Prop} {K : St → Prop} (L2 : List Nat) (hK : ∀ st' M' ρ' a' w', K st' → Rel C M' ρ' st' a' w' → wpOps P ops Q L2 a' w') :
  ∀ (L : List Nat) (bs : Nat) (st : St) (M : Imm) (ρ : Plc) (a : Act) (w : World), sV P BR ops bs L st K → Rel C M ρ st a w → wpOps P ops Q (L ++ L2) a w
 | [], bs, st, M, ρ, a, w, h, hR => hK _ _ _ _ _ h hR
 | i :: L, bs, st, M, ρ, a, w, h, hR => by
  obtain ⟨o, st', ho, hg, h⟩ := h
  rw [List.cons_append, wpOps_cons]
  exact tb ho hg hR (oS hN ho) (fun M' ρ' a' w' hR' => tL hN L2 hK L bs st' M' ρ' a' w' h hR')
theorem qb {ops : List Oper} {bs : Nat} {K : St → Prop} : ∀ (l : List Oper) (i : Nat) (st : St), (∀ j, j < l.length → l[j]? = ops[i + j]?) → di P BR ops bs i l st K → sV P BR ops.toArray bs (List.range' i l.length) st K
 | [], i, st, _, h => h
 | o :: l, i, st, hl, h => by
  obtain ⟨st', h1, h2⟩ := Ag h
  have h0 : ops[i]? = some o := by simpa using (hl 0 (by simp)).symm
  rw [List.length_cons, List.range'_succ]
  exact ⟨o, st', by simpa using h0, h1, qb l (i + 1) st' (fun j hj => by have := hl (j + 1) (by simpa using hj); simpa [Nat.add_assoc, Nat.add_comm 1 j] using this) h2⟩
end
section
variable {P : Program} {BR : Nat → Bool} {C : Ctx} {Q : Exit → St → Prop} {ops : List Oper}
theorem J7 {id : Nat} {y : Code} {T : Nat → AV} {R : Nat → Option Row} {b : Nat} (n : Nat) (hn : n ≤ ops.length) (hN : mY C.N ops.toArray = true)
    (h : ∀ Z : St → Prop, (∀ T' R' b', (∃ S, Le C (St.mk T' R' b') S ∧ ∀ K : St → Prop, (∀ T2 R2 b2, AW P C y (St.mk T2 R2 (b + 1024)) Q → K (St.mk T2 R2 b2)) → di P BR ops b n (ops.drop n) S K) → Z (St.mk T' R' b')) → di P BR ops b 0 (ops.take n) (St.mk T R b) Z) :
    AW P C (.seq (.region id ops.toArray false) y) (St.mk T R b) Q :=
  aH fun M ρ a w hR => by
    have h0 := h (fun st => ∃ S, Le C st S ∧ ∀ K : St → Prop, (∀ T2 R2 b2, AW P C y (St.mk T2 R2 (b + 1024)) Q → K (St.mk T2 R2 b2)) → di P BR ops b n (ops.drop n) S K) (fun _ _ _ h => h)
    have e1 : List.range ops.toArray.size = List.range' 0 (ops.take n).length ++ List.range' n (ops.drop n).length := by
      rw [List.size_toArray, List.range_eq_range', List.length_take, List.length_drop, Nat.min_eq_left hn]
      have : ops.length = n + (ops.length - n) := by omega
      rw [this, ← List.range'_append_1, Nat.zero_add, ← this]
    refine wp_region ?_
    rw [e1]
    have s1 := qb (ops.take n) 0 _ (fun j hj => by
      rw [List.length_take] at hj
      rw [Nat.zero_add, List.getElem?_take_of_lt (by omega)]) h0
    refine tL (K := fun st => ∃ S, Le C st S ∧ ∀ K : St → Prop, (∀ T2 R2 b2, AW P C y (St.mk T2 R2 (b + 1024)) Q → K (St.mk T2 R2 b2)) → di P BR ops b n (ops.drop n) S K) hN _ (fun st1 M1 ρ1 a1 w1 hz hR1 => ?_) _ _ _ M ρ a w s1 hR
    obtain ⟨S, hle, hz⟩ := hz
    obtain ⟨M2, ρ2, hR2⟩ := hle _ _ _ _ hR1
    have s2 := qb (ops.drop n) n S (fun j hj => by rw [List.getElem?_drop]) (hz (fun st' => AW P C y (St.mk st'.tmps st'.rows (b + 1024)) Q) (fun _ _ _ h => h))
    refine pk hN (K := fun st' => AW P C y (St.mk st'.tmps st'.rows (b + 1024)) Q) (fun st' M' ρ' a' w' h1 h2 => ?_) _ _ _ _ _ _ _ s2 hR2
    exact ⟨St.mk st'.tmps st'.rows (b + 1024), M', ρ', h1, h2.next _⟩
end
end Go.Proofs.YtbfmljdablopjaaGreat
