/- The engine, part 16: where ways meet, a state in a canonical form: rows renamed or dropped, slices frozen, nil slices taken as slices of the call's own. Over any program. -/
import Derived.Test.YtfpfalknddfejaaEo
namespace Go.Proofs.Ytfpfalknddfejaa
open Go.RowKit
set_option linter.unusedVariables false
set_option linter.unusedSimpArgs false
abbrev GMap := Nat → Option (Option Nat)
/-- What a canonical row comes from: a row, or a nil slice. -/
def lk : List (Nat × Option Nat) → GMap
  | [], _ => none
  | (k, v) :: l, s => if s = k then some v else lk l s
def fz1 : Option Row → List AV → Prop
  | some (.row _ _ cs), cs' => cs = cs'
  | _, _ => False
def cv1 (g : GMap) (F : Nat → Option Row) : AV → AV → Prop
  | _, .top => True
  | .own s n, .own s' n' => g s' = some (some s) ∧ n = n'
  | .nil, .own s' n' => g s' = some none ∧ n' = 0
  | .ptr s o, .ptr s' o' => g s' = some (some s) ∧ o = o'
  | .sl cs n, .sl cs' n' => cs = cs' ∧ n = n'
  | .nil, .sl cs' n' => cs' = [] ∧ n' = 0
  | .own s n, .sl cs' n' => fz1 (F s) cs' ∧ n = n'
  | .int k n, .int k' n' => k = k' ∧ n = n'
  | .bool b, .bool b' => b = b'
  | .str s, .str s' => s = s'
  | .nil, .nil => True
  | .eptr cs, .eptr cs' => cs = cs'
  | _, _ => False
def cvL (g : GMap) (F : Nat → Option Row) : List AV → List AV → Prop
  | [], [] => True
  | c :: cs, c' :: cs' => cv1 g F c c' ∧ cvL g F cs cs'
  | _, _ => False
def cvV (g : GMap) (F : Nat → Option Row) : AV → AV → Prop
  | .agg cs, .agg cs' => cvL g F cs cs'
  | a, a' => cv1 g F a a'
def cvT (g : GMap) (F : Nat → Option Row) : List AV → List AV → Prop
  | [], [] => True
  | c :: cs, c' :: cs' => cvV g F c c' ∧ cvT g F cs cs'
  | _, _ => False
def cvW (g : GMap) (F : Nat → Option Row) : AV → AV → Prop
  | .tup cs, .tup cs' => cvT g F cs cs'
  | a, a' => cvV g F a a'
def cvR (g : GMap) (F : Nat → Option Row) : Row → Row → Prop
  | .box T cs, .box T' cs' => T = T' ∧ cvL g F cs cs'
  | .row E sz cs, .row E' sz' cs' => E = E' ∧ sz = sz' ∧ cs = cs'
  | _, .gone => True
  | _, _ => False
def rowR (g : GMap) (F : Nat → Option Row) : Option Row → Row → Prop
  | some r, r' => cvR g F r r'
  | none, .gone => True
  | none, _ => False
def rowK (g : GMap) (F R : Nat → Option Row) : Option (Option Nat) → Row → Prop
  | some (some s), r' => rowR g F (R s) r'
  | some none, .row _ _ cs => cs = []
  | _, .gone => True
  | _, _ => False
def leT (g : GMap) (F : Nat → Option Row) (T : Nat → AV) : List (Nat × AV) → Prop
  | [] => True
  | (k, v) :: l => cvW g F (T k) v ∧ leT g F T l
def leR (g : GMap) (F R : Nat → Option Row) : List (Nat × Row) → Prop
  | [] => True
  | (k, r) :: l => rowK g F R (g k) r ∧ leR g F R l
def fzF (fz : List Nat) (R : Nat → Option Row) : Nat → Option Row := fun s => match fz.contains s with | true => R s | false => none
def srcs : List (Nat × Option Nat) → List Nat
  | [] => []
  | (_, some s) :: l => s :: srcs l
  | (_, none) :: l => srcs l
def nodB : List Nat → Bool
  | [] => true
  | a :: l => !l.contains a && nodB l
def upB : Nat → (Nat → Bool) → Bool
  | 0, _ => true
  | n + 1, f => f n && upB n f
def isIt (j : Nat) : Option (Option Nat) → Bool
  | some (some s) => s == j
  | _ => false
def gOK (k : Nat) (G : List (Nat × Option Nat)) (fz : List Nat) (ks : List Nat) : Bool :=
  upB k (fun j => isIt j (lk G j)) && nodB (srcs G) && nodB (G.map (·.1)) && (srcs G).all (fun s => !fz.contains s) && (G.map (·.1)).all (fun s => ks.contains s)

theorem upB_spec : ∀ {n : Nat} {f : Nat → Bool}, upB n f = true → ∀ j, j < n → f j = true
  | 0, _, _, j, h => by omega
  | n + 1, f, h, j, hj => by
    simp only [upB, Bool.and_eq_true] at h
    by_cases e : j = n
    · subst e; exact h.1
    · exact upB_spec h.2 j (by omega)
theorem nodB_spec : ∀ {l : List Nat}, nodB l = true → l.Nodup
  | [], _ => List.nodup_nil
  | a :: l, h => by
    simp only [nodB, Bool.and_eq_true, Bool.not_eq_true', List.contains_eq_mem, decide_eq_false_iff_not] at h
    exact List.nodup_cons.2 ⟨h.1, nodB_spec h.2⟩
theorem lk_mem : ∀ {G : List (Nat × Option Nat)} {s : Nat} {v : Option Nat}, lk G s = some v → (s, v) ∈ G
  | [], s, v, h => by cases h
  | (k, u) :: l, s, v, h => by
    simp only [lk] at h
    split at h
    · rename_i e
      injection h with h
      subst e h
      simp
    · exact List.mem_cons_of_mem _ (lk_mem h)
theorem srcs_mem : ∀ {G : List (Nat × Option Nat)} {s s' : Nat}, (s, some s') ∈ G → s' ∈ srcs G
  | [], _, _, h => by cases h
  | (k, some u) :: l, s, s', h => by
    simp only [srcs]
    rcases List.mem_cons.1 h with h | h
    · injection h with _ h; injection h with h; subst h; simp
    · exact List.mem_cons_of_mem _ (srcs_mem h)
  | (k, none) :: l, s, s', h => by
    simp only [srcs]
    rcases List.mem_cons.1 h with h | h
    · injection h with _ h; cases h
    · exact srcs_mem h
theorem srcs_inj : ∀ {G : List (Nat × Option Nat)} {s t u : Nat}, (srcs G).Nodup → (s, some u) ∈ G → (t, some u) ∈ G → s = t
  | [], _, _, _, _, h, _ => by cases h
  | (k, none) :: l, s, t, u, hn, h1, h2 => by
    rcases List.mem_cons.1 h1 with h1 | h1
    · injection h1 with _ h1; cases h1
    rcases List.mem_cons.1 h2 with h2 | h2
    · injection h2 with _ h2; cases h2
    exact srcs_inj (G := l) hn h1 h2
  | (k, some v) :: l, s, t, u, hn, h1, h2 => by
    simp only [srcs] at hn
    obtain ⟨n1, n2⟩ := List.nodup_cons.1 hn
    rcases List.mem_cons.1 h1 with q1 | q1
    · injection q1 with a1 b1; injection b1 with b1; subst b1
      rcases List.mem_cons.1 h2 with q2 | q2
      · injection q2 with a2 b2; rw [a1, a2]
      · exact absurd (srcs_mem (G := l) q2) n1
    · rcases List.mem_cons.1 h2 with q2 | q2
      · injection q2 with a2 b2; injection b2 with b2; subst b2
        exact absurd (srcs_mem (G := l) q1) n1
      · exact srcs_inj n2 q1 q2

def canP (g : GMap) (ρ : Plc) : Plc := fun s => match g s with | some (some s0) => ρ s0 | some none => some ⟨0, 0, 0, true⟩ | none => none
section
variable {C : Ctx} {T : Nat → AV} {R : Nat → Option Row} {b : Nat} {M : Imm} {ρ : Plc} {a : Act} {w : World}
theorem canP_row {g : GMap} {s s' : Nat} (h : g s' = some (some s)) : canP g ρ s' = ρ s := by unfold canP; rw [h]
theorem canP_nil {g : GMap} {s' : Nat} (h : g s' = some none) : canP g ρ s' = some ⟨0, 0, 0, true⟩ := by unfold canP; rw [h]

theorem lent_le (h : Rel C M ρ ⟨T, R, b⟩ a w) (fz : List Nat) : M.le (lentM M ρ (fzF fz R) [] w) := by
  intro b o v hM
  unfold lentM
  rw [if_neg]
  · exact hM
  · rintro ⟨s, E, sz, cs, x, h1, h2, h3, hn, h4, h5⟩
    have h1' : R s = some (.row E sz cs) := by
      unfold fzF at h1; split at h1
      · exact h1
      · cases h1
    exact h.mr.apt b o v s _ x hM h1' rfl h3 hn h4
theorem fzF_some {fz : List Nat} {s : Nat} {r : Row} (h : fzF fz R s = some r) : R s = some r ∧ s ∈ fz := by
  unfold fzF at h
  split at h
  · rename_i hc; exact ⟨h, by simpa using hc⟩
  · cases h
/-- A slice of the call's own that is frozen. -/
theorem frozen_ok (h : Rel C M ρ ⟨T, R, b⟩ a w) (fz : List Nat) {s n E sz : Nat} {cs : List AV} {v : Value} {σ : Plc} (hv : VR M ρ (.own s n) v) (hF : fzF fz R s = some (.row E sz cs)) : VR (lentM M ρ (fzF fz R) [] w) σ (.sl cs n) v := by
  have hrow := (fzF_some hF).1
  obtain ⟨y, hy, hY⟩ := h.mr.row s _ hrow rfl
  have hle := lent_le h fz
  obtain ⟨g, cap, ⟨hs, rfl⟩ | ⟨hs, hn0, rfl⟩⟩ := hv.own_inv
  · rw [hs] at hy; injection hy with hy; subst hy
    rcases hY with ⟨hn, _⟩ | ⟨_, xs, h1, h2, h3, h4⟩
    · cases hn
    simp only at h1
    have hcell : ∀ i, i < cs.length → lentM M ρ (fzF fz R) [] w g i = some (xs.getD i undef) := fun i hi => by
      unfold lentM
      rw [if_pos ⟨s, E, sz, cs, _, hF, by simp, hs, rfl, rfl, hi⟩]
      have hi' : i < xs.length := by omega
      have := World.ownsRow.cells h1 (g := g) rfl i _ (List.getElem?_eq_getElem hi')
      rw [add_off, Nat.zero_add] at this
      simpa [hi'] using this
    have hn : n ≤ cap := by
      rcases h1.2 with ⟨hn, _⟩ | ⟨g', cap', cur, hvv, hb, hg, hcap, _⟩
      · cases hn
      · injection hvv with _ _ q3; omega
    have lt : ∀ (i : Nat) (c : AV), cs[i]? = some c → i < cs.length := fun i c hc => by
      rcases Nat.lt_or_ge i cs.length with h' | h'
      · exact h'
      · rw [List.getElem?_eq_none h'] at hc; cases hc
    refine .plain (.sl cs n _ cap g 0 (fun i => xs.getD i undef) (fun _ => rfl) hn (fun i c hc => ?_) (fun i c hc => ?_))
    · rw [Nat.zero_add]; exact hcell i (lt i c hc)
    · have hi' : i < xs.length := by have := lt i c hc; omega
      have := (h4 i c _ hc (List.getElem?_eq_getElem hi')).mono hle
      simpa [hi'] using this
  · rw [hs] at hy; injection hy with hy; subst hy
    rcases hY with ⟨_, rfl, _⟩ | ⟨hn, _⟩
    · subst hn0
      exact .plain (.sl [] 0 none 0 0 0 (fun _ => undef) (fun h => by omega) (Nat.le_refl _) (fun i c hc => by simp at hc) (fun i c hc => by simp at hc))
    · cases hn
theorem cv1_ok (h : Rel C M ρ ⟨T, R, b⟩ a w) (fz : List Nat) {g : GMap} {c c' : AV} {v : Value} (hv : VR M ρ c v) (hc : cv1 g (fzF fz R) c c') : VR (lentM M ρ (fzF fz R) [] w) (canP g ρ) c' v := by
  have hle := lent_le h fz
  unfold cv1 at hc
  split at hc
  · exact .plain (.top _)
  · obtain ⟨hg, rfl⟩ := hc
    obtain ⟨g0, cap, ⟨hs, rfl⟩ | ⟨hs, hn0, rfl⟩⟩ := hv.own_inv
    · exact .own _ g0 _ cap (by rw [canP_row hg]; exact hs)
    · subst hn0
      exact .ownl _ g0 cap (by rw [canP_row hg]; exact hs)
  · obtain ⟨hg, rfl⟩ := hc
    obtain rfl := hv.nil_inv
    exact .ownl _ 0 0 (canP_nil hg)
  · obtain ⟨hg, rfl⟩ := hc
    obtain ⟨x, hx, hn, rfl⟩ := hv.ptr_inv
    exact .ptr _ _ x (by rw [canP_row hg]; exact hx) hn
  · obtain ⟨rfl, rfl⟩ := hc
    exact .plain (hv.sl_inv.mono hle)
  · obtain ⟨rfl, rfl⟩ := hc
    obtain rfl := hv.nil_inv
    exact .plain (.sl [] 0 none 0 0 0 (fun _ => undef) (fun h => by omega) (Nat.le_refl _) (fun i c hc => by simp at hc) (fun i c hc => by simp at hc))
  · obtain ⟨hf, rfl⟩ := hc
    unfold fz1 at hf
    split at hf
    · rename_i E sz cs hF
      subst hf
      exact frozen_ok h fz hv hF
    · exact hf.elim
  · obtain ⟨rfl, rfl⟩ := hc
    obtain rfl := hv.int_inv
    exact .plain (.int ..)
  · subst hc
    obtain rfl := hv.bool_inv
    exact .plain (.bool ..)
  · subst hc
    cases hv with
    | plain hv => exact .plain (hv.mono hle)
  · obtain rfl := hv.nil_inv
    exact .plain .nil
  · subst hc
    exact .plain (hv.eptr_inv.mono hle)
  · exact hc.elim
theorem cvL_get {g : GMap} {F : Nat → Option Row} : ∀ {cs cs' : List AV}, cvL g F cs cs' → cs.length = cs'.length ∧ ∀ (i : Nat) (c' : AV), cs'[i]? = some c' → ∃ c, cs[i]? = some c ∧ cv1 g F c c'
  | [], [], _ => ⟨rfl, fun i c h => by simp at h⟩
  | c :: cs, c' :: cs', h => by
    obtain ⟨h1, h2⟩ := cvL_get h.2
    refine ⟨by simp [h1], fun i q hq => ?_⟩
    cases i with
    | zero => simp only [List.getElem?_cons_zero, Option.some.injEq] at hq; subst hq; exact ⟨c, rfl, h.1⟩
    | succ i => exact h2 i q (by simpa using hq)
  | [], _ :: _, h => h.elim
  | _ :: _, [], h => h.elim
theorem cvV_ok (h : Rel C M ρ ⟨T, R, b⟩ a w) (fz : List Nat) {g : GMap} {c c' : AV} {v : Value} (hv : VR M ρ c v) (hc : cvV g (fzF fz R) c c') : VR (lentM M ρ (fzF fz R) [] w) (canP g ρ) c' v := by
  unfold cvV at hc
  split at hc
  · rename_i cs cs'
    obtain ⟨vs, rfl, hl, h1, h2⟩ := hv.agg_inv
    obtain ⟨e1, e2⟩ := cvL_get hc
    refine .agg _ _ (by omega) h1 (fun i c' u hc' hu => ?_)
    obtain ⟨c, hc, hcc⟩ := e2 i c' hc'
    exact cv1_ok h fz (h2 i c u hc hu) hcc
  · exact cv1_ok h fz hv hc
theorem cvT_get {g : GMap} {F : Nat → Option Row} : ∀ {cs cs' : List AV}, cvT g F cs cs' → cs.length = cs'.length ∧ ∀ (i : Nat) (c' : AV), cs'[i]? = some c' → ∃ c, cs[i]? = some c ∧ cvV g F c c'
  | [], [], _ => ⟨rfl, fun i c h => by simp at h⟩
  | c :: cs, c' :: cs', h => by
    obtain ⟨h1, h2⟩ := cvT_get h.2
    refine ⟨by simp [h1], fun i q hq => ?_⟩
    cases i with
    | zero => simp only [List.getElem?_cons_zero, Option.some.injEq] at hq; subst hq; exact ⟨c, rfl, h.1⟩
    | succ i => exact h2 i q (by simpa using hq)
  | [], _ :: _, h => h.elim
  | _ :: _, [], h => h.elim
theorem cvW_ok (h : Rel C M ρ ⟨T, R, b⟩ a w) (fz : List Nat) {g : GMap} {c c' : AV} {v : Value} (hv : VR M ρ c v) (hc : cvW g (fzF fz R) c c') : VR (lentM M ρ (fzF fz R) [] w) (canP g ρ) c' v := by
  unfold cvW at hc
  split at hc
  · rename_i cs cs'
    obtain ⟨vs, rfl, hl, h2⟩ := hv.tup_inv
    obtain ⟨e1, e2⟩ := cvT_get hc
    refine .tup _ _ (by omega) (fun i c' u hc' hu => ?_)
    obtain ⟨c, hc, hcc⟩ := e2 i c' hc'
    exact cvV_ok h fz (h2 i c u hc hu) hcc
  · exact cvV_ok h fz hv hc
theorem leT_get {g : GMap} {F : Nat → Option Row} : ∀ {l : List (Nat × AV)}, leT g F T l → ∀ t, mkT l t = .top ∨ cvW g F (T t) (mkT l t)
  | [], _, t => .inl rfl
  | (k, v) :: l, h, t => by
    obtain ⟨h1, h2⟩ := h
    simp only [mkT]
    by_cases e : t = k
    · subst e; rw [upd_same]; exact .inr h1
    · rw [upd_ne _ _ e]; exact leT_get h2 t
theorem leR_get {g : GMap} {F : Nat → Option Row} : ∀ {l : List (Nat × Row)}, leR g F R l → ∀ s r, mkR l s = some r → rowK g F R (g s) r
  | [], _, s, r, h => by cases h
  | (k, q) :: l, h, s, r, hs => by
    obtain ⟨h1, h2⟩ := h
    simp only [mkR] at hs
    by_cases e : s = k
    · subst e; rw [upd_same] at hs; injection hs with hs; subst hs; exact h1
    · rw [upd_ne _ _ e] at hs; exact leR_get h2 s r hs
theorem mkR_none : ∀ {l : List (Nat × Row)} {s : Nat}, mkR l s = none → s ∉ l.map (·.1)
  | [], s, _ => by simp
  | (k, q) :: l, s, h => by
    simp only [mkR] at h
    by_cases e : s = k
    · subst e; rw [upd_same] at h; cases h
    · rw [upd_ne _ _ e] at h
      simp only [List.map_cons, List.mem_cons, not_or]
      exact ⟨e, mkR_none h⟩
/-- What a solid canonical row comes from. -/
theorem rowK_solid {g : GMap} {F : Nat → Option Row} {o : Option (Option Nat)} {r' : Row} (h : rowK g F R o r') (hs : r'.solid = true) : (∃ s r, o = some (some s) ∧ R s = some r ∧ r.solid = true ∧ cvR g F r r') ∨ (o = some none ∧ ∃ E sz, r' = .row E sz []) := by
  unfold rowK at h
  split at h
  · rename_i s
    unfold rowR at h
    split at h
    · rename_i r hr
      refine .inl ⟨s, r, rfl, hr, ?_, h⟩
      unfold cvR at h
      split at h
      · rfl
      · rfl
      · cases hs
      · exact h.elim
    · cases hs
    · exact h.elim
  · subst h; exact .inr ⟨rfl, _, _, rfl⟩
  · cases hs
  · exact h.elim
theorem Le_can {k : Nat} {b' : Nat} {lt : List (Nat × AV)} {lr : List (Nat × Row)} (G : List (Nat × Option Nat)) (fz : List Nat) (hρ : ∀ s, k ≤ s → C.ρ0 s = none) (hG : gOK k G fz (lr.map (·.1)) = true)
    (hT : leT (lk G) (fzF fz R) T lt) (hR : leR (lk G) (fzF fz R) R lr) : Le C ⟨T, R, b⟩ ⟨mkT lt, mkR lr, b'⟩ := by
  intro M ρ a w h
  unfold gOK at hG
  simp only [Bool.and_eq_true] at hG
  obtain ⟨⟨⟨⟨g1, g2⟩, g3⟩, g4⟩, g5⟩ := hG
  have hle := lent_le h fz
  have ginj : ∀ {s t u : Nat}, lk G s = some (some u) → lk G t = some (some u) → s = t := fun h1 h2 => srcs_inj (nodB_spec g2) (lk_mem h1) (lk_mem h2)
  have gfz : ∀ {s u : Nat}, lk G s = some (some u) → u ∉ fz := fun h1 => by
    have := List.all_eq_true.1 g4 _ (srcs_mem (lk_mem h1))
    simpa using this
  have sol : ∀ {s r}, mkR lr s = some r → r.solid = true → (∃ s0 r0, lk G s = some (some s0) ∧ R s0 = some r0 ∧ r0.solid = true ∧ cvR (lk G) (fzF fz R) r0 r) ∨ (lk G s = some none ∧ ∃ E sz, r = .row E sz []) :=
    fun hr hs => rowK_solid (leR_get hR _ _ hr) hs
  -- rows that lie somewhere come from rows
  have src : ∀ {s r x}, mkR lr s = some r → r.solid = true → canP (lk G) ρ s = some x → x.nl = false → ∃ s0 r0, lk G s = some (some s0) ∧ R s0 = some r0 ∧ r0.solid = true ∧ ρ s0 = some x := by
    intro s r x hr hs hx hn
    rcases sol hr hs with ⟨s0, r0, e1, e2, e3, e4⟩ | ⟨e1, _⟩
    · rw [canP_row e1] at hx
      exact ⟨s0, r0, e1, e2, e3, hx⟩
    · rw [canP_nil e1] at hx; injection hx with hx; subst hx; cases hn
  refine ⟨lentM M ρ (fzF fz R) [] w, canP (lk G) ρ, fun t => ?_, h.N, h.df, ⟨fun s r hs hsol => ?_, fun s s' r r' x x' hs hs' h1 h2 hx hx' hne hn hn' => ?_, fun b o v hM => ?_, fun b o v s r x hM hs hsol hx hn => ?_⟩, h.chg, fun s r x hs hsol hx hn => ?_, Imm.le_trans h.m0 hle, fun s x hs => ?_, fun b hb hD => ?_, fun s hs => ?_⟩
  · show VR _ (canP (lk G) ρ) (mkT lt t) _
    rcases leT_get hT t with e | e
    · rw [e]; exact .plain (.top _)
    · exact cvW_ok h fz (h.tm t) e
  · have hs : mkR lr s = some r := hs
    rcases sol hs hsol with ⟨s0, r0, e1, e2, e3, e4⟩ | ⟨e1, E, sz, rfl⟩
    · obtain ⟨x, hx, hX⟩ := h.mr.row s0 r0 e2 e3
      refine ⟨x, by rw [canP_row e1]; exact hx, ?_⟩
      unfold cvR at e4
      split at e4
      · obtain ⟨rfl, hL⟩ := e4
        obtain ⟨h0, arr, a1, a2, a3, a4⟩ := hX
        obtain ⟨l1, l2⟩ := cvL_get hL
        refine ⟨h0, arr, a1, by omega, a3, fun i c' v hc hv => ?_⟩
        obtain ⟨c, hc', hcc⟩ := l2 i c' hc
        exact cv1_ok h fz (a4 i c v hc' hv) hcc
      · obtain ⟨rfl, rfl, rfl⟩ := e4
        rcases hX with hX | ⟨h0, xs, a1, a2, a3, a4⟩
        · exact .inl hX
        · exact .inr ⟨h0, xs, a1, a2, a3, fun i c v hc hv => (a4 i c v hc hv).mono hle⟩
      · cases hsol
      · exact e4.elim
    · exact ⟨_, canP_nil e1, .inl ⟨rfl, rfl, rfl⟩⟩
  · obtain ⟨s0, r0, e1, e2, e3, e4⟩ := src hs h1 hx hn
    obtain ⟨s0', r0', e1', e2', e3', e4'⟩ := src hs' h2 hx' hn'
    refine h.mr.inj s0 s0' r0 r0' x x' e2 e2' e3 e3' e4 e4' (fun e => hne ?_) hn hn'
    subst e
    exact ginj e1 e1'
  · unfold lentM at hM
    split at hM
    · rename_i hc
      obtain ⟨s, E, sz, cs, x, h1, h2, h3, hn, h4, h5⟩ := hc
      subst h4
      have hrow := (fzF_some h1).1
      obtain ⟨y, hy, hY⟩ := h.mr.row s _ hrow rfl
      rw [h3] at hy; injection hy with hy; subst hy
      rcases hY with ⟨hn1, _⟩ | ⟨_, xs, k1, k2, k3, k4⟩
      · rw [hn] at hn1; cases hn1
      have hi' : o < xs.length := by omega
      have := World.ownsRow.cells k1 (g := x.g) rfl o _ (List.getElem?_eq_getElem hi')
      rw [add_off, Nat.zero_add] at this
      rw [this] at hM
      injection hM with hM; subst hM
      exact ⟨this, k3 _ (List.getElem_mem hi')⟩
    · exact h.mr.imm b o v hM
  · obtain ⟨s0, r0, e1, e2, e3, e4⟩ := src hs hsol hx hn
    unfold lentM at hM
    split at hM
    · rename_i hc
      obtain ⟨s', E, sz, cs, x', h1, h2, h3, hn', h4, h5⟩ := hc
      subst h4
      obtain ⟨hrow, hmem⟩ := fzF_some h1
      exact h.mr.inj s0 s' r0 _ x x' e2 hrow e3 rfl e4 h3 (fun e => gfz e1 (e ▸ hmem)) hn hn'
    · exact h.mr.apt b o v s0 r0 x hM e2 e3 e4 hn
  · obtain ⟨s0, r0, e1, e2, e3, e4⟩ := src hs hsol hx hn
    exact h.new s0 r0 x e2 e3 e4 hn
  · have hlt : s < k := by
      rcases Nat.lt_or_ge s k with h' | h'
      · exact h'
      · rw [hρ s h'] at hs; cases hs
    have hg := upB_spec g1 s hlt
    have hg : lk G s = some (some s) := by
      cases hq : lk G s with
      | none => rw [hq] at hg; cases hg
      | some u =>
        cases u with
        | none => rw [hq] at hg; cases hg
        | some u => rw [hq] at hg; simp only [isIt, beq_iff_eq] at hg; rw [hg]
    rw [canP_row hg]
    exact h.r0 s x hs
  · have hnone : ¬ ∃ s E sz cs x, (fzF fz R) s = some (.row E sz cs) ∧ s ∉ ([] : List Nat) ∧ ρ s = some x ∧ x.nl = false ∧ x.g = b := by
      rintro ⟨s, E, sz, cs, x, h1, h2, h3, hn, rfl⟩
      rcases h.new s _ x (fzF_some h1).1 rfl h3 hn with h' | h'
      · exact hD h'
      · omega
    rw [← h.mold b hb hD]
    funext o
    unfold lentM
    rw [if_neg]
    rintro ⟨s, E, sz, cs, x, h1, h2, h3, hn, h4, _⟩
    exact hnone ⟨s, E, sz, cs, x, h1, h2, h3, hn, h4⟩
  · have hs : mkR lr s = none := hs
    have hk := mkR_none hs
    unfold canP
    cases hq : lk G s with
    | none => rfl
    | some u =>
      exfalso
      have hm := List.all_eq_true.1 g5 s (List.mem_map.2 ⟨_, lk_mem hq, rfl⟩)
      exact hk (by simpa using hm)
end
def enumR : Nat → List Row → List (Nat × Row)
  | _, [] => []
  | k, r :: l => (k, r) :: enumR (k + 1) l
theorem mkR_enum : ∀ (l : List Row) (k s : Nat), mkR (enumR k l) s = if k ≤ s then l[s - k]? else none
  | [], k, s => by simp [enumR, mkR]
  | r :: l, k, s => by
    simp only [enumR, mkR]
    by_cases e : s = k
    · subst e; rw [upd_same, if_pos (Nat.le_refl _), Nat.sub_self]; rfl
    · rw [upd_ne _ _ e, mkR_enum l (k + 1) s]
      by_cases h : k + 1 ≤ s
      · rw [if_pos h, if_pos (by omega), show s - k = (s - (k + 1)) + 1 by omega, List.getElem?_cons_succ]
      · rw [if_neg h, if_neg (by omega)]
/-- A contract whose result is taken in another form: slices frozen, rows dropped. -/
theorem Spec.can {P : Program} {f : FuncId} {args : List AV} {mem mem' mem2 : List Row} {ret ret2 : AV} (h : Spec P f args mem ret mem') (G : List (Nat × Option Nat)) (fz : List Nat)
    (hG : gOK mem.length G fz ((enumR 0 mem2).map (·.1)) = true) (hT : cvW (lk G) (fzF fz (rowsOf mem')) ret ret2) (hR : leR (lk G) (fzF fz (rowsOf mem')) (rowsOf mem') (enumR 0 mem2)) : Spec P f args mem ret2 mem2 := by
  refine ⟨h.1, fun M ρ w vs hmr hρ hlen hvs => (h.2 M ρ w vs hmr hρ hlen hvs).mono ?_⟩
  rintro e w' ⟨v, M', ρ', rfl, q1, q2, q3, q4, q5, q6, q7, q8⟩
  let C : Ctx := ⟨w, DOf ρ (rowsOf mem), M, ρ, 1⟩
  have hRel : Rel C M' ρ' ⟨fun t => if t = 0 then ret else .top, rowsOf mem', 0⟩ { tmps := #[v], defers := [] } w' := by
    refine ⟨fun t => ?_, rfl, rfl, q3, q6, q8, q1, q2, q7, fun s hs => ?_⟩
    · by_cases e : t = 0
      · subst e; simpa using q5
      · simp only [if_neg e]; exact .plain (.top _)
    · have hs : mem'[s]? = none := hs
      exact q4 s (by simpa using hs)
  have hrows : mkR (enumR 0 mem2) = rowsOf mem2 := by
    funext s
    rw [mkR_enum]; simp [rowsOf]
  obtain ⟨M2, ρ2, hR2⟩ := Le_can (C := C) (k := mem.length) (b' := 0) (lt := [(0, ret2)]) (lr := enumR 0 mem2) G fz hρ hG ⟨by simpa using hT, trivial⟩ hR M' ρ' _ w' hRel
  rw [hrows] at hR2
  refine ⟨v, M2, ρ2, rfl, hR2.m0, hR2.r0, hR2.mr, fun s hs => ?_, ?_, hR2.chg, hR2.mold, hR2.new⟩
  · have hn : rowsOf mem2 s = none := by unfold rowsOf; simpa using hs
    exact hR2.fr s hn
  · have := hR2.tm 0
    simpa [mkT, upd] using this
end Go.Proofs.Ytfpfalknddfejaa
