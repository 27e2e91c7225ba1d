/- Contracts on abstract values: Paulis and tableaux, taken over from the walks. -/
import Derived.Test.YtfpfalknddfejaaTy
import Derived.Test.YtfpfalknddfejaaWm
import Derived.Test.YtfpfalknddfejaaCb
namespace Go.Proofs.Ytfpfalknddfejaa
open Go.RowKit Pop
set_option maxRecDepth 100000
set_option linter.unusedVariables false
set_option linter.unusedSimpArgs false
def qa (q : Quad) : List AV := [.int .i64 q.1, .int .i64 q.2.1, .int .i64 q.2.2.1, .int .i64 q.2.2.2]
def qav : List Quad → List AV
  | [] => []
  | q :: l => qa q ++ qav l
theorem qav_length : ∀ l : List Quad, (qav l).length = l.length * 4
  | [] => rfl
  | q :: l => by simp [qav, qa, qav_length l]; omega
theorem qav_append : ∀ l m : List Quad, qav (l ++ m) = qav l ++ qav m
  | [], m => rfl
  | q :: l, m => by simp [qav, qav_append l m]
theorem qav_drop : ∀ (l : List Quad) (k : Nat) (q : Quad), l[k]? = some q → (qav l).drop (k * 4) = qa q ++ qav (l.drop (k + 1))
  | [], k, q, h => by simp at h
  | p :: l, 0, q, h => by simp at h; subst h; simp [qav]
  | p :: l, k + 1, q, h => by
    rw [show (k + 1) * 4 = k * 4 + 4 by omega]
    show (qav l).drop (k * 4) = qa q ++ qav (l.drop (k + 1))
    exact qav_drop l k q (by simpa using h)
theorem qav_get (l : List Quad) (i j : Nat) (q : Quad) (h : l[i]? = some q) (hj : j < 4) : (qav l)[i * 4 + j]? = (qa q)[j]? := by
  have := qav_drop l i q h
  have e : (qav l)[i * 4 + j]? = ((qav l).drop (i * 4))[j]? := by rw [List.getElem?_drop]
  rw [e, this, List.getElem?_append_left (by simp [qa]; omega)]
theorem qav_free : ∀ (l : List Quad) (c : AV), c ∈ qav l → Free c
  | [], c, h => by simp [qav] at h
  | q :: l, c, h => by
    simp only [qav, qa, List.cons_append, List.nil_append, List.mem_cons] at h
    rcases h with rfl | rfl | rfl | rfl | h
    · exact .int ..
    · exact .int ..
    · exact .int ..
    · exact .int ..
    · exact qav_free l c h
/-- An immutable slice of quadruples, concretely. -/
theorem sl_quads {M : Imm} {w : World} (hi : ∀ b o v, M b o = some v → w.cell? ⟨b, o, none⟩ = some v ∧ v.oneCell' = true) {l : List Quad} {v : Value} (h : PV M (.sl (qav l) l.length) v) :
    ∃ A c, v = .slice A l.length c ∧ l.length ≤ c ∧ SlQ w A l.length l := by
  cases h with
  | sl _ _ A cap b off f hA hn hm hv =>
    refine ⟨A, cap, rfl, hn, rfl, fun hp => ?_⟩
    have cell : ∀ i q, l[i]? = some q → ∀ j c, j < 4 → (qa q)[j]? = some c → w.cell? ⟨b, off + (i * 4 + j), none⟩ = some (f (i * 4 + j)) ∧ PV M c (f (i * 4 + j)) := fun i q hq j c hj hc => by
      have e := qav_get l i j q hq hj
      rw [hc] at e
      exact ⟨(hi _ _ _ (hm _ _ e)).1, hv _ _ e⟩
    have int : ∀ {n : Int} {u : Value}, PV M (.int .i64 n) u → u = .int .i64 n := fun h => by cases h; rfl
    obtain rfl := hA hp
    refine ⟨b, off, rfl, ?_, fun i q hq => ?_⟩
    · have hq : l[0]? = some l[0] := List.getElem?_eq_getElem hp
      exact cell_lt (cell 0 _ hq 0 _ (by omega) rfl).1
    · obtain ⟨a0, b0⟩ := cell i q hq 0 _ (by omega) rfl
      obtain ⟨a1, b1⟩ := cell i q hq 1 _ (by omega) rfl
      obtain ⟨a2, b2⟩ := cell i q hq 2 _ (by omega) rfl
      obtain ⟨a3, b3⟩ := cell i q hq 3 _ (by omega) rfl
      rw [int b0] at a0
      rw [int b1] at a1
      rw [int b2] at a2
      rw [int b3] at a3
      simp only [Nat.add_zero, ← Nat.add_assoc] at a0 a1 a2 a3
      exact ⟨a0, a1, a2, a3⟩
theorem spec_lift2 {P : Program} {f : FuncId} {args : List AV} {ret : AV} {v : Value} (hc : callable P f = true) (hr : ∀ (M : Imm) (ρ : Plc), VR M ρ ret v)
    (h : ∀ (M : Imm) (ρ : Plc) (w : World) (vs : Array Value), (∀ b o v, M b o = some v → w.cell? ⟨b, o, none⟩ = some v ∧ v.oneCell' = true) → args.length = vs.size → (∀ (i : Nat) (c : AV) (v : Value), args[i]? = some c → vs[i]? = some v → VR M ρ c v) →
      Calls P f vs w fun e w' => e = .returned v ∧ Below w.heap.size w w') : Spec P f args [] ret [] := by
  refine ⟨hc, fun M ρ w vs hmr hρ hlen hvs => ?_⟩
  refine (h M ρ w vs hmr.imm hlen hvs).mono fun e w' ⟨he, hb⟩ => ⟨v, M, ρ, he, Imm.le_refl _, Plc.le_refl _, hmr.same fun b hb' => hb.block b hb', hρ, hr M ρ, Below.chg hb _, fun _ _ _ => rfl, fun s r x hs => by simp [rowsOf] at hs⟩
theorem arr1 {vs : Array Value} (h : 1 = vs.size) : ∃ a, vs = #[a] := by
  obtain ⟨l⟩ := vs
  match l, h with
  | [a], _ => exact ⟨a, rfl⟩
theorem arr2 {vs : Array Value} (h : 2 = vs.size) : ∃ a b, vs = #[a, b] := by
  obtain ⟨l⟩ := vs
  match l, h with
  | [a, b], _ => exact ⟨a, b, rfl⟩
theorem arr3 {vs : Array Value} (h : 3 = vs.size) : ∃ a b c, vs = #[a, b, c] := by
  obtain ⟨l⟩ := vs
  match l, h with
  | [a, b, c], _ => exact ⟨a, b, c, rfl⟩
theorem tab_arg {M : Imm} {ρ : Plc} {w : World} (hi : ∀ b o v, M b o = some v → w.cell? ⟨b, o, none⟩ = some v ∧ v.oneCell' = true) {N : Int} {l : List Quad} {v : Value} (h : VR M ρ (.agg [.int .i64 N, .sl (qav l) l.length]) v) :
    ∃ A c, v = .agg #[.int .i64 N, .slice A l.length c] ∧ l.length ≤ c ∧ SlQ w A l.length l := by
  obtain ⟨vs, rfl, hl, h1, h2⟩ := h.agg_inv
  obtain ⟨a, b, rfl⟩ := arr2 hl
  obtain ⟨A, c, rfl, hc, hq⟩ := sl_quads hi (h2 1 _ b rfl rfl).sl_inv
  obtain rfl := (h2 0 _ a rfl rfl).int_inv
  exact ⟨A, c, rfl, hc, hq⟩
theorem sp_tab_i (N : Int) (l : List Quad) (hl : l.length ≤ 1048576) : Spec Try.prog 49 [.agg [.int .i64 N, .sl (qav l) l.length]] [] (.bool (tabB N l)) [] := by
  refine spec_lift2 (by kernel_rfl) (fun _ _ => .plain (.bool _)) fun M ρ w vs hi hlen hvs => ?_
  obtain ⟨a, rfl⟩ := arr1 hlen
  obtain ⟨A, c, rfl, hc, hq⟩ := tab_arg hi (hvs 0 _ a rfl rfl)
  exact isValidTableau_impl N A l.length c l w hq hc hl
theorem sp_tab_s (N : Int) (l : List Quad) (hl : l.length ≤ 1048576) : Spec Try.prog 68 [.agg [.int .i64 N, .sl (qav l) l.length]] [] (.bool (tabB N l)) [] := by
  refine spec_lift2 (by kernel_rfl) (fun _ _ => .plain (.bool _)) fun M ρ w vs hi hlen hvs => ?_
  obtain ⟨a, rfl⟩ := arr1 hlen
  obtain ⟨A, c, rfl, hc, hq⟩ := tab_arg hi (hvs 0 _ a rfl rfl)
  exact isValidTableau_spec N A l.length c l w hq hl
theorem vr_pauli (M : Imm) (ρ : Plc) (a b c d : Int) : VR M ρ (.agg [.int .i64 a, .int .i64 b, .int .i64 c, .int .i64 d]) (.agg #[.int .i64 a, .int .i64 b, .int .i64 c, .int .i64 d]) := by
  refine .plain (.agg _ _ rfl (fun v hv => ?_) (fun i c v hc hv => ?_))
  · simp at hv; rcases hv with rfl | rfl | rfl | rfl <;> rfl
  · match i with
    | 0 => simp at hc hv; subst hc hv; exact .int ..
    | 1 => simp at hc hv; subst hc hv; exact .int ..
    | 2 => simp at hc hv; subst hc hv; exact .int ..
    | 3 => simp at hc hv; subst hc hv; exact .int ..
    | i + 4 => simp at hc
theorem vr_tup2 {M : Imm} {ρ : Plc} {x y : AV} {u v : Value} (h1 : VR M ρ x u) (h2 : VR M ρ y v) : VR M ρ (.tup [x, y]) (.tuple #[u, v]) := by
  refine .tup _ _ rfl (fun i c w hc hv => ?_)
  match i with
  | 0 => simp at hc hv; subst hc hv; exact h1
  | 1 => simp at hc hv; subst hc hv; exact h2
  | i + 2 => simp at hc
theorem sp_valid_i (n x z p : Int) : Spec Try.prog 71 [.agg [.int .i64 n, .int .i64 x, .int .i64 z, .int .i64 p]] [] (.bool (validB n x z p)) [] :=
  spec_lift (by kernel_rfl) rfl (fun _ _ => .plain (.bool _)) (isValidPauli_impl n x z p)
theorem sp_valid_s (n x z p : Int) : Spec Try.prog 69 [.agg [.int .i64 n, .int .i64 x, .int .i64 z, .int .i64 p]] [] (.bool (validB n x z p)) [] :=
  spec_lift (by kernel_rfl) rfl (fun _ _ => .plain (.bool _)) (isValidPauli_spec n x z p)
theorem sp_mul_i (n ax az ap bx bz bp : Int) (ha : validB n ax az ap = true) (hb : validB n bx bz bp = true) : Spec Try.prog 41 [.agg [.int .i64 n, .int .i64 ax, .int .i64 az, .int .i64 ap], .agg [.int .i64 n, .int .i64 bx, .int .i64 bz, .int .i64 bp]] []
    (.tup [.agg [.int .i64 n, .int .i64 (xorI ax bx), .int .i64 (xorI az bz), .int .i64 (mulPh ap bp az bx)], .bool true]) [] :=
  spec_lift (by kernel_rfl) rfl (fun _ _ => vr_tup2 (vr_pauli ..) (.plain (.bool _))) (fun w => mulPauli_impl_ok n ax az ap bx bz bp w ha hb)
theorem sp_mul_s (n ax az ap bx bz bp : Int) (ha : validB n ax az ap = true) (hb : validB n bx bz bp = true) : Spec Try.prog 45 [.agg [.int .i64 n, .int .i64 ax, .int .i64 az, .int .i64 ap], .agg [.int .i64 n, .int .i64 bx, .int .i64 bz, .int .i64 bp]] []
    (.tup [.agg [.int .i64 n, .int .i64 (xorI ax bx), .int .i64 (xorI az bz), .int .i64 (mulPh ap bp az bx)], .bool true]) [] :=
  spec_lift (by kernel_rfl) rfl (fun _ _ => vr_tup2 (vr_pauli ..) (.plain (.bool _))) (fun w => mulPauli_spec_ok n ax az ap bx bz bp w ha hb)
theorem sp_mulq_i (a b : Quad) (ha : vq a = true) (hb : vq b = true) (h : a.1 = b.1) : Spec Try.prog 41 [.agg (qa a), .agg (qa b)] [] (.tup [.agg (qa (mulQ a b)), .bool true]) [] := by
  have hb' : validB a.1 b.2.1 b.2.2.1 b.2.2.2 = true := by rw [h]; exact hb
  have := sp_mul_i a.1 a.2.1 a.2.2.1 a.2.2.2 b.2.1 b.2.2.1 b.2.2.2 ha hb'
  unfold qa mulQ
  rw [← h]; exact this
theorem sp_mulq_s (a b : Quad) (ha : vq a = true) (hb : vq b = true) (h : a.1 = b.1) : Spec Try.prog 45 [.agg (qa a), .agg (qa b)] [] (.tup [.agg (qa (mulQ a b)), .bool true]) [] := by
  have hb' : validB a.1 b.2.1 b.2.2.1 b.2.2.2 = true := by rw [h]; exact hb
  have := sp_mul_s a.1 a.2.1 a.2.2.1 a.2.2.2 b.2.1 b.2.2.1 b.2.2.2 ha hb'
  unfold qa mulQ
  rw [← h]; exact this
theorem free_pb (q : Quad) (b : Bool) : Free (.tup [.agg (qa q), .bool b]) := by
  refine .tup _ fun c hc => ?_
  simp only [List.mem_cons, List.not_mem_nil, or_false] at hc
  rcases hc with rfl | rfl
  · refine .agg _ fun c hc => ?_
    simp only [qa, List.mem_cons, List.not_mem_nil, or_false] at hc
    rcases hc with rfl | rfl | rfl | rfl <;> exact .int ..
  · exact .bool _
end Go.Proofs.Ytfpfalknddfejaa
