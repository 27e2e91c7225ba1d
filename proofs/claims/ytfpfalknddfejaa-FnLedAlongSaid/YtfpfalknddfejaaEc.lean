/- The engine, part 3: the operations that only reckon are what they are said to be. Over any program. -/
import Derived.Test.YtfpfalknddfejaaEb
namespace Go.Proofs.Ytfpfalknddfejaa
open Go.RowKit
set_option linter.unusedVariables false
set_option linter.unusedSimpArgs false

section
variable {P : Program} {M : Imm} {ρ : Plc}
theorem VR.int_inv {k n v} (h : VR M ρ (.int k n) v) : v = .int k n := by
  cases h with
  | plain h => cases h; rfl
theorem VR.bool_inv {b v} (h : VR M ρ (.bool b) v) : v = .bool b := by
  cases h with
  | plain h => cases h; rfl
theorem VR.nil_inv {v} (h : VR M ρ .nil v) : v = .slice none 0 0 := by
  cases h with
  | plain h => cases h; rfl
theorem VR.ptr_inv {s off v} (h : VR M ρ (.ptr s off) v) : ∃ x, ρ s = some x ∧ x.nl = false ∧ v = .pointer (some ⟨x.g, off, none⟩) := by
  cases h with
  | plain h => cases h
  | ptr s off x h hx => exact ⟨x, h, hx, rfl⟩
theorem VR.own_inv {s n v} (h : VR M ρ (.own s n) v) : ∃ g cap, (ρ s = some ⟨g, n, cap, false⟩ ∧ v = .slice (some ⟨g, 0, none⟩) n cap) ∨ (ρ s = some ⟨g, n, cap, true⟩ ∧ n = 0 ∧ v = .slice none 0 0) := by
  cases h with
  | plain h => cases h
  | own s g n cap h => exact ⟨g, cap, .inl ⟨h, rfl⟩⟩
  | ownl s g cap h => exact ⟨g, cap, .inr ⟨h, rfl, rfl⟩⟩
theorem VR.sl_inv {cs n v} (h : VR M ρ (.sl cs n) v) : PV M (.sl cs n) v := by
  cases h with
  | plain h => exact h
theorem VR.eptr_inv {cs v} (h : VR M ρ (.eptr cs) v) : PV M (.eptr cs) v := by
  cases h with
  | plain h => exact h
theorem VR.agg_inv {cs v} (h : VR M ρ (.agg cs) v) : ∃ vs : Array Value, v = .agg vs ∧ cs.length = vs.size ∧ (∀ v ∈ vs, v.oneCell' = true) ∧ ∀ (i : Nat) (c : AV) (u : Value), cs[i]? = some c → vs[i]? = some u → VR M ρ c u := by
  cases h with
  | plain h =>
    cases h with
    | agg _ vs hl h1 h => exact ⟨vs, rfl, hl, h1, fun i c u a b => .plain (h i c u a b)⟩
  | agg _ vs hl h1 h => exact ⟨vs, rfl, hl, h1, h⟩
theorem VR.tup_inv {cs v} (h : VR M ρ (.tup cs) v) : ∃ vs : Array Value, v = .tuple vs ∧ cs.length = vs.size ∧ ∀ (i : Nat) (c : AV) (u : Value), cs[i]? = some c → vs[i]? = some u → VR M ρ c u := by
  cases h with
  | plain h => cases h
  | tup _ vs hl h => exact ⟨vs, rfl, hl, h⟩
theorem VR.one {a : AV} {v : Value} (h : VR M ρ a v) (ho : a.one = true) : v.oneCell' = true := by
  cases h with
  | plain h => cases h <;> first | rfl | cases ho
  | own => rfl
  | ownl => rfl
  | ptr => rfl
  | agg => cases ho
  | tup => cases ho
theorem VR.cells {a : AV} {v : Value} (h : VR M ρ a v) (ho : a.cells.all AV.one = true) : a.cells.length = v.cells.size ∧ (∀ u ∈ v.cells, u.oneCell' = true) ∧ ∀ (i : Nat) (c : AV) (u : Value), a.cells[i]? = some c → v.cells[i]? = some u → VR M ρ c u := by
  by_cases hag : ∃ cs, a = .agg cs
  · obtain ⟨cs, rfl⟩ := hag
    obtain ⟨vs, rfl, hl, h1, h2⟩ := h.agg_inv
    exact ⟨hl, h1, h2⟩
  · have hc : a.cells = [a] := by
      cases a <;> first | rfl | exact absurd ⟨_, rfl⟩ hag
    rw [hc] at ho ⊢
    have ho1 : a.one = true := by simpa using ho
    have h1 := h.one ho1
    have hvc : v.cells = #[v] := by
      cases v <;> first | rfl | cases h1
    rw [hvc]
    refine ⟨rfl, fun u hu => ?_, fun i c u hc hu => ?_⟩
    · simp at hu; subst hu; exact h1
    · cases i with
      | zero => simp at hc hu; subst hc hu; exact h
      | succ i => simp at hc

theorem takeA_spec : ∀ (n : Nat) (cs r : List AV), takeA n cs = some r → r = cs.take n ∧ n ≤ cs.length
  | 0, cs, r, h => by simp [takeA] at h; subst h; simp
  | n + 1, [], r, h => by simp [takeA] at h
  | n + 1, c :: cs, r, h => by
    simp only [takeA] at h
    split at h
    · rename_i r' hr
      injection h with h; subst h
      obtain ⟨h1, h2⟩ := takeA_spec n cs r' hr
      exact ⟨by simp [h1], by simp; omega⟩
    · cases h

theorem run_szA {t : TypeId} {n : Nat} {b : Bool} (h : szA P t = some (n, b)) (w : World) : (sizeOf t).run P w = .ok n w ∧ (isAgg t).run P w = .ok b w := by
  unfold szA at h
  split at h
  · rename_i i d hi hd
    simp only [Option.some.injEq, Prod.mk.injEq] at h
    obtain ⟨rfl, rfl⟩ := h
    refine ⟨by simp [sizeOf, typeInfo, hi], ?_⟩
    cases d <;> simp [isAgg, underlying, hd]
  · cases h

theorem pick_part {t : TypeId} {n : Nat} {b : Bool} (h : szA P t = some (n, b)) (cs : List AV) (vs : Array Value) (off : Nat) (hl : cs.length = vs.size) (h1 : ∀ v ∈ vs, v.oneCell' = true)
    (hv : ∀ (i : Nat) (c : AV) (u : Value), cs[i]? = some c → vs[i]? = some u → VR M ρ c u) {a : AV} (hp : pickA b n (cs.drop off) = some a) (w : World) :
    ∃ v', (part t vs off).run P w = .ok v' w ∧ VR M ρ a v' := by
  obtain ⟨hs, hb⟩ := run_szA h w
  cases b with
  | true =>
    simp only [pickA] at hp
    split at hp
    · rename_i r hr
      injection hp with hp; subst hp
      obtain ⟨rfl, hn⟩ := takeA_spec _ _ _ hr
      simp only [List.length_drop] at hn
      refine ⟨.agg (vs.extract off (off + n)), by simp [part, hs, hb], .agg _ _ ?_ (fun v hv => h1 v ?_) (fun i c u hc hu => ?_)⟩
      · simp; omega
      · obtain ⟨j, hj, rfl⟩ := Array.mem_iff_getElem.1 hv
        simp only [Array.getElem_extract]
        exact Array.getElem_mem _
      · rw [List.getElem?_take] at hc
        split at hc
        · rw [List.getElem?_drop] at hc
          refine hv (off + i) c u hc ?_
          rw [Array.getElem?_extract] at hu
          split at hu
          · exact hu
          · cases hu
        · cases hc
    · cases hp
  | false =>
    simp only [pickA] at hp
    split at hp
    · rename_i c cs' hcs
      injection hp with hp; subst hp
      have hc : cs[off]? = some c := by
        have : (cs.drop off)[0]? = some c := by rw [hcs]; rfl
        simpa using this
      have hlt : off < vs.size := by
        rw [← hl]
        rcases Nat.lt_or_ge off cs.length with h' | h'
        · exact h'
        · rw [List.getElem?_eq_none h'] at hc; cases hc
      exact ⟨vs[off], by simp [part, hb, hlt], hv off c _ hc (Array.getElem?_eq_getElem hlt)⟩
    · cases hp

theorem fldA_inv {s : TypeId} {f off n : Nat} {b : Bool} (h : fldA P s f = some (off, n, b)) : ∃ fs x, P.underlying s = some (.struct fs) ∧ fs[f]? = some x ∧ x.offset = off ∧ szA P x.type = some (n, b) ∧ n ≠ 0 := by
  unfold fldA at h
  split at h
  · rename_i fs hfs
    split at h
    · rename_i x hx
      split at h
      · rename_i n' b' hn
        split at h
        · cases h
        · rename_i h0
          simp only [Option.some.injEq, Prod.mk.injEq] at h
          obtain ⟨rfl, rfl, rfl⟩ := h
          exact ⟨fs, x, hfs, hx, rfl, hn, h0⟩
      · cases h
    · cases h
  · cases h
theorem elA_inv {t e : TypeId} {n : Nat} (h : elA P t = some (e, n)) : ∃ i, P.underlying t = some (.slice e) ∧ P.info? e = some i ∧ i.size = n := by
  unfold elA at h
  split at h
  · rename_i e' he
    split at h
    · rename_i i hi
      simp only [Option.some.injEq, Prod.mk.injEq] at h
      obtain ⟨rfl, rfl⟩ := h
      exact ⟨i, he, hi, rfl⟩
    · cases h
  · cases h
theorem add_off (b off n : Nat) : (⟨b, off, none⟩ : Addr).add n = ⟨b, off + n, none⟩ := by unfold Addr.add; split <;> simp_all

theorem fill_ok (place place' : Nat → Option (Nat × Nat)) (hpp : ∀ i x, place i = some x → place' i = some x) : ∀ (parts : List (Nat × AV)) (vparts : List (Nat × Value)) (cs : List AV) (arr : Array Value) (r : List AV),
    vparts.length = parts.length → (∀ (i : Nat) (x : Nat × AV) (y : Nat × Value), parts[i]? = some x → vparts[i]? = some y → x.1 = y.1 ∧ VR M ρ x.2 y.2) →
    cs.length = arr.size → (∀ v ∈ arr, v.oneCell' = true) → (∀ (i : Nat) (c : AV) (u : Value), cs[i]? = some c → arr[i]? = some u → VR M ρ c u) → fillA place cs parts = some r →
    ∃ arr' : Array Value, Instr.fill place' arr vparts = some arr' ∧ r.length = arr'.size ∧ (∀ v ∈ arr', v.oneCell' = true) ∧ ∀ (i : Nat) (c : AV) (u : Value), r[i]? = some c → arr'[i]? = some u → VR M ρ c u
  | [], vparts, cs, arr, r, hl, _, h1, h2, h3, h => by
    have : vparts = [] := List.eq_nil_of_length_eq_zero hl
    subst this
    simp only [fillA, Option.some.injEq] at h
    subst h
    exact ⟨arr, rfl, h1, h2, h3⟩
  | (k, a) :: parts, [], cs, arr, r, hl, _, _, _, _, _ => by simp at hl
  | (k, a) :: parts, (k', v) :: vparts, cs, arr, r, hl, hp, h1, h2, h3, h => by
    obtain ⟨hk, hav⟩ := hp 0 _ _ rfl rfl
    simp only at hk hav
    subst hk
    simp only [fillA] at h
    split at h
    · rename_i off size hpl
      split at h
      · rename_i hcond
        obtain ⟨hc1, hc2, hc3⟩ := hcond
        obtain ⟨e1, e2, e3⟩ := hav.cells hc3
        have hset : ∀ (l : List Value) (m : Nat) (A : Array Value), m + off + l.length ≤ A.size → (l.zipIdx m).foldl (fun (cs : Array Value) (x : Value × Nat) => cs.setIfInBounds (off + x.2) x.1) A = (A.toList.take (off + m) ++ l ++ A.toList.drop (off + m + l.length)).toArray := by
          intro l
          induction l with
          | nil => intro m A _; simp
          | cons x l ih =>
            intro m A hA
            simp only [List.length_cons] at hA
            rw [List.zipIdx_cons, List.foldl_cons, ih (m + 1) _ (by simp; omega)]
            apply Array.ext'
            simp only [Array.toList_setIfInBounds, List.length_cons]
            apply List.ext_getElem?
            intro j
            have hlen : A.toList.length = A.size := by simp
            have hj : j < off + m ∨ j = off + m ∨ off + m < j := by omega
            rcases hj with hj | hj | hj
            · rw [List.append_assoc, List.append_assoc, List.getElem?_append_left (by simp; omega), List.getElem?_append_left (by simp; omega), List.getElem?_take, List.getElem?_take, if_pos (by omega), if_pos (by omega), List.getElem?_set_ne (by omega)]
            · subst hj
              rw [List.append_assoc, List.append_assoc, List.getElem?_append_left (by simp; omega), List.getElem?_append_right (by simp; omega), List.getElem?_take, if_pos (by omega), List.getElem?_set_self (by simp; omega)]
              simp only [List.length_take, Array.length_toList]
              rw [show off + m - min (off + m) A.size = 0 by omega]
              simp
            · rw [List.append_assoc, List.append_assoc]
              conv => lhs; rw [List.getElem?_append_right (by simp; omega)]
              conv => rhs; rw [List.getElem?_append_right (by simp; omega)]
              simp only [List.length_take, List.length_set, Array.length_toList]
              rw [show j - min (off + m) A.size = (j - min (off + (m + 1)) A.size) + 1 by omega, List.cons_append, List.getElem?_cons_succ]
              by_cases hjl : j - min (off + (m + 1)) A.size < l.length
              · rw [List.getElem?_append_left hjl, List.getElem?_append_left hjl]
              · rw [List.getElem?_append_right (by omega), List.getElem?_append_right (by omega), List.getElem?_drop, List.getElem?_drop, List.getElem?_set_ne (by omega)]
                congr 1
                omega
        have harr := hset v.cells.toList 0 arr (by simp; omega)
        simp only [Nat.add_zero, Array.length_toList] at harr
        obtain ⟨arr', f1, f2, f3, f4⟩ := fill_ok place place' hpp parts vparts (cs.take off ++ a.cells ++ cs.drop (off + size)) (arr.toList.take off ++ v.cells.toList ++ arr.toList.drop (off + v.cells.size)).toArray r (by simpa using hl)
          (fun i x y hx hy => hp (i + 1) x y (by simpa using hx) (by simpa using hy)) (by simp; omega) (fun u hu => by
            simp only [List.mem_toArray, List.mem_append] at hu
            rcases hu with (hu | hu) | hu
            · exact h2 u (by simpa using List.mem_of_mem_take hu)
            · exact e2 u (by simpa using hu)
            · exact h2 u (by simpa using List.mem_of_mem_drop hu)) (fun i c u hc hu => by
            simp only [List.getElem?_toArray] at hu
            by_cases hi : i < off
            · rw [List.append_assoc, List.getElem?_append_left (by simp; omega), List.getElem?_take, if_pos hi] at hc hu
              exact h3 i c u hc (by simpa using hu)
            · by_cases hi2 : i < off + size
              · rw [List.append_assoc, List.getElem?_append_right (by simp; omega), List.getElem?_append_left (by simp; omega)] at hc hu
                simp only [List.length_take, Array.length_toList] at hc hu
                rw [show i - min off cs.length = i - off by omega] at hc
                rw [show i - min off arr.size = i - off by omega] at hu
                exact e3 (i - off) c u hc (by simpa using hu)
              · rw [List.getElem?_append_right (by simp; omega), List.getElem?_drop] at hc hu
                simp only [List.length_append, List.length_take, Array.length_toList] at hc hu
                rw [show off + size + (i - (min off cs.length + a.cells.length)) = i by omega] at hc
                rw [show off + v.cells.size + (i - (min off arr.size + v.cells.size)) = i by omega] at hu
                exact h3 i c u hc (by simpa using hu)) h
        refine ⟨arr', ?_, f2, f3, f4⟩
        simp only [Instr.fill, hpp _ _ hpl]
        rw [if_neg (by simp; omega)]
        rw [← f1, ← harr]
        congr 1
        rw [← Array.foldl_toList]
        simp
      · cases h
    · cases h
end
end Go.Proofs.Ytfpfalknddfejaa
