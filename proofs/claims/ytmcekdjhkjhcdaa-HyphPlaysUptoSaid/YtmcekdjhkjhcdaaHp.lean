import Derived.WalkKit
import Derived.KernelRfl
/- The layer hyph, in plain Lean: reading a pattern; the trie as the list of its states' names. No Go in sight. Conditions: those that each theorem names. -/
namespace Go.Proofs.Ytmcekdjhkjhcdaa.Hp
set_option linter.unusedVariables false

/-! ### signs -/
def isDig (c : UInt8) : Bool := decide (48 ≤ c.toNat) && decide (c.toNat ≤ 57)
def isLet (c : UInt8) : Bool := decide (97 ≤ c.toNat) && decide (c.toNat ≤ 122)
def sgn (c : UInt8) : Int := if c = 46 then 0 else if isLet c = true then (c.toNat : Int) - 96 else -1
def okS (c : UInt8) : Bool := c == 46 || isLet c
/-- The byte whose sign is j. -/
def chr (j : Nat) : UInt8 := if j = 0 then 46 else UInt8.ofNat (96 + j)
theorem all_bytes {p : UInt8 → Bool} (h : (List.range 256).all (fun n => p (UInt8.ofNat n)) = true) (c : UInt8) : p c = true := by
  rw [List.all_eq_true] at h
  have h1 := h c.toNat (List.mem_range.2 c.toNat_lt)
  rwa [UInt8.ofNat_toNat] at h1
theorem sgn_ok (c : UInt8) (h : okS c = true) : 0 ≤ sgn c ∧ sgn c < 27 ∧ chr (sgn c).toNat = c := by
  have h1 := all_bytes (p := fun c => !okS c || (decide (0 ≤ sgn c ∧ sgn c < 27 ∧ chr (sgn c).toNat = c))) (by kernel_rfl) c
  simpa [h] using h1
theorem sgn_no (c : UInt8) (h : okS c = false) : sgn c = -1 := by
  have h1 := all_bytes (p := fun c => okS c || (decide (sgn c = -1))) (by kernel_rfl) c
  simpa [h] using h1
theorem sgn_chr {j : Nat} (h : j < 27) : okS (chr j) = true ∧ sgn (chr j) = j := by
  have h1 : (List.range 27).all (fun j => okS (chr j) && decide (sgn (chr j) = j)) = true := by kernel_rfl
  rw [List.all_eq_true] at h1
  simpa using h1 j (List.mem_range.2 h)
theorem dig_not (c : UInt8) (h : isDig c = true) : okS c = false := by
  have h1 := all_bytes (p := fun c => !isDig c || !okS c) (by kernel_rfl) c
  simpa [h] using h1
theorem let_ok (c : UInt8) (h : isLet c = true) : okS c = true ∧ isDig c = false ∧ c ≠ 46 := by
  have h1 := all_bytes (p := fun c => !isLet c || (okS c && !isDig c && (c != 46))) (by kernel_rfl) c
  simp [h] at h1
  exact ⟨h1.1.1, h1.1.2, h1.2⟩

/-! ### a pattern is read -/
structure Rd where
  signs : List UInt8
  vals : List Int
  digit : Bool
  letters : Nat
def rd0 : Rd := ⟨[], [0], false, 0⟩
def rdStep (s : Rd) (c : UInt8) : Option Rd :=
  if isDig c = true then (if s.digit = true then none else some ⟨s.signs, s.vals.set (s.vals.length - 1) ((c.toNat : Int) - 48), true, s.letters⟩)
  else if isLet c = true then some ⟨s.signs ++ [c], s.vals ++ [0], false, s.letters + 1⟩
  else if c = 46 then some ⟨s.signs ++ [c], s.vals ++ [0], false, s.letters⟩
  else none
def rdRun : Rd → List UInt8 → Option Rd
  | s, [] => some s
  | s, c :: l => (rdStep s c).bind fun s' => rdRun s' l
theorem rdRun_append : ∀ (l k : List UInt8) (s : Rd), rdRun s (l ++ k) = (rdRun s l).bind fun s' => rdRun s' k
  | [], k, s => rfl
  | c :: l, k, s => by
    simp only [List.cons_append, rdRun]
    cases rdStep s c with
    | none => rfl
    | some s' => exact rdRun_append l k s'
theorem rdRun_snoc {t : List UInt8} {i : Nat} {c : UInt8} {s s' x : Rd} (h : rdRun s (t.take i) = some s') (hc : t[i]? = some c) (hx : rdStep s' c = some x) : rdRun s (t.take (i + 1)) = some x := by
  rw [List.take_add_one, hc, Option.toList_some, rdRun_append, h]
  simp [rdRun, hx]
theorem rdRun_stop {t : List UInt8} {i : Nat} {c : UInt8} {s s' : Rd} (h : rdRun s (t.take i) = some s') (hc : t[i]? = some c) (hx : rdStep s' c = none) : rdRun s t = none := by
  have h1 : t = t.take i ++ c :: t.drop (i + 1) := by
    have hi : i < t.length := by
      rcases Nat.lt_or_ge i t.length with h | h
      · exact h
      · rw [List.getElem?_eq_none h] at hc; cases hc
    rw [List.getElem?_eq_getElem hi] at hc
    injection hc with hc
    rw [← hc, List.getElem_cons_drop, List.take_append_drop]
  rw [h1, rdRun_append, h]
  simp [rdRun, hx]
structure Fine (t : List UInt8) (s : Rd) : Prop where
  len : s.vals.length = s.signs.length + 1
  le : s.signs.length ≤ t.length
  lets : s.letters ≤ s.signs.length
  ok : ∀ c ∈ s.signs, okS c = true ∧ c ∈ t
  dig : ∀ x ∈ s.vals, 0 ≤ x ∧ x ≤ 9
theorem Fine.zero : Fine [] rd0 := ⟨rfl, Nat.le_refl _, Nat.le_refl _, by simp [rd0], by simp [rd0]⟩
theorem mem_set {l : List Int} {i : Nat} {v x : Int} (h : x ∈ l.set i v) : x ∈ l ∨ x = v := by
  rcases List.mem_or_eq_of_mem_set h with h | h
  · exact .inl h
  · exact .inr h
theorem Fine.step {t : List UInt8} {s s' : Rd} {c : UInt8} (h : Fine t s) (hs : rdStep s c = some s') : Fine (t ++ [c]) s' := by
  unfold rdStep at hs
  split at hs
  · rename_i hd
    split at hs
    · cases hs
    · injection hs with hs
      subst hs
      have hd' : 48 ≤ c.toNat ∧ c.toNat ≤ 57 := by simpa [isDig] using hd
      refine ⟨by simp [h.len], by have := h.le; simp; omega, h.lets, fun x hx => ⟨(h.ok x hx).1, by simp [(h.ok x hx).2]⟩, fun x hx => ?_⟩
      rcases mem_set hx with hx | hx
      · exact h.dig x hx
      · omega
  · split at hs
    · rename_i hd hl
      injection hs with hs
      subst hs
      refine ⟨by simp [h.len], by have := h.le; simp; omega, by have := h.lets; simp; omega, fun x hx => ?_, fun x hx => ?_⟩
      · simp only [List.mem_append, List.mem_singleton] at hx
        rcases hx with hx | rfl
        · exact ⟨(h.ok x hx).1, by simp [(h.ok x hx).2]⟩
        · exact ⟨(let_ok _ hl).1, by simp⟩
      · simp only [List.mem_append, List.mem_singleton] at hx
        rcases hx with hx | rfl
        · exact h.dig x hx
        · omega
    · split at hs
      · rename_i hd hl he
        injection hs with hs
        subst hs
        refine ⟨by simp [h.len], by have := h.le; simp; omega, by have := h.lets; simp; omega, fun x hx => ?_, fun x hx => ?_⟩
        · simp only [List.mem_append, List.mem_singleton] at hx
          rcases hx with hx | rfl
          · exact ⟨(h.ok x hx).1, by simp [(h.ok x hx).2]⟩
          · subst he; exact ⟨by decide, by simp⟩
        · simp only [List.mem_append, List.mem_singleton] at hx
          rcases hx with hx | rfl
          · exact h.dig x hx
          · omega
      · cases hs
theorem Fine.run : ∀ {l t : List UInt8} {s s' : Rd}, Fine t s → rdRun s l = some s' → Fine (t ++ l) s'
  | [], t, s, s', h, hr => by
    simp only [rdRun, Option.some.injEq] at hr
    subst hr
    simpa using h
  | c :: l, t, s, s', h, hr => by
    simp only [rdRun] at hr
    cases hx : rdStep s c with
    | none => rw [hx] at hr; cases hr
    | some y =>
      rw [hx] at hr
      have := Fine.run (h.step hx) hr
      simpa using this
theorem fine_of {t : List UInt8} {s : Rd} (h : rdRun rd0 t = some s) : Fine t s := by simpa using Fine.zero.run h

/-- A point within. -/
def midDot (l : List UInt8) : Bool := (l.dropLast.drop 1).any (· == 46)
def ends (l : List UInt8) (v : List Int) : List Int :=
  let v1 := if l.head? = some 46 then v.set 0 0 else v
  if l.getLast? = some 46 then v1.set l.length 0 else v1
def endOk (s : Rd) : Bool := !(s.letters == 0) && decide (s.signs.length ≤ 63) && !midDot s.signs
def rdEnd (s : Rd) : Option (List UInt8 × List Int) := if endOk s = true then some (s.signs, ends s.signs s.vals) else none
def rd (t : List UInt8) : Option (List UInt8 × List Int) := (rdRun rd0 t).bind rdEnd
structure IsPat (t : List UInt8) (p : List UInt8 × List Int) : Prop where
  len : p.2.length = p.1.length + 1
  pos : 1 ≤ p.1.length
  le : p.1.length ≤ 63
  ok : ∀ c ∈ p.1, okS c = true ∧ c ∈ t
  dig : ∀ x ∈ p.2, 0 ≤ x ∧ x ≤ 9
theorem ends_length (l : List UInt8) (v : List Int) : (ends l v).length = v.length := by
  unfold ends
  simp only
  split <;> split <;> simp
theorem ends_dig {l : List UInt8} {v : List Int} (h : ∀ x ∈ v, 0 ≤ x ∧ x ≤ 9) : ∀ x ∈ ends l v, 0 ≤ x ∧ x ≤ 9 := by
  intro x hx
  unfold ends at hx
  simp only at hx
  split at hx <;> split at hx
  · rcases mem_set hx with hx | hx
    · rcases mem_set hx with hx | hx
      · exact h x hx
      · omega
    · omega
  · rcases mem_set hx with hx | hx
    · exact h x hx
    · omega
  · rcases mem_set hx with hx | hx
    · exact h x hx
    · omega
  · exact h x hx
theorem rd_is {t : List UInt8} {p : List UInt8 × List Int} (h : rd t = some p) : IsPat t p := by
  unfold rd at h
  cases hr : rdRun rd0 t with
  | none => rw [hr] at h; cases h
  | some s =>
    rw [hr] at h
    have hf := fine_of hr
    simp only [Option.bind_some, rdEnd] at h
    split at h
    · rename_i he
      injection h with h
      subst h
      simp only [endOk, Bool.and_eq_true, Bool.not_eq_true', beq_eq_false_iff_ne, decide_eq_true_eq] at he
      have := hf.lets
      exact ⟨by simp [ends_length, hf.len], by simp; omega, he.1.2, hf.ok, ends_dig hf.dig⟩
    · cases h
end Go.Proofs.Ytmcekdjhkjhcdaa.Hp
