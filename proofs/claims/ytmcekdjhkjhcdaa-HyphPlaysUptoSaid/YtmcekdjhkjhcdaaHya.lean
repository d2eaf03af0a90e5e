import Derived.Test.YtmcekdjhkjhcdaaHs
import Derived.Test.YtmcekdjhkjhcdaaHh
/- The layer hyph, in plain Lean: an exception is read. No function of the program. Conditions: those that each theorem names. -/
namespace Go.Proofs.Ytmcekdjhkjhcdaa.Hp
open Hy (wordB)
set_option linter.unusedVariables false

theorem snoc_ind {α : Type} {m : List α → Prop} (h0 : m []) (h1 : ∀ l a, m l → m (l ++ [a])) (l : List α) : m l := by
  have h : ∀ l : List α, m l.reverse := by
    intro l
    induction l with
    | nil => exact h0
    | cons a l ih => rw [List.reverse_cons]; exact h1 _ _ ih
  rw [← List.reverse_reverse l]
  exact h _
abbrev Xc := Nm × List Int
/-- A byte, as a rune, in bytes. -/
def rb (c : UInt8) : Nm := if c.toNat < 128 then [c] else [UInt8.ofNat (192 + c.toNat / 64), UInt8.ofNat (128 + c.toNat % 64)]
def ib (c : UInt8) : Nm := [c]
theorem rb_ne (c : UInt8) : rb c ≠ [] := by unfold rb; split <;> simp
theorem ib_ne (c : UInt8) : ib c ≠ [] := by simp [ib]
theorem rb_let (c : UInt8) (h : isLet c = true) : rb c = [c] := by
  have h1 := all_bytes (p := fun c => !isLet c || (rb c == [c])) (by kernel_rfl) c
  simpa [h] using h1
theorem rb_not (c : UInt8) (h : isLet c = false) : (rb c).all isLet = false := by
  have h1 := all_bytes (p := fun c => isLet c || !(rb c).all isLet) (by kernel_rfl) c
  rw [h] at h1
  simpa using h1
theorem rb_len (c : UInt8) : 1 ≤ (rb c).length ∧ (rb c).length ≤ 2 := by unfold rb; split <;> simp
/-- A hyphen where none may stand: at the beginning, or behind another one. -/
def badH (s : Xc) : Bool := s.1.isEmpty || s.2.getLast? == some (s.1.length : Int)
def pstep (f : UInt8 → Nm) (s : Xc) (c : UInt8) : Option Xc :=
  if c = 45 then (if badH s = true then none else some (s.1, s.2 ++ [(s.1.length : Int)])) else some (s.1 ++ f c, s.2)
def pRun (f : UInt8 → Nm) (t : Nm) : Option Xc := t.foldl (fun o c => o.bind (pstep f · c)) (some ([], []))
theorem pRun_snoc (f : UInt8 → Nm) (t : Nm) (c : UInt8) : pRun f (t ++ [c]) = (pRun f t).bind (pstep f · c) := by simp [pRun]
theorem pRun_none (f : UInt8 → Nm) : ∀ (l t : Nm), pRun f t = none → pRun f (t ++ l) = none
  | [], t, h => by simpa using h
  | c :: l, t, h => by
    have h1 : pRun f (t ++ [c]) = none := by rw [pRun_snoc, h]; rfl
    have h2 := pRun_none f l (t ++ [c]) h1
    simpa using h2
structure PFine (t : Nm) (s : Xc) : Prop where
  emp : s.1 = [] ↔ t = []
  last : s.2.getLast? = some (s.1.length : Int) ↔ t.getLast? = some 45
  bd : ∀ x ∈ s.2, 1 ≤ x ∧ x ≤ (s.1.length : Int)
  rise : s.2.Pairwise (· < ·)
  nw : s.2.length ≤ t.length
theorem getLast_snoc {α : Type} (l : List α) (a : α) : (l ++ [a]).getLast? = some a := by simp
theorem pfine (f : UInt8 → Nm) (hf : ∀ c, f c ≠ []) : ∀ (t : Nm) (s : Xc), pRun f t = some s → PFine t s := by
  refine snoc_ind ?_ ?_
  · intro s h
    simp only [pRun, List.foldl_nil, Option.some.injEq] at h
    subst h
    exact ⟨by simp, by simp, by simp, by simp, by simp⟩
  · intro t c ih s h
    rw [pRun_snoc] at h
    cases hr : pRun f t with
    | none => rw [hr] at h; cases h
    | some s' =>
      rw [hr] at h
      have hi := ih s' hr
      simp only [Option.bind_some, pstep] at h
      split at h
      · rename_i hc
        split at h
        · cases h
        · rename_i hb
          injection h with h
          subst h
          simp only [badH, Bool.or_eq_true, List.isEmpty_iff, beq_iff_eq, not_or] at hb
          have hpos : 1 ≤ s'.1.length := List.length_pos_iff.2 hb.1
          refine ⟨⟨fun e => absurd e hb.1, fun e => by simp at e⟩, ?_, ?_, ?_, ?_⟩
          · simp only [getLast_snoc, hc]
          · intro x hx
            simp only [List.mem_append, List.mem_singleton] at hx
            rcases hx with hx | rfl
            · exact hi.bd x hx
            · show 1 ≤ (s'.1.length : Int) ∧ (s'.1.length : Int) ≤ (s'.1.length : Int)
              omega
          · rw [List.pairwise_append]
            refine ⟨hi.rise, by simp, ?_⟩
            intro a ha b hbm
            simp only [List.mem_singleton] at hbm
            subst hbm
            have h1 := hi.bd a ha
            rcases Int.lt_or_eq_of_le h1.2 with h2 | h2
            · exact h2
            · exfalso
              -- a is the greatest, and the last one
              apply hb.2
              have hne : s'.2 ≠ [] := List.ne_nil_of_mem ha
              obtain ⟨m, y, hm⟩ : ∃ m y, s'.2 = m ++ [y] := ⟨s'.2.dropLast, s'.2.getLast hne, (List.dropLast_concat_getLast hne).symm⟩
              rw [hm, getLast_snoc]
              have hy := hi.bd y (by rw [hm]; simp)
              have hr2 := hi.rise
              rw [hm, List.pairwise_append] at hr2
              rw [hm] at ha
              simp only [List.mem_append, List.mem_singleton] at ha
              rcases ha with ha | ha
              · have := hr2.2.2 a ha y (by simp)
                omega
              · rw [← ha, h2]
          · have := hi.nw
            simp only [List.length_append, List.length_singleton]
            omega
      · rename_i hc
        injection h with h
        subst h
        have hfl : 1 ≤ (f c).length := List.length_pos_iff.2 (hf c)
        refine ⟨⟨fun e => ?_, fun e => by simp at e⟩, ?_, ?_, hi.rise, ?_⟩
        · simp only [List.append_eq_nil_iff] at e
          exact absurd e.2 (hf c)
        · simp only [getLast_snoc, Option.some.injEq]
          constructor
          · intro e
            have hm := List.mem_of_getLast? e
            have := hi.bd _ hm
            simp only [List.length_append] at this
            omega
          · intro e; exact absurd e hc
        · intro x hx
          have := hi.bd x hx
          simp only [List.length_append]
          omega
        · have := hi.nw
          simp only [List.length_append, List.length_singleton]
          omega
/-- Where it stops has no part in how bytes are written. -/
theorem badH_iff {f : UInt8 → Nm} (hf : ∀ c, f c ≠ []) {t : Nm} {s : Xc} (h : pRun f t = some s) : badH s = true ↔ (t = [] ∨ t.getLast? = some 45) := by
  have hi := pfine f hf t s h
  unfold badH
  simp only [Bool.or_eq_true, List.isEmpty_iff, beq_iff_eq]
  rw [hi.emp, hi.last]
theorem pRun_some (f g : UInt8 → Nm) (hf : ∀ c, f c ≠ []) (hg : ∀ c, g c ≠ []) : ∀ t, (pRun f t).isSome = (pRun g t).isSome := by
  refine snoc_ind rfl ?_
  intro t c ih
  rw [pRun_snoc, pRun_snoc]
  cases h1 : pRun f t with
  | none =>
    rw [h1] at ih
    cases h2 : pRun g t with
    | none => rfl
    | some s2 => rw [h2] at ih; cases ih
  | some s1 =>
    rw [h1] at ih
    cases h2 : pRun g t with
    | none => rw [h2] at ih; cases ih
    | some s2 =>
      simp only [Option.bind_some, pstep]
      by_cases hc : c = 45
      · simp only [if_pos hc]
        have e : badH s1 = badH s2 := by rw [Bool.eq_iff_iff, badH_iff hf h1, badH_iff hg h2]
        rw [e]
        cases badH s2 <;> rfl
      · simp only [if_neg hc]
        rfl
/-- What is read: its letters, and its hyphens' places. -/
def pEnd (n : Nat) (s : Xc) : Option Xc := if wordB s.1 = true ∧ n = s.1.length + s.2.length ∧ ¬ s.2.getLast? = some (s.1.length : Int) then some s else none
def par (t : Nm) : Option Xc := (pRun rb t).bind (pEnd t.length)
def dEnd (t : Nm) (s : Xc) : Option Xc := if wordB s.1 = true ∧ ¬ t.getLast? = some 45 then some s else none
def dpar (t : Nm) : Option Xc := (pRun ib t).bind (dEnd t)
/-- The letters alone. -/
theorem run_chars (f : UInt8 → Nm) : ∀ (t : Nm) (s : Xc), pRun f t = some s → s.1 = (t.filter (· != 45)).flatMap f ∧ (t.filter (· == 45)).length = s.2.length := by
  refine snoc_ind ?_ ?_
  · intro s h
    simp only [pRun, List.foldl_nil, Option.some.injEq] at h
    subst h
    exact ⟨rfl, rfl⟩
  · intro t c ih s h
    rw [pRun_snoc] at h
    cases hr : pRun f t with
    | none => rw [hr] at h; cases h
    | some s' =>
      rw [hr] at h
      obtain ⟨h1, h2⟩ := ih s' hr
      simp only [Option.bind_some, pstep] at h
      split at h
      · rename_i hc
        split at h
        · cases h
        · injection h with h
          subst h
          subst hc
          simp [h1, h2]
      · rename_i hc
        injection h with h
        subst h
        simp [h1, h2, hc]
theorem run_same {t : Nm} {s s' : Xc} (h : pRun rb t = some s) (h' : pRun ib t = some s') (hl : ∀ c ∈ t, c ≠ 45 → isLet c = true) : s = s' := by
  have key : ∀ (t : Nm), (∀ c ∈ t, c ≠ 45 → isLet c = true) → pRun rb t = pRun ib t := by
    refine snoc_ind (fun _ => rfl) ?_
    intro t c ih hl
    rw [pRun_snoc, pRun_snoc, ih (fun c hc => hl c (by simp [hc]))]
    cases pRun ib t with
    | none => rfl
    | some s =>
      simp only [Option.bind_some, pstep]
      by_cases hc : c = 45
      · simp only [if_pos hc]
      · simp only [if_neg hc]
        rw [rb_let c (hl c (by simp) hc)]
        rfl
  rw [key t hl, h'] at h
  injection h with h
  exact h.symm
theorem all_flat {f : UInt8 → Nm} {l : Nm} (h : (l.flatMap f).all isLet = true) : ∀ c ∈ l, (f c).all isLet = true := by
  intro c hc
  rw [List.all_eq_true] at h ⊢
  exact fun x hx => h x (List.mem_flatMap.2 ⟨c, hc, hx⟩)
theorem wordB_all {l : Nm} (h : wordB l = true) : l.all isLet = true := by
  unfold Hy.wordB at h
  simp only [Bool.and_eq_true] at h
  exact h.2
theorem par_dpar (t : Nm) : dpar t = par t := by
  unfold dpar par
  have hs := pRun_some rb ib rb_ne ib_ne t
  cases h1 : pRun rb t with
  | none =>
    rw [h1] at hs
    cases h2 : pRun ib t with
    | none => rfl
    | some s => rw [h2] at hs; cases hs
  | some s =>
    rw [h1] at hs
    cases h2 : pRun ib t with
    | none => rw [h2] at hs; cases hs
    | some s' =>
      simp only [Option.bind_some]
      have c1 := run_chars rb t s h1
      have c2 := run_chars ib t s' h2
      have f1 := pfine rb rb_ne t s h1
      have hib : ∀ l : Nm, l.flatMap ib = l := by
        intro l
        induction l with
        | nil => rfl
        | cons a l ih => rw [List.flatMap_cons, ih]; rfl
      by_cases hl : ∀ c ∈ t, c ≠ 45 → isLet c = true
      · obtain rfl := run_same h1 h2 hl
        unfold dEnd pEnd
        have hn : t.length = s.1.length + s.2.length := by
          rw [c2.1, hib, ← c2.2]
          have : ∀ l : Nm, l.length = (l.filter (· != 45)).length + (l.filter (· == 45)).length := by
            intro l
            induction l with
            | nil => rfl
            | cons a l ih =>
              by_cases ha : a = 45
              · subst ha; simp; omega
              · simp [ha]; omega
          exact this t
        by_cases hw : wordB s.1 = true ∧ ¬ t.getLast? = some 45
        · rw [if_pos hw, if_pos ⟨hw.1, hn, fun e => hw.2 (f1.last.1 e)⟩]
        · rw [if_neg hw, if_neg (fun e => hw ⟨e.1, fun k => e.2.2 (f1.last.2 k)⟩)]
      · have w1 : ¬ wordB s.1 = true := by
          intro hw
          apply hl
          intro c hc h45
          have := all_flat (by rw [← c1.1]; exact wordB_all hw) c (List.mem_filter.2 ⟨hc, by simpa using h45⟩)
          cases hlc : isLet c with
          | true => rfl
          | false => rw [rb_not c hlc] at this; cases this
        have w2 : ¬ wordB s'.1 = true := by
          intro hw
          apply hl
          intro c hc h45
          have := all_flat (by rw [← c2.1]; exact wordB_all hw) c (List.mem_filter.2 ⟨hc, by simpa using h45⟩)
          simpa [ib] using this
        unfold dEnd pEnd
        rw [if_neg (fun e => w2 e.1), if_neg (fun e => w1 e.1)]
/-- What an exception is. -/
structure IsX (x : Xc) : Prop where
  word : wordB x.1 = true
  bd : ∀ p ∈ x.2, 1 ≤ p ∧ p < (x.1.length : Int)
  rise : x.2.Pairwise (· < ·)
theorem par_is {t : Nm} {x : Xc} (h : par t = some x) : IsX x := by
  unfold par at h
  cases h1 : pRun rb t with
  | none => rw [h1] at h; cases h
  | some s =>
    rw [h1] at h
    simp only [Option.bind_some, pEnd] at h
    split at h
    · rename_i hc
      injection h with h
      subst h
      have hi := pfine rb rb_ne t s h1
      refine ⟨hc.1, fun p hp => ?_, hi.rise⟩
      have hb := hi.bd p hp
      refine ⟨hb.1, ?_⟩
      rcases Int.lt_or_eq_of_le hb.2 with h2 | h2
      · exact h2
      · exfalso
        apply hc.2.2
        have hne : s.2 ≠ [] := List.ne_nil_of_mem hp
        obtain ⟨m, y, hm⟩ : ∃ m y, s.2 = m ++ [y] := ⟨s.2.dropLast, s.2.getLast hne, (List.dropLast_concat_getLast hne).symm⟩
        have hy := hi.bd y (by rw [hm]; simp)
        have hr2 := hi.rise
        rw [hm, List.pairwise_append] at hr2
        rw [hm] at hp ⊢
        rw [getLast_snoc]
        simp only [List.mem_append, List.mem_singleton] at hp
        rcases hp with hp | hp
        · have := hr2.2.2 p hp y (by simp)
          omega
        · rw [← hp, h2]
    · cases h
end Go.Proofs.Ytmcekdjhkjhcdaa.Hp
