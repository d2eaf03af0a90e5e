import Derived.Test.YtmcekdjhkjhcdaaHya
import Derived.Lib.Bytealg
/- The layer hyph, in plain Lean: exceptions by their words, rising. No function of the program. Conditions: those that each theorem names. -/
namespace Go.Proofs.Ytmcekdjhkjhcdaa.Hp
set_option linter.unusedVariables false

/-- One word ahead of another one. -/
def lw (a b : Nm) : Bool := Op.bytesLess a b
theorem lw_cons (a b : UInt8) (x y : Nm) : lw (a :: x) (b :: y) = (decide (a < b) || (a == b && lw x y)) := rfl
theorem lw_nil (a : Nm) : lw a [] = false := by cases a <;> rfl
theorem lw_irr : ∀ a : Nm, lw a a = false
  | [] => rfl
  | a :: x => by rw [lw_cons, lw_irr x]; simp [UInt8.lt_irrefl]
theorem lw_trans : ∀ {a b c : Nm}, lw a b = true → lw b c = true → lw a c = true
  | [], [], c, h, _ => by cases h
  | [], _ :: _, [], _, h => by rw [lw_nil] at h; cases h
  | [], _ :: _, _ :: _, _, _ => rfl
  | a :: x, [], c, h, _ => by rw [lw_nil] at h; cases h
  | a :: x, b :: y, [], _, h => by rw [lw_nil] at h; cases h
  | a :: x, b :: y, c :: z, h1, h2 => by
    rw [lw_cons] at h1 h2 ⊢
    simp only [Bool.or_eq_true, decide_eq_true_eq, Bool.and_eq_true, beq_iff_eq] at h1 h2 ⊢
    rcases h1 with h1 | ⟨rfl, h1⟩
    · rcases h2 with h2 | ⟨rfl, h2⟩
      · exact .inl (UInt8.lt_trans h1 h2)
      · exact .inl h1
    · rcases h2 with h2 | ⟨rfl, h2⟩
      · exact .inl h2
      · exact .inr ⟨rfl, lw_trans h1 h2⟩
theorem lw_tri : ∀ a b : Nm, lw a b = true ∨ a = b ∨ lw b a = true
  | [], [] => .inr (.inl rfl)
  | [], _ :: _ => .inl rfl
  | _ :: _, [] => .inr (.inr rfl)
  | a :: x, b :: y => by
    rw [lw_cons, lw_cons]
    simp only [Bool.or_eq_true, decide_eq_true_eq, Bool.and_eq_true, beq_iff_eq, List.cons.injEq]
    by_cases h1 : a < b
    · exact .inl (.inl h1)
    · by_cases h2 : b < a
      · exact .inr (.inr (.inl h2))
      · have e : a = b := UInt8.le_antisymm (UInt8.not_lt.1 h2) (UInt8.not_lt.1 h1)
        subst e
        rcases lw_tri x y with h | h | h
        · exact .inl (.inr ⟨rfl, h⟩)
        · exact .inr (.inl ⟨rfl, h⟩)
        · exact .inr (.inr (.inr ⟨rfl, h⟩))
theorem lw_asym {a b : Nm} (h : lw a b = true) : lw b a = false := by
  cases h2 : lw b a with
  | false => rfl
  | true =>
    have := lw_trans h h2
    rw [lw_irr] at this
    cases this
theorem cmp_lw : ∀ a b : Nm, (Lib.compareBytes a b < 0 ↔ lw a b = true) ∧ (Lib.compareBytes a b = 0 ↔ a = b)
  | [], [] => by simp [Lib.compareBytes, lw, Op.bytesLess]
  | [], _ :: _ => by simp [Lib.compareBytes, lw, Op.bytesLess]
  | _ :: _, [] => by simp [Lib.compareBytes, lw, Op.bytesLess]
  | a :: x, b :: y => by
    rw [lw_cons]
    unfold Lib.compareBytes
    obtain ⟨h1, h2⟩ := cmp_lw x y
    by_cases h : a < b
    · have hne : a ≠ b := fun e => UInt8.lt_irrefl a (e ▸ h)
      simp [h, hne]
    · by_cases h' : b < a
      · have hne : a ≠ b := fun e => UInt8.lt_irrefl a (e ▸ h')
        simp [h, h', hne]
      · have e : a = b := UInt8.le_antisymm (UInt8.not_lt.1 h') (UInt8.not_lt.1 h)
        subst e
        simp [h, h1, h2]

def Sor (X : List Xc) : Prop := X.Pairwise (fun a b => lw a.1 b.1 = true)
/-- How many stand ahead of a word. -/
def xk (X : List Xc) (w : Nm) : Nat := (X.takeWhile (fun x => lw x.1 w)).length
def xhas (X : List Xc) (w : Nm) : Bool := decide ((X[xk X w]?).map (·.1) = some w)
theorem xk_le (X : List Xc) (w : Nm) : xk X w ≤ X.length := (List.takeWhile_prefix _).length_le
theorem xk_before {X : List Xc} {w : Nm} {i : Nat} {x : Xc} (hi : i < xk X w) (hx : X[i]? = some x) : lw x.1 w = true := by
  have hp := List.takeWhile_prefix (l := X) (fun x => lw x.1 w)
  have h1 : (X.takeWhile (fun x => lw x.1 w))[i]? = some x := by
    obtain ⟨t, ht⟩ := hp
    rw [← ht, List.getElem?_append_left hi] at hx
    exact hx
  have h2 := List.mem_of_getElem? h1
  have key : ∀ (l : List Xc), ∀ y ∈ l.takeWhile (fun x => lw x.1 w), lw y.1 w = true := by
    intro l
    induction l with
    | nil => intro y hy; cases hy
    | cons a l ih =>
      intro y hy
      rw [List.takeWhile_cons] at hy
      split at hy
      · rcases List.mem_cons.1 hy with rfl | h
        · assumption
        · exact ih y h
      · cases hy
  exact key X x h2
theorem xk_cons (x : Xc) (X : List Xc) (w : Nm) : xk (x :: X) w = if lw x.1 w = true then xk X w + 1 else 0 := by
  unfold xk
  rw [List.takeWhile_cons]
  split <;> simp
theorem xk_after : ∀ {X : List Xc} {w : Nm} {i : Nat} {x : Xc}, Sor X → xk X w ≤ i → X[i]? = some x → lw x.1 w = false
  | [], _, _, _, _, _, hx => by simp at hx
  | y :: X, w, i, x, hs, hi, hx => by
    rw [xk_cons] at hi
    have hs' := List.pairwise_cons.1 hs
    split at hi
    · match i, hi with
      | i + 1, hi => exact xk_after (i := i) hs'.2 (by omega) (by simpa using hx)
    · rename_i hy
      have hy' : lw y.1 w = false := by simpa using hy
      match i, hx with
      | 0, hx => simp at hx; rw [← hx]; exact hy'
      | i + 1, hx =>
        have hxm : x ∈ X := List.mem_of_getElem? (by simpa using hx)
        have h1 := hs'.1 x hxm
        cases h2 : lw x.1 w with
        | false => rfl
        | true => rw [lw_trans h1 h2] at hy'; cases hy'
/-- The one place. -/
theorem xk_is {X : List Xc} {w : Nm} {k : Nat} (hs : Sor X) (hk : k ≤ X.length) (h1 : ∀ i x, i < k → X[i]? = some x → lw x.1 w = true) (h2 : ∀ i x, k ≤ i → X[i]? = some x → lw x.1 w = false) : k = xk X w := by
  have hl := xk_le X w
  rcases Nat.lt_trichotomy k (xk X w) with h | h | h
  · obtain ⟨x, hx⟩ := get_some (l := X) (k := k) (by omega)
    have a := xk_before h hx
    rw [h2 k x (Nat.le_refl _) hx] at a
    cases a
  · exact h
  · obtain ⟨x, hx⟩ := get_some (l := X) (k := xk X w) (by omega)
    have a := xk_after hs (Nat.le_refl _) hx
    rw [h1 _ x h hx] at a
    cases a
theorem xhas_at {X : List Xc} {w : Nm} (h : xhas X w = true) : ∃ x, X[xk X w]? = some x ∧ x.1 = w := by
  have h1 := of_decide_eq_true h
  rw [Option.map_eq_some_iff] at h1
  exact h1
theorem xhas_no {X : List Xc} {w : Nm} (hs : Sor X) (h : xhas X w = false) : ∀ x ∈ X, x.1 ≠ w := by
  intro x hx e
  obtain ⟨i, hi⟩ := List.mem_iff_getElem?.1 hx
  have hn := of_decide_eq_false h
  rcases Nat.lt_trichotomy i (xk X w) with h1 | h1 | h1
  · have := xk_before h1 hi
    rw [e, lw_irr] at this
    cases this
  · subst h1
    exact hn (by rw [hi]; simp [e])
  · have hk : xk X w < X.length := by have := (List.getElem?_eq_some_iff.1 hi).1; omega
    obtain ⟨y, hy⟩ := get_some hk
    have a := xk_after hs (Nat.le_refl _) hy
    have b : lw y.1 x.1 = true := by
      have hp := List.pairwise_iff_getElem.1 hs (xk X w) i hk (List.getElem?_eq_some_iff.1 hi).1 h1
      rw [(List.getElem?_eq_some_iff.1 hy).2, (List.getElem?_eq_some_iff.1 hi).2] at hp
      exact hp
    rw [e] at b
    rw [b] at a
    cases a
/-- One more, in its place. -/
def xput (X : List Xc) (x : Xc) : List Xc := if xhas X x.1 = true then X.set (xk X x.1) x else X.take (xk X x.1) ++ x :: X.drop (xk X x.1)
theorem mem_xput {X : List Xc} {x y : Xc} (h : y ∈ xput X x) : y ∈ X ∨ y = x := by
  unfold xput at h
  split at h
  · rcases List.mem_or_eq_of_mem_set h with h | h
    · exact .inl h
    · exact .inr h
  · simp only [List.mem_append, List.mem_cons] at h
    rcases h with h | h | h
    · exact .inl (List.mem_of_mem_take h)
    · exact .inr h
    · exact .inl (List.mem_of_mem_drop h)
theorem Sor.put {X : List Xc} (hs : Sor X) (x : Xc) : Sor (xput X x) := by
  unfold xput
  split
  · rename_i h
    obtain ⟨y, hy, he⟩ := xhas_at h
    unfold Sor
    rw [List.pairwise_iff_getElem]
    intro i j hi hj hij
    rw [List.length_set] at hi hj
    have hp := List.pairwise_iff_getElem.1 hs i j hi hj hij
    rw [List.getElem_set, List.getElem_set]
    have hyk := (List.getElem?_eq_some_iff.1 hy)
    by_cases h1 : xk X x.1 = i
    · rw [if_pos h1, if_neg (by omega)]
      have : X[i] = y := by rw [← hyk.2]; congr 1; exact h1.symm
      rw [this, he] at hp
      exact hp
    · rw [if_neg h1]
      by_cases h2 : xk X x.1 = j
      · rw [if_pos h2]
        have : X[j] = y := by rw [← hyk.2]; congr 1; exact h2.symm
        rw [this, he] at hp
        exact hp
      · rw [if_neg h2]
        exact hp
  · rename_i h
    have hno := xhas_no hs (by simpa using h)
    have ht : (X.take (xk X x.1) ++ X.drop (xk X x.1)).Pairwise (fun a b => lw a.1 b.1 = true) := by rw [List.take_append_drop]; exact hs
    rw [List.pairwise_append] at ht
    unfold Sor
    rw [List.pairwise_append]
    refine ⟨ht.1, List.pairwise_cons.2 ⟨?_, ht.2.1⟩, ?_⟩
    · intro y hy
      have hm := List.mem_of_mem_drop hy
      obtain ⟨i, hi⟩ := List.mem_iff_getElem?.1 hy
      rw [List.getElem?_drop] at hi
      have a := xk_after (w := x.1) hs (Nat.le_add_right _ _) hi
      rcases lw_tri x.1 y.1 with h1 | h1 | h1
      · exact h1
      · exact absurd h1.symm (hno y hm)
      · rw [h1] at a; cases a
    · intro a ha b hb
      rcases List.mem_cons.1 hb with rfl | hb
      · obtain ⟨i, hi⟩ := List.mem_iff_getElem?.1 ha
        rw [List.getElem?_take] at hi
        split at hi
        · exact xk_before (by assumption) hi
        · cases hi
      · exact ht.2.2 a ha b hb
/-- An exception is told. -/
def xtell (X : List Xc) (t : Nm) : List Xc := match par t with
  | none => X
  | some x => if xhas X x.1 = true then xput X x else if X.length = 1000 then X else xput X x
def xtellE (X : List Xc) (t : Nm) : Int := match par t with
  | none => 70
  | some x => if xhas X x.1 = true then 0 else if X.length = 1000 then 6 else 0
structure Exs (X : List Xc) : Prop where
  sor : Sor X
  is : ∀ x ∈ X, IsX x
  few : X.length ≤ 1000
theorem Exs.nil : Exs [] := ⟨List.Pairwise.nil, by simp, by simp⟩
theorem Exs.tell {X : List Xc} (h : Exs X) (t : Nm) : Exs (xtell X t) := by
  unfold xtell
  split
  · exact h
  · rename_i x hx
    have hi := par_is hx
    have key : (xput X x).length ≤ 1000 → Exs (xput X x) := fun hl => ⟨h.sor.put x, fun y hy => by
      rcases mem_xput hy with h1 | h1
      · exact h.is y h1
      · rw [h1]; exact hi, hl⟩
    split
    · rename_i hh
      refine key ?_
      unfold xput
      rw [if_pos hh, List.length_set]
      exact h.few
    · rename_i hh
      split
      · exact h
      · refine key ?_
        unfold xput
        rw [if_neg hh]
        have := h.few
        simp only [List.length_append, List.length_cons, List.length_take, List.length_drop]
        omega
end Go.Proofs.Ytmcekdjhkjhcdaa.Hp
