import Derived.Test.YtmcekdjhkjhcdaaHnw
import Derived.Test.YtmcekdjhkjhcdaaLeaf
/- A slice of Ops that comes in (printed by gen_lhyph1.py). Conditions: those that each theorem names. -/
namespace Go.Proofs.Ytmcekdjhkjhcdaa.Hy
open Go.ChangeShapes Go.WideShapes Go.ChangeAt Go.RowKit
open Me
set_option linter.unusedVariables false

def leafs : List TypeId := [3, 9, 3, 3]
theorem op_of {H : Type} {enc : TypeId × Value → H} {w : World} {base : Nat} {spare : Nat → Bool} {held : Bool} {cs : List Value} (h : Le.Cells enc Try.prog w base spare held leafs cs) : ∃ o : Op4, cs = o4 o ∧ (Lit.int .i64 o.left).wf = true ∧ (Lit.int .i64 o.right).wf = true := by
  obtain ⟨hl, hc⟩ := h
  have hl : cs.length = 4 := hl
  obtain ⟨v0, m0, y0, e0, t0⟩ := hc 0 3 rfl
  obtain ⟨z0, g0, _⟩ := DataW.trod_int Try.underlying3 t0
  simp only [List.cons.injEq, and_true] at g0
  subst g0
  obtain ⟨v1, m1, y1, e1, t1⟩ := hc 1 9 rfl
  obtain ⟨z1, g1, _⟩ := DataW.trod_string Try.underlying9 t1
  simp only [List.cons.injEq, and_true] at g1
  subst g1
  obtain ⟨v2, m2, y2, e2, t2⟩ := hc 2 3 rfl
  obtain ⟨z2, g2, _, w2⟩ := DataW.trod_int Try.underlying3 t2
  simp only [List.cons.injEq, and_true] at g2
  subst g2
  obtain ⟨v3, m3, y3, e3, t3⟩ := hc 3 3 rfl
  obtain ⟨z3, g3, _, w3⟩ := DataW.trod_int Try.underlying3 t3
  simp only [List.cons.injEq, and_true] at g3
  subst g3
  refine ⟨⟨z0, z1, z2, z3⟩, ?_, w2, w3⟩
  apply List.ext_getElem?
  intro i
  match i with
  | 0 => exact e0
  | 1 => exact e1
  | 2 => exact e2
  | 3 => exact e3
  | i + 4 =>
    rw [List.getElem?_eq_none (by omega), List.getElem?_eq_none (by show 4 ≤ i + 4; omega)]
theorem ops_of {H : Type} {enc : TypeId × Value → H} {w : World} {base : Nat} {spare : Nat → Bool} {held : Bool} : ∀ {rows : List (List Value)}, (∀ cs ∈ rows, Le.Cells enc Try.prog w base spare held leafs cs) → ∃ l : List Op4, l.length = rows.length ∧ rows.flatten = l.flatMap o4 ∧ ∀ o ∈ l, (Lit.int .i64 o.left).wf = true ∧ (Lit.int .i64 o.right).wf = true
  | [], _ => ⟨[], rfl, rfl, by simp⟩
  | cs :: rows, h => by
    obtain ⟨n, hn, hw⟩ := op_of (h cs (by simp))
    obtain ⟨l, h1, h2, h3⟩ := ops_of (rows := rows) (fun c hc => h c (by simp [hc]))
    refine ⟨n :: l, by simp [h1], by simp [hn, h2], ?_⟩
    intro o ho
    rcases List.mem_cons.1 ho with rfl | ho
    · exact hw
    · exact h3 o ho
end Go.Proofs.Ytmcekdjhkjhcdaa.Hy
