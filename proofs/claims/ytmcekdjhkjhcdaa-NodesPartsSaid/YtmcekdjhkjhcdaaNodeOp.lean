import Derived.Test.YtmcekdjhkjhcdaaNodeE
import Derived.Test.YtmcekdjhkjhcdaaLeaf
/- A slice of nodes that comes in: its cells are nodes (printed by gen_lnodes.py). Conditions: those that each theorem names. -/
namespace Go.Proofs.Ytmcekdjhkjhcdaa.No
open Go.ChangeShapes Go.WideShapes Go.ChangeAt Go.RowKit
open Me Np
set_option linter.unusedVariables false

def leafs : List TypeId := [3, 3, 5, 3, 3, 3, 3, 3, 3, 3, 3, 3, 3, 3, 3, 3, 3, 3, 9]
theorem node_of {H : Type} {enc : TypeId × Value → H} {w : World} {base : Nat} {spare : Nat → Bool} {held : Bool} {cs : List Value} (h : Le.Cells enc Try.prog w base spare held leafs cs) : ∃ n : Nd, cs = ncs n := by
  obtain ⟨hl, hc⟩ := h
  have hl : cs.length = 19 := hl
  obtain ⟨v0, m0, y0, e0, t0⟩ := hc 0 3 rfl
  obtain ⟨z0, g0, _⟩ := DataW.trod_int Try.underlying3 t0
  simp only [List.cons.injEq, and_true] at g0
  subst g0
  obtain ⟨v1, m1, y1, e1, t1⟩ := hc 1 3 rfl
  obtain ⟨z1, g1, _⟩ := DataW.trod_int Try.underlying3 t1
  simp only [List.cons.injEq, and_true] at g1
  subst g1
  obtain ⟨v2, m2, y2, e2, t2⟩ := hc 2 5 rfl
  obtain ⟨z2, g2, _⟩ := DataW.trod_int Try.underlying5 t2
  simp only [List.cons.injEq, and_true] at g2
  subst g2
  obtain ⟨v3, m3, y3, e3, t3⟩ := hc 3 3 rfl
  obtain ⟨z3, g3, _⟩ := DataW.trod_int Try.underlying3 t3
  simp only [List.cons.injEq, and_true] at g3
  subst g3
  obtain ⟨v4, m4, y4, e4, t4⟩ := hc 4 3 rfl
  obtain ⟨z4, g4, _⟩ := DataW.trod_int Try.underlying3 t4
  simp only [List.cons.injEq, and_true] at g4
  subst g4
  obtain ⟨v5, m5, y5, e5, t5⟩ := hc 5 3 rfl
  obtain ⟨z5, g5, _⟩ := DataW.trod_int Try.underlying3 t5
  simp only [List.cons.injEq, and_true] at g5
  subst g5
  obtain ⟨v6, m6, y6, e6, t6⟩ := hc 6 3 rfl
  obtain ⟨z6, g6, _⟩ := DataW.trod_int Try.underlying3 t6
  simp only [List.cons.injEq, and_true] at g6
  subst g6
  obtain ⟨v7, m7, y7, e7, t7⟩ := hc 7 3 rfl
  obtain ⟨z7, g7, _⟩ := DataW.trod_int Try.underlying3 t7
  simp only [List.cons.injEq, and_true] at g7
  subst g7
  obtain ⟨v8, m8, y8, e8, t8⟩ := hc 8 3 rfl
  obtain ⟨z8, g8, _⟩ := DataW.trod_int Try.underlying3 t8
  simp only [List.cons.injEq, and_true] at g8
  subst g8
  obtain ⟨v9, m9, y9, e9, t9⟩ := hc 9 3 rfl
  obtain ⟨z9, g9, _⟩ := DataW.trod_int Try.underlying3 t9
  simp only [List.cons.injEq, and_true] at g9
  subst g9
  obtain ⟨v10, m10, y10, e10, t10⟩ := hc 10 3 rfl
  obtain ⟨z10, g10, _⟩ := DataW.trod_int Try.underlying3 t10
  simp only [List.cons.injEq, and_true] at g10
  subst g10
  obtain ⟨v11, m11, y11, e11, t11⟩ := hc 11 3 rfl
  obtain ⟨z11, g11, _⟩ := DataW.trod_int Try.underlying3 t11
  simp only [List.cons.injEq, and_true] at g11
  subst g11
  obtain ⟨v12, m12, y12, e12, t12⟩ := hc 12 3 rfl
  obtain ⟨z12, g12, _⟩ := DataW.trod_int Try.underlying3 t12
  simp only [List.cons.injEq, and_true] at g12
  subst g12
  obtain ⟨v13, m13, y13, e13, t13⟩ := hc 13 3 rfl
  obtain ⟨z13, g13, _⟩ := DataW.trod_int Try.underlying3 t13
  simp only [List.cons.injEq, and_true] at g13
  subst g13
  obtain ⟨v14, m14, y14, e14, t14⟩ := hc 14 3 rfl
  obtain ⟨z14, g14, _⟩ := DataW.trod_int Try.underlying3 t14
  simp only [List.cons.injEq, and_true] at g14
  subst g14
  obtain ⟨v15, m15, y15, e15, t15⟩ := hc 15 3 rfl
  obtain ⟨z15, g15, _⟩ := DataW.trod_int Try.underlying3 t15
  simp only [List.cons.injEq, and_true] at g15
  subst g15
  obtain ⟨v16, m16, y16, e16, t16⟩ := hc 16 3 rfl
  obtain ⟨z16, g16, _⟩ := DataW.trod_int Try.underlying3 t16
  simp only [List.cons.injEq, and_true] at g16
  subst g16
  obtain ⟨v17, m17, y17, e17, t17⟩ := hc 17 3 rfl
  obtain ⟨z17, g17, _⟩ := DataW.trod_int Try.underlying3 t17
  simp only [List.cons.injEq, and_true] at g17
  subst g17
  obtain ⟨v18, m18, y18, e18, t18⟩ := hc 18 9 rfl
  obtain ⟨z18, g18, _⟩ := DataW.trod_string Try.underlying9 t18
  simp only [List.cons.injEq, and_true] at g18
  subst g18
  refine ⟨⟨z0, z1, z2, z3, z4, z5, z6, z7, z8, z9, z10, z11, z12, z13, z14, z15, z16, z17, z18⟩, ?_⟩
  apply List.ext_getElem?
  intro i
  match i with
  | 0 => exact e0
  | 1 => exact e1
  | 2 => exact e2
  | 3 => exact e3
  | 4 => exact e4
  | 5 => exact e5
  | 6 => exact e6
  | 7 => exact e7
  | 8 => exact e8
  | 9 => exact e9
  | 10 => exact e10
  | 11 => exact e11
  | 12 => exact e12
  | 13 => exact e13
  | 14 => exact e14
  | 15 => exact e15
  | 16 => exact e16
  | 17 => exact e17
  | 18 => exact e18
  | i + 19 =>
    rw [List.getElem?_eq_none (by omega), List.getElem?_eq_none (by rw [ncs_length]; omega)]
theorem nodes_of {H : Type} {enc : TypeId × Value → H} {w : World} {base : Nat} {spare : Nat → Bool} {held : Bool} : ∀ {rows : List (List Value)}, (∀ cs ∈ rows, Le.Cells enc Try.prog w base spare held leafs cs) → ∃ l : List Nd, l.length = rows.length ∧ rows.flatten = l.flatMap ncs
  | [], _ => ⟨[], rfl, rfl⟩
  | cs :: rows, h => by
    obtain ⟨n, hn⟩ := node_of (h cs (by simp))
    obtain ⟨l, h1, h2⟩ := nodes_of (rows := rows) (fun c hc => h c (by simp [hc]))
    exact ⟨n :: l, by simp [h1], by simp [hn, h2]⟩
theorem bytes_node : Try.prog.bytesOf 31 = 160 := by kernel_rfl
end Go.Proofs.Ytmcekdjhkjhcdaa.No
