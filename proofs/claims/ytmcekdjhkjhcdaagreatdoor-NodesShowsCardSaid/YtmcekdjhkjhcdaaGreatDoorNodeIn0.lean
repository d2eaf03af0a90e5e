import Derived.Test.YtmcekdjhkjhcdaaGreatDoorNodeBb
/- What a call makes; what stands within an item. Conditions: those that each theorem names. -/
namespace Go.Proofs.YtmcekdjhkjhcdaaGreatDoor.No
open Go.ChangeShapes Go.WideShapes Go.ChangeAt Go.RowKit
open Me Np
set_option linter.unusedVariables false
set_option linter.unusedSimpArgs false

/-- A slice of the call's own with these nodes. -/
def MadeN (w : World) (l : List Nd) (e : Ending) (w' : World) : Prop := ∃ v, e = .returned v ∧ w'.ownsRow w.heap.size 36 19 v l.length (l.flatMap ncs) ∧ Below w.heap.size w w'
/-- The same, with an error beside it. -/
def MadeNE (w : World) (l : List Nd) (e : Ending) (w' : World) : Prop := ∃ v, e = .returned (.tuple #[v, .int .i64 0]) ∧ w'.ownsRow w.heap.size 36 19 v l.length (l.flatMap ncs) ∧ Below w.heap.size w w'
theorem own_base {w : World} {base base' : Nat} {e : TypeId} {size n : Nat} {v : Value} {xs : List Value} (h : w.ownsRow base e size v n xs) (hb : base' ≤ base) : w.ownsRow base' e size v n xs := by
  refine ⟨h.1, ?_⟩
  rcases h.2 with h1 | ⟨g, cap, cur, rfl, h1, h2⟩
  · exact .inl h1
  · exact .inr ⟨g, cap, cur, rfl, Nat.le_trans hb h1, h2⟩
/-- What stands within an item that opens. -/
def innerL (ns : List Nd) (a m : Nat) : List Nd := (ns.drop (a + 1)).take (m - 2)
theorem endc_two {ns : List Nd} {a m : Nat} {x : Nd} (hx : ns[a]? = some x) (ho : opensB x = true) (hm : endc (ns.drop a) 0 = some m) : 2 ≤ m := by
  obtain ⟨y, hy, hd⟩ := get_drop (List.getElem?_eq_some_iff.1 hx).1
  rw [hx] at hy
  injection hy with hy
  subst hy
  rw [hd] at hm
  rcases endc_cons hm with ⟨h, _⟩ | ⟨_, h, _⟩
  · simp [cnt, ho] at h
  · exact h
end Go.Proofs.YtmcekdjhkjhcdaaGreatDoor.No
