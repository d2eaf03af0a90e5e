import Derived.Test.YtoboecenlangmaaNy
import Derived.Test.YtoboecenlangmaaNx
import Derived.Test.YtoboecenlangmaaNz
import Derived.Test.YtoboecenlangmaaFitD
/- The layer pack, in plain Lean: what stays in a row and what leaves it; how a box is set. No function of the program. Conditions: those that each theorem names. -/
namespace Go.Proofs.Ytoboecenlangmaa.Pk
open Np
set_option linter.unusedVariables false

/-- What stands within an item that opens. -/
def inn (ns : List Nd) (a m : Nat) : List Nd := (ns.drop (a + 1)).take (m - 2)
/-- An item stays, or leaves. -/
def pstep (ns : List Nd) (s : List Nd × List Nd) (a : Nat) : List Nd × List Nd := match ns[a]?, endc (ns.drop a) 0 with
  | some x, some m => if x.kind = 13 ∨ x.kind = 12 then (s.1, s.2 ++ (ns.drop a).take m) else if x.kind = 17 then (s.1, s.2 ++ inn ns a m) else (s.1 ++ (ns.drop a).take m, s.2)
  | _, _ => s
theorem pstep_out {ns : List Nd} {s : List Nd × List Nd} {a m : Nat} {x : Nd} (hx : ns[a]? = some x) (hm : endc (ns.drop a) 0 = some m) (hk : x.kind = 13 ∨ x.kind = 12) : pstep ns s a = (s.1, s.2 ++ (ns.drop a).take m) := by
  unfold pstep; rw [hx, hm]; simp only; rw [if_pos hk]
theorem pstep_in {ns : List Nd} {s : List Nd × List Nd} {a m : Nat} {x : Nd} (hx : ns[a]? = some x) (hm : endc (ns.drop a) 0 = some m) (hk : x.kind = 17) : pstep ns s a = (s.1, s.2 ++ inn ns a m) := by
  unfold pstep; rw [hx, hm]; simp only; rw [if_neg (by omega), if_pos hk]
theorem pstep_stay {ns : List Nd} {s : List Nd × List Nd} {a m : Nat} {x : Nd} (hx : ns[a]? = some x) (hm : endc (ns.drop a) 0 = some m) (h1 : ¬ x.kind = 13) (h2 : ¬ x.kind = 12) (h3 : ¬ x.kind = 17) : pstep ns s a = (s.1 ++ (ns.drop a).take m, s.2) := by
  unfold pstep; rw [hx, hm]; simp only; rw [if_neg (by omega), if_neg h3]
def partF (ns : List Nd) (xs : List Nat) (s : List Nd × List Nd) : List Nd × List Nd := xs.foldl (pstep ns) s
theorem partF_cons (ns : List Nd) (a : Nat) (xs : List Nat) (s : List Nd × List Nd) : partF ns (a :: xs) s = partF ns xs (pstep ns s a) := rfl
/-- Where a list's items begin. -/
noncomputable def itsD (ns : List Nd) : List Nat := Classical.epsilon (fun xs => Its xs ns 0)
theorem itsD_of {ns : List Nd} {xs : List Nat} (h : Its xs ns 0) : itsD ns = xs := Its.unique (Classical.epsilon_spec (p := fun xs => Its xs ns 0) ⟨xs, h⟩) h
theorem itsD_is {ns : List Nd} (h : chk ns = 0) : Its (itsD ns) ns 0 := by
  obtain ⟨xs, hx⟩ := its_of_chk h
  rw [itsD_of hx]; exact hx
noncomputable def partD (ns : List Nd) : List Nd × List Nd := partF ns (itsD ns) ([], [])
/-- A number within what the badness takes, not below 0. -/
def held (x : Int) : Int := if x < 0 then 0 else if 2147483647 < x then 2147483647 else x
theorem held_bd (x : Int) : 0 ≤ held x ∧ held x ≤ 2147483647 := by
  unfold held
  split
  · omega
  · split <;> omega
def fitT (T : Tot) (ex : Int) : Int × Int × Int × Int := Gl.fit (T.st.getD 0 0) (T.st.getD 1 0) (T.st.getD 2 0) (T.st.getD 3 0) (T.sh.getD 0 0) (T.sh.getD 1 0) (T.sh.getD 2 0) (T.sh.getD 3 0) ex
end Go.Proofs.Ytoboecenlangmaa.Pk
