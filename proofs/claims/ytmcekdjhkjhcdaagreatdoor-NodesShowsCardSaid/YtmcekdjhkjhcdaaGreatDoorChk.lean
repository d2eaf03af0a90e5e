import Derived.Test.YtmcekdjhkjhcdaaGreatDoorRows
import Derived.Test.YtmcekdjhkjhcdaaGreatDoorGlueD
import Derived.WalkKit
import Derived.ProofKit
import Derived.OpenShut
import Derived.WalkSpells
import Derived.WalkLawsBesides
import Derived.Handy
import Derived.Outline
import Derived.Lib.Hide
import Derived.Deep.DeepCutAuto
/- Contracts of glue.Check and its kin, for a program without the rest of glue. Conditions: those that each theorem names. -/
namespace Go.Proofs.YtmcekdjhkjhcdaaGreatDoor.Ck
open Go.ChangeShapes Go.WideShapes Go.ChangeAt Go.RowKit
open Gl

theorem ret_bool {a b : Bool} (h : a = b) : Ending.returned (.bool a) = .returned (.bool b) := by rw [h]
theorem ret_int {k : IntKind} {a b : Int} (h : a = b) : Ending.returned (.int k a) = .returned (.int k b) := by rw [h]

theorem dimen_any (x : Int) (w : World) :
    Calls Tryz.prog 90 #[.int .i64 x] w fun e w' => e = .returned (.bool (dimB x)) ∧ w = w' := by
  by_cases h0 : -1073741823 ≤ x
  · by_cases h1 : x ≤ 1073741823
    · go_enter Tryz.func90, Tryz.ntmps90
      go_wp2
      go_ret
      exact ⟨ret_bool (dimB_yes h0 h1).symm, rfl⟩
    · go_enter Tryz.func90, Tryz.ntmps90
      go_wp2
      go_ret
      exact ⟨ret_bool (dimB_no (by omega)).symm, rfl⟩
  · go_enter Tryz.func90, Tryz.ntmps90
    go_wp2
    go_ret
    exact ⟨ret_bool (dimB_no (by omega)).symm, rfl⟩

theorem check_any (n s h a b : Int) (w : World) :
    Calls Tryz.prog 54 #[.agg #[.int .i64 n, .int .i64 s, .int .i64 h, .int .i64 a, .int .i64 b]] w fun e w' =>
      e = .returned (.int .i64 (chk n s h a b)) ∧ w.alloc (.cells #[.int .i64 n, .int .i64 s, .int .i64 h, .int .i64 a, .int .i64 b] 34) = w' := by
  have i0 : ∀ w : World, (Instr.index 97 (.agg #[.int .i64 n, .int .i64 s, .int .i64 h]) (.int .i64 0)).run Tryz.prog w = .ok (.int .i64 n) w := fun _ => by kernel_rfl
  have i1 : ∀ w : World, (Instr.index 97 (.agg #[.int .i64 n, .int .i64 s, .int .i64 h]) (.int .i64 1)).run Tryz.prog w = .ok (.int .i64 s) w := fun _ => by kernel_rfl
  have i2 : ∀ w : World, (Instr.index 97 (.agg #[.int .i64 n, .int .i64 s, .int .i64 h]) (.int .i64 2)).run Tryz.prog w = .ok (.int .i64 h) w := fun _ => by kernel_rfl
  have j0 : ∀ w : World, (Instr.index 98 (.agg #[.int .i64 a, .int .i64 b]) (.int .i64 0)).run Tryz.prog w = .ok (.int .i64 a) w := fun _ => by kernel_rfl
  have j1 : ∀ w : World, (Instr.index 98 (.agg #[.int .i64 a, .int .i64 b]) (.int .i64 1)).run Tryz.prog w = .ok (.int .i64 b) w := fun _ => by kernel_rfl
  cases g : glueB n s h a b
  · have hno := chk_no g
    have hnot : ¬ ((-1073741823 ≤ n ∧ n ≤ 1073741823) ∧ (-1073741823 ≤ s ∧ s ≤ 1073741823) ∧ (-1073741823 ≤ h ∧ h ≤ 1073741823) ∧ (0 ≤ a ∧ a ≤ 3) ∧ (0 ≤ b ∧ b ≤ 3)) := by
      rw [← glueB_iff, g]; simp
    have HN := Lib.hid hno
    have HX := Lib.hid hnot
    clear g hno hnot
    go_enter Tryz.func54, Tryz.ntmps54
    go_wp2_with fail
    refine wp_loop_rounds 4 ?_
    repeat any_goals (rw [rounds_succ]; go_wp2_with (go_at_call 90; refine (dimen_any _ _).mono ?_; rintro e w' ⟨rfl, rfl⟩))
    all_goals try (go_ret; exact ⟨ret_int HN.out.symm, rfl⟩)
    go_rounds 3
    all_goals first | (go_ret; exact ⟨ret_int HN.out.symm, rfl⟩) | (exfalso; have e1 : (!dimB n) = false := (by assumption); have e2 : (!dimB s) = false := (by assumption); have e3 : (!dimB h) = false := (by assumption); rw [Bool.not_eq_false', dimB_iff] at e1 e2 e3; exact HX.out (by omega))
  · obtain ⟨⟨n0, n1⟩, ⟨s0, s1⟩, ⟨h0, h1⟩, ⟨a0, a1⟩, b0, b1⟩ := glueB_iff.1 g
    have hyes := chk_yes g
    have HY := Lib.hid hyes
    clear g hyes
    go_enter Tryz.func54, Tryz.ntmps54
    go_wp2_with fail
    go_rounds 4
    go_rounds 3
    go_ret
    exact ⟨ret_int HY.out.symm, rfl⟩
end Go.Proofs.YtmcekdjhkjhcdaaGreatDoor.Ck
