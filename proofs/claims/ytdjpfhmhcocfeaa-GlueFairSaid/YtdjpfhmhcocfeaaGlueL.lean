import Derived.Test.YtdjpfhmhcocfeaaGlueJ
import Derived.Test.YtdjpfhmhcocfeaaGlueK
import Derived.StillTailTactics
/- GlueFair's own helpers, and its walk. Conditions: those that each theorem names. -/
namespace Go.Proofs.Ytdjpfhmhcocfeaa.Gl
open Go.ChangeShapes Go.WideShapes Go.ChangeAt Go.RowKit
open Me

def smB (s : Int) : Bool := decide (s < 1073741824 ∧ -1073741824 < s)
def smallB (N D : Int) : Bool := smB N && decide (D < 1073741824)

theorem small2_any (s : Int) (w : World) :
    Calls Try.prog 15 #[.int .i64 s] w fun e w' => e = .returned (.bool (smB s)) ∧ w = w' := by
  by_cases h0 : s < 1073741824
  · by_cases h1 : -1073741824 < s
    · go_enter Try.func15, Try.ntmps15
      go_wp2
      go_ret
      exact ⟨ret_bool (decide_eq_true ⟨h0, h1⟩).symm, rfl⟩
    · go_enter Try.func15, Try.ntmps15
      go_wp2
      go_ret
      exact ⟨ret_bool (decide_eq_false (by omega)).symm, rfl⟩
  · go_enter Try.func15, Try.ntmps15
    go_wp2
    go_ret
    exact ⟨ret_bool (decide_eq_false (by omega)).symm, rfl⟩

theorem small_any (sg od N D : Int) (w : World) :
    Calls Try.prog 14 #[.agg #[.int .i64 sg, .int .i64 od, .int .i64 N, .int .i64 D]] w fun e w' =>
      e = .returned (.bool (smallB N D)) ∧ w.alloc (.cells #[.int .i64 sg, .int .i64 od, .int .i64 N, .int .i64 D] 32) = w' := by
  by_cases h0 : N < 1073741824
  · by_cases h1 : -1073741824 < N
    · by_cases h2 : D < 1073741824
      · go_enter Try.func14, Try.ntmps14
        go_wp2
        go_ret
        exact ⟨ret_bool (by simp [smallB, smB, h0, h1, h2]), rfl⟩
      · go_enter Try.func14, Try.ntmps14
        go_wp2
        go_ret
        exact ⟨ret_bool (by rw [smallB, decide_eq_false (by omega : ¬ D < 1073741824), Bool.and_false]), rfl⟩
    · have hs : smB N = false := decide_eq_false (by omega)
      go_enter Try.func14, Try.ntmps14
      go_wp2
      go_ret
      exact ⟨ret_bool (by rw [smallB, hs, Bool.false_and]), rfl⟩
  · have hs : smB N = false := decide_eq_false (by omega)
    go_enter Try.func14, Try.ntmps14
    go_wp2
    go_ret
    exact ⟨ret_bool (by rw [smallB, hs, Bool.false_and]), rfl⟩
end Go.Proofs.Ytdjpfhmhcocfeaa.Gl
