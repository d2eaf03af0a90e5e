import Derived.Test.YtmcekdjhkjhcdaaGreatDoorChk
import Derived.Test.YtmcekdjhkjhcdaaGreatDoorNp
/- Contracts of the documents' Check of a glue, and of Far, over a program without the rest of them. Conditions: those that each theorem names. -/
namespace Go.Proofs.YtmcekdjhkjhcdaaGreatDoor.Ck
open Go.ChangeShapes Go.WideShapes Go.ChangeAt Go.RowKit
open Gl
set_option linter.unusedVariables false
set_option linter.unusedSimpArgs false
theorem rdimen_any (x : Int) (w : World) : Calls Tryz.prog 100 #[.int .i64 x] w fun e w' => e = .returned (.bool (dimB x)) ∧ w = w' := by
  by_cases h0 : -1073741823 ≤ x
  · by_cases h1 : x ≤ 1073741823
    · go_enter Tryz.func100, Tryz.ntmps100
      go_wp2
      go_ret
      exact ⟨ret_bool (dimB_yes h0 h1).symm, rfl⟩
    · go_enter Tryz.func100, Tryz.ntmps100
      go_wp2
      go_ret
      exact ⟨ret_bool (dimB_no (by omega)).symm, rfl⟩
  · go_enter Tryz.func100, Tryz.ntmps100
    go_wp2
    go_ret
    exact ⟨ret_bool (dimB_no (by omega)).symm, rfl⟩
theorem rcheck_any (n s h a b : Int) (w : World) :
    Calls Tryz.prog 78 #[.agg #[.int .i64 n, .int .i64 s, .int .i64 h, .int .i64 a, .int .i64 b]] w fun e w' => e = .returned (.int .i64 (chk n s h a b)) ∧ w.alloc (.cells #[.int .i64 n, .int .i64 s, .int .i64 h, .int .i64 a, .int .i64 b] 34) = w' := by
  by_cases hn : -1073741823 ≤ n ∧ n ≤ 1073741823
  · have hn' : dimB n = true := dimB_yes hn.1 hn.2
    by_cases hs : -1073741823 ≤ s ∧ s ≤ 1073741823
    · have hs' : dimB s = true := dimB_yes hs.1 hs.2
      by_cases hh : -1073741823 ≤ h ∧ h ≤ 1073741823
      · have hh' : dimB h = true := dimB_yes hh.1 hh.2
        by_cases ha : a < 0
        · have HC := Lib.hid (show chk n s h a b = 30 from chk_no (decide_eq_false (by omega)))
          go_enter Tryz.func78, Tryz.ntmps78
          go_wp2_with (go_at_call 100; refine (rdimen_any _ _).mono ?_; rintro e w' ⟨rfl, rfl⟩)
          go_ret
          exact ⟨ret_int HC.out.symm, rfl⟩
        · skip
          by_cases hA : 3 < a
          · have HC := Lib.hid (show chk n s h a b = 30 from chk_no (decide_eq_false (by omega)))
            go_enter Tryz.func78, Tryz.ntmps78
            go_wp2_with (go_at_call 100; refine (rdimen_any _ _).mono ?_; rintro e w' ⟨rfl, rfl⟩)
            go_ret
            exact ⟨ret_int HC.out.symm, rfl⟩
          · skip
            by_cases hb : b < 0
            · have HC := Lib.hid (show chk n s h a b = 30 from chk_no (decide_eq_false (by omega)))
              go_enter Tryz.func78, Tryz.ntmps78
              go_wp2_with (go_at_call 100; refine (rdimen_any _ _).mono ?_; rintro e w' ⟨rfl, rfl⟩)
              go_ret
              exact ⟨ret_int HC.out.symm, rfl⟩
            · skip
              by_cases hB : 3 < b
              · have HC := Lib.hid (show chk n s h a b = 30 from chk_no (decide_eq_false (by omega)))
                go_enter Tryz.func78, Tryz.ntmps78
                go_wp2_with (go_at_call 100; refine (rdimen_any _ _).mono ?_; rintro e w' ⟨rfl, rfl⟩)
                go_ret
                exact ⟨ret_int HC.out.symm, rfl⟩
              · have HC := Lib.hid (show chk n s h a b = 0 from chk_yes (decide_eq_true (by omega)))
                go_enter Tryz.func78, Tryz.ntmps78
                go_wp2_with (go_at_call 100; refine (rdimen_any _ _).mono ?_; rintro e w' ⟨rfl, rfl⟩)
                go_ret
                exact ⟨ret_int HC.out.symm, rfl⟩
      · have hh' : dimB h = false := dimB_no hh
        have HC := Lib.hid (show chk n s h a b = 30 from chk_no (decide_eq_false (by omega)))
        go_enter Tryz.func78, Tryz.ntmps78
        go_wp2_with (go_at_call 100; refine (rdimen_any _ _).mono ?_; rintro e w' ⟨rfl, rfl⟩)
        go_ret
        exact ⟨ret_int HC.out.symm, rfl⟩
    · have hs' : dimB s = false := dimB_no hs
      have HC := Lib.hid (show chk n s h a b = 30 from chk_no (decide_eq_false (by omega)))
      go_enter Tryz.func78, Tryz.ntmps78
      go_wp2_with (go_at_call 100; refine (rdimen_any _ _).mono ?_; rintro e w' ⟨rfl, rfl⟩)
      go_ret
      exact ⟨ret_int HC.out.symm, rfl⟩
  · have hn' : dimB n = false := dimB_no hn
    have HC := Lib.hid (show chk n s h a b = 30 from chk_no (decide_eq_false (by omega)))
    go_enter Tryz.func78, Tryz.ntmps78
    go_wp2_with (go_at_call 100; refine (rdimen_any _ _).mono ?_; rintro e w' ⟨rfl, rfl⟩)
    go_ret
    exact ⟨ret_int HC.out.symm, rfl⟩
theorem refFar (x : Int) (w : World) : Calls Tryz.prog 80 #[.int .i64 x] w fun e w' => e = .returned (.bool (!Np.winB x (-2147483647) 2147483647)) ∧ w = w' := by
  by_cases h0 : x < -2147483647
  · go_enter Tryz.func80, Tryz.ntmps80
    go_wp2
    go_ret
    exact ⟨ret_bool (by simp [Np.winB]; omega), rfl⟩
  · by_cases h1 : 2147483647 < x
    · go_enter Tryz.func80, Tryz.ntmps80
      go_wp2
      go_ret
      exact ⟨ret_bool (by simp [Np.winB]; omega), rfl⟩
    · go_enter Tryz.func80, Tryz.ntmps80
      go_wp2
      go_ret
      exact ⟨ret_bool (by simp [Np.winB]; omega), rfl⟩
end Go.Proofs.YtmcekdjhkjhcdaaGreatDoor.Ck
