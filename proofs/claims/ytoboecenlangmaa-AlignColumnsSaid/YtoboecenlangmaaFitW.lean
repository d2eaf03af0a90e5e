import Derived.Test.YtoboecenlangmaaGlueA0
import Derived.Test.YtoboecenlangmaaFitD
import Derived.Test.YtoboecenlangmaaMem
import Derived.RegionTactic
import Derived.BigRegion
import Derived.ChangeAlike
/- Contract of glue.Fit, a theorem for each way through its tests (printed by gen_fit.py). Conditions: those that each theorem names. -/
namespace Go.Proofs.Ytoboecenlangmaa.Gl
open Go.ChangeShapes Go.WideShapes Go.ChangeAt Go.RowKit
open Me
set_option linter.unusedVariables false

theorem great_any (a b c d : Int) (w : World) :
    Calls Try.prog 117 #[.agg #[.int .i64 a, .int .i64 b, .int .i64 c, .int .i64 d]] w fun e w' =>
      e = .returned (.int .i64 (great a b c d)) ∧ w.alloc (.cells #[.int .i64 a, .int .i64 b, .int .i64 c, .int .i64 d] 67) = w' := by
  rcases great_cases a b c d with ⟨e, h⟩ | ⟨e, h⟩ | ⟨e, h⟩ | ⟨e, h⟩ | ⟨e, h⟩
  all_goals
    rw [e]
    go_enter Try.func117, Try.ntmps117
    go_wp2_with fail
    go_rounds 5
    go_ret
    exact ⟨rfl, rfl⟩

theorem fit_bad0 (n a b c d p q r s ex : Int) (w : World) (e0 : nearB ex = false) : Calls Try.prog 74 #[.agg #[.int .i64 n, .int .i64 a, .int .i64 b, .int .i64 c, .int .i64 d, .int .i64 p, .int .i64 q, .int .i64 r, .int .i64 s], .int .i64 ex] w fun e w' => e = .returned (.tuple #[.int .i64 0, .int .i64 0, .int .i64 0, .int .i64 0, .int .i64 11]) ∧ Below w.heap.size w w' := by
  go_enter Try.func74, Try.ntmps74
  go_wp2_with (go_at_call 81; refine (near_any _ _).mono ?_; rintro e w' ⟨rfl, rfl⟩)
  refine bodyPost_ret (v := .tuple #[.int .i64 (0), .int .i64 (0), .int .i64 (0), .int .i64 (0), .int .i64 (11)]) (by simp [results, Try.results74, go_sem]) rfl ⟨rfl, (by repeat (first | exact Below.refl _ _ | refine Below.drew ?_ | refine below_drewN ?_ _ | refine Below.alloc ?_ (by first | exact Nat.le_refl _ | (simp; done) | (simp; omega)) _ | refine Below.setCell ?_ (by first | exact Nat.le_refl _ | (simp; done) | (simp; omega)) _))⟩

theorem fit_bad1 (n a b c d p q r s ex : Int) (w : World) (e0 : nearB ex = true) (e1 : nearB a = false) : Calls Try.prog 74 #[.agg #[.int .i64 n, .int .i64 a, .int .i64 b, .int .i64 c, .int .i64 d, .int .i64 p, .int .i64 q, .int .i64 r, .int .i64 s], .int .i64 ex] w fun e w' => e = .returned (.tuple #[.int .i64 0, .int .i64 0, .int .i64 0, .int .i64 0, .int .i64 11]) ∧ Below w.heap.size w w' := by
  go_enter Try.func74, Try.ntmps74
  go_wp2_with (go_at_call 81; refine (near_any _ _).mono ?_; rintro e w' ⟨rfl, rfl⟩)
  refine wp_loop_rounds 5 ?_
  repeat any_goals (rw [rounds_succ]; go_wp2_with (go_at_call 81; refine (near_any _ _).mono ?_; rintro e w' ⟨rfl, rfl⟩))
  refine bodyPost_ret (v := .tuple #[.int .i64 (0), .int .i64 (0), .int .i64 (0), .int .i64 (0), .int .i64 (11)]) (by simp [results, Try.results74, go_sem]) rfl ⟨rfl, (by repeat (first | exact Below.refl _ _ | refine Below.drew ?_ | refine below_drewN ?_ _ | refine Below.alloc ?_ (by first | exact Nat.le_refl _ | (simp; done) | (simp; omega)) _ | refine Below.setCell ?_ (by first | exact Nat.le_refl _ | (simp; done) | (simp; omega)) _))⟩

theorem fit_bad2 (n a b c d p q r s ex : Int) (w : World) (e0 : nearB ex = true) (e1 : nearB a = true) (e2 : nearB p = false) : Calls Try.prog 74 #[.agg #[.int .i64 n, .int .i64 a, .int .i64 b, .int .i64 c, .int .i64 d, .int .i64 p, .int .i64 q, .int .i64 r, .int .i64 s], .int .i64 ex] w fun e w' => e = .returned (.tuple #[.int .i64 0, .int .i64 0, .int .i64 0, .int .i64 0, .int .i64 11]) ∧ Below w.heap.size w w' := by
  go_enter Try.func74, Try.ntmps74
  go_wp2_with (go_at_call 81; refine (near_any _ _).mono ?_; rintro e w' ⟨rfl, rfl⟩)
  refine wp_loop_rounds 5 ?_
  repeat any_goals (rw [rounds_succ]; go_wp2_with (go_at_call 81; refine (near_any _ _).mono ?_; rintro e w' ⟨rfl, rfl⟩))
  refine bodyPost_ret (v := .tuple #[.int .i64 (0), .int .i64 (0), .int .i64 (0), .int .i64 (0), .int .i64 (11)]) (by simp [results, Try.results74, go_sem]) rfl ⟨rfl, (by repeat (first | exact Below.refl _ _ | refine Below.drew ?_ | refine below_drewN ?_ _ | refine Below.alloc ?_ (by first | exact Nat.le_refl _ | (simp; done) | (simp; omega)) _ | refine Below.setCell ?_ (by first | exact Nat.le_refl _ | (simp; done) | (simp; omega)) _))⟩

theorem fit_bad3 (n a b c d p q r s ex : Int) (w : World) (e0 : nearB ex = true) (e1 : nearB a = true) (e2 : nearB p = true) (e3 : nearB b = false) : Calls Try.prog 74 #[.agg #[.int .i64 n, .int .i64 a, .int .i64 b, .int .i64 c, .int .i64 d, .int .i64 p, .int .i64 q, .int .i64 r, .int .i64 s], .int .i64 ex] w fun e w' => e = .returned (.tuple #[.int .i64 0, .int .i64 0, .int .i64 0, .int .i64 0, .int .i64 11]) ∧ Below w.heap.size w w' := by
  go_enter Try.func74, Try.ntmps74
  go_wp2_with (go_at_call 81; refine (near_any _ _).mono ?_; rintro e w' ⟨rfl, rfl⟩)
  refine wp_loop_rounds 5 ?_
  repeat any_goals (rw [rounds_succ]; go_wp2_with (go_at_call 81; refine (near_any _ _).mono ?_; rintro e w' ⟨rfl, rfl⟩))
  refine bodyPost_ret (v := .tuple #[.int .i64 (0), .int .i64 (0), .int .i64 (0), .int .i64 (0), .int .i64 (11)]) (by simp [results, Try.results74, go_sem]) rfl ⟨rfl, (by repeat (first | exact Below.refl _ _ | refine Below.drew ?_ | refine below_drewN ?_ _ | refine Below.alloc ?_ (by first | exact Nat.le_refl _ | (simp; done) | (simp; omega)) _ | refine Below.setCell ?_ (by first | exact Nat.le_refl _ | (simp; done) | (simp; omega)) _))⟩

theorem fit_bad4 (n a b c d p q r s ex : Int) (w : World) (e0 : nearB ex = true) (e1 : nearB a = true) (e2 : nearB p = true) (e3 : nearB b = true) (e4 : nearB q = false) : Calls Try.prog 74 #[.agg #[.int .i64 n, .int .i64 a, .int .i64 b, .int .i64 c, .int .i64 d, .int .i64 p, .int .i64 q, .int .i64 r, .int .i64 s], .int .i64 ex] w fun e w' => e = .returned (.tuple #[.int .i64 0, .int .i64 0, .int .i64 0, .int .i64 0, .int .i64 11]) ∧ Below w.heap.size w w' := by
  go_enter Try.func74, Try.ntmps74
  go_wp2_with (go_at_call 81; refine (near_any _ _).mono ?_; rintro e w' ⟨rfl, rfl⟩)
  refine wp_loop_rounds 5 ?_
  repeat any_goals (rw [rounds_succ]; go_wp2_with (go_at_call 81; refine (near_any _ _).mono ?_; rintro e w' ⟨rfl, rfl⟩))
  refine bodyPost_ret (v := .tuple #[.int .i64 (0), .int .i64 (0), .int .i64 (0), .int .i64 (0), .int .i64 (11)]) (by simp [results, Try.results74, go_sem]) rfl ⟨rfl, (by repeat (first | exact Below.refl _ _ | refine Below.drew ?_ | refine below_drewN ?_ _ | refine Below.alloc ?_ (by first | exact Nat.le_refl _ | (simp; done) | (simp; omega)) _ | refine Below.setCell ?_ (by first | exact Nat.le_refl _ | (simp; done) | (simp; omega)) _))⟩

theorem fit_bad5 (n a b c d p q r s ex : Int) (w : World) (e0 : nearB ex = true) (e1 : nearB a = true) (e2 : nearB p = true) (e3 : nearB b = true) (e4 : nearB q = true) (e5 : nearB c = false) : Calls Try.prog 74 #[.agg #[.int .i64 n, .int .i64 a, .int .i64 b, .int .i64 c, .int .i64 d, .int .i64 p, .int .i64 q, .int .i64 r, .int .i64 s], .int .i64 ex] w fun e w' => e = .returned (.tuple #[.int .i64 0, .int .i64 0, .int .i64 0, .int .i64 0, .int .i64 11]) ∧ Below w.heap.size w w' := by
  go_enter Try.func74, Try.ntmps74
  go_wp2_with (go_at_call 81; refine (near_any _ _).mono ?_; rintro e w' ⟨rfl, rfl⟩)
  refine wp_loop_rounds 5 ?_
  repeat any_goals (rw [rounds_succ]; go_wp2_with (go_at_call 81; refine (near_any _ _).mono ?_; rintro e w' ⟨rfl, rfl⟩))
  refine bodyPost_ret (v := .tuple #[.int .i64 (0), .int .i64 (0), .int .i64 (0), .int .i64 (0), .int .i64 (11)]) (by simp [results, Try.results74, go_sem]) rfl ⟨rfl, (by repeat (first | exact Below.refl _ _ | refine Below.drew ?_ | refine below_drewN ?_ _ | refine Below.alloc ?_ (by first | exact Nat.le_refl _ | (simp; done) | (simp; omega)) _ | refine Below.setCell ?_ (by first | exact Nat.le_refl _ | (simp; done) | (simp; omega)) _))⟩

theorem fit_bad6 (n a b c d p q r s ex : Int) (w : World) (e0 : nearB ex = true) (e1 : nearB a = true) (e2 : nearB p = true) (e3 : nearB b = true) (e4 : nearB q = true) (e5 : nearB c = true) (e6 : nearB r = false) : Calls Try.prog 74 #[.agg #[.int .i64 n, .int .i64 a, .int .i64 b, .int .i64 c, .int .i64 d, .int .i64 p, .int .i64 q, .int .i64 r, .int .i64 s], .int .i64 ex] w fun e w' => e = .returned (.tuple #[.int .i64 0, .int .i64 0, .int .i64 0, .int .i64 0, .int .i64 11]) ∧ Below w.heap.size w w' := by
  go_enter Try.func74, Try.ntmps74
  go_wp2_with (go_at_call 81; refine (near_any _ _).mono ?_; rintro e w' ⟨rfl, rfl⟩)
  refine wp_loop_rounds 5 ?_
  repeat any_goals (rw [rounds_succ]; go_wp2_with (go_at_call 81; refine (near_any _ _).mono ?_; rintro e w' ⟨rfl, rfl⟩))
  refine bodyPost_ret (v := .tuple #[.int .i64 (0), .int .i64 (0), .int .i64 (0), .int .i64 (0), .int .i64 (11)]) (by simp [results, Try.results74, go_sem]) rfl ⟨rfl, (by repeat (first | exact Below.refl _ _ | refine Below.drew ?_ | refine below_drewN ?_ _ | refine Below.alloc ?_ (by first | exact Nat.le_refl _ | (simp; done) | (simp; omega)) _ | refine Below.setCell ?_ (by first | exact Nat.le_refl _ | (simp; done) | (simp; omega)) _))⟩

theorem fit_bad7 (n a b c d p q r s ex : Int) (w : World) (e0 : nearB ex = true) (e1 : nearB a = true) (e2 : nearB p = true) (e3 : nearB b = true) (e4 : nearB q = true) (e5 : nearB c = true) (e6 : nearB r = true) (e7 : nearB d = false) : Calls Try.prog 74 #[.agg #[.int .i64 n, .int .i64 a, .int .i64 b, .int .i64 c, .int .i64 d, .int .i64 p, .int .i64 q, .int .i64 r, .int .i64 s], .int .i64 ex] w fun e w' => e = .returned (.tuple #[.int .i64 0, .int .i64 0, .int .i64 0, .int .i64 0, .int .i64 11]) ∧ Below w.heap.size w w' := by
  go_enter Try.func74, Try.ntmps74
  go_wp2_with (go_at_call 81; refine (near_any _ _).mono ?_; rintro e w' ⟨rfl, rfl⟩)
  refine wp_loop_rounds 5 ?_
  repeat any_goals (rw [rounds_succ]; go_wp2_with (go_at_call 81; refine (near_any _ _).mono ?_; rintro e w' ⟨rfl, rfl⟩))
  refine bodyPost_ret (v := .tuple #[.int .i64 (0), .int .i64 (0), .int .i64 (0), .int .i64 (0), .int .i64 (11)]) (by simp [results, Try.results74, go_sem]) rfl ⟨rfl, (by repeat (first | exact Below.refl _ _ | refine Below.drew ?_ | refine below_drewN ?_ _ | refine Below.alloc ?_ (by first | exact Nat.le_refl _ | (simp; done) | (simp; omega)) _ | refine Below.setCell ?_ (by first | exact Nat.le_refl _ | (simp; done) | (simp; omega)) _))⟩

theorem fit_bad8 (n a b c d p q r s ex : Int) (w : World) (e0 : nearB ex = true) (e1 : nearB a = true) (e2 : nearB p = true) (e3 : nearB b = true) (e4 : nearB q = true) (e5 : nearB c = true) (e6 : nearB r = true) (e7 : nearB d = true) (e8 : nearB s = false) : Calls Try.prog 74 #[.agg #[.int .i64 n, .int .i64 a, .int .i64 b, .int .i64 c, .int .i64 d, .int .i64 p, .int .i64 q, .int .i64 r, .int .i64 s], .int .i64 ex] w fun e w' => e = .returned (.tuple #[.int .i64 0, .int .i64 0, .int .i64 0, .int .i64 0, .int .i64 11]) ∧ Below w.heap.size w w' := by
  go_enter Try.func74, Try.ntmps74
  go_wp2_with (go_at_call 81; refine (near_any _ _).mono ?_; rintro e w' ⟨rfl, rfl⟩)
  refine wp_loop_rounds 5 ?_
  repeat any_goals (rw [rounds_succ]; go_wp2_with (go_at_call 81; refine (near_any _ _).mono ?_; rintro e w' ⟨rfl, rfl⟩))
  refine bodyPost_ret (v := .tuple #[.int .i64 (0), .int .i64 (0), .int .i64 (0), .int .i64 (0), .int .i64 (11)]) (by simp [results, Try.results74, go_sem]) rfl ⟨rfl, (by repeat (first | exact Below.refl _ _ | refine Below.drew ?_ | refine below_drewN ?_ _ | refine Below.alloc ?_ (by first | exact Nat.le_refl _ | (simp; done) | (simp; omega)) _ | refine Below.setCell ?_ (by first | exact Nat.le_refl _ | (simp; done) | (simp; omega)) _))⟩

theorem fit_zero (n a b c d p q r s : Int) (w : World) (e0 : nearB 0 = true) (e1 : nearB a = true) (e2 : nearB p = true) (e3 : nearB b = true) (e4 : nearB q = true) (e5 : nearB c = true) (e6 : nearB r = true) (e7 : nearB d = true) (e8 : nearB s = true) : Calls Try.prog 74 #[.agg #[.int .i64 n, .int .i64 a, .int .i64 b, .int .i64 c, .int .i64 d, .int .i64 p, .int .i64 q, .int .i64 r, .int .i64 s], .int .i64 0] w fun e w' => e = .returned (.tuple #[.int .i64 0, .int .i64 0, .int .i64 0, .int .i64 0, .int .i64 0]) ∧ Below w.heap.size w w' := by
  go_enter Try.func74, Try.ntmps74
  go_wp2_with (go_at_call 81; refine (near_any _ _).mono ?_; rintro e w' ⟨rfl, rfl⟩)
  refine wp_loop_rounds 5 ?_
  repeat any_goals (rw [rounds_succ]; go_wp2_with (go_at_call 81; refine (near_any _ _).mono ?_; rintro e w' ⟨rfl, rfl⟩))
  go_region
  go_wp2_with (go_at_call 117; refine (great_any _ _ _ _ _).mono ?_; rintro e w' ⟨rfl, rfl⟩)
  refine bodyPost_ret (v := .tuple #[.int .i64 (0), .int .i64 (0), .int .i64 (0), .int .i64 (0), .int .i64 (0)]) (by simp [results, Try.results74, go_sem]) rfl ⟨rfl, (by repeat (first | exact Below.refl _ _ | refine Below.drew ?_ | refine below_drewN ?_ _ | refine Below.alloc ?_ (by first | exact Nat.le_refl _ | (simp; done) | (simp; omega)) _ | refine Below.setCell ?_ (by first | exact Nat.le_refl _ | (simp; done) | (simp; omega)) _))⟩

theorem fit_upm (n a b c d p q r s ex : Int) (w : World) (e0 : nearB ex = true) (e1 : nearB a = true) (e2 : nearB p = true) (e3 : nearB b = true) (e4 : nearB q = true) (e5 : nearB c = true) (e6 : nearB r = true) (e7 : nearB d = true) (e8 : nearB s = true) (hx0 : -70368744177664 ≤ ex) (hx : 0 < ex) (hg : great a b c d = -1) : Calls Try.prog 74 #[.agg #[.int .i64 n, .int .i64 a, .int .i64 b, .int .i64 c, .int .i64 d, .int .i64 p, .int .i64 q, .int .i64 r, .int .i64 s], .int .i64 ex] w fun e w' => e = .returned (.tuple #[.int .i64 (fit a b c d p q r s ex).1, .int .i64 (fit a b c d p q r s ex).2.1, .int .i64 (fit a b c d p q r s ex).2.2.1, .int .i64 (fit a b c d p q r s ex).2.2.2, .int .i64 0]) ∧ Below w.heap.size w w' := by
  have hf : fit a b c d p q r s ex = (0, 0, 0, 0) := by simp [fit, hx, hg]
  rw [hf]
  clear hf
  go_enter Try.func74, Try.ntmps74
  go_wp2_with (go_at_call 81; refine (near_any _ _).mono ?_; rintro e w' ⟨rfl, rfl⟩)
  refine wp_loop_rounds 5 ?_
  repeat any_goals (rw [rounds_succ]; go_wp2_with (go_at_call 81; refine (near_any _ _).mono ?_; rintro e w' ⟨rfl, rfl⟩))
  go_region
  go_wp2_with fail
  go_wp2_with (go_at_call 117; refine (great_any _ _ _ _ _).mono ?_; rintro e w' ⟨rfl, rfl⟩)
  refine bodyPost_ret (v := .tuple #[.int .i64 (0), .int .i64 (0), .int .i64 (0), .int .i64 (0), .int .i64 (0)]) (by simp [results, Try.results74, go_sem]) rfl ⟨rfl, (by repeat (first | exact Below.refl _ _ | refine Below.drew ?_ | refine below_drewN ?_ _ | refine Below.alloc ?_ (by first | exact Nat.le_refl _ | (simp; done) | (simp; omega)) _ | refine Below.setCell ?_ (by first | exact Nat.le_refl _ | (simp; done) | (simp; omega)) _))⟩

theorem fit_downm (n a b c d p q r s ex : Int) (w : World) (e0 : nearB ex = true) (e1 : nearB a = true) (e2 : nearB p = true) (e3 : nearB b = true) (e4 : nearB q = true) (e5 : nearB c = true) (e6 : nearB r = true) (e7 : nearB d = true) (e8 : nearB s = true) (hx0 : -70368744177664 ≤ ex) (hx : ex < 0) (hg : great p q r s = -1) : Calls Try.prog 74 #[.agg #[.int .i64 n, .int .i64 a, .int .i64 b, .int .i64 c, .int .i64 d, .int .i64 p, .int .i64 q, .int .i64 r, .int .i64 s], .int .i64 ex] w fun e w' => e = .returned (.tuple #[.int .i64 (fit a b c d p q r s ex).1, .int .i64 (fit a b c d p q r s ex).2.1, .int .i64 (fit a b c d p q r s ex).2.2.1, .int .i64 (fit a b c d p q r s ex).2.2.2, .int .i64 0]) ∧ Below w.heap.size w w' := by
  have hf : fit a b c d p q r s ex = (0, 0, 0, 0) := by simp [fit, hx, hg, show ¬ 0 < ex by omega]
  rw [hf]
  clear hf
  go_enter Try.func74, Try.ntmps74
  go_wp2_with (go_at_call 81; refine (near_any _ _).mono ?_; rintro e w' ⟨rfl, rfl⟩)
  refine wp_loop_rounds 5 ?_
  repeat any_goals (rw [rounds_succ]; go_wp2_with (go_at_call 81; refine (near_any _ _).mono ?_; rintro e w' ⟨rfl, rfl⟩))
  go_region
  go_wp2_with fail
  go_region
  go_wp2_with (go_at_call 117; refine (great_any _ _ _ _ _).mono ?_; rintro e w' ⟨rfl, rfl⟩)
  refine bodyPost_ret (v := .tuple #[.int .i64 (0), .int .i64 (0), .int .i64 (0), .int .i64 (0), .int .i64 (0)]) (by simp [results, Try.results74, go_sem]) rfl ⟨rfl, (by repeat (first | exact Below.refl _ _ | refine Below.drew ?_ | refine below_drewN ?_ _ | refine Below.alloc ?_ (by first | exact Nat.le_refl _ | (simp; done) | (simp; omega)) _ | refine Below.setCell ?_ (by first | exact Nat.le_refl _ | (simp; done) | (simp; omega)) _))⟩

theorem fit_up0 (n a b c d p q r s ex : Int) (w : World) (e0 : nearB ex = true) (e1 : nearB a = true) (e2 : nearB p = true) (e3 : nearB b = true) (e4 : nearB q = true) (e5 : nearB c = true) (e6 : nearB r = true) (e7 : nearB d = true) (e8 : nearB s = true) (hx0 : -70368744177664 ≤ ex) (hx : 0 < ex) (hg : great a b c d = 0) : Calls Try.prog 74 #[.agg #[.int .i64 n, .int .i64 a, .int .i64 b, .int .i64 c, .int .i64 d, .int .i64 p, .int .i64 q, .int .i64 r, .int .i64 s], .int .i64 ex] w fun e w' => e = .returned (.tuple #[.int .i64 (fit a b c d p q r s ex).1, .int .i64 (fit a b c d p q r s ex).2.1, .int .i64 (fit a b c d p q r s ex).2.2.1, .int .i64 (fit a b c d p q r s ex).2.2.2, .int .i64 0]) ∧ Below w.heap.size w w' := by
  have hf : fit a b c d p q r s ex = (1, 0, ex, a) := by simp [fit, hx, hg, pick4]
  rw [hf]
  clear hf
  go_enter Try.func74, Try.ntmps74
  go_wp2_with (go_at_call 81; refine (near_any _ _).mono ?_; rintro e w' ⟨rfl, rfl⟩)
  refine wp_loop_rounds 5 ?_
  repeat any_goals (rw [rounds_succ]; go_wp2_with (go_at_call 81; refine (near_any _ _).mono ?_; rintro e w' ⟨rfl, rfl⟩))
  go_region
  go_wp2_with fail
  go_wp2_with (go_at_call 117; refine (great_any _ _ _ _ _).mono ?_; rintro e w' ⟨rfl, rfl⟩)
  refine bodyPost_ret (v := .tuple #[.int .i64 (1), .int .i64 (0), .int .i64 (ex), .int .i64 (a), .int .i64 (0)]) (by simp [results, Try.results74, go_sem]) rfl ⟨rfl, (by repeat (first | exact Below.refl _ _ | refine Below.drew ?_ | refine below_drewN ?_ _ | refine Below.alloc ?_ (by first | exact Nat.le_refl _ | (simp; done) | (simp; omega)) _ | refine Below.setCell ?_ (by first | exact Nat.le_refl _ | (simp; done) | (simp; omega)) _))⟩

theorem fit_down0 (n a b c d p q r s ex : Int) (w : World) (e0 : nearB ex = true) (e1 : nearB a = true) (e2 : nearB p = true) (e3 : nearB b = true) (e4 : nearB q = true) (e5 : nearB c = true) (e6 : nearB r = true) (e7 : nearB d = true) (e8 : nearB s = true) (hx0 : -70368744177664 ≤ ex) (hx : ex < 0) (hg : great p q r s = 0) : Calls Try.prog 74 #[.agg #[.int .i64 n, .int .i64 a, .int .i64 b, .int .i64 c, .int .i64 d, .int .i64 p, .int .i64 q, .int .i64 r, .int .i64 s], .int .i64 ex] w fun e w' => e = .returned (.tuple #[.int .i64 (fit a b c d p q r s ex).1, .int .i64 (fit a b c d p q r s ex).2.1, .int .i64 (fit a b c d p q r s ex).2.2.1, .int .i64 (fit a b c d p q r s ex).2.2.2, .int .i64 0]) ∧ Below w.heap.size w w' := by
  have hf : fit a b c d p q r s ex = (2, 0, min (-ex) p, p) := by simp [fit, hx, hg, pick4, show ¬ 0 < ex by omega]
  rw [hf]
  clear hf
  go_enter Try.func74, Try.ntmps74
  go_wp2_with (go_at_call 81; refine (near_any _ _).mono ?_; rintro e w' ⟨rfl, rfl⟩)
  refine wp_loop_rounds 5 ?_
  repeat any_goals (rw [rounds_succ]; go_wp2_with (go_at_call 81; refine (near_any _ _).mono ?_; rintro e w' ⟨rfl, rfl⟩))
  go_region
  go_wp2_with fail
  go_region
  go_wp2_with (go_at_call 117; refine (great_any _ _ _ _ _).mono ?_; rintro e w' ⟨rfl, rfl⟩)
  refine bodyPost_ret (v := .tuple #[.int .i64 (2), .int .i64 (0), .int .i64 (min (-ex) p), .int .i64 (p), .int .i64 (0)]) (by simp [results, Try.results74, go_sem]) rfl ⟨rfl, (by repeat (first | exact Below.refl _ _ | refine Below.drew ?_ | refine below_drewN ?_ _ | refine Below.alloc ?_ (by first | exact Nat.le_refl _ | (simp; done) | (simp; omega)) _ | refine Below.setCell ?_ (by first | exact Nat.le_refl _ | (simp; done) | (simp; omega)) _))⟩

theorem fit_up1 (n a b c d p q r s ex : Int) (w : World) (e0 : nearB ex = true) (e1 : nearB a = true) (e2 : nearB p = true) (e3 : nearB b = true) (e4 : nearB q = true) (e5 : nearB c = true) (e6 : nearB r = true) (e7 : nearB d = true) (e8 : nearB s = true) (hx0 : -70368744177664 ≤ ex) (hx : 0 < ex) (hg : great a b c d = 1) : Calls Try.prog 74 #[.agg #[.int .i64 n, .int .i64 a, .int .i64 b, .int .i64 c, .int .i64 d, .int .i64 p, .int .i64 q, .int .i64 r, .int .i64 s], .int .i64 ex] w fun e w' => e = .returned (.tuple #[.int .i64 (fit a b c d p q r s ex).1, .int .i64 (fit a b c d p q r s ex).2.1, .int .i64 (fit a b c d p q r s ex).2.2.1, .int .i64 (fit a b c d p q r s ex).2.2.2, .int .i64 0]) ∧ Below w.heap.size w w' := by
  have hf : fit a b c d p q r s ex = (1, 1, ex, b) := by simp [fit, hx, hg, pick4]
  rw [hf]
  clear hf
  go_enter Try.func74, Try.ntmps74
  go_wp2_with (go_at_call 81; refine (near_any _ _).mono ?_; rintro e w' ⟨rfl, rfl⟩)
  refine wp_loop_rounds 5 ?_
  repeat any_goals (rw [rounds_succ]; go_wp2_with (go_at_call 81; refine (near_any _ _).mono ?_; rintro e w' ⟨rfl, rfl⟩))
  go_region
  go_wp2_with fail
  go_wp2_with (go_at_call 117; refine (great_any _ _ _ _ _).mono ?_; rintro e w' ⟨rfl, rfl⟩)
  refine bodyPost_ret (v := .tuple #[.int .i64 (1), .int .i64 (1), .int .i64 (ex), .int .i64 (b), .int .i64 (0)]) (by simp [results, Try.results74, go_sem]) rfl ⟨rfl, (by repeat (first | exact Below.refl _ _ | refine Below.drew ?_ | refine below_drewN ?_ _ | refine Below.alloc ?_ (by first | exact Nat.le_refl _ | (simp; done) | (simp; omega)) _ | refine Below.setCell ?_ (by first | exact Nat.le_refl _ | (simp; done) | (simp; omega)) _))⟩

theorem fit_down1 (n a b c d p q r s ex : Int) (w : World) (e0 : nearB ex = true) (e1 : nearB a = true) (e2 : nearB p = true) (e3 : nearB b = true) (e4 : nearB q = true) (e5 : nearB c = true) (e6 : nearB r = true) (e7 : nearB d = true) (e8 : nearB s = true) (hx0 : -70368744177664 ≤ ex) (hx : ex < 0) (hg : great p q r s = 1) : Calls Try.prog 74 #[.agg #[.int .i64 n, .int .i64 a, .int .i64 b, .int .i64 c, .int .i64 d, .int .i64 p, .int .i64 q, .int .i64 r, .int .i64 s], .int .i64 ex] w fun e w' => e = .returned (.tuple #[.int .i64 (fit a b c d p q r s ex).1, .int .i64 (fit a b c d p q r s ex).2.1, .int .i64 (fit a b c d p q r s ex).2.2.1, .int .i64 (fit a b c d p q r s ex).2.2.2, .int .i64 0]) ∧ Below w.heap.size w w' := by
  have hf : fit a b c d p q r s ex = (2, 1, -ex, q) := by simp [fit, hx, hg, pick4, show ¬ 0 < ex by omega]
  rw [hf]
  clear hf
  go_enter Try.func74, Try.ntmps74
  go_wp2_with (go_at_call 81; refine (near_any _ _).mono ?_; rintro e w' ⟨rfl, rfl⟩)
  refine wp_loop_rounds 5 ?_
  repeat any_goals (rw [rounds_succ]; go_wp2_with (go_at_call 81; refine (near_any _ _).mono ?_; rintro e w' ⟨rfl, rfl⟩))
  go_region
  go_wp2_with fail
  go_region
  go_wp2_with (go_at_call 117; refine (great_any _ _ _ _ _).mono ?_; rintro e w' ⟨rfl, rfl⟩)
  refine bodyPost_ret (v := .tuple #[.int .i64 (2), .int .i64 (1), .int .i64 (-ex), .int .i64 (q), .int .i64 (0)]) (by simp [results, Try.results74, go_sem]) rfl ⟨rfl, (by repeat (first | exact Below.refl _ _ | refine Below.drew ?_ | refine below_drewN ?_ _ | refine Below.alloc ?_ (by first | exact Nat.le_refl _ | (simp; done) | (simp; omega)) _ | refine Below.setCell ?_ (by first | exact Nat.le_refl _ | (simp; done) | (simp; omega)) _))⟩

theorem fit_up2 (n a b c d p q r s ex : Int) (w : World) (e0 : nearB ex = true) (e1 : nearB a = true) (e2 : nearB p = true) (e3 : nearB b = true) (e4 : nearB q = true) (e5 : nearB c = true) (e6 : nearB r = true) (e7 : nearB d = true) (e8 : nearB s = true) (hx0 : -70368744177664 ≤ ex) (hx : 0 < ex) (hg : great a b c d = 2) : Calls Try.prog 74 #[.agg #[.int .i64 n, .int .i64 a, .int .i64 b, .int .i64 c, .int .i64 d, .int .i64 p, .int .i64 q, .int .i64 r, .int .i64 s], .int .i64 ex] w fun e w' => e = .returned (.tuple #[.int .i64 (fit a b c d p q r s ex).1, .int .i64 (fit a b c d p q r s ex).2.1, .int .i64 (fit a b c d p q r s ex).2.2.1, .int .i64 (fit a b c d p q r s ex).2.2.2, .int .i64 0]) ∧ Below w.heap.size w w' := by
  have hf : fit a b c d p q r s ex = (1, 2, ex, c) := by simp [fit, hx, hg, pick4]
  rw [hf]
  clear hf
  go_enter Try.func74, Try.ntmps74
  go_wp2_with (go_at_call 81; refine (near_any _ _).mono ?_; rintro e w' ⟨rfl, rfl⟩)
  refine wp_loop_rounds 5 ?_
  repeat any_goals (rw [rounds_succ]; go_wp2_with (go_at_call 81; refine (near_any _ _).mono ?_; rintro e w' ⟨rfl, rfl⟩))
  go_region
  go_wp2_with fail
  go_wp2_with (go_at_call 117; refine (great_any _ _ _ _ _).mono ?_; rintro e w' ⟨rfl, rfl⟩)
  refine bodyPost_ret (v := .tuple #[.int .i64 (1), .int .i64 (2), .int .i64 (ex), .int .i64 (c), .int .i64 (0)]) (by simp [results, Try.results74, go_sem]) rfl ⟨rfl, (by repeat (first | exact Below.refl _ _ | refine Below.drew ?_ | refine below_drewN ?_ _ | refine Below.alloc ?_ (by first | exact Nat.le_refl _ | (simp; done) | (simp; omega)) _ | refine Below.setCell ?_ (by first | exact Nat.le_refl _ | (simp; done) | (simp; omega)) _))⟩

theorem fit_down2 (n a b c d p q r s ex : Int) (w : World) (e0 : nearB ex = true) (e1 : nearB a = true) (e2 : nearB p = true) (e3 : nearB b = true) (e4 : nearB q = true) (e5 : nearB c = true) (e6 : nearB r = true) (e7 : nearB d = true) (e8 : nearB s = true) (hx0 : -70368744177664 ≤ ex) (hx : ex < 0) (hg : great p q r s = 2) : Calls Try.prog 74 #[.agg #[.int .i64 n, .int .i64 a, .int .i64 b, .int .i64 c, .int .i64 d, .int .i64 p, .int .i64 q, .int .i64 r, .int .i64 s], .int .i64 ex] w fun e w' => e = .returned (.tuple #[.int .i64 (fit a b c d p q r s ex).1, .int .i64 (fit a b c d p q r s ex).2.1, .int .i64 (fit a b c d p q r s ex).2.2.1, .int .i64 (fit a b c d p q r s ex).2.2.2, .int .i64 0]) ∧ Below w.heap.size w w' := by
  have hf : fit a b c d p q r s ex = (2, 2, -ex, r) := by simp [fit, hx, hg, pick4, show ¬ 0 < ex by omega]
  rw [hf]
  clear hf
  go_enter Try.func74, Try.ntmps74
  go_wp2_with (go_at_call 81; refine (near_any _ _).mono ?_; rintro e w' ⟨rfl, rfl⟩)
  refine wp_loop_rounds 5 ?_
  repeat any_goals (rw [rounds_succ]; go_wp2_with (go_at_call 81; refine (near_any _ _).mono ?_; rintro e w' ⟨rfl, rfl⟩))
  go_region
  go_wp2_with fail
  go_region
  go_wp2_with (go_at_call 117; refine (great_any _ _ _ _ _).mono ?_; rintro e w' ⟨rfl, rfl⟩)
  refine bodyPost_ret (v := .tuple #[.int .i64 (2), .int .i64 (2), .int .i64 (-ex), .int .i64 (r), .int .i64 (0)]) (by simp [results, Try.results74, go_sem]) rfl ⟨rfl, (by repeat (first | exact Below.refl _ _ | refine Below.drew ?_ | refine below_drewN ?_ _ | refine Below.alloc ?_ (by first | exact Nat.le_refl _ | (simp; done) | (simp; omega)) _ | refine Below.setCell ?_ (by first | exact Nat.le_refl _ | (simp; done) | (simp; omega)) _))⟩

theorem fit_up3 (n a b c d p q r s ex : Int) (w : World) (e0 : nearB ex = true) (e1 : nearB a = true) (e2 : nearB p = true) (e3 : nearB b = true) (e4 : nearB q = true) (e5 : nearB c = true) (e6 : nearB r = true) (e7 : nearB d = true) (e8 : nearB s = true) (hx0 : -70368744177664 ≤ ex) (hx : 0 < ex) (hg : great a b c d = 3) : Calls Try.prog 74 #[.agg #[.int .i64 n, .int .i64 a, .int .i64 b, .int .i64 c, .int .i64 d, .int .i64 p, .int .i64 q, .int .i64 r, .int .i64 s], .int .i64 ex] w fun e w' => e = .returned (.tuple #[.int .i64 (fit a b c d p q r s ex).1, .int .i64 (fit a b c d p q r s ex).2.1, .int .i64 (fit a b c d p q r s ex).2.2.1, .int .i64 (fit a b c d p q r s ex).2.2.2, .int .i64 0]) ∧ Below w.heap.size w w' := by
  have hf : fit a b c d p q r s ex = (1, 3, ex, d) := by simp [fit, hx, hg, pick4]
  rw [hf]
  clear hf
  go_enter Try.func74, Try.ntmps74
  go_wp2_with (go_at_call 81; refine (near_any _ _).mono ?_; rintro e w' ⟨rfl, rfl⟩)
  refine wp_loop_rounds 5 ?_
  repeat any_goals (rw [rounds_succ]; go_wp2_with (go_at_call 81; refine (near_any _ _).mono ?_; rintro e w' ⟨rfl, rfl⟩))
  go_region
  go_wp2_with fail
  go_wp2_with (go_at_call 117; refine (great_any _ _ _ _ _).mono ?_; rintro e w' ⟨rfl, rfl⟩)
  refine bodyPost_ret (v := .tuple #[.int .i64 (1), .int .i64 (3), .int .i64 (ex), .int .i64 (d), .int .i64 (0)]) (by simp [results, Try.results74, go_sem]) rfl ⟨rfl, (by repeat (first | exact Below.refl _ _ | refine Below.drew ?_ | refine below_drewN ?_ _ | refine Below.alloc ?_ (by first | exact Nat.le_refl _ | (simp; done) | (simp; omega)) _ | refine Below.setCell ?_ (by first | exact Nat.le_refl _ | (simp; done) | (simp; omega)) _))⟩

theorem fit_down3 (n a b c d p q r s ex : Int) (w : World) (e0 : nearB ex = true) (e1 : nearB a = true) (e2 : nearB p = true) (e3 : nearB b = true) (e4 : nearB q = true) (e5 : nearB c = true) (e6 : nearB r = true) (e7 : nearB d = true) (e8 : nearB s = true) (hx0 : -70368744177664 ≤ ex) (hx : ex < 0) (hg : great p q r s = 3) : Calls Try.prog 74 #[.agg #[.int .i64 n, .int .i64 a, .int .i64 b, .int .i64 c, .int .i64 d, .int .i64 p, .int .i64 q, .int .i64 r, .int .i64 s], .int .i64 ex] w fun e w' => e = .returned (.tuple #[.int .i64 (fit a b c d p q r s ex).1, .int .i64 (fit a b c d p q r s ex).2.1, .int .i64 (fit a b c d p q r s ex).2.2.1, .int .i64 (fit a b c d p q r s ex).2.2.2, .int .i64 0]) ∧ Below w.heap.size w w' := by
  have hf : fit a b c d p q r s ex = (2, 3, -ex, s) := by simp [fit, hx, hg, pick4, show ¬ 0 < ex by omega]
  rw [hf]
  clear hf
  go_enter Try.func74, Try.ntmps74
  go_wp2_with (go_at_call 81; refine (near_any _ _).mono ?_; rintro e w' ⟨rfl, rfl⟩)
  refine wp_loop_rounds 5 ?_
  repeat any_goals (rw [rounds_succ]; go_wp2_with (go_at_call 81; refine (near_any _ _).mono ?_; rintro e w' ⟨rfl, rfl⟩))
  go_region
  go_wp2_with fail
  go_region
  go_wp2_with (go_at_call 117; refine (great_any _ _ _ _ _).mono ?_; rintro e w' ⟨rfl, rfl⟩)
  refine bodyPost_ret (v := .tuple #[.int .i64 (2), .int .i64 (3), .int .i64 (-ex), .int .i64 (s), .int .i64 (0)]) (by simp [results, Try.results74, go_sem]) rfl ⟨rfl, (by repeat (first | exact Below.refl _ _ | refine Below.drew ?_ | refine below_drewN ?_ _ | refine Below.alloc ?_ (by first | exact Nat.le_refl _ | (simp; done) | (simp; omega)) _ | refine Below.setCell ?_ (by first | exact Nat.le_refl _ | (simp; done) | (simp; omega)) _))⟩

end Go.Proofs.Ytoboecenlangmaa.Gl
