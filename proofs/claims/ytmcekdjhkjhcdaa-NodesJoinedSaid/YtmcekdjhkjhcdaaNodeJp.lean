import Derived.Test.YtmcekdjhkjhcdaaNodeJo
import Derived.BigQuiet
/- NodesJoined's walk, where one is no list. Conditions: those that each theorem names. -/
namespace Go.Proofs.Ytmcekdjhkjhcdaa.No
open Go.ChangeShapes Go.WideShapes Go.ChangeAt Go.RowKit
open Me Np
set_option linter.unusedVariables false
set_option linter.unusedSimpArgs false

set_option maxHeartbeats 4000000 in
set_option maxRecDepth 100000 in
/-- One of the two is none, or both together are too long. -/
theorem joined_none (A B : Option Addr) (a b : List Nd) (c d : Nat) (down : Bool) (w : World) (ha : a.length ≤ 9223372036854775807) (hb : b.length ≤ 9223372036854775807) (hab : a.length + b.length ≤ 9223372036854775807) (hsa : Seg w w.heap.size A (a.flatMap ncs)) (hsb : Seg w w.heap.size B (b.flatMap ncs)) (h : ¬ chk a = 0 ∨ ¬ chk b = 0 ∨ 2000 < a.length + b.length) :
    Calls Try.prog 4 #[.slice A a.length c, .slice B b.length d, .bool down] w fun e w' => e = .returned (.bool true) ∧ Below w.heap.size w w' := by
  have HC := Lib.hid (check_any A a c w (by omega) hsa)
  have HD := Lib.hid fun w1 (h : Below w.heap.size w w1) => check_any B b d w1 (by omega) (Seg.belowW hsb h)
  clear hsa hsb
  by_cases h1 : chk a = 0
  · rw [h1] at HC
    by_cases h2 : chk b = 0
    · rw [h2] at HD
      have h3 : (2000 : Int) < a.length + b.length := by omega
      have e2 : IntKind.i64.wrap ((a.length : Int) + b.length) = a.length + b.length := IntWalk.i64_in _ (by omega)
      clear h h1 h2
      generalize a.length = la at *
      generalize b.length = lb at *
      go_enter Try.func4, Try.ntmps4
      go_wp2_with fail
      refine HC.out.mono ?_
      rintro e w1 ⟨rfl, hb1⟩
      go_wp2_with (go_at_call 15; refine (num_any _ _).mono ?_; rintro e w' ⟨rfl, rfl⟩)
      refine (HD.out _ hb1).mono ?_
      rintro e w2 ⟨rfl, hb2⟩
      have hb12 := andThen hb1 hb2
      go_wp2_with (first | (go_at_call 15; refine (num_any _ _).mono ?_; rintro e w' ⟨rfl, rfl⟩) | (go_at_call 17; refine (knows_any _).mono ?_; rintro e w3 ⟨rfl, hb3⟩))
      go_ret
      exact ⟨ret_bool (by simp), andThen hb12 hb3⟩
    · have e0 : (chk b != 0) = true := by simp [h2]
      clear h h1 h2
      generalize chk b = v at *
      generalize a.length = la at *
      generalize b.length = lb at *
      go_enter Try.func4, Try.ntmps4
      go_wp2_with fail
      refine HC.out.mono ?_
      rintro e w1 ⟨rfl, hb1⟩
      go_wp2_with (go_at_call 15; refine (num_any _ _).mono ?_; rintro e w' ⟨rfl, rfl⟩)
      refine (HD.out _ hb1).mono ?_
      rintro e w2 ⟨rfl, hb2⟩
      have hb12 := andThen hb1 hb2
      go_wp2_with (first | (go_at_call 15; refine (num_any _ _).mono ?_; rintro e w' ⟨rfl, rfl⟩) | (go_at_call 17; refine (knows_any _).mono ?_; rintro e w3 ⟨rfl, hb3⟩))
      go_ret
      exact ⟨ret_bool (by simp), andThen hb12 hb3⟩
  · have e0 : (chk a != 0) = true := by simp [h1]
    clear h h1
    generalize chk a = v at *
    generalize a.length = la at *
    generalize b.length = lb at *
    go_enter Try.func4, Try.ntmps4
    go_wp2_with fail
    refine HC.out.mono ?_
    rintro e w1 ⟨rfl, hb1⟩
    go_wp2_with (first | (go_at_call 15; refine (num_any _ _).mono ?_; rintro e w' ⟨rfl, rfl⟩) | (go_at_call 17; refine (knows_any _).mono ?_; rintro e w3 ⟨rfl, hb3⟩))
    go_ret
    exact ⟨ret_bool (by simp), andThen hb1 hb3⟩
end Go.Proofs.Ytmcekdjhkjhcdaa.No
