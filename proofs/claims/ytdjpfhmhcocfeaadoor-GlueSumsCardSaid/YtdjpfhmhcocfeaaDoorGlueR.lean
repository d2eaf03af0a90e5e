import Derived.Test.YtdjpfhmhcocfeaaDoorGlueC
import Derived.Test.YtdjpfhmhcocfeaaDoorGlueQ
import Derived.Test.YtdjpfhmhcocfeaaDoorMem
import Derived.RegionTactic
import Derived.BigRegion
/- Contracts of glue.joined, tidy, times, Plus, Times, Over. Conditions: those that each theorem names. -/
namespace Go.Proofs.YtdjpfhmhcocfeaaDoor.Gl
open Go.ChangeShapes Go.WideShapes Go.ChangeAt Go.RowKit
open Me
set_option linter.unusedVariables false

theorem joined_any (a o b p : Int) (w : World) (h0 : -4611686018427387904 ≤ a + b) (h1 : a + b ≤ 4611686018427387904) :
    Calls Tryd.prog 16 #[.int .i64 a, .int .i64 o, .int .i64 b, .int .i64 p] w fun e w' => e = .returned (.tuple #[.int .i64 (joinI a o b p).1, .int .i64 (joinI a o b p).2]) ∧ w = w' := by
  by_cases ha : a = 0
  · have ha' : (a == 0) = true := by simp [ha]
    have hj : joinI a o b p = (b, p) := if_pos ha
    rw [hj]
    clear ha hj
    go_enter Tryd.func16, Tryd.ntmps16
    go_wp2
    go_ret2
    exact ⟨rfl, rfl⟩
  · have ha' : (a == 0) = false := by simp [ha]
    by_cases hb : b = 0
    · have hb' : (b == 0) = true := by simp [hb]
      have hj : joinI a o b p = (a, o) := by unfold joinI; rw [if_neg ha, if_pos (.inl hb)]
      rw [hj]
      clear ha hj hb
      go_enter Tryd.func16, Tryd.ntmps16
      go_wp2
      go_ret2
      exact ⟨rfl, rfl⟩
    · have hb' : (b == 0) = false := by simp [hb]
      by_cases h2 : p < o
      · have hj : joinI a o b p = (a, o) := by unfold joinI; rw [if_neg ha, if_pos (.inr h2)]
        rw [hj]
        clear ha hj hb
        go_enter Tryd.func16, Tryd.ntmps16
        go_wp2
        go_ret2
        exact ⟨rfl, rfl⟩
      · by_cases h3 : o < p
        · have hj : joinI a o b p = (b, p) := by unfold joinI; rw [if_neg ha, if_neg (by omega), if_pos h3]
          rw [hj]
          clear ha hj hb
          go_enter Tryd.func16, Tryd.ntmps16
          go_wp2
          go_ret2
          exact ⟨rfl, rfl⟩
        · have hj : joinI a o b p = (a + b, o) := by unfold joinI; rw [if_neg ha, if_neg (by omega), if_neg h3]
          rw [hj]
          clear ha hj hb
          go_enter Tryd.func16, Tryd.ntmps16
          go_wp2
          go_ret2
          exact ⟨rfl, rfl⟩

theorem times_any (x n : Int) (w : World) (h0 : -1073741823 ≤ x) (h1 : x ≤ 1073741823) :
    Calls Tryd.prog 20 #[.int .i64 x, .int .i64 n] w fun e w' => e = .returned (.tuple #[.int .i64 (mulI x n), .bool (mulOk x n)]) ∧ w = w' := by
  by_cases hx : x = 0
  · have hx' : (x == 0) = true := by simp [hx]
    have e1 : mulI x n = 0 := if_pos (.inl hx)
    have e2 : mulOk x n = true := decide_eq_true (.inl hx)
    rw [e1, e2]
    clear hx e1 e2
    go_enter Tryd.func20, Tryd.ntmps20
    go_wp2
    go_ret2
    exact ⟨rfl, rfl⟩
  · have hx' : (x == 0) = false := by simp [hx]
    by_cases hn : n = 0
    · have hn' : (n == 0) = true := by simp [hn]
      have e1 : mulI x n = 0 := if_pos (.inr hn)
      have e2 : mulOk x n = true := decide_eq_true (.inr (.inl hn))
      rw [e1, e2]
      clear hx hn e1 e2
      go_enter Tryd.func20, Tryd.ntmps20
      go_wp2
      go_ret2
      exact ⟨rfl, rfl⟩
    · have hn' : (n == 0) = false := by simp [hn]
      by_cases hb : -1073741823 ≤ n ∧ n ≤ 1073741823
      · have e1 : mulI x n = x * n := mulI_eq hb.1 hb.2
        have e2 : mulOk x n = true := decide_eq_true (.inr (.inr hb))
        obtain ⟨b0, b1⟩ := hb
        have b2 : x * n ≤ 1152921504606846976 ∧ -1152921504606846976 ≤ x * n := by
          have hm : ∀ u v : Int, 0 ≤ u → u ≤ 1073741823 → 0 ≤ v → v ≤ 1073741823 → 0 ≤ u * v ∧ u * v ≤ 1152921504606846976 := by
            intro u v u0 u1 v0 v1
            have a := Int.mul_le_mul_of_nonneg_right u1 v0
            have b := Int.mul_le_mul_of_nonneg_left v1 (show (0 : Int) ≤ 1073741823 by omega)
            exact ⟨Int.mul_nonneg u0 v0, by omega⟩
          rcases Int.le_total 0 x with s1 | s1 <;> rcases Int.le_total 0 n with s2 | s2
          · have := hm x n s1 h1 s2 b1; omega
          · have := hm x (-n) s1 h1 (by omega) (by omega); rw [Int.mul_neg] at this; omega
          · have := hm (-x) n (by omega) (by omega) s2 b1; rw [Int.neg_mul] at this; omega
          · have := hm (-x) (-n) (by omega) (by omega) (by omega) (by omega); rw [Int.neg_mul_neg] at this; omega
        obtain ⟨b2, b3⟩ := b2
        rw [e1, e2]
        clear hx hn e1 e2
        go_enter Tryd.func20, Tryd.ntmps20
        go_wp2
        go_ret2
        exact ⟨rfl, rfl⟩
      · have e1 : mulI x n = 0 := by unfold mulI; rw [if_neg (by omega), if_pos (by omega)]
        have e2 : mulOk x n = false := decide_eq_false (by omega)
        rw [e1, e2]
        clear hx hn e1 e2
        by_cases hb1 : 1073741823 < n
        · go_enter Tryd.func20, Tryd.ntmps20
          go_wp2
          go_ret2
          exact ⟨rfl, rfl⟩
        · have hb2 : n < -1073741823 := by omega
          clear hb
          go_enter Tryd.func20, Tryd.ntmps20
          go_wp2
          go_ret2
          exact ⟨rfl, rfl⟩
end Go.Proofs.YtdjpfhmhcocfeaaDoor.Gl
