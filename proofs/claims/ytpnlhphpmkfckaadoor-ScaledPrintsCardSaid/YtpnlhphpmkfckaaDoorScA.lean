import Derived.Test.YtpnlhphpmkfckaaDoorSc
import Derived.Test.YtpnlhphpmkfckaaDoorRows
import Derived.Test.YtpnlhphpmkfckaaDoorProg
import Derived.Test.YtpnlhphpmkfckaaDoorBlk
import Derived.WalkKit
import Derived.ProofKit
import Derived.WalkSpells
import Derived.WalkLawsBesides
import Derived.Handy
import Derived.Outline
import Derived.Lib.Hide
import Derived.BigQuiet
import Derived.RegionTactic
import Derived.Deep.QuietTactic
/- Contracts of scaled's functions of integers, and of the document's (printed by gen_sca.py). Conditions: those that each theorem names. -/
namespace Go.Proofs.YtpnlhphpmkfckaaDoor.Ss
open Go.ChangeShapes Go.WideShapes Go.ChangeAt Go.RowKit
open Me Sc
set_option linter.unusedVariables false
set_option linter.unusedSimpArgs false

theorem ret_bool {a b : Bool} (h : a = b) : Ending.returned (.bool a) = .returned (.bool b) := by rw [h]
theorem ret_int {k : IntKind} {a b : Int} (h : a = b) : Ending.returned (.int k a) = .returned (.int k b) := by rw [h]
theorem ret_ints {a b c d : Int} (h : a = c) (k : b = d) : Ending.returned (.tuple #[.int .i64 a, .int .i64 b]) = .returned (.tuple #[.int .i64 c, .int .i64 d]) := by rw [h, k]
theorem ret_ints3 {a b c d e f : Int} (h : a = d) (k : b = e) (l : c = f) : Ending.returned (.tuple #[.int .i64 a, .int .i64 b, .int .i64 c]) = .returned (.tuple #[.int .i64 d, .int .i64 e, .int .i64 f]) := by rw [h, k, l]
theorem far_any (x : Int) (w : World) : Calls Tryd.prog 42 #[.int .i64 x] w fun e w' => e = .returned (.bool (farB x)) ∧ w = w' := by
  by_cases h0 : x < -2147483647
  · go_enter Tryd.func42, Tryd.ntmps42
    go_wp2
    go_ret
    exact ⟨ret_bool (decide_eq_true (.inl h0)).symm, rfl⟩
  · by_cases h1 : 2147483647 < x
    · go_enter Tryd.func42, Tryd.ntmps42
      go_wp2
      go_ret
      exact ⟨ret_bool (decide_eq_true (.inr h1)).symm, rfl⟩
    · go_enter Tryd.func42, Tryd.ntmps42
      go_wp2
      go_ret
      exact ⟨ret_bool (decide_eq_false (by omega)).symm, rfl⟩
theorem refFar (x : Int) (w : World) : Calls Tryd.prog 52 #[.int .i64 x] w fun e w' => e = .returned (.bool (farB x)) ∧ w = w' := by
  by_cases h0 : x < -2147483647
  · go_enter Tryd.func52, Tryd.ntmps52
    go_wp2
    go_ret
    exact ⟨ret_bool (decide_eq_true (.inl h0)).symm, rfl⟩
  · by_cases h1 : 2147483647 < x
    · go_enter Tryd.func52, Tryd.ntmps52
      go_wp2
      go_ret
      exact ⟨ret_bool (decide_eq_true (.inr h1)).symm, rfl⟩
    · go_enter Tryd.func52, Tryd.ntmps52
      go_wp2
      go_ret
      exact ⟨ret_bool (decide_eq_false (by omega)).symm, rfl⟩
theorem refGreat (x : Int) (w : World) : Calls Tryd.prog 53 #[.int .i64 x] w fun e w' => e = .returned (.bool (bigB x)) ∧ w = w' := by
  by_cases h0 : x < -1073741823
  · go_enter Tryd.func53, Tryd.ntmps53
    go_wp2
    go_ret
    exact ⟨ret_bool (decide_eq_true (.inl h0)).symm, rfl⟩
  · by_cases h1 : 1073741823 < x
    · go_enter Tryd.func53, Tryd.ntmps53
      go_wp2
      go_ret
      exact ⟨ret_bool (decide_eq_true (.inr h1)).symm, rfl⟩
    · go_enter Tryd.func53, Tryd.ntmps53
      go_wp2
      go_ret
      exact ⟨ret_bool (decide_eq_false (by omega)).symm, rfl⟩
theorem dimen_any (x : Int) (w : World) : Calls Tryd.prog 49 #[.int .i64 x] w fun e w' => e = .returned (.tuple #[.int .i64 (dimV x), .int .i64 (dimE x)]) ∧ w = w' := by
  by_cases h0 : x < -1073741823
  · have hb := bigB_out (.inl h0)
    have HB := Lib.hid hb
    clear hb
    go_enter Tryd.func49, Tryd.ntmps49
    go_wp2
    go_ret2
    exact ⟨ret_ints (by simp [dimV, HB.out]) (by simp [dimE, HB.out]), rfl⟩
  · by_cases h1 : 1073741823 < x
    · have hb := bigB_out (.inr h1)
      have HB := Lib.hid hb
      clear hb
      go_enter Tryd.func49, Tryd.ntmps49
      go_wp2
      go_ret2
      exact ⟨ret_ints (by simp [dimV, HB.out]) (by simp [dimE, HB.out]), rfl⟩
    · have hb := bigB_in (x := x) (by omega) (by omega)
      have HB := Lib.hid hb
      clear hb
      go_enter Tryd.func49, Tryd.ntmps49
      go_wp2
      go_ret2
      exact ⟨ret_ints (by simp [dimV, HB.out]) (by simp [dimE, HB.out]), rfl⟩

/-- A slice of integers reads as a list. -/
def Ns (w : World) (A : Option Addr) (xs : List Int) : Prop := ∀ k x, xs[k]? = some x → ∃ b off : Nat, A = some ⟨b, off, none⟩ ∧ w.cell? ⟨b, off + k, none⟩ = some (.int .i64 x)
theorem any_snoc {xs : List Int} {k : Nat} {x : Int} (f : Int → Bool) (h : xs[k]? = some x) : (xs.take (k + 1)).any f = ((xs.take k).any f || f x) := by
  rw [List.take_add_one, h]; simp
theorem any_yes {xs : List Int} {k : Nat} {x : Int} {f : Int → Bool} (h : xs[k]? = some x) (hf : f x = true) : xs.any f = true := by
  rw [List.any_eq_true]
  exact ⟨x, List.mem_of_getElem? h, hf⟩
theorem anyFar_any (A : Option Addr) (xs : List Int) (c : Nat) (w : World) (hl : xs.length ≤ 9223372036854775807) (hx : Ns w A xs) :
    Calls Tryd.prog 51 #[.slice A xs.length c] w fun e w' => e = .returned (.bool (xs.any farB)) ∧ w = w' := by
  have HX := Lib.hid hx
  clear hx
  generalize hn : xs.length = n at *
  have HN := Lib.hid hn
  clear hn
  go_enter Tryd.func51, Tryd.ntmps51
  go_wp2_with fail
  go_loop [7] (fun i => ∃ k : Nat, k ≤ n ∧ i = .int .i64 k ∧ (xs.take k).any farB = false) (fun i => n - (intOf i).toNat)
  case atStart => exact ⟨0, Nat.zero_le _, rfl, by simp⟩
  case round =>
    obtain ⟨k, hk, rfl, hs⟩ := hrel
    by_cases hlt : k < n
    · obtain ⟨x, hxk⟩ : ∃ x, xs[k]? = some x := ⟨_, List.getElem?_eq_getElem (by rw [HN.out]; exact hlt)⟩
      obtain ⟨b, off, rfl, cx⟩ := HX.out k x hxk
      have HS := Lib.hid hs
      have HK := Lib.hid hxk
      clear hs hxk
      cases hf : farB x
      · go_wp2_with (go_at_call 42; refine (far_any _ _).mono ?_; rintro e w' ⟨rfl, rfl⟩)
        go_round
        case rel => exact ⟨k + 1, by omega, by go_num, by rw [any_snoc _ HK.out, HS.out, hf]; rfl⟩
        case measure => simp [intOf]; omega
      · go_wp2_with (go_at_call 42; refine (far_any _ _).mono ?_; rintro e w' ⟨rfl, rfl⟩)
        go_ret
        exact ⟨ret_bool (any_yes HK.out hf).symm, rfl⟩
    · obtain rfl : k = n := by omega
      have HS := Lib.hid hs
      clear hs
      go_wp2_with fail
      go_ret
      have hz := HS.out
      rw [List.take_of_length_le (by rw [HN.out]; exact Nat.le_refl _)] at hz
      exact ⟨ret_bool hz.symm, rfl⟩
theorem anyFar2 (b : Nat) (x y : Int) (w : World) (c0 : w.cell? ⟨b, 0, none⟩ = some (.int .i64 x)) (c1 : w.cell? ⟨b, 1, none⟩ = some (.int .i64 y)) :
    Calls Tryd.prog 51 #[.slice (some ⟨b, 0, none⟩) 2 2] w fun e w' => e = .returned (.bool (farB x || farB y)) ∧ w = w' := by
  refine (anyFar_any (some ⟨b, 0, none⟩) [x, y] 2 w (by simp) ?_).mono ?_
  · intro k u hk
    refine ⟨b, 0, rfl, ?_⟩
    match k, hk with
    | 0, hk => simp at hk; subst hk; simpa using c0
    | 1, hk => simp at hk; subst hk; simpa using c1
  · rintro e w' ⟨rfl, rfl⟩
    exact ⟨ret_bool (by simp), rfl⟩
theorem anyFar3 (b : Nat) (x y z : Int) (w : World) (c0 : w.cell? ⟨b, 0, none⟩ = some (.int .i64 x)) (c1 : w.cell? ⟨b, 1, none⟩ = some (.int .i64 y)) (c2 : w.cell? ⟨b, 2, none⟩ = some (.int .i64 z)) :
    Calls Tryd.prog 51 #[.slice (some ⟨b, 0, none⟩) 3 3] w fun e w' => e = .returned (.bool (farB x || (farB y || farB z))) ∧ w = w' := by
  refine (anyFar_any (some ⟨b, 0, none⟩) [x, y, z] 3 w (by simp) ?_).mono ?_
  · intro k u hk
    refine ⟨b, 0, rfl, ?_⟩
    match k, hk with
    | 0, hk => simp at hk; subst hk; simpa using c0
    | 1, hk => simp at hk; subst hk; simpa using c1
    | 2, hk => simp at hk; subst hk; simpa using c2
  · rintro e w' ⟨rfl, rfl⟩
    exact ⟨ret_bool (by simp), rfl⟩
set_option maxHeartbeats 1000000 in
theorem add_any (a b : Int) (w : World) : Calls Tryd.prog 21 #[.int .i64 a, .int .i64 b] w fun e w' => e = .returned (.tuple #[.int .i64 (addV a b), .int .i64 (addE a b)]) ∧ Below w.heap.size w w' := by
  cases ha : farB a
  · obtain ⟨a0, a1⟩ := farB_no ha
    cases hb : farB b
    · obtain ⟨b0, b1⟩ := farB_no hb
      go_enter Tryd.func21, Tryd.ntmps21
      go_wp2_with (first | (go_at_call 51; refine (anyFar2 _ a b _ ((Blk.new' rfl).cell 0) ((Blk.new' rfl).cell 1)).mono ?_; rintro e w' ⟨rfl, rfl⟩) | (go_at_call 49; refine (dimen_any _ _).mono ?_; rintro e w' ⟨rfl, rfl⟩))
      go_ret2
      exact ⟨ret_ints (by first | (simp [addV, *]; done) | (simp [addV, *]; omega)) (by first | (simp [addE, *]; done) | (simp [addE, *]; omega)), (by repeat (first | exact Below.refl _ _ | assumption | apply below_drewN | apply andAlloc))⟩
    · go_enter Tryd.func21, Tryd.ntmps21
      go_wp2_with (first | (go_at_call 51; refine (anyFar2 _ a b _ ((Blk.new' rfl).cell 0) ((Blk.new' rfl).cell 1)).mono ?_; rintro e w' ⟨rfl, rfl⟩) | (go_at_call 49; refine (dimen_any _ _).mono ?_; rintro e w' ⟨rfl, rfl⟩))
      go_ret2
      exact ⟨ret_ints (by first | (simp [addV, *]; done) | (simp [addV, *]; omega)) (by first | (simp [addE, *]; done) | (simp [addE, *]; omega)), (by repeat (first | exact Below.refl _ _ | assumption | apply below_drewN | apply andAlloc))⟩
  · go_enter Tryd.func21, Tryd.ntmps21
    go_wp2_with (first | (go_at_call 51; refine (anyFar2 _ a b _ ((Blk.new' rfl).cell 0) ((Blk.new' rfl).cell 1)).mono ?_; rintro e w' ⟨rfl, rfl⟩) | (go_at_call 49; refine (dimen_any _ _).mono ?_; rintro e w' ⟨rfl, rfl⟩))
    go_ret2
    exact ⟨ret_ints (by first | (simp [addV, *]; done) | (simp [addV, *]; omega)) (by first | (simp [addE, *]; done) | (simp [addE, *]; omega)), (by repeat (first | exact Below.refl _ _ | assumption | apply below_drewN | apply andAlloc))⟩
set_option maxHeartbeats 1000000 in
theorem refAdd (a b : Int) (w : World) : Calls Tryd.prog 25 #[.int .i64 a, .int .i64 b] w fun e w' => e = .returned (.tuple #[.int .i64 (addV a b), .int .i64 (addE a b)]) ∧ Below w.heap.size w w' := by
  cases ha : farB a
  · obtain ⟨a0, a1⟩ := farB_no ha
    cases hb : farB b
    · obtain ⟨b0, b1⟩ := farB_no hb
      cases hz : bigB (a + b)
      · go_enter Tryd.func25, Tryd.ntmps25
        go_wp2_with (first | (go_at_call 52; refine (refFar _ _).mono ?_; rintro e w' ⟨rfl, rfl⟩) | (go_at_call 53; refine (refGreat _ _).mono ?_; rintro e w' ⟨rfl, rfl⟩))
        go_ret2
        exact ⟨ret_ints (by first | (simp [addV, dimV, *]; done) | (simp [addV, dimV, *]; omega)) (by first | (simp [addE, dimE, *]; done) | (simp [addE, dimE, *]; omega)), (by repeat (first | exact Below.refl _ _ | assumption | apply below_drewN | apply andAlloc))⟩
      · go_enter Tryd.func25, Tryd.ntmps25
        go_wp2_with (first | (go_at_call 52; refine (refFar _ _).mono ?_; rintro e w' ⟨rfl, rfl⟩) | (go_at_call 53; refine (refGreat _ _).mono ?_; rintro e w' ⟨rfl, rfl⟩))
        go_ret2
        exact ⟨ret_ints (by first | (simp [addV, dimV, *]; done) | (simp [addV, dimV, *]; omega)) (by first | (simp [addE, dimE, *]; done) | (simp [addE, dimE, *]; omega)), (by repeat (first | exact Below.refl _ _ | assumption | apply below_drewN | apply andAlloc))⟩
    · go_enter Tryd.func25, Tryd.ntmps25
      go_wp2_with (first | (go_at_call 52; refine (refFar _ _).mono ?_; rintro e w' ⟨rfl, rfl⟩) | (go_at_call 53; refine (refGreat _ _).mono ?_; rintro e w' ⟨rfl, rfl⟩))
      go_ret2
      exact ⟨ret_ints (by first | (simp [addV, *]; done) | (simp [addV, *]; omega)) (by first | (simp [addE, *]; done) | (simp [addE, *]; omega)), (by repeat (first | exact Below.refl _ _ | assumption | apply below_drewN | apply andAlloc))⟩
  · go_enter Tryd.func25, Tryd.ntmps25
    go_wp2_with (first | (go_at_call 52; refine (refFar _ _).mono ?_; rintro e w' ⟨rfl, rfl⟩) | (go_at_call 53; refine (refGreat _ _).mono ?_; rintro e w' ⟨rfl, rfl⟩))
    go_ret2
    exact ⟨ret_ints (by first | (simp [addV, *]; done) | (simp [addV, *]; omega)) (by first | (simp [addE, *]; done) | (simp [addE, *]; omega)), (by repeat (first | exact Below.refl _ _ | assumption | apply below_drewN | apply andAlloc))⟩
set_option maxHeartbeats 1000000 in
theorem times_any (n x y : Int) (w : World) : Calls Tryd.prog 22 #[.int .i64 n, .int .i64 x, .int .i64 y] w fun e w' => e = .returned (.tuple #[.int .i64 (timV n x y), .int .i64 (timE n x y)]) ∧ Below w.heap.size w w' := by
  cases hn : farB n
  · obtain ⟨n0, n1⟩ := farB_no hn
    cases hx : farB x
    · obtain ⟨x0, x1⟩ := farB_no hx
      cases hy : farB y
      · obtain ⟨y0, y1⟩ := farB_no hy
        obtain ⟨m0, m1⟩ := mul_bd (m := 2147483647) (n := 2147483647) ⟨n0, n1⟩ ⟨x0, x1⟩
        go_enter Tryd.func22, Tryd.ntmps22
        go_wp2_with (first | (go_at_call 51; refine (anyFar3 _ n x y _ ((Blk.new' rfl).cell 0) ((Blk.new' rfl).cell 1) ((Blk.new' rfl).cell 2)).mono ?_; rintro e w' ⟨rfl, rfl⟩) | (go_at_call 49; refine (dimen_any _ _).mono ?_; rintro e w' ⟨rfl, rfl⟩))
        go_ret2
        exact ⟨ret_ints (by first | (simp [timV, *]; done) | (simp [timV, *]; omega)) (by first | (simp [timE, *]; done) | (simp [timE, *]; omega)), (by repeat (first | exact Below.refl _ _ | assumption | apply below_drewN | apply andAlloc))⟩
      · go_enter Tryd.func22, Tryd.ntmps22
        go_wp2_with (first | (go_at_call 51; refine (anyFar3 _ n x y _ ((Blk.new' rfl).cell 0) ((Blk.new' rfl).cell 1) ((Blk.new' rfl).cell 2)).mono ?_; rintro e w' ⟨rfl, rfl⟩) | (go_at_call 49; refine (dimen_any _ _).mono ?_; rintro e w' ⟨rfl, rfl⟩))
        go_ret2
        exact ⟨ret_ints (by first | (simp [timV, *]; done) | (simp [timV, *]; omega)) (by first | (simp [timE, *]; done) | (simp [timE, *]; omega)), (by repeat (first | exact Below.refl _ _ | assumption | apply below_drewN | apply andAlloc))⟩
    · go_enter Tryd.func22, Tryd.ntmps22
      go_wp2_with (first | (go_at_call 51; refine (anyFar3 _ n x y _ ((Blk.new' rfl).cell 0) ((Blk.new' rfl).cell 1) ((Blk.new' rfl).cell 2)).mono ?_; rintro e w' ⟨rfl, rfl⟩) | (go_at_call 49; refine (dimen_any _ _).mono ?_; rintro e w' ⟨rfl, rfl⟩))
      go_ret2
      exact ⟨ret_ints (by first | (simp [timV, *]; done) | (simp [timV, *]; omega)) (by first | (simp [timE, *]; done) | (simp [timE, *]; omega)), (by repeat (first | exact Below.refl _ _ | assumption | apply below_drewN | apply andAlloc))⟩
  · go_enter Tryd.func22, Tryd.ntmps22
    go_wp2_with (first | (go_at_call 51; refine (anyFar3 _ n x y _ ((Blk.new' rfl).cell 0) ((Blk.new' rfl).cell 1) ((Blk.new' rfl).cell 2)).mono ?_; rintro e w' ⟨rfl, rfl⟩) | (go_at_call 49; refine (dimen_any _ _).mono ?_; rintro e w' ⟨rfl, rfl⟩))
    go_ret2
    exact ⟨ret_ints (by first | (simp [timV, *]; done) | (simp [timV, *]; omega)) (by first | (simp [timE, *]; done) | (simp [timE, *]; omega)), (by repeat (first | exact Below.refl _ _ | assumption | apply below_drewN | apply andAlloc))⟩
set_option maxHeartbeats 1000000 in
theorem refTimes (n x y : Int) (w : World) : Calls Tryd.prog 26 #[.int .i64 n, .int .i64 x, .int .i64 y] w fun e w' => e = .returned (.tuple #[.int .i64 (timV n x y), .int .i64 (timE n x y)]) ∧ Below w.heap.size w w' := by
  cases hn : farB n
  · obtain ⟨n0, n1⟩ := farB_no hn
    cases hx : farB x
    · obtain ⟨x0, x1⟩ := farB_no hx
      cases hy : farB y
      · obtain ⟨y0, y1⟩ := farB_no hy
        obtain ⟨m0, m1⟩ := mul_bd (m := 2147483647) (n := 2147483647) ⟨n0, n1⟩ ⟨x0, x1⟩
        cases hz : bigB (n * x + y)
        · go_enter Tryd.func26, Tryd.ntmps26
          go_wp2_with (first | (go_at_call 52; refine (refFar _ _).mono ?_; rintro e w' ⟨rfl, rfl⟩) | (go_at_call 53; refine (refGreat _ _).mono ?_; rintro e w' ⟨rfl, rfl⟩))
          go_ret2
          exact ⟨ret_ints (by first | (simp [timV, dimV, *]; done) | (simp [timV, dimV, *]; omega)) (by first | (simp [timE, dimE, *]; done) | (simp [timE, dimE, *]; omega)), (by repeat (first | exact Below.refl _ _ | assumption | apply below_drewN | apply andAlloc))⟩
        · go_enter Tryd.func26, Tryd.ntmps26
          go_wp2_with (first | (go_at_call 52; refine (refFar _ _).mono ?_; rintro e w' ⟨rfl, rfl⟩) | (go_at_call 53; refine (refGreat _ _).mono ?_; rintro e w' ⟨rfl, rfl⟩))
          go_ret2
          exact ⟨ret_ints (by first | (simp [timV, dimV, *]; done) | (simp [timV, dimV, *]; omega)) (by first | (simp [timE, dimE, *]; done) | (simp [timE, dimE, *]; omega)), (by repeat (first | exact Below.refl _ _ | assumption | apply below_drewN | apply andAlloc))⟩
      · go_enter Tryd.func26, Tryd.ntmps26
        go_wp2_with (first | (go_at_call 52; refine (refFar _ _).mono ?_; rintro e w' ⟨rfl, rfl⟩) | (go_at_call 53; refine (refGreat _ _).mono ?_; rintro e w' ⟨rfl, rfl⟩))
        go_ret2
        exact ⟨ret_ints (by first | (simp [timV, *]; done) | (simp [timV, *]; omega)) (by first | (simp [timE, *]; done) | (simp [timE, *]; omega)), (by repeat (first | exact Below.refl _ _ | assumption | apply below_drewN | apply andAlloc))⟩
    · go_enter Tryd.func26, Tryd.ntmps26
      go_wp2_with (first | (go_at_call 52; refine (refFar _ _).mono ?_; rintro e w' ⟨rfl, rfl⟩) | (go_at_call 53; refine (refGreat _ _).mono ?_; rintro e w' ⟨rfl, rfl⟩))
      go_ret2
      exact ⟨ret_ints (by first | (simp [timV, *]; done) | (simp [timV, *]; omega)) (by first | (simp [timE, *]; done) | (simp [timE, *]; omega)), (by repeat (first | exact Below.refl _ _ | assumption | apply below_drewN | apply andAlloc))⟩
  · go_enter Tryd.func26, Tryd.ntmps26
    go_wp2_with (first | (go_at_call 52; refine (refFar _ _).mono ?_; rintro e w' ⟨rfl, rfl⟩) | (go_at_call 53; refine (refGreat _ _).mono ?_; rintro e w' ⟨rfl, rfl⟩))
    go_ret2
    exact ⟨ret_ints (by first | (simp [timV, *]; done) | (simp [timV, *]; omega)) (by first | (simp [timE, *]; done) | (simp [timE, *]; omega)), (by repeat (first | exact Below.refl _ _ | assumption | apply below_drewN | apply andAlloc))⟩
set_option maxHeartbeats 1000000 in
theorem over_any (x n : Int) (w : World) : Calls Tryd.prog 23 #[.int .i64 x, .int .i64 n] w fun e w' => e = .returned (.tuple #[.int .i64 (ovQ x n), .int .i64 (ovR x n), .int .i64 (ovE x n)]) ∧ Below w.heap.size w w' := by
  cases hx : farB x
  · obtain ⟨x0, x1⟩ := farB_no hx
    cases hn : farB n
    · obtain ⟨n0, n1⟩ := farB_no hn
      by_cases hn : n = 0
      · have en : (n == 0) = true := by simpa using hn
        have HN := Lib.hid hn
        clear hn
        go_enter Tryd.func23, Tryd.ntmps23
        go_wp2_with (first | (go_at_call 51; refine (anyFar2 _ x n _ ((Blk.new' rfl).cell 0) ((Blk.new' rfl).cell 1)).mono ?_; rintro e w' ⟨rfl, rfl⟩))
        go_ret3
        exact ⟨ret_ints3 (by first | (simp [ovQ, HN.out, *]; done) | (simp [ovQ, HN.out, *]; omega)) (by first | (simp [ovR, HN.out, *]; done) | (simp [ovR, HN.out, *]; omega)) (by first | (simp [ovE, HN.out, (show farB 0 = false by decide), *]; done) | (simp [ovE, HN.out, (show farB 0 = false by decide), *]; omega)), (by repeat (first | exact Below.refl _ _ | assumption | apply below_drewN | apply andAlloc))⟩
      · have en : (n == 0) = false := by simpa using hn
        obtain ⟨q0, q1⟩ := tdiv_bd (d := n) ⟨x0, x1⟩
        go_enter Tryd.func23, Tryd.ntmps23
        go_wp2_with (first | (go_at_call 51; refine (anyFar2 _ x n _ ((Blk.new' rfl).cell 0) ((Blk.new' rfl).cell 1)).mono ?_; rintro e w' ⟨rfl, rfl⟩))
        go_quiet (fail)
        go_wp2
        go_ret3
        exact ⟨ret_ints3 (by first | (simp [ovQ, *]; done) | (simp [ovQ, *]; omega)) (by first | (simp [ovR, *]; done) | (simp [ovR, *]; omega)) (by first | (simp [ovE, *]; done) | (simp [ovE, *]; omega)), (by repeat (first | exact Below.refl _ _ | assumption | apply below_drewN | apply andAlloc))⟩
    · go_enter Tryd.func23, Tryd.ntmps23
      go_wp2_with (first | (go_at_call 51; refine (anyFar2 _ x n _ ((Blk.new' rfl).cell 0) ((Blk.new' rfl).cell 1)).mono ?_; rintro e w' ⟨rfl, rfl⟩))
      go_ret3
      exact ⟨ret_ints3 (by first | (simp [ovQ, *]; done) | (simp [ovQ, *]; omega)) (by first | (simp [ovR, *]; done) | (simp [ovR, *]; omega)) (by first | (simp [ovE, *]; done) | (simp [ovE, *]; omega)), (by repeat (first | exact Below.refl _ _ | assumption | apply below_drewN | apply andAlloc))⟩
  · go_enter Tryd.func23, Tryd.ntmps23
    go_wp2_with (first | (go_at_call 51; refine (anyFar2 _ x n _ ((Blk.new' rfl).cell 0) ((Blk.new' rfl).cell 1)).mono ?_; rintro e w' ⟨rfl, rfl⟩))
    go_ret3
    exact ⟨ret_ints3 (by first | (simp [ovQ, *]; done) | (simp [ovQ, *]; omega)) (by first | (simp [ovR, *]; done) | (simp [ovR, *]; omega)) (by first | (simp [ovE, *]; done) | (simp [ovE, *]; omega)), (by repeat (first | exact Below.refl _ _ | assumption | apply below_drewN | apply andAlloc))⟩
set_option maxHeartbeats 1000000 in
theorem refOver (x n : Int) (w : World) : Calls Tryd.prog 27 #[.int .i64 x, .int .i64 n] w fun e w' => e = .returned (.tuple #[.int .i64 (ovQ x n), .int .i64 (ovR x n), .int .i64 (ovE x n)]) ∧ Below w.heap.size w w' := by
  cases hx : farB x
  · obtain ⟨x0, x1⟩ := farB_no hx
    cases hn : farB n
    · obtain ⟨n0, n1⟩ := farB_no hn
      by_cases hn : n = 0
      · have en : (n == 0) = true := by simpa using hn
        have HN := Lib.hid hn
        clear hn
        go_enter Tryd.func27, Tryd.ntmps27
        go_wp2_with (first | (go_at_call 52; refine (refFar _ _).mono ?_; rintro e w' ⟨rfl, rfl⟩))
        go_ret3
        exact ⟨ret_ints3 (by first | (simp [ovQ, HN.out, *]; done) | (simp [ovQ, HN.out, *]; omega)) (by first | (simp [ovR, HN.out, *]; done) | (simp [ovR, HN.out, *]; omega)) (by first | (simp [ovE, HN.out, (show farB 0 = false by decide), *]; done) | (simp [ovE, HN.out, (show farB 0 = false by decide), *]; omega)), (by repeat (first | exact Below.refl _ _ | assumption | apply below_drewN | apply andAlloc))⟩
      · have en : (n == 0) = false := by simpa using hn
        obtain ⟨q0, q1⟩ := tdiv_bd (d := n) ⟨x0, x1⟩
        go_enter Tryd.func27, Tryd.ntmps27
        go_wp2_with (first | (go_at_call 52; refine (refFar _ _).mono ?_; rintro e w' ⟨rfl, rfl⟩))
        go_quiet (fail)
        go_wp2
        go_ret3
        exact ⟨ret_ints3 (by first | (simp [ovQ, *]; done) | (simp [ovQ, *]; omega)) (by first | (simp [ovR, *]; done) | (simp [ovR, *]; omega)) (by first | (simp [ovE, *]; done) | (simp [ovE, *]; omega)), (by repeat (first | exact Below.refl _ _ | assumption | apply below_drewN | apply andAlloc))⟩
    · go_enter Tryd.func27, Tryd.ntmps27
      go_wp2_with (first | (go_at_call 52; refine (refFar _ _).mono ?_; rintro e w' ⟨rfl, rfl⟩))
      go_ret3
      exact ⟨ret_ints3 (by first | (simp [ovQ, *]; done) | (simp [ovQ, *]; omega)) (by first | (simp [ovR, *]; done) | (simp [ovR, *]; omega)) (by first | (simp [ovE, *]; done) | (simp [ovE, *]; omega)), (by repeat (first | exact Below.refl _ _ | assumption | apply below_drewN | apply andAlloc))⟩
  · go_enter Tryd.func27, Tryd.ntmps27
    go_wp2_with (first | (go_at_call 52; refine (refFar _ _).mono ?_; rintro e w' ⟨rfl, rfl⟩))
    go_ret3
    exact ⟨ret_ints3 (by first | (simp [ovQ, *]; done) | (simp [ovQ, *]; omega)) (by first | (simp [ovR, *]; done) | (simp [ovR, *]; omega)) (by first | (simp [ovE, *]; done) | (simp [ovE, *]; omega)), (by repeat (first | exact Below.refl _ _ | assumption | apply below_drewN | apply andAlloc))⟩
set_option maxHeartbeats 1000000 in
theorem frac_any (x n d : Int) (w : World) : Calls Tryd.prog 24 #[.int .i64 x, .int .i64 n, .int .i64 d] w fun e w' => e = .returned (.tuple #[.int .i64 (frQ x n d), .int .i64 (frR x n d), .int .i64 (frE x n d)]) ∧ Below w.heap.size w w' := by
  cases hx : farB x
  · obtain ⟨x0, x1⟩ := farB_no hx
    cases hn : farB n
    · obtain ⟨n0, n1⟩ := farB_no hn
      cases hd : farB d
      · obtain ⟨d0, d1⟩ := farB_no hd
        by_cases hn : n < 0
        · go_enter Tryd.func24, Tryd.ntmps24
          go_wp2_with (first | (go_at_call 51; refine (anyFar3 _ x n d _ ((Blk.new' rfl).cell 0) ((Blk.new' rfl).cell 1) ((Blk.new' rfl).cell 2)).mono ?_; rintro e w' ⟨rfl, rfl⟩) | (go_at_call 49; refine (dimen_any _ _).mono ?_; rintro e w' ⟨rfl, rfl⟩))
          go_ret3
          exact ⟨ret_ints3 (by first | (simp [frQ, *]; done) | (simp [frQ, *]; omega)) (by first | (simp [frR, *]; done) | (simp [frR, *]; omega)) (by first | (simp [frE, *]; done) | (simp [frE, *]; omega)), (by repeat (first | exact Below.refl _ _ | assumption | apply below_drewN | apply andAlloc))⟩
        · by_cases hd : d < 1
          · go_enter Tryd.func24, Tryd.ntmps24
            go_wp2_with (first | (go_at_call 51; refine (anyFar3 _ x n d _ ((Blk.new' rfl).cell 0) ((Blk.new' rfl).cell 1) ((Blk.new' rfl).cell 2)).mono ?_; rintro e w' ⟨rfl, rfl⟩) | (go_at_call 49; refine (dimen_any _ _).mono ?_; rintro e w' ⟨rfl, rfl⟩))
            go_ret3
            exact ⟨ret_ints3 (by first | (simp [frQ, *]; done) | (simp [frQ, *]; omega)) (by first | (simp [frR, *]; done) | (simp [frR, *]; omega)) (by first | (simp [frE, *]; done) | (simp [frE, *]; omega)), (by repeat (first | exact Below.refl _ _ | assumption | apply below_drewN | apply andAlloc))⟩
          · obtain ⟨m0, m1⟩ := mul_bd (m := 2147483647) (n := 2147483647) ⟨x0, x1⟩ ⟨n0, n1⟩
            obtain ⟨q0, q1⟩ := tdiv_bd (a := x * n) (d := d) (m := 4611686014132420609) ⟨by omega, by omega⟩
            have hd1 : 1 ≤ d := by omega
            have hn1 : 0 ≤ n := by omega
            cases hz : bigB ((x * n).tdiv d)
            · have ez : dimE ((x * n).tdiv d) = 0 := by simp [dimE, hz]
              have ev : dimV ((x * n).tdiv d) = (x * n).tdiv d := by simp [dimV, hz]
              go_enter Tryd.func24, Tryd.ntmps24
              go_wp2_with (first | (go_at_call 51; refine (anyFar3 _ x n d _ ((Blk.new' rfl).cell 0) ((Blk.new' rfl).cell 1) ((Blk.new' rfl).cell 2)).mono ?_; rintro e w' ⟨rfl, rfl⟩) | (go_at_call 49; refine (dimen_any _ _).mono ?_; rintro e w' ⟨rfl, rfl⟩))
              go_quiet (fail)
              go_wp2
              go_ret3
              exact ⟨ret_ints3 (by first | (simp [frQ, *]; done) | (simp [frQ, *]; omega)) (by first | (simp [frR, *]; done) | (simp [frR, *]; omega)) (by first | (simp [frE, *]; done) | (simp [frE, *]; omega)), (by repeat (first | exact Below.refl _ _ | assumption | apply below_drewN | apply andAlloc))⟩
            · have ez : dimE ((x * n).tdiv d) = 20 := by simp [dimE, hz]
              go_enter Tryd.func24, Tryd.ntmps24
              go_wp2_with (first | (go_at_call 51; refine (anyFar3 _ x n d _ ((Blk.new' rfl).cell 0) ((Blk.new' rfl).cell 1) ((Blk.new' rfl).cell 2)).mono ?_; rintro e w' ⟨rfl, rfl⟩) | (go_at_call 49; refine (dimen_any _ _).mono ?_; rintro e w' ⟨rfl, rfl⟩))
              go_ret3
              exact ⟨ret_ints3 (by first | (simp [frQ, *]; done) | (simp [frQ, *]; omega)) (by first | (simp [frR, *]; done) | (simp [frR, *]; omega)) (by first | (simp [frE, *]; done) | (simp [frE, *]; omega)), (by repeat (first | exact Below.refl _ _ | assumption | apply below_drewN | apply andAlloc))⟩
      · go_enter Tryd.func24, Tryd.ntmps24
        go_wp2_with (first | (go_at_call 51; refine (anyFar3 _ x n d _ ((Blk.new' rfl).cell 0) ((Blk.new' rfl).cell 1) ((Blk.new' rfl).cell 2)).mono ?_; rintro e w' ⟨rfl, rfl⟩) | (go_at_call 49; refine (dimen_any _ _).mono ?_; rintro e w' ⟨rfl, rfl⟩))
        go_ret3
        exact ⟨ret_ints3 (by first | (simp [frQ, *]; done) | (simp [frQ, *]; omega)) (by first | (simp [frR, *]; done) | (simp [frR, *]; omega)) (by first | (simp [frE, *]; done) | (simp [frE, *]; omega)), (by repeat (first | exact Below.refl _ _ | assumption | apply below_drewN | apply andAlloc))⟩
    · go_enter Tryd.func24, Tryd.ntmps24
      go_wp2_with (first | (go_at_call 51; refine (anyFar3 _ x n d _ ((Blk.new' rfl).cell 0) ((Blk.new' rfl).cell 1) ((Blk.new' rfl).cell 2)).mono ?_; rintro e w' ⟨rfl, rfl⟩) | (go_at_call 49; refine (dimen_any _ _).mono ?_; rintro e w' ⟨rfl, rfl⟩))
      go_ret3
      exact ⟨ret_ints3 (by first | (simp [frQ, *]; done) | (simp [frQ, *]; omega)) (by first | (simp [frR, *]; done) | (simp [frR, *]; omega)) (by first | (simp [frE, *]; done) | (simp [frE, *]; omega)), (by repeat (first | exact Below.refl _ _ | assumption | apply below_drewN | apply andAlloc))⟩
  · go_enter Tryd.func24, Tryd.ntmps24
    go_wp2_with (first | (go_at_call 51; refine (anyFar3 _ x n d _ ((Blk.new' rfl).cell 0) ((Blk.new' rfl).cell 1) ((Blk.new' rfl).cell 2)).mono ?_; rintro e w' ⟨rfl, rfl⟩) | (go_at_call 49; refine (dimen_any _ _).mono ?_; rintro e w' ⟨rfl, rfl⟩))
    go_ret3
    exact ⟨ret_ints3 (by first | (simp [frQ, *]; done) | (simp [frQ, *]; omega)) (by first | (simp [frR, *]; done) | (simp [frR, *]; omega)) (by first | (simp [frE, *]; done) | (simp [frE, *]; omega)), (by repeat (first | exact Below.refl _ _ | assumption | apply below_drewN | apply andAlloc))⟩
set_option maxHeartbeats 1000000 in
theorem refFrac (x n d : Int) (w : World) : Calls Tryd.prog 28 #[.int .i64 x, .int .i64 n, .int .i64 d] w fun e w' => e = .returned (.tuple #[.int .i64 (frQ x n d), .int .i64 (frR x n d), .int .i64 (frE x n d)]) ∧ Below w.heap.size w w' := by
  cases hx : farB x
  · obtain ⟨x0, x1⟩ := farB_no hx
    cases hn : farB n
    · obtain ⟨n0, n1⟩ := farB_no hn
      cases hd : farB d
      · obtain ⟨d0, d1⟩ := farB_no hd
        by_cases hn : n < 0
        · go_enter Tryd.func28, Tryd.ntmps28
          go_wp2_with (first | (go_at_call 52; refine (refFar _ _).mono ?_; rintro e w' ⟨rfl, rfl⟩) | (go_at_call 53; refine (refGreat _ _).mono ?_; rintro e w' ⟨rfl, rfl⟩))
          go_ret3
          exact ⟨ret_ints3 (by first | (simp [frQ, *]; done) | (simp [frQ, *]; omega)) (by first | (simp [frR, *]; done) | (simp [frR, *]; omega)) (by first | (simp [frE, *]; done) | (simp [frE, *]; omega)), (by repeat (first | exact Below.refl _ _ | assumption | apply below_drewN | apply andAlloc))⟩
        · by_cases hd : d < 1
          · go_enter Tryd.func28, Tryd.ntmps28
            go_wp2_with (first | (go_at_call 52; refine (refFar _ _).mono ?_; rintro e w' ⟨rfl, rfl⟩) | (go_at_call 53; refine (refGreat _ _).mono ?_; rintro e w' ⟨rfl, rfl⟩))
            go_ret3
            exact ⟨ret_ints3 (by first | (simp [frQ, *]; done) | (simp [frQ, *]; omega)) (by first | (simp [frR, *]; done) | (simp [frR, *]; omega)) (by first | (simp [frE, *]; done) | (simp [frE, *]; omega)), (by repeat (first | exact Below.refl _ _ | assumption | apply below_drewN | apply andAlloc))⟩
          · obtain ⟨m0, m1⟩ := mul_bd (m := 2147483647) (n := 2147483647) ⟨x0, x1⟩ ⟨n0, n1⟩
            obtain ⟨q0, q1⟩ := tdiv_bd (a := x * n) (d := d) (m := 4611686014132420609) ⟨by omega, by omega⟩
            have hd1 : 1 ≤ d := by omega
            have hn1 : 0 ≤ n := by omega
            cases hz : bigB ((x * n).tdiv d)
            · go_enter Tryd.func28, Tryd.ntmps28
              go_wp2_with (first | (go_at_call 52; refine (refFar _ _).mono ?_; rintro e w' ⟨rfl, rfl⟩) | (go_at_call 53; refine (refGreat _ _).mono ?_; rintro e w' ⟨rfl, rfl⟩))
              go_quiet (fail)
              go_wp2
              go_ret3
              exact ⟨ret_ints3 (by first | (simp [frQ, *]; done) | (simp [frQ, *]; omega)) (by first | (simp [frR, *]; done) | (simp [frR, *]; omega)) (by first | (simp [frE, *]; done) | (simp [frE, *]; omega)), (by repeat (first | exact Below.refl _ _ | assumption | apply below_drewN | apply andAlloc))⟩
            · go_enter Tryd.func28, Tryd.ntmps28
              go_wp2_with (first | (go_at_call 52; refine (refFar _ _).mono ?_; rintro e w' ⟨rfl, rfl⟩) | (go_at_call 53; refine (refGreat _ _).mono ?_; rintro e w' ⟨rfl, rfl⟩))
              go_ret3
              exact ⟨ret_ints3 (by first | (simp [frQ, *]; done) | (simp [frQ, *]; omega)) (by first | (simp [frR, *]; done) | (simp [frR, *]; omega)) (by first | (simp [frE, *]; done) | (simp [frE, *]; omega)), (by repeat (first | exact Below.refl _ _ | assumption | apply below_drewN | apply andAlloc))⟩
      · go_enter Tryd.func28, Tryd.ntmps28
        go_wp2_with (first | (go_at_call 52; refine (refFar _ _).mono ?_; rintro e w' ⟨rfl, rfl⟩) | (go_at_call 53; refine (refGreat _ _).mono ?_; rintro e w' ⟨rfl, rfl⟩))
        go_ret3
        exact ⟨ret_ints3 (by first | (simp [frQ, *]; done) | (simp [frQ, *]; omega)) (by first | (simp [frR, *]; done) | (simp [frR, *]; omega)) (by first | (simp [frE, *]; done) | (simp [frE, *]; omega)), (by repeat (first | exact Below.refl _ _ | assumption | apply below_drewN | apply andAlloc))⟩
    · go_enter Tryd.func28, Tryd.ntmps28
      go_wp2_with (first | (go_at_call 52; refine (refFar _ _).mono ?_; rintro e w' ⟨rfl, rfl⟩) | (go_at_call 53; refine (refGreat _ _).mono ?_; rintro e w' ⟨rfl, rfl⟩))
      go_ret3
      exact ⟨ret_ints3 (by first | (simp [frQ, *]; done) | (simp [frQ, *]; omega)) (by first | (simp [frR, *]; done) | (simp [frR, *]; omega)) (by first | (simp [frE, *]; done) | (simp [frE, *]; omega)), (by repeat (first | exact Below.refl _ _ | assumption | apply below_drewN | apply andAlloc))⟩
  · go_enter Tryd.func28, Tryd.ntmps28
    go_wp2_with (first | (go_at_call 52; refine (refFar _ _).mono ?_; rintro e w' ⟨rfl, rfl⟩) | (go_at_call 53; refine (refGreat _ _).mono ?_; rintro e w' ⟨rfl, rfl⟩))
    go_ret3
    exact ⟨ret_ints3 (by first | (simp [frQ, *]; done) | (simp [frQ, *]; omega)) (by first | (simp [frR, *]; done) | (simp [frR, *]; omega)) (by first | (simp [frE, *]; done) | (simp [frE, *]; omega)), (by repeat (first | exact Below.refl _ _ | assumption | apply below_drewN | apply andAlloc))⟩
end Go.Proofs.YtpnlhphpmkfckaaDoor.Ss
