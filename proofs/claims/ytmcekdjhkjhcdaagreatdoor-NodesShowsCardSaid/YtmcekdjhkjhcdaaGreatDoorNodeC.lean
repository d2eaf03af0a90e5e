import Derived.Test.YtmcekdjhkjhcdaaGreatDoorNodeB
import Derived.Test.YtmcekdjhkjhcdaaGreatDoorChk
/- Contracts of the tests of single nodes (printed by gen_nodes.py). Conditions: those that each theorem names. -/
namespace Go.Proofs.YtmcekdjhkjhcdaaGreatDoor.No
open Go.ChangeShapes Go.WideShapes Go.ChangeAt Go.RowKit
open Me Np
set_option linter.unusedVariables false

theorem dimen1 (b : Nat) (x : Int) (w : World) (c0 : w.cell? ⟨b, 0, none⟩ = some (.int .i64 x)) :
    Calls Tryz.prog 36 #[.slice (some ⟨b, 0, none⟩) 1 1] w fun e w' => e = .returned (.bool (dimB x)) ∧ w = w' := by
  refine (dimen_any (some ⟨b, 0, none⟩) [x] 1 w (by simp) ?_).mono ?_
  · intro k x hk
    refine ⟨b, 0, rfl, ?_⟩
    match k, hk with
    | 0, hk => simp at hk; subst hk; simpa using c0
  · rintro e w' ⟨rfl, rfl⟩
    exact ⟨ret_bool (by simp), rfl⟩

theorem dimen2 (b : Nat) (x y : Int) (w : World) (c0 : w.cell? ⟨b, 0, none⟩ = some (.int .i64 x)) (c1 : w.cell? ⟨b, 1, none⟩ = some (.int .i64 y)) :
    Calls Tryz.prog 36 #[.slice (some ⟨b, 0, none⟩) 2 2] w fun e w' => e = .returned (.bool (dimB x && dimB y)) ∧ w = w' := by
  refine (dimen_any (some ⟨b, 0, none⟩) [x, y] 2 w (by simp) ?_).mono ?_
  · intro k x hk
    refine ⟨b, 0, rfl, ?_⟩
    match k, hk with
    | 0, hk => simp at hk; subst hk; simpa using c0
    | 1, hk => simp at hk; subst hk; simpa using c1
  · rintro e w' ⟨rfl, rfl⟩
    exact ⟨ret_bool (by simp), rfl⟩

theorem dimen3 (b : Nat) (x y z : Int) (w : World) (c0 : w.cell? ⟨b, 0, none⟩ = some (.int .i64 x)) (c1 : w.cell? ⟨b, 1, none⟩ = some (.int .i64 y)) (c2 : w.cell? ⟨b, 2, none⟩ = some (.int .i64 z)) :
    Calls Tryz.prog 36 #[.slice (some ⟨b, 0, none⟩) 3 3] w fun e w' => e = .returned (.bool (dimB x && (dimB y && dimB z))) ∧ w = w' := by
  refine (dimen_any (some ⟨b, 0, none⟩) [x, y, z] 3 w (by simp) ?_).mono ?_
  · intro k x hk
    refine ⟨b, 0, rfl, ?_⟩
    match k, hk with
    | 0, hk => simp at hk; subst hk; simpa using c0
    | 1, hk => simp at hk; subst hk; simpa using c1
    | 2, hk => simp at hk; subst hk; simpa using c2
  · rintro e w' ⟨rfl, rfl⟩
    exact ⟨ret_bool (by simp), rfl⟩

theorem dimen4 (b : Nat) (x y z u : Int) (w : World) (c0 : w.cell? ⟨b, 0, none⟩ = some (.int .i64 x)) (c1 : w.cell? ⟨b, 1, none⟩ = some (.int .i64 y)) (c2 : w.cell? ⟨b, 2, none⟩ = some (.int .i64 z)) (c3 : w.cell? ⟨b, 3, none⟩ = some (.int .i64 u)) :
    Calls Tryz.prog 36 #[.slice (some ⟨b, 0, none⟩) 4 4] w fun e w' => e = .returned (.bool (dimB x && (dimB y && (dimB z && dimB u)))) ∧ w = w' := by
  refine (dimen_any (some ⟨b, 0, none⟩) [x, y, z, u] 4 w (by simp) ?_).mono ?_
  · intro k x hk
    refine ⟨b, 0, rfl, ?_⟩
    match k, hk with
    | 0, hk => simp at hk; subst hk; simpa using c0
    | 1, hk => simp at hk; subst hk; simpa using c1
    | 2, hk => simp at hk; subst hk; simpa using c2
    | 3, hk => simp at hk; subst hk; simpa using c3
  · rintro e w' ⟨rfl, rfl⟩
    exact ⟨ret_bool (by simp), rfl⟩

theorem glyph_any (kind font char wd ht dp shift gn gs gh ga gb sign order num den pen sub : Int) (text : ByteArray) (w : World) :
    Calls Tryz.prog 45 #[.agg #[.int .i64 kind, .int .i64 font, .int .u8 char, .int .i64 wd, .int .i64 ht, .int .i64 dp, .int .i64 shift, .int .i64 gn, .int .i64 gs, .int .i64 gh, .int .i64 ga, .int .i64 gb, .int .i64 sign, .int .i64 order, .int .i64 num, .int .i64 den, .int .i64 pen, .int .i64 sub, .string text]] w fun e w' => e = .returned (.bool ((winB font 0 63 && (dimB wd && (dimB ht && dimB dp))))) ∧ Below w.heap.size w w' := by
  go_enter Tryz.func45, Tryz.ntmps45
  go_wp2_with (first | (go_at_call 47; refine (within_any _ _ _ _).mono ?_; rintro e w' ⟨rfl, rfl⟩) | (go_at_call 36; refine (dimen3 _ wd ht dp _ (by simp [go_sem]) (by simp [go_sem]) (by simp [go_sem])).mono ?_; rintro e w' ⟨rfl, rfl⟩))
  all_goals (go_ret; exact ⟨ret_bool (by simp [*]), (by repeat (first | exact Below.refl _ _ | exact hb9 | refine andThen ?_ hb9 | refine andAlloc ?_ _))⟩)

theorem skip_any (kind font char wd ht dp shift gn gs gh ga gb sign order num den pen sub : Int) (text : ByteArray) (w : World) :
    Calls Tryz.prog 53 #[.agg #[.int .i64 kind, .int .i64 font, .int .u8 char, .int .i64 wd, .int .i64 ht, .int .i64 dp, .int .i64 shift, .int .i64 gn, .int .i64 gs, .int .i64 gh, .int .i64 ga, .int .i64 gb, .int .i64 sign, .int .i64 order, .int .i64 num, .int .i64 den, .int .i64 pen, .int .i64 sub, .string text]] w fun e w' => e = .returned (.bool ((Gl.chk gn gs gh ga gb == 0 && winB sub 0 20))) ∧ Below w.heap.size w w' := by
  go_enter Tryz.func53, Tryz.ntmps53
  go_wp2_with (first | (go_at_call 47; refine (within_any _ _ _ _).mono ?_; rintro e w' ⟨rfl, rfl⟩) | (go_at_call 54; refine (Ck.check_any _ _ _ _ _ _).mono ?_; rintro e w' ⟨rfl, rfl⟩))
  all_goals (go_ret; exact ⟨ret_bool (by simp [*]), (by repeat (first | exact Below.refl _ _ | exact hb9 | refine andThen ?_ hb9 | refine andAlloc ?_ _))⟩)

theorem kern_any (kind font char wd ht dp shift gn gs gh ga gb sign order num den pen sub : Int) (text : ByteArray) (w : World) :
    Calls Tryz.prog 56 #[.agg #[.int .i64 kind, .int .i64 font, .int .u8 char, .int .i64 wd, .int .i64 ht, .int .i64 dp, .int .i64 shift, .int .i64 gn, .int .i64 gs, .int .i64 gh, .int .i64 ga, .int .i64 gb, .int .i64 sign, .int .i64 order, .int .i64 num, .int .i64 den, .int .i64 pen, .int .i64 sub, .string text]] w fun e w' => e = .returned (.bool ((dimB wd && winB sub 0 2))) ∧ Below w.heap.size w w' := by
  go_enter Tryz.func56, Tryz.ntmps56
  go_wp2_with (first | (go_at_call 47; refine (within_any _ _ _ _).mono ?_; rintro e w' ⟨rfl, rfl⟩) | (go_at_call 36; refine (dimen1 _ wd _ (by simp [go_sem])).mono ?_; rintro e w' ⟨rfl, rfl⟩))
  all_goals (go_ret; exact ⟨ret_bool (by simp [*]), (by repeat (first | exact Below.refl _ _ | exact hb9 | refine andThen ?_ hb9 | refine andAlloc ?_ _))⟩)

theorem pen_any (kind font char wd ht dp shift gn gs gh ga gb sign order num den pen sub : Int) (text : ByteArray) (w : World) :
    Calls Tryz.prog 58 #[.agg #[.int .i64 kind, .int .i64 font, .int .u8 char, .int .i64 wd, .int .i64 ht, .int .i64 dp, .int .i64 shift, .int .i64 gn, .int .i64 gs, .int .i64 gh, .int .i64 ga, .int .i64 gb, .int .i64 sign, .int .i64 order, .int .i64 num, .int .i64 den, .int .i64 pen, .int .i64 sub, .string text]] w fun e w' => e = .returned (.bool (winB pen (-2147483647) 2147483647)) ∧ Below w.heap.size w w' := by
  go_enter Tryz.func58, Tryz.ntmps58
  go_wp2_with (go_at_call 47; refine (within_any _ _ _ _).mono ?_; rintro e w' ⟨rfl, rfl⟩)
  all_goals (go_ret; exact ⟨ret_bool (by simp [*]), (by repeat (first | exact Below.refl _ _ | exact hb9 | refine andThen ?_ hb9 | refine andAlloc ?_ _))⟩)

theorem width_any (kind font char wd ht dp shift gn gs gh ga gb sign order num den pen sub : Int) (text : ByteArray) (w : World) :
    Calls Tryz.prog 44 #[.agg #[.int .i64 kind, .int .i64 font, .int .u8 char, .int .i64 wd, .int .i64 ht, .int .i64 dp, .int .i64 shift, .int .i64 gn, .int .i64 gs, .int .i64 gh, .int .i64 ga, .int .i64 gb, .int .i64 sign, .int .i64 order, .int .i64 num, .int .i64 den, .int .i64 pen, .int .i64 sub, .string text]] w fun e w' => e = .returned (.bool (dimB wd)) ∧ Below w.heap.size w w' := by
  go_enter Tryz.func44, Tryz.ntmps44
  go_wp2_with (first | (go_at_call 47; refine (within_any _ _ _ _).mono ?_; rintro e w' ⟨rfl, rfl⟩) | (go_at_call 36; refine (dimen1 _ wd _ (by simp [go_sem])).mono ?_; rintro e w' ⟨rfl, rfl⟩))
  all_goals (go_ret; exact ⟨ret_bool (by simp [*]), (by repeat (first | exact Below.refl _ _ | exact hb9 | refine andThen ?_ hb9 | refine andAlloc ?_ _))⟩)

theorem short_any (kind font char wd ht dp shift gn gs gh ga gb sign order num den pen sub : Int) (text : ByteArray) (w : World) :
    Calls Tryz.prog 43 #[.agg #[.int .i64 kind, .int .i64 font, .int .u8 char, .int .i64 wd, .int .i64 ht, .int .i64 dp, .int .i64 shift, .int .i64 gn, .int .i64 gs, .int .i64 gh, .int .i64 ga, .int .i64 gb, .int .i64 sign, .int .i64 order, .int .i64 num, .int .i64 den, .int .i64 pen, .int .i64 sub, .string text]] w fun e w' => e = .returned (.bool (decide ((text.size : Int) ≤ 1000))) ∧ Below w.heap.size w w' := by
  go_enter Tryz.func43, Tryz.ntmps43
  go_wp2_with (go_at_call 47; refine (within_any _ _ _ _).mono ?_; rintro e w' ⟨rfl, rfl⟩)
  all_goals (go_ret; exact ⟨ret_bool (by simp [*]), (by repeat (first | exact Below.refl _ _ | exact hb9 | refine andThen ?_ hb9 | refine andAlloc ?_ _))⟩)

theorem ins_any (kind font char wd ht dp shift gn gs gh ga gb sign order num den pen sub : Int) (text : ByteArray) (w : World) :
    Calls Tryz.prog 60 #[.agg #[.int .i64 kind, .int .i64 font, .int .u8 char, .int .i64 wd, .int .i64 ht, .int .i64 dp, .int .i64 shift, .int .i64 gn, .int .i64 gs, .int .i64 gh, .int .i64 ga, .int .i64 gb, .int .i64 sign, .int .i64 order, .int .i64 num, .int .i64 den, .int .i64 pen, .int .i64 sub, .string text]] w fun e w' => e = .returned (.bool ((winB sub 0 254 && (dimB ht && dimB dp) && winB pen (-2147483647) 2147483647 && Gl.chk gn gs gh ga gb == 0))) ∧ Below w.heap.size w w' := by
  go_enter Tryz.func60, Tryz.ntmps60
  go_wp2_with (first | (go_at_call 47; refine (within_any _ _ _ _).mono ?_; rintro e w' ⟨rfl, rfl⟩) | (go_at_call 36; refine (dimen2 _ ht dp _ (by simp [go_sem]) (by simp [go_sem])).mono ?_; rintro e w' ⟨rfl, rfl⟩) | (go_at_call 54; refine (Ck.check_any _ _ _ _ _ _).mono ?_; rintro e w' ⟨rfl, rfl⟩))
  all_goals (go_ret; exact ⟨ret_bool (by simp [*]), (by repeat (first | exact Below.refl _ _ | exact hb9 | refine andThen ?_ hb9 | refine andAlloc ?_ _))⟩)

theorem ok_any (kind font char wd ht dp shift gn gs gh ga gb sign order num den pen sub : Int) (text : ByteArray) (w : World) :
    Calls Tryz.prog 51 #[.agg #[.int .i64 kind, .int .i64 font, .int .u8 char, .int .i64 wd, .int .i64 ht, .int .i64 dp, .int .i64 shift, .int .i64 gn, .int .i64 gs, .int .i64 gh, .int .i64 ga, .int .i64 gb, .int .i64 sign, .int .i64 order, .int .i64 num, .int .i64 den, .int .i64 pen, .int .i64 sub, .string text]] w fun e w' => e = .returned (.bool (true)) ∧ Below w.heap.size w w' := by
  go_enter Tryz.func51, Tryz.ntmps51
  go_wp2_with (go_at_call 47; refine (within_any _ _ _ _).mono ?_; rintro e w' ⟨rfl, rfl⟩)
  all_goals (go_ret; exact ⟨ret_bool (by simp [*]), (by repeat (first | exact Below.refl _ _ | exact hb9 | refine andThen ?_ hb9 | refine andAlloc ?_ _))⟩)

end Go.Proofs.YtmcekdjhkjhcdaaGreatDoor.No
