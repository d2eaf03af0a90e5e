import Derived.Test.YtmcekdjhkjhcdaaGreatDoorNodeC
import Derived.Test.YtmcekdjhkjhcdaaGreatDoorNd
import Derived.Laws.Bits
/- Contracts of the tests of single nodes, over a node's cells under one name (printed by gen_nodes2.py). Conditions: those that each theorem names. -/
namespace Go.Proofs.YtmcekdjhkjhcdaaGreatDoor.No
open Go.ChangeShapes Go.WideShapes Go.ChangeAt Go.RowKit
open Me Np
set_option linter.unusedVariables false

theorem glyph_n (n : Nd) (w : World) : Calls Tryz.prog 45 #[.agg (nc n)] w fun e w' => e = .returned (.bool (gGlyph n)) ∧ Below w.heap.size w w' :=
  glyph_any n.kind n.font n.char n.wd n.ht n.dp n.shift n.gn n.gs n.gh n.ga n.gb n.sign n.order n.num n.den n.pen n.sub n.text w
theorem skip_n (n : Nd) (w : World) : Calls Tryz.prog 53 #[.agg (nc n)] w fun e w' => e = .returned (.bool (glB n && winB n.sub 0 20)) ∧ Below w.heap.size w w' :=
  skip_any n.kind n.font n.char n.wd n.ht n.dp n.shift n.gn n.gs n.gh n.ga n.gb n.sign n.order n.num n.den n.pen n.sub n.text w
theorem kern_n (n : Nd) (w : World) : Calls Tryz.prog 56 #[.agg (nc n)] w fun e w' => e = .returned (.bool (dimB n.wd && winB n.sub 0 2)) ∧ Below w.heap.size w w' :=
  kern_any n.kind n.font n.char n.wd n.ht n.dp n.shift n.gn n.gs n.gh n.ga n.gb n.sign n.order n.num n.den n.pen n.sub n.text w
theorem pen_n (n : Nd) (w : World) : Calls Tryz.prog 58 #[.agg (nc n)] w fun e w' => e = .returned (.bool (winB n.pen (-2147483647) 2147483647)) ∧ Below w.heap.size w w' :=
  pen_any n.kind n.font n.char n.wd n.ht n.dp n.shift n.gn n.gs n.gh n.ga n.gb n.sign n.order n.num n.den n.pen n.sub n.text w
theorem width_n (n : Nd) (w : World) : Calls Tryz.prog 44 #[.agg (nc n)] w fun e w' => e = .returned (.bool (dimB n.wd)) ∧ Below w.heap.size w w' :=
  width_any n.kind n.font n.char n.wd n.ht n.dp n.shift n.gn n.gs n.gh n.ga n.gb n.sign n.order n.num n.den n.pen n.sub n.text w
theorem short_n (n : Nd) (w : World) : Calls Tryz.prog 43 #[.agg (nc n)] w fun e w' => e = .returned (.bool (decide ((n.text.size : Int) ≤ 1000))) ∧ Below w.heap.size w w' :=
  short_any n.kind n.font n.char n.wd n.ht n.dp n.shift n.gn n.gs n.gh n.ga n.gb n.sign n.order n.num n.den n.pen n.sub n.text w
theorem ins_n (n : Nd) (w : World) : Calls Tryz.prog 60 #[.agg (nc n)] w fun e w' => e = .returned (.bool (gIns n)) ∧ Below w.heap.size w w' :=
  ins_any n.kind n.font n.char n.wd n.ht n.dp n.shift n.gn n.gs n.gh n.ga n.gb n.sign n.order n.num n.den n.pen n.sub n.text w
theorem ok_n (n : Nd) (w : World) : Calls Tryz.prog 51 #[.agg (nc n)] w fun e w' => e = .returned (.bool (true)) ∧ Below w.heap.size w w' :=
  ok_any n.kind n.font n.char n.wd n.ht n.dp n.shift n.gn n.gs n.gh n.ga n.gb n.sign n.order n.num n.den n.pen n.sub n.text w
theorem lig_n (n : Nd) (w : World) :
    Calls Tryz.prog 46 #[.agg (nc n)] w fun e w' => e = .returned (.bool (gGlyph n && winB n.text.size 1 63)) ∧ Below w.heap.size w w' := by
  go_enter Tryz.func46, Tryz.ntmps46
  go_wp2_with (first | (refine wpList_load_node rfl _ rfl _ _ rfl _ (by repeat (first | exact (Blk.new' (by simp)).node | assumption | refine NodeAt.alloc ?_ _)) ?_) | (go_at_call 47; refine (within_any _ _ _ _).mono ?_; rintro e w' ⟨rfl, rfl⟩) | (go_at_call 45; refine (glyph_n _ _).mono ?_; rintro e w9 ⟨rfl, hb9⟩; obtain ⟨ho, hf⟩ := old_cells hb9; have hz9 := hb9.size; simp only [World.alloc, Array.size_push] at hz9))
  all_goals (go_ret; exact ⟨ret_bool (by simp [*]), (by repeat (first | exact Below.refl _ _ | exact hb9 | refine andThen ?_ hb9 | refine andAlloc ?_ _))⟩)

theorem sub_cases {x : Int} (h : winB x 0 3 = true) : x = 0 ∨ x = 1 ∨ x = 2 ∨ x = 3 := by
  simp [winB] at h
  omega
theorem rule_0 (kind font char wd ht dp shift gn gs gh ga gb sign order num den pen : Int) (text : ByteArray) (w : World) :
    Calls Tryz.prog 48 #[.agg (nc ⟨kind, font, char, wd, ht, dp, shift, gn, gs, gh, ga, gb, sign, order, num, den, pen, 0, text⟩)] w fun e w' =>
      e = .returned (.bool (gRule ⟨kind, font, char, wd, ht, dp, shift, gn, gs, gh, ga, gb, sign, order, num, den, pen, 0, text⟩)) ∧ Below w.heap.size w w' := by
  have b1 : bits BinOp.and IntKind.i64 0 1 = 0 := by kernel_rfl
  have b2 : bits BinOp.and IntKind.i64 0 2 = 0 := by kernel_rfl
  go_enter Tryz.func48, Tryz.ntmps48
  go_wp2_with (first | (go_at_call 47; refine (within_any _ _ _ _).mono ?_; rintro e w' ⟨rfl, rfl⟩) | (go_at_call 36; refine (dimen3 _ wd ht dp _ (by simp [go_sem]) (by simp [go_sem]) (by simp [go_sem])).mono ?_; rintro e w' ⟨rfl, rfl⟩))
  all_goals (go_ret; refine ⟨ret_bool ?_, (by repeat (first | exact Below.refl _ _ | exact hb9 | refine andThen ?_ hb9 | refine andAlloc ?_ _))⟩; clear b1 b2; simp only [gRule]; simp_all [winB]; done)
theorem rule_1 (kind font char wd ht dp shift gn gs gh ga gb sign order num den pen : Int) (text : ByteArray) (w : World) :
    Calls Tryz.prog 48 #[.agg (nc ⟨kind, font, char, wd, ht, dp, shift, gn, gs, gh, ga, gb, sign, order, num, den, pen, 1, text⟩)] w fun e w' =>
      e = .returned (.bool (gRule ⟨kind, font, char, wd, ht, dp, shift, gn, gs, gh, ga, gb, sign, order, num, den, pen, 1, text⟩)) ∧ Below w.heap.size w w' := by
  have b1 : bits BinOp.and IntKind.i64 1 1 = 1 := by kernel_rfl
  have b2 : bits BinOp.and IntKind.i64 1 2 = 0 := by kernel_rfl
  go_enter Tryz.func48, Tryz.ntmps48
  go_wp2_with (first | (go_at_call 47; refine (within_any _ _ _ _).mono ?_; rintro e w' ⟨rfl, rfl⟩) | (go_at_call 36; refine (dimen3 _ wd ht dp _ (by simp [go_sem]) (by simp [go_sem]) (by simp [go_sem])).mono ?_; rintro e w' ⟨rfl, rfl⟩))
  all_goals (go_ret; refine ⟨ret_bool ?_, (by repeat (first | exact Below.refl _ _ | exact hb9 | refine andThen ?_ hb9 | refine andAlloc ?_ _))⟩; clear b1 b2; simp only [gRule]; simp_all [winB]; done)
theorem rule_2 (kind font char wd ht dp shift gn gs gh ga gb sign order num den pen : Int) (text : ByteArray) (w : World) :
    Calls Tryz.prog 48 #[.agg (nc ⟨kind, font, char, wd, ht, dp, shift, gn, gs, gh, ga, gb, sign, order, num, den, pen, 2, text⟩)] w fun e w' =>
      e = .returned (.bool (gRule ⟨kind, font, char, wd, ht, dp, shift, gn, gs, gh, ga, gb, sign, order, num, den, pen, 2, text⟩)) ∧ Below w.heap.size w w' := by
  have b1 : bits BinOp.and IntKind.i64 2 1 = 0 := by kernel_rfl
  have b2 : bits BinOp.and IntKind.i64 2 2 = 2 := by kernel_rfl
  go_enter Tryz.func48, Tryz.ntmps48
  go_wp2_with (first | (go_at_call 47; refine (within_any _ _ _ _).mono ?_; rintro e w' ⟨rfl, rfl⟩) | (go_at_call 36; refine (dimen3 _ wd ht dp _ (by simp [go_sem]) (by simp [go_sem]) (by simp [go_sem])).mono ?_; rintro e w' ⟨rfl, rfl⟩))
  all_goals (go_ret; refine ⟨ret_bool ?_, (by repeat (first | exact Below.refl _ _ | exact hb9 | refine andThen ?_ hb9 | refine andAlloc ?_ _))⟩; clear b1 b2; simp only [gRule]; simp_all [winB]; done)
theorem rule_3 (kind font char wd ht dp shift gn gs gh ga gb sign order num den pen : Int) (text : ByteArray) (w : World) :
    Calls Tryz.prog 48 #[.agg (nc ⟨kind, font, char, wd, ht, dp, shift, gn, gs, gh, ga, gb, sign, order, num, den, pen, 3, text⟩)] w fun e w' =>
      e = .returned (.bool (gRule ⟨kind, font, char, wd, ht, dp, shift, gn, gs, gh, ga, gb, sign, order, num, den, pen, 3, text⟩)) ∧ Below w.heap.size w w' := by
  have b1 : bits BinOp.and IntKind.i64 3 1 = 1 := by kernel_rfl
  have b2 : bits BinOp.and IntKind.i64 3 2 = 2 := by kernel_rfl
  go_enter Tryz.func48, Tryz.ntmps48
  go_wp2_with (first | (go_at_call 47; refine (within_any _ _ _ _).mono ?_; rintro e w' ⟨rfl, rfl⟩) | (go_at_call 36; refine (dimen3 _ wd ht dp _ (by simp [go_sem]) (by simp [go_sem]) (by simp [go_sem])).mono ?_; rintro e w' ⟨rfl, rfl⟩))
  all_goals (go_ret; refine ⟨ret_bool ?_, (by repeat (first | exact Below.refl _ _ | exact hb9 | refine andThen ?_ hb9 | refine andAlloc ?_ _))⟩; clear b1 b2; simp only [gRule]; simp_all [winB]; done)

theorem rule_n (n : Nd) (w : World) :
    Calls Tryz.prog 48 #[.agg (nc n)] w fun e w' => e = .returned (.bool (gRule n)) ∧ Below w.heap.size w w' := by
  by_cases hs : winB n.sub 0 3 = true
  · obtain ⟨kind, font, char, wd, ht, dp, shift, gn, gs, gh, ga, gb, sign, order, num, den, pen, sub, text⟩ := n
    rcases sub_cases hs with h | h | h | h
    · simp only at h; subst h; exact rule_0 _ _ _ _ _ _ _ _ _ _ _ _ _ _ _ _ _ _ _
    · simp only at h; subst h; exact rule_1 _ _ _ _ _ _ _ _ _ _ _ _ _ _ _ _ _ _ _
    · simp only at h; subst h; exact rule_2 _ _ _ _ _ _ _ _ _ _ _ _ _ _ _ _ _ _ _
    · simp only at h; subst h; exact rule_3 _ _ _ _ _ _ _ _ _ _ _ _ _ _ _ _ _ _ _
  · have hs' : winB n.sub 0 3 = false := by simpa using hs
    clear hs
    go_enter Tryz.func48, Tryz.ntmps48
    go_wp2_with (go_at_call 47; refine (within_any _ _ _ _).mono ?_; rintro e w' ⟨rfl, rfl⟩)
    all_goals (go_ret; exact ⟨ret_bool (by simp [gRule, hs']), (by repeat (first | exact Below.refl _ _ | exact hb9 | refine andThen ?_ hb9 | refine andAlloc ?_ _))⟩)

theorem box_n (n : Nd) (w : World) :
    Calls Tryz.prog 50 #[.agg (nc n)] w fun e w' => e = .returned (.bool (gBox n)) ∧ Below w.heap.size w w' := by
  obtain ⟨kind, font, char, wd, ht, dp, shift, gn, gs, gh, ga, gb, sign, order, num, den, pen, sub, text⟩ := n
  go_enter Tryz.func50, Tryz.ntmps50
  go_wp2_with (first | (go_at_call 47; refine (within_any _ _ _ _).mono ?_; rintro e w' ⟨rfl, rfl⟩) | (go_at_call 36; refine (dimen4 _ wd ht dp shift _ (by simp [go_sem]) (by simp [go_sem]) (by simp [go_sem]) (by simp [go_sem])).mono ?_; rintro e w' ⟨rfl, rfl⟩))
  all_goals (go_ret; refine ⟨ret_bool ?_, (by repeat (first | exact Below.refl _ _ | exact hb9 | refine andThen ?_ hb9 | refine andAlloc ?_ _))⟩)
  all_goals simp only [gBox]
  all_goals first
    | (simp_all; done)
    | (rename_i hx; rcases hx with h | h | h | h <;> simp_all)
end Go.Proofs.YtmcekdjhkjhcdaaGreatDoor.No
