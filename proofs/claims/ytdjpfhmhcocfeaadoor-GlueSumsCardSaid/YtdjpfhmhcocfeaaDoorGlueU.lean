import Derived.Test.YtdjpfhmhcocfeaaDoorGlueT
import Derived.Laws.StructEq
import Derived.WalkSpells
import Derived.RegionTactic
import Derived.BigRegion
/- Contracts of glue.Times, Over; the equality of two glues. Conditions: those that each theorem names. -/
namespace Go.Proofs.YtdjpfhmhcocfeaaDoor.Gl
open Go.ChangeShapes Go.WideShapes Go.ChangeAt Go.RowKit
open Me
set_option linter.unusedVariables false

/-- Equality of two glues, told. -/
def eqG (a b c d e a' b' c' d' e' : Int) : Bool := a == a' && b == b' && c == c' && d == d' && e == e'
theorem neq_any (a b c d e a' b' c' d' e' : Int) (w : World) :
    (binOp .neq 23 (.agg #[.int .i64 a, .int .i64 b, .int .i64 c, .int .i64 d, .int .i64 e]) (.agg #[.int .i64 a', .int .i64 b', .int .i64 c', .int .i64 d', .int .i64 e'])).run Tryd.prog w = .ok (.bool (!eqG a b c d e a' b' c' d' e')) w := by
  have hS : Tryd.prog.underlying 23 = some (.struct (Tryd.prog.fieldsOf 23)) := by kernel_rfl
  have hp : Tryd.prog.stoodInHeld 23 = false := by kernel_rfl
  rw [run_neq_struct, show (10000 : Nat) = 9999 + 1 from rfl, run_equalIn_agg w 9999 _ _ _ hS hp]
  simp only [Program.fieldsOf, Tryd.underlying23]
  go_simp
  unfold eqG
  by_cases h1 : a = a' <;> by_cases h2 : b = b' <;> by_cases h3 : c = c' <;> by_cases h4 : d = d' <;> by_cases h5 : e = e' <;> simp [h1, h2, h3, h4, h5]
theorem eql_any (a b c d e a' b' c' d' e' : Int) (w : World) :
    (binOp .eql 23 (.agg #[.int .i64 a, .int .i64 b, .int .i64 c, .int .i64 d, .int .i64 e]) (.agg #[.int .i64 a', .int .i64 b', .int .i64 c', .int .i64 d', .int .i64 e'])).run Tryd.prog w = .ok (.bool (eqG a b c d e a' b' c' d' e')) w := by
  have hS : Tryd.prog.underlying 23 = some (.struct (Tryd.prog.fieldsOf 23)) := by kernel_rfl
  have hp : Tryd.prog.stoodInHeld 23 = false := by kernel_rfl
  rw [run_eql_struct, show (10000 : Nat) = 9999 + 1 from rfl, run_equalIn_agg w 9999 _ _ _ hS hp]
  simp only [Program.fieldsOf, Tryd.underlying23]
  go_simp
  unfold eqG
  by_cases h1 : a = a' <;> by_cases h2 : b = b' <;> by_cases h3 : c = c' <;> by_cases h4 : d = d' <;> by_cases h5 : e = e' <;> simp [h1, h2, h3, h4, h5]

theorem neq3 (x y z : Bool) (w : World) : (binOp .neq 41 (.agg #[.bool x, .bool y, .bool z]) (.agg #[.bool true, .bool true, .bool true])).run Tryd.prog w = .ok (.bool (!(x && y && z))) w := by
  cases x <;> cases y <;> cases z <;> kernel_rfl

theorem times2_any (n1 s1 h1 a1 b1 k rn rs rh ra rb : Int) (E : Int) (hh : timesG ⟨n1, s1, h1, a1, b1⟩ k = (⟨rn, rs, rh, ra, rb⟩, E)) (w : World) :
    Calls Tryd.prog 6 #[.agg #[.int .i64 n1, .int .i64 s1, .int .i64 h1, .int .i64 a1, .int .i64 b1], .int .i64 k] w fun e w' =>
      e = .returned (.tuple #[.agg #[.int .i64 rn, .int .i64 rs, .int .i64 rh, .int .i64 ra, .int .i64 rb], .int .i64 E]) ∧ Below w.heap.size w w' := by
  unfold timesG at hh
  cases g1 : glueB n1 s1 h1 a1 b1
  · rw [if_neg (by simp [G.ok, g1])] at hh
    have hc1 : (chk n1 s1 h1 a1 b1 != 0) = true := by rw [chk_no g1]; rfl
    simp only [zeroG, Prod.mk.injEq, G.mk.injEq] at hh
    obtain ⟨⟨rfl, rfl, rfl, rfl, rfl⟩, rfl⟩ := hh
    clear g1
    go_enter Tryd.func6, Tryd.ntmps6
    go_wp2_with (go_at_call 11; refine (check_any _ _ _ _ _ _).mono ?_; rintro e w' ⟨rfl, rfl⟩)
    refine bodyPost_ret (v := .tuple #[.agg #[.int .i64 0, .int .i64 0, .int .i64 0, .int .i64 0, .int .i64 0], .int .i64 30]) (by simp [results, Tryd.results6, go_sem]) rfl ⟨rfl, ?_⟩
    repeat (first | refine Below.setCell ?_ (by simp) _ | refine andAlloc ?_ _ )
    exact Below.refl _ _
  · rw [if_pos (by simp [G.ok, g1])] at hh
    have hc1 : (chk n1 s1 h1 a1 b1 != 0) = false := by rw [chk_yes g1]; rfl
    obtain ⟨⟨x0, x1⟩, ⟨x2, x3⟩, ⟨x4, x5⟩, -, -⟩ := glueB_iff.1 g1
    have j1 := fun w => times_any n1 k w x0 x1
    have j2 := fun w => times_any s1 k w x2 x3
    have j3 := fun w => times_any h1 k w x4 x5
    simp only at hh
    generalize mulI n1 k = p at hh j1
    generalize mulI s1 k = q at hh j2
    generalize mulI h1 k = u at hh j3
    generalize mulOk n1 k = o1 at hh j1
    generalize mulOk s1 k = o2 at hh j2
    generalize mulOk h1 k = o3 at hh j3
    have J1 := Lib.hid j1
    have J2 := Lib.hid j2
    have J3 := Lib.hid j3
    have q3 := neq3 o1 o2 o3
    clear g1 j1 j2 j3
    cases hm : (!(o1 && o2 && o3))
    · rw [if_pos (by revert hm; cases o1 <;> cases o2 <;> cases o3 <;> simp)] at hh
      rw [hm] at q3
      have ht := tidy_calls hh rfl
      have HT := Lib.hid ht
      clear hh ht hm
      go_enter Tryd.func6, Tryd.ntmps6
      go_wp2_with (go_at_call 11; refine (check_any _ _ _ _ _ _).mono ?_; rintro e w' ⟨rfl, rfl⟩)
      refine (J1.out _).mono ?_
      rintro e w' ⟨rfl, rfl⟩
      go_wp2_with fail
      refine (J2.out _).mono ?_
      rintro e w' ⟨rfl, rfl⟩
      go_wp2_with fail
      refine (J3.out _).mono ?_
      rintro e w' ⟨rfl, rfl⟩
      go_wp2_with fail
      refine (HT.out _).mono ?_
      rintro e w3 ⟨rfl, hb3⟩
      obtain ⟨ho, hf⟩ := old_cells hb3
      go_wp2_with fail
      refine bodyPost_ret (v := .tuple #[.agg #[.int .i64 rn, .int .i64 rs, .int .i64 rh, .int .i64 ra, .int .i64 rb], .int .i64 E]) (by simp [results, Tryd.results6, go_sem, ho]) rfl ⟨rfl, ?_⟩
      iterate 5 refine Below.setCell ?_ (by first | (simp; done) | (simp; omega)) _
      refine andThen ?_ hb3
      repeat (first | refine Below.setCell ?_ (by simp) _ | refine andAlloc ?_ _ )
      exact Below.refl _ _
    · rw [if_neg (by revert hm; cases o1 <;> cases o2 <;> cases o3 <;> simp)] at hh
      rw [hm] at q3
      simp only [zeroG, Prod.mk.injEq, G.mk.injEq] at hh
      obtain ⟨⟨rfl, rfl, rfl, rfl, rfl⟩, rfl⟩ := hh
      clear hm
      go_enter Tryd.func6, Tryd.ntmps6
      go_wp2_with (go_at_call 11; refine (check_any _ _ _ _ _ _).mono ?_; rintro e w' ⟨rfl, rfl⟩)
      refine (J1.out _).mono ?_
      rintro e w' ⟨rfl, rfl⟩
      go_wp2_with fail
      refine (J2.out _).mono ?_
      rintro e w' ⟨rfl, rfl⟩
      go_wp2_with fail
      refine (J3.out _).mono ?_
      rintro e w' ⟨rfl, rfl⟩
      go_wp2_with fail
      refine bodyPost_ret (v := .tuple #[.agg #[.int .i64 0, .int .i64 0, .int .i64 0, .int .i64 0, .int .i64 0], .int .i64 20]) (by simp [results, Tryd.results6, go_sem]) rfl ⟨rfl, ?_⟩
      repeat (first | refine Below.setCell ?_ (by simp) _ | refine andAlloc ?_ _ )
      exact Below.refl _ _

theorem tdiv_bd {x n : Int} (h0 : -1073741823 ≤ x) (h1 : x ≤ 1073741823) : -1073741823 ≤ x.tdiv n ∧ x.tdiv n ≤ 1073741823 := by
  have h : (x.tdiv n).natAbs ≤ x.natAbs := by rw [Int.natAbs_tdiv]; exact Nat.div_le_self _ _
  omega

theorem over_any (n1 s1 h1 a1 b1 k rn rs rh ra rb : Int) (E : Int) (hh : overG ⟨n1, s1, h1, a1, b1⟩ k = (⟨rn, rs, rh, ra, rb⟩, E)) (w : World) :
    Calls Tryd.prog 8 #[.agg #[.int .i64 n1, .int .i64 s1, .int .i64 h1, .int .i64 a1, .int .i64 b1], .int .i64 k] w fun e w' =>
      e = .returned (.tuple #[.agg #[.int .i64 rn, .int .i64 rs, .int .i64 rh, .int .i64 ra, .int .i64 rb], .int .i64 E]) ∧ Below w.heap.size w w' := by
  unfold overG at hh
  cases g1 : glueB n1 s1 h1 a1 b1
  · rw [if_neg (by simp [G.ok, g1])] at hh
    have hc1 : (chk n1 s1 h1 a1 b1 != 0) = true := by rw [chk_no g1]; rfl
    simp only [zeroG, Prod.mk.injEq, G.mk.injEq] at hh
    obtain ⟨⟨rfl, rfl, rfl, rfl, rfl⟩, rfl⟩ := hh
    clear g1
    go_enter Tryd.func8, Tryd.ntmps8
    go_wp2_with (go_at_call 11; refine (check_any _ _ _ _ _ _).mono ?_; rintro e w' ⟨rfl, rfl⟩)
    refine bodyPost_ret (v := .tuple #[.agg #[.int .i64 0, .int .i64 0, .int .i64 0, .int .i64 0, .int .i64 0], .int .i64 30]) (by simp [results, Tryd.results8, go_sem]) rfl ⟨rfl, ?_⟩
    repeat (first | refine Below.setCell ?_ (by simp) _ | refine andAlloc ?_ _ )
    exact Below.refl _ _
  · rw [if_pos (by simp [G.ok, g1])] at hh
    have hc1 : (chk n1 s1 h1 a1 b1 != 0) = false := by rw [chk_yes g1]; rfl
    obtain ⟨⟨x0, x1⟩, ⟨x2, x3⟩, ⟨x4, x5⟩, -, -⟩ := glueB_iff.1 g1
    by_cases hk : k = 0
    · rw [if_pos hk] at hh
      have hk' : (k == 0) = true := by simp [hk]
      simp only [zeroG, Prod.mk.injEq, G.mk.injEq] at hh
      obtain ⟨⟨rfl, rfl, rfl, rfl, rfl⟩, rfl⟩ := hh
      clear g1 hk
      go_enter Tryd.func8, Tryd.ntmps8
      go_wp2_with (go_at_call 11; refine (check_any _ _ _ _ _ _).mono ?_; rintro e w' ⟨rfl, rfl⟩)
      refine bodyPost_ret (v := .tuple #[.agg #[.int .i64 0, .int .i64 0, .int .i64 0, .int .i64 0, .int .i64 0], .int .i64 20]) (by simp [results, Tryd.results8, go_sem]) rfl ⟨rfl, ?_⟩
      repeat (first | refine Below.setCell ?_ (by simp) _ | refine andAlloc ?_ _ )
      exact Below.refl _ _
    · rw [if_neg hk] at hh
      have hk' : (k == 0) = false := by simp [hk]
      obtain ⟨z0, z1⟩ := tdiv_bd (n := k) x0 x1
      obtain ⟨z2, z3⟩ := tdiv_bd (n := k) x2 x3
      obtain ⟨z4, z5⟩ := tdiv_bd (n := k) x4 x5
      have ht := tidy_calls hh rfl
      have HT := Lib.hid ht
      clear hh ht g1
      go_enter Tryd.func8, Tryd.ntmps8
      go_wp2_with (go_at_call 11; refine (check_any _ _ _ _ _ _).mono ?_; rintro e w' ⟨rfl, rfl⟩)
      go_region
      go_wp2_with fail
      refine (HT.out _).mono ?_
      rintro e w3 ⟨rfl, hb3⟩
      obtain ⟨ho, hf⟩ := old_cells hb3
      go_wp2_with fail
      refine bodyPost_ret (v := .tuple #[.agg #[.int .i64 rn, .int .i64 rs, .int .i64 rh, .int .i64 ra, .int .i64 rb], .int .i64 E]) (by simp [results, Tryd.results8, go_sem, ho]) rfl ⟨rfl, ?_⟩
      iterate 5 refine Below.setCell ?_ (by first | (simp; done) | (simp; omega)) _
      refine andThen ?_ hb3
      repeat (first | exact Below.refl _ _ | refine Below.drew ?_ | refine below_drewN ?_ _ | refine Below.setCell ?_ (by first | (simp; done) | (simp; omega)) _ | refine andAlloc ?_ _ )
end Go.Proofs.YtdjpfhmhcocfeaaDoor.Gl
