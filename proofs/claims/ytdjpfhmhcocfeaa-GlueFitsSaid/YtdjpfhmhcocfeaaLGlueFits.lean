import Derived.Test.YtdjpfhmhcocfeaaFitW
import Derived.Test.YtdjpfhmhcocfeaaFitR
import Derived.Test.YtdjpfhmhcocfeaaGlueJ
import Derived.Test.YtdjpfhmhcocfeaaLift
import Derived.Test.YtdjpfhmhcocfeaaLeaf
/- GlueFits: every Fit is the document's. No conditions. -/
namespace Go.Proofs.Ytdjpfhmhcocfeaa.GlueFits
open Gl
open Go.ChangeShapes Go.WideShapes Go.ChangeAt Go.RowKit
set_option linter.unusedVariables false

/-- Both answer the same, whatever it is. -/
theorem both (n a b c d p q r s ex : Int) : ∃ A B C D E : Int,
    (∀ w, Calls Try.prog 17 #[.agg #[.int .i64 n, .int .i64 a, .int .i64 b, .int .i64 c, .int .i64 d, .int .i64 p, .int .i64 q, .int .i64 r, .int .i64 s], .int .i64 ex] w fun e w' =>
      e = .returned (.tuple #[.int .i64 A, .int .i64 B, .int .i64 C, .int .i64 D, .int .i64 E]) ∧ Below w.heap.size w w') ∧
    (∀ w, Calls Try.prog 18 #[.agg #[.int .i64 n, .int .i64 a, .int .i64 b, .int .i64 c, .int .i64 d, .int .i64 p, .int .i64 q, .int .i64 r, .int .i64 s], .int .i64 ex] w fun e w' =>
      e = .returned (.tuple #[.int .i64 A, .int .i64 B, .int .i64 C, .int .i64 D, .int .i64 E]) ∧ Below w.heap.size w w') := by
  cases e0 : nearB ex
  · exact ⟨_, _, _, _, _, fun w => fit_bad0 n a b c d p q r s ex w e0, fun w => ref_bad0 n a b c d p q r s ex w e0⟩
  ·
    cases e1 : nearB a
    · exact ⟨_, _, _, _, _, fun w => fit_bad1 n a b c d p q r s ex w e0 e1, fun w => ref_bad1 n a b c d p q r s ex w e0 e1⟩
    ·
      cases e2 : nearB p
      · exact ⟨_, _, _, _, _, fun w => fit_bad2 n a b c d p q r s ex w e0 e1 e2, fun w => ref_bad2 n a b c d p q r s ex w e0 e1 e2⟩
      ·
        cases e3 : nearB b
        · exact ⟨_, _, _, _, _, fun w => fit_bad3 n a b c d p q r s ex w e0 e1 e2 e3, fun w => ref_bad3 n a b c d p q r s ex w e0 e1 e2 e3⟩
        ·
          cases e4 : nearB q
          · exact ⟨_, _, _, _, _, fun w => fit_bad4 n a b c d p q r s ex w e0 e1 e2 e3 e4, fun w => ref_bad4 n a b c d p q r s ex w e0 e1 e2 e3 e4⟩
          ·
            cases e5 : nearB c
            · exact ⟨_, _, _, _, _, fun w => fit_bad5 n a b c d p q r s ex w e0 e1 e2 e3 e4 e5, fun w => ref_bad5 n a b c d p q r s ex w e0 e1 e2 e3 e4 e5⟩
            ·
              cases e6 : nearB r
              · exact ⟨_, _, _, _, _, fun w => fit_bad6 n a b c d p q r s ex w e0 e1 e2 e3 e4 e5 e6, fun w => ref_bad6 n a b c d p q r s ex w e0 e1 e2 e3 e4 e5 e6⟩
              ·
                cases e7 : nearB d
                · exact ⟨_, _, _, _, _, fun w => fit_bad7 n a b c d p q r s ex w e0 e1 e2 e3 e4 e5 e6 e7, fun w => ref_bad7 n a b c d p q r s ex w e0 e1 e2 e3 e4 e5 e6 e7⟩
                ·
                  cases e8 : nearB s
                  · exact ⟨_, _, _, _, _, fun w => fit_bad8 n a b c d p q r s ex w e0 e1 e2 e3 e4 e5 e6 e7 e8, fun w => ref_bad8 n a b c d p q r s ex w e0 e1 e2 e3 e4 e5 e6 e7 e8⟩
                  ·
                    have hx0 := (nearB_iff.1 e0).1
                    rcases (show 0 < ex ∨ ex < 0 ∨ ex = 0 by omega) with hx | hx | hx
                    · rcases great_cases a b c d with ⟨g, h0, h1, h2, h3⟩ | ⟨g, h0, h1, h2, h3⟩ | ⟨g, h0, h1, h2⟩ | ⟨g, h0, h1⟩ | ⟨g, h0⟩
                      · exact ⟨_, _, _, _, _, fun w => fit_upm n a b c d p q r s ex w e0 e1 e2 e3 e4 e5 e6 e7 e8 hx0 hx g, fun w => ref_upm n a b c d p q r s ex w e0 e1 e2 e3 e4 e5 e6 e7 e8 hx0 hx g h3 h2 h1 h0⟩
                      · exact ⟨_, _, _, _, _, fun w => fit_up0 n a b c d p q r s ex w e0 e1 e2 e3 e4 e5 e6 e7 e8 hx0 hx g, fun w => ref_up0 n a b c d p q r s ex w e0 e1 e2 e3 e4 e5 e6 e7 e8 hx0 hx g h3 h2 h1 h0⟩
                      · exact ⟨_, _, _, _, _, fun w => fit_up1 n a b c d p q r s ex w e0 e1 e2 e3 e4 e5 e6 e7 e8 hx0 hx g, fun w => ref_up1 n a b c d p q r s ex w e0 e1 e2 e3 e4 e5 e6 e7 e8 hx0 hx g h2 h1 h0⟩
                      · exact ⟨_, _, _, _, _, fun w => fit_up2 n a b c d p q r s ex w e0 e1 e2 e3 e4 e5 e6 e7 e8 hx0 hx g, fun w => ref_up2 n a b c d p q r s ex w e0 e1 e2 e3 e4 e5 e6 e7 e8 hx0 hx g h1 h0⟩
                      · exact ⟨_, _, _, _, _, fun w => fit_up3 n a b c d p q r s ex w e0 e1 e2 e3 e4 e5 e6 e7 e8 hx0 hx g, fun w => ref_up3 n a b c d p q r s ex w e0 e1 e2 e3 e4 e5 e6 e7 e8 hx0 hx g h0⟩
                    · rcases great_cases p q r s with ⟨g, h0, h1, h2, h3⟩ | ⟨g, h0, h1, h2, h3⟩ | ⟨g, h0, h1, h2⟩ | ⟨g, h0, h1⟩ | ⟨g, h0⟩
                      · exact ⟨_, _, _, _, _, fun w => fit_downm n a b c d p q r s ex w e0 e1 e2 e3 e4 e5 e6 e7 e8 hx0 hx g, fun w => ref_downm n a b c d p q r s ex w e0 e1 e2 e3 e4 e5 e6 e7 e8 hx0 hx g h3 h2 h1 h0⟩
                      · by_cases hm : p < -ex
                        · exact ⟨_, _, _, _, _, fun w => fit_down0 n a b c d p q r s ex w e0 e1 e2 e3 e4 e5 e6 e7 e8 hx0 hx g, fun w => ref_downm0 n a b c d p q r s ex w e0 e1 e2 e3 e4 e5 e6 e7 e8 hx0 hx g h3 h2 h1 h0 hm⟩
                        · exact ⟨_, _, _, _, _, fun w => fit_down0 n a b c d p q r s ex w e0 e1 e2 e3 e4 e5 e6 e7 e8 hx0 hx g, fun w => ref_down0 n a b c d p q r s ex w e0 e1 e2 e3 e4 e5 e6 e7 e8 hx0 hx g h3 h2 h1 h0 hm⟩
                      · exact ⟨_, _, _, _, _, fun w => fit_down1 n a b c d p q r s ex w e0 e1 e2 e3 e4 e5 e6 e7 e8 hx0 hx g, fun w => ref_down1 n a b c d p q r s ex w e0 e1 e2 e3 e4 e5 e6 e7 e8 hx0 hx g h2 h1 h0⟩
                      · exact ⟨_, _, _, _, _, fun w => fit_down2 n a b c d p q r s ex w e0 e1 e2 e3 e4 e5 e6 e7 e8 hx0 hx g, fun w => ref_down2 n a b c d p q r s ex w e0 e1 e2 e3 e4 e5 e6 e7 e8 hx0 hx g h1 h0⟩
                      · exact ⟨_, _, _, _, _, fun w => fit_down3 n a b c d p q r s ex w e0 e1 e2 e3 e4 e5 e6 e7 e8 hx0 hx g, fun w => ref_down3 n a b c d p q r s ex w e0 e1 e2 e3 e4 e5 e6 e7 e8 hx0 hx g h0⟩
                    · subst hx
                      exact ⟨_, _, _, _, _, fun w => fit_zero n a b c d p q r s w e0 e1 e2 e3 e4 e5 e6 e7 e8, fun w => ref_zero n a b c d p q r s w e0 e1 e2 e3 e4 e5 e6 e7 e8⟩

theorem walk (n a b c d p q r s ex : Int) (w : World) :
    Calls Try.prog 6 #[.agg #[.int .i64 n, .int .i64 a, .int .i64 b, .int .i64 c, .int .i64 d, .int .i64 p, .int .i64 q, .int .i64 r, .int .i64 s], .int .i64 ex] w fun e w' => e = .returned (.bool true) ∧ Below w.heap.size w w' := by
  obtain ⟨A, B, C, D, E, h1, h2⟩ := both n a b c d p q r s ex
  have H1 := Lib.hid h1
  have H2 := Lib.hid h2
  clear h1 h2
  go_enter Try.func6, Try.ntmps6
  go_wp2_with (first | (go_at_call 17; refine (H1.out _).mono ?_; rintro e w1 ⟨rfl, hb1⟩; obtain ⟨hc1, hf1⟩ := Me.old_cells hb1) | (go_at_call 18; refine (H2.out _).mono ?_; rintro e w2 ⟨rfl, hb2⟩) | (go_at_call 11; refine (num_any _ _).mono ?_; rintro e w' ⟨rfl, rfl⟩) | (go_at_call 12; refine (live_any _).mono ?_; rintro e w3 ⟨rfl, hb3⟩))
  go_ret
  exact ⟨rfl, Me.andThen (Me.andThen (Me.andThen (Me.andAlloc (Below.refl _ _) _) hb1) hb2) hb3⟩

theorem own : ownKnob Try.prog.godebug = none := by kernel_rfl
theorem laidOut : laidOutB Try.prog = true := by kernel_rfl

set_option maxRecDepth 100000 in
theorem lifted (os : Os) (started : os.Started) (H : Type) (enc : TypeId × Value → H) :
    ReturnsInHanded {} Try.checked os 6 .any (Rows.glueFitsSpec.pre6 enc Try.prog Try.f6 Rows.glueFitsRow.domain false) (Rows.glueFitsSpec.post enc Try.prog Try.f6 false true false false) := by
  refine returnsInHanded_of_change_sized (C := Try.checked) own started (by kernel_rfl) Try.func6
    (ChangeSpec.witness6 (enc := enc) (C := Try.checked) false ⟨#[], #[.agg #[.int .i64 0, .int .i64 0, .int .i64 0, .int .i64 0, .int .i64 0, .int .i64 0, .int .i64 0, .int .i64 0, .int .i64 0], .int .i64 0], []⟩ 8 (by kernel_rfl) (by kernel_rfl) (by kernel_rfl) (by kernel_rfl)) ?_
  intro W base args ds gs before hval0 hW _ hsz0 _
  have hval : ∀ (j : Nat) t v, Try.f6.params[j]? = some t → args[j]? = some v → Value.okWide Try.prog W .any base t v := hval0
  have hsz : (DataW.weightsEach Try.prog (Try.f6.params.toList ++ Rows.glueFitsSpec.plain.varTypes Try.prog) (ds ++ gs)).all (· ≤ reachBytes) = true := hsz0
  have hW' := hW
  have hlt0 := hW.lt
  obtain ⟨p, q, hA0, hV, he, hfz, hnd⟩ := hW
  have hA : DataW.TrodAll enc Try.prog W 0 (fun _ => true) true Try.f6.params.toList args.toList ds p := hA0
  rw [Try.params6] at hA hval hsz
  obtain ⟨rfl, rfl⟩ := trodVars_none hV
  rw [List.append_nil] at he
  subst he
  obtain ⟨v0, vs0, d0, ds0, p0, q0, hargs, rfl, rfl, h0, r0⟩ := trodAll_cons hA
  obtain ⟨v1, vs1, d1, ds1, p1, q1, rfl, rfl, rfl, h1, r1⟩ := trodAll_cons r0
  obtain ⟨rfl, rfl, rfl⟩ := trodAll_nil r1
  obtain rfl : args = #[v0, v1] := by cases args; simp_all
  have k0 : ∀ x ∈ p0, x.block < W.heap.size := fun x hx => hlt0 x (by simp [hx])
  have k1 : ∀ x ∈ p1, x.block < W.heap.size := fun x hx => hlt0 x (by simp [hx])
  obtain ⟨cs0, hcs0, hcl0⟩ := Le.open_flat 8 (List.replicate 9 3) Try.underlying45 (by kernel_rfl) (by kernel_rfl) (by kernel_rfl) (hval 0 45 v0 rfl rfl) h0
  obtain ⟨zs0, hz0, rfl, hwf0⟩ := Le.cells_ints Try.underlying3 hcl0
  obtain ⟨n, a, b, c, d, p, q, r, s, rfl⟩ : ∃ n a b c d p q r s, zs0 = [n, a, b, c, d, p, q, r, s] := by
    match zs0, hz0 with
    | [n, a, b, c, d, p, q, r, s], _ => exact ⟨n, a, b, c, d, p, q, r, s, rfl⟩
  simp only [List.map_cons, List.map_nil] at hcs0
  obtain rfl : v0 = .agg #[.int .i64 n, .int .i64 a, .int .i64 b, .int .i64 c, .int .i64 d, .int .i64 p, .int .i64 q, .int .i64 r, .int .i64 s] := hcs0
  obtain ⟨a1, rfl, rfl, rfl, w1⟩ := open_int Try.underlying3 (hval 1 3 v1 rfl rfl) h1
  clear hA0 hval0
  refine (walk n a b c d p q r s a1 W).mono fun e W' ⟨he, hb⟩ => ?_
  subst he
  exact ⟨_, rfl, Li.law_post laidOut rfl hW' (by kernel_rfl) rfl rfl rfl rfl Try.underlying4 hb⟩

theorem over : Rows.glueFitsRow.holds Try.pinned (OpenSpec.ofChange Rows.glueFitsSpec) :=
  OpenClaim.holds_of_wide 6 Try.f6 rfl rfl rfl rfl rfl rfl rfl ⟨rfl, rfl, rfl, rfl, rfl⟩ rfl rfl rfl rfl rfl (by kernel_rfl) Try.func6 (by kernel_rfl)
    (of_decide_eq_true (by kernel_rfl)) (by unfold Func.isWrapper; first | (rw [if_pos (by decide +kernel)]; kernel_rfl) | (rw [if_neg (by decide +kernel)]; exact ⟨rfl, rfl⟩))
    (fun os started H enc _ => lifted os started H enc)

theorem proved : Rows.GlueFitsSaid := over
#print axioms proved
end Go.Proofs.Ytdjpfhmhcocfeaa.GlueFits
