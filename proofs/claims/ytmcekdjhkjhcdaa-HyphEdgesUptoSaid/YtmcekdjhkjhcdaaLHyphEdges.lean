import Derived.Test.YtmcekdjhkjhcdaaHx
import Derived.Test.YtmcekdjhkjhcdaaHop
import Derived.Test.YtmcekdjhkjhcdaaLift
import Derived.Test.YtmcekdjhkjhcdaaLeaf
/- HyphEdges: farther from the ends there are just those points that are still far enough; a piece's values are no more than the whole's. Conditions: what comes in is of bulk at most 1048576 (the second form). -/
namespace Go.Proofs.Ytmcekdjhkjhcdaa.HyphEdges
open Go.ChangeShapes Go.WideShapes Go.ChangeAt Go.RowKit
open Go.ChangeMaps (open_string)
set_option linter.unusedVariables false

theorem own : ownKnob Try.prog.godebug = none := by kernel_rfl
theorem laidOut : laidOutB Try.prog = true := by kernel_rfl

set_option maxRecDepth 100000 in
theorem contract (H : Type) (enc : TypeId × Value → H) (W : World) (base : Nat) (args : Array Value) (ds gs : List (DataW H)) (before : List MemPlace)
    (hval0 : ∀ (j : Nat) t v, Try.f6.params[j]? = some t → args[j]? = some v → Value.okWide Try.prog W .any base t v)
    (hW : DataW.Whole enc Try.prog Try.f6.params.toList Rows.hyphEdgesSpec.vars false W args.toList ds gs before) (hk : Rows.uptoSmall H (ds ++ gs) = true) :
    Calls Try.prog 6 args W fun e W' => ∃ v, e = .returned v ∧ Rows.hyphEdgesSpec.post enc Try.prog Try.f6 false true false false W args v W' := by
  have hval : ∀ (j : Nat) t v, Try.f6.params[j]? = some t → args[j]? = some v → Value.okWide Try.prog W .any base t v := hval0
  have hW' := hW
  obtain ⟨p, q, hA0, hV, he, hfz, hnd⟩ := hW
  have hA : DataW.TrodAll enc Try.prog W 0 (fun _ => true) true Try.f6.params.toList args.toList ds p := hA0
  rw [Try.params6] at hA hval
  obtain ⟨rfl, rfl⟩ := trodVars_none hV
  rw [List.append_nil] at he hk
  subst he
  have hbd : Rows.uptoBulkAll ds ≤ 1048576 := of_decide_eq_true hk
  obtain ⟨v0, vs0, d0, ds0, p0, q0, hargs, rfl, rfl, h0, r0⟩ := trodAll_cons hA
  obtain ⟨v1, vs1, d1, ds1, p1, q1, rfl, rfl, rfl, h1, r1⟩ := trodAll_cons r0
  obtain ⟨v2, vs2, d2, ds2, p2, q2, rfl, rfl, rfl, h2, r2⟩ := trodAll_cons r1
  obtain ⟨v3, vs3, d3, ds3, p3, q3, rfl, rfl, rfl, h3, r3⟩ := trodAll_cons r2
  obtain ⟨v4, vs4, d4, ds4, p4, q4, rfl, rfl, rfl, h4, r4⟩ := trodAll_cons r3
  obtain ⟨v5, vs5, d5, ds5, p5, q5, rfl, rfl, rfl, h5, r5⟩ := trodAll_cons r4
  obtain ⟨rfl, rfl, rfl⟩ := trodAll_nil r5
  obtain rfl : args = #[v0, v1, v2, v3, v4, v5] := by cases args; simp_all
  have b0 : Rows.uptoBulk d0 ≤ 1048576 := Nat.le_trans (Hy.part_le (by simp)) hbd
  have b1 : Rows.uptoBulk d1 ≤ 1048576 := Nat.le_trans (Hy.part_le (by simp)) hbd
  have b2 : Rows.uptoBulk d2 ≤ 1048576 := Nat.le_trans (Hy.part_le (by simp)) hbd
  have b3 : Rows.uptoBulk d3 ≤ 1048576 := Nat.le_trans (Hy.part_le (by simp)) hbd
  have b4 : Rows.uptoBulk d4 ≤ 1048576 := Nat.le_trans (Hy.part_le (by simp)) hbd
  have b5 : Rows.uptoBulk d5 ≤ 1048576 := Nat.le_trans (Hy.part_le (by simp)) hbd
  obtain ⟨A0, ts0, c0, rfl, hc0, hn0, hs0, hg0, hz0⟩ := Hy.texts_of Try.underlying41 Try.underlying9 (by kernel_rfl) (hval 0 41 v0 rfl rfl) h0 b0
  obtain ⟨s1, rfl, rfl, rfl, _⟩ := open_string Try.underlying9 (hval 1 9 v1 rfl rfl) h1
  have hs1 : s1.size ≤ 1048576 := by have := Hy.text_le b1; rwa [Hy.size_list] at this
  obtain ⟨a2, rfl, rfl, rfl, w2⟩ := open_int Try.underlying3 (hval 2 3 v2 rfl rfl) h2
  obtain ⟨a3, rfl, rfl, rfl, w3⟩ := open_int Try.underlying3 (hval 3 3 v3 rfl rfl) h3
  obtain ⟨a4, rfl, rfl, rfl, w4⟩ := open_int Try.underlying3 (hval 4 3 v4 rfl rfl) h4
  obtain ⟨a5, rfl, rfl, rfl, w5⟩ := open_int Try.underlying3 (hval 5 3 v5 rfl rfl) h5
  clear hA0 hval0
  refine (Hy.edges_walk A0 ts0 c0 s1 a2 a3 a4 a5 W hn0 hc0 hs0 hs1 w2 w3 w4 w5 hg0).mono fun e W' ⟨he, hb⟩ => ?_
  subst he
  exact ⟨_, rfl, Li.law_post laidOut rfl hW' (by kernel_rfl) rfl rfl rfl rfl Try.underlying4 hb⟩

set_option maxRecDepth 100000 in
theorem lifted (os : Os) (started : os.Started) (H : Type) (enc : TypeId × Value → H) (F : Stop.Interp) :
    ReturnsInHanded {} Try.checked os 6 .any ((Rows.OpenSpec.upto Rows.hyphEdgesSpec).pre6 enc Try.prog Try.f6 Rows.hyphEdgesUptoRow.domain false) (((Rows.OpenSpec.upto Rows.hyphEdgesSpec).at F).post enc Try.prog Try.f6 false true false false) := by
  refine returnsInHanded_of_cond (C := Try.checked) (s := Rows.OpenSpec.upto Rows.hyphEdgesSpec) (k := Rows.uptoSmall) rfl own started (by kernel_rfl) Try.func6
    (OpenSpec.witness (enc := enc) (C := Try.checked) (s := Rows.OpenSpec.upto Rows.hyphEdgesSpec) (k := Rows.uptoSmall) rfl false ⟨#[], #[.slice none 0 0, .string .empty, .int .i64 0, .int .i64 0, .int .i64 0, .int .i64 0], []⟩ 8 (by kernel_rfl) (by kernel_rfl) (by kernel_rfl)
      (x := ([.nil, .lit (.string []), .lit (.int .i64 0), .lit (.int .i64 0), .lit (.int .i64 0), .lit (.int .i64 0)], [], [])) (by kernel_rfl) rfl (by kernel_rfl)) ?_
  intro W base args ds gs before hval hW _ hk _
  exact contract H enc W base args ds gs before hval hW hk

theorem over : Rows.hyphEdgesUptoRow.holds Try.pinned (Rows.OpenSpec.upto Rows.hyphEdgesSpec) :=
  OpenClaim.holds_of_cond 6 Try.f6 rfl rfl rfl rfl rfl rfl rfl ⟨rfl, rfl, rfl, rfl, rfl⟩ rfl rfl rfl rfl rfl (by kernel_rfl) Try.func6 (by kernel_rfl)
    (of_decide_eq_true (by kernel_rfl)) (by unfold Func.isWrapper; first | (rw [if_pos (by decide +kernel)]; kernel_rfl) | (rw [if_neg (by decide +kernel)]; exact ⟨rfl, rfl⟩))
    (fun os started H enc _ F => lifted os started H enc F)

theorem proved : Rows.HyphEdgesUptoSaid := over
#print axioms proved
end Go.Proofs.Ytmcekdjhkjhcdaa.HyphEdges

