import Derived.Test.YtdjpfhmhcocfeaaGlueW
import Derived.Test.YtdjpfhmhcocfeaaLift
import Derived.Test.YtdjpfhmhcocfeaaLeaf
/- GlueLaws: sums of glue commute and associate; twice is by two; divided, a product is itself. No conditions. -/
namespace Go.Proofs.Ytdjpfhmhcocfeaa.GlueLaws
open Gl
open Go.ChangeShapes Go.WideShapes Go.ChangeAt Go.RowKit
set_option linter.unusedVariables false

theorem own : ownKnob Try.prog.godebug = none := by kernel_rfl
theorem laidOut : laidOutB Try.prog = true := by kernel_rfl

set_option maxRecDepth 100000 in
theorem lifted (os : Os) (started : os.Started) (H : Type) (enc : TypeId × Value → H) :
    ReturnsInHanded {} Try.checked os 8 .any (Rows.glueLawsSpec.pre6 enc Try.prog Try.f8 Rows.glueLawsRow.domain false) (Rows.glueLawsSpec.post enc Try.prog Try.f8 false true false false) := by
  refine returnsInHanded_of_change_sized (C := Try.checked) own started (by kernel_rfl) Try.func8
    (ChangeSpec.witness6 (enc := enc) (C := Try.checked) false ⟨#[], #[.agg #[.int .i64 0, .int .i64 0, .int .i64 0, .int .i64 0, .int .i64 0], .agg #[.int .i64 0, .int .i64 0, .int .i64 0, .int .i64 0, .int .i64 0], .agg #[.int .i64 0, .int .i64 0, .int .i64 0, .int .i64 0, .int .i64 0], .int .i64 0], []⟩ 8 (by kernel_rfl) (by kernel_rfl) (by kernel_rfl) (by kernel_rfl)) ?_
  intro W base args ds gs before hval0 hW _ hsz0 _
  have hval : ∀ (j : Nat) t v, Try.f8.params[j]? = some t → args[j]? = some v → Value.okWide Try.prog W .any base t v := hval0
  have hsz : (DataW.weightsEach Try.prog (Try.f8.params.toList ++ Rows.glueLawsSpec.plain.varTypes Try.prog) (ds ++ gs)).all (· ≤ reachBytes) = true := hsz0
  have hW' := hW
  have hlt0 := hW.lt
  obtain ⟨p, q, hA0, hV, he, hfz, hnd⟩ := hW
  have hA : DataW.TrodAll enc Try.prog W 0 (fun _ => true) true Try.f8.params.toList args.toList ds p := hA0
  rw [Try.params8] at hA hval hsz
  obtain ⟨rfl, rfl⟩ := trodVars_none hV
  rw [List.append_nil] at he
  subst he
  obtain ⟨v0, vs0, d0, ds0, p0, q0, hargs, rfl, rfl, h0, r0⟩ := trodAll_cons hA
  obtain ⟨v1, vs1, d1, ds1, p1, q1, rfl, rfl, rfl, h1, r1⟩ := trodAll_cons r0
  obtain ⟨v2, vs2, d2, ds2, p2, q2, rfl, rfl, rfl, h2, r2⟩ := trodAll_cons r1
  obtain ⟨v3, vs3, d3, ds3, p3, q3, rfl, rfl, rfl, h3, r3⟩ := trodAll_cons r2
  obtain ⟨rfl, rfl, rfl⟩ := trodAll_nil r3
  obtain rfl : args = #[v0, v1, v2, v3] := by cases args; simp_all
  have k0 : ∀ x ∈ p0, x.block < W.heap.size := fun x hx => hlt0 x (by simp [hx])
  have k1 : ∀ x ∈ p1, x.block < W.heap.size := fun x hx => hlt0 x (by simp [hx])
  have k2 : ∀ x ∈ p2, x.block < W.heap.size := fun x hx => hlt0 x (by simp [hx])
  have k3 : ∀ x ∈ p3, x.block < W.heap.size := fun x hx => hlt0 x (by simp [hx])
  obtain ⟨cs0, hcs0, hcl0⟩ := Le.open_flat 8 (List.replicate 5 3) Try.underlying37 (by kernel_rfl) (by kernel_rfl) (by kernel_rfl) (hval 0 37 v0 rfl rfl) h0
  obtain ⟨zs0, hz0, rfl, hwf0⟩ := Le.cells_ints Try.underlying3 hcl0
  obtain ⟨xn, xs, xh, xa, xb, rfl⟩ : ∃ xn xs xh xa xb, zs0 = [xn, xs, xh, xa, xb] := by
    match zs0, hz0 with
    | [xn, xs, xh, xa, xb], _ => exact ⟨xn, xs, xh, xa, xb, rfl⟩
  simp only [List.map_cons, List.map_nil] at hcs0
  obtain rfl : v0 = .agg #[.int .i64 xn, .int .i64 xs, .int .i64 xh, .int .i64 xa, .int .i64 xb] := hcs0
  obtain ⟨cs1, hcs1, hcl1⟩ := Le.open_flat 8 (List.replicate 5 3) Try.underlying37 (by kernel_rfl) (by kernel_rfl) (by kernel_rfl) (hval 1 37 v1 rfl rfl) h1
  obtain ⟨zs1, hz1, rfl, hwf1⟩ := Le.cells_ints Try.underlying3 hcl1
  obtain ⟨yn, ys, yh, ya, yb, rfl⟩ : ∃ yn ys yh ya yb, zs1 = [yn, ys, yh, ya, yb] := by
    match zs1, hz1 with
    | [yn, ys, yh, ya, yb], _ => exact ⟨yn, ys, yh, ya, yb, rfl⟩
  simp only [List.map_cons, List.map_nil] at hcs1
  obtain rfl : v1 = .agg #[.int .i64 yn, .int .i64 ys, .int .i64 yh, .int .i64 ya, .int .i64 yb] := hcs1
  obtain ⟨cs2, hcs2, hcl2⟩ := Le.open_flat 8 (List.replicate 5 3) Try.underlying37 (by kernel_rfl) (by kernel_rfl) (by kernel_rfl) (hval 2 37 v2 rfl rfl) h2
  obtain ⟨zs2, hz2, rfl, hwf2⟩ := Le.cells_ints Try.underlying3 hcl2
  obtain ⟨zn, zs, zh, za, zb, rfl⟩ : ∃ zn zs zh za zb, zs2 = [zn, zs, zh, za, zb] := by
    match zs2, hz2 with
    | [zn, zs, zh, za, zb], _ => exact ⟨zn, zs, zh, za, zb, rfl⟩
  simp only [List.map_cons, List.map_nil] at hcs2
  obtain rfl : v2 = .agg #[.int .i64 zn, .int .i64 zs, .int .i64 zh, .int .i64 za, .int .i64 zb] := hcs2
  obtain ⟨a3, rfl, rfl, rfl, w3⟩ := open_int Try.underlying3 (hval 3 3 v3 rfl rfl) h3
  clear hA0 hval0
  refine (laws_any xn xs xh xa xb yn ys yh ya yb zn zs zh za zb a3 W).mono fun e W' ⟨he, hb⟩ => ?_
  subst he
  exact ⟨_, rfl, Li.law_post laidOut rfl hW' (by kernel_rfl) rfl rfl rfl rfl Try.underlying4 hb⟩

theorem over : Rows.glueLawsRow.holds Try.pinned (OpenSpec.ofChange Rows.glueLawsSpec) :=
  OpenClaim.holds_of_wide 8 Try.f8 rfl rfl rfl rfl rfl rfl rfl ⟨rfl, rfl, rfl, rfl, rfl⟩ rfl rfl rfl rfl rfl (by kernel_rfl) Try.func8 (by kernel_rfl)
    (of_decide_eq_true (by kernel_rfl)) (by unfold Func.isWrapper; first | (rw [if_pos (by decide +kernel)]; kernel_rfl) | (rw [if_neg (by decide +kernel)]; exact ⟨rfl, rfl⟩))
    (fun os started H enc _ => lifted os started H enc)

theorem proved : Rows.GlueLawsSaid := over
#print axioms proved
end Go.Proofs.Ytdjpfhmhcocfeaa.GlueLaws
