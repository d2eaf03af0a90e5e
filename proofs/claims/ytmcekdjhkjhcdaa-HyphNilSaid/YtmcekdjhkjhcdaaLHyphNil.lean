import Derived.Test.YtmcekdjhkjhcdaaHnop
import Derived.Test.YtmcekdjhkjhcdaaLift
import Derived.Test.YtmcekdjhkjhcdaaLeaf
/- HyphNil: none, and one that nobody made, refuse all. No conditions. -/
namespace Go.Proofs.Ytmcekdjhkjhcdaa.HyphNil
open Go.ChangeShapes Go.WideShapes Go.ChangeAt Go.RowKit
set_option linter.unusedVariables false

theorem own : ownKnob Try.prog.godebug = none := by kernel_rfl
theorem laidOut : laidOutB Try.prog = true := by kernel_rfl

set_option maxRecDepth 100000 in
theorem lifted (os : Os) (started : os.Started) (H : Type) (enc : TypeId × Value → H) :
    ReturnsInHanded {} Try.checked os 14 .any (Rows.hyphNilSpec.pre6 enc Try.prog Try.f14 Rows.hyphNilRow.domain false) (Rows.hyphNilSpec.post enc Try.prog Try.f14 false true false false) := by
  refine returnsInHanded_of_change_sized (C := Try.checked) own started (by kernel_rfl) Try.func14
    (ChangeSpec.witness6 (enc := enc) (C := Try.checked) false ⟨#[], #[.slice none 0 0], []⟩ 8 (by kernel_rfl) (by kernel_rfl) (by kernel_rfl) (by kernel_rfl)) ?_
  intro W base args ds gs before hval0 hW _ hsz0 _
  have hval : ∀ (j : Nat) t v, Try.f14.params[j]? = some t → args[j]? = some v → Value.okWide Try.prog W .any base t v := hval0
  have hsz : (DataW.weightsEach Try.prog (Try.f14.params.toList ++ Rows.hyphNilSpec.plain.varTypes Try.prog) (ds ++ gs)).all (· ≤ reachBytes) = true := hsz0
  have hW' := hW
  have hlt0 := hW.lt
  obtain ⟨p, q, hA0, hV, he, hfz, hnd⟩ := hW
  have hA : DataW.TrodAll enc Try.prog W 0 (fun _ => true) true Try.f14.params.toList args.toList ds p := hA0
  rw [Try.params14] at hA hval hsz
  obtain ⟨rfl, rfl⟩ := trodVars_none hV
  rw [List.append_nil] at he
  subst he
  obtain ⟨v0, vs0, d0, ds0, p0, q0, hargs, rfl, rfl, h0, r0⟩ := trodAll_cons hA
  obtain ⟨rfl, rfl, rfl⟩ := trodAll_nil r0
  obtain rfl : args = #[v0] := by cases args; simp_all
  have k0 : ∀ x ∈ p0, x.block < W.heap.size := fun x hx => hlt0 x (by simp [hx])
  obtain ⟨A0, c0, rows0, rfl, hlc0, hcm0, hrow0, hseg0, hdat0⟩ := Le.open_rows 8 Hy.leafs Try.underlying91 (by kernel_rfl) (by kernel_rfl) (by kernel_rfl) (hval 0 91 v0 rfl rfl) h0 k0
  obtain ⟨l0, hll0, hls0, hwf0⟩ := Hy.ops_of hrow0
  rw [hls0] at hseg0
  rw [← hll0] at hlc0 hW' hdat0 ⊢
  clear hA0 hval0
  refine (Hy.nil_walk A0 l0 c0 W (by omega) hseg0).mono fun e W' ⟨he, hb⟩ => ?_
  subst he
  exact ⟨_, rfl, Li.law_post laidOut rfl hW' (by kernel_rfl) rfl rfl rfl rfl Try.underlying4 hb⟩

theorem over : Rows.hyphNilRow.holds Try.pinned (OpenSpec.ofChange Rows.hyphNilSpec) :=
  OpenClaim.holds_of_wide 14 Try.f14 rfl rfl rfl rfl rfl rfl rfl ⟨rfl, rfl, rfl, rfl, rfl⟩ rfl rfl rfl rfl rfl (by kernel_rfl) Try.func14 (by kernel_rfl)
    (of_decide_eq_true (by kernel_rfl)) (by unfold Func.isWrapper; first | (rw [if_pos (by decide +kernel)]; kernel_rfl) | (rw [if_neg (by decide +kernel)]; exact ⟨rfl, rfl⟩))
    (fun os started H enc _ => lifted os started H enc)

theorem proved : Rows.HyphNilSaid := over
#print axioms proved
end Go.Proofs.Ytmcekdjhkjhcdaa.HyphNil
