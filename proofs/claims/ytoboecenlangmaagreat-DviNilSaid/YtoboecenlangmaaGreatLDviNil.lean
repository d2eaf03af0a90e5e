import Derived.Test.YtoboecenlangmaaGreatMn1
import Derived.Test.YtoboecenlangmaaGreatMn2
/- DviNil: no writer, and one that nobody made, refuse all. No conditions. -/
section
namespace Go.Proofs.YtoboecenlangmaaGreat.DviNil
open Np
open Go.ChangeShapes Go.WideShapes Go.ChangeAt Go.RowKit
set_option linter.unusedVariables false

theorem own : ownKnob Tryz.prog.godebug = none := by kernel_rfl
theorem laidOut : laidOutB Tryz.prog = true := by kernel_rfl

set_option maxRecDepth 100000 in
theorem lifted (os : Os) (started : os.Started) (H : Type) (enc : TypeId × Value → H) :
    ReturnsInHanded {} Tryz.checked os 6 .any (Rows.dviNilSpec.pre6 enc Tryz.prog Tryz.f6 Rows.dviNilRow.domain false) (Rows.dviNilSpec.post enc Tryz.prog Tryz.f6 false true false false) := by
  refine returnsInHanded_of_change_sized (C := Tryz.checked) own started (by kernel_rfl) Tryz.func6
    (ChangeSpec.witness6 (enc := enc) (C := Tryz.checked) false ⟨#[], #[.slice none 0 0], []⟩ 8 (by kernel_rfl) (by kernel_rfl) (by kernel_rfl) (by kernel_rfl)) ?_
  intro W base args ds gs before hval0 hW _ hsz0 _
  have hval : ∀ (j : Nat) t v, Tryz.f6.params[j]? = some t → args[j]? = some v → Value.okWide Tryz.prog W .any base t v := hval0
  have hsz : (DataW.weightsEach Tryz.prog (Tryz.f6.params.toList ++ Rows.dviNilSpec.plain.varTypes Tryz.prog) (ds ++ gs)).all (· ≤ reachBytes) = true := hsz0
  have hW' := hW
  have hlt0 := hW.lt
  obtain ⟨p, q, hA0, hV, he, hfz, hnd⟩ := hW
  have hA : DataW.TrodAll enc Tryz.prog W 0 (fun _ => true) true Tryz.f6.params.toList args.toList ds p := hA0
  rw [Tryz.params6] at hA hval hsz
  obtain ⟨rfl, rfl⟩ := trodVars_none hV
  rw [List.append_nil] at he
  subst he
  obtain ⟨v0, vs0, d0, ds0, p0, q0, hargs, rfl, rfl, h0, r0⟩ := trodAll_cons hA
  obtain ⟨rfl, rfl, rfl⟩ := trodAll_nil r0
  obtain rfl : args = #[v0] := by cases args; simp_all
  have k0 : ∀ x ∈ p0, x.block < W.heap.size := fun x hx => hlt0 x (by simp [hx])
  have hR := Rd.Rd.arg h0 k0 hsz (j := 0) (t := 54) rfl rfl
  obtain ⟨a0, len0, cap0, rfl⟩ := okWide_slice Tryz.underlying54 (hval 0 54 v0 rfl rfl)
  obtain ⟨A0, c0, rows, hv0, hlc0, _, hby0, hseg0, _, hrows⟩ := hR.slice Tryz.underlying54
  have hv1 : Value.slice a0 len0 cap0 = .slice A0 rows.length c0 := by simpa [Value.cells] using hv0
  injection hv1 with e1 e2 e3
  subst e1 e2 e3
  have hby : Tryz.prog.bytesOf 73 = 288 := by kernel_rfl
  rw [hby] at hby0
  simp only [reachBytes] at hby0
  have hce : Tryz.prog.cellsOf 73 = 23 := by kernel_rfl
  clear hA0 hval0
  refine (Dn.nil_walk a0 rows cap0 W (by omega) hlc0 hseg0 (fun r hr => by rw [← hce]; exact (hrows r hr).1) Dv.knows23).mono fun e W' ⟨he, hb⟩ => ?_
  subst he
  exact ⟨_, rfl, Li.law_post laidOut rfl hW' (by kernel_rfl) rfl rfl rfl rfl Tryz.underlying4 hb⟩

theorem over : Rows.dviNilRow.holds Tryz.pinned (OpenSpec.ofChange Rows.dviNilSpec) :=
  OpenClaim.holds_of_wide 6 Tryz.f6 rfl rfl rfl rfl rfl rfl rfl ⟨rfl, rfl, rfl, rfl, rfl⟩ rfl rfl rfl rfl rfl (by kernel_rfl) Tryz.func6 (by kernel_rfl)
    (of_decide_eq_true (by kernel_rfl)) (by unfold Func.isWrapper; first | (rw [if_pos (by decide +kernel)]; kernel_rfl) | (rw [if_neg (by decide +kernel)]; exact ⟨rfl, rfl⟩))
    (fun os started H enc _ => lifted os started H enc)

theorem proved : Rows.DviNilSaid := over
#print axioms proved
end Go.Proofs.YtoboecenlangmaaGreat.DviNil
end
