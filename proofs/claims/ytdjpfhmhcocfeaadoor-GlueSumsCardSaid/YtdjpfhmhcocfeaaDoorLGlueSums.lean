import Derived.Test.YtdjpfhmhcocfeaaDoorGlueX5
import Derived.Test.YtdjpfhmhcocfeaaDoorCard
import Derived.Test.YtdjpfhmhcocfeaaDoorLift
import Derived.Test.YtdjpfhmhcocfeaaDoorLeaf
/- GlueSums: every Check, Plus, Times, Over and Show is the document's. No conditions. (printed by gen_card.py) -/
namespace Go.Proofs.YtdjpfhmhcocfeaaDoor.GlueSums
open Go.ChangeShapes Go.WideShapes Go.ChangeAt Go.RowKit
set_option linter.unusedVariables false
set_option linter.unusedSimpArgs false

set_option maxRecDepth 100000 in
theorem lifted (os : Os) (started : os.Started) (H : Type) (enc : TypeId × Value → H) :
    ReturnsInHanded {} Tryd.checked os 3 .any (fun w args => (Rows.glueSumsSpec.pre enc Tryd.prog Tryd.f3 [] false w args ∧ laidMetH Tryd.prog Ca.laid w) ∧ sizedMet enc Tryd.prog Tryd.f3 (OpenSpec.ofChange Rows.glueSumsSpec) false w args)
      (Rows.glueSumsSpec.post enc Tryd.prog Tryd.f3 false true false false) := by
  refine returnsInHanded_of_change_and (C := Tryd.checked) (X := fun w _ => laidMetH Tryd.prog Ca.laid w) (fun _ _ _ hh h => h.of_heap hh) Ca.own started (by kernel_rfl) Tryd.func3
    (ChangeSpec.witness_shaped (enc := enc) (C := Tryd.checked) (os := os) (X := fun w _ => laidMetH Tryd.prog Ca.laid w) false (World.doorLaid Tryd.prog 400 os) #[.agg #[.int .i64 0, .int .i64 0, .int .i64 0, .int .i64 0, .int .i64 0], .agg #[.int .i64 0, .int .i64 0, .int .i64 0, .int .i64 0, .int .i64 0], .int .i64 0] 8 rfl (World.shaped_of_RefB (by kernel_rfl) (by kernel_rfl)) (by kernel_rfl) (by kernel_rfl) (by kernel_rfl) (Ca.door_met os _)) ?_
  intro W base args ds gs before hval0 hW _ hsz0 hL _
  have hval : ∀ (j : Nat) t v, Tryd.f3.params[j]? = some t → args[j]? = some v → Value.okWide Tryd.prog W .any base t v := hval0
  have hW' := hW
  have hlt0 := hW.lt
  have htab := Ca.tab_of_laid hL
  obtain ⟨p, q, hA0, hV, he, hfz, hnd⟩ := hW
  have hA : DataW.TrodAll enc Tryd.prog W 0 (fun _ => true) true Tryd.f3.params.toList args.toList ds p := hA0
  rw [Tryd.params3] at hA hval
  obtain ⟨rfl, rfl⟩ := trodVars_none hV
  rw [List.append_nil] at he
  subst he
  obtain ⟨v0, vs0, d0, ds0, p0, q0, hargs, rfl, rfl, h0, r0⟩ := trodAll_cons hA
  obtain ⟨v1, vs1, d1, ds1, p1, q1, rfl, rfl, rfl, h1, r1⟩ := trodAll_cons r0
  obtain ⟨v2, vs2, d2, ds2, p2, q2, rfl, rfl, rfl, h2, r2⟩ := trodAll_cons r1
  obtain ⟨rfl, rfl, rfl⟩ := trodAll_nil r2
  obtain rfl : args = #[v0, v1, v2] := by cases args; simp_all
  have k0 : ∀ x ∈ p0, x.block < W.heap.size := fun x hx => hlt0 x (by simp [hx])
  have k1 : ∀ x ∈ p1, x.block < W.heap.size := fun x hx => hlt0 x (by simp [hx])
  have k2 : ∀ x ∈ p2, x.block < W.heap.size := fun x hx => hlt0 x (by simp [hx])
  obtain ⟨cs0, hcs0, hcl0⟩ := Le.open_flat 8 (List.replicate 5 3) Tryd.underlying23 (by kernel_rfl) (by kernel_rfl) (by kernel_rfl) (hval 0 23 v0 rfl rfl) h0
  obtain ⟨zs0, hz0, rfl, hwf0⟩ := Le.cells_ints Tryd.underlying3 hcl0
  obtain ⟨xn, xs, xh, xa, xb, rfl⟩ : ∃ xn xs xh xa xb, zs0 = [xn, xs, xh, xa, xb] := by
    match zs0, hz0 with
    | [xn, xs, xh, xa, xb], _ => exact ⟨xn, xs, xh, xa, xb, rfl⟩
  simp only [List.map_cons, List.map_nil] at hcs0
  obtain rfl : v0 = .agg #[.int .i64 xn, .int .i64 xs, .int .i64 xh, .int .i64 xa, .int .i64 xb] := hcs0
  obtain ⟨cs1, hcs1, hcl1⟩ := Le.open_flat 8 (List.replicate 5 3) Tryd.underlying23 (by kernel_rfl) (by kernel_rfl) (by kernel_rfl) (hval 1 23 v1 rfl rfl) h1
  obtain ⟨zs1, hz1, rfl, hwf1⟩ := Le.cells_ints Tryd.underlying3 hcl1
  obtain ⟨yn, ys, yh, ya, yb, rfl⟩ : ∃ yn ys yh ya yb, zs1 = [yn, ys, yh, ya, yb] := by
    match zs1, hz1 with
    | [yn, ys, yh, ya, yb], _ => exact ⟨yn, ys, yh, ya, yb, rfl⟩
  simp only [List.map_cons, List.map_nil] at hcs1
  obtain rfl : v1 = .agg #[.int .i64 yn, .int .i64 ys, .int .i64 yh, .int .i64 ya, .int .i64 yb] := hcs1
  obtain ⟨a2, rfl, rfl, rfl, w2⟩ := open_int Tryd.underlying3 (hval 2 3 v2 rfl rfl) h2
  clear hA0 hval0
  refine (Gl.sums_walk xn xs xh xa xb yn ys yh ya yb a2 W htab).mono fun e W' ⟨he, hb⟩ => ?_
  subst he
  exact ⟨_, rfl, Li.law_post Ca.laidOut rfl hW' (by kernel_rfl) rfl rfl rfl rfl Tryd.underlying4 hb⟩

theorem over : Rows.glueSumsRow.holds Tryd.pinned (OpenSpec.ofChange Rows.glueSumsSpec) :=
  OpenClaim.holds_of_wide 3 Tryd.f3 rfl rfl rfl rfl rfl rfl rfl ⟨rfl, rfl, rfl, rfl, rfl⟩ rfl rfl rfl rfl rfl (by kernel_rfl) Tryd.func3 (by kernel_rfl)
    (of_decide_eq_true (by kernel_rfl)) (by unfold Func.isWrapper; first | (rw [if_pos (by decide +kernel)]; kernel_rfl) | (rw [if_neg (by decide +kernel)]; exact ⟨rfl, rfl⟩))
    (fun os started H enc _ => lifted os started H enc)

theorem proved : Rows.GlueSumsCardSaid :=
  Claim7.holds_tied_plain_at .later [] [.data, .data, .data] true (true, "9856cdb8507e53dc1324800e4191eb846605ef73ac2fc91b223c3bb54aae09f3") false
    over (fun _ h => by cases h) (by kernel_rfl) (fun _ h => by cases h) glueSums_row_tie rfl ⟨rfl, rfl⟩ (by kernel_rfl) rfl
    (fun f fn hf hfn => by
      obtain rfl : f = 3 := Option.some.inj ((show Tryd.prog.funcNamed "galley/galleylaw02.GlueSums" = some 3 by kernel_rfl).symm.trans hf) |>.symm
      obtain rfl : fn = Tryd.f3 := (Option.some.inj (Tryd.func3.symm.trans hfn)).symm
      exact ⟨by kernel_rfl, fun j t ht => by
        rw [Tryd.params3] at ht
        have hm : t ∈ [23, 23, 3] := by simpa using Array.mem_of_getElem? ht
        have hall : ([23, 23, 3].all fun u => !Tryd.prog.wantsStandIn u) = true := by kernel_rfl
        exact (show Tryd.prog.wantsStandIn t = false by simpa using List.all_eq_true.1 hall t hm)⟩)
    (by kernel_rfl)
#print axioms proved
end Go.Proofs.YtdjpfhmhcocfeaaDoor.GlueSums
