import Derived.Test.YtdjpfhmhcocfeaaGlueP
import Derived.Test.YtdjpfhmhcocfeaaLift
import Derived.Test.YtdjpfhmhcocfeaaLeaf
/- GlueJust: a row that is set comes to just what it is to be, or shrinks by all that it can. No conditions. -/
namespace Go.Proofs.Ytdjpfhmhcocfeaa.GlueJust
open Gl
open Go.ChangeShapes Go.WideShapes Go.ChangeAt Go.RowKit
set_option linter.unusedVariables false

/-- Rows of five integers are glue. -/
theorem glues {H : Type} {enc : TypeId × Value → H} {P : Program} {w : World} {base : Nat} {spare : Nat → Bool} {held : Bool} {ti : TypeId} (hu : P.underlying ti = some (.int .i64)) :
    ∀ {rows : List (List Value)}, (∀ cs ∈ rows, Le.Cells enc P w base spare held (List.replicate 5 ti) cs) → ∃ l : List G, l.length = rows.length ∧ rows.flatten = l.flatMap G.vals
  | [], _ => ⟨[], rfl, rfl⟩
  | cs :: rows, h => by
    obtain ⟨zs, hz, hcs, _⟩ := Le.cells_ints hu (h cs (by simp))
    obtain ⟨l, h1, h2⟩ := glues hu (rows := rows) (fun c hc => h c (by simp [hc]))
    match zs, hz with
    | [a, b, c, d, e], _ => exact ⟨⟨a, b, c, d, e⟩ :: l, by simp [h1], by simp [hcs, h2, G.vals]⟩

/-- A slice of glue takes no more than 2^47 bytes: so many pieces. -/
theorem bytes_glue : Try.prog.bytesOf 37 = 40 := by kernel_rfl

theorem own : ownKnob Try.prog.godebug = none := by kernel_rfl
theorem laidOut : laidOutB Try.prog = true := by kernel_rfl

set_option maxRecDepth 100000 in
theorem lifted (os : Os) (started : os.Started) (H : Type) (enc : TypeId × Value → H) :
    ReturnsInHanded {} Try.checked os 7 .any (Rows.glueJustSpec.pre6 enc Try.prog Try.f7 Rows.glueJustRow.domain false) (Rows.glueJustSpec.post enc Try.prog Try.f7 false true false false) := by
  refine returnsInHanded_of_change_sized (C := Try.checked) own started (by kernel_rfl) Try.func7
    (ChangeSpec.witness6 (enc := enc) (C := Try.checked) false ⟨#[], #[.slice none 0 0, .int .i64 0], []⟩ 8 (by kernel_rfl) (by kernel_rfl) (by kernel_rfl) (by kernel_rfl)) ?_
  intro W base args ds gs before hval0 hW _ hsz0 _
  have hval : ∀ (j : Nat) t v, Try.f7.params[j]? = some t → args[j]? = some v → Value.okWide Try.prog W .any base t v := hval0
  have hsz : (DataW.weightsEach Try.prog (Try.f7.params.toList ++ Rows.glueJustSpec.plain.varTypes Try.prog) (ds ++ gs)).all (· ≤ reachBytes) = true := hsz0
  have hW' := hW
  have hlt0 := hW.lt
  obtain ⟨p, q, hA0, hV, he, hfz, hnd⟩ := hW
  have hA : DataW.TrodAll enc Try.prog W 0 (fun _ => true) true Try.f7.params.toList args.toList ds p := hA0
  rw [Try.params7] at hA hval hsz
  obtain ⟨rfl, rfl⟩ := trodVars_none hV
  rw [List.append_nil] at he
  subst he
  obtain ⟨v0, vs0, d0, ds0, p0, q0, hargs, rfl, rfl, h0, r0⟩ := trodAll_cons hA
  obtain ⟨v1, vs1, d1, ds1, p1, q1, rfl, rfl, rfl, h1, r1⟩ := trodAll_cons r0
  obtain ⟨rfl, rfl, rfl⟩ := trodAll_nil r1
  obtain rfl : args = #[v0, v1] := by cases args; simp_all
  have k0 : ∀ x ∈ p0, x.block < W.heap.size := fun x hx => hlt0 x (by simp [hx])
  have k1 : ∀ x ∈ p1, x.block < W.heap.size := fun x hx => hlt0 x (by simp [hx])
  obtain ⟨A0, c0, rows0, rfl, hlc0, hcm0, hrow0, hseg0, hdat0⟩ := Le.open_rows 8 (List.replicate 5 3) Try.underlying30 (by kernel_rfl) (by kernel_rfl) (by kernel_rfl) (hval 0 30 v0 rfl rfl) h0 k0
  obtain ⟨l0, hll0, hls0⟩ := glues Try.underlying3 hrow0
  rw [hls0] at hseg0
  rw [← hll0] at hlc0 hW' hdat0 ⊢
  obtain ⟨a1, rfl, rfl, rfl, w1⟩ := open_int Try.underlying3 (hval 1 3 v1 rfl rfl) h1
  have hreach : l0.length ≤ 140737488355328 := by
    obtain ⟨es, sp, ⟨hd, he1, he2⟩ | ⟨hd, he1, he2⟩⟩ := hdat0
    · have h := sized_slice hsz (j := 0) (t := 30) (e := 37) rfl (by rw [hd]; rfl) Try.underlying30
      rw [bytes_glue] at h
      simp only [reachBytes] at h
      omega
    · rw [he1] at hll0
      simp at hll0
      simp [hll0]
  clear hA0 hval0
  refine (just_any A0 l0 c0 a1 W (by unfold maxLen; omega) hseg0).mono fun e W' ⟨he, hb⟩ => ?_
  subst he
  exact ⟨_, rfl, Li.law_post laidOut rfl hW' (by kernel_rfl) rfl rfl rfl rfl Try.underlying4 hb⟩

theorem over : Rows.glueJustRow.holds Try.pinned (OpenSpec.ofChange Rows.glueJustSpec) :=
  OpenClaim.holds_of_wide 7 Try.f7 rfl rfl rfl rfl rfl rfl rfl ⟨rfl, rfl, rfl, rfl, rfl⟩ rfl rfl rfl rfl rfl (by kernel_rfl) Try.func7 (by kernel_rfl)
    (of_decide_eq_true (by kernel_rfl)) (by unfold Func.isWrapper; first | (rw [if_pos (by decide +kernel)]; kernel_rfl) | (rw [if_neg (by decide +kernel)]; exact ⟨rfl, rfl⟩))
    (fun os started H enc _ => lifted os started H enc)

theorem proved : Rows.GlueJustSaid := over
#print axioms proved
end Go.Proofs.Ytdjpfhmhcocfeaa.GlueJust
