import Derived.Test.YtoboecenlangmaaGreatDoorGlueI
/- Sizes, whatever it is asked with. Conditions: those that the theorem names. -/
namespace Go.Proofs.YtoboecenlangmaaGreatDoor.Gl
open Go.ChangeShapes Go.WideShapes Go.ChangeAt Go.RowKit
open Me

theorem sizes_any (A : Option Addr) (l : List G) (c : Nat) (sign order N D : Int) (w : World) (h63 : l.length ≤ maxLen) (hrow : Row w A l) :
    Calls Tryz.prog 45 #[.slice A l.length c, .int .i64 sign, .int .i64 order, .int .i64 N, .int .i64 D] w (SzOut l sign order N D w) := by
  by_cases hr : rowE l = 0
  · cases ha : argOk sign order
    · refine (sizes_bad A l c sign order N D w h63 hrow (.inr (.inl ha))).mono fun e w' h => ?_
      unfold SzOut
      rw [if_neg (by rw [szE_arg hr ha]; omega)]
      exact h
    · cases hg : rngOk sign N D
      · refine (sizes_bad A l c sign order N D w h63 hrow (.inr (.inr hg))).mono fun e w' h => ?_
        unfold SzOut
        rw [if_neg (by rw [szE_rng hr ha hg]; omega)]
        exact h
      · obtain ⟨a0, a1, -, -⟩ := argOk_iff.1 ha
        rcases (show sign = 0 ∨ sign = 1 ∨ sign = 2 by omega) with rfl | rfl | rfl
        · exact sizes_still A l c order N D w hrow hr ha hg
        · exact sizes_stretch A l c order N D w hrow hr ha hg
        · exact sizes_shrink A l c order N D w hrow hr ha hg
  · refine (sizes_bad A l c sign order N D w h63 hrow (.inl hr)).mono fun e w' h => ?_
    unfold SzOut
    rw [if_neg (by rw [szE_row hr]; exact hr)]
    exact h
end Go.Proofs.YtoboecenlangmaaGreatDoor.Gl
