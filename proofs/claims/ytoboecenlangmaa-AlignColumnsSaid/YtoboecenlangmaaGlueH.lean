import Derived.Test.YtoboecenlangmaaGlueF
import Derived.Test.YtoboecenlangmaaGlueG
import Derived.Test.YtoboecenlangmaaBlk
/- Contracts of glue.Sizes and the function within it. Conditions: those that each theorem names. -/
namespace Go.Proofs.Ytoboecenlangmaa.Gl
open Go.ChangeShapes Go.WideShapes Go.ChangeAt Go.RowKit
open Me

/-- What a piece takes: the sum grows, the share told last is kept. -/
theorem more_any (s S N D L : Int) (bS bN bD bL : Nat) (w : World) (hS : Blk w bS 3 #[.int .i64 S]) (hN : Blk w bN 3 #[.int .i64 N]) (hD : Blk w bD 3 #[.int .i64 D]) (hL : Blk w bL 3 #[.int .i64 L])
    (h1 : bS ≠ bN) (h2 : bS ≠ bD) (h3 : bS ≠ bL) (b0 : -4611686018427387904 ≤ S + s) (b1 : S + s ≤ 4611686018427387904) (l0 : -70368744177664 ≤ L) (l1 : L ≤ 70368744177664) :
    Calls Try.prog 82 #[.int .i64 s, .pointer (some ⟨bS, 0, none⟩), .pointer (some ⟨bN, 0, none⟩), .pointer (some ⟨bD, 0, none⟩), .pointer (some ⟨bL, 0, none⟩)] w fun e w' =>
      e = .returned (.tuple #[.int .i64 (psV (S + s) N D - L), .int .i64 (psE (S + s) N D)]) ∧ ∃ k, w' = ((w.setCell ⟨bS, 0, none⟩ (.int .i64 (S + s))).setCell ⟨bL, 0, none⟩ (.int .i64 (psV (S + s) N D))).drewN k := by
  have cS := hS.cell 0
  have fS := hS.free 0
  have cS1 := (hS.set 0 (.int .i64 (S + s))).cell 0
  have cN1 := (hN.far (p := ⟨bS, 0, none⟩) (fun e => h1 e.symm) (.int .i64 (S + s))).cell 0
  have cD1 := (hD.far (p := ⟨bS, 0, none⟩) (fun e => h2 e.symm) (.int .i64 (S + s))).cell 0
  have cL1 := (hL.far (p := ⟨bS, 0, none⟩) (fun e => h3 e.symm) (.int .i64 (S + s))).cell 0
  have fL1 := (hL.far (p := ⟨bS, 0, none⟩) (fun e => h3 e.symm) (.int .i64 (S + s))).free 0
  have hv := psV_bd (S + s) N D
  have v0 := hv.1
  have v1 := hv.2
  clear hv hS hN hD hL
  simp only [List.getElem?_toArray, List.setIfInBounds_toArray, List.set_cons_zero, List.getElem?_cons_zero] at cS cS1 cN1 cD1 cL1
  go_enter Try.func82, Try.ntmps82
  go_wp2_with (go_at_call 83; refine (share_any _ _ _ _).mono ?_; rintro e w' ⟨rfl, k, rfl⟩)
  go_ret2
  exact ⟨rfl, _, rfl⟩
theorem Row.up {w w' : World} {A : Option Addr} {l : List G} (h : Row w A l) (hb : Below w.heap.size w w') : Row w' A l := (Seg.below h hb).more hb.size

theorem info_int : (Try.prog.info? 3).map (fun i => (i.zero, i.size, i.bytes)) = some (some (.int .i64 0), 1, 8) := by kernel_rfl

/-- Sizes refuses. -/
theorem sizes_bad (A : Option Addr) (l : List G) (c : Nat) (sign order N D : Int) (w : World) (h63 : l.length ≤ maxLen) (hrow : Row w A l) (hE : rowE l ≠ 0 ∨ argOk sign order = false ∨ rngOk sign N D = false) :
    Calls Try.prog 49 #[.slice A l.length c, .int .i64 sign, .int .i64 order, .int .i64 N, .int .i64 D] w fun e w' =>
      e = .returned (.tuple #[.slice none 0 0, .int .i64 (szE l sign order N D)]) ∧ Below w.heap.size w w' := by
  have hb2 : Below w.heap.size w ((w.alloc (.cells #[.int .i64 N] 3)).alloc (.cells #[.int .i64 D] 3)) := ((Below.refl _ _).alloc (Nat.le_refl _) _).alloc (by simp) _
  have hcall := row_any A l c _ h63 (hrow.up hb2)
  have HC := Lib.hid hcall
  clear hcall
  by_cases hr : rowE l = 0
  · have ht : (rowE l != 0) = false := by rw [hr]; rfl
    cases ha : argOk sign order
    · have hE' := szE_arg (sign := sign) (order := order) (N := N) (D := D) hr ha
      have hno : ¬ (0 ≤ sign ∧ sign ≤ 2 ∧ 0 ≤ order ∧ order ≤ 3) := by rw [← argOk_iff, ha]; simp
      have HE := Lib.hid hE'
      clear hE' hr hE ha
      rcases (show sign < 0 ∨ (0 ≤ sign ∧ 2 < sign) ∨ (0 ≤ sign ∧ sign ≤ 2 ∧ order < 0) ∨ (0 ≤ sign ∧ sign ≤ 2 ∧ 0 ≤ order ∧ 3 < order) by omega) with h | ⟨h, k1⟩ | ⟨h, k1, k2⟩ | ⟨h, k1, k2, k3⟩
      all_goals
        clear hno
        go_enter Try.func49, Try.ntmps49
        go_wp2_with (first | (go_at_call 80; refine HC.out.mono ?_; rintro e w3 ⟨rfl, hb3⟩) | (go_at_call 81; refine (near_any _ _).mono ?_; rintro e w' ⟨rfl, rfl⟩))
        go_ret2
        exact ⟨by rw [HE.out]; rfl, hb2.trans (hb3.mono (by simp; omega))⟩
    · obtain ⟨a0, a1, a2, a3⟩ := argOk_iff.1 ha
      have hg : rngOk sign N D = false := by
        rcases hE with h | h | h
        · exact absurd hr h
        · rw [ha] at h; cases h
        · exact h
      have hE' := szE_rng hr ha hg
      have HE := Lib.hid hE'
      clear hE' hr hE ha
      cases hN : nearB N
      · have HX := Lib.hid hg
        clear hg
        go_enter Try.func49, Try.ntmps49
        go_wp2_with (first | (go_at_call 80; refine HC.out.mono ?_; rintro e w3 ⟨rfl, hb3⟩; have cN : w3.cell? ⟨w.heap.size, 0, none⟩ = some (.int .i64 N) := (hb3.cell (p := ⟨w.heap.size, 0, none⟩) (by simp; omega)).trans (by simp [World.cell?_alloc_lt, go_sem]); have cD : w3.cell? ⟨w.heap.size + 1, 0, none⟩ = some (.int .i64 D) := (hb3.cell (p := ⟨w.heap.size + 1, 0, none⟩) (by simp)).trans (by simp [go_sem])) | (go_at_call 81; refine (near_any _ _).mono ?_; rintro e w' ⟨rfl, rfl⟩))
        go_ret2
        exact ⟨by rw [HE.out]; rfl, hb2.trans (hb3.mono (by simp; omega))⟩
      · cases hD : nearB D
        · have HX := Lib.hid hg
          clear hg
          go_enter Try.func49, Try.ntmps49
          go_wp2_with (first | (go_at_call 80; refine HC.out.mono ?_; rintro e w3 ⟨rfl, hb3⟩; have cN : w3.cell? ⟨w.heap.size, 0, none⟩ = some (.int .i64 N) := (hb3.cell (p := ⟨w.heap.size, 0, none⟩) (by simp; omega)).trans (by simp [World.cell?_alloc_lt, go_sem]); have cD : w3.cell? ⟨w.heap.size + 1, 0, none⟩ = some (.int .i64 D) := (hb3.cell (p := ⟨w.heap.size + 1, 0, none⟩) (by simp)).trans (by simp [go_sem])) | (go_at_call 81; refine (near_any _ _).mono ?_; rintro e w' ⟨rfl, rfl⟩))
          go_ret2
          exact ⟨by rw [HE.out]; rfl, hb2.trans (hb3.mono (by simp; omega))⟩
        · have hs : ¬ (sign = 0 ∨ 1 ≤ D) := by
            intro h
            rw [show rngOk sign N D = true by unfold rngOk; rw [hN, hD, decide_eq_true h]; rfl] at hg
            cases hg
          have hs0 : (sign != 0) = true := by
            have : sign ≠ 0 := fun h => hs (.inl h)
            simp [this]
          have hs1 : D < 1 := by omega
          clear hs hg
          go_enter Try.func49, Try.ntmps49
          go_wp2_with (first | (go_at_call 80; refine HC.out.mono ?_; rintro e w3 ⟨rfl, hb3⟩; have cN : w3.cell? ⟨w.heap.size, 0, none⟩ = some (.int .i64 N) := (hb3.cell (p := ⟨w.heap.size, 0, none⟩) (by simp; omega)).trans (by simp [World.cell?_alloc_lt, go_sem]); have cD : w3.cell? ⟨w.heap.size + 1, 0, none⟩ = some (.int .i64 D) := (hb3.cell (p := ⟨w.heap.size + 1, 0, none⟩) (by simp)).trans (by simp [go_sem])) | (go_at_call 81; refine (near_any _ _).mono ?_; rintro e w' ⟨rfl, rfl⟩))
          go_ret2
          exact ⟨by rw [HE.out]; rfl, hb2.trans (hb3.mono (by simp; omega))⟩
  · have hE' := szE_row (sign := sign) (order := order) (N := N) (D := D) hr
    have ht : (rowE l != 0) = true := by simp [hr]
    have HE := Lib.hid hE'
    clear hE' hr hE
    go_enter Try.func49, Try.ntmps49
    go_wp2_with (go_at_call 80; refine HC.out.mono ?_; rintro e w3 ⟨rfl, hb3⟩)
    go_ret2
    exact ⟨by rw [HE.out]; rfl, hb2.trans (hb3.mono (by simp; omega))⟩
end Go.Proofs.Ytoboecenlangmaa.Gl
