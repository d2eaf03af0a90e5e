import Derived.Test.YtdjpfhmhcocfeaaDoorGlueI
import Derived.Deep.QuietTactic
import Derived.BigQuiet
/- Contracts of the statements' own helpers: ints, total; live. Conditions: those that each theorem names. -/
namespace Go.Proofs.YtdjpfhmhcocfeaaDoor.Gl
open Go.ChangeShapes Go.WideShapes Go.ChangeAt Go.RowKit
open Me

/-- A slice of ints that reads as the list xs. -/
def Ints (w : World) (A : Option Addr) (xs : List Int) : Prop := Seg w w.heap.size A (xs.map (Value.int .i64))

theorem Ints.cell {w : World} {A : Option Addr} {xs : List Int} (h : Ints w A xs) {k : Nat} {x : Int} (hk : xs[k]? = some x) :
    ∃ b off : Nat, A = some ⟨b, off, none⟩ ∧ w.cell? ⟨b, off + k, none⟩ = some (.int .i64 x) := by
  have hne : xs.map (Value.int .i64) ≠ [] := by
    intro e
    rw [List.map_eq_nil_iff] at e
    rw [e] at hk
    simp at hk
  obtain ⟨b, off, rfl, hb, hc⟩ := Seg.open_ h hne
  exact ⟨b, off, rfl, hc k _ (by rw [List.getElem?_map, hk]; rfl)⟩
theorem Ints.below {w w' : World} {A : Option Addr} {xs : List Int} (h : Ints w A xs) (hb : Below w.heap.size w w') : Ints w' A xs := (Seg.below h hb).more hb.size

def intsB (xs ys : List Int) : Bool := decide (xs = ys)

theorem take_eq {xs ys : List Int} {k : Nat} {x : Int} (hx : xs[k]? = some x) (hy : ys[k]? = some x) (h : xs.take k = ys.take k) : xs.take (k + 1) = ys.take (k + 1) := by
  rw [List.take_add_one, List.take_add_one, h, hx, hy]
theorem take_ne {xs ys : List Int} {k : Nat} {x y : Int} (hx : xs[k]? = some x) (hy : ys[k]? = some y) (h : x ≠ y) : xs ≠ ys := by
  rintro rfl
  rw [hx] at hy
  injection hy with hy
  exact h hy

theorem ints_any (A C : Option Addr) (xs ys : List Int) (cx cy : Nat) (w : World) (hxl : xs.length ≤ maxLen) (hx : Ints w A xs) (hy : Ints w C ys) :
    Calls Tryd.prog 29 #[.slice A xs.length cx, .slice C ys.length cy] w fun e w' => e = .returned (.bool (intsB xs ys)) ∧ ∃ m, w' = w.drewN m := by
  unfold maxLen at hxl
  by_cases hl : xs.length = ys.length
  · have hl' : ((xs.length : Int) != (ys.length : Int)) = false := by rw [hl]; simp
    have HX := Lib.hid hx
    have HY := Lib.hid hy
    have HL := Lib.hid hl
    clear hx hy
    generalize hn : xs.length = n at *
    generalize hm : ys.length = m at *
    have HN := Lib.hid hn
    have HM := Lib.hid hm
    clear hn hm hl
    go_enter Tryd.func29, Tryd.ntmps29
    go_wp2_with fail
    go_loopw [5] (fun i wr => ∃ k q : Nat, k ≤ n ∧ i = .int .i64 k ∧ xs.take k = ys.take k ∧ wr = w.drewN q) (fun i _ => n - (intOf i).toNat)
    case atStart => exact ⟨0, 0, Nat.zero_le _, rfl, by simp, rfl⟩
    case round =>
      obtain ⟨k, q, hk, rfl, htk, rfl⟩ := hrel
      have HT := Lib.hid htk
      clear htk
      by_cases hlt : k < n
      · have hlm : k < m := by have := HL.out; omega
        obtain ⟨x, hxk⟩ : ∃ x, xs[k]? = some x := ⟨_, List.getElem?_eq_getElem (by rw [HN.out]; exact hlt)⟩
        obtain ⟨y, hyk⟩ : ∃ y, ys[k]? = some y := ⟨_, List.getElem?_eq_getElem (by rw [HM.out]; exact hlm)⟩
        obtain ⟨b, off, rfl, cx0⟩ := HX.out.cell hxk
        obtain ⟨b', off', rfl, cy0⟩ := HY.out.cell hyk
        have HXK := Lib.hid hxk
        have HYK := Lib.hid hyk
        clear hxk hyk
        by_cases hxy : x = y
        · have hxy' : (x != y) = false := by rw [hxy]; simp
          have HXY := Lib.hid hxy
          clear hxy
          go_wp2_with fail
          go_quiet (fail)
          go_wp2_with fail
          go_roundw
          case rel => exact ⟨k + 1, _, by omega, by go_num, take_eq HXK.out (by rw [HXY.out]; exact HYK.out) HT.out, rfl⟩
          case measure => simp [intOf]; omega
        · have hxy' : (x != y) = true := by simp [hxy]
          have HXY := Lib.hid hxy
          clear hxy
          go_wp2_with fail
          go_quiet (fail)
          go_wp2_with fail
          go_ret
          exact ⟨ret_bool (decide_eq_false (take_ne HXK.out HYK.out HXY.out)).symm, _, World.drewN_drewN _ _ _⟩
      · obtain rfl : k = n := by omega
        go_wp2_with fail
        go_ret
        refine ⟨ret_bool (decide_eq_true ?_).symm, _, rfl⟩
        have := HT.out
        have h2 := HL.out
        rwa [List.take_of_length_le (by rw [HN.out]; exact Nat.le_refl _), List.take_of_length_le (by rw [HM.out]; omega)] at this
  · have hl' : ((xs.length : Int) != (ys.length : Int)) = true := by
      have : ¬ (xs.length : Int) = ys.length := by omega
      simp [this]
    have HL := Lib.hid hl
    clear hl hx hy
    go_enter Tryd.func29, Tryd.ntmps29
    go_wp2_with fail
    go_ret
    exact ⟨ret_bool (decide_eq_false (fun h => HL.out (by rw [h]))).symm, 0, rfl⟩
theorem sizes_any (A : Option Addr) (l : List G) (c : Nat) (sign order N D : Int) (w : World) (h63 : l.length ≤ maxLen) (hrow : Row w A l) :
    Calls Tryd.prog 28 #[.slice A l.length c, .int .i64 sign, .int .i64 order, .int .i64 N, .int .i64 D] w (SzOut l sign order N D w) := by
  by_cases hr : rowE l = 0
  · cases ha : argOk sign order
    · refine (sizes_bad A l c sign order N D w h63 hrow (.inr (.inl ha))).mono fun e w' h => ?_
      unfold SzOut
      rw [if_neg (by rw [szE_arg hr ha]; omega)]
      exact h
    · cases hg : rngOk sign N D
      · refine (sizes_bad A l c sign order N D w h63 hrow (.inr (.inr hg))).mono fun e w' h => ?_
        unfold SzOut
        rw [if_neg (by rw [szE_rng hr ha hg]; omega)]
        exact h
      · obtain ⟨a0, a1, -, -⟩ := argOk_iff.1 ha
        rcases (show sign = 0 ∨ sign = 1 ∨ sign = 2 by omega) with rfl | rfl | rfl
        · exact sizes_still A l c order N D w hrow hr ha hg
        · exact sizes_stretch A l c order N D w hrow hr ha hg
        · exact sizes_shrink A l c order N D w hrow hr ha hg
  · refine (sizes_bad A l c sign order N D w h63 hrow (.inl hr)).mono fun e w' h => ?_
    unfold SzOut
    rw [if_neg (by rw [szE_row hr]; exact hr)]
    exact h

/-- Three pieces of 0 plus 1, five thirds of it each. -/
def g3 : List G := [⟨0, 1, 0, 0, 0⟩, ⟨0, 1, 0, 0, 0⟩, ⟨0, 1, 0, 0, 0⟩]
theorem g3_ok : szE g3 1 0 5 3 = 0 ∧ szL g3 1 0 5 3 = [2, 1, 2] := by
  have hr : rowE g3 = 0 := by decide
  have ha : argOk 1 0 = true := by decide
  have hg : rngOk 1 5 3 = true := by decide
  have hz : run 1 0 5 3 g3 = some ⟨3, 5, [2, 1, 2]⟩ := by kernel_rfl
  exact szE_some hr ha hg hz

theorem seg_blk {w : World} {g B : Nat} {t : TypeId} {cs : Array Value} (h : Blk w g t cs) (hB : g < B) : Seg w B (some ⟨g, 0, none⟩) cs.toList :=
  .inr ⟨g, 0, rfl, hB, fun j u hu => by rw [Nat.zero_add, h.cell j]; simpa using hu⟩
theorem seg_blk' {w : World} {g B : Nat} {t : TypeId} {cs : Array Value} {xs : List Value} (h : Blk w g t cs) (hB : g < B) (hx : cs.toList = xs) : Seg w B (some ⟨g, 0, none⟩) xs := hx ▸ seg_blk h hB

theorem live_any (w : World) : Calls Tryd.prog 15 #[] w fun e w' => e = .returned (.bool true) ∧ Below w.heap.size w w' := by
  go_enter Tryd.func15, Tryd.ntmps15
  go_wp2_with fail
  have hb1 : Below w.heap.size w ((w.alloc (.cells #[.int .i64 0, .int .i64 1, .int .i64 0, .int .i64 0, .int .i64 0] 23)).alloc (.cells #[.int .i64 0, .int .i64 1, .int .i64 0, .int .i64 0, .int .i64 0, .int .i64 0, .int .i64 1, .int .i64 0, .int .i64 0, .int .i64 0, .int .i64 0, .int .i64 1, .int .i64 0, .int .i64 0, .int .i64 0] 23)) :=
    ((Below.refl _ _).alloc (Nat.le_refl _) _).alloc (by simp) _
  refine (sizes_any _ g3 3 1 0 5 3 _ (by unfold maxLen; decide) ?_).mono ?_
  · exact seg_blk' (Blk.new' (by simp)) (by simp) rfl
  rintro e w5 ⟨hs, hb5⟩
  rw [if_pos g3_ok.1, g3_ok.2] at hs
  obtain ⟨v, rfl, hown⟩ := hs
  obtain ⟨A, c, rfl, hc, hm, hseg⟩ := Seg.of_own hown
  have hb5' := hb1.trans (hb5.mono (by simp; omega))
  clear hb1 hb5 hown
  go_wp2_with (go_at_call 10; refine (num_any _ _).mono ?_; rintro e w' ⟨rfl, rfl⟩)
  have hb6 : Below w5.heap.size w5 (w5.alloc (.cells #[.int .i64 2, .int .i64 1, .int .i64 2] 3)) := (Below.refl _ _).alloc (Nat.le_refl _) _
  refine (ints_any A _ [2, 1, 2] [2, 1, 2] c 3 _ (by unfold maxLen; decide) (Ints.below hseg hb6) (seg_blk' (Blk.new _ _ _) (by simp) rfl)).mono ?_
  rintro e w' ⟨rfl, m, rfl⟩
  go_wp2_with fail
  go_ret
  exact ⟨rfl, below_drewN (hb5'.trans (hb6.mono hb5'.size)) m⟩
end Go.Proofs.YtdjpfhmhcocfeaaDoor.Gl
