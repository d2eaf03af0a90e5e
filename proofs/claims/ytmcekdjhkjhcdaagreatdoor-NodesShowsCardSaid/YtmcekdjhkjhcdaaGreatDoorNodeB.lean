import Derived.Test.YtmcekdjhkjhcdaaGreatDoorNodeA
import Derived.Test.YtmcekdjhkjhcdaaGreatDoorNp
import Derived.RegionTactic
import Derived.BigRegion
/- Contracts of the small tests of the layer nodes: within, dimen. Conditions: those that each theorem names. -/
namespace Go.Proofs.YtmcekdjhkjhcdaaGreatDoor.No
open Go.ChangeShapes Go.WideShapes Go.ChangeAt Go.RowKit
open Me Np
set_option linter.unusedVariables false

theorem ret_bool {a b : Bool} (h : a = b) : Ending.returned (.bool a) = .returned (.bool b) := by rw [h]

theorem within_any (x l h : Int) (w : World) :
    Calls Tryz.prog 47 #[.int .i64 x, .int .i64 l, .int .i64 h] w fun e w' => e = .returned (.bool (winB x l h)) ∧ w = w' := by
  by_cases h0 : l ≤ x
  · by_cases h1 : x ≤ h
    · go_enter Tryz.func47, Tryz.ntmps47
      go_wp2
      go_ret
      exact ⟨ret_bool (by simp [winB, *]), rfl⟩
    · go_enter Tryz.func47, Tryz.ntmps47
      go_wp2
      go_ret
      exact ⟨ret_bool (decide_eq_false (by omega)).symm, rfl⟩
  · go_enter Tryz.func47, Tryz.ntmps47
    go_wp2
    go_ret
    exact ⟨ret_bool (decide_eq_false (by omega)).symm, rfl⟩

/-- A slice of integers reads as a list. -/
def Ns (w : World) (A : Option Addr) (xs : List Int) : Prop := ∀ k x, xs[k]? = some x → ∃ b off : Nat, A = some ⟨b, off, none⟩ ∧ w.cell? ⟨b, off + k, none⟩ = some (.int .i64 x)

theorem all_snoc {xs : List Int} {k : Nat} {x : Int} (f : Int → Bool) (h : xs[k]? = some x) : (xs.take (k + 1)).all f = ((xs.take k).all f && f x) := by
  rw [List.take_add_one, h]; simp
theorem all_no {xs : List Int} {k : Nat} {x : Int} {f : Int → Bool} (h : xs[k]? = some x) (hf : f x = false) : xs.all f = false := by
  rw [List.all_eq_false]
  exact ⟨x, List.mem_of_getElem? h, by simp [hf]⟩

theorem dimen_any (A : Option Addr) (xs : List Int) (c : Nat) (w : World) (hl : xs.length ≤ 9223372036854775807) (hx : Ns w A xs) :
    Calls Tryz.prog 36 #[.slice A xs.length c] w fun e w' => e = .returned (.bool (xs.all dimB)) ∧ w = w' := by
  have HX := Lib.hid hx
  clear hx
  generalize hn : xs.length = n at *
  have HN := Lib.hid hn
  clear hn
  go_enter Tryz.func36, Tryz.ntmps36
  go_wp2_with fail
  go_loop [7] (fun i => ∃ k : Nat, k ≤ n ∧ i = .int .i64 k ∧ (xs.take k).all dimB = true) (fun i => n - (intOf i).toNat)
  case atStart => exact ⟨0, Nat.zero_le _, rfl, by simp⟩
  case round =>
    obtain ⟨k, hk, rfl, hs⟩ := hrel
    by_cases hlt : k < n
    · obtain ⟨x, hxk⟩ : ∃ x, xs[k]? = some x := ⟨_, List.getElem?_eq_getElem (by rw [HN.out]; exact hlt)⟩
      obtain ⟨b, off, rfl, cx⟩ := HX.out k x hxk
      have HS := Lib.hid hs
      have HK := Lib.hid hxk
      clear hs hxk
      by_cases x0 : -1073741823 ≤ x
      · by_cases x1 : x ≤ 1073741823
        · go_wp2_with fail
          go_round
          case rel => exact ⟨k + 1, by omega, by go_num, by rw [all_snoc _ HK.out, HS.out]; simp [dimB, *]⟩
          case measure => simp [intOf]; omega
        · go_wp2_with fail
          go_ret
          exact ⟨ret_bool (all_no HK.out (by simp [dimB]; omega)).symm, rfl⟩
      · go_wp2_with fail
        go_ret
        exact ⟨ret_bool (all_no HK.out (by simp [dimB]; omega)).symm, rfl⟩
    · obtain rfl : k = n := by omega
      have HS := Lib.hid hs
      clear hs
      go_wp2_with fail
      go_ret
      have hz := HS.out
      rw [List.take_of_length_le (by rw [HN.out]; exact Nat.le_refl _)] at hz
      exact ⟨ret_bool hz.symm, rfl⟩
end Go.Proofs.YtmcekdjhkjhcdaaGreatDoor.No
