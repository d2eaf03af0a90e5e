import Derived.Test.YtoboecenlangmaaScAf
import Derived.Test.YtoboecenlangmaaRows
import Derived.Test.YtoboecenlangmaaProg
import Derived.Test.YtoboecenlangmaaBlk
import Derived.WalkKit
import Derived.ProofKit
import Derived.WalkSpells
import Derived.WalkLawsBesides
import Derived.Handy
import Derived.Outline
import Derived.Lib.Hide
import Derived.BigQuiet
import Derived.RegionTactic
import Derived.Deep.QuietTactic
/- Contracts of scaled's functions of integers, and of the document's (printed by gen_sca.py). Conditions: those that each theorem names. -/
namespace Go.Proofs.Ytoboecenlangmaa.Ss
open Go.ChangeShapes Go.WideShapes Go.ChangeAt Go.RowKit
open Me Sc
set_option linter.unusedVariables false
set_option linter.unusedSimpArgs false

/-- A slice of integers reads as a list. -/
def Ns (w : World) (A : Option Addr) (xs : List Int) : Prop := ∀ k x, xs[k]? = some x → ∃ b off : Nat, A = some ⟨b, off, none⟩ ∧ w.cell? ⟨b, off + k, none⟩ = some (.int .i64 x)
theorem any_snoc {xs : List Int} {k : Nat} {x : Int} (f : Int → Bool) (h : xs[k]? = some x) : (xs.take (k + 1)).any f = ((xs.take k).any f || f x) := by
  rw [List.take_add_one, h]; simp
theorem any_yes {xs : List Int} {k : Nat} {x : Int} {f : Int → Bool} (h : xs[k]? = some x) (hf : f x = true) : xs.any f = true := by
  rw [List.any_eq_true]
  exact ⟨x, List.mem_of_getElem? h, hf⟩
theorem anyFar_any (A : Option Addr) (xs : List Int) (c : Nat) (w : World) (hl : xs.length ≤ 9223372036854775807) (hx : Ns w A xs) :
    Calls Try.prog 125 #[.slice A xs.length c] w fun e w' => e = .returned (.bool (xs.any farB)) ∧ w = w' := by
  have HX := Lib.hid hx
  clear hx
  generalize hn : xs.length = n at *
  have HN := Lib.hid hn
  clear hn
  go_enter Try.func125, Try.ntmps125
  go_wp2_with fail
  go_loop [7] (fun i => ∃ k : Nat, k ≤ n ∧ i = .int .i64 k ∧ (xs.take k).any farB = false) (fun i => n - (intOf i).toNat)
  case atStart => exact ⟨0, Nat.zero_le _, rfl, by simp⟩
  case round =>
    obtain ⟨k, hk, rfl, hs⟩ := hrel
    by_cases hlt : k < n
    · obtain ⟨x, hxk⟩ : ∃ x, xs[k]? = some x := ⟨_, List.getElem?_eq_getElem (by rw [HN.out]; exact hlt)⟩
      obtain ⟨b, off, rfl, cx⟩ := HX.out k x hxk
      have HS := Lib.hid hs
      have HK := Lib.hid hxk
      clear hs hxk
      cases hf : farB x
      · go_wp2_with (go_at_call 127; refine (far_any _ _).mono ?_; rintro e w' ⟨rfl, rfl⟩)
        go_round
        case rel => exact ⟨k + 1, by omega, by go_num, by rw [any_snoc _ HK.out, HS.out, hf]; rfl⟩
        case measure => simp [intOf]; omega
      · go_wp2_with (go_at_call 127; refine (far_any _ _).mono ?_; rintro e w' ⟨rfl, rfl⟩)
        go_ret
        exact ⟨ret_bool (any_yes HK.out hf).symm, rfl⟩
    · obtain rfl : k = n := by omega
      have HS := Lib.hid hs
      clear hs
      go_wp2_with fail
      go_ret
      have hz := HS.out
      rw [List.take_of_length_le (by rw [HN.out]; exact Nat.le_refl _)] at hz
      exact ⟨ret_bool hz.symm, rfl⟩
theorem anyFar2 (b : Nat) (x y : Int) (w : World) (c0 : w.cell? ⟨b, 0, none⟩ = some (.int .i64 x)) (c1 : w.cell? ⟨b, 1, none⟩ = some (.int .i64 y)) :
    Calls Try.prog 125 #[.slice (some ⟨b, 0, none⟩) 2 2] w fun e w' => e = .returned (.bool (farB x || farB y)) ∧ w = w' := by
  refine (anyFar_any (some ⟨b, 0, none⟩) [x, y] 2 w (by simp) ?_).mono ?_
  · intro k u hk
    refine ⟨b, 0, rfl, ?_⟩
    match k, hk with
    | 0, hk => simp at hk; subst hk; simpa using c0
    | 1, hk => simp at hk; subst hk; simpa using c1
  · rintro e w' ⟨rfl, rfl⟩
    exact ⟨ret_bool (by simp), rfl⟩
theorem anyFar3 (b : Nat) (x y z : Int) (w : World) (c0 : w.cell? ⟨b, 0, none⟩ = some (.int .i64 x)) (c1 : w.cell? ⟨b, 1, none⟩ = some (.int .i64 y)) (c2 : w.cell? ⟨b, 2, none⟩ = some (.int .i64 z)) :
    Calls Try.prog 125 #[.slice (some ⟨b, 0, none⟩) 3 3] w fun e w' => e = .returned (.bool (farB x || (farB y || farB z))) ∧ w = w' := by
  refine (anyFar_any (some ⟨b, 0, none⟩) [x, y, z] 3 w (by simp) ?_).mono ?_
  · intro k u hk
    refine ⟨b, 0, rfl, ?_⟩
    match k, hk with
    | 0, hk => simp at hk; subst hk; simpa using c0
    | 1, hk => simp at hk; subst hk; simpa using c1
    | 2, hk => simp at hk; subst hk; simpa using c2
  · rintro e w' ⟨rfl, rfl⟩
    exact ⟨ret_bool (by simp), rfl⟩
theorem shr18 (a : Int) : a / 2 ^ 18 = a / 262144 := rfl
theorem bd_far {t s : Int} (h : farB t = true ∨ farB s = true) : bdV t s = 0 ∧ bdE t s = 11 := by unfold bdV bdE; rw [if_pos h, if_pos h]; exact ⟨rfl, rfl⟩
theorem bd_neg {t s : Int} (ht : farB t = false) (hs : farB s = false) (h : t < 0) : bdV t s = 0 ∧ bdE t s = 1 := by simp [bdV, bdE, ht, hs, h]
theorem bd_zero {t s : Int} (ht : farB t = false) (hs : farB s = false) (h : t = 0) : bdV t s = 0 ∧ bdE t s = 0 := by subst h; simp [bdV, bdE, ht, hs]
theorem bd_none {t s : Int} (ht : farB t = false) (hs : farB s = false) (h : 0 < t) (h1 : s < 1) : bdV t s = 10000 ∧ bdE t s = 0 := by
  have a : ¬ t < 0 := by omega
  have b : ¬ t = 0 := by omega
  simp [bdV, bdE, ht, hs, a, b, h1]
theorem bd_inf {t s r : Int} (ht : farB t = false) (hs : farB s = false) (h : 0 < t) (h1 : 1 ≤ s) (hr : bdR t s = r) (h2 : 1290 < r) : bdV t s = 10000 ∧ bdE t s = 0 := by
  have a : ¬ t < 0 := by omega
  have b : ¬ t = 0 := by omega
  have c : ¬ s < 1 := by omega
  simp [bdV, bdE, ht, hs, a, b, c, hr, h2]
theorem bd_fin {t s r : Int} (ht : farB t = false) (hs : farB s = false) (h : 0 < t) (h1 : 1 ≤ s) (hr : bdR t s = r) (h2 : r ≤ 1290) : bdV t s = (r * r * r + 131072) / 262144 ∧ bdE t s = 0 := by
  have a : ¬ t < 0 := by omega
  have b : ¬ t = 0 := by omega
  have c : ¬ s < 1 := by omega
  have d : ¬ 1290 < r := by omega
  simp [bdV, bdE, ht, hs, a, b, c, hr, d]
theorem bdR_a {t s : Int} (h : 0 < t) (h1 : 1 ≤ s) (h2 : t ≤ 7230584) : bdR t s = 297 * t / s := by
  unfold bdR
  rw [if_pos h2, Int.tdiv_eq_ediv_of_nonneg (by omega)]
theorem bdR_b {t s : Int} (h : 0 < t) (h2 : 7230584 < t) (h3 : 1663497 ≤ s) : bdR t s = t / (s / 297) := by
  unfold bdR
  rw [if_neg (by omega), if_pos h3, Int.tdiv_eq_ediv_of_nonneg (by omega), Int.tdiv_eq_ediv_of_nonneg (by omega)]
theorem bdR_c {t s : Int} (h2 : 7230584 < t) (h3 : s < 1663497) : bdR t s = t := by
  unfold bdR
  rw [if_neg (by omega), if_neg (by omega)]
theorem cube_bd {r : Int} (h0 : 0 ≤ r) (h1 : r ≤ 1290) : 0 ≤ r * r ∧ r * r ≤ 1664100 ∧ 0 ≤ r * r * r ∧ r * r * r ≤ 2146689000 := by
  have a := Int.mul_nonneg h0 h0
  have b : r * r ≤ 1290 * 1290 := Int.mul_le_mul h1 h1 h0 (by omega)
  have c := Int.mul_nonneg a h0
  have d : r * r * r ≤ 1664100 * 1290 := Int.mul_le_mul (by omega) h1 h0 (by omega)
  exact ⟨a, by omega, c, by omega⟩
set_option maxHeartbeats 1000000 in
theorem bad_any (t s : Int) (w : World) : Calls Try.prog 122 #[.int .i64 t, .int .i64 s] w fun e w' => e = .returned (.tuple #[.int .i64 (bdV t s), .int .i64 (bdE t s)]) ∧ Below w.heap.size w w' := by
  cases ht : farB t
  · obtain ⟨t0, t1⟩ := farB_no ht
    have HT := Lib.hid ht
    cases hs : farB s
    · obtain ⟨s0, s1⟩ := farB_no hs
      have HS := Lib.hid hs
      by_cases n0 : t < 0
      · go_enter Try.func122, Try.ntmps122
        go_wp2_with (first | (go_at_call 125; refine (anyFar2 _ t s _ ((Blk.new' rfl).cell 0) ((Blk.new' rfl).cell 1)).mono ?_; rintro e w' ⟨rfl, rfl⟩))
        go_ret2
        exact ⟨ret_ints (by rw [(bd_neg HT.out HS.out n0).1]) (by rw [(bd_neg HT.out HS.out n0).2]), (by repeat (first | exact Below.refl _ _ | assumption | apply below_drewN | apply andAlloc))⟩
      · by_cases n1 : t = 0
        · have e1 : (t == 0) = true := by simpa using n1
          have N1 := Lib.hid n1
          clear n1
          go_enter Try.func122, Try.ntmps122
          go_wp2_with (first | (go_at_call 125; refine (anyFar2 _ t s _ ((Blk.new' rfl).cell 0) ((Blk.new' rfl).cell 1)).mono ?_; rintro e w' ⟨rfl, rfl⟩))
          go_ret2
          exact ⟨ret_ints (by rw [(bd_zero HT.out HS.out N1.out).1]) (by rw [(bd_zero HT.out HS.out N1.out).2]), (by repeat (first | exact Below.refl _ _ | assumption | apply below_drewN | apply andAlloc))⟩
        · have hp : 0 < t := by omega
          have e1 : (t == 0) = false := by simpa using n1
          clear n1
          by_cases n2 : s < 1
          · go_enter Try.func122, Try.ntmps122
            go_wp2_with (first | (go_at_call 125; refine (anyFar2 _ t s _ ((Blk.new' rfl).cell 0) ((Blk.new' rfl).cell 1)).mono ?_; rintro e w' ⟨rfl, rfl⟩))
            go_ret2
            exact ⟨ret_ints (by rw [(bd_none HT.out HS.out hp n2).1]) (by rw [(bd_none HT.out HS.out hp n2).2]), (by repeat (first | exact Below.refl _ _ | assumption | apply below_drewN | apply andAlloc))⟩
          · have hs1 : 1 ≤ s := by omega
            by_cases c1 : t ≤ 7230584
            · have v0 : 0 ≤ t * 297 / s := Int.ediv_nonneg (by omega) (by omega)
              have v1 : t * 297 / s ≤ t * 297 := Int.ediv_le_self _ (by omega)
              by_cases big : 1290 < t * 297 / s
              · go_enter Try.func122, Try.ntmps122
                go_wp2_with (first | (go_at_call 125; refine (anyFar2 _ t s _ ((Blk.new' rfl).cell 0) ((Blk.new' rfl).cell 1)).mono ?_; rintro e w' ⟨rfl, rfl⟩))
                go_ret2
                exact ⟨ret_ints (by rw [(bd_inf HT.out HS.out hp hs1 (show bdR t s = t * 297 / s by rw [bdR_a hp hs1 c1, Int.mul_comm]) big).1]) (by rw [(bd_inf HT.out HS.out hp hs1 (show bdR t s = t * 297 / s by rw [bdR_a hp hs1 c1, Int.mul_comm]) big).2]), (by repeat (first | exact Below.refl _ _ | assumption | apply below_drewN | apply andAlloc))⟩
              · obtain ⟨u0, u1, u2, u3⟩ := cube_bd (r := t * 297 / s) (by omega) (by omega)
                go_enter Try.func122, Try.ntmps122
                go_wp2_with (first | (go_at_call 125; refine (anyFar2 _ t s _ ((Blk.new' rfl).cell 0) ((Blk.new' rfl).cell 1)).mono ?_; rintro e w' ⟨rfl, rfl⟩))
                go_ret2
                exact ⟨ret_ints (by rw [(bd_fin HT.out HS.out hp hs1 (show bdR t s = t * 297 / s by rw [bdR_a hp hs1 c1, Int.mul_comm]) (by omega)).1]) (by rw [(bd_fin HT.out HS.out hp hs1 (show bdR t s = t * 297 / s by rw [bdR_a hp hs1 c1, Int.mul_comm]) (by omega)).2]), (by repeat (first | exact Below.refl _ _ | assumption | apply below_drewN | apply andAlloc))⟩
            · by_cases c2 : 1663497 ≤ s
              · have v0 : 0 ≤ t / (s / 297) := Int.ediv_nonneg (by omega) (by omega)
                have v1 : t / (s / 297) ≤ t := Int.ediv_le_self _ (by omega)
                have v2 : 1 ≤ s / 297 := by omega
                by_cases big : 1290 < t / (s / 297)
                · go_enter Try.func122, Try.ntmps122
                  go_wp2_with (first | (go_at_call 125; refine (anyFar2 _ t s _ ((Blk.new' rfl).cell 0) ((Blk.new' rfl).cell 1)).mono ?_; rintro e w' ⟨rfl, rfl⟩))
                  go_ret2
                  exact ⟨ret_ints (by rw [(bd_inf HT.out HS.out hp hs1 (bdR_b hp (by omega) c2) big).1]) (by rw [(bd_inf HT.out HS.out hp hs1 (bdR_b hp (by omega) c2) big).2]), (by repeat (first | exact Below.refl _ _ | assumption | apply below_drewN | apply andAlloc))⟩
                · obtain ⟨u0, u1, u2, u3⟩ := cube_bd (r := t / (s / 297)) (by omega) (by omega)
                  go_enter Try.func122, Try.ntmps122
                  go_wp2_with (first | (go_at_call 125; refine (anyFar2 _ t s _ ((Blk.new' rfl).cell 0) ((Blk.new' rfl).cell 1)).mono ?_; rintro e w' ⟨rfl, rfl⟩))
                  go_ret2
                  exact ⟨ret_ints (by rw [(bd_fin HT.out HS.out hp hs1 (bdR_b hp (by omega) c2) (by omega)).1]) (by rw [(bd_fin HT.out HS.out hp hs1 (bdR_b hp (by omega) c2) (by omega)).2]), (by repeat (first | exact Below.refl _ _ | assumption | apply below_drewN | apply andAlloc))⟩
              · have c3 : 1290 < t := by omega
                go_enter Try.func122, Try.ntmps122
                go_wp2_with (first | (go_at_call 125; refine (anyFar2 _ t s _ ((Blk.new' rfl).cell 0) ((Blk.new' rfl).cell 1)).mono ?_; rintro e w' ⟨rfl, rfl⟩))
                go_ret2
                exact ⟨ret_ints (by rw [(bd_inf HT.out HS.out hp hs1 (bdR_c (by omega) (by omega)) c3).1]) (by rw [(bd_inf HT.out HS.out hp hs1 (bdR_c (by omega) (by omega)) c3).2]), (by repeat (first | exact Below.refl _ _ | assumption | apply below_drewN | apply andAlloc))⟩
    · have HS := Lib.hid hs
      go_enter Try.func122, Try.ntmps122
      go_wp2_with (first | (go_at_call 125; refine (anyFar2 _ t s _ ((Blk.new' rfl).cell 0) ((Blk.new' rfl).cell 1)).mono ?_; rintro e w' ⟨rfl, rfl⟩))
      go_ret2
      exact ⟨ret_ints (by rw [(bd_far (.inr HS.out)).1]) (by rw [(bd_far (.inr HS.out)).2]), (by repeat (first | exact Below.refl _ _ | assumption | apply below_drewN | apply andAlloc))⟩
  · have HT := Lib.hid ht
    go_enter Try.func122, Try.ntmps122
    go_wp2_with (first | (go_at_call 125; refine (anyFar2 _ t s _ ((Blk.new' rfl).cell 0) ((Blk.new' rfl).cell 1)).mono ?_; rintro e w' ⟨rfl, rfl⟩))
    go_ret2
    exact ⟨ret_ints (by rw [(bd_far (.inl HT.out)).1]) (by rw [(bd_far (.inl HT.out)).2]), (by repeat (first | exact Below.refl _ _ | assumption | apply below_drewN | apply andAlloc))⟩
end Go.Proofs.Ytoboecenlangmaa.Ss
