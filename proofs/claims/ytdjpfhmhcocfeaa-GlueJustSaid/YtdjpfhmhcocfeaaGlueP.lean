import Derived.Test.YtdjpfhmhcocfeaaGlueO
import Derived.Test.YtdjpfhmhcocfeaaFitW
/- GlueJust: the walk, a theorem for each way of Fit (printed by gen_just.py). Conditions: those that each theorem names. -/
namespace Go.Proofs.Ytdjpfhmhcocfeaa.Gl
open Go.ChangeShapes Go.WideShapes Go.ChangeAt Go.RowKit
open Me
set_option linter.unusedVariables false

theorem zero_eq (w : World) : (binOp .eql 45 (.agg #[.int .i64 0, .int .i64 0, .int .i64 0, .int .i64 0, .int .i64 0, .int .i64 0, .int .i64 0, .int .i64 0, .int .i64 0]) (.agg #[.int .i64 0, .int .i64 0, .int .i64 0, .int .i64 0, .int .i64 0, .int .i64 0, .int .i64 0, .int .i64 0, .int .i64 0])).run Try.prog w = .ok (.bool true) w := by kernel_rfl

theorem just_bad (A : Option Addr) (l : List G) (c : Nat) (ex : Int) (w : World) (h63 : l.length ≤ maxLen) (hrow : Row w A l) (hE : rowE l ≠ 0) :
    Calls Try.prog 7 #[.slice A l.length c, .int .i64 ex] w fun e w' => e = .returned (.bool true) ∧ Below w.heap.size w w' := by
  have hcall := sum_bad A l c w h63 hrow hE
  unfold zero9 at hcall
  have hz := zero_eq
  have HC := Lib.hid hcall
  have ht : (rowE l != 0) = true := by simp [hE]
  clear hcall hE hrow
  go_enter Try.func7, Try.ntmps7
  go_wp2_with (first | (go_at_call 19; refine HC.out.mono ?_; rintro e w1 ⟨rfl, hb1⟩) | (go_at_call 11; refine (num_any _ _).mono ?_; rintro e w' ⟨rfl, rfl⟩) | (go_at_call 12; refine (live_any _).mono ?_; rintro e w9 ⟨rfl, hb9⟩))
  go_ret
  exact ⟨rfl, andThen (andAlloc hb1 _) hb9⟩

theorem just_far (A : Option Addr) (l : List G) (c : Nat) (ex : Int) (w : World) (hrow : Row w A l) (hE : rowE l = 0) (hx : nearB ex = false) :
    Calls Try.prog 7 #[.slice A l.length c, .int .i64 ex] w fun e w' => e = .returned (.bool true) ∧ Below w.heap.size w w' := by
  have hcall := sum_good A l c w hrow hE
  unfold tot at hcall
  have HC := Lib.hid hcall
  have hfit := fun w => fit_bad0 (sumN l) (sumS l 0) (sumS l 1) (sumS l 2) (sumS l 3) (sumH l 0) (sumH l 1) (sumH l 2) (sumH l 3) ex w hx
  have HF := Lib.hid hfit
  clear hcall hE hrow hfit hx
  go_enter Try.func7, Try.ntmps7
  go_wp2_with (first | (go_at_call 19; refine HC.out.mono ?_; rintro e w1 ⟨rfl, hb1⟩) | (go_at_call 17; refine (HF.out _).mono ?_; rintro e w2 ⟨rfl, hb2⟩) | (go_at_call 11; refine (num_any _ _).mono ?_; rintro e w' ⟨rfl, rfl⟩) | (go_at_call 12; refine (live_any _).mono ?_; rintro e w9 ⟨rfl, hb9⟩))
  go_ret
  exact ⟨rfl, andThen (andThen (andAlloc hb1 _) hb2) hb9⟩

/-- A row that is set still has its sizes. -/
theorem still_ok {l : List G} (h : rowE l = 0) : szE l 0 0 0 0 = 0 := by
  have ha : argOk 0 0 = true := by decide
  have hg : rngOk 0 0 0 = true := by decide
  have hr : ∀ k, ∃ z, run 0 0 0 0 (l.take k) = some z := by
    intro k
    induction k with
    | zero => exact ⟨_, run_nil _ _ _ _⟩
    | succ k ih =>
      obtain ⟨z, hz⟩ := ih
      rcases Nat.lt_or_ge k l.length with hk | hk
      · have hg : l[k]? = some (l[k]'hk) := List.getElem?_eq_getElem hk
        rw [run_snoc hg hz]
        unfold step
        rw [if_neg (by omega), if_neg (by omega)]
        exact ⟨_, rfl⟩
      · rw [List.take_of_length_le (by omega)]
        rw [List.take_of_length_le hk] at hz
        exact ⟨z, hz⟩
  obtain ⟨z, hz⟩ := hr l.length
  rw [List.take_length] at hz
  exact (szE_some h ha hg hz).1

set_option maxRecDepth 100000 in
set_option maxHeartbeats 1000000 in
theorem just_upm (A : Option Addr) (l : List G) (c : Nat) (ex : Int) (w : World) (hrow : Row w A l) (hE : rowE l = 0) (e0 : nearB ex = true) (hx : 0 < ex) (hg : great (sumS l 0) (sumS l 1) (sumS l 2) (sumS l 3) = -1) :
    Calls Try.prog 7 #[.slice A l.length c, .int .i64 ex] w fun e w' => e = .returned (.bool true) ∧ Below w.heap.size w w' := by
  obtain ⟨hlen, hall⟩ := rowE_zero hE
  have hcall := sum_good A l c w hrow hE
  unfold tot at hcall
  have HC := Lib.hid hcall
  obtain ⟨⟨n0, n1⟩, hS, hH⟩ := sums_bd hall hlen l.length
  rw [List.take_length] at n0 n1 hS hH
  have near : ∀ x, -2147483646000 ≤ x ∧ x ≤ 2147483646000 → nearB x = true := fun x hx => nearB_yes (by omega) (by omega)
  obtain ⟨x0, x1⟩ := nearB_iff.1 e0
  have hfit := fun w => by
    have h := fit_upm (sumN l) (sumS l 0) (sumS l 1) (sumS l 2) (sumS l 3) (sumH l 0) (sumH l 1) (sumH l 2) (sumH l 3) ex w e0 (near _ (hS 0)) (near _ (hH 0)) (near _ (hS 1)) (near _ (hH 1)) (near _ (hS 2)) (near _ (hH 2)) (near _ (hS 3)) (near _ (hH 3)) x0 hx hg
    rw [show fit (sumS l 0) (sumS l 1) (sumS l 2) (sumS l 3) (sumH l 0) (sumH l 1) (sumH l 2) (sumH l 3) ex = (0, 0, 0, 0) by simp [fit, hx, hg]] at h
    exact h
  have HF := Lib.hid hfit
  have hH0 := hH 0
  have hS0 := hS 0
  have hout := fun w hr => sizes_any A l c 0 (0) (0) (0) w (by unfold maxLen; omega) hr
  have HS := Lib.hid hout
  have HROW := Lib.hid hrow
  have HALL := Lib.hid hall
  by_cases hz : szE l 0 (0) (0) (0) = 0
  · obtain ⟨hL, hfair, -⟩ := fair_all hz
    have hsum := szL_sum hz
    have htot : (szL l 0 (0) (0) (0)).sum = sumN l := by
      rw [hsum]
      simp
    have hbd : ∀ x ∈ szL l 0 (0) (0) (0), -281474976710656 ≤ x ∧ x ≤ 281474976710656 := by
      intro x hx
      obtain ⟨i, hi⟩ := List.getElem?_of_mem hx
      have hil : i < l.length := by
        rcases Nat.lt_or_ge i l.length with h | h
        · exact h
        · rw [List.getElem?_eq_none (by rw [hL]; exact h)] at hi; cases hi
      obtain ⟨y, hy, hf⟩ := hfair i _ (List.getElem?_eq_getElem hil)
      rw [hi] at hy
      injection hy with hy
      subst hy
      have h1 := hf.2.2
      have h2 := (glueB_iff.1 (List.all_eq_true.1 hall _ (List.mem_of_getElem? (List.getElem?_eq_getElem hil)))).1
      omega
    have htt := fun A2 c2 w hi => total_any A2 (szL l 0 (0) (0) (0)) c2 w (by rw [hL]; exact hlen) hbd hi
    simp only [htot, hL] at htt
    have HT := Lib.hid htt
    have HZ := Lib.hid hz
    have HL := Lib.hid hL
    clear hcall hE hrow hfit hS hH near hout hall hz hL hfair hsum htot hbd htt e0 hg hx
    go_enter Try.func7, Try.ntmps7
    go_wp2_with (first | (go_at_call 19; refine HC.out.mono ?_; rintro e w1 ⟨rfl, hb1⟩) | (go_at_call 17; refine (HF.out _).mono ?_; rintro e w2 ⟨rfl, hb2⟩) | (go_at_call 11; refine (num_any _ _).mono ?_; rintro e w' ⟨rfl, rfl⟩) | (go_at_call 12; refine (live_any _).mono ?_; rintro e w9 ⟨rfl, hb9⟩))
    have hbel := andThen (andAlloc hb1 (.cells #[.int .i64 (sumN l), .int .i64 (sumS l 0), .int .i64 (sumS l 1), .int .i64 (sumS l 2), .int .i64 (sumS l 3), .int .i64 (sumH l 0), .int .i64 (sumH l 1), .int .i64 (sumH l 2), .int .i64 (sumH l 3)] 45)) hb2
    obtain ⟨ho2, hf2⟩ := old_cells hb2
    refine (HS.out _ (HROW.out.up hbel)).mono ?_
    rintro e w3 ⟨hs, hb3⟩
    rw [if_pos HZ.out] at hs
    obtain ⟨v, rfl, hown⟩ := hs
    obtain ⟨A2, c2, rfl, hc2, hm2, hseg⟩ := Seg.of_own hown
    obtain ⟨ho3, hf3⟩ := old_cells hb3
    have hz2 : w1.heap.size < w2.heap.size := by have := hb2.size; simp at this; omega
    have t0 : w3.cell? ⟨w1.heap.size, 0, none⟩ = some (.int .i64 (sumN l)) := (ho3 _ _ hz2).trans ((ho2 _ _ (by simp)).trans (by simp [go_sem]))
    have t5 : w3.cell? ⟨w1.heap.size, 5, none⟩ = some (.int .i64 (sumH l 0)) := (ho3 _ _ hz2).trans ((ho2 _ _ (by simp)).trans (by simp [go_sem]))
    have hcallT := HT.out A2 c2 w3 hseg
    have HCT := Lib.hid hcallT
    clear ho2 hf2 ho3 hf3 hcallT hown hseg
    go_wp2_with (first | (go_at_call 20; refine HCT.out.mono ?_; rintro e w' ⟨rfl, rfl⟩) | (go_at_call 11; refine (num_any _ _).mono ?_; rintro e w' ⟨rfl, rfl⟩) | (go_at_call 12; refine (live_any _).mono ?_; rintro e w9 ⟨rfl, hb9⟩))
    go_ret
    exact ⟨rfl, andThen (andThen hbel hb3) hb9⟩
  · exact absurd (still_ok hE) hz

set_option maxRecDepth 100000 in
set_option maxHeartbeats 1000000 in
theorem just_downm (A : Option Addr) (l : List G) (c : Nat) (ex : Int) (w : World) (hrow : Row w A l) (hE : rowE l = 0) (e0 : nearB ex = true) (hx : ex < 0) (hg : great (sumH l 0) (sumH l 1) (sumH l 2) (sumH l 3) = -1) :
    Calls Try.prog 7 #[.slice A l.length c, .int .i64 ex] w fun e w' => e = .returned (.bool true) ∧ Below w.heap.size w w' := by
  obtain ⟨hlen, hall⟩ := rowE_zero hE
  have hcall := sum_good A l c w hrow hE
  unfold tot at hcall
  have HC := Lib.hid hcall
  obtain ⟨⟨n0, n1⟩, hS, hH⟩ := sums_bd hall hlen l.length
  rw [List.take_length] at n0 n1 hS hH
  have near : ∀ x, -2147483646000 ≤ x ∧ x ≤ 2147483646000 → nearB x = true := fun x hx => nearB_yes (by omega) (by omega)
  obtain ⟨x0, x1⟩ := nearB_iff.1 e0
  have hfit := fun w => by
    have h := fit_downm (sumN l) (sumS l 0) (sumS l 1) (sumS l 2) (sumS l 3) (sumH l 0) (sumH l 1) (sumH l 2) (sumH l 3) ex w e0 (near _ (hS 0)) (near _ (hH 0)) (near _ (hS 1)) (near _ (hH 1)) (near _ (hS 2)) (near _ (hH 2)) (near _ (hS 3)) (near _ (hH 3)) x0 hx hg
    rw [show fit (sumS l 0) (sumS l 1) (sumS l 2) (sumS l 3) (sumH l 0) (sumH l 1) (sumH l 2) (sumH l 3) ex = (0, 0, 0, 0) by simp [fit, hx, hg, show ¬ 0 < ex by omega]] at h
    exact h
  have HF := Lib.hid hfit
  have hH0 := hH 0
  have hS0 := hS 0
  have hout := fun w hr => sizes_any A l c 0 (0) (0) (0) w (by unfold maxLen; omega) hr
  have HS := Lib.hid hout
  have HROW := Lib.hid hrow
  have HALL := Lib.hid hall
  by_cases hz : szE l 0 (0) (0) (0) = 0
  · obtain ⟨hL, hfair, -⟩ := fair_all hz
    have hsum := szL_sum hz
    have htot : (szL l 0 (0) (0) (0)).sum = sumN l := by
      rw [hsum]
      simp
    have hbd : ∀ x ∈ szL l 0 (0) (0) (0), -281474976710656 ≤ x ∧ x ≤ 281474976710656 := by
      intro x hx
      obtain ⟨i, hi⟩ := List.getElem?_of_mem hx
      have hil : i < l.length := by
        rcases Nat.lt_or_ge i l.length with h | h
        · exact h
        · rw [List.getElem?_eq_none (by rw [hL]; exact h)] at hi; cases hi
      obtain ⟨y, hy, hf⟩ := hfair i _ (List.getElem?_eq_getElem hil)
      rw [hi] at hy
      injection hy with hy
      subst hy
      have h1 := hf.2.2
      have h2 := (glueB_iff.1 (List.all_eq_true.1 hall _ (List.mem_of_getElem? (List.getElem?_eq_getElem hil)))).1
      omega
    have htt := fun A2 c2 w hi => total_any A2 (szL l 0 (0) (0) (0)) c2 w (by rw [hL]; exact hlen) hbd hi
    simp only [htot, hL] at htt
    have HT := Lib.hid htt
    have HZ := Lib.hid hz
    have HL := Lib.hid hL
    clear hcall hE hrow hfit hS hH near hout hall hz hL hfair hsum htot hbd htt e0 hg hx
    go_enter Try.func7, Try.ntmps7
    go_wp2_with (first | (go_at_call 19; refine HC.out.mono ?_; rintro e w1 ⟨rfl, hb1⟩) | (go_at_call 17; refine (HF.out _).mono ?_; rintro e w2 ⟨rfl, hb2⟩) | (go_at_call 11; refine (num_any _ _).mono ?_; rintro e w' ⟨rfl, rfl⟩) | (go_at_call 12; refine (live_any _).mono ?_; rintro e w9 ⟨rfl, hb9⟩))
    have hbel := andThen (andAlloc hb1 (.cells #[.int .i64 (sumN l), .int .i64 (sumS l 0), .int .i64 (sumS l 1), .int .i64 (sumS l 2), .int .i64 (sumS l 3), .int .i64 (sumH l 0), .int .i64 (sumH l 1), .int .i64 (sumH l 2), .int .i64 (sumH l 3)] 45)) hb2
    obtain ⟨ho2, hf2⟩ := old_cells hb2
    refine (HS.out _ (HROW.out.up hbel)).mono ?_
    rintro e w3 ⟨hs, hb3⟩
    rw [if_pos HZ.out] at hs
    obtain ⟨v, rfl, hown⟩ := hs
    obtain ⟨A2, c2, rfl, hc2, hm2, hseg⟩ := Seg.of_own hown
    obtain ⟨ho3, hf3⟩ := old_cells hb3
    have hz2 : w1.heap.size < w2.heap.size := by have := hb2.size; simp at this; omega
    have t0 : w3.cell? ⟨w1.heap.size, 0, none⟩ = some (.int .i64 (sumN l)) := (ho3 _ _ hz2).trans ((ho2 _ _ (by simp)).trans (by simp [go_sem]))
    have t5 : w3.cell? ⟨w1.heap.size, 5, none⟩ = some (.int .i64 (sumH l 0)) := (ho3 _ _ hz2).trans ((ho2 _ _ (by simp)).trans (by simp [go_sem]))
    have hcallT := HT.out A2 c2 w3 hseg
    have HCT := Lib.hid hcallT
    clear ho2 hf2 ho3 hf3 hcallT hown hseg
    go_wp2_with (first | (go_at_call 20; refine HCT.out.mono ?_; rintro e w' ⟨rfl, rfl⟩) | (go_at_call 11; refine (num_any _ _).mono ?_; rintro e w' ⟨rfl, rfl⟩) | (go_at_call 12; refine (live_any _).mono ?_; rintro e w9 ⟨rfl, hb9⟩))
    go_ret
    exact ⟨rfl, andThen (andThen hbel hb3) hb9⟩
  · exact absurd (still_ok hE) hz

set_option maxRecDepth 100000 in
set_option maxHeartbeats 1000000 in
theorem just_up0 (A : Option Addr) (l : List G) (c : Nat) (ex : Int) (w : World) (hrow : Row w A l) (hE : rowE l = 0) (e0 : nearB ex = true) (hx : 0 < ex) (hg : great (sumS l 0) (sumS l 1) (sumS l 2) (sumS l 3) = 0) (hd : 0 < sumS l 0) :
    Calls Try.prog 7 #[.slice A l.length c, .int .i64 ex] w fun e w' => e = .returned (.bool true) ∧ Below w.heap.size w w' := by
  obtain ⟨hlen, hall⟩ := rowE_zero hE
  have hcall := sum_good A l c w hrow hE
  unfold tot at hcall
  have HC := Lib.hid hcall
  obtain ⟨⟨n0, n1⟩, hS, hH⟩ := sums_bd hall hlen l.length
  rw [List.take_length] at n0 n1 hS hH
  have near : ∀ x, -2147483646000 ≤ x ∧ x ≤ 2147483646000 → nearB x = true := fun x hx => nearB_yes (by omega) (by omega)
  obtain ⟨x0, x1⟩ := nearB_iff.1 e0
  have hfit := fun w => by
    have h := fit_up0 (sumN l) (sumS l 0) (sumS l 1) (sumS l 2) (sumS l 3) (sumH l 0) (sumH l 1) (sumH l 2) (sumH l 3) ex w e0 (near _ (hS 0)) (near _ (hH 0)) (near _ (hS 1)) (near _ (hH 1)) (near _ (hS 2)) (near _ (hH 2)) (near _ (hS 3)) (near _ (hH 3)) x0 hx hg
    rw [show fit (sumS l 0) (sumS l 1) (sumS l 2) (sumS l 3) (sumH l 0) (sumH l 1) (sumH l 2) (sumH l 3) ex = (1, 0, ex, sumS l 0) by simp [fit, hx, hg, pick4]] at h
    exact h
  have HF := Lib.hid hfit
  have hH0 := hH 0
  have hS0 := hS 0
  have hout := fun w hr => sizes_any A l c 1 (0) (ex) (sumS l 0) w (by unfold maxLen; omega) hr
  have HS := Lib.hid hout
  have HROW := Lib.hid hrow
  have HALL := Lib.hid hall
  by_cases hz : szE l 1 (0) (ex) (sumS l 0) = 0
  · obtain ⟨hL, hfair, -⟩ := fair_all hz
    have hsum := szL_sum hz
    have htot : (szL l 1 (0) (ex) (sumS l 0)).sum = sumN l + ex := by
      rw [hsum]
      rw [if_pos rfl, psV_whole (by omega) (by omega) (by omega) (by have := hS 0; omega)]
    have hbd : ∀ x ∈ szL l 1 (0) (ex) (sumS l 0), -281474976710656 ≤ x ∧ x ≤ 281474976710656 := by
      intro x hx
      obtain ⟨i, hi⟩ := List.getElem?_of_mem hx
      have hil : i < l.length := by
        rcases Nat.lt_or_ge i l.length with h | h
        · exact h
        · rw [List.getElem?_eq_none (by rw [hL]; exact h)] at hi; cases hi
      obtain ⟨y, hy, hf⟩ := hfair i _ (List.getElem?_eq_getElem hil)
      rw [hi] at hy
      injection hy with hy
      subst hy
      have h1 := hf.2.2
      have h2 := (glueB_iff.1 (List.all_eq_true.1 hall _ (List.mem_of_getElem? (List.getElem?_eq_getElem hil)))).1
      omega
    have htt := fun A2 c2 w hi => total_any A2 (szL l 1 (0) (ex) (sumS l 0)) c2 w (by rw [hL]; exact hlen) hbd hi
    simp only [htot, hL] at htt
    have HT := Lib.hid htt
    have HZ := Lib.hid hz
    have HL := Lib.hid hL
    clear hcall hE hrow hfit hS hH near hout hall hz hL hfair hsum htot hbd htt e0 hg
    go_enter Try.func7, Try.ntmps7
    go_wp2_with (first | (go_at_call 19; refine HC.out.mono ?_; rintro e w1 ⟨rfl, hb1⟩) | (go_at_call 17; refine (HF.out _).mono ?_; rintro e w2 ⟨rfl, hb2⟩) | (go_at_call 11; refine (num_any _ _).mono ?_; rintro e w' ⟨rfl, rfl⟩) | (go_at_call 12; refine (live_any _).mono ?_; rintro e w9 ⟨rfl, hb9⟩))
    have hbel := andThen (andAlloc hb1 (.cells #[.int .i64 (sumN l), .int .i64 (sumS l 0), .int .i64 (sumS l 1), .int .i64 (sumS l 2), .int .i64 (sumS l 3), .int .i64 (sumH l 0), .int .i64 (sumH l 1), .int .i64 (sumH l 2), .int .i64 (sumH l 3)] 45)) hb2
    obtain ⟨ho2, hf2⟩ := old_cells hb2
    refine (HS.out _ (HROW.out.up hbel)).mono ?_
    rintro e w3 ⟨hs, hb3⟩
    rw [if_pos HZ.out] at hs
    obtain ⟨v, rfl, hown⟩ := hs
    obtain ⟨A2, c2, rfl, hc2, hm2, hseg⟩ := Seg.of_own hown
    obtain ⟨ho3, hf3⟩ := old_cells hb3
    have hz2 : w1.heap.size < w2.heap.size := by have := hb2.size; simp at this; omega
    have t0 : w3.cell? ⟨w1.heap.size, 0, none⟩ = some (.int .i64 (sumN l)) := (ho3 _ _ hz2).trans ((ho2 _ _ (by simp)).trans (by simp [go_sem]))
    have t5 : w3.cell? ⟨w1.heap.size, 5, none⟩ = some (.int .i64 (sumH l 0)) := (ho3 _ _ hz2).trans ((ho2 _ _ (by simp)).trans (by simp [go_sem]))
    have hcallT := HT.out A2 c2 w3 hseg
    have HCT := Lib.hid hcallT
    clear ho2 hf2 ho3 hf3 hcallT hown hseg
    go_wp2_with (first | (go_at_call 20; refine HCT.out.mono ?_; rintro e w' ⟨rfl, rfl⟩) | (go_at_call 11; refine (num_any _ _).mono ?_; rintro e w' ⟨rfl, rfl⟩) | (go_at_call 12; refine (live_any _).mono ?_; rintro e w9 ⟨rfl, hb9⟩))
    go_ret
    exact ⟨rfl, andThen (andThen hbel hb3) hb9⟩
  · have hne : (szE l 1 (0) (ex) (sumS l 0) != 0) = true := by simp [hz]
    have HZ := Lib.hid hz
    clear hcall hE hrow hfit hS hH near hout hall hz e0 hg
    go_enter Try.func7, Try.ntmps7
    go_wp2_with (first | (go_at_call 19; refine HC.out.mono ?_; rintro e w1 ⟨rfl, hb1⟩) | (go_at_call 17; refine (HF.out _).mono ?_; rintro e w2 ⟨rfl, hb2⟩) | (go_at_call 11; refine (num_any _ _).mono ?_; rintro e w' ⟨rfl, rfl⟩) | (go_at_call 12; refine (live_any _).mono ?_; rintro e w9 ⟨rfl, hb9⟩))
    have hbel := andThen (andAlloc hb1 (.cells #[.int .i64 (sumN l), .int .i64 (sumS l 0), .int .i64 (sumS l 1), .int .i64 (sumS l 2), .int .i64 (sumS l 3), .int .i64 (sumH l 0), .int .i64 (sumH l 1), .int .i64 (sumH l 2), .int .i64 (sumH l 3)] 45)) hb2
    refine (HS.out _ (HROW.out.up hbel)).mono ?_
    rintro e w3 ⟨hs, hb3⟩
    rw [if_neg HZ.out] at hs
    subst hs
    go_wp2_with (first | (go_at_call 11; refine (num_any _ _).mono ?_; rintro e w' ⟨rfl, rfl⟩) | (go_at_call 12; refine (live_any _).mono ?_; rintro e w9 ⟨rfl, hb9⟩))
    go_ret
    exact ⟨rfl, andThen (andThen hbel hb3) hb9⟩

set_option maxRecDepth 100000 in
set_option maxHeartbeats 1000000 in
theorem just_down0 (A : Option Addr) (l : List G) (c : Nat) (ex : Int) (w : World) (hrow : Row w A l) (hE : rowE l = 0) (e0 : nearB ex = true) (hx : ex < 0) (hg : great (sumH l 0) (sumH l 1) (sumH l 2) (sumH l 3) = 0) (hd : 0 < sumH l 0) (hm : ¬ sumH l 0 < -ex) :
    Calls Try.prog 7 #[.slice A l.length c, .int .i64 ex] w fun e w' => e = .returned (.bool true) ∧ Below w.heap.size w w' := by
  obtain ⟨hlen, hall⟩ := rowE_zero hE
  have hcall := sum_good A l c w hrow hE
  unfold tot at hcall
  have HC := Lib.hid hcall
  obtain ⟨⟨n0, n1⟩, hS, hH⟩ := sums_bd hall hlen l.length
  rw [List.take_length] at n0 n1 hS hH
  have near : ∀ x, -2147483646000 ≤ x ∧ x ≤ 2147483646000 → nearB x = true := fun x hx => nearB_yes (by omega) (by omega)
  obtain ⟨x0, x1⟩ := nearB_iff.1 e0
  have hfit := fun w => by
    have h := fit_down0 (sumN l) (sumS l 0) (sumS l 1) (sumS l 2) (sumS l 3) (sumH l 0) (sumH l 1) (sumH l 2) (sumH l 3) ex w e0 (near _ (hS 0)) (near _ (hH 0)) (near _ (hS 1)) (near _ (hH 1)) (near _ (hS 2)) (near _ (hH 2)) (near _ (hS 3)) (near _ (hH 3)) x0 hx hg
    rw [show fit (sumS l 0) (sumS l 1) (sumS l 2) (sumS l 3) (sumH l 0) (sumH l 1) (sumH l 2) (sumH l 3) ex = (2, 0, -ex, sumH l 0) by simp only [fit, hx, hg, pick4, if_neg (show ¬ 0 < ex by omega), if_true, if_neg (show ¬ (0 : Int) < 0 by omega), if_neg (show ¬ (0 : Int) = 3 by omega), if_neg (show ¬ (0 : Int) = 2 by omega), if_neg (show ¬ (0 : Int) = 1 by omega)]; rw [show min (-ex) (sumH l 0) = -ex by omega]] at h
    exact h
  have HF := Lib.hid hfit
  have hH0 := hH 0
  have hS0 := hS 0
  have hout := fun w hr => sizes_any A l c 2 (0) (-ex) (sumH l 0) w (by unfold maxLen; omega) hr
  have HS := Lib.hid hout
  have HROW := Lib.hid hrow
  have HALL := Lib.hid hall
  by_cases hz : szE l 2 (0) (-ex) (sumH l 0) = 0
  · obtain ⟨hL, hfair, -⟩ := fair_all hz
    have hsum := szL_sum hz
    have htot : (szL l 2 (0) (-ex) (sumH l 0)).sum = sumN l + ex := by
      rw [hsum]
      rw [if_neg (by omega), if_pos rfl, psV_whole (by omega) (by omega) (by omega) (by have := hH 0; omega)]
      omega
    have hbd : ∀ x ∈ szL l 2 (0) (-ex) (sumH l 0), -281474976710656 ≤ x ∧ x ≤ 281474976710656 := by
      intro x hx
      obtain ⟨i, hi⟩ := List.getElem?_of_mem hx
      have hil : i < l.length := by
        rcases Nat.lt_or_ge i l.length with h | h
        · exact h
        · rw [List.getElem?_eq_none (by rw [hL]; exact h)] at hi; cases hi
      obtain ⟨y, hy, hf⟩ := hfair i _ (List.getElem?_eq_getElem hil)
      rw [hi] at hy
      injection hy with hy
      subst hy
      have h1 := hf.2.2
      have h2 := (glueB_iff.1 (List.all_eq_true.1 hall _ (List.mem_of_getElem? (List.getElem?_eq_getElem hil)))).1
      omega
    have htt := fun A2 c2 w hi => total_any A2 (szL l 2 (0) (-ex) (sumH l 0)) c2 w (by rw [hL]; exact hlen) hbd hi
    simp only [htot, hL] at htt
    have HT := Lib.hid htt
    have HZ := Lib.hid hz
    have HL := Lib.hid hL
    clear hcall hE hrow hfit hS hH near hout hall hz hL hfair hsum htot hbd htt e0 hg
    go_enter Try.func7, Try.ntmps7
    go_wp2_with (first | (go_at_call 19; refine HC.out.mono ?_; rintro e w1 ⟨rfl, hb1⟩) | (go_at_call 17; refine (HF.out _).mono ?_; rintro e w2 ⟨rfl, hb2⟩) | (go_at_call 11; refine (num_any _ _).mono ?_; rintro e w' ⟨rfl, rfl⟩) | (go_at_call 12; refine (live_any _).mono ?_; rintro e w9 ⟨rfl, hb9⟩))
    have hbel := andThen (andAlloc hb1 (.cells #[.int .i64 (sumN l), .int .i64 (sumS l 0), .int .i64 (sumS l 1), .int .i64 (sumS l 2), .int .i64 (sumS l 3), .int .i64 (sumH l 0), .int .i64 (sumH l 1), .int .i64 (sumH l 2), .int .i64 (sumH l 3)] 45)) hb2
    obtain ⟨ho2, hf2⟩ := old_cells hb2
    refine (HS.out _ (HROW.out.up hbel)).mono ?_
    rintro e w3 ⟨hs, hb3⟩
    rw [if_pos HZ.out] at hs
    obtain ⟨v, rfl, hown⟩ := hs
    obtain ⟨A2, c2, rfl, hc2, hm2, hseg⟩ := Seg.of_own hown
    obtain ⟨ho3, hf3⟩ := old_cells hb3
    have hz2 : w1.heap.size < w2.heap.size := by have := hb2.size; simp at this; omega
    have t0 : w3.cell? ⟨w1.heap.size, 0, none⟩ = some (.int .i64 (sumN l)) := (ho3 _ _ hz2).trans ((ho2 _ _ (by simp)).trans (by simp [go_sem]))
    have t5 : w3.cell? ⟨w1.heap.size, 5, none⟩ = some (.int .i64 (sumH l 0)) := (ho3 _ _ hz2).trans ((ho2 _ _ (by simp)).trans (by simp [go_sem]))
    have hcallT := HT.out A2 c2 w3 hseg
    have HCT := Lib.hid hcallT
    clear ho2 hf2 ho3 hf3 hcallT hown hseg
    go_wp2_with (first | (go_at_call 20; refine HCT.out.mono ?_; rintro e w' ⟨rfl, rfl⟩) | (go_at_call 11; refine (num_any _ _).mono ?_; rintro e w' ⟨rfl, rfl⟩) | (go_at_call 12; refine (live_any _).mono ?_; rintro e w9 ⟨rfl, hb9⟩))
    go_ret
    exact ⟨rfl, andThen (andThen hbel hb3) hb9⟩
  · have hne : (szE l 2 (0) (-ex) (sumH l 0) != 0) = true := by simp [hz]
    have HZ := Lib.hid hz
    clear hcall hE hrow hfit hS hH near hout hall hz e0 hg
    go_enter Try.func7, Try.ntmps7
    go_wp2_with (first | (go_at_call 19; refine HC.out.mono ?_; rintro e w1 ⟨rfl, hb1⟩) | (go_at_call 17; refine (HF.out _).mono ?_; rintro e w2 ⟨rfl, hb2⟩) | (go_at_call 11; refine (num_any _ _).mono ?_; rintro e w' ⟨rfl, rfl⟩) | (go_at_call 12; refine (live_any _).mono ?_; rintro e w9 ⟨rfl, hb9⟩))
    have hbel := andThen (andAlloc hb1 (.cells #[.int .i64 (sumN l), .int .i64 (sumS l 0), .int .i64 (sumS l 1), .int .i64 (sumS l 2), .int .i64 (sumS l 3), .int .i64 (sumH l 0), .int .i64 (sumH l 1), .int .i64 (sumH l 2), .int .i64 (sumH l 3)] 45)) hb2
    refine (HS.out _ (HROW.out.up hbel)).mono ?_
    rintro e w3 ⟨hs, hb3⟩
    rw [if_neg HZ.out] at hs
    subst hs
    go_wp2_with (first | (go_at_call 11; refine (num_any _ _).mono ?_; rintro e w' ⟨rfl, rfl⟩) | (go_at_call 12; refine (live_any _).mono ?_; rintro e w9 ⟨rfl, hb9⟩))
    go_ret
    exact ⟨rfl, andThen (andThen hbel hb3) hb9⟩

set_option maxRecDepth 100000 in
set_option maxHeartbeats 1000000 in
theorem just_downp (A : Option Addr) (l : List G) (c : Nat) (ex : Int) (w : World) (hrow : Row w A l) (hE : rowE l = 0) (e0 : nearB ex = true) (hx : ex < 0) (hg : great (sumH l 0) (sumH l 1) (sumH l 2) (sumH l 3) = 0) (hd : 0 < sumH l 0) (hm : sumH l 0 < -ex) :
    Calls Try.prog 7 #[.slice A l.length c, .int .i64 ex] w fun e w' => e = .returned (.bool true) ∧ Below w.heap.size w w' := by
  obtain ⟨hlen, hall⟩ := rowE_zero hE
  have hcall := sum_good A l c w hrow hE
  unfold tot at hcall
  have HC := Lib.hid hcall
  obtain ⟨⟨n0, n1⟩, hS, hH⟩ := sums_bd hall hlen l.length
  rw [List.take_length] at n0 n1 hS hH
  have near : ∀ x, -2147483646000 ≤ x ∧ x ≤ 2147483646000 → nearB x = true := fun x hx => nearB_yes (by omega) (by omega)
  obtain ⟨x0, x1⟩ := nearB_iff.1 e0
  have hfit := fun w => by
    have h := fit_down0 (sumN l) (sumS l 0) (sumS l 1) (sumS l 2) (sumS l 3) (sumH l 0) (sumH l 1) (sumH l 2) (sumH l 3) ex w e0 (near _ (hS 0)) (near _ (hH 0)) (near _ (hS 1)) (near _ (hH 1)) (near _ (hS 2)) (near _ (hH 2)) (near _ (hS 3)) (near _ (hH 3)) x0 hx hg
    rw [show fit (sumS l 0) (sumS l 1) (sumS l 2) (sumS l 3) (sumH l 0) (sumH l 1) (sumH l 2) (sumH l 3) ex = (2, 0, sumH l 0, sumH l 0) by simp only [fit, hx, hg, pick4, if_neg (show ¬ 0 < ex by omega), if_true, if_neg (show ¬ (0 : Int) < 0 by omega), if_neg (show ¬ (0 : Int) = 3 by omega), if_neg (show ¬ (0 : Int) = 2 by omega), if_neg (show ¬ (0 : Int) = 1 by omega)]; rw [show min (-ex) (sumH l 0) = sumH l 0 by omega]] at h
    exact h
  have HF := Lib.hid hfit
  have hH0 := hH 0
  have hS0 := hS 0
  have hout := fun w hr => sizes_any A l c 2 (0) (sumH l 0) (sumH l 0) w (by unfold maxLen; omega) hr
  have HS := Lib.hid hout
  have HROW := Lib.hid hrow
  have HALL := Lib.hid hall
  by_cases hz : szE l 2 (0) (sumH l 0) (sumH l 0) = 0
  · obtain ⟨hL, hfair, -⟩ := fair_all hz
    have hsum := szL_sum hz
    have htot : (szL l 2 (0) (sumH l 0) (sumH l 0)).sum = sumN l - sumH l 0 := by
      rw [hsum]
      rw [if_neg (by omega), if_pos rfl, psV_whole (by omega) (by have := hH 0; omega) (by omega) (by have := hH 0; omega)]
      omega
    have hbd : ∀ x ∈ szL l 2 (0) (sumH l 0) (sumH l 0), -281474976710656 ≤ x ∧ x ≤ 281474976710656 := by
      intro x hx
      obtain ⟨i, hi⟩ := List.getElem?_of_mem hx
      have hil : i < l.length := by
        rcases Nat.lt_or_ge i l.length with h | h
        · exact h
        · rw [List.getElem?_eq_none (by rw [hL]; exact h)] at hi; cases hi
      obtain ⟨y, hy, hf⟩ := hfair i _ (List.getElem?_eq_getElem hil)
      rw [hi] at hy
      injection hy with hy
      subst hy
      have h1 := hf.2.2
      have h2 := (glueB_iff.1 (List.all_eq_true.1 hall _ (List.mem_of_getElem? (List.getElem?_eq_getElem hil)))).1
      omega
    have htt := fun A2 c2 w hi => total_any A2 (szL l 2 (0) (sumH l 0) (sumH l 0)) c2 w (by rw [hL]; exact hlen) hbd hi
    simp only [htot, hL] at htt
    have HT := Lib.hid htt
    have HZ := Lib.hid hz
    have HL := Lib.hid hL
    clear hcall hE hrow hfit hS hH near hout hall hz hL hfair hsum htot hbd htt e0 hg
    go_enter Try.func7, Try.ntmps7
    go_wp2_with (first | (go_at_call 19; refine HC.out.mono ?_; rintro e w1 ⟨rfl, hb1⟩) | (go_at_call 17; refine (HF.out _).mono ?_; rintro e w2 ⟨rfl, hb2⟩) | (go_at_call 11; refine (num_any _ _).mono ?_; rintro e w' ⟨rfl, rfl⟩) | (go_at_call 12; refine (live_any _).mono ?_; rintro e w9 ⟨rfl, hb9⟩))
    have hbel := andThen (andAlloc hb1 (.cells #[.int .i64 (sumN l), .int .i64 (sumS l 0), .int .i64 (sumS l 1), .int .i64 (sumS l 2), .int .i64 (sumS l 3), .int .i64 (sumH l 0), .int .i64 (sumH l 1), .int .i64 (sumH l 2), .int .i64 (sumH l 3)] 45)) hb2
    obtain ⟨ho2, hf2⟩ := old_cells hb2
    refine (HS.out _ (HROW.out.up hbel)).mono ?_
    rintro e w3 ⟨hs, hb3⟩
    rw [if_pos HZ.out] at hs
    obtain ⟨v, rfl, hown⟩ := hs
    obtain ⟨A2, c2, rfl, hc2, hm2, hseg⟩ := Seg.of_own hown
    obtain ⟨ho3, hf3⟩ := old_cells hb3
    have hz2 : w1.heap.size < w2.heap.size := by have := hb2.size; simp at this; omega
    have t0 : w3.cell? ⟨w1.heap.size, 0, none⟩ = some (.int .i64 (sumN l)) := (ho3 _ _ hz2).trans ((ho2 _ _ (by simp)).trans (by simp [go_sem]))
    have t5 : w3.cell? ⟨w1.heap.size, 5, none⟩ = some (.int .i64 (sumH l 0)) := (ho3 _ _ hz2).trans ((ho2 _ _ (by simp)).trans (by simp [go_sem]))
    have hcallT := HT.out A2 c2 w3 hseg
    have HCT := Lib.hid hcallT
    clear ho2 hf2 ho3 hf3 hcallT hown hseg
    go_wp2_with (first | (go_at_call 20; refine HCT.out.mono ?_; rintro e w' ⟨rfl, rfl⟩) | (go_at_call 11; refine (num_any _ _).mono ?_; rintro e w' ⟨rfl, rfl⟩) | (go_at_call 12; refine (live_any _).mono ?_; rintro e w9 ⟨rfl, hb9⟩))
    go_ret
    exact ⟨rfl, andThen (andThen hbel hb3) hb9⟩
  · have hne : (szE l 2 (0) (sumH l 0) (sumH l 0) != 0) = true := by simp [hz]
    have HZ := Lib.hid hz
    clear hcall hE hrow hfit hS hH near hout hall hz e0 hg
    go_enter Try.func7, Try.ntmps7
    go_wp2_with (first | (go_at_call 19; refine HC.out.mono ?_; rintro e w1 ⟨rfl, hb1⟩) | (go_at_call 17; refine (HF.out _).mono ?_; rintro e w2 ⟨rfl, hb2⟩) | (go_at_call 11; refine (num_any _ _).mono ?_; rintro e w' ⟨rfl, rfl⟩) | (go_at_call 12; refine (live_any _).mono ?_; rintro e w9 ⟨rfl, hb9⟩))
    have hbel := andThen (andAlloc hb1 (.cells #[.int .i64 (sumN l), .int .i64 (sumS l 0), .int .i64 (sumS l 1), .int .i64 (sumS l 2), .int .i64 (sumS l 3), .int .i64 (sumH l 0), .int .i64 (sumH l 1), .int .i64 (sumH l 2), .int .i64 (sumH l 3)] 45)) hb2
    refine (HS.out _ (HROW.out.up hbel)).mono ?_
    rintro e w3 ⟨hs, hb3⟩
    rw [if_neg HZ.out] at hs
    subst hs
    go_wp2_with (first | (go_at_call 11; refine (num_any _ _).mono ?_; rintro e w' ⟨rfl, rfl⟩) | (go_at_call 12; refine (live_any _).mono ?_; rintro e w9 ⟨rfl, hb9⟩))
    go_ret
    exact ⟨rfl, andThen (andThen hbel hb3) hb9⟩

set_option maxRecDepth 100000 in
set_option maxHeartbeats 1000000 in
theorem just_up1 (A : Option Addr) (l : List G) (c : Nat) (ex : Int) (w : World) (hrow : Row w A l) (hE : rowE l = 0) (e0 : nearB ex = true) (hx : 0 < ex) (hg : great (sumS l 0) (sumS l 1) (sumS l 2) (sumS l 3) = 1) (hd : 0 < sumS l 1) :
    Calls Try.prog 7 #[.slice A l.length c, .int .i64 ex] w fun e w' => e = .returned (.bool true) ∧ Below w.heap.size w w' := by
  obtain ⟨hlen, hall⟩ := rowE_zero hE
  have hcall := sum_good A l c w hrow hE
  unfold tot at hcall
  have HC := Lib.hid hcall
  obtain ⟨⟨n0, n1⟩, hS, hH⟩ := sums_bd hall hlen l.length
  rw [List.take_length] at n0 n1 hS hH
  have near : ∀ x, -2147483646000 ≤ x ∧ x ≤ 2147483646000 → nearB x = true := fun x hx => nearB_yes (by omega) (by omega)
  obtain ⟨x0, x1⟩ := nearB_iff.1 e0
  have hfit := fun w => by
    have h := fit_up1 (sumN l) (sumS l 0) (sumS l 1) (sumS l 2) (sumS l 3) (sumH l 0) (sumH l 1) (sumH l 2) (sumH l 3) ex w e0 (near _ (hS 0)) (near _ (hH 0)) (near _ (hS 1)) (near _ (hH 1)) (near _ (hS 2)) (near _ (hH 2)) (near _ (hS 3)) (near _ (hH 3)) x0 hx hg
    rw [show fit (sumS l 0) (sumS l 1) (sumS l 2) (sumS l 3) (sumH l 0) (sumH l 1) (sumH l 2) (sumH l 3) ex = (1, 1, ex, sumS l 1) by simp [fit, hx, hg, pick4]] at h
    exact h
  have HF := Lib.hid hfit
  have hH0 := hH 0
  have hS0 := hS 0
  have hout := fun w hr => sizes_any A l c 1 (1) (ex) (sumS l 1) w (by unfold maxLen; omega) hr
  have HS := Lib.hid hout
  have HROW := Lib.hid hrow
  have HALL := Lib.hid hall
  by_cases hz : szE l 1 (1) (ex) (sumS l 1) = 0
  · obtain ⟨hL, hfair, -⟩ := fair_all hz
    have hsum := szL_sum hz
    have htot : (szL l 1 (1) (ex) (sumS l 1)).sum = sumN l + ex := by
      rw [hsum]
      rw [if_pos rfl, psV_whole (by omega) (by omega) (by omega) (by have := hS 1; omega)]
    have hbd : ∀ x ∈ szL l 1 (1) (ex) (sumS l 1), -281474976710656 ≤ x ∧ x ≤ 281474976710656 := by
      intro x hx
      obtain ⟨i, hi⟩ := List.getElem?_of_mem hx
      have hil : i < l.length := by
        rcases Nat.lt_or_ge i l.length with h | h
        · exact h
        · rw [List.getElem?_eq_none (by rw [hL]; exact h)] at hi; cases hi
      obtain ⟨y, hy, hf⟩ := hfair i _ (List.getElem?_eq_getElem hil)
      rw [hi] at hy
      injection hy with hy
      subst hy
      have h1 := hf.2.2
      have h2 := (glueB_iff.1 (List.all_eq_true.1 hall _ (List.mem_of_getElem? (List.getElem?_eq_getElem hil)))).1
      omega
    have htt := fun A2 c2 w hi => total_any A2 (szL l 1 (1) (ex) (sumS l 1)) c2 w (by rw [hL]; exact hlen) hbd hi
    simp only [htot, hL] at htt
    have HT := Lib.hid htt
    have HZ := Lib.hid hz
    have HL := Lib.hid hL
    clear hcall hE hrow hfit hS hH near hout hall hz hL hfair hsum htot hbd htt e0 hg
    go_enter Try.func7, Try.ntmps7
    go_wp2_with (first | (go_at_call 19; refine HC.out.mono ?_; rintro e w1 ⟨rfl, hb1⟩) | (go_at_call 17; refine (HF.out _).mono ?_; rintro e w2 ⟨rfl, hb2⟩) | (go_at_call 11; refine (num_any _ _).mono ?_; rintro e w' ⟨rfl, rfl⟩) | (go_at_call 12; refine (live_any _).mono ?_; rintro e w9 ⟨rfl, hb9⟩))
    have hbel := andThen (andAlloc hb1 (.cells #[.int .i64 (sumN l), .int .i64 (sumS l 0), .int .i64 (sumS l 1), .int .i64 (sumS l 2), .int .i64 (sumS l 3), .int .i64 (sumH l 0), .int .i64 (sumH l 1), .int .i64 (sumH l 2), .int .i64 (sumH l 3)] 45)) hb2
    obtain ⟨ho2, hf2⟩ := old_cells hb2
    refine (HS.out _ (HROW.out.up hbel)).mono ?_
    rintro e w3 ⟨hs, hb3⟩
    rw [if_pos HZ.out] at hs
    obtain ⟨v, rfl, hown⟩ := hs
    obtain ⟨A2, c2, rfl, hc2, hm2, hseg⟩ := Seg.of_own hown
    obtain ⟨ho3, hf3⟩ := old_cells hb3
    have hz2 : w1.heap.size < w2.heap.size := by have := hb2.size; simp at this; omega
    have t0 : w3.cell? ⟨w1.heap.size, 0, none⟩ = some (.int .i64 (sumN l)) := (ho3 _ _ hz2).trans ((ho2 _ _ (by simp)).trans (by simp [go_sem]))
    have t5 : w3.cell? ⟨w1.heap.size, 5, none⟩ = some (.int .i64 (sumH l 0)) := (ho3 _ _ hz2).trans ((ho2 _ _ (by simp)).trans (by simp [go_sem]))
    have hcallT := HT.out A2 c2 w3 hseg
    have HCT := Lib.hid hcallT
    clear ho2 hf2 ho3 hf3 hcallT hown hseg
    go_wp2_with (first | (go_at_call 20; refine HCT.out.mono ?_; rintro e w' ⟨rfl, rfl⟩) | (go_at_call 11; refine (num_any _ _).mono ?_; rintro e w' ⟨rfl, rfl⟩) | (go_at_call 12; refine (live_any _).mono ?_; rintro e w9 ⟨rfl, hb9⟩))
    go_ret
    exact ⟨rfl, andThen (andThen hbel hb3) hb9⟩
  · have hne : (szE l 1 (1) (ex) (sumS l 1) != 0) = true := by simp [hz]
    have HZ := Lib.hid hz
    clear hcall hE hrow hfit hS hH near hout hall hz e0 hg
    go_enter Try.func7, Try.ntmps7
    go_wp2_with (first | (go_at_call 19; refine HC.out.mono ?_; rintro e w1 ⟨rfl, hb1⟩) | (go_at_call 17; refine (HF.out _).mono ?_; rintro e w2 ⟨rfl, hb2⟩) | (go_at_call 11; refine (num_any _ _).mono ?_; rintro e w' ⟨rfl, rfl⟩) | (go_at_call 12; refine (live_any _).mono ?_; rintro e w9 ⟨rfl, hb9⟩))
    have hbel := andThen (andAlloc hb1 (.cells #[.int .i64 (sumN l), .int .i64 (sumS l 0), .int .i64 (sumS l 1), .int .i64 (sumS l 2), .int .i64 (sumS l 3), .int .i64 (sumH l 0), .int .i64 (sumH l 1), .int .i64 (sumH l 2), .int .i64 (sumH l 3)] 45)) hb2
    refine (HS.out _ (HROW.out.up hbel)).mono ?_
    rintro e w3 ⟨hs, hb3⟩
    rw [if_neg HZ.out] at hs
    subst hs
    go_wp2_with (first | (go_at_call 11; refine (num_any _ _).mono ?_; rintro e w' ⟨rfl, rfl⟩) | (go_at_call 12; refine (live_any _).mono ?_; rintro e w9 ⟨rfl, hb9⟩))
    go_ret
    exact ⟨rfl, andThen (andThen hbel hb3) hb9⟩

set_option maxRecDepth 100000 in
set_option maxHeartbeats 1000000 in
theorem just_down1 (A : Option Addr) (l : List G) (c : Nat) (ex : Int) (w : World) (hrow : Row w A l) (hE : rowE l = 0) (e0 : nearB ex = true) (hx : ex < 0) (hg : great (sumH l 0) (sumH l 1) (sumH l 2) (sumH l 3) = 1) (hd : 0 < sumH l 1) :
    Calls Try.prog 7 #[.slice A l.length c, .int .i64 ex] w fun e w' => e = .returned (.bool true) ∧ Below w.heap.size w w' := by
  obtain ⟨hlen, hall⟩ := rowE_zero hE
  have hcall := sum_good A l c w hrow hE
  unfold tot at hcall
  have HC := Lib.hid hcall
  obtain ⟨⟨n0, n1⟩, hS, hH⟩ := sums_bd hall hlen l.length
  rw [List.take_length] at n0 n1 hS hH
  have near : ∀ x, -2147483646000 ≤ x ∧ x ≤ 2147483646000 → nearB x = true := fun x hx => nearB_yes (by omega) (by omega)
  obtain ⟨x0, x1⟩ := nearB_iff.1 e0
  have hfit := fun w => by
    have h := fit_down1 (sumN l) (sumS l 0) (sumS l 1) (sumS l 2) (sumS l 3) (sumH l 0) (sumH l 1) (sumH l 2) (sumH l 3) ex w e0 (near _ (hS 0)) (near _ (hH 0)) (near _ (hS 1)) (near _ (hH 1)) (near _ (hS 2)) (near _ (hH 2)) (near _ (hS 3)) (near _ (hH 3)) x0 hx hg
    rw [show fit (sumS l 0) (sumS l 1) (sumS l 2) (sumS l 3) (sumH l 0) (sumH l 1) (sumH l 2) (sumH l 3) ex = (2, 1, -ex, sumH l 1) by simp [fit, hx, hg, pick4, show ¬ 0 < ex by omega]] at h
    exact h
  have HF := Lib.hid hfit
  have hH0 := hH 0
  have hS0 := hS 0
  have hout := fun w hr => sizes_any A l c 2 (1) (-ex) (sumH l 1) w (by unfold maxLen; omega) hr
  have HS := Lib.hid hout
  have HROW := Lib.hid hrow
  have HALL := Lib.hid hall
  by_cases hz : szE l 2 (1) (-ex) (sumH l 1) = 0
  · obtain ⟨hL, hfair, -⟩ := fair_all hz
    have hsum := szL_sum hz
    have htot : (szL l 2 (1) (-ex) (sumH l 1)).sum = sumN l + ex := by
      rw [hsum]
      rw [if_neg (by omega), if_pos rfl, psV_whole (by omega) (by omega) (by omega) (by have := hH 1; omega)]
      omega
    have hbd : ∀ x ∈ szL l 2 (1) (-ex) (sumH l 1), -281474976710656 ≤ x ∧ x ≤ 281474976710656 := by
      intro x hx
      obtain ⟨i, hi⟩ := List.getElem?_of_mem hx
      have hil : i < l.length := by
        rcases Nat.lt_or_ge i l.length with h | h
        · exact h
        · rw [List.getElem?_eq_none (by rw [hL]; exact h)] at hi; cases hi
      obtain ⟨y, hy, hf⟩ := hfair i _ (List.getElem?_eq_getElem hil)
      rw [hi] at hy
      injection hy with hy
      subst hy
      have h1 := hf.2.2
      have h2 := (glueB_iff.1 (List.all_eq_true.1 hall _ (List.mem_of_getElem? (List.getElem?_eq_getElem hil)))).1
      omega
    have htt := fun A2 c2 w hi => total_any A2 (szL l 2 (1) (-ex) (sumH l 1)) c2 w (by rw [hL]; exact hlen) hbd hi
    simp only [htot, hL] at htt
    have HT := Lib.hid htt
    have HZ := Lib.hid hz
    have HL := Lib.hid hL
    clear hcall hE hrow hfit hS hH near hout hall hz hL hfair hsum htot hbd htt e0 hg
    go_enter Try.func7, Try.ntmps7
    go_wp2_with (first | (go_at_call 19; refine HC.out.mono ?_; rintro e w1 ⟨rfl, hb1⟩) | (go_at_call 17; refine (HF.out _).mono ?_; rintro e w2 ⟨rfl, hb2⟩) | (go_at_call 11; refine (num_any _ _).mono ?_; rintro e w' ⟨rfl, rfl⟩) | (go_at_call 12; refine (live_any _).mono ?_; rintro e w9 ⟨rfl, hb9⟩))
    have hbel := andThen (andAlloc hb1 (.cells #[.int .i64 (sumN l), .int .i64 (sumS l 0), .int .i64 (sumS l 1), .int .i64 (sumS l 2), .int .i64 (sumS l 3), .int .i64 (sumH l 0), .int .i64 (sumH l 1), .int .i64 (sumH l 2), .int .i64 (sumH l 3)] 45)) hb2
    obtain ⟨ho2, hf2⟩ := old_cells hb2
    refine (HS.out _ (HROW.out.up hbel)).mono ?_
    rintro e w3 ⟨hs, hb3⟩
    rw [if_pos HZ.out] at hs
    obtain ⟨v, rfl, hown⟩ := hs
    obtain ⟨A2, c2, rfl, hc2, hm2, hseg⟩ := Seg.of_own hown
    obtain ⟨ho3, hf3⟩ := old_cells hb3
    have hz2 : w1.heap.size < w2.heap.size := by have := hb2.size; simp at this; omega
    have t0 : w3.cell? ⟨w1.heap.size, 0, none⟩ = some (.int .i64 (sumN l)) := (ho3 _ _ hz2).trans ((ho2 _ _ (by simp)).trans (by simp [go_sem]))
    have t5 : w3.cell? ⟨w1.heap.size, 5, none⟩ = some (.int .i64 (sumH l 0)) := (ho3 _ _ hz2).trans ((ho2 _ _ (by simp)).trans (by simp [go_sem]))
    have hcallT := HT.out A2 c2 w3 hseg
    have HCT := Lib.hid hcallT
    clear ho2 hf2 ho3 hf3 hcallT hown hseg
    go_wp2_with (first | (go_at_call 20; refine HCT.out.mono ?_; rintro e w' ⟨rfl, rfl⟩) | (go_at_call 11; refine (num_any _ _).mono ?_; rintro e w' ⟨rfl, rfl⟩) | (go_at_call 12; refine (live_any _).mono ?_; rintro e w9 ⟨rfl, hb9⟩))
    go_ret
    exact ⟨rfl, andThen (andThen hbel hb3) hb9⟩
  · have hne : (szE l 2 (1) (-ex) (sumH l 1) != 0) = true := by simp [hz]
    have HZ := Lib.hid hz
    clear hcall hE hrow hfit hS hH near hout hall hz e0 hg
    go_enter Try.func7, Try.ntmps7
    go_wp2_with (first | (go_at_call 19; refine HC.out.mono ?_; rintro e w1 ⟨rfl, hb1⟩) | (go_at_call 17; refine (HF.out _).mono ?_; rintro e w2 ⟨rfl, hb2⟩) | (go_at_call 11; refine (num_any _ _).mono ?_; rintro e w' ⟨rfl, rfl⟩) | (go_at_call 12; refine (live_any _).mono ?_; rintro e w9 ⟨rfl, hb9⟩))
    have hbel := andThen (andAlloc hb1 (.cells #[.int .i64 (sumN l), .int .i64 (sumS l 0), .int .i64 (sumS l 1), .int .i64 (sumS l 2), .int .i64 (sumS l 3), .int .i64 (sumH l 0), .int .i64 (sumH l 1), .int .i64 (sumH l 2), .int .i64 (sumH l 3)] 45)) hb2
    refine (HS.out _ (HROW.out.up hbel)).mono ?_
    rintro e w3 ⟨hs, hb3⟩
    rw [if_neg HZ.out] at hs
    subst hs
    go_wp2_with (first | (go_at_call 11; refine (num_any _ _).mono ?_; rintro e w' ⟨rfl, rfl⟩) | (go_at_call 12; refine (live_any _).mono ?_; rintro e w9 ⟨rfl, hb9⟩))
    go_ret
    exact ⟨rfl, andThen (andThen hbel hb3) hb9⟩

set_option maxRecDepth 100000 in
set_option maxHeartbeats 1000000 in
theorem just_up2 (A : Option Addr) (l : List G) (c : Nat) (ex : Int) (w : World) (hrow : Row w A l) (hE : rowE l = 0) (e0 : nearB ex = true) (hx : 0 < ex) (hg : great (sumS l 0) (sumS l 1) (sumS l 2) (sumS l 3) = 2) (hd : 0 < sumS l 2) :
    Calls Try.prog 7 #[.slice A l.length c, .int .i64 ex] w fun e w' => e = .returned (.bool true) ∧ Below w.heap.size w w' := by
  obtain ⟨hlen, hall⟩ := rowE_zero hE
  have hcall := sum_good A l c w hrow hE
  unfold tot at hcall
  have HC := Lib.hid hcall
  obtain ⟨⟨n0, n1⟩, hS, hH⟩ := sums_bd hall hlen l.length
  rw [List.take_length] at n0 n1 hS hH
  have near : ∀ x, -2147483646000 ≤ x ∧ x ≤ 2147483646000 → nearB x = true := fun x hx => nearB_yes (by omega) (by omega)
  obtain ⟨x0, x1⟩ := nearB_iff.1 e0
  have hfit := fun w => by
    have h := fit_up2 (sumN l) (sumS l 0) (sumS l 1) (sumS l 2) (sumS l 3) (sumH l 0) (sumH l 1) (sumH l 2) (sumH l 3) ex w e0 (near _ (hS 0)) (near _ (hH 0)) (near _ (hS 1)) (near _ (hH 1)) (near _ (hS 2)) (near _ (hH 2)) (near _ (hS 3)) (near _ (hH 3)) x0 hx hg
    rw [show fit (sumS l 0) (sumS l 1) (sumS l 2) (sumS l 3) (sumH l 0) (sumH l 1) (sumH l 2) (sumH l 3) ex = (1, 2, ex, sumS l 2) by simp [fit, hx, hg, pick4]] at h
    exact h
  have HF := Lib.hid hfit
  have hH0 := hH 0
  have hS0 := hS 0
  have hout := fun w hr => sizes_any A l c 1 (2) (ex) (sumS l 2) w (by unfold maxLen; omega) hr
  have HS := Lib.hid hout
  have HROW := Lib.hid hrow
  have HALL := Lib.hid hall
  by_cases hz : szE l 1 (2) (ex) (sumS l 2) = 0
  · obtain ⟨hL, hfair, -⟩ := fair_all hz
    have hsum := szL_sum hz
    have htot : (szL l 1 (2) (ex) (sumS l 2)).sum = sumN l + ex := by
      rw [hsum]
      rw [if_pos rfl, psV_whole (by omega) (by omega) (by omega) (by have := hS 2; omega)]
    have hbd : ∀ x ∈ szL l 1 (2) (ex) (sumS l 2), -281474976710656 ≤ x ∧ x ≤ 281474976710656 := by
      intro x hx
      obtain ⟨i, hi⟩ := List.getElem?_of_mem hx
      have hil : i < l.length := by
        rcases Nat.lt_or_ge i l.length with h | h
        · exact h
        · rw [List.getElem?_eq_none (by rw [hL]; exact h)] at hi; cases hi
      obtain ⟨y, hy, hf⟩ := hfair i _ (List.getElem?_eq_getElem hil)
      rw [hi] at hy
      injection hy with hy
      subst hy
      have h1 := hf.2.2
      have h2 := (glueB_iff.1 (List.all_eq_true.1 hall _ (List.mem_of_getElem? (List.getElem?_eq_getElem hil)))).1
      omega
    have htt := fun A2 c2 w hi => total_any A2 (szL l 1 (2) (ex) (sumS l 2)) c2 w (by rw [hL]; exact hlen) hbd hi
    simp only [htot, hL] at htt
    have HT := Lib.hid htt
    have HZ := Lib.hid hz
    have HL := Lib.hid hL
    clear hcall hE hrow hfit hS hH near hout hall hz hL hfair hsum htot hbd htt e0 hg
    go_enter Try.func7, Try.ntmps7
    go_wp2_with (first | (go_at_call 19; refine HC.out.mono ?_; rintro e w1 ⟨rfl, hb1⟩) | (go_at_call 17; refine (HF.out _).mono ?_; rintro e w2 ⟨rfl, hb2⟩) | (go_at_call 11; refine (num_any _ _).mono ?_; rintro e w' ⟨rfl, rfl⟩) | (go_at_call 12; refine (live_any _).mono ?_; rintro e w9 ⟨rfl, hb9⟩))
    have hbel := andThen (andAlloc hb1 (.cells #[.int .i64 (sumN l), .int .i64 (sumS l 0), .int .i64 (sumS l 1), .int .i64 (sumS l 2), .int .i64 (sumS l 3), .int .i64 (sumH l 0), .int .i64 (sumH l 1), .int .i64 (sumH l 2), .int .i64 (sumH l 3)] 45)) hb2
    obtain ⟨ho2, hf2⟩ := old_cells hb2
    refine (HS.out _ (HROW.out.up hbel)).mono ?_
    rintro e w3 ⟨hs, hb3⟩
    rw [if_pos HZ.out] at hs
    obtain ⟨v, rfl, hown⟩ := hs
    obtain ⟨A2, c2, rfl, hc2, hm2, hseg⟩ := Seg.of_own hown
    obtain ⟨ho3, hf3⟩ := old_cells hb3
    have hz2 : w1.heap.size < w2.heap.size := by have := hb2.size; simp at this; omega
    have t0 : w3.cell? ⟨w1.heap.size, 0, none⟩ = some (.int .i64 (sumN l)) := (ho3 _ _ hz2).trans ((ho2 _ _ (by simp)).trans (by simp [go_sem]))
    have t5 : w3.cell? ⟨w1.heap.size, 5, none⟩ = some (.int .i64 (sumH l 0)) := (ho3 _ _ hz2).trans ((ho2 _ _ (by simp)).trans (by simp [go_sem]))
    have hcallT := HT.out A2 c2 w3 hseg
    have HCT := Lib.hid hcallT
    clear ho2 hf2 ho3 hf3 hcallT hown hseg
    go_wp2_with (first | (go_at_call 20; refine HCT.out.mono ?_; rintro e w' ⟨rfl, rfl⟩) | (go_at_call 11; refine (num_any _ _).mono ?_; rintro e w' ⟨rfl, rfl⟩) | (go_at_call 12; refine (live_any _).mono ?_; rintro e w9 ⟨rfl, hb9⟩))
    go_ret
    exact ⟨rfl, andThen (andThen hbel hb3) hb9⟩
  · have hne : (szE l 1 (2) (ex) (sumS l 2) != 0) = true := by simp [hz]
    have HZ := Lib.hid hz
    clear hcall hE hrow hfit hS hH near hout hall hz e0 hg
    go_enter Try.func7, Try.ntmps7
    go_wp2_with (first | (go_at_call 19; refine HC.out.mono ?_; rintro e w1 ⟨rfl, hb1⟩) | (go_at_call 17; refine (HF.out _).mono ?_; rintro e w2 ⟨rfl, hb2⟩) | (go_at_call 11; refine (num_any _ _).mono ?_; rintro e w' ⟨rfl, rfl⟩) | (go_at_call 12; refine (live_any _).mono ?_; rintro e w9 ⟨rfl, hb9⟩))
    have hbel := andThen (andAlloc hb1 (.cells #[.int .i64 (sumN l), .int .i64 (sumS l 0), .int .i64 (sumS l 1), .int .i64 (sumS l 2), .int .i64 (sumS l 3), .int .i64 (sumH l 0), .int .i64 (sumH l 1), .int .i64 (sumH l 2), .int .i64 (sumH l 3)] 45)) hb2
    refine (HS.out _ (HROW.out.up hbel)).mono ?_
    rintro e w3 ⟨hs, hb3⟩
    rw [if_neg HZ.out] at hs
    subst hs
    go_wp2_with (first | (go_at_call 11; refine (num_any _ _).mono ?_; rintro e w' ⟨rfl, rfl⟩) | (go_at_call 12; refine (live_any _).mono ?_; rintro e w9 ⟨rfl, hb9⟩))
    go_ret
    exact ⟨rfl, andThen (andThen hbel hb3) hb9⟩

set_option maxRecDepth 100000 in
set_option maxHeartbeats 1000000 in
theorem just_down2 (A : Option Addr) (l : List G) (c : Nat) (ex : Int) (w : World) (hrow : Row w A l) (hE : rowE l = 0) (e0 : nearB ex = true) (hx : ex < 0) (hg : great (sumH l 0) (sumH l 1) (sumH l 2) (sumH l 3) = 2) (hd : 0 < sumH l 2) :
    Calls Try.prog 7 #[.slice A l.length c, .int .i64 ex] w fun e w' => e = .returned (.bool true) ∧ Below w.heap.size w w' := by
  obtain ⟨hlen, hall⟩ := rowE_zero hE
  have hcall := sum_good A l c w hrow hE
  unfold tot at hcall
  have HC := Lib.hid hcall
  obtain ⟨⟨n0, n1⟩, hS, hH⟩ := sums_bd hall hlen l.length
  rw [List.take_length] at n0 n1 hS hH
  have near : ∀ x, -2147483646000 ≤ x ∧ x ≤ 2147483646000 → nearB x = true := fun x hx => nearB_yes (by omega) (by omega)
  obtain ⟨x0, x1⟩ := nearB_iff.1 e0
  have hfit := fun w => by
    have h := fit_down2 (sumN l) (sumS l 0) (sumS l 1) (sumS l 2) (sumS l 3) (sumH l 0) (sumH l 1) (sumH l 2) (sumH l 3) ex w e0 (near _ (hS 0)) (near _ (hH 0)) (near _ (hS 1)) (near _ (hH 1)) (near _ (hS 2)) (near _ (hH 2)) (near _ (hS 3)) (near _ (hH 3)) x0 hx hg
    rw [show fit (sumS l 0) (sumS l 1) (sumS l 2) (sumS l 3) (sumH l 0) (sumH l 1) (sumH l 2) (sumH l 3) ex = (2, 2, -ex, sumH l 2) by simp [fit, hx, hg, pick4, show ¬ 0 < ex by omega]] at h
    exact h
  have HF := Lib.hid hfit
  have hH0 := hH 0
  have hS0 := hS 0
  have hout := fun w hr => sizes_any A l c 2 (2) (-ex) (sumH l 2) w (by unfold maxLen; omega) hr
  have HS := Lib.hid hout
  have HROW := Lib.hid hrow
  have HALL := Lib.hid hall
  by_cases hz : szE l 2 (2) (-ex) (sumH l 2) = 0
  · obtain ⟨hL, hfair, -⟩ := fair_all hz
    have hsum := szL_sum hz
    have htot : (szL l 2 (2) (-ex) (sumH l 2)).sum = sumN l + ex := by
      rw [hsum]
      rw [if_neg (by omega), if_pos rfl, psV_whole (by omega) (by omega) (by omega) (by have := hH 2; omega)]
      omega
    have hbd : ∀ x ∈ szL l 2 (2) (-ex) (sumH l 2), -281474976710656 ≤ x ∧ x ≤ 281474976710656 := by
      intro x hx
      obtain ⟨i, hi⟩ := List.getElem?_of_mem hx
      have hil : i < l.length := by
        rcases Nat.lt_or_ge i l.length with h | h
        · exact h
        · rw [List.getElem?_eq_none (by rw [hL]; exact h)] at hi; cases hi
      obtain ⟨y, hy, hf⟩ := hfair i _ (List.getElem?_eq_getElem hil)
      rw [hi] at hy
      injection hy with hy
      subst hy
      have h1 := hf.2.2
      have h2 := (glueB_iff.1 (List.all_eq_true.1 hall _ (List.mem_of_getElem? (List.getElem?_eq_getElem hil)))).1
      omega
    have htt := fun A2 c2 w hi => total_any A2 (szL l 2 (2) (-ex) (sumH l 2)) c2 w (by rw [hL]; exact hlen) hbd hi
    simp only [htot, hL] at htt
    have HT := Lib.hid htt
    have HZ := Lib.hid hz
    have HL := Lib.hid hL
    clear hcall hE hrow hfit hS hH near hout hall hz hL hfair hsum htot hbd htt e0 hg
    go_enter Try.func7, Try.ntmps7
    go_wp2_with (first | (go_at_call 19; refine HC.out.mono ?_; rintro e w1 ⟨rfl, hb1⟩) | (go_at_call 17; refine (HF.out _).mono ?_; rintro e w2 ⟨rfl, hb2⟩) | (go_at_call 11; refine (num_any _ _).mono ?_; rintro e w' ⟨rfl, rfl⟩) | (go_at_call 12; refine (live_any _).mono ?_; rintro e w9 ⟨rfl, hb9⟩))
    have hbel := andThen (andAlloc hb1 (.cells #[.int .i64 (sumN l), .int .i64 (sumS l 0), .int .i64 (sumS l 1), .int .i64 (sumS l 2), .int .i64 (sumS l 3), .int .i64 (sumH l 0), .int .i64 (sumH l 1), .int .i64 (sumH l 2), .int .i64 (sumH l 3)] 45)) hb2
    obtain ⟨ho2, hf2⟩ := old_cells hb2
    refine (HS.out _ (HROW.out.up hbel)).mono ?_
    rintro e w3 ⟨hs, hb3⟩
    rw [if_pos HZ.out] at hs
    obtain ⟨v, rfl, hown⟩ := hs
    obtain ⟨A2, c2, rfl, hc2, hm2, hseg⟩ := Seg.of_own hown
    obtain ⟨ho3, hf3⟩ := old_cells hb3
    have hz2 : w1.heap.size < w2.heap.size := by have := hb2.size; simp at this; omega
    have t0 : w3.cell? ⟨w1.heap.size, 0, none⟩ = some (.int .i64 (sumN l)) := (ho3 _ _ hz2).trans ((ho2 _ _ (by simp)).trans (by simp [go_sem]))
    have t5 : w3.cell? ⟨w1.heap.size, 5, none⟩ = some (.int .i64 (sumH l 0)) := (ho3 _ _ hz2).trans ((ho2 _ _ (by simp)).trans (by simp [go_sem]))
    have hcallT := HT.out A2 c2 w3 hseg
    have HCT := Lib.hid hcallT
    clear ho2 hf2 ho3 hf3 hcallT hown hseg
    go_wp2_with (first | (go_at_call 20; refine HCT.out.mono ?_; rintro e w' ⟨rfl, rfl⟩) | (go_at_call 11; refine (num_any _ _).mono ?_; rintro e w' ⟨rfl, rfl⟩) | (go_at_call 12; refine (live_any _).mono ?_; rintro e w9 ⟨rfl, hb9⟩))
    go_ret
    exact ⟨rfl, andThen (andThen hbel hb3) hb9⟩
  · have hne : (szE l 2 (2) (-ex) (sumH l 2) != 0) = true := by simp [hz]
    have HZ := Lib.hid hz
    clear hcall hE hrow hfit hS hH near hout hall hz e0 hg
    go_enter Try.func7, Try.ntmps7
    go_wp2_with (first | (go_at_call 19; refine HC.out.mono ?_; rintro e w1 ⟨rfl, hb1⟩) | (go_at_call 17; refine (HF.out _).mono ?_; rintro e w2 ⟨rfl, hb2⟩) | (go_at_call 11; refine (num_any _ _).mono ?_; rintro e w' ⟨rfl, rfl⟩) | (go_at_call 12; refine (live_any _).mono ?_; rintro e w9 ⟨rfl, hb9⟩))
    have hbel := andThen (andAlloc hb1 (.cells #[.int .i64 (sumN l), .int .i64 (sumS l 0), .int .i64 (sumS l 1), .int .i64 (sumS l 2), .int .i64 (sumS l 3), .int .i64 (sumH l 0), .int .i64 (sumH l 1), .int .i64 (sumH l 2), .int .i64 (sumH l 3)] 45)) hb2
    refine (HS.out _ (HROW.out.up hbel)).mono ?_
    rintro e w3 ⟨hs, hb3⟩
    rw [if_neg HZ.out] at hs
    subst hs
    go_wp2_with (first | (go_at_call 11; refine (num_any _ _).mono ?_; rintro e w' ⟨rfl, rfl⟩) | (go_at_call 12; refine (live_any _).mono ?_; rintro e w9 ⟨rfl, hb9⟩))
    go_ret
    exact ⟨rfl, andThen (andThen hbel hb3) hb9⟩

set_option maxRecDepth 100000 in
set_option maxHeartbeats 1000000 in
theorem just_up3 (A : Option Addr) (l : List G) (c : Nat) (ex : Int) (w : World) (hrow : Row w A l) (hE : rowE l = 0) (e0 : nearB ex = true) (hx : 0 < ex) (hg : great (sumS l 0) (sumS l 1) (sumS l 2) (sumS l 3) = 3) (hd : 0 < sumS l 3) :
    Calls Try.prog 7 #[.slice A l.length c, .int .i64 ex] w fun e w' => e = .returned (.bool true) ∧ Below w.heap.size w w' := by
  obtain ⟨hlen, hall⟩ := rowE_zero hE
  have hcall := sum_good A l c w hrow hE
  unfold tot at hcall
  have HC := Lib.hid hcall
  obtain ⟨⟨n0, n1⟩, hS, hH⟩ := sums_bd hall hlen l.length
  rw [List.take_length] at n0 n1 hS hH
  have near : ∀ x, -2147483646000 ≤ x ∧ x ≤ 2147483646000 → nearB x = true := fun x hx => nearB_yes (by omega) (by omega)
  obtain ⟨x0, x1⟩ := nearB_iff.1 e0
  have hfit := fun w => by
    have h := fit_up3 (sumN l) (sumS l 0) (sumS l 1) (sumS l 2) (sumS l 3) (sumH l 0) (sumH l 1) (sumH l 2) (sumH l 3) ex w e0 (near _ (hS 0)) (near _ (hH 0)) (near _ (hS 1)) (near _ (hH 1)) (near _ (hS 2)) (near _ (hH 2)) (near _ (hS 3)) (near _ (hH 3)) x0 hx hg
    rw [show fit (sumS l 0) (sumS l 1) (sumS l 2) (sumS l 3) (sumH l 0) (sumH l 1) (sumH l 2) (sumH l 3) ex = (1, 3, ex, sumS l 3) by simp [fit, hx, hg, pick4]] at h
    exact h
  have HF := Lib.hid hfit
  have hH0 := hH 0
  have hS0 := hS 0
  have hout := fun w hr => sizes_any A l c 1 (3) (ex) (sumS l 3) w (by unfold maxLen; omega) hr
  have HS := Lib.hid hout
  have HROW := Lib.hid hrow
  have HALL := Lib.hid hall
  by_cases hz : szE l 1 (3) (ex) (sumS l 3) = 0
  · obtain ⟨hL, hfair, -⟩ := fair_all hz
    have hsum := szL_sum hz
    have htot : (szL l 1 (3) (ex) (sumS l 3)).sum = sumN l + ex := by
      rw [hsum]
      rw [if_pos rfl, psV_whole (by omega) (by omega) (by omega) (by have := hS 3; omega)]
    have hbd : ∀ x ∈ szL l 1 (3) (ex) (sumS l 3), -281474976710656 ≤ x ∧ x ≤ 281474976710656 := by
      intro x hx
      obtain ⟨i, hi⟩ := List.getElem?_of_mem hx
      have hil : i < l.length := by
        rcases Nat.lt_or_ge i l.length with h | h
        · exact h
        · rw [List.getElem?_eq_none (by rw [hL]; exact h)] at hi; cases hi
      obtain ⟨y, hy, hf⟩ := hfair i _ (List.getElem?_eq_getElem hil)
      rw [hi] at hy
      injection hy with hy
      subst hy
      have h1 := hf.2.2
      have h2 := (glueB_iff.1 (List.all_eq_true.1 hall _ (List.mem_of_getElem? (List.getElem?_eq_getElem hil)))).1
      omega
    have htt := fun A2 c2 w hi => total_any A2 (szL l 1 (3) (ex) (sumS l 3)) c2 w (by rw [hL]; exact hlen) hbd hi
    simp only [htot, hL] at htt
    have HT := Lib.hid htt
    have HZ := Lib.hid hz
    have HL := Lib.hid hL
    clear hcall hE hrow hfit hS hH near hout hall hz hL hfair hsum htot hbd htt e0 hg
    go_enter Try.func7, Try.ntmps7
    go_wp2_with (first | (go_at_call 19; refine HC.out.mono ?_; rintro e w1 ⟨rfl, hb1⟩) | (go_at_call 17; refine (HF.out _).mono ?_; rintro e w2 ⟨rfl, hb2⟩) | (go_at_call 11; refine (num_any _ _).mono ?_; rintro e w' ⟨rfl, rfl⟩) | (go_at_call 12; refine (live_any _).mono ?_; rintro e w9 ⟨rfl, hb9⟩))
    have hbel := andThen (andAlloc hb1 (.cells #[.int .i64 (sumN l), .int .i64 (sumS l 0), .int .i64 (sumS l 1), .int .i64 (sumS l 2), .int .i64 (sumS l 3), .int .i64 (sumH l 0), .int .i64 (sumH l 1), .int .i64 (sumH l 2), .int .i64 (sumH l 3)] 45)) hb2
    obtain ⟨ho2, hf2⟩ := old_cells hb2
    refine (HS.out _ (HROW.out.up hbel)).mono ?_
    rintro e w3 ⟨hs, hb3⟩
    rw [if_pos HZ.out] at hs
    obtain ⟨v, rfl, hown⟩ := hs
    obtain ⟨A2, c2, rfl, hc2, hm2, hseg⟩ := Seg.of_own hown
    obtain ⟨ho3, hf3⟩ := old_cells hb3
    have hz2 : w1.heap.size < w2.heap.size := by have := hb2.size; simp at this; omega
    have t0 : w3.cell? ⟨w1.heap.size, 0, none⟩ = some (.int .i64 (sumN l)) := (ho3 _ _ hz2).trans ((ho2 _ _ (by simp)).trans (by simp [go_sem]))
    have t5 : w3.cell? ⟨w1.heap.size, 5, none⟩ = some (.int .i64 (sumH l 0)) := (ho3 _ _ hz2).trans ((ho2 _ _ (by simp)).trans (by simp [go_sem]))
    have hcallT := HT.out A2 c2 w3 hseg
    have HCT := Lib.hid hcallT
    clear ho2 hf2 ho3 hf3 hcallT hown hseg
    go_wp2_with (first | (go_at_call 20; refine HCT.out.mono ?_; rintro e w' ⟨rfl, rfl⟩) | (go_at_call 11; refine (num_any _ _).mono ?_; rintro e w' ⟨rfl, rfl⟩) | (go_at_call 12; refine (live_any _).mono ?_; rintro e w9 ⟨rfl, hb9⟩))
    go_ret
    exact ⟨rfl, andThen (andThen hbel hb3) hb9⟩
  · have hne : (szE l 1 (3) (ex) (sumS l 3) != 0) = true := by simp [hz]
    have HZ := Lib.hid hz
    clear hcall hE hrow hfit hS hH near hout hall hz e0 hg
    go_enter Try.func7, Try.ntmps7
    go_wp2_with (first | (go_at_call 19; refine HC.out.mono ?_; rintro e w1 ⟨rfl, hb1⟩) | (go_at_call 17; refine (HF.out _).mono ?_; rintro e w2 ⟨rfl, hb2⟩) | (go_at_call 11; refine (num_any _ _).mono ?_; rintro e w' ⟨rfl, rfl⟩) | (go_at_call 12; refine (live_any _).mono ?_; rintro e w9 ⟨rfl, hb9⟩))
    have hbel := andThen (andAlloc hb1 (.cells #[.int .i64 (sumN l), .int .i64 (sumS l 0), .int .i64 (sumS l 1), .int .i64 (sumS l 2), .int .i64 (sumS l 3), .int .i64 (sumH l 0), .int .i64 (sumH l 1), .int .i64 (sumH l 2), .int .i64 (sumH l 3)] 45)) hb2
    refine (HS.out _ (HROW.out.up hbel)).mono ?_
    rintro e w3 ⟨hs, hb3⟩
    rw [if_neg HZ.out] at hs
    subst hs
    go_wp2_with (first | (go_at_call 11; refine (num_any _ _).mono ?_; rintro e w' ⟨rfl, rfl⟩) | (go_at_call 12; refine (live_any _).mono ?_; rintro e w9 ⟨rfl, hb9⟩))
    go_ret
    exact ⟨rfl, andThen (andThen hbel hb3) hb9⟩

set_option maxRecDepth 100000 in
set_option maxHeartbeats 1000000 in
theorem just_down3 (A : Option Addr) (l : List G) (c : Nat) (ex : Int) (w : World) (hrow : Row w A l) (hE : rowE l = 0) (e0 : nearB ex = true) (hx : ex < 0) (hg : great (sumH l 0) (sumH l 1) (sumH l 2) (sumH l 3) = 3) (hd : 0 < sumH l 3) :
    Calls Try.prog 7 #[.slice A l.length c, .int .i64 ex] w fun e w' => e = .returned (.bool true) ∧ Below w.heap.size w w' := by
  obtain ⟨hlen, hall⟩ := rowE_zero hE
  have hcall := sum_good A l c w hrow hE
  unfold tot at hcall
  have HC := Lib.hid hcall
  obtain ⟨⟨n0, n1⟩, hS, hH⟩ := sums_bd hall hlen l.length
  rw [List.take_length] at n0 n1 hS hH
  have near : ∀ x, -2147483646000 ≤ x ∧ x ≤ 2147483646000 → nearB x = true := fun x hx => nearB_yes (by omega) (by omega)
  obtain ⟨x0, x1⟩ := nearB_iff.1 e0
  have hfit := fun w => by
    have h := fit_down3 (sumN l) (sumS l 0) (sumS l 1) (sumS l 2) (sumS l 3) (sumH l 0) (sumH l 1) (sumH l 2) (sumH l 3) ex w e0 (near _ (hS 0)) (near _ (hH 0)) (near _ (hS 1)) (near _ (hH 1)) (near _ (hS 2)) (near _ (hH 2)) (near _ (hS 3)) (near _ (hH 3)) x0 hx hg
    rw [show fit (sumS l 0) (sumS l 1) (sumS l 2) (sumS l 3) (sumH l 0) (sumH l 1) (sumH l 2) (sumH l 3) ex = (2, 3, -ex, sumH l 3) by simp [fit, hx, hg, pick4, show ¬ 0 < ex by omega]] at h
    exact h
  have HF := Lib.hid hfit
  have hH0 := hH 0
  have hS0 := hS 0
  have hout := fun w hr => sizes_any A l c 2 (3) (-ex) (sumH l 3) w (by unfold maxLen; omega) hr
  have HS := Lib.hid hout
  have HROW := Lib.hid hrow
  have HALL := Lib.hid hall
  by_cases hz : szE l 2 (3) (-ex) (sumH l 3) = 0
  · obtain ⟨hL, hfair, -⟩ := fair_all hz
    have hsum := szL_sum hz
    have htot : (szL l 2 (3) (-ex) (sumH l 3)).sum = sumN l + ex := by
      rw [hsum]
      rw [if_neg (by omega), if_pos rfl, psV_whole (by omega) (by omega) (by omega) (by have := hH 3; omega)]
      omega
    have hbd : ∀ x ∈ szL l 2 (3) (-ex) (sumH l 3), -281474976710656 ≤ x ∧ x ≤ 281474976710656 := by
      intro x hx
      obtain ⟨i, hi⟩ := List.getElem?_of_mem hx
      have hil : i < l.length := by
        rcases Nat.lt_or_ge i l.length with h | h
        · exact h
        · rw [List.getElem?_eq_none (by rw [hL]; exact h)] at hi; cases hi
      obtain ⟨y, hy, hf⟩ := hfair i _ (List.getElem?_eq_getElem hil)
      rw [hi] at hy
      injection hy with hy
      subst hy
      have h1 := hf.2.2
      have h2 := (glueB_iff.1 (List.all_eq_true.1 hall _ (List.mem_of_getElem? (List.getElem?_eq_getElem hil)))).1
      omega
    have htt := fun A2 c2 w hi => total_any A2 (szL l 2 (3) (-ex) (sumH l 3)) c2 w (by rw [hL]; exact hlen) hbd hi
    simp only [htot, hL] at htt
    have HT := Lib.hid htt
    have HZ := Lib.hid hz
    have HL := Lib.hid hL
    clear hcall hE hrow hfit hS hH near hout hall hz hL hfair hsum htot hbd htt e0 hg
    go_enter Try.func7, Try.ntmps7
    go_wp2_with (first | (go_at_call 19; refine HC.out.mono ?_; rintro e w1 ⟨rfl, hb1⟩) | (go_at_call 17; refine (HF.out _).mono ?_; rintro e w2 ⟨rfl, hb2⟩) | (go_at_call 11; refine (num_any _ _).mono ?_; rintro e w' ⟨rfl, rfl⟩) | (go_at_call 12; refine (live_any _).mono ?_; rintro e w9 ⟨rfl, hb9⟩))
    have hbel := andThen (andAlloc hb1 (.cells #[.int .i64 (sumN l), .int .i64 (sumS l 0), .int .i64 (sumS l 1), .int .i64 (sumS l 2), .int .i64 (sumS l 3), .int .i64 (sumH l 0), .int .i64 (sumH l 1), .int .i64 (sumH l 2), .int .i64 (sumH l 3)] 45)) hb2
    obtain ⟨ho2, hf2⟩ := old_cells hb2
    refine (HS.out _ (HROW.out.up hbel)).mono ?_
    rintro e w3 ⟨hs, hb3⟩
    rw [if_pos HZ.out] at hs
    obtain ⟨v, rfl, hown⟩ := hs
    obtain ⟨A2, c2, rfl, hc2, hm2, hseg⟩ := Seg.of_own hown
    obtain ⟨ho3, hf3⟩ := old_cells hb3
    have hz2 : w1.heap.size < w2.heap.size := by have := hb2.size; simp at this; omega
    have t0 : w3.cell? ⟨w1.heap.size, 0, none⟩ = some (.int .i64 (sumN l)) := (ho3 _ _ hz2).trans ((ho2 _ _ (by simp)).trans (by simp [go_sem]))
    have t5 : w3.cell? ⟨w1.heap.size, 5, none⟩ = some (.int .i64 (sumH l 0)) := (ho3 _ _ hz2).trans ((ho2 _ _ (by simp)).trans (by simp [go_sem]))
    have hcallT := HT.out A2 c2 w3 hseg
    have HCT := Lib.hid hcallT
    clear ho2 hf2 ho3 hf3 hcallT hown hseg
    go_wp2_with (first | (go_at_call 20; refine HCT.out.mono ?_; rintro e w' ⟨rfl, rfl⟩) | (go_at_call 11; refine (num_any _ _).mono ?_; rintro e w' ⟨rfl, rfl⟩) | (go_at_call 12; refine (live_any _).mono ?_; rintro e w9 ⟨rfl, hb9⟩))
    go_ret
    exact ⟨rfl, andThen (andThen hbel hb3) hb9⟩
  · have hne : (szE l 2 (3) (-ex) (sumH l 3) != 0) = true := by simp [hz]
    have HZ := Lib.hid hz
    clear hcall hE hrow hfit hS hH near hout hall hz e0 hg
    go_enter Try.func7, Try.ntmps7
    go_wp2_with (first | (go_at_call 19; refine HC.out.mono ?_; rintro e w1 ⟨rfl, hb1⟩) | (go_at_call 17; refine (HF.out _).mono ?_; rintro e w2 ⟨rfl, hb2⟩) | (go_at_call 11; refine (num_any _ _).mono ?_; rintro e w' ⟨rfl, rfl⟩) | (go_at_call 12; refine (live_any _).mono ?_; rintro e w9 ⟨rfl, hb9⟩))
    have hbel := andThen (andAlloc hb1 (.cells #[.int .i64 (sumN l), .int .i64 (sumS l 0), .int .i64 (sumS l 1), .int .i64 (sumS l 2), .int .i64 (sumS l 3), .int .i64 (sumH l 0), .int .i64 (sumH l 1), .int .i64 (sumH l 2), .int .i64 (sumH l 3)] 45)) hb2
    refine (HS.out _ (HROW.out.up hbel)).mono ?_
    rintro e w3 ⟨hs, hb3⟩
    rw [if_neg HZ.out] at hs
    subst hs
    go_wp2_with (first | (go_at_call 11; refine (num_any _ _).mono ?_; rintro e w' ⟨rfl, rfl⟩) | (go_at_call 12; refine (live_any _).mono ?_; rintro e w9 ⟨rfl, hb9⟩))
    go_ret
    exact ⟨rfl, andThen (andThen hbel hb3) hb9⟩

set_option maxRecDepth 100000 in
set_option maxHeartbeats 1000000 in
theorem just_zero (A : Option Addr) (l : List G) (c : Nat) (ex : Int) (w : World) (hrow : Row w A l) (hE : rowE l = 0) (e0 : nearB ex = true) (hx : ex = 0) :
    Calls Try.prog 7 #[.slice A l.length c, .int .i64 ex] w fun e w' => e = .returned (.bool true) ∧ Below w.heap.size w w' := by
  subst hx
  obtain ⟨hlen, hall⟩ := rowE_zero hE
  have hcall := sum_good A l c w hrow hE
  unfold tot at hcall
  have HC := Lib.hid hcall
  obtain ⟨⟨n0, n1⟩, hS, hH⟩ := sums_bd hall hlen l.length
  rw [List.take_length] at n0 n1 hS hH
  have near : ∀ x, -2147483646000 ≤ x ∧ x ≤ 2147483646000 → nearB x = true := fun x hx => nearB_yes (by omega) (by omega)
  obtain ⟨x0, x1⟩ := nearB_iff.1 e0
  have hfit := fun w => by
    have h := fit_zero (sumN l) (sumS l 0) (sumS l 1) (sumS l 2) (sumS l 3) (sumH l 0) (sumH l 1) (sumH l 2) (sumH l 3) w e0 (near _ (hS 0)) (near _ (hH 0)) (near _ (hS 1)) (near _ (hH 1)) (near _ (hS 2)) (near _ (hH 2)) (near _ (hS 3)) (near _ (hH 3))
    skip
    exact h
  have HF := Lib.hid hfit
  have hH0 := hH 0
  have hS0 := hS 0
  have hout := fun w hr => sizes_any A l c 0 (0) (0) (0) w (by unfold maxLen; omega) hr
  have HS := Lib.hid hout
  have HROW := Lib.hid hrow
  have HALL := Lib.hid hall
  by_cases hz : szE l 0 (0) (0) (0) = 0
  · obtain ⟨hL, hfair, -⟩ := fair_all hz
    have hsum := szL_sum hz
    have htot : (szL l 0 (0) (0) (0)).sum = sumN l := by
      rw [hsum]
      simp
    have hbd : ∀ x ∈ szL l 0 (0) (0) (0), -281474976710656 ≤ x ∧ x ≤ 281474976710656 := by
      intro x hx
      obtain ⟨i, hi⟩ := List.getElem?_of_mem hx
      have hil : i < l.length := by
        rcases Nat.lt_or_ge i l.length with h | h
        · exact h
        · rw [List.getElem?_eq_none (by rw [hL]; exact h)] at hi; cases hi
      obtain ⟨y, hy, hf⟩ := hfair i _ (List.getElem?_eq_getElem hil)
      rw [hi] at hy
      injection hy with hy
      subst hy
      have h1 := hf.2.2
      have h2 := (glueB_iff.1 (List.all_eq_true.1 hall _ (List.mem_of_getElem? (List.getElem?_eq_getElem hil)))).1
      omega
    have htt := fun A2 c2 w hi => total_any A2 (szL l 0 (0) (0) (0)) c2 w (by rw [hL]; exact hlen) hbd hi
    simp only [htot, hL] at htt
    have HT := Lib.hid htt
    have HZ := Lib.hid hz
    have HL := Lib.hid hL
    clear hcall hE hrow hfit hS hH near hout hall hz hL hfair hsum htot hbd htt e0 
    go_enter Try.func7, Try.ntmps7
    go_wp2_with (first | (go_at_call 19; refine HC.out.mono ?_; rintro e w1 ⟨rfl, hb1⟩) | (go_at_call 17; refine (HF.out _).mono ?_; rintro e w2 ⟨rfl, hb2⟩) | (go_at_call 11; refine (num_any _ _).mono ?_; rintro e w' ⟨rfl, rfl⟩) | (go_at_call 12; refine (live_any _).mono ?_; rintro e w9 ⟨rfl, hb9⟩))
    have hbel := andThen (andAlloc hb1 (.cells #[.int .i64 (sumN l), .int .i64 (sumS l 0), .int .i64 (sumS l 1), .int .i64 (sumS l 2), .int .i64 (sumS l 3), .int .i64 (sumH l 0), .int .i64 (sumH l 1), .int .i64 (sumH l 2), .int .i64 (sumH l 3)] 45)) hb2
    obtain ⟨ho2, hf2⟩ := old_cells hb2
    refine (HS.out _ (HROW.out.up hbel)).mono ?_
    rintro e w3 ⟨hs, hb3⟩
    rw [if_pos HZ.out] at hs
    obtain ⟨v, rfl, hown⟩ := hs
    obtain ⟨A2, c2, rfl, hc2, hm2, hseg⟩ := Seg.of_own hown
    obtain ⟨ho3, hf3⟩ := old_cells hb3
    have hz2 : w1.heap.size < w2.heap.size := by have := hb2.size; simp at this; omega
    have t0 : w3.cell? ⟨w1.heap.size, 0, none⟩ = some (.int .i64 (sumN l)) := (ho3 _ _ hz2).trans ((ho2 _ _ (by simp)).trans (by simp [go_sem]))
    have t5 : w3.cell? ⟨w1.heap.size, 5, none⟩ = some (.int .i64 (sumH l 0)) := (ho3 _ _ hz2).trans ((ho2 _ _ (by simp)).trans (by simp [go_sem]))
    have hcallT := HT.out A2 c2 w3 hseg
    have HCT := Lib.hid hcallT
    clear ho2 hf2 ho3 hf3 hcallT hown hseg
    go_wp2_with (first | (go_at_call 20; refine HCT.out.mono ?_; rintro e w' ⟨rfl, rfl⟩) | (go_at_call 11; refine (num_any _ _).mono ?_; rintro e w' ⟨rfl, rfl⟩) | (go_at_call 12; refine (live_any _).mono ?_; rintro e w9 ⟨rfl, hb9⟩))
    go_ret
    exact ⟨rfl, andThen (andThen hbel hb3) hb9⟩
  · exact absurd (still_ok hE) hz

theorem just_any (A : Option Addr) (l : List G) (c : Nat) (ex : Int) (w : World) (h63 : l.length ≤ maxLen) (hrow : Row w A l) :
    Calls Try.prog 7 #[.slice A l.length c, .int .i64 ex] w fun e w' => e = .returned (.bool true) ∧ Below w.heap.size w w' := by
  by_cases hE : rowE l = 0
  · cases e0 : nearB ex
    · exact just_far A l c ex w hrow hE e0
    · rcases (show 0 < ex ∨ ex < 0 ∨ ex = 0 by omega) with hx | hx | hx
      · rcases great_cases (sumS l 0) (sumS l 1) (sumS l 2) (sumS l 3) with ⟨g, _⟩ | ⟨g, h, _⟩ | ⟨g, h, _⟩ | ⟨g, h, _⟩ | ⟨g, h⟩
        · exact just_upm A l c ex w hrow hE e0 hx g
        · exact just_up0 A l c ex w hrow hE e0 hx g h
        · exact just_up1 A l c ex w hrow hE e0 hx g h
        · exact just_up2 A l c ex w hrow hE e0 hx g h
        · exact just_up3 A l c ex w hrow hE e0 hx g h
      · rcases great_cases (sumH l 0) (sumH l 1) (sumH l 2) (sumH l 3) with ⟨g, _⟩ | ⟨g, h, _⟩ | ⟨g, h, _⟩ | ⟨g, h, _⟩ | ⟨g, h⟩
        · exact just_downm A l c ex w hrow hE e0 hx g
        · by_cases hm : sumH l 0 < -ex
          · exact just_downp A l c ex w hrow hE e0 hx g h hm
          · exact just_down0 A l c ex w hrow hE e0 hx g h hm
        · exact just_down1 A l c ex w hrow hE e0 hx g h
        · exact just_down2 A l c ex w hrow hE e0 hx g h
        · exact just_down3 A l c ex w hrow hE e0 hx g h
      · exact just_zero A l c ex w hrow hE e0 hx
  · exact just_bad A l c ex w h63 hrow hE
end Go.Proofs.Ytdjpfhmhcocfeaa.Gl
