import Derived.Test.YtdjpfhmhcocfeaaDoorGlueU
import Derived.Test.YtdjpfhmhcocfeaaDoorGlueX0
/- Contracts of the document's Check, Plus, Times, Over and their kin (printed by gen_gluex.py). Conditions: those that each theorem names. -/
namespace Go.Proofs.YtdjpfhmhcocfeaaDoor.Gl
open Go.ChangeShapes Go.WideShapes Go.ChangeAt Go.RowKit
open Me
set_option linter.unusedVariables false
set_option linter.unusedSimpArgs false

theorem rdimen_any (x : Int) (w : World) : Calls Tryd.prog 23 #[.int .i64 x] w fun e w' => e = .returned (.bool (dimB x)) ∧ w = w' := by
  by_cases h0 : -1073741823 ≤ x
  · by_cases h1 : x ≤ 1073741823
    · go_enter Tryd.func23, Tryd.ntmps23
      go_wp2
      go_ret
      exact ⟨ret_bool (dimB_yes h0 h1).symm, rfl⟩
    · go_enter Tryd.func23, Tryd.ntmps23
      go_wp2
      go_ret
      exact ⟨ret_bool (dimB_no (by omega)).symm, rfl⟩
  · go_enter Tryd.func23, Tryd.ntmps23
    go_wp2
    go_ret
    exact ⟨ret_bool (dimB_no (by omega)).symm, rfl⟩
theorem rcheck_any (n s h a b : Int) (w : World) :
    Calls Tryd.prog 12 #[.agg #[.int .i64 n, .int .i64 s, .int .i64 h, .int .i64 a, .int .i64 b]] w fun e w' => e = .returned (.int .i64 (chk n s h a b)) ∧ w.alloc (.cells #[.int .i64 n, .int .i64 s, .int .i64 h, .int .i64 a, .int .i64 b] 23) = w' := by
  by_cases hn : -1073741823 ≤ n ∧ n ≤ 1073741823
  · have hn' : dimB n = true := dimB_yes hn.1 hn.2
    by_cases hs : -1073741823 ≤ s ∧ s ≤ 1073741823
    · have hs' : dimB s = true := dimB_yes hs.1 hs.2
      by_cases hh : -1073741823 ≤ h ∧ h ≤ 1073741823
      · have hh' : dimB h = true := dimB_yes hh.1 hh.2
        by_cases ha : a < 0
        · have HC := Lib.hid (show chk n s h a b = 30 from chk_no (decide_eq_false (by omega)))
          go_enter Tryd.func12, Tryd.ntmps12
          go_wp2_with (go_at_call 23; refine (rdimen_any _ _).mono ?_; rintro e w' ⟨rfl, rfl⟩)
          go_ret
          exact ⟨ret_int HC.out.symm, rfl⟩
        · skip
          by_cases hA : 3 < a
          · have HC := Lib.hid (show chk n s h a b = 30 from chk_no (decide_eq_false (by omega)))
            go_enter Tryd.func12, Tryd.ntmps12
            go_wp2_with (go_at_call 23; refine (rdimen_any _ _).mono ?_; rintro e w' ⟨rfl, rfl⟩)
            go_ret
            exact ⟨ret_int HC.out.symm, rfl⟩
          · skip
            by_cases hb : b < 0
            · have HC := Lib.hid (show chk n s h a b = 30 from chk_no (decide_eq_false (by omega)))
              go_enter Tryd.func12, Tryd.ntmps12
              go_wp2_with (go_at_call 23; refine (rdimen_any _ _).mono ?_; rintro e w' ⟨rfl, rfl⟩)
              go_ret
              exact ⟨ret_int HC.out.symm, rfl⟩
            · skip
              by_cases hB : 3 < b
              · have HC := Lib.hid (show chk n s h a b = 30 from chk_no (decide_eq_false (by omega)))
                go_enter Tryd.func12, Tryd.ntmps12
                go_wp2_with (go_at_call 23; refine (rdimen_any _ _).mono ?_; rintro e w' ⟨rfl, rfl⟩)
                go_ret
                exact ⟨ret_int HC.out.symm, rfl⟩
              · have HC := Lib.hid (show chk n s h a b = 0 from chk_yes (decide_eq_true (by omega)))
                go_enter Tryd.func12, Tryd.ntmps12
                go_wp2_with (go_at_call 23; refine (rdimen_any _ _).mono ?_; rintro e w' ⟨rfl, rfl⟩)
                go_ret
                exact ⟨ret_int HC.out.symm, rfl⟩
      · have hh' : dimB h = false := dimB_no hh
        have HC := Lib.hid (show chk n s h a b = 30 from chk_no (decide_eq_false (by omega)))
        go_enter Tryd.func12, Tryd.ntmps12
        go_wp2_with (go_at_call 23; refine (rdimen_any _ _).mono ?_; rintro e w' ⟨rfl, rfl⟩)
        go_ret
        exact ⟨ret_int HC.out.symm, rfl⟩
    · have hs' : dimB s = false := dimB_no hs
      have HC := Lib.hid (show chk n s h a b = 30 from chk_no (decide_eq_false (by omega)))
      go_enter Tryd.func12, Tryd.ntmps12
      go_wp2_with (go_at_call 23; refine (rdimen_any _ _).mono ?_; rintro e w' ⟨rfl, rfl⟩)
      go_ret
      exact ⟨ret_int HC.out.symm, rfl⟩
  · have hn' : dimB n = false := dimB_no hn
    have HC := Lib.hid (show chk n s h a b = 30 from chk_no (decide_eq_false (by omega)))
    go_enter Tryd.func12, Tryd.ntmps12
    go_wp2_with (go_at_call 23; refine (rdimen_any _ _).mono ?_; rintro e w' ⟨rfl, rfl⟩)
    go_ret
    exact ⟨ret_int HC.out.symm, rfl⟩
theorem rright_any (n s h a b rn rs rh ra rb : Int) (E : Int) (hh : rightG ⟨n, s, h, a, b⟩ = (⟨rn, rs, rh, ra, rb⟩, E)) (w : World) :
    Calls Tryd.prog 19 #[.agg #[.int .i64 n, .int .i64 s, .int .i64 h, .int .i64 a, .int .i64 b]] w fun e w' => e = .returned (.tuple #[.agg #[.int .i64 rn, .int .i64 rs, .int .i64 rh, .int .i64 ra, .int .i64 rb], .int .i64 E]) ∧ Below w.heap.size w w' := by
  unfold rightG at hh
  by_cases hn : -1073741823 ≤ n ∧ n ≤ 1073741823
  · have hn' : dimB n = true := dimB_yes hn.1 hn.2
    by_cases hs : -1073741823 ≤ s ∧ s ≤ 1073741823
    · have hs' : dimB s = true := dimB_yes hs.1 hs.2
      by_cases hk : -1073741823 ≤ h ∧ h ≤ 1073741823
      · have hk' : dimB h = true := dimB_yes hk.1 hk.2
        rw [if_pos (by unfold dim3; exact decide_eq_true ⟨hn, hs, hk⟩)] at hh
        simp only [tidied, Prod.mk.injEq, G.mk.injEq] at hh
        obtain ⟨⟨rfl, rfl, rfl, h4, h5⟩, rfl⟩ := hh
        by_cases zs : s = 0 <;> by_cases zh : h = 0
        · rw [if_pos zs] at h4
          rw [if_pos zh] at h5
          subst h4 h5
          have zs' : (s == 0) = true := by simp [zs]
          have zh' : (h == 0) = true := by simp [zh]
          clear zs zh
          go_enter Tryd.func19, Tryd.ntmps19
          go_wp2_with (go_at_call 23; refine (rdimen_any _ _).mono ?_; rintro e w' ⟨rfl, rfl⟩)
          refine bodyPost_ret (v := .tuple #[.agg #[.int .i64 n, .int .i64 s, .int .i64 h, .int .i64 0, .int .i64 0], .int .i64 0]) (by simp [results, Tryd.results19, go_sem]) rfl ⟨rfl, ?_⟩
          repeat (first | exact Below.refl _ _ | refine Below.setCell ?_ (by first | (simp; done) | (simp; omega)) _ | refine andAlloc ?_ _ )
        · rw [if_pos zs] at h4
          rw [if_neg zh] at h5
          subst h4 h5
          have zs' : (s == 0) = true := by simp [zs]
          have zh' : (h == 0) = false := by simp [zh]
          clear zs zh
          go_enter Tryd.func19, Tryd.ntmps19
          go_wp2_with (go_at_call 23; refine (rdimen_any _ _).mono ?_; rintro e w' ⟨rfl, rfl⟩)
          refine bodyPost_ret (v := .tuple #[.agg #[.int .i64 n, .int .i64 s, .int .i64 h, .int .i64 0, .int .i64 b], .int .i64 0]) (by simp [results, Tryd.results19, go_sem]) rfl ⟨rfl, ?_⟩
          repeat (first | exact Below.refl _ _ | refine Below.setCell ?_ (by first | (simp; done) | (simp; omega)) _ | refine andAlloc ?_ _ )
        · rw [if_neg zs] at h4
          rw [if_pos zh] at h5
          subst h4 h5
          have zs' : (s == 0) = false := by simp [zs]
          have zh' : (h == 0) = true := by simp [zh]
          clear zs zh
          go_enter Tryd.func19, Tryd.ntmps19
          go_wp2_with (go_at_call 23; refine (rdimen_any _ _).mono ?_; rintro e w' ⟨rfl, rfl⟩)
          refine bodyPost_ret (v := .tuple #[.agg #[.int .i64 n, .int .i64 s, .int .i64 h, .int .i64 a, .int .i64 0], .int .i64 0]) (by simp [results, Tryd.results19, go_sem]) rfl ⟨rfl, ?_⟩
          repeat (first | exact Below.refl _ _ | refine Below.setCell ?_ (by first | (simp; done) | (simp; omega)) _ | refine andAlloc ?_ _ )
        · rw [if_neg zs] at h4
          rw [if_neg zh] at h5
          subst h4 h5
          have zs' : (s == 0) = false := by simp [zs]
          have zh' : (h == 0) = false := by simp [zh]
          clear zs zh
          go_enter Tryd.func19, Tryd.ntmps19
          go_wp2_with (go_at_call 23; refine (rdimen_any _ _).mono ?_; rintro e w' ⟨rfl, rfl⟩)
          refine bodyPost_ret (v := .tuple #[.agg #[.int .i64 n, .int .i64 s, .int .i64 h, .int .i64 a, .int .i64 b], .int .i64 0]) (by simp [results, Tryd.results19, go_sem]) rfl ⟨rfl, ?_⟩
          repeat (first | exact Below.refl _ _ | refine Below.setCell ?_ (by first | (simp; done) | (simp; omega)) _ | refine andAlloc ?_ _ )
      · have hk' : dimB h = false := dimB_no hk
        rw [if_neg (by unfold dim3; exact fun hc => by have hc := of_decide_eq_true hc; exact hk hc.2.2)] at hh
        simp only [zeroG, Prod.mk.injEq, G.mk.injEq] at hh
        obtain ⟨⟨rfl, rfl, rfl, rfl, rfl⟩, rfl⟩ := hh
        go_enter Tryd.func19, Tryd.ntmps19
        go_wp2_with (go_at_call 23; refine (rdimen_any _ _).mono ?_; rintro e w' ⟨rfl, rfl⟩)
        refine bodyPost_ret (v := .tuple #[.agg #[.int .i64 0, .int .i64 0, .int .i64 0, .int .i64 0, .int .i64 0], .int .i64 20]) (by simp [results, Tryd.results19, go_sem]) rfl ⟨rfl, ?_⟩
        repeat (first | exact Below.refl _ _ | refine Below.setCell ?_ (by first | (simp; done) | (simp; omega)) _ | refine andAlloc ?_ _ )
    · have hs' : dimB s = false := dimB_no hs
      rw [if_neg (by unfold dim3; exact fun hc => by have hc := of_decide_eq_true hc; exact hs hc.2.1)] at hh
      simp only [zeroG, Prod.mk.injEq, G.mk.injEq] at hh
      obtain ⟨⟨rfl, rfl, rfl, rfl, rfl⟩, rfl⟩ := hh
      go_enter Tryd.func19, Tryd.ntmps19
      go_wp2_with (go_at_call 23; refine (rdimen_any _ _).mono ?_; rintro e w' ⟨rfl, rfl⟩)
      refine bodyPost_ret (v := .tuple #[.agg #[.int .i64 0, .int .i64 0, .int .i64 0, .int .i64 0, .int .i64 0], .int .i64 20]) (by simp [results, Tryd.results19, go_sem]) rfl ⟨rfl, ?_⟩
      repeat (first | exact Below.refl _ _ | refine Below.setCell ?_ (by first | (simp; done) | (simp; omega)) _ | refine andAlloc ?_ _ )
  · have hn' : dimB n = false := dimB_no hn
    rw [if_neg (by unfold dim3; exact fun hc => by have hc := of_decide_eq_true hc; exact hn hc.1)] at hh
    simp only [zeroG, Prod.mk.injEq, G.mk.injEq] at hh
    obtain ⟨⟨rfl, rfl, rfl, rfl, rfl⟩, rfl⟩ := hh
    go_enter Tryd.func19, Tryd.ntmps19
    go_wp2_with (go_at_call 23; refine (rdimen_any _ _).mono ?_; rintro e w' ⟨rfl, rfl⟩)
    refine bodyPost_ret (v := .tuple #[.agg #[.int .i64 0, .int .i64 0, .int .i64 0, .int .i64 0, .int .i64 0], .int .i64 20]) (by simp [results, Tryd.results19, go_sem]) rfl ⟨rfl, ?_⟩
    repeat (first | exact Below.refl _ _ | refine Below.setCell ?_ (by first | (simp; done) | (simp; omega)) _ | refine andAlloc ?_ _ )
theorem rjoined_any (a o b p : Int) (w : World) (h0 : -4611686018427387904 ≤ a + b) (h1 : a + b ≤ 4611686018427387904) :
    Calls Tryd.prog 18 #[.int .i64 a, .int .i64 o, .int .i64 b, .int .i64 p] w fun e w' => e = .returned (.tuple #[.int .i64 (joinR a o b p).1, .int .i64 (joinR a o b p).2]) ∧ w = w' := by
  obtain ⟨n, hn⟩ : ∃ n, n = (joinR0 a o b p).1 := ⟨_, rfl⟩
  obtain ⟨q, hq⟩ : ∃ q, q = (joinR0 a o b p).2 := ⟨_, rfl⟩
  have hj : joinR a o b p = (n, if n = 0 then 0 else q) := by unfold joinR; rw [hn, hq]
  rw [hj]
  clear hj
  unfold joinR0 at hn hq
  by_cases ha : a = 0
  · have ha' : (a == 0) = true := by simp [ha]
    rw [if_pos (.inl ha)] at hn hq
    simp only at hn hq
    subst hn hq
    clear ha
    by_cases hz : n = 0
    · have hz' : (n == 0) = true := by simp [hz]
      rw [if_pos hz]
      clear hz
      go_enter Tryd.func18, Tryd.ntmps18
      go_wp2
      go_ret2
      exact ⟨rfl, rfl⟩
    · have hz' : (n == 0) = false := by simp [hz]
      rw [if_neg hz]
      clear hz
      go_enter Tryd.func18, Tryd.ntmps18
      go_wp2
      go_ret2
      exact ⟨rfl, rfl⟩
  · have ha' : (a == 0) = false := by simp [ha]
    by_cases hb : b = 0
    · have hb' : (b == 0) = true := by simp [hb]
      have hb2 : (b != 0) = false := by simp [hb]
      rw [if_neg (by omega), if_neg (by omega)] at hn hq
      simp only at hn hq
      subst hn hq
      have hn' : ¬ n = 0 := ha
      rw [if_neg hn']
      clear hb
      go_enter Tryd.func18, Tryd.ntmps18
      go_wp2
      go_ret2
      exact ⟨rfl, rfl⟩
    · have hb' : (b == 0) = false := by simp [hb]
      have hb2 : (b != 0) = true := by simp [hb]
      by_cases h2 : o < p
      · rw [if_pos (.inr ⟨hb, h2⟩)] at hn hq
        simp only at hn hq
        subst hn hq
        have hn' : ¬ n = 0 := hb
        rw [if_neg hn']
        clear hb ha
        go_enter Tryd.func18, Tryd.ntmps18
        go_wp2
        go_ret2
        exact ⟨rfl, rfl⟩
      · by_cases h3 : o = p
        · have h3' : (o == p) = true := by simp [h3]
          rw [if_neg (by omega), if_pos ⟨hb, h3⟩] at hn hq
          simp only at hn hq
          clear h3
          subst hn hq
          by_cases hz : a + b = 0
          · have hz' : (a + b == 0) = true := by simp [hz]
            rw [if_pos hz]
            clear hz hb ha
            go_enter Tryd.func18, Tryd.ntmps18
            go_wp2
            go_ret2
            exact ⟨rfl, rfl⟩
          · have hz' : (a + b == 0) = false := by simp [hz]
            rw [if_neg hz]
            clear hz hb ha
            go_enter Tryd.func18, Tryd.ntmps18
            go_wp2
            go_ret2
            exact ⟨rfl, rfl⟩
        · have h3' : (o == p) = false := by simp [h3]
          rw [if_neg (by omega), if_neg (by omega)] at hn hq
          simp only at hn hq
          subst hn hq
          have hn' : ¬ n = 0 := ha
          rw [if_neg hn']
          clear hb h3
          go_enter Tryd.func18, Tryd.ntmps18
          go_wp2
          go_ret2
          exact ⟨rfl, rfl⟩
theorem rtimes_any (a n : Int) (w : World) (h0 : -1073741823 ≤ a) (h1 : a ≤ 1073741823) : Calls Tryd.prog 21 #[.int .i64 a, .int .i64 n] w fun e w' => e = .returned (.int .i64 (timR a n)) ∧ w = w' := by
  have hb := timR_bd (n := n) h0 h1
  unfold timR at hb ⊢
  by_cases ha : a = 0
  · have ha' : (a == 0) = true := by simp [ha]
    rw [if_pos (.inl ha)]
    clear hb ha
    go_enter Tryd.func21, Tryd.ntmps21
    go_wp2
    go_ret
    exact ⟨rfl, rfl⟩
  · have ha' : (a == 0) = false := by simp [ha]
    by_cases hn : n = 0
    · have hn' : (n == 0) = true := by simp [hn]
      rw [if_pos (.inr hn)]
      clear hb hn
      go_enter Tryd.func21, Tryd.ntmps21
      go_wp2
      go_ret
      exact ⟨rfl, rfl⟩
    · have hn' : (n == 0) = false := by simp [hn]
      rw [if_neg (by omega)] at hb ⊢
      by_cases h2 : 2147483648 < n
      · rw [if_pos (.inl h2)]
        clear hb hn ha
        go_enter Tryd.func21, Tryd.ntmps21
        go_wp2
        go_ret
        exact ⟨rfl, rfl⟩
      · by_cases h3 : n < -2147483648
        · rw [if_pos (.inr h3)]
          clear hb hn ha
          go_enter Tryd.func21, Tryd.ntmps21
          go_wp2
          go_ret
          exact ⟨rfl, rfl⟩
        · rw [if_neg (by omega)] at hb ⊢
          obtain ⟨b0, b1⟩ := hb
          clear hn ha
          go_enter Tryd.func21, Tryd.ntmps21
          go_wp2
          go_ret
          exact ⟨rfl, rfl⟩
theorem rright_calls {n s h a b : Int} {E rn rs rh ra rb : Int} (hh : rightG ⟨n, s, h, a, b⟩ = (⟨rn, rs, rh, ra, rb⟩, E)) : ∀ w : World,
    Calls Tryd.prog 19 #[.agg #[.int .i64 n, .int .i64 s, .int .i64 h, .int .i64 a, .int .i64 b]] w fun e w' => e = .returned (.tuple #[.agg #[.int .i64 rn, .int .i64 rs, .int .i64 rh, .int .i64 ra, .int .i64 rb], .int .i64 E]) ∧ Below w.heap.size w w' := fun w => rright_any n s h a b rn rs rh ra rb E hh w
set_option maxHeartbeats 1000000 in
theorem rplus_any (n1 s1 h1 a1 b1 n2 s2 h2 a2 b2 rn rs rh ra rb : Int) (E : Int) (hh : plusG ⟨n1, s1, h1, a1, b1⟩ ⟨n2, s2, h2, a2, b2⟩ = (⟨rn, rs, rh, ra, rb⟩, E)) (w : World) :
    Calls Tryd.prog 5 #[.agg #[.int .i64 n1, .int .i64 s1, .int .i64 h1, .int .i64 a1, .int .i64 b1], .agg #[.int .i64 n2, .int .i64 s2, .int .i64 h2, .int .i64 a2, .int .i64 b2]] w fun e w' => e = .returned (.tuple #[.agg #[.int .i64 rn, .int .i64 rs, .int .i64 rh, .int .i64 ra, .int .i64 rb], .int .i64 E]) ∧ Below w.heap.size w w' := by
  cases g1 : glueB n1 s1 h1 a1 b1
  · unfold plusG at hh
    rw [if_neg (by simp [G.ok, g1])] at hh
    have hc1 : (chk n1 s1 h1 a1 b1 != 0) = true := by rw [chk_no g1]; rfl
    clear g1
    simp only [zeroG, Prod.mk.injEq, G.mk.injEq] at hh
    obtain ⟨⟨rfl, rfl, rfl, rfl, rfl⟩, rfl⟩ := hh
    go_enter Tryd.func5, Tryd.ntmps5
    go_wp2_with (go_at_call 12; refine (rcheck_any _ _ _ _ _ _).mono ?_; rintro e w' ⟨rfl, rfl⟩)
    refine bodyPost_ret (v := .tuple #[.agg #[.int .i64 0, .int .i64 0, .int .i64 0, .int .i64 0, .int .i64 0], .int .i64 30]) (by simp [results, Tryd.results5, go_sem]) rfl ⟨rfl, ?_⟩
    repeat (first | exact Below.refl _ _ | refine Below.setCell ?_ (by first | (simp; done) | (simp; omega)) _ | refine andAlloc ?_ _ )
  · cases g2 : glueB n2 s2 h2 a2 b2
    · unfold plusG at hh
      rw [if_neg (by simp [G.ok, g2])] at hh
      have hc1 : (chk n1 s1 h1 a1 b1 != 0) = false := by rw [chk_yes g1]; rfl
      have hc2 : (chk n2 s2 h2 a2 b2 != 0) = true := by rw [chk_no g2]; rfl
      clear g1 g2
      simp only [zeroG, Prod.mk.injEq, G.mk.injEq] at hh
      obtain ⟨⟨rfl, rfl, rfl, rfl, rfl⟩, rfl⟩ := hh
      go_enter Tryd.func5, Tryd.ntmps5
      go_wp2_with (go_at_call 12; refine (rcheck_any _ _ _ _ _ _).mono ?_; rintro e w' ⟨rfl, rfl⟩)
      refine bodyPost_ret (v := .tuple #[.agg #[.int .i64 0, .int .i64 0, .int .i64 0, .int .i64 0, .int .i64 0], .int .i64 30]) (by simp [results, Tryd.results5, go_sem]) rfl ⟨rfl, ?_⟩
      repeat (first | exact Below.refl _ _ | refine Below.setCell ?_ (by first | (simp; done) | (simp; omega)) _ | refine andAlloc ?_ _ )
    · rw [← plus_R (by simp [G.ok, g1]) (by simp [G.ok, g2])] at hh
      have hc1 : (chk n1 s1 h1 a1 b1 != 0) = false := by rw [chk_yes g1]; rfl
      have hc2 : (chk n2 s2 h2 a2 b2 != 0) = false := by rw [chk_yes g2]; rfl
      obtain ⟨⟨x0, x1⟩, ⟨x2, x3⟩, ⟨x4, x5⟩, -, -⟩ := glueB_iff.1 g1
      obtain ⟨⟨y0, y1⟩, ⟨y2, y3⟩, ⟨y4, y5⟩, -, -⟩ := glueB_iff.1 g2
      have j1 := fun w => rjoined_any s1 a1 s2 a2 w (by omega) (by omega)
      have j2 := fun w => rjoined_any h1 b1 h2 b2 w (by omega) (by omega)
      simp only [rawR] at hh
      generalize (joinR s1 a1 s2 a2).1 = p at hh j1
      generalize (joinR s1 a1 s2 a2).2 = q at hh j1
      generalize (joinR h1 b1 h2 b2).1 = u at hh j2
      generalize (joinR h1 b1 h2 b2).2 = v at hh j2
      have HT := Lib.hid (rright_calls hh)
      have J1 := Lib.hid j1
      have J2 := Lib.hid j2
      clear g1 g2 hh j1 j2
      go_enter Tryd.func5, Tryd.ntmps5
      go_wp2_with (go_at_call 12; refine (rcheck_any _ _ _ _ _ _).mono ?_; rintro e w' ⟨rfl, rfl⟩)
      refine (J1.out _).mono ?_
      rintro e w' ⟨rfl, rfl⟩
      go_wp2_with fail
      refine (J2.out _).mono ?_
      rintro e w' ⟨rfl, rfl⟩
      go_wp2_with fail
      refine (HT.out _).mono ?_
      rintro e w3 ⟨rfl, hb3⟩
      obtain ⟨ho, hf⟩ := old_cells hb3
      go_wp2_with fail
      refine bodyPost_ret (v := .tuple #[.agg #[.int .i64 rn, .int .i64 rs, .int .i64 rh, .int .i64 ra, .int .i64 rb], .int .i64 E]) (by simp [results, Tryd.results5, go_sem, ho]) rfl ⟨rfl, ?_⟩
      iterate 5 refine Below.setCell ?_ (by first | (simp; done) | (simp; omega)) _
      refine andThen ?_ hb3
      repeat (first | exact Below.refl _ _ | refine Below.setCell ?_ (by first | (simp; done) | (simp; omega)) _ | refine andAlloc ?_ _ )
set_option maxHeartbeats 1000000 in
theorem rtimes2_any (n1 s1 h1 a1 b1 k rn rs rh ra rb : Int) (E : Int) (hh : timesG ⟨n1, s1, h1, a1, b1⟩ k = (⟨rn, rs, rh, ra, rb⟩, E)) (w : World) :
    Calls Tryd.prog 7 #[.agg #[.int .i64 n1, .int .i64 s1, .int .i64 h1, .int .i64 a1, .int .i64 b1], .int .i64 k] w fun e w' => e = .returned (.tuple #[.agg #[.int .i64 rn, .int .i64 rs, .int .i64 rh, .int .i64 ra, .int .i64 rb], .int .i64 E]) ∧ Below w.heap.size w w' := by
  cases g1 : glueB n1 s1 h1 a1 b1
  · unfold timesG at hh
    rw [if_neg (by simp [G.ok, g1])] at hh
    have hc1 : (chk n1 s1 h1 a1 b1 != 0) = true := by rw [chk_no g1]; rfl
    clear g1
    simp only [zeroG, Prod.mk.injEq, G.mk.injEq] at hh
    obtain ⟨⟨rfl, rfl, rfl, rfl, rfl⟩, rfl⟩ := hh
    go_enter Tryd.func7, Tryd.ntmps7
    go_wp2_with (go_at_call 12; refine (rcheck_any _ _ _ _ _ _).mono ?_; rintro e w' ⟨rfl, rfl⟩)
    refine bodyPost_ret (v := .tuple #[.agg #[.int .i64 0, .int .i64 0, .int .i64 0, .int .i64 0, .int .i64 0], .int .i64 30]) (by simp [results, Tryd.results7, go_sem]) rfl ⟨rfl, ?_⟩
    repeat (first | exact Below.refl _ _ | refine Below.setCell ?_ (by first | (simp; done) | (simp; omega)) _ | refine andAlloc ?_ _ )
  · rw [← times_R (by simp [G.ok, g1])] at hh
    have hc1 : (chk n1 s1 h1 a1 b1 != 0) = false := by rw [chk_yes g1]; rfl
    obtain ⟨⟨x0, x1⟩, ⟨x2, x3⟩, ⟨x4, x5⟩, -, -⟩ := glueB_iff.1 g1
    have j1 := fun w => rtimes_any n1 k w x0 x1
    have j2 := fun w => rtimes_any s1 k w x2 x3
    have j3 := fun w => rtimes_any h1 k w x4 x5
    simp only at hh
    generalize timR n1 k = p at hh j1
    generalize timR s1 k = q at hh j2
    generalize timR h1 k = u at hh j3
    have J1 := Lib.hid j1
    have J2 := Lib.hid j2
    have J3 := Lib.hid j3
    have HT := Lib.hid (rright_calls hh)
    clear g1 hh j1 j2 j3
    go_enter Tryd.func7, Tryd.ntmps7
    go_wp2_with (go_at_call 12; refine (rcheck_any _ _ _ _ _ _).mono ?_; rintro e w' ⟨rfl, rfl⟩)
    refine (J1.out _).mono ?_
    rintro e w' ⟨rfl, rfl⟩
    go_wp2_with fail
    refine (J2.out _).mono ?_
    rintro e w' ⟨rfl, rfl⟩
    go_wp2_with fail
    refine (J3.out _).mono ?_
    rintro e w' ⟨rfl, rfl⟩
    go_wp2_with fail
    refine (HT.out _).mono ?_
    rintro e w3 ⟨rfl, hb3⟩
    obtain ⟨ho, hf⟩ := old_cells hb3
    go_wp2_with fail
    refine bodyPost_ret (v := .tuple #[.agg #[.int .i64 rn, .int .i64 rs, .int .i64 rh, .int .i64 ra, .int .i64 rb], .int .i64 E]) (by simp [results, Tryd.results7, go_sem, ho]) rfl ⟨rfl, ?_⟩
    iterate 5 refine Below.setCell ?_ (by first | (simp; done) | (simp; omega)) _
    refine andThen ?_ hb3
    repeat (first | exact Below.refl _ _ | refine Below.setCell ?_ (by first | (simp; done) | (simp; omega)) _ | refine andAlloc ?_ _ )
set_option maxHeartbeats 1000000 in
theorem rover_any (n1 s1 h1 a1 b1 k rn rs rh ra rb : Int) (E : Int) (hh : overG ⟨n1, s1, h1, a1, b1⟩ k = (⟨rn, rs, rh, ra, rb⟩, E)) (w : World) :
    Calls Tryd.prog 9 #[.agg #[.int .i64 n1, .int .i64 s1, .int .i64 h1, .int .i64 a1, .int .i64 b1], .int .i64 k] w fun e w' => e = .returned (.tuple #[.agg #[.int .i64 rn, .int .i64 rs, .int .i64 rh, .int .i64 ra, .int .i64 rb], .int .i64 E]) ∧ Below w.heap.size w w' := by
  cases g1 : glueB n1 s1 h1 a1 b1
  · unfold overG at hh
    rw [if_neg (by simp [G.ok, g1])] at hh
    have hc1 : (chk n1 s1 h1 a1 b1 != 0) = true := by rw [chk_no g1]; rfl
    clear g1
    simp only [zeroG, Prod.mk.injEq, G.mk.injEq] at hh
    obtain ⟨⟨rfl, rfl, rfl, rfl, rfl⟩, rfl⟩ := hh
    go_enter Tryd.func9, Tryd.ntmps9
    go_wp2_with (go_at_call 12; refine (rcheck_any _ _ _ _ _ _).mono ?_; rintro e w' ⟨rfl, rfl⟩)
    refine bodyPost_ret (v := .tuple #[.agg #[.int .i64 0, .int .i64 0, .int .i64 0, .int .i64 0, .int .i64 0], .int .i64 30]) (by simp [results, Tryd.results9, go_sem]) rfl ⟨rfl, ?_⟩
    repeat (first | exact Below.refl _ _ | refine Below.setCell ?_ (by first | (simp; done) | (simp; omega)) _ | refine andAlloc ?_ _ )
  · have hc1 : (chk n1 s1 h1 a1 b1 != 0) = false := by rw [chk_yes g1]; rfl
    by_cases hk : k = 0
    · unfold overG at hh
      rw [if_pos (by simp [G.ok, g1]), if_pos hk] at hh
      have hk' : (k == 0) = true := by simp [hk]
      clear g1 hk
      simp only [zeroG, Prod.mk.injEq, G.mk.injEq] at hh
      obtain ⟨⟨rfl, rfl, rfl, rfl, rfl⟩, rfl⟩ := hh
      go_enter Tryd.func9, Tryd.ntmps9
      go_wp2_with (go_at_call 12; refine (rcheck_any _ _ _ _ _ _).mono ?_; rintro e w' ⟨rfl, rfl⟩)
      refine bodyPost_ret (v := .tuple #[.agg #[.int .i64 0, .int .i64 0, .int .i64 0, .int .i64 0, .int .i64 0], .int .i64 20]) (by simp [results, Tryd.results9, go_sem]) rfl ⟨rfl, ?_⟩
      repeat (first | exact Below.refl _ _ | refine Below.setCell ?_ (by first | (simp; done) | (simp; omega)) _ | refine andAlloc ?_ _ )
    · rw [← over_R (by simp [G.ok, g1]) hk] at hh
      have hk' : (k == 0) = false := by simp [hk]
      obtain ⟨⟨x0, x1⟩, ⟨x2, x3⟩, ⟨x4, x5⟩, -, -⟩ := glueB_iff.1 g1
      obtain ⟨z0, z1⟩ := tdiv_bd (n := k) x0 x1
      obtain ⟨z2, z3⟩ := tdiv_bd (n := k) x2 x3
      obtain ⟨z4, z5⟩ := tdiv_bd (n := k) x4 x5
      simp only at hh
      have HT := Lib.hid (rright_calls hh)
      clear hh g1
      go_enter Tryd.func9, Tryd.ntmps9
      go_wp2_with (go_at_call 12; refine (rcheck_any _ _ _ _ _ _).mono ?_; rintro e w' ⟨rfl, rfl⟩)
      refine (HT.out _).mono ?_
      rintro e w3 ⟨rfl, hb3⟩
      obtain ⟨ho, hf⟩ := old_cells hb3
      go_wp2_with fail
      refine bodyPost_ret (v := .tuple #[.agg #[.int .i64 rn, .int .i64 rs, .int .i64 rh, .int .i64 ra, .int .i64 rb], .int .i64 E]) (by simp [results, Tryd.results9, go_sem, ho]) rfl ⟨rfl, ?_⟩
      iterate 5 refine Below.setCell ?_ (by first | (simp; done) | (simp; omega)) _
      refine andThen ?_ hb3
      repeat (first | exact Below.refl _ _ | refine Below.setCell ?_ (by first | (simp; done) | (simp; omega)) _ | refine andAlloc ?_ _ )
end Go.Proofs.YtdjpfhmhcocfeaaDoor.Gl
