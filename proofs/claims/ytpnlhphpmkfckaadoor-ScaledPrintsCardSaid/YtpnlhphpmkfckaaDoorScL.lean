import Derived.Test.YtpnlhphpmkfckaaDoorScJ
/- Contracts of the document's Parse, Measured, Dimen. Conditions: those that each theorem names. -/
namespace Go.Proofs.YtpnlhphpmkfckaaDoor.Ss
open Go.ChangeShapes Go.WideShapes Go.ChangeAt Go.RowKit
open Me Sc
set_option linter.unusedVariables false
set_option linter.unusedSimpArgs false

theorem left_drop {l : List UInt8} (h : numOk l = true) : ∃ k, 1 ≤ k ∧ k ≤ l.length ∧ left l = l.drop k := by
  have h0 := ndig_le l
  cases hp : pointB (rest l)
  · have hb : behind l = [] := by unfold behind; rw [if_neg (by simp [hp])]
    have hf : left l = rest l := by unfold left; rw [if_neg (by simp [hp])]
    refine ⟨ndig l, ?_, h0, by rw [hf, rest_drop]⟩
    rcases Nat.eq_zero_or_pos (ndig l) with hz | hz
    · unfold numOk at h
      rw [hb, run_take, hz] at h
      cases h
    · exact hz
  · obtain ⟨h1, h2, h3⟩ := point_cons hp
    have hf : left l = (l.drop (ndig l + 1)).drop (ndig (l.drop (ndig l + 1))) := by
      unfold left
      rw [if_pos hp, h3, rest_drop]
    have h4 := ndig_le (l.drop (ndig l + 1))
    rw [List.length_drop] at h4
    exact ⟨ndig l + 1 + ndig (l.drop (ndig l + 1)), by omega, by omega, by rw [hf, List.drop_drop]⟩
theorem nn_no {t : ByteArray} (h : nuOk t = false) : nuN t = 0 := by
  unfold nuN
  rw [if_neg (by simp [h])]
theorem nn_ok {t : ByteArray} (h : nuOk t = true) : ∃ k : Nat, 1 ≤ k ∧ k ≤ t.size ∧ nuN t = k ∧ t.extract k t.size = leftT t ∧ (((leftT t).toList = []) ↔ k = t.size) := by
  obtain ⟨k, h1, h2, h3⟩ := left_drop h
  rw [size_list] at h2
  have h4 : (leftT t).size = t.size - k := by
    unfold leftT
    rw [S_size (left t.data.toList), h3, List.length_drop, size_list]
  refine ⟨k, h1, h2, ?_, ?_, ?_⟩
  · unfold nuN
    rw [if_pos h, h4]
    omega
  · rw [ext_eq, List.take_of_length_le (by rw [size_list]; exact Nat.le_refl _), ← h3]
    rfl
  · rw [toL_nil]
    have h5 := size_list (leftT t)
    rw [h4] at h5
    constructor
    · intro e
      rw [e] at h5
      simp at h5
      omega
    · intro e
      exact List.eq_nil_of_length_eq_zero (by omega)
set_option maxHeartbeats 1000000 in
theorem refParse (s : ByteArray) (w : World) (hs : s.size ≤ 140737488355328) : Calls Tryd.prog 32 #[.string s] w fun e w' => e = .returned (.tuple #[.int .i64 (paT s), .int .i64 (peT s)]) ∧ w = w' := by
  obtain ⟨t, ht⟩ : ∃ t, t = bareT s := ⟨_, rfl⟩
  have hts : t.size ≤ 140737488355328 := by rw [ht]; exact Nat.le_trans (bare_len s) hs
  have HSG := Lib.hid fun w => refSigned s w hs
  rw [← ht] at HSG
  have HT := Lib.hid ht
  clear ht
  obtain ⟨I0, I1⟩ : 0 ≤ nuI t ∧ nuI t ≤ 1099511627776 := numI_bd t.data.toList
  obtain ⟨F0, F1⟩ : 0 ≤ nuF t ∧ nuF t ≤ 65536 := numF_bd t.data.toList
  cases hk : nuOk t
  · have HK := Lib.hid (par_no HT.out (.inl hk))
    have HZ := Lib.hid (nn_no hk)
    have ez : (nuN t == 0) = true := by rw [HZ.out]; rfl
    clear hk
    go_enter Tryd.func32, Tryd.ntmps32
    go_wp2_with (first | (go_at_call 58; refine (HSG.out _).mono ?_; rintro e w' ⟨rfl, rfl⟩) | (go_at_call 59; refine (refDecimal t _ hts).mono ?_; rintro e w' ⟨rfl, rfl⟩))
    go_ret2
    exact ⟨ret_ints HK.out.1.symm HK.out.2.symm, rfl⟩
  · obtain ⟨k, k1, k2, hn, hx, hl⟩ := nn_ok hk
    have HNN := Lib.hid hn
    have ez : (nuN t == 0) = false := by rw [HNN.out, beq_eq_false_iff_ne]; omega
    by_cases hq : k = t.size
    · have HK := Lib.hid (par_ok HT.out hk (hl.2 hq))
      have hge : (t.size : Int) ≤ nuN t := by rw [HNN.out]; omega
      clear hk hn hx hl hq
      go_enter Tryd.func32, Tryd.ntmps32
      go_wp2_with (first | (go_at_call 58; refine (HSG.out _).mono ?_; rintro e w' ⟨rfl, rfl⟩) | (go_at_call 59; refine (refDecimal t _ hts).mono ?_; rintro e w' ⟨rfl, rfl⟩) | (go_at_call 60; refine (made_any _ _ _ _ (by omega) (by omega) (by omega) (by omega)).mono ?_; rintro e w' ⟨rfl, rfl⟩))
      go_ret2
      exact ⟨ret_ints (by rw [HK.out.1, Int.mul_comm]) (by rw [HK.out.2, Int.mul_comm]), rfl⟩
    · have HK := Lib.hid (par_no HT.out (.inr fun e => hq (hl.1 e)))
      have hlt : nuN t < (t.size : Int) := by rw [HNN.out]; omega
      clear hk hn hx hl hq
      go_enter Tryd.func32, Tryd.ntmps32
      go_wp2_with (first | (go_at_call 58; refine (HSG.out _).mono ?_; rintro e w' ⟨rfl, rfl⟩) | (go_at_call 59; refine (refDecimal t _ hts).mono ?_; rintro e w' ⟨rfl, rfl⟩))
      go_ret2
      exact ⟨ret_ints HK.out.1.symm HK.out.2.symm, rfl⟩
/-- What Measured answers. -/
def meV (I F : Int) (q : ByteArray) (m : Nat) (b : Bool) : Int :=
  if (q.toList == [115, 112]) = true then turn b (dimV I) else if uB m = false then 0 else if 2147483647 < I then 0 else turn b (dimV (mea I F (uVN m) (uVD m)))
def meE (I F : Int) (q : ByteArray) (m : Nat) : Int :=
  if (q.toList == [115, 112]) = true then dimE I else if uB m = false then 21 else if 2147483647 < I then 20 else dimE (mea I F (uVN m) (uVD m))
set_option maxHeartbeats 1000000 in
theorem refMeasured (I F : Int) (q : ByteArray) (b : Bool) (m : Nat) (w : World) (hm : IsU q m) (I0 : 0 ≤ I) (I1 : I ≤ 1099511627776) (F0 : 0 ≤ F) (F1 : F ≤ 65536) :
    Calls Tryd.prog 61 #[.int .i64 I, .int .i64 F, .string q, .bool b] w fun e w' => e = .returned (.tuple #[.int .i64 (meV I F q m b), .int .i64 (meE I F q m)]) ∧ w = w' := by
  have HU := Lib.hid hm
  clear hm
  cases hq : (q.toList == [115, 112])
  · cases hB : uB m
    · go_enter Tryd.func61, Tryd.ntmps61
      go_wp2_with (go_at_call 71; refine (refUnit q m _ HU.out).mono ?_; rintro e w' ⟨rfl, rfl⟩)
      go_ret2
      exact ⟨ret_ints (by simp [meV, *]) (by simp [meE, *]), rfl⟩
    · obtain ⟨n0, n1, d0, d1⟩ := u_bd hB
      by_cases hbig : 2147483647 < I
      · go_enter Tryd.func61, Tryd.ntmps61
        go_wp2_with (go_at_call 71; refine (refUnit q m _ HU.out).mono ?_; rintro e w' ⟨rfl, rfl⟩)
        go_ret2
        exact ⟨ret_ints (by simp [meV, *]) (by simp [meE, *]), rfl⟩
      · have hle : I ≤ 2147483647 := by omega
        have HM := Lib.hid (mea_bd I0 hle F0 F1 n0 n1 d0 d1)
        obtain ⟨a0, a1, b0, b1, c0, c1, e0, e1, g0, g1⟩ := HM.out
        go_enter Tryd.func61, Tryd.ntmps61
        go_wp2_with (first | (go_at_call 71; refine (refUnit q m _ HU.out).mono ?_; rintro e w' ⟨rfl, rfl⟩) | (go_at_call 60; refine (made_any _ _ _ _ (by omega) (by omega) (by omega) (by omega)).mono ?_; rintro e w' ⟨rfl, rfl⟩))
        go_ret2
        exact ⟨ret_ints (by unfold meV; rw [if_neg (by simp [hq]), if_neg (by simp [hB]), if_neg (by omega)]; rfl) (by unfold meE; rw [if_neg (by simp [hq]), if_neg (by simp [hB]), if_neg (by omega)]; rfl), rfl⟩
  · by_cases h : 1073741823 < I
    · have hb := bigB_out (.inr h)
      go_enter Tryd.func61, Tryd.ntmps61
      go_wp2_with fail
      go_ret2
      exact ⟨ret_ints (by cases b <;> simp [meV, dimV, turn, *]) (by simp [meE, dimE, *]), rfl⟩
    · have hb := bigB_in (x := I) (by omega) (by omega)
      cases b
      all_goals
        go_enter Tryd.func61, Tryd.ntmps61
        go_wp2_with fail
        go_ret2
        exact ⟨ret_ints (by simp [meV, dimV, turn, *]) (by simp [meE, dimE, *]), rfl⟩
set_option maxHeartbeats 1000000 in
theorem refDimen (s : ByteArray) (w : World) (hs : s.size ≤ 140737488355328) : Calls Tryd.prog 33 #[.string s] w fun e w' => e = .returned (.tuple #[.int .i64 (diT s), .int .i64 (deT s)]) ∧ w = w' := by
  obtain ⟨t, ht⟩ : ∃ t, t = bareT s := ⟨_, rfl⟩
  have hts : t.size ≤ 140737488355328 := by rw [ht]; exact Nat.le_trans (bare_len s) hs
  have HSG := Lib.hid fun w => refSigned s w hs
  rw [← ht] at HSG
  have HT := Lib.hid ht
  clear ht
  obtain ⟨I0, I1⟩ : 0 ≤ nuI t ∧ nuI t ≤ 1099511627776 := numI_bd t.data.toList
  obtain ⟨F0, F1⟩ : 0 ≤ nuF t ∧ nuF t ≤ 65536 := numF_bd t.data.toList
  cases hk : nuOk t
  · have HK := Lib.hid (di_no HT.out hk)
    have HZ := Lib.hid (nn_no hk)
    have ez : (nuN t == 0) = true := by rw [HZ.out]; rfl
    clear hk
    go_enter Tryd.func33, Tryd.ntmps33
    go_wp2_with (first | (go_at_call 58; refine (HSG.out _).mono ?_; rintro e w' ⟨rfl, rfl⟩) | (go_at_call 59; refine (refDecimal t _ hts).mono ?_; rintro e w' ⟨rfl, rfl⟩))
    go_ret2
    exact ⟨ret_ints HK.out.1.symm HK.out.2.symm, rfl⟩
  · obtain ⟨k, k1, k2, hn, hx, hl⟩ := nn_ok hk
    obtain ⟨m, hm⟩ := isU_ex (leftT t)
    have hv : diT s = meV (nuI t) (nuF t) (leftT t) m (signT s) ∧ deT s = meE (nuI t) (nuF t) (leftT t) m := by
      cases hq : ((leftT t).toList == [115, 112])
      · cases hB : uB m
        · have := di_un HT.out hk hq hm hB
          simpa only [meV, meE, hq, hB, if_true, if_false, Bool.false_eq_true, reduceCtorEq] using this
        · by_cases hbig : 2147483647 < nuI t
          · have := di_far HT.out hk hq hm hB hbig
            simpa only [meV, meE, hq, hB, hbig, if_true, if_false, Bool.false_eq_true, reduceCtorEq] using this
          · have := di_ok HT.out hk hq hm hB (by omega)
            simpa only [meV, meE, hq, hB, hbig, if_true, if_false, Bool.false_eq_true, reduceCtorEq] using this
      · have := di_sp HT.out hk hq
        simpa only [meV, meE, hq, if_true] using this
    have HV := Lib.hid hv
    have HU := Lib.hid hm
    have HX := Lib.hid hx
    have HNN := Lib.hid hn
    have ez : (nuN t == 0) = false := by rw [HNN.out, beq_eq_false_iff_ne]; omega
    have e1 : 0 ≤ nuN t := by rw [HNN.out]; omega
    have e2 : nuN t ≤ t.size := by rw [HNN.out]; omega
    have e3 : (nuN t).toNat = k := by rw [HNN.out]; omega
    clear hk hn hx hl hm hv
    go_enter Tryd.func33, Tryd.ntmps33
    go_wp2_with (first | (go_at_call 58; refine (HSG.out _).mono ?_; rintro e w' ⟨rfl, rfl⟩) | (go_at_call 59; refine (refDecimal t _ hts).mono ?_; rintro e w' ⟨rfl, rfl⟩))
    rw [HX.out]
    refine (refMeasured _ _ _ _ m _ HU.out I0 I1 F0 F1).mono ?_
    rintro e w' ⟨rfl, rfl⟩
    go_wp2_with fail
    go_ret2
    exact ⟨ret_ints HV.out.1.symm HV.out.2.symm, rfl⟩
end Go.Proofs.YtpnlhphpmkfckaaDoor.Ss
