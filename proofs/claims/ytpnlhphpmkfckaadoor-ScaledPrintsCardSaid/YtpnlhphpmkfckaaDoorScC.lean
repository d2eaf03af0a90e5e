import Derived.Test.YtpnlhphpmkfckaaDoorScA
import Derived.Laws.RangeString
import Derived.Laws.RangeAny
import Derived.Lib.OthersKept
/- Contracts of digits, decimals, Decimals, and of the document's. Conditions: those that each theorem names. -/
namespace Go.Proofs.YtpnlhphpmkfckaaDoor.Ss
open Go.ChangeShapes Go.WideShapes Go.ChangeAt Go.RowKit
open Me Sc
set_option linter.unusedVariables false
set_option linter.unusedSimpArgs false

/-- A text out of its bytes. -/
abbrev S (l : List UInt8) : ByteArray := ⟨l.toArray⟩
theorem S_size (l : List UInt8) : (S l).size = l.length := by
  show l.toArray.size = _
  simp
theorem S_list (s : ByteArray) : S s.data.toList = s := rfl
/-- Are all bytes digits? What they are worth. -/
def digT (s : ByteArray) : Bool := s.data.toList.all digB
def decT (s : ByteArray) : Int := decs s.data.toList
theorem size_list (s : ByteArray) : s.data.toList.length = s.size := by
  rw [Array.length_toList]
  rfl
theorem get_list (s : ByteArray) (k : Nat) (h : k < s.size) : s.data.toList[k]? = some s[k] := by
  have h1 : k < s.data.toList.length := by rw [size_list]; exact h
  rw [List.getElem?_eq_getElem h1]
  rfl
theorem allD_snoc {l : List UInt8} {k : Nat} {c : UInt8} (f : UInt8 → Bool) (h : l[k]? = some c) : (l.take (k + 1)).all f = ((l.take k).all f && f c) := by
  rw [List.take_add_one, h]; simp
theorem allD_no {l : List UInt8} {k : Nat} {c : UInt8} {f : UInt8 → Bool} (h : l[k]? = some c) (hf : f c = false) : l.all f = false := by
  rw [List.all_eq_false]
  exact ⟨c, List.mem_of_getElem? h, by simp [hf]⟩

theorem iter_below (w : World) (s : ByteArray) (pos : Nat) : Below w.heap.size w (w.iter s pos) := (Below.refl _ _).alloc (Nat.le_refl _) _
set_option maxHeartbeats 1000000 in
set_option maxRecDepth 100000 in
theorem digits_any (s : ByteArray) (w : World) (hs : s.size ≤ 140737488355328) : Calls Tryd.prog 55 #[.string s] w fun e w' => e = .returned (.bool (digT s)) ∧ Below w.heap.size w w' := by
  go_enter Tryd.func55, Tryd.ntmps55
  go_wp2_with fail
  go_loopw [] (fun wr => ∃ pos : Nat, pos ≤ s.size ∧ wr = w.iter s pos ∧ (s.data.toList.take pos).all digB = true) (fun wr => s.size - wr.iterPos w.heap.size)
  case atStart => exact ⟨0, by omega, rfl, by simp⟩
  case round =>
    obtain ⟨pos, hp0, rfl, hall⟩ := hrel
    have HA := Lib.hid hall
    clear hall
    by_cases hp : pos < s.size
    · have HG := Lib.hid (get_list s pos hp)
      by_cases ha : s[pos].toNat < 128
      · have hnx : ∀ ty, (Instr.next (.pointer (some ⟨w.heap.size, 0, none⟩)) true ty).run Tryd.prog (w.iter s pos) = _ := fun ty => run_next_ascii w s pos ty hp ha
        cases hd : digB s[pos]
        · have HD := Lib.hid hd
          rcases digB_no hd with h1 | h1
          · clear hd
            go_wp2_with fail
            go_ret
            exact ⟨ret_bool (allD_no HG.out HD.out).symm, iter_below _ _ _⟩
          · clear hd
            go_wp2_with fail
            go_ret
            exact ⟨ret_bool (allD_no HG.out HD.out).symm, iter_below _ _ _⟩
        · obtain ⟨d0, d1⟩ := digB_yes hd
          have HD := Lib.hid hd
          clear hd
          go_wp2_with fail
          go_roundw
          case rel => exact ⟨pos + 1, by omega, rfl, by rw [allD_snoc _ HG.out, HA.out, HD.out]; rfl⟩
          case measure => simp; omega
      · have hnx : ∀ ty, (Instr.next (.pointer (some ⟨w.heap.size, 0, none⟩)) true ty).run Tryd.prog (w.iter s pos) = _ := fun ty => run_next_any w s pos ty hp
        have hh := decode_high s pos hp (by omega)
        have h1 : 57 < (Utf8.decode s pos).1 := by omega
        have HD := Lib.hid (show digB s[pos] = false from decide_eq_false (by omega))
        go_wp2_with fail
        go_ret
        exact ⟨ret_bool (allD_no HG.out HD.out).symm, iter_below _ _ _⟩
    · obtain rfl : pos = s.size := by omega
      have hnx : ∀ ty, (Instr.next (.pointer (some ⟨w.heap.size, 0, none⟩)) true ty).run Tryd.prog (w.iter s s.size) = _ := fun ty => run_next_end w s s.size ty hp
      go_wp2_with fail
      go_ret
      have h := HA.out
      rw [List.take_of_length_le (by rw [size_list]; exact Nat.le_refl _)] at h
      exact ⟨ret_bool h.symm, iter_below _ _ _⟩
theorem refDigits (s : ByteArray) (w : World) (hs : s.size ≤ 140737488355328) : Calls Tryd.prog 57 #[.string s] w fun e w' => e = .returned (.bool (digT s)) ∧ w = w' := by
  go_enter Tryd.func57, Tryd.ntmps57
  go_wp2_with fail
  go_loop [3] (fun i => ∃ k : Nat, k ≤ s.size ∧ i = .int .i64 k ∧ (s.data.toList.take k).all digB = true) (fun i => s.size - (intOf i).toNat)
  case atStart => exact ⟨0, by omega, rfl, by simp⟩
  case round =>
    obtain ⟨k, hk, rfl, hall⟩ := hrel
    have HA := Lib.hid hall
    clear hall
    by_cases hp : k < s.size
    · have HG := Lib.hid (get_list s k hp)
      cases hd : digB s[k]
      · have HD := Lib.hid hd
        rcases digB_no hd with h1 | h1
        · clear hd
          go_wp2_with fail
          go_ret
          exact ⟨ret_bool (allD_no HG.out HD.out).symm, rfl⟩
        · clear hd
          go_wp2_with fail
          go_ret
          exact ⟨ret_bool (allD_no HG.out HD.out).symm, rfl⟩
      · obtain ⟨d0, d1⟩ := digB_yes hd
        have HD := Lib.hid hd
        clear hd
        go_wp2_with fail
        go_round
        case rel => exact ⟨k + 1, by omega, by go_num, by rw [allD_snoc _ HG.out, HA.out, HD.out]; rfl⟩
        case measure => simp [intOf]; omega
    · obtain rfl : k = s.size := by omega
      go_wp2_with fail
      go_ret
      have h := HA.out
      rw [List.take_of_length_le (by rw [size_list]; exact Nat.le_refl _)] at h
      exact ⟨ret_bool h.symm, rfl⟩
theorem drop_take {l : List UInt8} {k : Nat} {c : UInt8} (hk : k < 17) (h : l[k]? = some c) : (l.take 17).drop k = c :: (l.take 17).drop (k + 1) := by
  have h1 : k < l.length := by
    rcases Nat.lt_or_ge k l.length with h1 | h1
    · exact h1
    · rw [List.getElem?_eq_none h1] at h; cases h
  have h2 : k < (l.take 17).length := by rw [List.length_take]; omega
  rw [List.drop_eq_getElem_cons h2]
  congr 1
  rw [List.getElem_take]
  rw [List.getElem?_eq_getElem h1] at h
  injection h
theorem digB_at {l : List UInt8} {k : Nat} {c : UInt8} (hk : k < 17) (h : l[k]? = some c) (ha : (l.take 17).all digB = true) : digB c = true := by
  have h1 := drop_take hk h
  have h2 : c ∈ (l.take 17).drop k := by rw [h1]; simp
  exact List.all_eq_true.1 ha c (List.mem_of_mem_drop h2)
set_option maxHeartbeats 1000000 in
theorem decimals_any (s : ByteArray) (w : World) (hs : s.size ≤ 140737488355328) (hd : (s.data.toList.take 17).all digB = true) : Calls Tryd.prog 56 #[.string s] w fun e w' => e = .returned (.int .i64 (decs s.data.toList)) ∧ w = w' := by
  have HD := Lib.hid hd
  clear hd
  by_cases h17 : s.size ≤ 17
  all_goals
    go_enter Tryd.func56, Tryd.ntmps56
    go_wp2_with fail
    go_loop [3, 4] (fun a i => ∃ k : Nat, k ≤ 17 ∧ k ≤ s.size ∧ i = .int .i64 ((k : Int) - 1) ∧ a = .int .i64 (decA ((s.data.toList.take 17).drop k))) (fun _ i => (intOf i + 1).toNat)
    case atStart =>
      first
        | exact ⟨s.size, by omega, by omega, rfl, by rw [List.drop_of_length_le (by rw [List.length_take, size_list]; omega)]; rfl⟩
        | exact ⟨17, by omega, by omega, rfl, by rw [List.drop_of_length_le (by rw [List.length_take, size_list]; omega)]; rfl⟩
    case round =>
      obtain ⟨k, hk, hk2, rfl, rfl⟩ := hrel
      cases k with
      | zero =>
        obtain ⟨A, hA⟩ : ∃ A, A = decA ((s.data.toList.take 17).drop 0) := ⟨_, rfl⟩
        have hb := decA_bd _ (all_drop HD.out 0)
        rw [← hA] at hb ⊢
        have HA := Lib.hid hA
        clear hA
        go_wp2_with fail
        go_ret
        exact ⟨ret_int (by rw [HA.out]; rfl), rfl⟩
      | succ k =>
        have hk1 : ((k + 1 : Nat) : Int) - 1 = (k : Int) := by omega
        rw [hk1]
        have hks : k < s.size := by omega
        have hg := get_list s k hks
        obtain ⟨d0, d1⟩ := digB_yes (digB_at (by omega) hg HD.out)
        have HC := Lib.hid (drop_take (by omega) hg)
        obtain ⟨A, hA⟩ : ∃ A, A = decA ((s.data.toList.take 17).drop (k + 1)) := ⟨_, rfl⟩
        have hb := decA_bd _ (all_drop HD.out (k + 1))
        rw [← hA] at hb ⊢
        obtain ⟨b0, b1⟩ := hb
        have HA := Lib.hid hA
        clear hA hg hk1
        go_wp2_with fail
        go_round
        case rel => exact ⟨k, by omega, by omega, by go_num, by rw [HC.out]; simp only [decA]; rw [← HA.out]⟩
        case measure => simp [intOf]
def dcvT (s : ByteArray) : Int := dcV s.data.toList
def dceT (s : ByteArray) : Int := dcE s.data.toList
theorem dc_no {s : ByteArray} (h : digT s = false) : dcvT s = 0 ∧ dceT s = 21 := by
  unfold digT at h
  simp [dcvT, dceT, dcV, dcE, h]
theorem dc_yes {s : ByteArray} (h : digT s = true) : dcvT s = decT s ∧ dceT s = 0 := by
  unfold digT at h
  simp [dcvT, dceT, dcV, dcE, decT, h]
theorem decimalsT (s : ByteArray) (w : World) (hs : s.size ≤ 140737488355328) (hd : digT s = true) : Calls Tryd.prog 56 #[.string s] w fun e w' => e = .returned (.int .i64 (decT s)) ∧ w = w' := decimals_any s w hs (all_take hd 17)
theorem Decimals_any (s : ByteArray) (w : World) (hs : s.size ≤ 140737488355328) : Calls Tryd.prog 30 #[.string s] w fun e w' => e = .returned (.tuple #[.int .i64 (dcvT s), .int .i64 (dceT s)]) ∧ Below w.heap.size w w' := by
  cases hd : digT s
  · have HD := Lib.hid (dc_no hd)
    go_enter Tryd.func30, Tryd.ntmps30
    go_wp2_with (go_at_call 55; refine (digits_any s _ hs).mono ?_; rintro e w1 ⟨rfl, hb1⟩)
    go_ret2
    exact ⟨ret_ints HD.out.1.symm HD.out.2.symm, hb1⟩
  · have HD := Lib.hid (dc_yes hd)
    have HE := Lib.hid hd
    go_enter Tryd.func30, Tryd.ntmps30
    go_wp2_with (first | (go_at_call 55; refine (digits_any s _ hs).mono ?_; rintro e w1 ⟨rfl, hb1⟩) | (go_at_call 56; refine (decimalsT s _ hs HE.out).mono ?_; rintro e w' ⟨rfl, rfl⟩))
    go_ret2
    exact ⟨ret_ints HD.out.1.symm HD.out.2.symm, hb1⟩
set_option maxHeartbeats 1000000 in
theorem refDecimals (s : ByteArray) (w : World) (hs : s.size ≤ 140737488355328) : Calls Tryd.prog 31 #[.string s] w fun e w' => e = .returned (.tuple #[.int .i64 (dcvT s), .int .i64 (dceT s)]) ∧ w = w' := by
  cases hd : digT s
  · have HZ := Lib.hid (dc_no hd)
    go_enter Tryd.func31, Tryd.ntmps31
    go_wp2_with (go_at_call 57; refine (refDigits s _ hs).mono ?_; rintro e w' ⟨rfl, rfl⟩)
    go_ret2
    exact ⟨ret_ints HZ.out.1.symm HZ.out.2.symm, rfl⟩
  · have HZ := Lib.hid (dc_yes hd)
    have HD := Lib.hid (all_take hd 17)
    by_cases h17 : s.size ≤ 17
    all_goals
      go_enter Tryd.func31, Tryd.ntmps31
      go_wp2_with (go_at_call 57; refine (refDigits s _ hs).mono ?_; rintro e w' ⟨rfl, rfl⟩)
      go_loop [4, 5] (fun a i => ∃ k : Nat, k ≤ 17 ∧ k ≤ s.size ∧ i = .int .i64 ((k : Int) - 1) ∧ a = .int .i64 (decA ((s.data.toList.take 17).drop k))) (fun _ i => (intOf i + 1).toNat)
      case atStart =>
        first
          | exact ⟨s.size, by omega, by omega, rfl, by rw [List.drop_of_length_le (by rw [List.length_take, size_list]; omega)]; rfl⟩
          | exact ⟨17, by omega, by omega, rfl, by rw [List.drop_of_length_le (by rw [List.length_take, size_list]; omega)]; rfl⟩
      case round =>
        obtain ⟨k, hk, hk2, rfl, rfl⟩ := hrel
        cases k with
        | zero =>
          obtain ⟨A, hA⟩ : ∃ A, A = decA ((s.data.toList.take 17).drop 0) := ⟨_, rfl⟩
          have hb := decA_bd _ (all_drop HD.out 0)
          rw [← hA] at hb ⊢
          have HA := Lib.hid hA
          clear hA
          go_wp2_with fail
          go_ret2
          exact ⟨ret_ints (by rw [HZ.out.1, HA.out]; rfl) HZ.out.2.symm, rfl⟩
        | succ k =>
          have hk1 : ((k + 1 : Nat) : Int) - 1 = (k : Int) := by omega
          rw [hk1]
          have hks : k < s.size := by omega
          have hg := get_list s k hks
          obtain ⟨d0, d1⟩ := digB_yes (digB_at (by omega) hg HD.out)
          have HC := Lib.hid (drop_take (by omega) hg)
          obtain ⟨A, hA⟩ : ∃ A, A = decA ((s.data.toList.take 17).drop (k + 1)) := ⟨_, rfl⟩
          have hb := decA_bd _ (all_drop HD.out (k + 1))
          rw [← hA] at hb ⊢
          obtain ⟨b0, b1⟩ := hb
          have HA := Lib.hid hA
          clear hA hg hk1
          go_wp2_with fail
          go_round
          case rel => exact ⟨k, by omega, by omega, by go_num, by rw [HC.out]; simp only [decA]; rw [← HA.out]⟩
          case measure => simp [intOf]
end Go.Proofs.YtpnlhphpmkfckaaDoor.Ss
