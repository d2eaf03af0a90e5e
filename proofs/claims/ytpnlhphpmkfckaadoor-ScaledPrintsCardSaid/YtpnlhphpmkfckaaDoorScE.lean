import Derived.Test.YtpnlhphpmkfckaaDoorScD
/- Contracts of the reader's number (printed by gen_scd.py). Conditions: those that each theorem names. -/
namespace Go.Proofs.YtpnlhphpmkfckaaDoor.Ss
open Go.ChangeShapes Go.WideShapes Go.ChangeAt Go.RowKit
open Me Sc
set_option linter.unusedVariables false
set_option linter.unusedSimpArgs false
theorem beh_no {s : ByteArray} (h : pointT (restT s) = false) : behT s = ⟨#[]⟩ ∧ leftT s = restT s := by
  have h' : pointB (rest s.data.toList) = false := h
  unfold behT leftT restT behind left
  rw [h']
  exact ⟨rfl, rfl⟩
theorem beh_yes {s : ByteArray} (h : pointT (restT s) = true) : behT s = runT (unpT (restT s)) ∧ leftT s = restT (unpT (restT s)) := by
  have h' : pointB (rest s.data.toList) = true := h
  unfold behT leftT runT unpT restT behind left
  rw [h']
  exact ⟨rfl, rfl⟩
theorem beh_dig (s : ByteArray) : digT (behT s) = true := behind_all s.data.toList
theorem beh_len (s : ByteArray) : (behT s).size ≤ s.size := by
  have h1 : ∀ l : List UInt8, (run l).length ≤ l.length := fun l => by rw [run_take, List.length_take]; omega
  have h2 : ∀ l : List UInt8, (rest l).length ≤ l.length := fun l => by rw [rest_drop, List.length_drop]; omega
  have h3 : ∀ l : List UInt8, (unpoint l).length ≤ l.length := fun l => by
    unfold unpoint
    split <;> simp
  have h4 : (behind s.data.toList).length ≤ s.data.toList.length := by
    unfold behind
    split
    · exact Nat.le_trans (h1 _) (Nat.le_trans (h3 _) (h2 _))
    · simp
  rw [size_list] at h4
  exact h4
theorem run_len (s : ByteArray) : (runT s).size ≤ s.size := by
  have h : (run s.data.toList).length ≤ s.data.toList.length := by rw [run_take, List.length_take]; omega
  rw [size_list] at h
  exact h
theorem unp_len (s : ByteArray) : (unpT (restT s)).size ≤ s.size := by
  have h2 : ∀ l : List UInt8, (rest l).length ≤ l.length := fun l => by rw [rest_drop, List.length_drop]; omega
  have h3 : ∀ l : List UInt8, (unpoint l).length ≤ l.length := fun l => by
    unfold unpoint
    split <;> simp
  have h4 := Nat.le_trans (h3 (rest s.data.toList)) (h2 _)
  rw [size_list] at h4
  exact h4
theorem run_digit (s : ByteArray) (k : Nat) (h : k < (runT s).size) : 48 ≤ (runT s)[k].toNat ∧ (runT s)[k].toNat ≤ 57 := by
  have h1 := get_list (runT s) k h
  exact digB_yes (List.all_eq_true.1 (run_all s.data.toList) _ (List.mem_of_getElem? h1))
theorem whl_next {l : List UInt8} {k : Nat} {c : UInt8} (h : l[k]? = some c) : whl (l.take (k + 1)) 0 = min (10 * whl (l.take k) 0 + ((c.toNat : Int) - 48)) 1099511627776 := by
  rw [List.take_add_one, h]
  exact whl_snoc _ _ _
theorem whl_in (s : ByteArray) (k : Nat) : 0 ≤ whl ((runT s).data.toList.take k) 0 ∧ whl ((runT s).data.toList.take k) 0 ≤ 1099511627776 := whl_bd _ _ (all_take (run_all s.data.toList) k) (by omega) (by omega)
theorem okT {s r q : ByteArray} (hr : r = runT s) (hq : q = behT s) : nuOk s = (!r.toList.isEmpty || !q.toList.isEmpty) := by
  rw [ByteArray.toList_eq, ByteArray.toList_eq, hr, hq]
  rfl
theorem ret_num {a b c d : Int} {x y : Bool} (h : a = c) (k : b = d) (l : x = y) : Ending.returned (.tuple #[.int .i64 a, .int .i64 b, .bool x]) = .returned (.tuple #[.int .i64 c, .int .i64 d, .bool y]) := by rw [h, k, l]
set_option maxHeartbeats 1000000 in
theorem number_any (b : Nat) (s : ByteArray) (w : World) (hs : s.size ≤ 140737488355328) (hc : w.cell? ⟨b, 0, none⟩ = some (.string s)) (hf : w.frozen? ⟨b, 0, none⟩ = false) :
    Calls Tryd.prog 48 #[.pointer (some ⟨b, 0, none⟩)] w fun e w' => e = .returned (.tuple #[.int .i64 (nuI s), .int .i64 (nuF s), .bool (nuOk s)]) ∧ w'.cell? ⟨b, 0, none⟩ = some (.string (leftT s)) ∧ w'.frozen? ⟨b, 0, none⟩ = false ∧ Below b w w' := by
  cases hp : pointT (restT s)
  · have HP := Lib.hid (beh_no hp)
    go_enter Tryd.func48, Tryd.ntmps48
    go_wp2_with fail
    refine (run_any b s _ hs hc hf).mono ?_
    rintro e w' ⟨rfl, rfl⟩
    go_wp2_with fail
    refine (cut_point (restT s) _).mono ?_
    rintro e w' ⟨rfl, rfl⟩
    go_wp2_with fail
    generalize hW : w.setCell ⟨b, 0, none⟩ (.string (restT s)) = W
    have hz : w.heap.size = W.heap.size := by rw [← hW]; simp
    have HC := Lib.hid (show W.cell? ⟨b, 0, none⟩ = some (.string (leftT s)) by rw [HP.out.2, ← hW]; exact World.cell?_setCell_same _ _ _ hc)
    have HF := Lib.hid (show W.frozen? ⟨b, 0, none⟩ = false by rw [← hW]; simpa using hf)
    have HB := Lib.hid (show Below b w W by rw [← hW]; exact Below.setCell (p := ⟨b, 0, none⟩) (Below.refl _ _) (Nat.le_refl b) _)
    rw [hz]
    have hbW : b < W.heap.size := by rw [← hz]; exact block_lt_of_cell hc
    have HZ := Lib.hid hz
    clear hW hc hf hz
    obtain ⟨r, hr⟩ : ∃ r, r = runT s := ⟨_, rfl⟩
    rw [← hr]
    have hrs : r.size ≤ 140737488355328 := by rw [hr]; exact Nat.le_trans (run_len s) hs
    have HR := Lib.hid hr
    clear hr
    have hqb : (⟨#[]⟩ : ByteArray) = behT s := HP.out.1.symm
    have HQ := Lib.hid hqb
    have hqs : (⟨#[]⟩ : ByteArray).size ≤ 140737488355328 := by rw [hqb]; exact Nat.le_trans (beh_len s) hs
    have HD := Lib.hid (show digT ⟨#[]⟩ = true by rw [hqb]; exact beh_dig s)
    clear hqb
    go_loopw [10] (fun i wr => ∃ (pos : Nat) (A : Int), pos ≤ r.size ∧ wr = W.iter r pos ∧ i = .int .i64 A ∧ A = whl (r.data.toList.take pos) 0) (fun _ wr => r.size - wr.iterPos W.heap.size)
    case atStart => exact ⟨0, 0, by omega, rfl, rfl, rfl⟩
    case round =>
      obtain ⟨pos, A, hp0, rfl, rfl, hA⟩ := hrel
      have hb := whl_in s pos
      rw [← HR.out, ← hA] at hb
      obtain ⟨b0, b1⟩ := hb
      have HA := Lib.hid hA
      clear hA
      by_cases hpr : pos < r.size
      · have HG := Lib.hid (get_list r pos hpr)
        obtain ⟨d0, d1⟩ : 48 ≤ r[pos].toNat ∧ r[pos].toNat ≤ 57 := by have h := run_digit s pos (by rw [← HR.out]; exact hpr); simpa [← HR.out] using h
        have hnx : ∀ ty, (Instr.next (.pointer (some ⟨W.heap.size, 0, none⟩)) true ty).run Tryd.prog (W.iter r pos) = _ := fun ty => run_next_ascii W r pos ty hpr (by omega)
        by_cases hm : 10 * A + ((r[pos].toNat : Int) - 48) ≤ 1099511627776
        all_goals
          go_wp2_with fail
          go_roundw
          case rel => exact ⟨pos + 1, _, by omega, rfl, rfl, by rw [whl_next HG.out, ← HA.out]⟩
          case measure => simp; omega
      · obtain rfl : pos = r.size := by omega
        have hnx : ∀ ty, (Instr.next (.pointer (some ⟨W.heap.size, 0, none⟩)) true ty).run Tryd.prog (W.iter r r.size) = _ := fun ty => run_next_end W r r.size ty hpr
        go_wp2_with fail
        refine (decimalsT ⟨#[]⟩ _ hqs HD.out).mono ?_
        rintro e w' ⟨rfl, rfl⟩
        go_wp2_with fail
        all_goals
          go_ret3
          exact ⟨ret_num (by rw [HA.out, List.take_of_length_le (by rw [size_list]; exact Nat.le_refl _), HR.out]; rfl) (by rw [HQ.out]; rfl) (by rw [okT HR.out HQ.out]; simp [*]), ((iter_below W r _).cell (p := ⟨b, 0, none⟩) hbW).trans HC.out, ((iter_below W r _).frozen (p := ⟨b, 0, none⟩) hbW).trans HF.out, HB.out.trans ((iter_below W r _).mono (Nat.le_of_lt hbW))⟩
  · have HP := Lib.hid (beh_yes hp)
    go_enter Tryd.func48, Tryd.ntmps48
    go_wp2_with fail
    refine (run_any b s _ hs hc hf).mono ?_
    rintro e w' ⟨rfl, rfl⟩
    go_wp2_with fail
    refine (cut_point (restT s) _).mono ?_
    rintro e w' ⟨rfl, rfl⟩
    go_wp2_with fail
    refine (run_any b (unpT (restT s)) _ (Nat.le_trans (unp_len s) hs) (World.cell?_setCell_same _ _ _ (World.cell?_setCell_same _ _ _ hc)) (by simpa using hf)).mono ?_
    rintro e w' ⟨rfl, rfl⟩
    go_wp2_with fail
    generalize hW : ((w.setCell ⟨b, 0, none⟩ (.string (restT s))).setCell ⟨b, 0, none⟩ (.string (unpT (restT s)))).setCell ⟨b, 0, none⟩ (.string (restT (unpT (restT s)))) = W
    have hz : w.heap.size = W.heap.size := by rw [← hW]; simp
    have HC := Lib.hid (show W.cell? ⟨b, 0, none⟩ = some (.string (leftT s)) by rw [HP.out.2, ← hW]; exact World.cell?_setCell_same _ _ _ (World.cell?_setCell_same _ _ _ (World.cell?_setCell_same _ _ _ hc)))
    have HF := Lib.hid (show W.frozen? ⟨b, 0, none⟩ = false by rw [← hW]; simpa using hf)
    have HB := Lib.hid (show Below b w W by rw [← hW]; exact Below.setCell (p := ⟨b, 0, none⟩) (Below.setCell (p := ⟨b, 0, none⟩) (Below.setCell (p := ⟨b, 0, none⟩) (Below.refl _ _) (Nat.le_refl b) _) (Nat.le_refl b) _) (Nat.le_refl b) _)
    rw [hz]
    have hbW : b < W.heap.size := by rw [← hz]; exact block_lt_of_cell hc
    have HZ := Lib.hid hz
    clear hW hc hf hz
    obtain ⟨r, hr⟩ : ∃ r, r = runT s := ⟨_, rfl⟩
    rw [← hr]
    have hrs : r.size ≤ 140737488355328 := by rw [hr]; exact Nat.le_trans (run_len s) hs
    have HR := Lib.hid hr
    clear hr
    obtain ⟨q, hq⟩ : ∃ q, q = runT (unpT (restT s)) := ⟨_, rfl⟩
    rw [← hq]
    have hqb : q = behT s := by rw [hq]; exact HP.out.1.symm
    have HQ := Lib.hid hqb
    have hqs : (q : ByteArray).size ≤ 140737488355328 := by rw [hqb]; exact Nat.le_trans (beh_len s) hs
    have HD := Lib.hid (show digT q = true by rw [hqb]; exact beh_dig s)
    clear hqb hq
    go_loopw [10] (fun i wr => ∃ (pos : Nat) (A : Int), pos ≤ r.size ∧ wr = W.iter r pos ∧ i = .int .i64 A ∧ A = whl (r.data.toList.take pos) 0) (fun _ wr => r.size - wr.iterPos W.heap.size)
    case atStart => exact ⟨0, 0, by omega, rfl, rfl, rfl⟩
    case round =>
      obtain ⟨pos, A, hp0, rfl, rfl, hA⟩ := hrel
      have hb := whl_in s pos
      rw [← HR.out, ← hA] at hb
      obtain ⟨b0, b1⟩ := hb
      have HA := Lib.hid hA
      clear hA
      by_cases hpr : pos < r.size
      · have HG := Lib.hid (get_list r pos hpr)
        obtain ⟨d0, d1⟩ : 48 ≤ r[pos].toNat ∧ r[pos].toNat ≤ 57 := by have h := run_digit s pos (by rw [← HR.out]; exact hpr); simpa [← HR.out] using h
        have hnx : ∀ ty, (Instr.next (.pointer (some ⟨W.heap.size, 0, none⟩)) true ty).run Tryd.prog (W.iter r pos) = _ := fun ty => run_next_ascii W r pos ty hpr (by omega)
        by_cases hm : 10 * A + ((r[pos].toNat : Int) - 48) ≤ 1099511627776
        all_goals
          go_wp2_with fail
          go_roundw
          case rel => exact ⟨pos + 1, _, by omega, rfl, rfl, by rw [whl_next HG.out, ← HA.out]⟩
          case measure => simp; omega
      · obtain rfl : pos = r.size := by omega
        have hnx : ∀ ty, (Instr.next (.pointer (some ⟨W.heap.size, 0, none⟩)) true ty).run Tryd.prog (W.iter r r.size) = _ := fun ty => run_next_end W r r.size ty hpr
        go_wp2_with fail
        refine (decimalsT q _ hqs HD.out).mono ?_
        rintro e w' ⟨rfl, rfl⟩
        go_wp2_with fail
        all_goals
          go_ret3
          exact ⟨ret_num (by rw [HA.out, List.take_of_length_le (by rw [size_list]; exact Nat.le_refl _), HR.out]; rfl) (by rw [HQ.out]; rfl) (by rw [okT HR.out HQ.out]; simp [*]), ((iter_below W r _).cell (p := ⟨b, 0, none⟩) hbW).trans HC.out, ((iter_below W r _).frozen (p := ⟨b, 0, none⟩) hbW).trans HF.out, HB.out.trans ((iter_below W r _).mono (Nat.le_of_lt hbW))⟩
end Go.Proofs.YtpnlhphpmkfckaaDoor.Ss
