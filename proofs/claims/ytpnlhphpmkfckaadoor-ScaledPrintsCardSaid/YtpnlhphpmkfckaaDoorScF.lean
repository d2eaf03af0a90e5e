import Derived.Test.YtpnlhphpmkfckaaDoorScE
/- Contracts of turned, Parse, units and Dimen (printed by gen_scf.py). Conditions: those that each theorem names. -/
namespace Go.Proofs.YtpnlhphpmkfckaaDoor.Ss
open Go.ChangeShapes Go.WideShapes Go.ChangeAt Go.RowKit
open Me Sc
set_option linter.unusedVariables false
set_option linter.unusedSimpArgs false

theorem turned_any (x : Int) (m : Bool) (w : World) (h0 : -9223372036854775807 ≤ x) (h1 : x ≤ 9223372036854775807) : Calls Tryd.prog 50 #[.int .i64 x, .bool m] w fun e w' => e = .returned (.int .i64 (turn m x)) ∧ w = w' := by
  cases m
  · go_enter Tryd.func50, Tryd.ntmps50
    go_wp2
    go_ret
    exact ⟨rfl, rfl⟩
  · go_enter Tryd.func50, Tryd.ntmps50
    go_wp2
    go_ret
    exact ⟨rfl, rfl⟩
theorem dimV_bd (x : Int) : -1073741823 ≤ dimV x ∧ dimV x ≤ 1073741823 := by
  unfold dimV
  split
  · omega
  · rename_i h
    exact bigB_no (by simpa using h)
theorem turned_dim (x : Int) (m : Bool) (w : World) : Calls Tryd.prog 50 #[.int .i64 (dimV x), .bool m] w fun e w' => e = .returned (.int .i64 (turn m (dimV x))) ∧ w = w' := by
  have h := dimV_bd x
  exact turned_any _ m w (by omega) (by omega)
def paT (s : ByteArray) : Int := parV s.data.toList
def peT (s : ByteArray) : Int := parE s.data.toList
theorem toL_nil {q : ByteArray} : q.toList = [] ↔ q.data.toList = [] := by rw [ByteArray.toList_eq]
theorem par_ok {s t : ByteArray} (ht : t = bareT s) (h : nuOk t = true) (h1 : (leftT t).toList = []) : paT s = turn (signT s) (dimV (nuI t * 65536 + nuF t)) ∧ peT s = dimE (nuI t * 65536 + nuF t) := by
  subst ht
  rw [toL_nil] at h1
  have h' : numOk (bare s.data.toList) = true := h
  have h1' : left (bare s.data.toList) = [] := h1
  unfold paT peT parV parE
  rw [if_pos ⟨h', h1'⟩, if_pos ⟨h', h1'⟩]
  exact ⟨rfl, rfl⟩
theorem par_no {s t : ByteArray} (ht : t = bareT s) (h : nuOk t = false ∨ ¬ (leftT t).toList = []) : paT s = 0 ∧ peT s = 21 := by
  subst ht
  rw [toL_nil] at h
  have h' : ¬ (numOk (bare s.data.toList) = true ∧ left (bare s.data.toList) = []) := by
    rintro ⟨a, b⟩
    rcases h with h | h
    · rw [show numOk (bare s.data.toList) = nuOk (bareT s) from rfl, h] at a; cases a
    · exact h b
  unfold paT peT parV parE
  rw [if_neg h', if_neg h']
  exact ⟨rfl, rfl⟩
theorem bare_le (l : List UInt8) : (bare l).length ≤ l.length := by
  cases l with
  | nil => exact Nat.le_refl _
  | cons c l =>
    by_cases h : c = 45
    · subst h; simp [bare]
    · simp [bare, h]
theorem bare_len (s : ByteArray) : (bareT s).size ≤ s.size := by
  have h := bare_le s.data.toList
  rw [size_list] at h
  exact h
set_option maxHeartbeats 1000000 in
theorem Parse_any (s : ByteArray) (w : World) (hs : s.size ≤ 140737488355328) : Calls Tryd.prog 14 #[.string s] w fun e w' => e = .returned (.tuple #[.int .i64 (paT s), .int .i64 (peT s)]) ∧ Below w.heap.size w w' := by
  go_enter Tryd.func14, Tryd.ntmps14
  go_wp2_with fail
  refine (sign_any w.heap.size s _ ((Blk.new' rfl).cell 0) ((Blk.new' rfl).free 0)).mono ?_
  rintro e w' ⟨rfl, rfl⟩
  obtain ⟨t, ht⟩ : ∃ t, t = bareT s := ⟨_, rfl⟩
  rw [← ht]
  have hts : t.size ≤ 140737488355328 := by rw [ht]; exact Nat.le_trans (bare_len s) hs
  have HT := Lib.hid ht
  generalize hW : World.setCell _ _ _ = W1
  have hc1 : W1.cell? ⟨w.heap.size, 0, none⟩ = some (.string t) := by rw [← hW]; exact World.cell?_setCell_same _ _ _ ((Blk.new' rfl).cell 0)
  have hf1 : W1.frozen? ⟨w.heap.size, 0, none⟩ = false := by rw [← hW]; simp
  have hb1 : Below w.heap.size w W1 := by rw [← hW]; exact Below.setCell (p := ⟨w.heap.size, 0, none⟩) (andAlloc (Below.refl _ _) _) (Nat.le_refl _) _
  clear hW ht
  go_wp2_with fail
  refine (number_any w.heap.size t W1 hts hc1 hf1).mono ?_
  rintro e w2 ⟨rfl, hc2, hf2, hb2⟩
  have hb3 := hb1.trans hb2
  clear hc1 hf1 hb1 hb2
  obtain ⟨I0, I1⟩ : 0 ≤ nuI t ∧ nuI t ≤ 1099511627776 := numI_bd t.data.toList
  obtain ⟨F0, F1⟩ : 0 ≤ nuF t ∧ nuF t ≤ 65536 := numF_bd t.data.toList
  cases hk : nuOk t
  · have HK := Lib.hid (par_no HT.out (.inl hk))
    clear hk
    go_wp2_with fail
    go_ret2
    exact ⟨ret_ints HK.out.1.symm HK.out.2.symm, hb3⟩
  · by_cases hq : (leftT t).toList = []
    · have HK := Lib.hid (par_ok HT.out hk hq)
      have hq1 : (leftT t).toList.isEmpty = true := by rw [hq]; rfl
      clear hk
      go_wp2_with (first | (go_at_call 49; refine (dimen_any _ _).mono ?_; rintro e w' ⟨rfl, rfl⟩) | (go_at_call 50; refine (turned_dim _ _ _).mono ?_; rintro e w' ⟨rfl, rfl⟩))
      go_ret2
      exact ⟨ret_ints HK.out.1.symm HK.out.2.symm, hb3⟩
    · have HK := Lib.hid (par_no HT.out (.inr hq))
      have hq1 : (leftT t).toList.isEmpty = false := by simpa using hq
      clear hk
      go_wp2_with fail
      go_ret2
      exact ⟨ret_ints HK.out.1.symm HK.out.2.symm, hb3⟩
end Go.Proofs.YtpnlhphpmkfckaaDoor.Ss
