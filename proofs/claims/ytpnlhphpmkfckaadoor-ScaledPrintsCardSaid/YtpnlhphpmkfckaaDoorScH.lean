import Derived.Test.YtpnlhphpmkfckaaDoorScG
import Derived.Test.YtpnlhphpmkfckaaDoorScB
/- The contract of Dimen (printed by gen_sch.py). Conditions: those that each theorem names. -/
namespace Go.Proofs.YtpnlhphpmkfckaaDoor.Ss
open Go.ChangeShapes Go.WideShapes Go.ChangeAt Go.RowKit
open Me Sc
set_option linter.unusedVariables false
set_option linter.unusedSimpArgs false

def diT (s : ByteArray) : Int := diV s.data.toList
def deT (s : ByteArray) : Int := diE s.data.toList
theorem sp_eq {q : ByteArray} : (q.toList == [115, 112]) = true ↔ q.data.toList = [115, 112] := by rw [beq_iff_eq, ByteArray.toList_eq]
theorem di_no {s t : ByteArray} (ht : t = bareT s) (h : nuOk t = false) : diT s = 0 ∧ deT s = 21 := by
  subst ht
  have h' : numOk (bare s.data.toList) = false := h
  simp [diT, deT, diV, diE, h']
theorem di_sp {s t : ByteArray} (ht : t = bareT s) (h : nuOk t = true) (h1 : ((leftT t).toList == [115, 112]) = true) : diT s = turn (signT s) (dimV (nuI t)) ∧ deT s = dimE (nuI t) := by
  subst ht
  rw [sp_eq] at h1
  have h' : numOk (bare s.data.toList) = true := h
  have h1' : left (bare s.data.toList) = [115, 112] := h1
  unfold diT deT diV diE
  rw [if_pos h', if_pos h', if_pos h1', if_pos h1']
  exact ⟨rfl, rfl⟩
theorem di_un {s t : ByteArray} (ht : t = bareT s) (h : nuOk t = true) (h1 : ((leftT t).toList == [115, 112]) = false) {m : Nat} (hm : IsU (leftT t) m) (h2 : uB m = false) : diT s = 0 ∧ deT s = 21 := by
  subst ht
  have hu := isU_unit hm
  rw [if_neg (by simpa [uB] using h2)] at hu
  have h' : numOk (bare s.data.toList) = true := h
  have h1' : ¬ left (bare s.data.toList) = [115, 112] := fun e => by
    have : (leftT (bareT s)).data.toList = [115, 112] := e
    rw [sp_eq.2 this] at h1
    cases h1
  have hu' : unit (left (bare s.data.toList)) = none := hu
  unfold diT deT diV diE
  rw [if_pos h', if_pos h', if_neg h1', if_neg h1', hu']
  exact ⟨rfl, rfl⟩
theorem di_far {s t : ByteArray} (ht : t = bareT s) (h : nuOk t = true) (h1 : ((leftT t).toList == [115, 112]) = false) {m : Nat} (hm : IsU (leftT t) m) (h2 : uB m = true) (h3 : 2147483647 < nuI t) : diT s = 0 ∧ deT s = 20 := by
  subst ht
  have hu := isU_unit hm
  rw [if_pos (by simpa [uB] using h2)] at hu
  have h' : numOk (bare s.data.toList) = true := h
  have h1' : ¬ left (bare s.data.toList) = [115, 112] := fun e => by
    have : (leftT (bareT s)).data.toList = [115, 112] := e
    rw [sp_eq.2 this] at h1
    cases h1
  have hu' : unit (left (bare s.data.toList)) = some (uN m, uD m) := hu
  have h3' : 2147483647 < numI (bare s.data.toList) := h3
  unfold diT deT diV diE
  rw [if_pos h', if_pos h', if_neg h1', if_neg h1', hu']
  simp only
  rw [if_pos h3', if_pos h3']
  exact ⟨rfl, rfl⟩
theorem di_ok {s t : ByteArray} (ht : t = bareT s) (h : nuOk t = true) (h1 : ((leftT t).toList == [115, 112]) = false) {m : Nat} (hm : IsU (leftT t) m) (h2 : uB m = true) (h3 : nuI t ≤ 2147483647) :
    diT s = turn (signT s) (dimV (mea (nuI t) (nuF t) (uVN m) (uVD m))) ∧ deT s = dimE (mea (nuI t) (nuF t) (uVN m) (uVD m)) := by
  subst ht
  have hu := isU_unit hm
  have h2' : m < 8 := by simpa [uB] using h2
  rw [if_pos h2'] at hu
  have h' : numOk (bare s.data.toList) = true := h
  have h1' : ¬ left (bare s.data.toList) = [115, 112] := fun e => by
    have : (leftT (bareT s)).data.toList = [115, 112] := e
    rw [sp_eq.2 this] at h1
    cases h1
  have hu' : unit (left (bare s.data.toList)) = some (uN m, uD m) := hu
  have h3' : ¬ 2147483647 < numI (bare s.data.toList) := by have : numI (bare s.data.toList) ≤ 2147483647 := h3; omega
  unfold diT deT diV diE uVN uVD
  rw [if_pos h', if_pos h', if_neg h1', if_neg h1', hu', if_pos h2', if_pos h2']
  simp only
  rw [if_neg h3', if_neg h3']
  exact ⟨rfl, rfl⟩
theorem u_bd {m : Nat} (h : uB m = true) : 1 ≤ uVN m ∧ uVN m ≤ 14856 ∧ 1 ≤ uVD m ∧ uVD m ≤ 7200 := by
  have h8 : m < 8 := by simpa [uB] using h
  unfold uVN uVD
  rw [if_pos h8, if_pos h8]
  rcases (show m = 0 ∨ m = 1 ∨ m = 2 ∨ m = 3 ∨ m = 4 ∨ m = 5 ∨ m = 6 ∨ m = 7 by omega) with rfl | rfl | rfl | rfl | rfl | rfl | rfl | rfl <;> simp [uN, uD]
theorem mea_bd {i f n d : Int} (i0 : 0 ≤ i) (i1 : i ≤ 2147483647) (f0 : 0 ≤ f) (f1 : f ≤ 65536) (n0 : 1 ≤ n) (n1 : n ≤ 14856) (d0 : 1 ≤ d) (d1 : d ≤ 7200) :
    0 ≤ i * n ∧ i * n ≤ 31903017443832 ∧ 0 ≤ n * f ∧ n * f ≤ 973602816 ∧ 0 ≤ i * n / d ∧ i * n / d ≤ 31903017443832 ∧ 0 ≤ i * n % d ∧ i * n % d ≤ 7199 ∧ 0 ≤ (n * f + 65536 * (i * n % d)) / d ∧ (n * f + 65536 * (i * n % d)) / d ≤ 1445396480 := by
  have a := Int.mul_nonneg i0 (show 0 ≤ n by omega)
  have b : i * n ≤ 2147483647 * 14856 := Int.mul_le_mul i1 n1 (by omega) (by omega)
  have c := Int.mul_nonneg (show 0 ≤ n by omega) f0
  have e : n * f ≤ 14856 * 65536 := Int.mul_le_mul n1 f1 f0 (by omega)
  have g := Int.ediv_nonneg a (show 0 ≤ d by omega)
  have h := Int.ediv_le_self d a
  have j := Int.emod_nonneg (i * n) (show d ≠ 0 by omega)
  have k := Int.emod_lt_of_pos (i * n) (show 0 < d by omega)
  have l := Int.ediv_nonneg (show 0 ≤ n * f + 65536 * (i * n % d) by omega) (show 0 ≤ d by omega)
  have m := Int.ediv_le_self d (show 0 ≤ n * f + 65536 * (i * n % d) by omega)
  refine ⟨a, by omega, c, by omega, g, by omega, j, by omega, l, by omega⟩
set_option maxHeartbeats 1000000 in
theorem Dimen_any (s : ByteArray) (w : World) (hs : s.size ≤ 140737488355328) : Calls Tryd.prog 29 #[.string s] w fun e w' => e = .returned (.tuple #[.int .i64 (diT s), .int .i64 (deT s)]) ∧ Below w.heap.size w w' := by
  go_enter Tryd.func29, Tryd.ntmps29
  go_wp2_with fail
  refine (sign_any w.heap.size s _ ((Blk.new' rfl).cell 0) ((Blk.new' rfl).free 0)).mono ?_
  rintro e w' ⟨rfl, rfl⟩
  obtain ⟨t, ht⟩ : ∃ t, t = bareT s := ⟨_, rfl⟩
  rw [← ht]
  have hts : t.size ≤ 140737488355328 := by rw [ht]; exact Nat.le_trans (bare_len s) hs
  have HT := Lib.hid ht
  generalize hW : World.setCell _ _ _ = W1
  have hc1 : W1.cell? ⟨w.heap.size, 0, none⟩ = some (.string t) := by rw [← hW]; exact World.cell?_setCell_same _ _ _ ((Blk.new' rfl).cell 0)
  have hf1 : W1.frozen? ⟨w.heap.size, 0, none⟩ = false := by rw [← hW]; simp
  have hb1 : Below w.heap.size w W1 := by rw [← hW]; exact Below.setCell (p := ⟨w.heap.size, 0, none⟩) (andAlloc (Below.refl _ _) _) (Nat.le_refl _) _
  clear hW ht
  go_wp2_with fail
  refine (number_any w.heap.size t W1 hts hc1 hf1).mono ?_
  rintro e w2 ⟨rfl, hc2, hf2, hb2⟩
  have hb3 := hb1.trans hb2
  clear hc1 hf1 hb1 hb2
  obtain ⟨I0, I1⟩ : 0 ≤ nuI t ∧ nuI t ≤ 1099511627776 := numI_bd t.data.toList
  obtain ⟨F0, F1⟩ : 0 ≤ nuF t ∧ nuF t ≤ 65536 := numF_bd t.data.toList
  cases hk : nuOk t
  · have HK := Lib.hid (di_no HT.out hk)
    clear hk
    go_wp2_with fail
    go_ret2
    exact ⟨ret_ints HK.out.1.symm HK.out.2.symm, hb3⟩
  · have HO := Lib.hid hk
    cases hq : ((leftT t).toList == [115, 112])
    · have HQ := Lib.hid hq
      obtain ⟨m, hm⟩ := isU_ex (leftT t)
      have HU := Lib.hid hm
      clear hm
      cases hB : uB m
      · have HK := Lib.hid (di_un HT.out hk hq HU.out hB)
        go_wp2_with (go_at_call 54; refine (units_any _ m _ HU.out).mono ?_; rintro e w4 ⟨rfl, hb4⟩)
        go_ret2
        exact ⟨ret_ints HK.out.1.symm HK.out.2.symm, andThen hb3 hb4⟩
      · obtain ⟨n0, n1, d0, d1⟩ := u_bd hB
        by_cases hbig : 2147483647 < nuI t
        · have HK := Lib.hid (di_far HT.out hk hq HU.out hB hbig)
          go_wp2_with (go_at_call 54; refine (units_any _ m _ HU.out).mono ?_; rintro e w4 ⟨rfl, hb4⟩)
          go_ret2
          exact ⟨ret_ints HK.out.1.symm HK.out.2.symm, andThen hb3 hb4⟩
        · have hle : nuI t ≤ 2147483647 := by omega
          have HK := Lib.hid (di_ok HT.out hk hq HU.out hB hle)
          have HM := Lib.hid (mea_bd I0 hle F0 F1 n0 n1 d0 d1)
          obtain ⟨a0, a1, b0, b1, c0, c1, e0, e1, g0, g1⟩ := HM.out
          go_wp2_with (go_at_call 54; refine (units_any _ m _ HU.out).mono ?_; rintro e w4 ⟨rfl, hb4⟩)
          have q1 : IntKind.i64.wrap (nuI t * uVN m) = nuI t * uVN m := IntWalk.i64_in _ (by omega)
          have q2 : (nuI t * uVN m).tdiv (uVD m) = nuI t * uVN m / uVD m := Int.tdiv_eq_ediv_of_nonneg a0
          have q3 : IntKind.i64.wrap (nuI t * uVN m / uVD m) = nuI t * uVN m / uVD m := IntWalk.i64_in _ (by omega)
          have q4 : (nuI t * uVN m).tmod (uVD m) = nuI t * uVN m % uVD m := Int.tmod_eq_emod_of_nonneg a0
          go_quiet (fail)
          clear q1 q2 q3 q4
          go_wp2_with (first | (go_at_call 49; refine (dimen_any _ _).mono ?_; rintro e w' ⟨rfl, rfl⟩) | (go_at_call 50; refine (turned_dim _ _ _).mono ?_; rintro e w' ⟨rfl, rfl⟩))
          go_ret2
          exact ⟨ret_ints HK.out.1.symm HK.out.2.symm, below_drewN (andThen hb3 hb4) _⟩
    · have HK := Lib.hid (di_sp HT.out hk hq)
      clear hk
      go_wp2_with (first | (go_at_call 49; refine (dimen_any _ _).mono ?_; rintro e w' ⟨rfl, rfl⟩) | (go_at_call 50; refine (turned_dim _ _ _).mono ?_; rintro e w' ⟨rfl, rfl⟩))
      go_ret2
      exact ⟨ret_ints HK.out.1.symm HK.out.2.symm, hb3⟩
end Go.Proofs.YtpnlhphpmkfckaaDoor.Ss
