import Derived.Test.YtmcekdjhkjhcdaaGreatDoorScA0
import Derived.Test.YtmcekdjhkjhcdaaGreatDoorShelf
import Derived.Deep.RegionWith
import Derived.Laws.IdiomStrings
import Derived.Laws.Concat
import Derived.Lib.ItoaLen
/- The contract of the document's Number. Conditions: those that each theorem names. -/
namespace Go.Proofs.YtmcekdjhkjhcdaaGreatDoor.Ss
open Go.ChangeShapes Go.WideShapes Go.ChangeAt Go.RowKit
open Me Sc
set_option linter.unusedVariables false
set_option linter.unusedSimpArgs false
theorem ret_strM {a b : ByteArray} (h : a = b) : Ending.returned (.string a) = .returned (.string b) := by rw [h]
/-- A digit as a text. -/
def d1T (k : Nat) : ByteArray := ⟨#[dig1 k]⟩
def numT (n : Nat) : ByteArray := ⟨(Lib.decDigits n).toArray⟩
theorem numT_size {n : Nat} (h : n ≤ 9223372036854775807) : (numT n).size ≤ 20 := by
  have h1 : (numT n).size = (Lib.decDigits n).length := by
    show (Lib.decDigits n).toArray.size = _
    simp
  rw [h1, Lib.decDigits_eq, List.length_map, List.length_range]
  exact Lib.nDigits_le20 n (by omega)
theorem numT_step {n Q R : Nat} (h : ¬ n < 10) (hQ : Q = n / 10) (hR : R = n % 10) : numT Q ++ d1T R = numT n := by
  subst hQ hR
  have e : Lib.decDigits n = Lib.decDigits (n / 10) ++ [dig1 (n % 10)] := by
    rw [Lib.decDigits, dif_neg h]
    rfl
  unfold numT
  rw [e]
  exact ByteArray.mk_append_mk _ _
theorem conv1 (w : World) (b v : Nat) (hv : v < 256) (h : w.cell? ⟨b, 0, none⟩ = some (.int .u8 (v : Int))) : (convert 41 9 (.slice (some ⟨b, 0, none⟩) 1 1)).run Tryz.prog w = .ok (.string ⟨#[UInt8.ofNat v]⟩) w :=
  run_convert_bytes_back w 41 9 5 ⟨b, 0, none⟩ 1 [UInt8.ofNat v] Tryz.underlying41 Tryz.underlying5 Tryz.underlying9 (fun j hj => by
    obtain rfl : j = 0 := by simpa using hj
    have e : (⟨b, 0, none⟩ : Addr).add 0 = ⟨b, 0, none⟩ := rfl
    rw [e, h]
    simp only [List.getElem_cons_zero, UInt8.toNat_ofNat']
    rw [Nat.mod_eq_of_lt hv])
set_option maxHeartbeats 1000000 in
set_option maxRecDepth 100000 in
theorem number_lt (n : Nat) (hn : n < 10) (w : World) : Calls Tryz.prog 101 #[.int .i64 n] w fun e w' => e = .returned (.string (numT n)) ∧ Below w.heap.size w w' := by
  have hcv : (convert 41 9 (.slice (some ⟨w.heap.size, 0, none⟩) 1 1)).run Tryz.prog (w.alloc (.cells #[.int .u8 (48 + (n : Int))] 5)) = .ok (.string (d1T n)) (w.alloc (.cells #[.int .u8 (48 + (n : Int))] 5)) :=
    conv1 _ _ (48 + n) (by omega) (by rw [(Blk.new' rfl).cell 0]; simp)
  have HD := Lib.hid (show d1T n = numT n by unfold numT; rw [Lib.decDigits, dif_pos hn]; rfl)
  go_enter Tryz.func101, Tryz.ntmps101
  go_wp2_with fail
  go_ret
  exact ⟨ret_strM HD.out, andAlloc (Below.refl _ _) _⟩
set_option maxHeartbeats 1000000 in
set_option maxRecDepth 100000 in
theorem number_all : ∀ (m n : Nat) (w : World), n ≤ m → n ≤ 9223372036854775807 → Calls Tryz.prog 101 #[.int .i64 n] w fun e w' => e = .returned (.string (numT n)) ∧ Below w.heap.size w w' := by
  intro m
  induction m with
  | zero => exact fun n w h _ => number_lt n (by omega) w
  | succ m ih =>
    intro n w h hb
    by_cases hn : n < 10
    · exact number_lt n hn w
    · obtain ⟨Q, hQ⟩ : ∃ Q, Q = n / 10 := ⟨_, rfl⟩
      obtain ⟨R, hR⟩ : ∃ R, R = n % 10 := ⟨_, rfl⟩
      have HQ := Lib.hid fun w => ih Q w (by omega) (by omega)
      have r1 : R ≤ 9 := by omega
      have e1 : (n : Int).tdiv 10 = Q := by rw [Int.tdiv_eq_ediv_of_nonneg (by omega)]; omega
      have e2 : (n : Int).tmod 10 = R := by rw [Int.tmod_eq_emod_of_nonneg (by omega)]; omega
      have e3 : IntKind.i64.wrap (Q : Int) = Q := IntWalk.i64_in _ (by omega)
      have e4 : IntKind.i64.wrap (R : Int) = R := IntWalk.i64_in _ (by omega)
      have e5 : IntKind.i64.wrap (48 + (R : Int)) = 48 + R := IntWalk.i64_in _ (by omega)
      have e6 : IntKind.u8.wrap (48 + (R : Int)) = 48 + R := IntWalk.u8_in _ (by omega)
      have hge : (10 : Int) ≤ n := by omega
      have hz1 : (numT Q).size ≤ 20 := numT_size (by omega)
      have hz2 : (d1T R).size ≤ 1 := Nat.le_refl _
      have hcv : ∀ W : World, (convert 41 9 (.slice (some ⟨W.heap.size, 0, none⟩) 1 1)).run Tryz.prog (W.alloc (.cells #[.int .u8 (48 + (R : Int))] 5)) = .ok (.string (d1T R)) (W.alloc (.cells #[.int .u8 (48 + (R : Int))] 5)) :=
        fun W => conv1 _ _ (48 + R) (by omega) (by rw [(Blk.new' rfl).cell 0]; simp)
      have hcw : ∀ (W : World) (g : Nat), W.cell? ⟨g, 0, none⟩ = some (.int .u8 (48 + (R : Int))) → (convert 41 9 (.slice (some ⟨g, 0, none⟩) 1 1)).run Tryz.prog W = .ok (.string (d1T R)) W :=
        fun W g h => conv1 _ _ (48 + R) (by omega) (by rw [h]; simp)
      have HH := Lib.hid (And.intro hQ hR)
      clear ih hQ hR
      go_enter Tryz.func101, Tryz.ntmps101
      go_wp2_with fail
      go_region_with (go_at_call 101; ((with_reducible refine (HQ.out _).mono ?_); rintro e w1 ⟨rfl, hb1⟩; obtain ⟨hc1, hf1⟩ := old_cells hb1))
      all_goals
        go_wp2_with fail
        go_ret
        exact ⟨ret_strM (numT_step hn HH.out.1 HH.out.2), by first
          | exact andAlloc (andThen (below_drewN (Below.refl _ _) 1) hb1) _
          | exact andThen (andAlloc (below_drewN (Below.refl _ _) 1) _) hb1⟩
theorem refNumber (n : Nat) (w : World) (h : n ≤ 9223372036854775807) : Calls Tryz.prog 101 #[.int .i64 n] w fun e w' => e = .returned (.string (numT n)) ∧ Below w.heap.size w w' := number_all n n w (Nat.le_refl _) h
end Go.Proofs.YtmcekdjhkjhcdaaGreatDoor.Ss
