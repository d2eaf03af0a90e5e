import Derived.Test.YtdjpfhmhcocfeaaGlueJ
import Derived.Test.YtdjpfhmhcocfeaaGlueN
import Derived.RegionTactic
import Derived.BigRegion
/- Contracts of glue.Sum and of the statement's total. Conditions: those that each theorem names. -/
namespace Go.Proofs.Ytdjpfhmhcocfeaa.Gl
open Go.ChangeShapes Go.WideShapes Go.ChangeAt Go.RowKit
open Me
set_option linter.unusedVariables false

theorem sum_take_bd : ∀ (xs : List Int) (k : Nat), (∀ x ∈ xs, -281474976710656 ≤ x ∧ x ≤ 281474976710656) → -(k * 281474976710656 : Int) ≤ (xs.take k).sum ∧ (xs.take k).sum ≤ k * 281474976710656
  | [], k, _ => by simp; omega
  | x :: xs, 0, _ => by simp
  | x :: xs, k + 1, h => by
    have h1 := h x (by simp)
    have h2 := sum_take_bd xs k (fun y hy => h y (by simp [hy]))
    rw [List.take_succ_cons, List.sum_cons]
    push_cast
    omega
theorem isum_snoc {xs : List Int} {k : Nat} {x : Int} (h : xs[k]? = some x) : (xs.take (k + 1)).sum = (xs.take k).sum + x := by
  rw [List.take_add_one, h]; simp

theorem total_any (A : Option Addr) (xs : List Int) (c : Nat) (w : World) (hl : xs.length ≤ 2000) (hb : ∀ x ∈ xs, -281474976710656 ≤ x ∧ x ≤ 281474976710656) (hx : Ints w A xs) :
    Calls Try.prog 20 #[.slice A xs.length c] w fun e w' => e = .returned (.int .i64 xs.sum) ∧ w = w' := by
  have HX := Lib.hid hx
  have HB := Lib.hid hb
  clear hx hb
  generalize hn : xs.length = n at *
  have HN := Lib.hid hn
  clear hn
  go_enter Try.func20, Try.ntmps20
  go_wp2_with fail
  go_loop [3, 4] (fun s i => ∃ k : Nat, k ≤ n ∧ i = .int .i64 k ∧ s = .int .i64 (xs.take k).sum) (fun _ i => n - (intOf i).toNat)
  case atStart => exact ⟨0, Nat.zero_le _, rfl, by simp⟩
  case round =>
    obtain ⟨k, hk, rfl, rfl⟩ := hrel
    by_cases hlt : k < n
    · obtain ⟨x, hxk⟩ : ∃ x, xs[k]? = some x := ⟨_, List.getElem?_eq_getElem (by rw [HN.out]; exact hlt)⟩
      obtain ⟨b, off, rfl, cx⟩ := HX.out.cell hxk
      obtain ⟨x0, x1⟩ := HB.out x (List.mem_of_getElem? hxk)
      obtain ⟨t0, t1⟩ := sum_take_bd xs k HB.out
      have hs := isum_snoc hxk
      have HS := Lib.hid hs
      clear hs hxk
      generalize (xs.take k).sum = t at *
      go_wp2_with fail
      go_round
      case rel => exact ⟨k + 1, by omega, by go_num, by rw [HS.out]⟩
      case measure => simp [intOf]; omega
    · obtain rfl : k = n := by omega
      go_wp2_with fail
      go_ret
      exact ⟨ret_int (by rw [List.take_of_length_le (by rw [HN.out]; exact Nat.le_refl _)]), rfl⟩

theorem sumS_step {l : List G} {k : Nat} {g : G} (h : l[k]? = some g) (o : Int) : sumS (l.take (k + 1)) o = sumS (l.take k) o + if g.a = o then g.s else 0 := sum_snoc (fun g => if g.a = o then g.s else 0) h
theorem sumH_step {l : List G} {k : Nat} {g : G} (h : l[k]? = some g) (o : Int) : sumH (l.take (k + 1)) o = sumH (l.take k) o + if g.b = o then g.h else 0 := sum_snoc (fun g => if g.b = o then g.h else 0) h
theorem blk_eq {w : World} {g : Nat} {t : TypeId} {cs cs' : Array Value} (h : Blk w g t cs) (e : cs = cs') : Blk w g t cs' := e ▸ h

/-- The nine totals, as cells. -/
def tot (l : List G) : Array Value := #[.int .i64 (sumN l), .int .i64 (sumS l 0), .int .i64 (sumS l 1), .int .i64 (sumS l 2), .int .i64 (sumS l 3), .int .i64 (sumH l 0), .int .i64 (sumH l 1), .int .i64 (sumH l 2), .int .i64 (sumH l 3)]
def zero9 : Array Value := #[.int .i64 0, .int .i64 0, .int .i64 0, .int .i64 0, .int .i64 0, .int .i64 0, .int .i64 0, .int .i64 0, .int .i64 0]

set_option maxHeartbeats 1000000 in
theorem sum_bad (A : Option Addr) (l : List G) (c : Nat) (w : World) (h63 : l.length ≤ maxLen) (hrow : Row w A l) (hE : rowE l ≠ 0) :
    Calls Try.prog 19 #[.slice A l.length c] w fun e w' => e = .returned (.tuple #[.agg zero9, .int .i64 (rowE l)]) ∧ Below w.heap.size w w' := by
  have hb1 : Below w.heap.size w (w.alloc (.cells #[.int .i64 0, .int .i64 0, .int .i64 0, .int .i64 0, .int .i64 0, .int .i64 0, .int .i64 0, .int .i64 0, .int .i64 0] 45)) := andAlloc (Below.refl _ _) _
  have hcall := row_any A l c _ h63 (hrow.up hb1)
  have HC := Lib.hid hcall
  clear hcall
  have ht : (rowE l != 0) = true := by simp [hE]
  clear hE
  go_enter Try.func19, Try.ntmps19
  go_wp2_with fail
  refine HC.out.mono ?_
  rintro e w3 ⟨rfl, hb3⟩
  obtain ⟨ho, hf⟩ := old_cells hb3
  go_wp2_with fail
  refine bodyPost_ret (v := .tuple #[.agg zero9, .int .i64 (rowE l)]) (by simp [results, Try.results19, go_sem, zero9, ho]) rfl ⟨rfl, ?_⟩
  iterate 9 refine Below.setCell ?_ (by simp) _
  exact andThen hb1 hb3
set_option maxRecDepth 100000 in
set_option maxHeartbeats 2000000 in
theorem sum_good (A : Option Addr) (l : List G) (c : Nat) (w : World) (hrow : Row w A l) (hE : rowE l = 0) :
    Calls Try.prog 19 #[.slice A l.length c] w fun e w' => e = .returned (.tuple #[.agg (tot l), .int .i64 0]) ∧ Below w.heap.size w w' := by
  obtain ⟨hlen, hall⟩ := rowE_zero hE
  have hb1 : Below w.heap.size w (w.alloc (.cells #[.int .i64 0, .int .i64 0, .int .i64 0, .int .i64 0, .int .i64 0, .int .i64 0, .int .i64 0, .int .i64 0, .int .i64 0] 45)) := andAlloc (Below.refl _ _) _
  have hB1 : Blk (w.alloc (.cells #[.int .i64 0, .int .i64 0, .int .i64 0, .int .i64 0, .int .i64 0, .int .i64 0, .int .i64 0, .int .i64 0, .int .i64 0] 45)) w.heap.size 45 #[.int .i64 0, .int .i64 0, .int .i64 0, .int .i64 0, .int .i64 0, .int .i64 0, .int .i64 0, .int .i64 0, .int .i64 0] := Blk.new _ _ _
  have hcall := row_any A l c _ (by unfold maxLen; omega) (hrow.up hb1)
  have HC := Lib.hid hcall
  have ht : (rowE l != 0) = false := by rw [hE]; rfl
  have HALL := Lib.hid hall
  have HE := Lib.hid hE
  have HROW := Lib.hid hrow
  have hbd := sums_bd hall hlen
  have HBD := Lib.hid hbd
  clear hcall hE hrow hall hbd
  generalize hn : l.length = n at *
  have HN := Lib.hid hn
  clear hn
  go_enter Try.func19, Try.ntmps19
  go_wp2_with fail
  refine HC.out.mono ?_
  rintro e w3 ⟨rfl, hb3⟩
  have hR3 : Blk w3 w.heap.size 45 #[.int .i64 0, .int .i64 0, .int .i64 0, .int .i64 0, .int .i64 0, .int .i64 0, .int .i64 0, .int .i64 0, .int .i64 0] := hB1.below hb3 (by simp)
  have hbel3 := andThen hb1 hb3
  have HR3 := Lib.hid hR3
  have HB3 := Lib.hid hbel3
  have hz3 : w.heap.size < w3.heap.size := hR3.lt
  clear hb1 hB1 hb3 hR3 hbel3
  go_wp2_with fail
  go_loopw [7, 16] (fun p i wr => ∃ k : Nat, k ≤ n ∧ i = .int .i64 k ∧ Blk wr w3.heap.size 45 (tot (l.take k)) ∧ Blk wr w.heap.size 45 #[.int .i64 0, .int .i64 0, .int .i64 0, .int .i64 0, .int .i64 0, .int .i64 0, .int .i64 0, .int .i64 0, .int .i64 0] ∧ Below w.heap.size w wr) (fun _ i _ => n - (intOf i).toNat)
  case atStart => exact ⟨0, Nat.zero_le _, rfl, by simpa [tot, sumN, sumS, sumH] using Blk.new w3 45 #[.int .i64 0, .int .i64 0, .int .i64 0, .int .i64 0, .int .i64 0, .int .i64 0, .int .i64 0, .int .i64 0, .int .i64 0], HR3.out.alloc _, andAlloc HB3.out _⟩
  case round =>
    obtain ⟨k, hk, rfl, hT, hR, hb⟩ := hrel
    obtain ⟨bt, hbt⟩ : ∃ bt, w3.heap.size = bt := ⟨_, rfl⟩
    rw [hbt] at hT hz3 ⊢
    by_cases hlt : k < n
    · obtain ⟨g, hgk⟩ : ∃ g, l[k]? = some g := ⟨_, List.getElem?_eq_getElem (by rw [HN.out]; exact hlt)⟩
      have hgok : g.ok = true := List.all_eq_true.1 HALL.out g (List.mem_of_getElem? hgk)
      obtain ⟨⟨m0, m1⟩, ⟨s0, s1⟩, ⟨t0, t1⟩, ⟨a0, a1⟩, b0, b1⟩ := glueB_iff.1 hgok
      obtain ⟨b, off, rfl, c0, c1, c2, c3, c4⟩ := HROW.out.cells hb hgk
      obtain ⟨⟨n0, n1⟩, hS, hH⟩ := HBD.out k
      have hS0 := hS 0
      have hS1 := hS 1
      have hS2 := hS 2
      have hS3 := hS 3
      have hH0 := hH 0
      have hH1 := hH 1
      have hH2 := hH 2
      have hH3 := hH 3
      have q0 := hT.cell 0
      have q1 := hT.cell 1
      have q2 := hT.cell 2
      have q3 := hT.cell 3
      have q4 := hT.cell 4
      have q5 := hT.cell 5
      have q6 := hT.cell 6
      have q7 := hT.cell 7
      have q8 := hT.cell 8
      have hfr := hT.free
      have hlt' := hT.lt
      simp only [tot, List.getElem?_toArray, List.getElem?_cons_zero, List.getElem?_cons_succ] at q0 q1 q2 q3 q4 q5 q6 q7 q8
      have HG := Lib.hid hgk
      have HT := Lib.hid hT
      have HR := Lib.hid hR
      have HB := Lib.hid hb
      clear hS hH hT hR hb hgk hgok
      rcases (show g.a = 0 ∨ g.a = 1 ∨ g.a = 2 ∨ g.a = 3 by omega) with ha | ha | ha | ha
      all_goals
        rcases (show g.b = 0 ∨ g.b = 1 ∨ g.b = 2 ∨ g.b = 3 by omega) with hbo | hbo | hbo | hbo
        all_goals
          rw [ha] at c3
          rw [hbo] at c4
          have HA := Lib.hid ha
          have HBO := Lib.hid hbo
          clear ha hbo
          go_wp2_with fail
          go_region
          go_wp2_with fail
          go_region
          go_wp2_with fail
          go_roundw
          case rel =>
            refine ⟨k + 1, by omega, by go_num, ?_, ?_, ?_⟩
            · exact Blk.drew (Blk.drew (Blk.alloc (blk_eq (((HT.out.set 0 _).set _ _).set _ _) (by simp [tot, sumN_snoc HG.out, sumS_step HG.out, sumH_step HG.out, HA.out, HBO.out])) _))
            · exact Blk.drew (Blk.drew (Blk.alloc (((HR.out.far (p := ⟨bt, _, none⟩) (by simp; omega) _).far (p := ⟨bt, _, none⟩) (by simp; omega) _).far (p := ⟨bt, _, none⟩) (by simp; omega) _) _))
            · exact Below.drew (Below.drew (andAlloc (((HB.out.setCell (p := ⟨bt, _, none⟩) (by simp; omega) _).setCell (p := ⟨bt, _, none⟩) (by simp; omega) _).setCell (p := ⟨bt, _, none⟩) (by simp; omega) _) _))
          case measure => simp [intOf]; omega
    · obtain rfl : k = n := by omega
      have q0 := hT.cell 0
      have q1 := hT.cell 1
      have q2 := hT.cell 2
      have q3 := hT.cell 3
      have q4 := hT.cell 4
      have q5 := hT.cell 5
      have q6 := hT.cell 6
      have q7 := hT.cell 7
      have q8 := hT.cell 8
      simp only [tot, List.getElem?_toArray, List.getElem?_cons_zero, List.getElem?_cons_succ] at q0 q1 q2 q3 q4 q5 q6 q7 q8
      rw [List.take_of_length_le (by rw [HN.out]; exact Nat.le_refl _)] at q0 q1 q2 q3 q4 q5 q6 q7 q8
      have r0 := hR.cell 0
      have r1 := hR.cell 1
      have r2 := hR.cell 2
      have r3 := hR.cell 3
      have r4 := hR.cell 4
      have r5 := hR.cell 5
      have r6 := hR.cell 6
      have r7 := hR.cell 7
      have r8 := hR.cell 8
      simp only [List.getElem?_toArray, List.getElem?_cons_zero, List.getElem?_cons_succ] at r0 r1 r2 r3 r4 r5 r6 r7 r8
      have hfr := hR.free
      have HB := Lib.hid hb
      clear hT hR hb
      go_wp2_with fail
      refine bodyPost_ret (v := .tuple #[.agg (tot l), .int .i64 0]) (by simp [results, Try.results19, go_sem, tot, r0, r1, r2, r3, r4, r5, r6, r7, r8]) rfl ⟨rfl, ?_⟩
      iterate 9 refine Below.setCell ?_ (by simp) _
      exact HB.out
end Go.Proofs.Ytdjpfhmhcocfeaa.Gl
