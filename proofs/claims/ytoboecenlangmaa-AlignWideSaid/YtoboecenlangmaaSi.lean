import Derived.Test.YtoboecenlangmaaRows
import Derived.Test.YtoboecenlangmaaMem
import Derived.WalkKit
import Derived.ProofKit
import Derived.OpenShut
import Derived.WalkSpells
import Derived.WalkLawsBesides
import Derived.Outline
import Derived.Lib.Hide
import Derived.Deep.DeepCutAuto
import Derived.Deep.QuietTactic
import Derived.BigQuiet
import Derived.Handy
/- The contract of SameInts, on its own. Conditions: those that each theorem names. -/
namespace Go.Proofs.Ytoboecenlangmaa.Si
open Go.ChangeShapes Go.WideShapes Go.ChangeAt Go.RowKit
open Me
set_option linter.unusedVariables false
set_option linter.unusedSimpArgs false

theorem ret_b {a b : Bool} (h : a = b) : Ending.returned (.bool a) = .returned (.bool b) := by rw [h]
theorem get_some {α : Type} {l : List α} {k : Nat} (h : k < l.length) : ∃ x, l[k]? = some x := ⟨l[k], List.getElem?_eq_getElem h⟩
theorem seg_get {w : World} {B : Nat} {A : Option Addr} {xs : List Value} (h : Seg w B A xs) {k : Nat} {u : Value} (hk : xs[k]? = some u) : ∃ b off : Nat, A = some ⟨b, off, none⟩ ∧ b < B ∧ w.cell? ⟨b, off + k, none⟩ = some u := by
  obtain ⟨b, off, hA, hb, hc⟩ := h.open_ (by intro e; rw [e] at hk; simp at hk)
  exact ⟨b, off, hA, hb, hc k u hk⟩
set_option maxRecDepth 100000 in
theorem same_ints (A1 A2 : Option Addr) (l1 l2 : List Int) (c1 c2 : Nat) (w : World) (h1 : l1.length ≤ 2097152) (h2 : l2.length ≤ 2097152) (hs1 : Seg w w.heap.size A1 (l1.map (Value.int .i64))) (hs2 : Seg w w.heap.size A2 (l2.map (Value.int .i64))) :
    Calls Try.prog 16 #[.slice A1 l1.length c1, .slice A2 l2.length c2] w fun e w' => e = .returned (.bool (decide (l1 = l2))) ∧ Below w.heap.size w w' := by
  by_cases hl : (l1.length : Int) = l2.length
  · have hl' : l1.length = l2.length := by omega
    have HS := Lib.hid (And.intro hs1 hs2)
    have HL := Lib.hid hl'
    rw [← hl']
    clear hs1 hs2 hl hl'
    go_enter Try.func16, Try.ntmps16
    go_wp2_with fail
    go_loopw [5] (fun v5 wr => ∃ k nq : Nat, k ≤ l1.length ∧ v5 = .int .i64 (k : Int) ∧ l1.take k = l2.take k ∧ wr = w.drewN nq) (fun v5 _ => l1.length - (intOf v5).toNat)
    case atStart => exact ⟨0, 0, by omega, rfl, by simp, rfl⟩
    case round =>
      obtain ⟨k, nq, hk, rfl, heq, hwr⟩ := hrel
      have HWR := Lib.hid hwr
      have HEQ := Lib.hid heq
      by_cases hlt : k < l1.length
      · obtain ⟨x, hx⟩ := get_some hlt
        obtain ⟨y, hy⟩ := get_some (l := l2) (k := k) (by rw [← HL.out]; exact hlt)
        obtain ⟨b1, o1, rfl, hb1, hc1⟩ := seg_get HS.out.1 (k := k) (u := Value.int .i64 x) (by rw [List.getElem?_map, hx]; rfl)
        obtain ⟨b2, o2, rfl, hb2, hc2⟩ := seg_get HS.out.2 (k := k) (u := Value.int .i64 y) (by rw [List.getElem?_map, hy]; rfl)
        have hc1' : wr.cell? ⟨b1, o1 + k, none⟩ = some (.int .i64 x) := by rw [hwr]; exact hc1
        have hc2' : wr.cell? ⟨b2, o2 + k, none⟩ = some (.int .i64 y) := by rw [hwr]; exact hc2
        have HXY := Lib.hid (And.intro hx hy)
        have hlti : (k : Int) < (l1.length : Int) := by omega
        clear hc1 hc2 hwr heq hx hy
        by_cases hxy : x = y
        · subst hxy
          go_wp2_with fail
          go_quiet (fail)
          go_wp2_with fail
          go_roundw
          case rel =>
            refine ⟨k + 1, _, by omega, by go_num, ?_, by rw [HWR.out, World.drewN_drewN]⟩
            rw [List.take_add_one, List.take_add_one, HEQ.out, HXY.out.1, HXY.out.2]
          case measure => simp [intOf]; omega
        · have HN := Lib.hid hxy
          go_wp2_with fail
          go_quiet (fail)
          go_wp2_with fail
          go_ret
          refine ⟨?_, by rw [HWR.out, World.drewN_drewN]; exact below_drewN (Below.refl _ _) _⟩
          refine ret_b (decide_eq_false fun e => HN.out ?_).symm
          have := HXY.out.1
          rw [e, HXY.out.2] at this
          injection this with this
          exact this.symm
      · obtain rfl : k = l1.length := by omega
        go_wp2_with fail
        go_ret
        refine ⟨?_, below_drewN (Below.refl _ _) _⟩
        refine ret_b (decide_eq_true ?_).symm
        have := HEQ.out
        rw [List.take_length, HL.out, List.take_length] at this
        exact this
  · have HL := Lib.hid hl
    clear hs1 hs2
    go_enter Try.func16, Try.ntmps16
    go_wp2_with fail
    go_ret
    refine ⟨ret_b (decide_eq_false fun e => HL.out (by rw [e])).symm, Below.refl _ _⟩
end Go.Proofs.Ytoboecenlangmaa.Si
