import Derived.Test.YtoboecenlangmaaGreatNodeF
import Derived.Deep.RegionHeld3
/- The contract of Same: two lists of nodes. Conditions: those that each theorem names. -/
namespace Go.Proofs.YtoboecenlangmaaGreat.No
open Go.ChangeShapes Go.WideShapes Go.ChangeAt Go.RowKit
open Me Np
set_option linter.unusedVariables false
set_option linter.unusedSimpArgs false

@[irreducible] def neN (x y : Value) : Sem Value := binOp .neq 101 x y
theorem neN_eq (x y : Value) : binOp .neq 101 x y = neN x y := by unfold neN; rfl
theorem run_neN (a b : Nd) (w : World) : (neN (.agg (nc a)) (.agg (nc b))).run Tryz.prog w = .ok (.bool (!eqB a b)) w := by
  rw [← neN_eq, run_neq_struct]
  have h := eqB_eq a b w
  rw [run_eql_struct] at h
  generalize (Op.equalIn 10000 101 (.agg (nc a)) (.agg (nc b))).run Tryz.prog w = r at h ⊢
  cases r with
  | ok b' w' =>
    simp only [Result.andThen, Result.ok.injEq, Value.bool.injEq] at h ⊢
    obtain ⟨h1, h2⟩ := h
    rw [h1, h2]
    exact ⟨rfl, rfl⟩
  | halt x w' => simp [Result.andThen] at h
def sameB (l m : List Nd) : Bool := decide (l.length = m.length) && (l.zip m).all fun p => eqB p.1 p.2
theorem sameB_iff : ∀ {l m : List Nd}, sameB l m = true ↔ l = m
  | [], [] => by simp [sameB]
  | [], _ :: _ => by simp [sameB]
  | _ :: _, [] => by simp [sameB]
  | x :: l, y :: m => by
    have ih := sameB_iff (l := l) (m := m)
    simp only [sameB, Bool.and_eq_true, decide_eq_true_eq] at ih
    simp only [sameB, List.length_cons, List.zip_cons_cons, List.all_cons, Bool.and_eq_true, decide_eq_true_eq, eqB_iff, List.cons.injEq]
    constructor
    · rintro ⟨h1, h2, h3⟩
      exact ⟨h2, ih.1 ⟨by omega, h3⟩⟩
    · rintro ⟨rfl, h2⟩
      obtain ⟨h3, h4⟩ := ih.2 h2
      exact ⟨by omega, rfl, h4⟩
theorem same_no {l m : List Nd} {k : Nat} {x y : Nd} (hx : l[k]? = some x) (hy : m[k]? = some y) (h : eqB x y = false) : sameB l m = false := by
  cases h1 : sameB l m
  · rfl
  · have := sameB_iff.1 h1
    subst this
    rw [hx] at hy
    injection hy with e
    subst e
    rw [eqB_self] at h
    cases h
theorem same_yes {l m : List Nd} (hl : l.length = m.length) (h : ∀ (k : Nat) (x y : Nd), l[k]? = some x → m[k]? = some y → eqB x y = true) : sameB l m = true := by
  rw [sameB_iff]
  apply List.ext_getElem?
  intro k
  cases hx : l[k]? with
  | none =>
    rw [List.getElem?_eq_none_iff] at hx
    rw [List.getElem?_eq_none (by omega)]
  | some x =>
    have hk := (List.getElem?_eq_some_iff.1 hx).1
    have hy : m[k]? = some (m[k]'(by omega)) := List.getElem?_eq_getElem (by omega)
    rw [hy, (eqB_iff _ _).1 (h k _ _ hx hy)]
attribute [local go_sem ↓] ldN_eq neN_eq
set_option maxHeartbeats 1000000 in
set_option maxRecDepth 100000 in
theorem same_any (A B : Option Addr) (l m : List Nd) (c d : Nat) (w : World) (hl : l.length ≤ 9223372036854775806) (hm : m.length ≤ 9223372036854775806) (hA : Seg w w.heap.size A (l.flatMap ncs)) (hB : Seg w w.heap.size B (m.flatMap ncs)) :
    Calls Tryz.prog 18 #[.slice A l.length c, .slice B m.length d] w fun e w' => e = .returned (.bool (sameB l m)) ∧ Below w.heap.size w w' := by
  by_cases hlen : l.length = m.length
  · have e1 : ((l.length : Int) != (m.length : Int)) = false := by simp [hlen]
    have HA := Lib.hid hA
    have HB := Lib.hid hB
    have HLEN := Lib.hid hlen
    clear hA hB
    generalize hn : l.length = n at *
    generalize hq : m.length = q at *
    have HN := Lib.hid hn
    have HQ := Lib.hid hq
    clear hn hq hlen
    obtain rfl : n = q := HLEN.out
    clear HLEN
    go_enter Tryz.func18, Tryz.ntmps18
    go_wp2_with fail
    go_loopw [5] (fun i wr => ∃ (k r : Nat), k ≤ n ∧ i = .int .i64 k ∧ wr = w.drewN r ∧ ∀ (j : Nat) (x y : Nd), j < k → l[j]? = some x → m[j]? = some y → eqB x y = true) (fun i _ => n - (intOf i).toNat)
    case atStart => exact ⟨0, 0, by omega, rfl, rfl, fun j x y hj => by omega⟩
    case round =>
      obtain ⟨k, r, hk, rfl, rfl, hall⟩ := hrel
      have HALL := Lib.hid hall
      clear hall
      by_cases hlt : k < n
      · obtain ⟨x, hx⟩ : ∃ x, l[k]? = some x := ⟨_, List.getElem?_eq_getElem (by rw [HN.out]; exact hlt)⟩
        obtain ⟨y, hy⟩ : ∃ y, m[k]? = some y := ⟨_, List.getElem?_eq_getElem (by rw [HQ.out]; exact hlt)⟩
        obtain ⟨b, off, rfl, hb, hnx⟩ := seg_node HA.out hx
        obtain ⟨b', off', rfl, hb', hny⟩ := seg_node HB.out hy
        have HX := Lib.hid hx
        have HY := Lib.hid hy
        have HNX := Lib.hid hnx
        have HNY := Lib.hid hny
        have hq := run_neN x y
        clear hx hy hnx hny
        cases he : eqB x y
        · rw [he] at hq
          have HE := Lib.hid he
          clear he
          go_wp2_with fail
          go_region_held3 (fun w' => (ldN ⟨b, off + k * 19, none⟩).run Tryz.prog w' = .ok (.agg (nc x)) w' ∧ (ldN ⟨b', off' + k * 19, none⟩).run Tryz.prog w' = .ok (.agg (nc y)) w') (exact ⟨run_ldN (NodeAt.drewN (NodeAt.drewN HNX.out r) 1), run_ldN (NodeAt.drewN (NodeAt.drewN HNY.out r) 1)⟩) (fail)
          go_wp2_with fail
          go_ret
          exact ⟨ret_bool (same_no HX.out HY.out HE.out).symm, below_drewN (below_drewN (Below.refl _ _) r) 1⟩
        · rw [he] at hq
          have HE := Lib.hid he
          clear he
          go_wp2_with fail
          go_region_held3 (fun w' => (ldN ⟨b, off + k * 19, none⟩).run Tryz.prog w' = .ok (.agg (nc x)) w' ∧ (ldN ⟨b', off' + k * 19, none⟩).run Tryz.prog w' = .ok (.agg (nc y)) w') (exact ⟨run_ldN (NodeAt.drewN (NodeAt.drewN HNX.out r) 1), run_ldN (NodeAt.drewN (NodeAt.drewN HNY.out r) 1)⟩) (fail)
          go_wp2_with fail
          go_roundw
          case rel =>
            refine ⟨k + 1, r + 1, by omega, by go_num, rfl, fun j x' y' hj hx' hy' => ?_⟩
            rcases Nat.lt_or_ge j k with h1 | h1
            · exact HALL.out j x' y' h1 hx' hy'
            · obtain rfl : j = k := by omega
              rw [HX.out] at hx'
              rw [HY.out] at hy'
              injection hx' with h2
              injection hy' with h3
              subst h2 h3
              exact HE.out
          case measure => simp [intOf]; omega
      · obtain rfl : k = n := by omega
        go_wp2_with fail
        go_ret
        refine ⟨ret_bool (same_yes (by rw [HN.out, HQ.out]) fun j x y hx hy => HALL.out j x y ?_ hx hy).symm, below_drewN (Below.refl _ _) r⟩
        have := (List.getElem?_eq_some_iff.1 hx).1
        rw [HN.out] at this
        exact this
  · have e1 : ((l.length : Int) != (m.length : Int)) = true := by
      rw [bne_iff_ne]
      omega
    have hs : sameB l m = false := by simp [sameB, hlen]
    have HS := Lib.hid hs
    clear hs hlen
    generalize l.length = n at *
    generalize m.length = q at *
    go_enter Tryz.func18, Tryz.ntmps18
    go_wp2_with fail
    go_ret
    exact ⟨ret_bool HS.out.symm, Below.refl _ _⟩
end Go.Proofs.YtoboecenlangmaaGreat.No
