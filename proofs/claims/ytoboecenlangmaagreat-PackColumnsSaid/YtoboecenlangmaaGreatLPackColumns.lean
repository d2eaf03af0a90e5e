import Derived.Test.YtoboecenlangmaaGreatMa
import Derived.Test.YtoboecenlangmaaGreatNodeG
import Derived.Handy
import Derived.Test.YtoboecenlangmaaGreatMc
import Derived.Test.YtoboecenlangmaaGreatNodeGc
import Derived.Test.YtoboecenlangmaaGreatNodeS1
import Derived.Deep.DeepCutAuto
import Derived.RegionTactic
import Derived.BigRegion
import Derived.Test.YtoboecenlangmaaGreatNodeRt
import Derived.Test.YtoboecenlangmaaGreatMb
import Derived.Test.YtoboecenlangmaaGreatBlk
import Derived.Laws.AppendOwn
import Derived.Test.YtoboecenlangmaaGreatNodeE
import Derived.Deep.MidRow
import Derived.Test.YtoboecenlangmaaGreatNodeBb
import Derived.Test.YtoboecenlangmaaGreatNodeF
import Derived.Deep.RegionHeld3
import Derived.Test.YtoboecenlangmaaGreatNodeTe
import Derived.Test.YtoboecenlangmaaGreatMem
import Derived.ProofKit
import Derived.OpenShut
import Derived.Deep.Slices
import Derived.KernelRfl
import Derived.SizedLaws
import Derived.Carry
/- PackColumns: what a column becomes, hung by its last or by its first line. No conditions. -/
section
namespace Go.Proofs.YtoboecenlangmaaGreat.Pk
open Go.ChangeShapes Go.WideShapes Go.ChangeAt Go.RowKit
open Me Np No
set_option linter.unusedVariables false
set_option linter.unusedSimpArgs false

/-- How high a column's first item is. -/
def firstV (ns : List Nd) : Int := match ns[0]? with
  | some x => if x.kind = 3 ∨ x.kind = 4 ∨ x.kind = 5 then x.ht else 0
  | none => 0
/-- May a node not begin an item of a column? -/
def barB (n : Nd) : Bool := n.kind == 1 || (n.kind == 2 || (n.kind == 10 || (n.kind == 15 || (n.kind == 16 || n.kind == 17))))
def colB (ns : List Nd) : List Nat → Bool
  | [] => true
  | a :: xs => (match ns[a]? with | some x => !barB x | none => true) && colB ns xs
theorem colB_bar {ns : List Nd} {a : Nat} {x : Nd} {xs : List Nat} (hx : ns[a]? = some x) (hb : barB x = true) : colB ns (a :: xs) = false := by
  simp [colB, hx, hb]
theorem colB_no {ns : List Nd} {a : Nat} {x : Nd} {xs : List Nat} (hx : ns[a]? = some x) (hb : barB x = false) : colB ns (a :: xs) = colB ns xs := by
  simp [colB, hx, hb]
theorem bar_no {n : Nd} (h : barB n = false) : (n.kind == 1) = false ∧ (n.kind == 2) = false ∧ (n.kind == 10) = false ∧ (n.kind == 15) = false ∧ (n.kind == 16) = false ∧ (n.kind == 17) = false := by
  simpa only [barB, Bool.or_eq_false_iff] using h
/-- What a column answers. -/
def CHOut (R : List Nd × Int × Int × Int) (w : World) (e : Ending) (w' : World) : Prop := ∃ v, e = .returned (.tuple #[v, .int .i64 R.2.1, .int .i64 R.2.2.1, .int .i64 R.2.2.2]) ∧ w'.ownsRow w.heap.size 101 19 v R.1.length (R.1.flatMap ncs) ∧ Below w.heap.size w w'
theorem CHOut.no {w w' : World} (hb : Below w.heap.size w w') (E : Int) : CHOut ([], 0, 0, E) w (.returned (.tuple #[.slice none 0 0, .int .i64 0, .int .i64 0, .int .i64 E])) w' := ⟨_, rfl, World.ownsRow_nil _ _ _ _, hb⟩
theorem first_any (A : Option Addr) (ns : List Nd) (c : Nat) (w : World) (hl : ns.length ≤ 9223372036854775806) (hseg : Seg w w.heap.size A (ns.flatMap ncs)) :
    Calls Tryz.prog 105 #[.slice A ns.length c] w fun e w' => e = .returned (.int .i64 (firstV ns)) ∧ w = w' := by
  cases ns with
  | nil =>
    have HV := Lib.hid (show firstV [] = 0 from rfl)
    clear hseg
    simp only [List.length_nil]
    go_enter Tryz.func105, Tryz.ntmps105
    go_wp2_with fail
    go_ret
    exact ⟨ret_int (by rw [HV.out]), rfl⟩
  | cons x r =>
    obtain ⟨b, off, rfl, hb, hnode⟩ := seg_node hseg (k := 0) (n := x) rfl
    have c0 : w.cell? ⟨b, off, none⟩ = some (.int .i64 x.kind) := by simpa using hnode 0 _ rfl
    have c4 : w.cell? ⟨b, off + 4, none⟩ = some (.int .i64 x.ht) := by simpa using hnode 4 _ rfl
    have hz : (((r.length : Int) + 1) == 0) = false := by simp; omega
    simp only [List.length_cons] at hl ⊢
    clear hseg hnode
    by_cases h3 : x.kind = 3
    · have HV := Lib.hid (show firstV (x :: r) = x.ht by simp [firstV, h3])
      have e3 : (x.kind == 3) = true := by simp [h3]
      clear h3
      generalize r.length = len at *
      go_enter Tryz.func105, Tryz.ntmps105
      go_wp2_with fail
      go_ret
      exact ⟨ret_int (by rw [HV.out]), rfl⟩
    · have e3 : (x.kind == 3) = false := by simp [h3]
      by_cases h4 : x.kind = 4
      · have HV := Lib.hid (show firstV (x :: r) = x.ht by simp [firstV, h4])
        have e4 : (x.kind == 4) = true := by simp [h4]
        clear h4
        generalize r.length = len at *
        go_enter Tryz.func105, Tryz.ntmps105
        go_wp2_with fail
        go_ret
        exact ⟨ret_int (by rw [HV.out]), rfl⟩
      · have e4 : (x.kind == 4) = false := by simp [h4]
        by_cases h5 : x.kind = 5
        · have HV := Lib.hid (show firstV (x :: r) = x.ht by simp [firstV, h5])
          have e5 : (x.kind == 5) = true := by simp [h5]
          clear h5
          generalize r.length = len at *
          go_enter Tryz.func105, Tryz.ntmps105
          go_wp2_with fail
          go_ret
          exact ⟨ret_int (by rw [HV.out]), rfl⟩
        · have e5 : (x.kind == 5) = false := by simp [h5]
          have HV := Lib.hid (show firstV (x :: r) = 0 by simp [firstV, h3, h4, h5])
          clear h3 h4 h5
          generalize r.length = len at *
          go_enter Tryz.func105, Tryz.ntmps105
          go_wp2_with fail
          go_ret
          exact ⟨ret_int (by rw [HV.out]), rfl⟩
set_option maxRecDepth 100000 in
theorem column_err (A : Option Addr) (ns : List Nd) (k : Nat) (tw most : Int) (ex top : Bool) (w : World) (hl : ns.length ≤ 9223372036854775806) (hseg : Seg w w.heap.size A (ns.flatMap ncs)) (hc : ¬ chk ns = 0) :
    Calls Tryz.prog 56 #[.slice A ns.length k, .int .i64 tw, .bool ex, .int .i64 most, .bool top] w (CHOut ([], 0, 0, chk ns) w) := by
  have e0 : (chk ns != 0) = true := by simp [hc]
  have HC := Lib.hid (check_any A ns k w (by omega) hseg)
  clear hseg hc
  generalize chk ns = q0 at *
  generalize ns.length = len at *
  go_enter Tryz.func56, Tryz.ntmps56
  go_wp2_with fail
  refine HC.out.mono ?_
  rintro e w1 ⟨rfl, hb1⟩
  go_wp2_with fail
  go_returns
  exact CHOut.no hb1 _
set_option maxHeartbeats 2000000 in
set_option maxRecDepth 100000 in
theorem column_far (A : Option Addr) (ns : List Nd) (k : Nat) (tw most : Int) (ex top : Bool) (w : World) (hl : ns.length ≤ 9223372036854775806) (hseg : Seg w w.heap.size A (ns.flatMap ncs)) (hc : chk ns = 0) (ht : (dimB tw && dimB most) = false) :
    Calls Tryz.prog 56 #[.slice A ns.length k, .int .i64 tw, .bool ex, .int .i64 most, .bool top] w (CHOut ([], 0, 0, 11) w) := by
  have HC := Lib.hid (check_any A ns k w (by omega) hseg)
  rw [hc] at HC
  have HD := Lib.hid (fun w => dimen_any tw w)
  have HE := Lib.hid (fun w => dimen_any most w)
  clear hseg hc
  generalize ns.length = len at *
  cases h1 : dimB tw
  · rw [h1] at HD
    clear ht h1
    go_enter Tryz.func56, Tryz.ntmps56
    go_wp2_with fail
    refine HC.out.mono ?_
    rintro e w1 ⟨rfl, hb1⟩
    go_wp2_with (go_at_call 41; first | (refine (HD.out _).mono ?_; rintro e w' ⟨rfl, rfl⟩) | (refine (HE.out _).mono ?_; rintro e w' ⟨rfl, rfl⟩))
    go_returns
    exact CHOut.no hb1 _
  · have h2 : dimB most = false := by simpa [h1] using ht
    rw [h1] at HD
    rw [h2] at HE
    clear ht h1 h2
    go_enter Tryz.func56, Tryz.ntmps56
    go_wp2_with fail
    refine HC.out.mono ?_
    rintro e w1 ⟨rfl, hb1⟩
    go_wp2_with (go_at_call 41; first | (refine (HD.out _).mono ?_; rintro e w' ⟨rfl, rfl⟩) | (refine (HE.out _).mono ?_; rintro e w' ⟨rfl, rfl⟩))
    go_returns
    exact CHOut.no hb1 _
set_option maxHeartbeats 2000000 in
set_option maxRecDepth 100000 in
theorem column_bar (A : Option Addr) (ns : List Nd) (k : Nat) (tw most : Int) (ex top : Bool) (w : World) (hcap : ns.length ≤ k) (hseg : Seg w w.heap.size A (ns.flatMap ncs)) (hc : chk ns = 0) (h1 : dimB tw = true) (h2 : dimB most = true) (hcb : colB ns (itsD ns) = false) :
    Calls Tryz.prog 56 #[.slice A ns.length k, .int .i64 tw, .bool ex, .int .i64 most, .bool top] w (CHOut ([], 0, 0, 50) w) := by
  have hl := (chk_run hc).1
  have HC := Lib.hid (check_any A ns k w (by omega) hseg)
  rw [hc] at HC
  have HD := Lib.hid (fun w => dimen_any tw w)
  have HE := Lib.hid (fun w => dimen_any most w)
  rw [h1] at HD
  rw [h2] at HE
  have HIT := Lib.hid (fun (a m : Nat) w1 (h : Below w.heap.size w w1) hb hm => item_ok A ns k a m w1 (by omega) (Seg.belowW hseg h) hc hb hm)
  have HSG := Lib.hid hseg
  have HST := Lib.hid (stand0 hc (itsD_is hc))
  have HCB := Lib.hid hcb
  clear hseg hc h1 h2 hcb
  generalize itsD ns = xs at *
  generalize hlen : ns.length = len at *
  have HL := Lib.hid hlen
  clear hlen
  go_enter Tryz.func56, Tryz.ntmps56
  go_wp2_with fail
  refine HC.out.mono ?_
  rintro e w1 ⟨rfl, hb1⟩
  have HB1 := Lib.hid hb1
  clear hb1
  go_wp2_with (go_at_call 41; first | (refine (HD.out _).mono ?_; rintro e w' ⟨rfl, rfl⟩) | (refine (HE.out _).mono ?_; rintro e w' ⟨rfl, rfl⟩))
  go_loopw [15] (fun v15 wr => ∃ (a : Nat) (ys : List Nat), v15 = .int .i64 (a : Int) ∧ Stand ns a ys ∧ colB ns ys = false ∧ Below w.heap.size w wr) (fun v15 _ => len - (intOf v15).toNat)
  case atStart => exact ⟨0, xs, rfl, HST.out, HCB.out, HB1.out⟩
  case round =>
    obtain ⟨a, ys, rfl, hst, hcb, hlow⟩ := hrel
    have hal := hst.le
    rw [HL.out] at hal
    by_cases hlt : a < len
    · obtain ⟨m, zs, y, rfl, hm, hm1, ham, hst', _, hy, h6, h11⟩ := hst.step (by rw [HL.out]; exact hl) (by rw [HL.out]; exact hlt)
      rw [HL.out] at ham
      obtain ⟨b, off, rfl, hb, hnd⟩ := seg_node HSG.out hy
      have c0 : wr.cell? ⟨b, off + a * 19, none⟩ = some (.int .i64 y.kind) := (hnd.below hlow hb) 0 _ rfl
      have HLOW := Lib.hid hlow
      have HX := Lib.hid (And.intro hy hm)
      have HB := Lib.hid (beg_of hy h6 h11)
      have HS := Lib.hid hst'
      have HCC := Lib.hid hcb
      have hal1 : (a : Int) + m ≤ len := by omega
      clear hst' hy hm hnd hst h6 h11 hcb hlow
      by_cases k1 : y.kind = 1
      · have e1 : (y.kind == 1) = true := by simp [k1]
        clear k1
        go_wp2_with fail
        go_returns
        exact CHOut.no HLOW.out _
      have e1 : (y.kind == 1) = false := by simp [k1]
      by_cases k2 : y.kind = 2
      · have e2 : (y.kind == 2) = true := by simp [k2]
        clear k2
        go_wp2_with fail
        go_returns
        exact CHOut.no HLOW.out _
      have e2 : (y.kind == 2) = false := by simp [k2]
      by_cases k10 : y.kind = 10
      · have e10 : (y.kind == 10) = true := by simp [k10]
        clear k10
        go_wp2_with fail
        go_returns
        exact CHOut.no HLOW.out _
      have e10 : (y.kind == 10) = false := by simp [k10]
      by_cases k15 : y.kind = 15
      · have e15 : (y.kind == 15) = true := by simp [k15]
        clear k15
        go_wp2_with fail
        go_returns
        exact CHOut.no HLOW.out _
      have e15 : (y.kind == 15) = false := by simp [k15]
      by_cases k16 : y.kind = 16
      · have e16 : (y.kind == 16) = true := by simp [k16]
        clear k16
        go_wp2_with fail
        go_returns
        exact CHOut.no HLOW.out _
      have e16 : (y.kind == 16) = false := by simp [k16]
      by_cases k17 : y.kind = 17
      · have e17 : (y.kind == 17) = true := by simp [k17]
        clear k17
        go_wp2_with fail
        go_returns
        exact CHOut.no HLOW.out _
      have e17 : (y.kind == 17) = false := by simp [k17]
      have HCN := Lib.hid (show colB ns zs = false by rw [← colB_no HX.out.1 (by unfold barB; rw [e1, e2, e10, e15, e16, e17]; rfl)]; exact HCC.out)
      clear k1 k2 k10 k15 k16 k17
      go_wp2_with (go_at_call 80; refine (HIT.out a m _ HLOW.out HB.out HX.out.2).mono ?_; rintro e w5 ⟨rfl, hb5⟩; have HB5 := Lib.hid hb5; clear hb5)
      go_roundw
      case rel => exact ⟨a + m, zs, by go_num, HS.out, HCN.out, andThen HLOW.out HB5.out⟩
      case measure => simp [intOf]; omega
    · obtain rfl : a = len := by omega
      have he : ys = [] := (show Stand ns ns.length ys from HL.out ▸ hst).done
      subst he
      simp [colB] at hcb
end Go.Proofs.YtoboecenlangmaaGreat.Pk
end
section
namespace Go.Proofs.YtoboecenlangmaaGreat.Pk
open Go.ChangeShapes Go.WideShapes Go.ChangeAt Go.RowKit
open Me Np No
set_option linter.unusedVariables false
set_option linter.unusedSimpArgs false

theorem rfirst_any (A : Option Addr) (ns : List Nd) (c : Nat) (w : World) (hl : ns.length ≤ 9223372036854775806) (hseg : Seg w w.heap.size A (ns.flatMap ncs)) :
    Calls Tryz.prog 107 #[.slice A ns.length c] w fun e w' => e = .returned (.int .i64 (firstV ns)) ∧ w = w' := by
  cases ns with
  | nil =>
    have HV := Lib.hid (show firstV [] = 0 from rfl)
    clear hseg
    simp only [List.length_nil]
    go_enter Tryz.func107, Tryz.ntmps107
    go_wp2_with fail
    go_ret
    exact ⟨ret_int (by rw [HV.out]), rfl⟩
  | cons x r =>
    obtain ⟨b, off, rfl, hb, hnode⟩ := seg_node hseg (k := 0) (n := x) rfl
    have c0 : w.cell? ⟨b, off, none⟩ = some (.int .i64 x.kind) := by simpa using hnode 0 _ rfl
    have c4 : w.cell? ⟨b, off + 4, none⟩ = some (.int .i64 x.ht) := by simpa using hnode 4 _ rfl
    simp only [List.length_cons] at hl ⊢
    clear hseg hnode
    by_cases h3 : x.kind = 3
    · have HV := Lib.hid (show firstV (x :: r) = x.ht by simp [firstV, h3])
      have e3 : (x.kind == 3) = true := by simp [h3]
      clear h3
      generalize r.length = len at *
      go_enter Tryz.func107, Tryz.ntmps107
      go_wp2_with fail
      go_ret
      exact ⟨ret_int (by rw [HV.out]), rfl⟩
    · have e3 : (x.kind == 3) = false := by simp [h3]
      by_cases h4 : x.kind = 4
      · have HV := Lib.hid (show firstV (x :: r) = x.ht by simp [firstV, h4])
        have e4 : (x.kind == 4) = true := by simp [h4]
        clear h4
        generalize r.length = len at *
        go_enter Tryz.func107, Tryz.ntmps107
        go_wp2_with fail
        go_ret
        exact ⟨ret_int (by rw [HV.out]), rfl⟩
      · have e4 : (x.kind == 4) = false := by simp [h4]
        by_cases h5 : x.kind = 5
        · have HV := Lib.hid (show firstV (x :: r) = x.ht by simp [firstV, h5])
          have e5 : (x.kind == 5) = true := by simp [h5]
          clear h5
          generalize r.length = len at *
          go_enter Tryz.func107, Tryz.ntmps107
          go_wp2_with fail
          go_ret
          exact ⟨ret_int (by rw [HV.out]), rfl⟩
        · have e5 : (x.kind == 5) = false := by simp [h5]
          have HV := Lib.hid (show firstV (x :: r) = 0 by simp [firstV, h3, h4, h5])
          clear h3 h4 h5
          generalize r.length = len at *
          go_enter Tryz.func107, Tryz.ntmps107
          go_wp2_with fail
          go_ret
          exact ⟨ret_int (by rw [HV.out]), rfl⟩
set_option maxHeartbeats 2000000 in
set_option maxRecDepth 100000 in
theorem rcolumn_any (A : Option Addr) (ns : List Nd) (c : Nat) (w : World) (hc : chk ns = 0) (hseg : Seg w w.heap.size A (ns.flatMap ncs)) :
    Calls Tryz.prog 106 #[.slice A ns.length c] w fun e w' => e = .returned (.bool (colB ns (itsD ns))) ∧ Below w.heap.size w w' := by
  have hl := (chk_run hc).1
  have HSR := Lib.hid (rstarts_any A ns c (itsD ns) w hl hseg (itsD_is hc) (fun x hx n hn => by obtain ⟨n', h1, h2, _⟩ := its_beg hc (itsD_is hc) x hx; rw [hn] at h1; injection h1 with h1; rw [h1]; exact h2))
  have HBG := Lib.hid (its_beg hc (itsD_is hc))
  have HXL := Lib.hid (itsD_is hc).len
  have HSG := Lib.hid hseg
  clear hseg hc
  generalize itsD ns = xs at *
  generalize hR : colB ns xs = R
  have HR := Lib.hid hR
  clear hR
  generalize hlen : ns.length = len at *
  have HL := Lib.hid hlen
  clear hlen
  go_enter Tryz.func106, Tryz.ntmps106
  go_wp2_with fail
  refine HSR.out.mono ?_
  rintro e w1 ⟨v1, rfl, ho, hb1⟩
  obtain ⟨As, cs, hvs, hcs, _, hss⟩ := Seg.of_own ho
  subst hvs
  have HB1 := Lib.hid hb1
  have HSS := Lib.hid hss
  have hxl : xs.length ≤ 2000 := by have := HXL.out; omega
  clear ho hb1 hss
  generalize hn : xs.length = n at *
  have HN := Lib.hid hn
  clear hn
  go_wp2_with fail
  go_loopw [4] (fun v4 wr => ∃ i : Nat, i ≤ n ∧ v4 = .int .i64 (i : Int) ∧ colB ns (xs.drop i) = R ∧ wr = w1) (fun v4 _ => n - (intOf v4).toNat)
  case atStart => exact ⟨0, by omega, rfl, HR.out, rfl⟩
  case round =>
    obtain ⟨i, hi, rfl, hcb, rfl⟩ := hrel
    have HCB := Lib.hid hcb
    by_cases hlt : i < n
    · obtain ⟨a, ha⟩ : ∃ a, xs[i]? = some a := ⟨_, List.getElem?_eq_getElem (by rw [HN.out]; exact hlt)⟩
      obtain ⟨y, hy, h6, h11⟩ := HBG.out a (List.mem_of_getElem? ha)
      have hdr : xs.drop i = a :: xs.drop (i + 1) := by
        have h1 := List.getElem?_eq_some_iff.1 ha
        rw [List.drop_eq_getElem_cons h1.1, h1.2]
      obtain ⟨bs, os, rfl, hbs, hcs0⟩ := HSS.out.open_ (by intro e; have := congrArg List.length e; rw [List.length_map, List.length_nil] at this; have := HN.out; omega)
      have cs1 : wr.cell? ⟨bs, os + i, none⟩ = some (.int .i64 (a : Int)) := hcs0 i _ (by rw [List.getElem?_map, ha]; rfl)
      obtain ⟨b, off, rfl, hb, hnd⟩ := seg_node HSG.out hy
      have c0 : wr.cell? ⟨b, off + a * 19, none⟩ = some (.int .i64 y.kind) := (hnd.below HB1.out hb) 0 _ rfl
      have hal : a < len := by rw [← HL.out]; exact (List.getElem?_eq_some_iff.1 hy).1
      have hai : (a : Int) < len := by omega
      have HY := Lib.hid (And.intro hy hdr)
      clear hcb ha hy h6 h11 hdr hcs0 hnd
      by_cases k1 : y.kind = 1
      · have e1 : (y.kind == 1) = true := by simp [k1]
        have HRF := Lib.hid (show R = false by rw [← HCB.out, HY.out.2]; exact colB_bar HY.out.1 (by simp [barB, k1]))
        clear k1
        go_wp2_with fail
        go_ret
        exact ⟨ret_bool (by rw [HRF.out]), HB1.out⟩
      have e1 : (y.kind == 1) = false := by simp [k1]
      by_cases k2 : y.kind = 2
      · have e2 : (y.kind == 2) = true := by simp [k2]
        have HRF := Lib.hid (show R = false by rw [← HCB.out, HY.out.2]; exact colB_bar HY.out.1 (by simp [barB, k2]))
        clear k2
        go_wp2_with fail
        go_ret
        exact ⟨ret_bool (by rw [HRF.out]), HB1.out⟩
      have e2 : (y.kind == 2) = false := by simp [k2]
      by_cases k10 : y.kind = 10
      · have e10 : (y.kind == 10) = true := by simp [k10]
        have HRF := Lib.hid (show R = false by rw [← HCB.out, HY.out.2]; exact colB_bar HY.out.1 (by simp [barB, k10]))
        clear k10
        go_wp2_with fail
        go_ret
        exact ⟨ret_bool (by rw [HRF.out]), HB1.out⟩
      have e10 : (y.kind == 10) = false := by simp [k10]
      by_cases k15 : y.kind = 15
      · have e15 : (y.kind == 15) = true := by simp [k15]
        have HRF := Lib.hid (show R = false by rw [← HCB.out, HY.out.2]; exact colB_bar HY.out.1 (by simp [barB, k15]))
        clear k15
        go_wp2_with fail
        go_ret
        exact ⟨ret_bool (by rw [HRF.out]), HB1.out⟩
      have e15 : (y.kind == 15) = false := by simp [k15]
      by_cases k16 : y.kind = 16
      · have e16 : (y.kind == 16) = true := by simp [k16]
        have HRF := Lib.hid (show R = false by rw [← HCB.out, HY.out.2]; exact colB_bar HY.out.1 (by simp [barB, k16]))
        clear k16
        go_wp2_with fail
        go_ret
        exact ⟨ret_bool (by rw [HRF.out]), HB1.out⟩
      have e16 : (y.kind == 16) = false := by simp [k16]
      by_cases k17 : y.kind = 17
      · have e17 : (y.kind == 17) = true := by simp [k17]
        have HRF := Lib.hid (show R = false by rw [← HCB.out, HY.out.2]; exact colB_bar HY.out.1 (by simp [barB, k17]))
        clear k17
        go_wp2_with fail
        go_ret
        exact ⟨ret_bool (by rw [HRF.out]), HB1.out⟩
      have e17 : (y.kind == 17) = false := by simp [k17]
      have HCN := Lib.hid (show colB ns (xs.drop (i + 1)) = R by rw [← HCB.out, HY.out.2, colB_no HY.out.1 (by unfold barB; rw [e1, e2, e10, e15, e16, e17]; rfl)])
      clear k1 k2 k10 k15 k16 k17
      go_wp2_with fail
      go_roundw
      case rel => exact ⟨i + 1, by omega, by go_num, HCN.out, trivial⟩
      case measure => simp [intOf]; omega
    · obtain rfl : i = n := by omega
      have hRt : R = true := by
        have := HCB.out
        rw [List.drop_of_length_le (by rw [HN.out]; exact Nat.le_refl _)] at this
        rw [← this]; rfl
      have HRT := Lib.hid hRt
      clear hcb hRt
      go_wp2_with fail
      go_ret
      exact ⟨ret_bool (by rw [HRT.out]), HB1.out⟩
set_option maxRecDepth 100000 in
theorem rdown_err (A : Option Addr) (ns : List Nd) (k : Nat) (tw most : Int) (ex top : Bool) (w : World) (hl : ns.length ≤ 9223372036854775806) (hseg : Seg w w.heap.size A (ns.flatMap ncs)) (hc : ¬ chk ns = 0) :
    Calls Tryz.prog 57 #[.slice A ns.length k, .int .i64 tw, .bool ex, .int .i64 most, .bool top] w (CHOut ([], 0, 0, chk ns) w) := by
  have e0 : (chk ns != 0) = true := by simp [hc]
  have e1 : (chk ns == 0) = false := by simp [hc]
  have HC := Lib.hid (rcheckl_any A ns k w (by omega) hseg)
  clear hseg hc
  generalize chk ns = q0 at *
  generalize ns.length = len at *
  go_enter Tryz.func57, Tryz.ntmps57
  go_wp2_with fail
  refine HC.out.mono ?_
  rintro e w1 ⟨rfl, hb1⟩
  go_wp2_with fail
  go_returns
  exact CHOut.no hb1 _
set_option maxHeartbeats 2000000 in
set_option maxRecDepth 100000 in
theorem rdown_far (A : Option Addr) (ns : List Nd) (k : Nat) (tw most : Int) (ex top : Bool) (w : World) (hl : ns.length ≤ 9223372036854775806) (hseg : Seg w w.heap.size A (ns.flatMap ncs)) (hc : chk ns = 0) (ht : (dimB tw && dimB most) = false) :
    Calls Tryz.prog 57 #[.slice A ns.length k, .int .i64 tw, .bool ex, .int .i64 most, .bool top] w (CHOut ([], 0, 0, 11) w) := by
  have HC := Lib.hid (rcheckl_any A ns k w (by omega) hseg)
  rw [hc] at HC
  have HD := Lib.hid (fun w => rdimen_any tw w)
  have HE := Lib.hid (fun w => rdimen_any most w)
  clear hseg hc
  generalize ns.length = len at *
  cases h1 : dimB tw
  · rw [h1] at HD
    clear ht h1
    go_enter Tryz.func57, Tryz.ntmps57
    go_wp2_with fail
    refine HC.out.mono ?_
    rintro e w1 ⟨rfl, hb1⟩
    go_wp2_with (go_at_call 48; first | (refine (HD.out _).mono ?_; rintro e w' ⟨rfl, rfl⟩) | (refine (HE.out _).mono ?_; rintro e w' ⟨rfl, rfl⟩))
    go_returns
    exact CHOut.no hb1 _
  · have h2 : dimB most = false := by simpa [h1] using ht
    rw [h1] at HD
    rw [h2] at HE
    clear ht h1 h2
    go_enter Tryz.func57, Tryz.ntmps57
    go_wp2_with fail
    refine HC.out.mono ?_
    rintro e w1 ⟨rfl, hb1⟩
    go_wp2_with (go_at_call 48; first | (refine (HD.out _).mono ?_; rintro e w' ⟨rfl, rfl⟩) | (refine (HE.out _).mono ?_; rintro e w' ⟨rfl, rfl⟩))
    go_returns
    exact CHOut.no hb1 _
set_option maxHeartbeats 2000000 in
set_option maxRecDepth 100000 in
theorem rdown_bar (A : Option Addr) (ns : List Nd) (k : Nat) (tw most : Int) (ex top : Bool) (w : World) (hseg : Seg w w.heap.size A (ns.flatMap ncs)) (hc : chk ns = 0) (h1 : dimB tw = true) (h2 : dimB most = true) (hcb : colB ns (itsD ns) = false) :
    Calls Tryz.prog 57 #[.slice A ns.length k, .int .i64 tw, .bool ex, .int .i64 most, .bool top] w (CHOut ([], 0, 0, 50) w) := by
  have hl := (chk_run hc).1
  have HC := Lib.hid (rcheckl_any A ns k w (by omega) hseg)
  rw [hc] at HC
  have HD := Lib.hid (fun w => rdimen_any tw w)
  have HE := Lib.hid (fun w => rdimen_any most w)
  rw [h1] at HD
  rw [h2] at HE
  have HCO := Lib.hid (fun w1 (h : Below w.heap.size w w1) => rcolumn_any A ns k w1 hc (Seg.belowW hseg h))
  rw [hcb] at HCO
  clear hseg hc h1 h2 hcb
  generalize ns.length = len at *
  go_enter Tryz.func57, Tryz.ntmps57
  go_wp2_with fail
  refine HC.out.mono ?_
  rintro e w1 ⟨rfl, hb1⟩
  have HB1 := Lib.hid hb1
  clear hb1
  go_wp2_with (first | (go_at_call 48; first | (refine (HD.out _).mono ?_; rintro e w' ⟨rfl, rfl⟩) | (refine (HE.out _).mono ?_; rintro e w' ⟨rfl, rfl⟩)) | (go_at_call 106; refine (HCO.out _ HB1.out).mono ?_; rintro e w2 ⟨rfl, hb2⟩; have HB2 := Lib.hid hb2; clear hb2))
  go_returns
  exact CHOut.no (andThen HB1.out HB2.out) _
end Go.Proofs.YtoboecenlangmaaGreat.Pk
end
section
namespace Go.Proofs.YtoboecenlangmaaGreat.Pk
open Go.ChangeShapes Go.WideShapes Go.ChangeAt Go.RowKit
open Me Np No
set_option linter.unusedVariables false
set_option linter.unusedSimpArgs false

def cN (W h v : Int) : Nd := { nz 5 with wd := W, ht := h, dp := v }
/-- What a column comes to, where the list may be one. -/
def ccR (e1 e2 : Int) (d1 d2 : Bool) (e3 : Int) (L : List Nd) (bad ov : Int) : List Nd × Int × Int × Int :=
  if e1 = 0 then (if e2 = 0 then (if d1 = true then (if d2 = true then (if e3 = 0 then (L, bad, ov, 0) else ([], 0, 0, e3)) else ([], 0, 0, 20)) else ([], 0, 0, 20)) else ([], 0, 0, e2)) else ([], 0, 0, e1)
theorem Hs.cut3 {w0 : World} {v u : Value} {S O : List Nd} {g : Nat} {x a b c d p q r s : Int} {em : Bool} {bad ov wr : Int} {w : World} (h : Hs w0 v u S O g (nz 5) x a b c d p q r s em bad ov wr w) (W y z : Int) : Hs w0 v u S O g (cN W z y) x a b c d p q r s em bad ov wr (((w.setCell ⟨g, 3, none⟩ (.int .i64 W)).setCell ⟨g, 5, none⟩ (.int .i64 y)).setCell ⟨g, 4, none⟩ (.int .i64 z)) :=
  h.turn (grown_trans (grown_trans (grown_set _ _ _ _) (grown_set _ _ _ _)) (grown_set _ _ _ _)) (((h.mkr.n3 W).n5 y).n4 z)
theorem Hs.cutH {w0 : World} {v u : Value} {S O : List Nd} {g : Nat} {W y z : Int} {x a b c d p q r s : Int} {em : Bool} {bad ov wr : Int} {w : World} (h : Hs w0 v u S O g (cN W z y) x a b c d p q r s em bad ov wr w) (z' : Int) : Hs w0 v u S O g (cN W z' y) x a b c d p q r s em bad ov wr (w.setCell ⟨g, 4, none⟩ (.int .i64 z')) :=
  h.turn (grown_set _ _ _ _) (h.mkr.n4 z')
theorem Hs.cutT {w0 : World} {v u : Value} {S O : List Nd} {g : Nat} {W y z : Int} {F : Int × Int × Int × Int} {x a b c d p q r s : Int} {em : Bool} {bad ov wr : Int} {w : World} (h : Hs w0 v u S O g (fitN (cN W z y) F) x a b c d p q r s em bad ov wr w) (z' y' : Int) : Hs w0 v u S O g (fitN (cN W z' y') F) x a b c d p q r s em bad ov wr ((w.setCell ⟨g, 4, none⟩ (.int .i64 z')).setCell ⟨g, 5, none⟩ (.int .i64 y')) :=
  h.turn (grown_trans (grown_set _ _ _ _) (grown_set _ _ _ _)) ((h.mkr.n4 z').n5 y')
theorem Hs.cout {w0 w w' : World} {v : Value} {u : Value} {S O L : List Nd} {g : Nat} {n : Nd} {x a b c d p q r s : Int} {em : Bool} {bad ov wr : Int} (h : Hs w0 v u S O g n x a b c d p q r s em bad ov wr w) {vL : Value} (ho : w'.ownsRow w.heap.size 101 19 vL L.length (L.flatMap ncs)) (hb : Below w.heap.size w w') (y z : Int) :
    CHOut (L, y, z, 0) w0 (.returned (.tuple #[vL, .int .i64 y, .int .i64 z, .int .i64 0])) w' :=
  ⟨vL, rfl, own_base ho h.low.size, andThen h.low hb⟩
theorem CHOut.drewN {R : List Nd × Int × Int × Int} {w w' : World} {e : Ending} (h : CHOut R w e w') (n : Nat) : CHOut R w e (w'.drewN n) := by
  obtain ⟨v, rfl, ho, hb⟩ := h
  exact ⟨v, rfl, own_below ho (below_drewN (Below.refl _ _) n), below_drewN hb n⟩
set_option maxHeartbeats 10000000 in
set_option maxRecDepth 100000 in
theorem column_main (A : Option Addr) (ns L : List Nd) (k : Nat) (tw most : Int) (ex top : Bool) (w : World) (hcap : ns.length ≤ k) (hsrc : Src w A k ns) (hc : chk ns = 0) (h1 : dimB tw = true) (h2 : dimB most = true) (hcb : colB ns (itsD ns) = true) (x a b c d p q r s e1 h v e2 e3 N D H Hf Df : Int) (M : Msr ns true x a b c d p q r s e1 h v e2)
    (hN : N = if most < v then x - v + v - most else x - v) (hD : D = if most < v then most else v) (hH : H = if ex = true then tw else tw + N) (hHf : Hf = if top = true then firstV ns else H) (hDf : Df = if top = true then H + D - firstV ns else D)
    (hw : ∀ (A : Option Addr) (c' : Nat) (w : World), Src w A c' ns → Calls Tryz.prog 88 #[.agg (nc (fitN (cN h Hf Df) (Gl.fit a b c d p q r s (H - N)))), .slice A ns.length c'] w fun e' w' => ∃ v, e' = .returned (.tuple #[v, .int .i64 e3]) ∧ w'.ownsRow w.heap.size 101 19 v L.length (L.flatMap ncs) ∧ Below w.heap.size w w') :
    Calls Tryz.prog 56 #[.slice A ns.length k, .int .i64 tw, .bool ex, .int .i64 most, .bool top] w (CHOut (ccR e1 e2 (dimB H && dimB N) (!top || dimB Df) e3 L (setV (fitN (cN h H D) (Gl.fit a b c d p q r s (H - N))) a p ((ns.length : Int) == 0) (H - N) (0, 0)).1 (setV (fitN (cN h H D) (Gl.fit a b c d p q r s (H - N))) a p ((ns.length : Int) == 0) (H - N) (0, 0)).2) w) := by
  have hl := (chk_run hc).1
  have hseg := hsrc.seg
  have HC := Lib.hid (check_any A ns k w (by omega) hseg)
  rw [hc] at HC
  have HDT := Lib.hid (fun w => dimen_any tw w)
  have HDM := Lib.hid (fun w => dimen_any most w)
  rw [h1] at HDT
  rw [h2] at HDM
  have htw : -1073741823 ≤ tw ∧ tw ≤ 1073741823 := by simpa [dimB] using h1
  have hmo : -1073741823 ≤ most ∧ most ≤ 1073741823 := by simpa [dimB] using h2
  have HIT := Lib.hid (fun (a m : Nat) w1 (h : Below w.heap.size w w1) hb hm => item_ok A ns k a m w1 (by omega) (Seg.belowW hseg h) hc hb hm)
  have HFI := Lib.hid (fun w1 (h : Below w.heap.size w w1) => first_any A ns k w1 (by omega) (Seg.belowW hseg h))
  have HSG := Lib.hid hseg
  have HSR := Lib.hid hsrc
  have HST := Lib.hid (stand0 hc (itsD_is hc))
  have HCB := Lib.hid hcb
  have HM := Lib.hid M
  have HMT := Lib.hid M.tot
  have HME := Lib.hid M.ext
  have HFB : -2147483648 ≤ firstV ns ∧ firstV ns ≤ 2147483648 := by
    unfold firstV
    split
    · rename_i y hy
      split
      · rename_i hk
        have := right_hd (chk_right hc y (List.mem_of_getElem? hy)) (by omega)
        unfold dm at this
        omega
      · omega
    · omega
  obtain ⟨R, hR⟩ : ∃ R, R = ccR e1 e2 (dimB H && dimB N) (!top || dimB Df) e3 L (setV (fitN (cN h H D) (Gl.fit a b c d p q r s (H - N))) a p ((ns.length : Int) == 0) (H - N) (0, 0)).1 (setV (fitN (cN h H D) (Gl.fit a b c d p q r s (H - N))) a p ((ns.length : Int) == 0) (H - N) (0, 0)).2 := ⟨_, rfl⟩
  rw [← hR]
  have HR := Lib.hid hR
  generalize hem : ((ns.length : Int) == 0) = em at *
  have HEM := Lib.hid hem
  have HMW := Lib.hid (fun (g : Nat) (bad ov : Int) (A : Option Addr) (k : Nat) (w : World) (hg : Mk w g (fitN (cN h Hf Df) (Gl.fit a b c d p q r s (H - N))) x a b c d p q r s em bad ov 0) (hs : Src w A k ns) => mwrap_any g _ x a b c d p q r s em bad ov ns L e3 A k w hg hw hs)
  have HN := Lib.hid hN
  have HD := Lib.hid hD
  have HH := Lib.hid hH
  have HHF := Lib.hid hHf
  have HDF := Lib.hid hDf
  generalize hF : firstV ns = F at *
  generalize hxs : itsD ns = xs at *
  clear hR hseg hsrc hc h1 h2 hcb M hw hN hD hH hHf hDf hF hxs
  generalize hlen : ns.length = len at *
  have HL := Lib.hid hlen
  clear hlen
  go_enter Tryz.func56, Tryz.ntmps56
  go_wp2_with fail
  refine HC.out.mono ?_
  rintro e w1 ⟨rfl, hb1⟩
  have HB1 := Lib.hid hb1
  clear hb1
  go_wp2_with (go_at_call 41; first | (refine (HDT.out _).mono ?_; rintro e w' ⟨rfl, rfl⟩) | (refine (HDM.out _).mono ?_; rintro e w' ⟨rfl, rfl⟩))
  go_loopw [15] (fun v15 wr => ∃ (a : Nat) (ys : List Nat), v15 = .int .i64 (a : Int) ∧ Stand ns a ys ∧ colB ns ys = true ∧ Below w.heap.size w wr) (fun v15 _ => len - (intOf v15).toNat)
  case atStart => exact ⟨0, xs, rfl, HST.out, HCB.out, HB1.out⟩
  case round =>
    obtain ⟨j, ys, rfl, hst, hcb, hlow⟩ := hrel
    have hal := hst.le
    rw [HL.out] at hal
    by_cases hlt : j < len
    · obtain ⟨m, zs, y, rfl, hm, hm1, ham, hst', _, hy, h6, h11⟩ := hst.step (by rw [HL.out]; exact hl) (by rw [HL.out]; exact hlt)
      rw [HL.out] at ham
      cases hbar : barB y
      · obtain ⟨k1, k2, k10, k15, k16, k17⟩ := bar_no hbar
        obtain ⟨b0, off, rfl, hb, hnd⟩ := seg_node HSG.out hy
        have c0 : wr.cell? ⟨b0, off + j * 19, none⟩ = some (.int .i64 y.kind) := (hnd.below hlow hb) 0 _ rfl
        have HLOW := Lib.hid hlow
        have HX := Lib.hid (And.intro hy hm)
        have HB := Lib.hid (beg_of hy h6 h11)
        have HS := Lib.hid hst'
        rw [colB_no hy hbar] at hcb
        have HCC := Lib.hid hcb
        have hal1 : (j : Int) + m ≤ len := by omega
        clear hst' hy hm hnd hst h6 h11 hcb hlow hbar
        go_wp2_with (go_at_call 80; refine (HIT.out j m _ HLOW.out HB.out HX.out.2).mono ?_; rintro e w5 ⟨rfl, hb5⟩; have HB5 := Lib.hid hb5; clear hb5)
        go_roundw
        case rel => exact ⟨j + m, zs, by go_num, HS.out, HCC.out, andThen HLOW.out HB5.out⟩
        case measure => simp [intOf]; omega
      · rw [colB_bar hy hbar] at hcb
        cases hcb
    · obtain rfl : j = len := by omega
      have HLW := Lib.hid hlow
      clear hst hcb hlow hal HST HCB HB1 HC HDM HDT
      go_wp2_with (first | (refine wpList_build_eq (o := ⟨some 60, _, _, _, _, _⟩) rfl _ _ rfl (mkc (nz 5) 0 0 0 0 0 0 0 0 0 em 0 0 0) (by kernel_rfl) ?_))
      have hs0 : Hs w (.slice none 0 0) (.slice none 0 0) [] [] wr.heap.size (nz 5) 0 0 0 0 0 0 0 0 0 em 0 0 0 (wr.alloc (.cells (mkc (nz 5) 0 0 0 0 0 0 0 0 0 em 0 0 0) 111)) := ⟨Blk.new' rfl, ⟨World.ownsRow_nil _ _ _ _, World.ownsRow_nil _ _ _ _, .inl rfl, .inl rfl⟩, andAlloc HLW.out _, HLW.out.size⟩
      clear HLW
      generalize wr.alloc (.cells (mkc (nz 5) 0 0 0 0 0 0 0 0 0 em 0 0 0) 111) = w3 at hs0 ⊢
      generalize wr.heap.size = g at hs0 ⊢
      refine (HMT.out A k w3 hcap (Seg.belowW HSG.out hs0.low)).mono ?_
      rintro e w4 ⟨rfl, hb4⟩
      have hs4 := hs0.below hb4
      have hth := mk_there hs4.mkr
      have HS4 := Lib.hid hs4
      clear hs0 hb4 hs4
      have hs5 := HS4.out.turn (grown_cells g _ 19 w4) (mk_tot HS4.out.mkr x a b c d p q r s)
      have HS5 := Lib.hid hs5
      clear hs5
      by_cases he1 : e1 = 0
      · have t1 : (e1 != 0) = false := by simp [he1]
        by_cases he2 : e2 = 0
        · have t2 : (e2 != 0) = false := by simp [he2]
          have hbx : -1073741823 ≤ x ∧ x ≤ 1073741823 := by simpa [dimB] using HM.out.nat he1
          have hbv : -1073741823 ≤ v ∧ v ≤ 1073741823 := by simpa [dimB] using (HM.out.hv he2).2
          obtain ⟨N0, hN0⟩ : ∃ N0, x - v = N0 := ⟨_, rfl⟩
          have hsub0 : IntKind.i64.wrap (x - v) = N0 := by rw [hN0]; exact IntWalk.i64_in _ (by omega)
          have hb0 : -2147483646 ≤ N0 ∧ N0 ≤ 2147483646 := by omega
          have HN0 := Lib.hid hN0
          clear hN0
          go_upto_if 91 with (first | (refine wpList_store_mid (op := ⟨none, .store _ (.tmp 69) (.tmp 66), _, _, _, _⟩) rfl 109 _ _ rfl g 19 #[.int .i64 x, .int .i64 a, .int .i64 b, .int .i64 c, .int .i64 d, .int .i64 p, .int .i64 q, .int .i64 r, .int .i64 s] ?_ rfl hth tot_info (t9_one _ _ _ _ _ _ _ _ _) ?_; rfl) | (go_at_call 45; refine (HME.out A k _ hcap (Seg.belowW HSG.out HS5.out.low)).mono ?_; rintro e w6 ⟨rfl, hb6⟩; have HS6 := Lib.hid (HS5.out.below hb6); clear hb6; have hd19 : w6.cell? ⟨g, 19, none⟩ = some (.int .i64 x) := Blk.cell HS6.out.mkr 19))
          clear hth
          go_cut [18, 19] (fun v18 v19 wx => v18 = .int .i64 D ∧ v19 = .int .i64 N ∧ wx = w6)
          case first =>
            by_cases hg : most < v
            · have hs1 : IntKind.i64.wrap (N0 + v) = x := by rw [← HN0.out, Int.sub_add_cancel]; exact IntWalk.i64_in _ (by omega)
              have hs2 : IntKind.i64.wrap (x - most) = N := by rw [HN.out, if_pos hg, Int.sub_add_cancel]; exact IntWalk.i64_in _ (by omega)
              have HG := Lib.hid hg
              go_wp2_with fail
              go_meet
              exact ⟨by rw [HD.out, if_pos HG.out], rfl, rfl⟩
            · have HG := Lib.hid hg
              have hng : v ≤ most := by omega
              go_wp2_with fail
              go_meet
              exact ⟨by rw [HD.out, if_neg (by have := HG.out; omega)], by rw [HN.out, if_neg (by have := HG.out; omega), HN0.out], rfl⟩
          case rest =>
            obtain ⟨rfl, rfl, rfl⟩ := hcut
            have hbN : -4294967292 ≤ N ∧ N ≤ 4294967292 := by
              have := HN.out
              split at this <;> omega
            have hbD : -1073741823 ≤ D ∧ D ≤ 1073741823 := by
              have := HD.out
              split at this <;> omega
            have hbH : -5368709115 ≤ H ∧ H ≤ 5368709115 := by
              have := HH.out
              split at this <;> omega
            have q3 : wc.cell? ⟨g, 3, none⟩ = some (.int .i64 0) := Blk.cell HS6.out.mkr 3
            have q4 : wc.cell? ⟨g, 4, none⟩ = some (.int .i64 0) := Blk.cell HS6.out.mkr 4
            have q5 : wc.cell? ⟨g, 5, none⟩ = some (.int .i64 0) := Blk.cell HS6.out.mkr 5
            have r3 := Blk.free HS6.out.mkr 3
            have r4 := Blk.free HS6.out.mkr 4
            have r5 := Blk.free HS6.out.mkr 5
            go_upto_if 114 with fail
            have hs7 := HS6.out.cut3 h D tw
            have HS7 := Lib.hid hs7
            generalize ((wc.setCell ⟨g, 3, none⟩ (.int .i64 h)).setCell ⟨g, 5, none⟩ (.int .i64 D)).setCell ⟨g, 4, none⟩ (.int .i64 tw) = w7 at HS7 ⊢
            clear hs7 q3 q4 q5 r3 r4 r5 hd19 HS6 HS5 HS4
            have q4 : w7.cell? ⟨g, 4, none⟩ = some (.int .i64 tw) := Blk.cell HS7.out.mkr 4
            have r4 := Blk.free HS7.out.mkr 4
            go_cut [] (fun wx => Hs w (.slice none 0 0) (.slice none 0 0) [] [] g (cN h H D) x a b c d p q r s em 0 0 0 wx)
            case first =>
              cases ex
              · have hsum : IntKind.i64.wrap (tw + N) = H := by rw [HH.out, if_neg (by decide)]; exact IntWalk.i64_in _ (by omega)
                go_wp2_with fail
                go_meet
                exact HS7.out.cutH H
              · have hHt : H = tw := by rw [HH.out, if_pos rfl]
                have HHT := Lib.hid hHt
                clear hHt
                go_wp2_with fail
                go_meet
                rw [HHT.out]
                exact HS7.out
            case rest =>
              have HS8 := Lib.hid hcut
              clear hcut q4 r4 HS7
              have q4 : wc.cell? ⟨g, 4, none⟩ = some (.int .i64 H) := Blk.cell HS8.out.mkr 4
              by_cases dH : dimB H = true
              · have HDH := Lib.hid dH
                by_cases dN : dimB N = true
                · have HDN := Lib.hid dN
                  have hbH' : -1073741823 ≤ H ∧ H ≤ 1073741823 := by simpa [dimB] using dH
                  have hbN' : -1073741823 ≤ N ∧ N ≤ 1073741823 := by simpa [dimB] using dN
                  have hsub : IntKind.i64.wrap (H - N) = H - N := IntWalk.i64_in _ (by omega)
                  have HNW := Lib.hid (show Gl.nearB (H - N) = true by unfold Gl.nearB; rw [decide_eq_true_eq]; omega)
                  clear hbH hbN
                  cases top
                  · have hq1 : Hf = H := by rw [HHF.out]; rfl
                    have hq2 : Df = D := by rw [HDF.out]; rfl
                    rw [hq1, hq2] at HMW
                    clear hq1 hq2
                    go_upto_region 38 with (first | (go_at_call 41; refine (dimen_any _ _).mono ?_; rintro e w' ⟨rfl, rfl⟩) | (go_at_call 43; refine (set_any g (cN h H D) x a b c d p q r s em 0 0 (H - N) _ HS8.out.mkr HNW.out (HM.out.near he1).1 (HM.out.near he1).2.2.2.2.1 (HM.out.near he1).2.1 (HM.out.near he1).2.2.2.2.2.1 (HM.out.near he1).2.2.1 (HM.out.near he1).2.2.2.2.2.2.1 (HM.out.near he1).2.2.2.1 (HM.out.near he1).2.2.2.2.2.2.2).mono ?_; rintro e w9 ⟨rfl, hm9, hg9⟩; have HS9 := Lib.hid (HS8.out.turn hg9 hm9); clear hm9 hg9))
                    clear dH dN q4 hsub
                    by_cases he3 : e3 = 0
                    · have t3 : (e3 != 0) = false := by simp [he3]
                      go_upto_region 41 with (go_at_call 46; refine (HMW.out g _ _ A k _ HS9.out.mkr (HSR.out.below HS9.out.low)).mono ?_; rintro e wq ⟨vL, rfl, hoL, hbL⟩; have HO9 := Lib.hid (And.intro hoL hbL); clear hoL hbL)
                      have HK9 := Lib.hid (HS9.out.below HO9.out.2).mkr
                      have hd29 : wq.cell? ⟨g, 29, none⟩ = some (.int .i64 (setV (fitN (cN h H D) (Gl.fit a b c d p q r s (H - N))) a p em (H - N) (0, 0)).1) := Blk.cell HK9.out 29
                      have hd30 : wq.cell? ⟨g, 30, none⟩ = some (.int .i64 (setV (fitN (cN h H D) (Gl.fit a b c d p q r s (H - N))) a p em (H - N) (0, 0)).2) := Blk.cell HK9.out 30
                      have hr : R = (L, (setV (fitN (cN h H D) (Gl.fit a b c d p q r s (H - N))) a p em (H - N) (0, 0)).1, (setV (fitN (cN h H D) (Gl.fit a b c d p q r s (H - N))) a p em (H - N) (0, 0)).2, 0) := by rw [HR.out]; unfold ccR; rw [if_pos he1, if_pos he2, if_pos (by rw [HDH.out, HDN.out]; rfl), if_pos (by simp), if_pos he3]
                      have HR' := Lib.hid hr
                      clear hr HR
                      have HO := Lib.hid (fun y z => HS9.out.cout HO9.out.1 HO9.out.2 y z)
                      generalize (setV (fitN (cN h H D) (Gl.fit a b c d p q r s (H - N))) a p em (H - N) (0, 0)).1 = y1 at *
                      generalize (setV (fitN (cN h H D) (Gl.fit a b c d p q r s (H - N))) a p em (H - N) (0, 0)).2 = y2 at *
                      go_quiet (fail)
                      go_wp2_with fail
                      go_returns
                      rw [HR'.out]
                      exact (HO.out _ _).drewN _
                    · have t3 : (e3 != 0) = true := by simp [he3]
                      have hr : R = ([], 0, 0, e3) := by rw [HR.out]; unfold ccR; rw [if_pos he1, if_pos he2, if_pos (by rw [HDH.out, HDN.out]; rfl), if_pos (by simp), if_neg he3]
                      have HR' := Lib.hid hr
                      clear hr HR
                      go_wp2_with (go_at_call 46; refine (HMW.out g _ _ A k _ HS9.out.mkr (HSR.out.below HS9.out.low)).mono ?_; rintro e wq ⟨vL, rfl, hoL, hbL⟩; have HO9 := Lib.hid (And.intro hoL hbL); clear hoL hbL)
                      go_returns
                      rw [HR'.out]
                      exact CHOut.no (andThen HS9.out.low HO9.out.2) _
                  · have hq1 : Hf = F := by rw [HHF.out]; rfl
                    have hq2 : Df = H + D - F := by rw [HDF.out]; rfl
                    have HQ2 := Lib.hid hq2
                    rw [hq1] at HMW
                    clear hq1 hq2
                    go_upto_region 35 with (first | (go_at_call 41; refine (dimen_any _ _).mono ?_; rintro e w' ⟨rfl, rfl⟩) | (go_at_call 43; refine (set_any g (cN h H D) x a b c d p q r s em 0 0 (H - N) _ HS8.out.mkr HNW.out (HM.out.near he1).1 (HM.out.near he1).2.2.2.2.1 (HM.out.near he1).2.1 (HM.out.near he1).2.2.2.2.2.1 (HM.out.near he1).2.2.1 (HM.out.near he1).2.2.2.2.2.2.1 (HM.out.near he1).2.2.2.1 (HM.out.near he1).2.2.2.2.2.2.2).mono ?_; rintro e w9 ⟨rfl, hm9, hg9⟩; have HS9 := Lib.hid (HS8.out.turn hg9 hm9); clear hm9 hg9) | (go_at_call 105; refine (HFI.out _ HS9.out.low).mono ?_; rintro e w' ⟨rfl, rfl⟩))
                    clear dH dN q4 hsub
                    have q4 : w9.cell? ⟨g, 4, none⟩ = some (.int .i64 H) := Blk.cell HS9.out.mkr 4
                    have q5 : w9.cell? ⟨g, 5, none⟩ = some (.int .i64 D) := Blk.cell HS9.out.mkr 5
                    have r4 := Blk.free HS9.out.mkr 4
                    have r5 := Blk.free HS9.out.mkr 5
                    have hsu1 : IntKind.i64.wrap (H + D) = H + D := IntWalk.i64_in _ (by omega)
                    have hsu2 : IntKind.i64.wrap (H + D - F) = Df := by rw [HQ2.out]; exact IntWalk.i64_in _ (by omega)
                    go_cut [] (fun wx => Hs w (.slice none 0 0) (.slice none 0 0) [] [] g (fitN (cN h F Df) (Gl.fit a b c d p q r s (H - N))) x a b c d p q r s em (setV (fitN (cN h H D) (Gl.fit a b c d p q r s (H - N))) a p em (H - N) (0, 0)).1 (setV (fitN (cN h H D) (Gl.fit a b c d p q r s (H - N))) a p em (H - N) (0, 0)).2 0 wx)
                    case first =>
                      clear HIT HMT HME HFI HMW HSG HSR HM HN HD HH HDF HHF HR HEM HQ2 HNW HL hbx hbv hb0 HN0 hsub0 hbD htw hmo HDH HDN
                      go_region_with (fail)
                      all_goals
                        first | go_meet | (go_wp2_with fail; go_meet)
                        exact (HS9.out.cutT F Df).below (Below.drew (Below.refl _ _))
                    case rest =>
                      have HS10 := Lib.hid hcut
                      clear hcut q4 q5 r4 r5 hsu1 hsu2
                      have q5 : wc.cell? ⟨g, 5, none⟩ = some (.int .i64 Df) := Blk.cell HS10.out.mkr 5
                      by_cases dD : dimB Df = true
                      · have HDD := Lib.hid dD
                        go_upto_region 38 with (go_at_call 41; refine (dimen_any _ _).mono ?_; rintro e w' ⟨rfl, rfl⟩)
                        clear dD q5
                        by_cases he3 : e3 = 0
                        · have t3 : (e3 != 0) = false := by simp [he3]
                          go_upto_region 41 with (go_at_call 46; refine (HMW.out g _ _ A k _ HS10.out.mkr (HSR.out.below HS10.out.low)).mono ?_; rintro e wq ⟨vL, rfl, hoL, hbL⟩; have HO9 := Lib.hid (And.intro hoL hbL); clear hoL hbL)
                          have HK9 := Lib.hid (HS10.out.below HO9.out.2).mkr
                          have hd29 : wq.cell? ⟨g, 29, none⟩ = some (.int .i64 (setV (fitN (cN h H D) (Gl.fit a b c d p q r s (H - N))) a p em (H - N) (0, 0)).1) := Blk.cell HK9.out 29
                          have hd30 : wq.cell? ⟨g, 30, none⟩ = some (.int .i64 (setV (fitN (cN h H D) (Gl.fit a b c d p q r s (H - N))) a p em (H - N) (0, 0)).2) := Blk.cell HK9.out 30
                          have hr : R = (L, (setV (fitN (cN h H D) (Gl.fit a b c d p q r s (H - N))) a p em (H - N) (0, 0)).1, (setV (fitN (cN h H D) (Gl.fit a b c d p q r s (H - N))) a p em (H - N) (0, 0)).2, 0) := by rw [HR.out]; unfold ccR; rw [if_pos he1, if_pos he2, if_pos (by rw [HDH.out, HDN.out]; rfl), if_pos (by rw [HDD.out]; rfl), if_pos he3]
                          have HR' := Lib.hid hr
                          clear hr HR
                          have HO := Lib.hid (fun y z => HS10.out.cout HO9.out.1 HO9.out.2 y z)
                          generalize (setV (fitN (cN h H D) (Gl.fit a b c d p q r s (H - N))) a p em (H - N) (0, 0)).1 = y1 at *
                          generalize (setV (fitN (cN h H D) (Gl.fit a b c d p q r s (H - N))) a p em (H - N) (0, 0)).2 = y2 at *
                          go_quiet (fail)
                          go_wp2_with fail
                          go_returns
                          rw [HR'.out]
                          exact (HO.out _ _).drewN _
                        · have t3 : (e3 != 0) = true := by simp [he3]
                          have hr : R = ([], 0, 0, e3) := by rw [HR.out]; unfold ccR; rw [if_pos he1, if_pos he2, if_pos (by rw [HDH.out, HDN.out]; rfl), if_pos (by rw [HDD.out]; rfl), if_neg he3]
                          have HR' := Lib.hid hr
                          clear hr HR
                          go_wp2_with (go_at_call 46; refine (HMW.out g _ _ A k _ HS10.out.mkr (HSR.out.below HS10.out.low)).mono ?_; rintro e wq ⟨vL, rfl, hoL, hbL⟩; have HO9 := Lib.hid (And.intro hoL hbL); clear hoL hbL)
                          go_returns
                          rw [HR'.out]
                          exact CHOut.no (andThen HS10.out.low HO9.out.2) _
                      · have hr : R = ([], 0, 0, 20) := by rw [HR.out]; unfold ccR; rw [if_pos he1, if_pos he2, if_pos (by rw [HDH.out, HDN.out]; rfl), if_neg (by simp [dD])]
                        have HR' := Lib.hid hr
                        clear hr HR
                        have dD' : dimB Df = false := by simpa using dD
                        clear dD
                        go_wp2_with (go_at_call 41; refine (dimen_any _ _).mono ?_; rintro e w' ⟨rfl, rfl⟩)
                        go_returns
                        rw [HR'.out]
                        exact CHOut.no HS10.out.low _
                · have hr : R = ([], 0, 0, 20) := by rw [HR.out]; unfold ccR; rw [if_pos he1, if_pos he2, if_neg (by simp [dN])]
                  have HR' := Lib.hid hr
                  clear hr HR
                  have dN' : dimB N = false := by simpa using dN
                  clear dN
                  go_wp2_with (go_at_call 41; refine (dimen_any _ _).mono ?_; rintro e w' ⟨rfl, rfl⟩)
                  go_returns
                  rw [HR'.out]
                  exact CHOut.no HS8.out.low _
              · have hr : R = ([], 0, 0, 20) := by rw [HR.out]; unfold ccR; rw [if_pos he1, if_pos he2, if_neg (by simp [dH])]
                have HR' := Lib.hid hr
                clear hr HR
                have dH' : dimB H = false := by simpa using dH
                clear dH
                go_wp2_with (go_at_call 41; refine (dimen_any _ _).mono ?_; rintro e w' ⟨rfl, rfl⟩)
                go_returns
                rw [HR'.out]
                exact CHOut.no HS8.out.low _
        · have t2 : (e2 != 0) = true := by simp [he2]
          have hr : R = ([], 0, 0, e2) := by rw [HR.out]; unfold ccR; rw [if_pos he1, if_neg he2]
          have HR' := Lib.hid hr
          clear hr HR
          go_wp2_with (first | (refine wpList_store_mid (op := ⟨none, .store _ (.tmp 69) (.tmp 66), _, _, _, _⟩) rfl 109 _ _ rfl g 19 #[.int .i64 x, .int .i64 a, .int .i64 b, .int .i64 c, .int .i64 d, .int .i64 p, .int .i64 q, .int .i64 r, .int .i64 s] ?_ rfl hth tot_info (t9_one _ _ _ _ _ _ _ _ _) ?_; rfl) | (go_at_call 45; refine (HME.out A k _ hcap (Seg.belowW HSG.out HS5.out.low)).mono ?_; rintro e w6 ⟨rfl, hb6⟩; have HS6 := Lib.hid (HS5.out.below hb6); clear hb6; have hd19 : w6.cell? ⟨g, 19, none⟩ = some (.int .i64 x) := Blk.cell HS6.out.mkr 19))
          go_returns
          rw [HR'.out]
          exact CHOut.no HS6.out.low _
      · have t1 : (e1 != 0) = true := by simp [he1]
        have hr : R = ([], 0, 0, e1) := by rw [HR.out]; unfold ccR; rw [if_neg he1]
        have HR' := Lib.hid hr
        clear hr HR
        go_wp2_with (refine wpList_store_mid (op := ⟨none, .store _ (.tmp 69) (.tmp 66), _, _, _, _⟩) rfl 109 _ _ rfl g 19 #[.int .i64 x, .int .i64 a, .int .i64 b, .int .i64 c, .int .i64 d, .int .i64 p, .int .i64 q, .int .i64 r, .int .i64 s] ?_ rfl hth tot_info (t9_one _ _ _ _ _ _ _ _ _) ?_; rfl)
        go_returns
        rw [HR'.out]
        exact CHOut.no HS5.out.low _
end Go.Proofs.YtoboecenlangmaaGreat.Pk
end
section
namespace Go.Proofs.YtoboecenlangmaaGreat.Pk
open Go.ChangeShapes Go.WideShapes Go.ChangeAt Go.RowKit
open Me Np No
set_option linter.unusedVariables false
set_option linter.unusedSimpArgs false

theorem run_bldC (W h v : Int) (w : World) : (bldN #[(0, .int .i64 5), (3, .int .i64 W), (4, .int .i64 h), (5, .int .i64 v)]).run Tryz.prog w = .ok (.agg (nc (cN W h v))) w := by
  rw [← bldN_eq]
  exact run_build w 101 #[(0, .int .i64 5), (3, .int .i64 W), (4, .int .i64 h), (5, .int .i64 v)] (nc (cN W h v)) (by kernel_rfl)
theorem blkHD {w : World} {g : Nat} {W h v : Int} (hb : Blk w g 101 (nc (cN W h v))) (h' v' : Int) : Blk ((w.setCell ⟨g, 4, none⟩ (.int .i64 h')).setCell ⟨g, 5, none⟩ (.int .i64 v')) g 101 (nc (cN W h' v')) :=
  Blk.set (Blk.set hb 4 (.int .i64 h')) 5 (.int .i64 v')
section
attribute [local go_sem ↓] bldN_eq
attribute [local go_sem ↓] ldN_eq
set_option maxHeartbeats 10000000 in
set_option maxRecDepth 100000 in
theorem rdown_main (A : Option Addr) (ns L : List Nd) (k : Nat) (tw most : Int) (ex top : Bool) (w : World) (hcap : ns.length ≤ k) (hseg : Seg w w.heap.size A (ns.flatMap ncs)) (hA : A = none → k = 0) (hc : chk ns = 0) (h1 : dimB tw = true) (h2 : dimB most = true) (hcb : colB ns (itsD ns) = true) (x a b c d p q r s e1 h v e2 e3 N D H Hf Df : Int) (M : Msr ns true x a b c d p q r s e1 h v e2) (MR : MsrR ns true x a b c d p q r s e1 h v e2) (he120 : e1 = 0 ∨ e1 = 20)
    (hN : N = if most < v then x - v + v - most else x - v) (hD : D = if most < v then most else v) (hH : H = if ex = true then tw else tw + N) (hHf : Hf = if top = true then firstV ns else H) (hDf : Df = if top = true then H + D - firstV ns else D)
    (hw : ∀ (A : Option Addr) (c' : Nat) (w : World), Seg w w.heap.size A (ns.flatMap ncs) → (A = none → c' = 0) → Calls Tryz.prog 99 #[.agg (nc (fitN (cN h Hf Df) (Gl.fit a b c d p q r s (H - N)))), .slice A ns.length c'] w fun e' w' => ∃ v, e' = .returned (.tuple #[v, .int .i64 e3]) ∧ w'.ownsRow w.heap.size 101 19 v L.length (L.flatMap ncs) ∧ Below w.heap.size w w') :
    Calls Tryz.prog 57 #[.slice A ns.length k, .int .i64 tw, .bool ex, .int .i64 most, .bool top] w (CHOut (ccR e1 e2 (dimB H && dimB N) (!top || dimB Df) e3 L (setV (fitN (cN h H D) (Gl.fit a b c d p q r s (H - N))) a p ((ns.length : Int) == 0) (H - N) (0, 0)).1 (setV (fitN (cN h H D) (Gl.fit a b c d p q r s (H - N))) a p ((ns.length : Int) == 0) (H - N) (0, 0)).2) w) := by
  have hl := (chk_run hc).1
  have HC := Lib.hid (rcheckl_any A ns k w (by omega) hseg)
  rw [hc] at HC
  have HDT := Lib.hid (fun w => rdimen_any tw w)
  have HDM := Lib.hid (fun w => rdimen_any most w)
  rw [h1] at HDT
  rw [h2] at HDM
  have htw : -1073741823 ≤ tw ∧ tw ≤ 1073741823 := by simpa [dimB] using h1
  have hmo : -1073741823 ≤ most ∧ most ≤ 1073741823 := by simpa [dimB] using h2
  have HCO := Lib.hid (fun w1 (h : Below w.heap.size w w1) => rcolumn_any A ns k w1 hc (Seg.belowW hseg h))
  rw [hcb] at HCO
  have HFI := Lib.hid (fun w1 (h : Below w.heap.size w w1) => rfirst_any A ns k w1 (by omega) (Seg.belowW hseg h))
  have HSG := Lib.hid hseg
  have HM := Lib.hid M
  have HMT := Lib.hid MR.tot
  have HME := Lib.hid MR.ext
  have HE20 := Lib.hid he120
  have HFB : -2147483648 ≤ firstV ns ∧ firstV ns ≤ 2147483648 := by
    unfold firstV
    split
    · rename_i y hy
      split
      · rename_i hk
        have := right_hd (chk_right hc y (List.mem_of_getElem? hy)) (by omega)
        unfold dm at this
        omega
      · omega
    · omega
  have HBX := Lib.hid (fun (w3 : World) (hb : Below w.heap.size w w3) (em : Bool) (hem : ((ns.length : Int) == 0) = em) e0 e1 e2 e4 e5 e6 e7 e8 e9 => rboxed_any (cN h Hf Df) A ns L k x a b c d p q r s (H - N) e3 em w3 hem hl (Seg.belowW hseg hb) hA hw e0 e1 e2 e4 e5 e6 e7 e8 e9)
  have HSE := Lib.hid (fun em => show setV (fitN (cN h Hf Df) (Gl.fit a b c d p q r s (H - N))) a p em (H - N) (0, 0) = setV (fitN (cN h H D) (Gl.fit a b c d p q r s (H - N))) a p em (H - N) (0, 0) from rfl)
  obtain ⟨R, hR⟩ : ∃ R, R = ccR e1 e2 (dimB H && dimB N) (!top || dimB Df) e3 L (setV (fitN (cN h H D) (Gl.fit a b c d p q r s (H - N))) a p ((ns.length : Int) == 0) (H - N) (0, 0)).1 (setV (fitN (cN h H D) (Gl.fit a b c d p q r s (H - N))) a p ((ns.length : Int) == 0) (H - N) (0, 0)).2 := ⟨_, rfl⟩
  rw [← hR]
  have HR := Lib.hid hR
  generalize hem : ((ns.length : Int) == 0) = em at *
  have HBX := Lib.hid (fun (w3 : World) (hb : Below w.heap.size w w3) (em' : Bool) (hem' : em = em') e0 e1 e2 e4 e5 e6 e7 e8 e9 => HBX.out w3 hb em' hem' e0 e1 e2 e4 e5 e6 e7 e8 e9)
  have HN := Lib.hid hN
  have HD := Lib.hid hD
  have HH := Lib.hid hH
  have HHF := Lib.hid hHf
  have HDF := Lib.hid hDf
  generalize hF : firstV ns = F at *
  clear hR hseg hA hc h1 h2 hcb M MR hw hN hD hH hHf hDf hF he120 hem
  generalize hlen : ns.length = len at *
  clear hlen
  have hbC := run_bldC
  go_enter Tryz.func57, Tryz.ntmps57
  go_wp2_with fail
  refine HC.out.mono ?_
  rintro e w1 ⟨rfl, hb1⟩
  have HB1 := Lib.hid hb1
  clear hb1
  go_wp2_with (first | (go_at_call 48; first | (refine (HDT.out _).mono ?_; rintro e w' ⟨rfl, rfl⟩) | (refine (HDM.out _).mono ?_; rintro e w' ⟨rfl, rfl⟩)) | (go_at_call 106; refine (HCO.out _ HB1.out).mono ?_; rintro e w2 ⟨rfl, hb2⟩; have HLW := Lib.hid (andThen HB1.out hb2); clear hb2))
  refine (HMT.out A k w2 hcap (Seg.belowW HSG.out HLW.out)).mono ?_
  rintro e w4 ⟨rfl, hb4⟩
  have HB4 := Lib.hid hb4
  clear hb4
  by_cases he1 : e1 = 0
  · have t1 : (e1 != 0) = false := by simp [he1]
    by_cases he2 : e2 = 0
    · have t2 : (e2 != 0) = false := by simp [he2]
      have hbx : -1073741823 ≤ x ∧ x ≤ 1073741823 := by simpa [dimB] using HM.out.nat he1
      have hbv : -1073741823 ≤ v ∧ v ≤ 1073741823 := by simpa [dimB] using (HM.out.hv he2).2
      obtain ⟨N0, hN0⟩ : ∃ N0, x - v = N0 := ⟨_, rfl⟩
      have hsub0 : IntKind.i64.wrap (x - v) = N0 := by rw [hN0]; exact IntWalk.i64_in _ (by omega)
      have hb0 : -2147483646 ≤ N0 ∧ N0 ≤ 2147483646 := by omega
      have HN0 := Lib.hid hN0
      clear hN0
      go_upto_if 69 with (first | (go_at_call 51; refine (HME.out A k _ hcap (Seg.belowW HSG.out (andThen HLW.out (andAlloc HB4.out _)))).mono ?_; rintro e w6 ⟨rfl, hb6⟩; have HT6 := Lib.hid (show Blk w6 w4.heap.size 109 #[.int .i64 x, .int .i64 a, .int .i64 b, .int .i64 c, .int .i64 d, .int .i64 p, .int .i64 q, .int .i64 r, .int .i64 s] from Blk.below (Blk.new w4 _ _) hb6 (Blk.lt (Blk.new w4 109 #[.int .i64 x, .int .i64 a, .int .i64 b, .int .i64 c, .int .i64 d, .int .i64 p, .int .i64 q, .int .i64 r, .int .i64 s]))); have ht0 : w6.cell? ⟨w4.heap.size, 0, none⟩ = some (.int .i64 x) := Blk.cell HT6.out 0; have HB6 := Lib.hid (andThen HLW.out (andThen (andAlloc HB4.out _) hb6)); clear hb6))
      go_cut [17, 19] (fun v17 v19 wx => v17 = .int .i64 D ∧ v19 = .int .i64 N ∧ wx = w6)
      case first =>
        by_cases hg : most < v
        · have hs1 : IntKind.i64.wrap (N0 + v) = x := by rw [← HN0.out, Int.sub_add_cancel]; exact IntWalk.i64_in _ (by omega)
          have hs2 : IntKind.i64.wrap (x - most) = N := by rw [HN.out, if_pos hg, Int.sub_add_cancel]; exact IntWalk.i64_in _ (by omega)
          have HG := Lib.hid hg
          go_wp2_with fail
          go_meet
          exact ⟨by rw [HD.out, if_pos HG.out], rfl, rfl⟩
        · have HG := Lib.hid hg
          have hng : v ≤ most := by omega
          go_wp2_with fail
          go_meet
          exact ⟨by rw [HD.out, if_neg (by have := HG.out; omega)], by rw [HN.out, if_neg (by have := HG.out; omega), HN0.out], rfl⟩
      case rest =>
        obtain ⟨rfl, rfl, rfl⟩ := hcut
        have hbN : -4294967292 ≤ N ∧ N ≤ 4294967292 := by
          have := HN.out
          split at this <;> omega
        have hbD : -1073741823 ≤ D ∧ D ≤ 1073741823 := by
          have := HD.out
          split at this <;> omega
        have hbH : -5368709115 ≤ H ∧ H ≤ 5368709115 := by
          have := HH.out
          split at this <;> omega
        go_upto_if 78 with fail
        go_cut [20] (fun v20 wx => v20 = .int .i64 H ∧ wx = wc)
        case first =>
          cases ex
          · have hsum : IntKind.i64.wrap (N + tw) = H := by rw [HH.out, if_neg (by decide), Int.add_comm]; exact IntWalk.i64_in _ (by omega)
            go_wp2_with fail
            go_meet
            exact ⟨rfl, rfl⟩
          · have hHt : H = tw := by rw [HH.out, if_pos rfl]
            have HHT := Lib.hid hHt
            clear hHt
            go_wp2_with fail
            go_meet
            exact ⟨by rw [HHT.out], rfl⟩
        case rest =>
          obtain ⟨rfl, rfl⟩ := hcut
          by_cases dH : dimB H = true
          · have HDH := Lib.hid dH
            by_cases dN : dimB N = true
            · have HDN := Lib.hid dN
              have hbH' : -1073741823 ≤ H ∧ H ≤ 1073741823 := by simpa [dimB] using dH
              have hbN' : -1073741823 ≤ N ∧ N ≤ 1073741823 := by simpa [dimB] using dN
              have hsub : IntKind.i64.wrap (H - N) = H - N := IntWalk.i64_in _ (by omega)
              have HNW := Lib.hid (show Gl.nearB (H - N) = true by unfold Gl.nearB; rw [decide_eq_true_eq]; omega)
              clear hbH hbN
              cases top
              · have hq1 : Hf = H := by rw [HHF.out]; rfl
                have hq2 : Df = D := by rw [HDF.out]; rfl
                rw [hq1, hq2] at HBX
                clear hq1 hq2
                go_upto_region 27 with (first | (go_at_call 48; refine (rdimen_any _ _).mono ?_; rintro e w' ⟨rfl, rfl⟩) | (refine wpList_load_node rfl _ rfl _ _ rfl _ (by repeat (first | apply NodeAt.row | (apply Blk.new'; first | rfl | (simp; done)) | (apply Blk.node; apply Blk.new'; first | rfl | (simp; done)) | assumption | apply NodeAt.alloc)) ?_) | (refine wpList_alloc_node rfl rfl ?_) | (refine wpList_store_node rfl _ _ rfl _ _ _ rfl rfl _ (by repeat (first | (apply Blk.new'; first | rfl | (simp; done)) | assumption | apply Blk.alloc)) ?_))
                clear dH dN
                have HNZ := Lib.hid (show NodeAt (wc.alloc (.cells (nc (cN h H D)) 101)) wc.heap.size 0 (cN h H D) from Blk.node (Blk.new' rfl))
                have HTZ := Lib.hid (show Blk (wc.alloc (.cells (nc (cN h H D)) 101)) w4.heap.size 109 #[.int .i64 x, .int .i64 a, .int .i64 b, .int .i64 c, .int .i64 d, .int .i64 p, .int .i64 q, .int .i64 r, .int .i64 s] from HT6.out.alloc _)
                have HBZ := Lib.hid (show Below w.heap.size w (wc.alloc (.cells (nc (cN h H D)) 101)) from andAlloc HB6.out _)
                generalize wc.alloc (.cells (nc (cN h H D)) 101) = wz at HNZ HTZ HBZ ⊢
                clear HT6 HB6 ht0
                generalize wc.heap.size = gN at HNZ ⊢
                generalize w4.heap.size = gT at HTZ ⊢
                have hld := run_ldN HNZ.out
                have ht0 : wz.cell? ⟨gT, 0, none⟩ = some (.int .i64 x) := Blk.cell HTZ.out 0
                have ht1 : wz.cell? ⟨gT, 1, none⟩ = some (.int .i64 a) := Blk.cell HTZ.out 1
                have ht2 : wz.cell? ⟨gT, 2, none⟩ = some (.int .i64 b) := Blk.cell HTZ.out 2
                have ht3 : wz.cell? ⟨gT, 3, none⟩ = some (.int .i64 c) := Blk.cell HTZ.out 3
                have ht4 : wz.cell? ⟨gT, 4, none⟩ = some (.int .i64 d) := Blk.cell HTZ.out 4
                have ht5 : wz.cell? ⟨gT, 5, none⟩ = some (.int .i64 p) := Blk.cell HTZ.out 5
                have ht6 : wz.cell? ⟨gT, 6, none⟩ = some (.int .i64 q) := Blk.cell HTZ.out 6
                have ht7 : wz.cell? ⟨gT, 7, none⟩ = some (.int .i64 r) := Blk.cell HTZ.out 7
                have ht8 : wz.cell? ⟨gT, 8, none⟩ = some (.int .i64 s) := Blk.cell HTZ.out 8
                by_cases he3 : e3 = 0
                · have hr : R = (L, (setV (fitN (cN h H D) (Gl.fit a b c d p q r s (H - N))) a p em (H - N) (0, 0)).1, (setV (fitN (cN h H D) (Gl.fit a b c d p q r s (H - N))) a p em (H - N) (0, 0)).2, 0) := by rw [HR.out]; unfold ccR; rw [if_pos he1, if_pos he2, if_pos (by rw [HDH.out, HDN.out]; rfl), if_pos (by simp), if_pos he3]
                  have HR' := Lib.hid hr
                  clear hr HR
                  go_wp2_with (first | (go_at_call 52; refine (HBX.out _ HBZ.out _ rfl HNW.out (HM.out.near he1).1 (HM.out.near he1).2.2.2.2.1 (HM.out.near he1).2.1 (HM.out.near he1).2.2.2.2.2.1 (HM.out.near he1).2.2.1 (HM.out.near he1).2.2.2.2.2.2.1 (HM.out.near he1).2.2.2.1 (HM.out.near he1).2.2.2.2.2.2.2).mono ?_; rintro e w7 hq; unfold BxO at hq; rw [if_pos he3] at hq; obtain ⟨vL, rfl, ho7, hb7⟩ := hq; have HO7 := Lib.hid (And.intro ho7 hb7); clear ho7 hb7))
                  go_returns
                  rw [HR'.out]
                  exact ⟨vL, rfl, own_base HO7.out.1 HBZ.out.size, andThen HBZ.out HO7.out.2⟩
                · have hr : R = ([], 0, 0, e3) := by rw [HR.out]; unfold ccR; rw [if_pos he1, if_pos he2, if_pos (by rw [HDH.out, HDN.out]; rfl), if_pos (by simp), if_neg he3]
                  have HR' := Lib.hid hr
                  clear hr HR
                  go_wp2_with (first | (go_at_call 52; refine (HBX.out _ HBZ.out _ rfl HNW.out (HM.out.near he1).1 (HM.out.near he1).2.2.2.2.1 (HM.out.near he1).2.1 (HM.out.near he1).2.2.2.2.2.1 (HM.out.near he1).2.2.1 (HM.out.near he1).2.2.2.2.2.2.1 (HM.out.near he1).2.2.2.1 (HM.out.near he1).2.2.2.2.2.2.2).mono ?_; rintro e w7 hq; unfold BxO at hq; rw [if_neg he3] at hq; obtain ⟨rfl, hb7⟩ := hq; have HB7 := Lib.hid hb7; clear hb7))
                  go_returns
                  rw [HR'.out]
                  exact CHOut.no (andThen HBZ.out HB7.out) _
              · have hq1 : Hf = F := by rw [HHF.out]; rfl
                have hq2 : Df = H + D - F := by rw [HDF.out]; rfl
                have HQ2 := Lib.hid hq2
                rw [hq1] at HBX
                clear hq1 hq2
                go_upto_region 23 with (first | (go_at_call 48; refine (rdimen_any _ _).mono ?_; rintro e w' ⟨rfl, rfl⟩) | (refine wpList_load_node rfl _ rfl _ _ rfl _ (by repeat (first | apply NodeAt.row | (apply Blk.new'; first | rfl | (simp; done)) | (apply Blk.node; apply Blk.new'; first | rfl | (simp; done)) | assumption | apply NodeAt.alloc)) ?_) | (refine wpList_alloc_node rfl rfl ?_) | (refine wpList_store_node rfl _ _ rfl _ _ _ rfl rfl _ (by repeat (first | (apply Blk.new'; first | rfl | (simp; done)) | assumption | apply Blk.alloc)) ?_))
                clear dH dN
                have HNB := Lib.hid (show Blk (wc.alloc (.cells (nc (cN h H D)) 101)) wc.heap.size 101 (nc (cN h H D)) from Blk.new' rfl)
                have HTY := Lib.hid (show Blk (wc.alloc (.cells (nc (cN h H D)) 101)) w4.heap.size 109 #[.int .i64 x, .int .i64 a, .int .i64 b, .int .i64 c, .int .i64 d, .int .i64 p, .int .i64 q, .int .i64 r, .int .i64 s] from HT6.out.alloc _)
                have HBY := Lib.hid (show Below w.heap.size w (wc.alloc (.cells (nc (cN h H D)) 101)) from andAlloc HB6.out _)
                have HGG := Lib.hid (show w4.heap.size < wc.heap.size ∧ w.heap.size ≤ wc.heap.size from ⟨HT6.out.lt, HB6.out.size⟩)
                generalize wc.alloc (.cells (nc (cN h H D)) 101) = wy at HNB HTY HBY ⊢
                clear HT6 HB6 ht0
                generalize wc.heap.size = gN at HNB HGG ⊢
                generalize w4.heap.size = gT at HTY HGG ⊢
                have y4 : wy.cell? ⟨gN, 4, none⟩ = some (.int .i64 H) := Blk.cell HNB.out 4
                have y5 : wy.cell? ⟨gN, 5, none⟩ = some (.int .i64 D) := Blk.cell HNB.out 5
                have f4 := Blk.free HNB.out 4
                have f5 := Blk.free HNB.out 5
                have hsu1 : IntKind.i64.wrap (H + D) = H + D := IntWalk.i64_in _ (by omega)
                have hsu2 : IntKind.i64.wrap (H + D - F) = Df := by rw [HQ2.out]; exact IntWalk.i64_in _ (by omega)
                go_upto_region 25 with (go_at_call 107; refine (HFI.out _ HBY.out).mono ?_; rintro e w' ⟨rfl, rfl⟩)
                have HNB2 := Lib.hid (blkHD HNB.out F Df)
                have HTZ := Lib.hid (show Blk ((wy.setCell ⟨gN, 4, none⟩ (.int .i64 F)).setCell ⟨gN, 5, none⟩ (.int .i64 Df)) gT 109 #[.int .i64 x, .int .i64 a, .int .i64 b, .int .i64 c, .int .i64 d, .int .i64 p, .int .i64 q, .int .i64 r, .int .i64 s] from (HTY.out.far (by have := HGG.out.1; simp only; omega) _).far (by have := HGG.out.1; simp only; omega) _)
                have HBZ := Lib.hid (show Below w.heap.size w ((wy.setCell ⟨gN, 4, none⟩ (.int .i64 F)).setCell ⟨gN, 5, none⟩ (.int .i64 Df)) from (HBY.out.setCell (by exact HGG.out.2) _).setCell (by exact HGG.out.2) _)
                generalize (wy.setCell ⟨gN, 4, none⟩ (.int .i64 F)).setCell ⟨gN, 5, none⟩ (.int .i64 Df) = wz at HNB2 HTZ HBZ ⊢
                clear y4 y5 f4 f5 hsu1 hsu2 HNB HTY HBY
                have y5 : wz.cell? ⟨gN, 5, none⟩ = some (.int .i64 Df) := Blk.cell HNB2.out 5
                have HNZ := Lib.hid (Blk.node HNB2.out)
                by_cases dD : dimB Df = true
                · have HDD := Lib.hid dD
                  go_upto_region 27 with (go_at_call 48; refine (rdimen_any _ _).mono ?_; rintro e w' ⟨rfl, rfl⟩)
                  clear dD y5
                  have hld := run_ldN HNZ.out
                  have ht0 : wz.cell? ⟨gT, 0, none⟩ = some (.int .i64 x) := Blk.cell HTZ.out 0
                  have ht1 : wz.cell? ⟨gT, 1, none⟩ = some (.int .i64 a) := Blk.cell HTZ.out 1
                  have ht2 : wz.cell? ⟨gT, 2, none⟩ = some (.int .i64 b) := Blk.cell HTZ.out 2
                  have ht3 : wz.cell? ⟨gT, 3, none⟩ = some (.int .i64 c) := Blk.cell HTZ.out 3
                  have ht4 : wz.cell? ⟨gT, 4, none⟩ = some (.int .i64 d) := Blk.cell HTZ.out 4
                  have ht5 : wz.cell? ⟨gT, 5, none⟩ = some (.int .i64 p) := Blk.cell HTZ.out 5
                  have ht6 : wz.cell? ⟨gT, 6, none⟩ = some (.int .i64 q) := Blk.cell HTZ.out 6
                  have ht7 : wz.cell? ⟨gT, 7, none⟩ = some (.int .i64 r) := Blk.cell HTZ.out 7
                  have ht8 : wz.cell? ⟨gT, 8, none⟩ = some (.int .i64 s) := Blk.cell HTZ.out 8
                  by_cases he3 : e3 = 0
                  · have hr : R = (L, (setV (fitN (cN h H D) (Gl.fit a b c d p q r s (H - N))) a p em (H - N) (0, 0)).1, (setV (fitN (cN h H D) (Gl.fit a b c d p q r s (H - N))) a p em (H - N) (0, 0)).2, 0) := by rw [HR.out]; unfold ccR; rw [if_pos he1, if_pos he2, if_pos (by rw [HDH.out, HDN.out]; rfl), if_pos (by rw [HDD.out]; rfl), if_pos he3]
                    have HR' := Lib.hid hr
                    clear hr HR
                    go_wp2_with (first | (go_at_call 52; refine (HBX.out _ HBZ.out _ rfl HNW.out (HM.out.near he1).1 (HM.out.near he1).2.2.2.2.1 (HM.out.near he1).2.1 (HM.out.near he1).2.2.2.2.2.1 (HM.out.near he1).2.2.1 (HM.out.near he1).2.2.2.2.2.2.1 (HM.out.near he1).2.2.2.1 (HM.out.near he1).2.2.2.2.2.2.2).mono ?_; rintro e w7 hq; unfold BxO at hq; rw [if_pos he3] at hq; obtain ⟨vL, rfl, ho7, hb7⟩ := hq; have HO7 := Lib.hid (And.intro ho7 hb7); clear ho7 hb7))
                    go_returns
                    rw [HR'.out]
                    exact ⟨vL, rfl, own_base HO7.out.1 HBZ.out.size, andThen HBZ.out HO7.out.2⟩
                  · have hr : R = ([], 0, 0, e3) := by rw [HR.out]; unfold ccR; rw [if_pos he1, if_pos he2, if_pos (by rw [HDH.out, HDN.out]; rfl), if_pos (by rw [HDD.out]; rfl), if_neg he3]
                    have HR' := Lib.hid hr
                    clear hr HR
                    go_wp2_with (first | (go_at_call 52; refine (HBX.out _ HBZ.out _ rfl HNW.out (HM.out.near he1).1 (HM.out.near he1).2.2.2.2.1 (HM.out.near he1).2.1 (HM.out.near he1).2.2.2.2.2.1 (HM.out.near he1).2.2.1 (HM.out.near he1).2.2.2.2.2.2.1 (HM.out.near he1).2.2.2.1 (HM.out.near he1).2.2.2.2.2.2.2).mono ?_; rintro e w7 hq; unfold BxO at hq; rw [if_neg he3] at hq; obtain ⟨rfl, hb7⟩ := hq; have HB7 := Lib.hid hb7; clear hb7))
                    go_returns
                    rw [HR'.out]
                    exact CHOut.no (andThen HBZ.out HB7.out) _
                · have hr : R = ([], 0, 0, 20) := by rw [HR.out]; unfold ccR; rw [if_pos he1, if_pos he2, if_pos (by rw [HDH.out, HDN.out]; rfl), if_neg (by simp [dD])]
                  have HR' := Lib.hid hr
                  clear hr HR
                  have dD' : dimB Df = false := by simpa using dD
                  clear dD
                  go_wp2_with (go_at_call 48; refine (rdimen_any _ _).mono ?_; rintro e w' ⟨rfl, rfl⟩)
                  go_returns
                  rw [HR'.out]
                  exact CHOut.no HBZ.out _
            · have hr : R = ([], 0, 0, 20) := by rw [HR.out]; unfold ccR; rw [if_pos he1, if_pos he2, if_neg (by simp [dN])]
              have HR' := Lib.hid hr
              clear hr HR
              have dN' : dimB N = false := by simpa using dN
              clear dN
              go_wp2_with (go_at_call 48; refine (rdimen_any _ _).mono ?_; rintro e w' ⟨rfl, rfl⟩)
              go_returns
              rw [HR'.out]
              exact CHOut.no HB6.out _
          · have hr : R = ([], 0, 0, 20) := by rw [HR.out]; unfold ccR; rw [if_pos he1, if_pos he2, if_neg (by simp [dH])]
            have HR' := Lib.hid hr
            clear hr HR
            have dH' : dimB H = false := by simpa using dH
            clear dH
            go_wp2_with (go_at_call 48; refine (rdimen_any _ _).mono ?_; rintro e w' ⟨rfl, rfl⟩)
            go_returns
            rw [HR'.out]
            exact CHOut.no HB6.out _
    · have t2 : (e2 != 0) = true := by simp [he2]
      have h20 : e2 = 20 := by rcases HM.out.err he1 with h | h; exact absurd h he2; exact h
      have hr : R = ([], 0, 0, 20) := by rw [HR.out]; unfold ccR; rw [if_pos he1, if_neg he2, h20]
      have HR' := Lib.hid hr
      clear hr HR h20
      go_wp2_with (first | (go_at_call 51; refine (HME.out A k _ hcap (Seg.belowW HSG.out (andThen HLW.out (andAlloc HB4.out _)))).mono ?_; rintro e w6 ⟨rfl, hb6⟩; have HT6 := Lib.hid (show Blk w6 w4.heap.size 109 #[.int .i64 x, .int .i64 a, .int .i64 b, .int .i64 c, .int .i64 d, .int .i64 p, .int .i64 q, .int .i64 r, .int .i64 s] from Blk.below (Blk.new w4 _ _) hb6 (Blk.lt (Blk.new w4 109 #[.int .i64 x, .int .i64 a, .int .i64 b, .int .i64 c, .int .i64 d, .int .i64 p, .int .i64 q, .int .i64 r, .int .i64 s]))); have ht0 : w6.cell? ⟨w4.heap.size, 0, none⟩ = some (.int .i64 x) := Blk.cell HT6.out 0; have HB6 := Lib.hid (andThen HLW.out (andThen (andAlloc HB4.out _) hb6)); clear hb6))
      go_returns
      rw [HR'.out]
      exact CHOut.no HB6.out _
  · have t1 : (e1 != 0) = true := by simp [he1]
    have h20 : e1 = 20 := by rcases HE20.out with h | h; exact absurd h he1; exact h
    have hr : R = ([], 0, 0, 20) := by rw [HR.out]; unfold ccR; rw [if_neg he1, h20]
    have HR' := Lib.hid hr
    clear hr HR h20
    go_wp2_with (first | (go_at_call 51; refine (HME.out A k _ hcap (Seg.belowW HSG.out (andThen HLW.out (andAlloc HB4.out _)))).mono ?_; rintro e w6 ⟨rfl, hb6⟩; have HT6 := Lib.hid (show Blk w6 w4.heap.size 109 #[.int .i64 x, .int .i64 a, .int .i64 b, .int .i64 c, .int .i64 d, .int .i64 p, .int .i64 q, .int .i64 r, .int .i64 s] from Blk.below (Blk.new w4 _ _) hb6 (Blk.lt (Blk.new w4 109 #[.int .i64 x, .int .i64 a, .int .i64 b, .int .i64 c, .int .i64 d, .int .i64 p, .int .i64 q, .int .i64 r, .int .i64 s]))); have ht0 : w6.cell? ⟨w4.heap.size, 0, none⟩ = some (.int .i64 x) := Blk.cell HT6.out 0; have HB6 := Lib.hid (andThen HLW.out (andThen (andAlloc HB4.out _) hb6)); clear hb6))
    go_returns
    rw [HR'.out]
    exact CHOut.no HB6.out _
end
end Go.Proofs.YtoboecenlangmaaGreat.Pk
end
section
namespace Go.Proofs.YtoboecenlangmaaGreat.No
open Go.ChangeShapes Go.WideShapes Go.ChangeAt Go.RowKit
open Me Np
set_option linter.unusedVariables false
set_option linter.unusedSimpArgs false

/-- Wrap. -/
def WrpP (n : Nd) (ns : List Nd) (L : List Nd) (e : Int) : Prop := (∀ (A : Option Addr) (c : Nat) (w : World), Src w A c ns →
    Calls Tryz.prog 88 #[.agg (nc n), .slice A ns.length c] w fun e' w' => ∃ v, e' = .returned (.tuple #[v, .int .i64 e]) ∧ w'.ownsRow w.heap.size 101 19 v L.length (L.flatMap ncs) ∧ Below w.heap.size w w') ∧
  (∀ (A : Option Addr) (c : Nat) (w : World), Seg w w.heap.size A (ns.flatMap ncs) → (A = none → c = 0) →
    Calls Tryz.prog 99 #[.agg (nc n), .slice A ns.length c] w fun e' w' => ∃ v, e' = .returned (.tuple #[v, .int .i64 e]) ∧ w'.ownsRow w.heap.size 101 19 v L.length (L.flatMap ncs) ∧ Below w.heap.size w w')
theorem wrp_case (n : Nd) (ns : List Nd) (hl : ns.length ≤ 879609302220) : ∃ L e, L.length ≤ 2002 ∧ WrpP n ns L e := by
  cases hr : right n
  · refine ⟨[], 1, by simp, fun A c w hs => (wrap_r n A ns c w hr).mono ?_, fun A c w hs hA => (rwrap_r n A ns c w hr).mono ?_⟩
    · rintro e w' ⟨rfl, hb⟩; exact ⟨_, rfl, World.ownsRow_nil _ _ _ _, hb⟩
    · rintro e w' ⟨rfl, hb⟩; exact ⟨_, rfl, World.ownsRow_nil _ _ _ _, hb⟩
  · cases ho : opensB n
    · refine ⟨[], 1, by simp, fun A c w hs => (wrap_o n A ns c w hr ho).mono ?_, fun A c w hs hA => (rwrap_o n A ns c w hr ho).mono ?_⟩
      · rintro e w' ⟨rfl, hb⟩; exact ⟨_, rfl, World.ownsRow_nil _ _ _ _, hb⟩
      · rintro e w' ⟨rfl, hb⟩; exact ⟨_, rfl, World.ownsRow_nil _ _ _ _, hb⟩
    · by_cases h10 : n.kind = 10
      · refine ⟨[], 1, by simp, fun A c w hs => (wrap_d n A ns c w hr ho h10).mono ?_, fun A c w hs hA => (rwrap_d n A ns c w hr ho h10).mono ?_⟩
        · rintro e w' ⟨rfl, hb⟩; exact ⟨_, rfl, World.ownsRow_nil _ _ _ _, hb⟩
        · rintro e w' ⟨rfl, hb⟩; exact ⟨_, rfl, World.ownsRow_nil _ _ _ _, hb⟩
      · by_cases hc : chk ns = 0
        · by_cases hw : chk (wrapL n ns) = 0
          · have h2 := (chk_run hw).1
            refine ⟨wrapL n ns, 0, by omega, fun A c w hs => (wrap_ok n A ns c w hs hr ho h10 hc hw).mono ?_, fun A c w hs hA => (rwrap_ok n A ns c w hs hA hr ho h10 hc hw).mono ?_⟩
            · rintro e w' ⟨v, rfl, h, hb⟩; exact ⟨v, rfl, h, hb⟩
            · rintro e w' ⟨v, rfl, h, hb⟩; exact ⟨v, rfl, h, hb⟩
          · refine ⟨[], chk (wrapL n ns), by simp, fun A c w hs => (wrap_w n A ns c w hs hr ho h10 hc hw).mono ?_, fun A c w hs hA => (rwrap_w n A ns c w hs hA hr ho h10 hc hw).mono ?_⟩
            · rintro e w' ⟨rfl, hb⟩; exact ⟨_, rfl, World.ownsRow_nil _ _ _ _, hb⟩
            · rintro e w' ⟨rfl, hb⟩; exact ⟨_, rfl, World.ownsRow_nil _ _ _ _, hb⟩
        · refine ⟨[], chk ns, by simp, fun A c w hs => (wrap_c n A ns c w (by omega) (Src.seg hs) hr ho h10 hc).mono ?_, fun A c w hs hA => (rwrap_c n A ns c w (by omega) hs hr ho h10 hc).mono ?_⟩
          · rintro e w' ⟨rfl, hb⟩; exact ⟨_, rfl, World.ownsRow_nil _ _ _ _, hb⟩
          · rintro e w' ⟨rfl, hb⟩; exact ⟨_, rfl, World.ownsRow_nil _ _ _ _, hb⟩
end Go.Proofs.YtoboecenlangmaaGreat.No
end
section
namespace Go.Proofs.YtoboecenlangmaaGreat.Pk
open Go.ChangeShapes Go.WideShapes Go.ChangeAt Go.RowKit
open Me Np No
set_option linter.unusedVariables false
set_option linter.unusedSimpArgs false

/-- What a list's measures are, where it is one. -/
theorem msr_good (l : List Nd) (down : Bool) (hc : chk l = 0) : ∃ x a b c d p q r s e1 h v e2, Msr l down x a b c d p q r s e1 h v e2 ∧ MsrR l down x a b c d p q r s e1 h v e2 ∧ (e1 = 0 ∨ e1 = 20) := by
  obtain ⟨xs, hx⟩ := its_of_chk hc
  have hT := totR_len l down xs
  have hB := totD_tb down hc hx
  obtain ⟨⟨x, st, sh⟩, hTe⟩ : ∃ T, totR l down xs = T := ⟨_, rfl⟩
  rw [hTe] at hT
  match st, sh, hT.1, hT.2 with
  | [a, b, c, d], [p, q, r, s], _, _ =>
  have ht := fun A k w h hs => totals_any A l k xs down w hc h hs hx
  have hr := fun A k w h hs => rtotals_good A l k xs down w hc h hs hx
  simp only [hTe] at ht hr
  obtain ⟨ext, hext⟩ : ∃ E, extD l down xs = E := ⟨_, rfl⟩
  have hu := fun A k w h hs => extent_good A l k xs down w hc h hs hx
  have hv := fun A k w h hs => rextent_good A l k xs down w hc h hs hx
  simp only [hext] at hu hv
  refine ⟨x, a, b, c, d, p, q, r, s, _, _, _, _, ⟨ht, hu, ?_, ?_, ?_, ?_⟩, ⟨hr, hv⟩, ?_⟩
  · intro h0
    have hd : dimB (totD l down xs).nat = true := by
      by_cases hd : dimB (totD l down xs).nat = true
      · exact hd
      · rw [if_neg hd] at h0; cases h0
    have : totR l down xs = totD l down xs := if_pos hd
    rw [hTe] at this
    rw [← this] at hd
    exact hd
  · intro h0
    have hd : dimB (totD l down xs).nat = true := by
      by_cases hd : dimB (totD l down xs).nat = true
      · exact hd
      · rw [if_neg hd] at h0; cases h0
    have he : totR l down xs = totD l down xs := if_pos hd
    rw [hTe] at he
    rw [← he] at hB
    exact ⟨near_of (hB.st 0), near_of (hB.st 1), near_of (hB.st 2), near_of (hB.st 3), near_of (hB.sh 0), near_of (hB.sh 1), near_of (hB.sh 2), near_of (hB.sh 3)⟩
  · intro _
    split
    · exact .inl rfl
    · exact .inr rfl
  · intro h0
    split at h0
    · rename_i h1
      rw [if_pos h1, if_pos h1]
      simp only [Bool.and_eq_true] at h1
      exact h1
    · cases h0
  · split
    · exact .inl rfl
    · exact .inr rfl
/-- What a column comes to, both. -/
def ColP (ns : List Nd) (tw : Int) (ex : Bool) (most : Int) (top : Bool) (R : List Nd × Int × Int × Int) : Prop :=
  (∀ (A : Option Addr) (k : Nat) (w : World), ns.length ≤ k → Src w A k ns → Calls Tryz.prog 56 #[.slice A ns.length k, .int .i64 tw, .bool ex, .int .i64 most, .bool top] w (CHOut R w)) ∧
  (∀ (A : Option Addr) (k : Nat) (w : World), ns.length ≤ k → Seg w w.heap.size A (ns.flatMap ncs) → (A = none → k = 0) → Calls Tryz.prog 57 #[.slice A ns.length k, .int .i64 tw, .bool ex, .int .i64 most, .bool top] w (CHOut R w))
theorem ccR_len (e1 e2 : Int) (d1 d2 : Bool) (e3 : Int) (L : List Nd) (y z : Int) (hL : L.length ≤ 2002) : (ccR e1 e2 d1 d2 e3 L y z).1.length ≤ 2002 := by
  unfold ccR
  split
  · split
    · split
      · split
        · split
          · exact hL
          · simp
        · simp
      · simp
    · simp
  · simp
theorem column_case (ns : List Nd) (tw : Int) (ex : Bool) (most : Int) (top : Bool) (hl : ns.length ≤ 879609302220) : ∃ R, R.1.length ≤ 2002 ∧ ColP ns tw ex most top R := by
  by_cases hc : chk ns = 0
  · cases hd : (dimB tw && dimB most)
    · exact ⟨([], 0, 0, 11), by simp, fun A k w hk hs => column_far A ns k tw most ex top w (by omega) hs.seg hc hd, fun A k w hk hs hA => rdown_far A ns k tw most ex top w (by omega) hs hc hd⟩
    · simp only [Bool.and_eq_true] at hd
      cases hb : colB ns (itsD ns)
      · exact ⟨([], 0, 0, 50), by simp, fun A k w hk hs => column_bar A ns k tw most ex top w hk hs.seg hc hd.1 hd.2 hb, fun A k w hk hs hA => rdown_bar A ns k tw most ex top w hs hc hd.1 hd.2 hb⟩
      · obtain ⟨x, a, b, c, d, p, q, r, s, e1, h, v, e2, M, MR, h20⟩ := msr_good ns true hc
        obtain ⟨N, hN⟩ : ∃ N, N = if most < v then x - v + v - most else x - v := ⟨_, rfl⟩
        obtain ⟨D, hD⟩ : ∃ D, D = if most < v then most else v := ⟨_, rfl⟩
        obtain ⟨H, hH⟩ : ∃ H, H = if ex = true then tw else tw + N := ⟨_, rfl⟩
        obtain ⟨Hf, hHf⟩ : ∃ Hf, Hf = if top = true then firstV ns else H := ⟨_, rfl⟩
        obtain ⟨Df, hDf⟩ : ∃ Df, Df = if top = true then H + D - firstV ns else D := ⟨_, rfl⟩
        obtain ⟨L, e3, hL, hP⟩ := wrp_case (fitN (cN h Hf Df) (Gl.fit a b c d p q r s (H - N))) ns hl
        exact ⟨_, ccR_len e1 e2 (dimB H && dimB N) (!top || dimB Df) e3 L _ _ hL, fun A k w hk hs => column_main A ns L k tw most ex top w hk hs hc hd.1 hd.2 hb x a b c d p q r s e1 h v e2 e3 N D H Hf Df M hN hD hH hHf hDf hP.1, fun A k w hk hs hA => rdown_main A ns L k tw most ex top w hk hs hA hc hd.1 hd.2 hb x a b c d p q r s e1 h v e2 e3 N D H Hf Df M MR h20 hN hD hH hHf hDf hP.2⟩
  · exact ⟨([], 0, 0, chk ns), by simp, fun A k w hk hs => column_err A ns k tw most ex top w (by omega) hs.seg hc, fun A k w hk hs hA => rdown_err A ns k tw most ex top w (by omega) hs hc⟩
/-- Vpack or Vtop, both. -/
def VpP (ns : List Nd) (tw : Int) (ex : Bool) (most : Int) (f r : FuncId) (R : List Nd × Int × Int × Int) : Prop :=
  (∀ (A : Option Addr) (k : Nat) (w : World), ns.length ≤ k → Src w A k ns → Calls Tryz.prog f #[.slice A ns.length k, .int .i64 tw, .bool ex, .int .i64 most] w (CHOut R w)) ∧
  (∀ (A : Option Addr) (k : Nat) (w : World), ns.length ≤ k → Seg w w.heap.size A (ns.flatMap ncs) → (A = none → k = 0) → Calls Tryz.prog r #[.slice A ns.length k, .int .i64 tw, .bool ex, .int .i64 most] w (CHOut R w))
theorem vpack_case (ns : List Nd) (tw : Int) (ex : Bool) (most : Int) (hl : ns.length ≤ 879609302220) : ∃ R, R.1.length ≤ 2002 ∧ VpP ns tw ex most 24 25 R := by
  obtain ⟨R, hR, h1, h2⟩ := column_case ns tw ex most false hl
  refine ⟨R, hR, fun A k w hk hs => ?_, fun A k w hk hs hA => ?_⟩
  · have H := Lib.hid (h1 A k w hk hs)
    clear h1 h2 hs
    generalize ns.length = len at *
    go_enter Tryz.func24, Tryz.ntmps24
    go_wp2_with fail
    refine H.out.mono ?_
    rintro e w1 ⟨v, rfl, ho, hb⟩
    have HO := Lib.hid (And.intro ho hb)
    clear ho hb
    go_wp2_with fail
    go_returns
    exact ⟨v, rfl, HO.out.1, HO.out.2⟩
  · have H := Lib.hid (h2 A k w hk hs hA)
    clear h1 h2 hs hA
    generalize ns.length = len at *
    go_enter Tryz.func25, Tryz.ntmps25
    go_wp2_with fail
    refine H.out.mono ?_
    rintro e w1 ⟨v, rfl, ho, hb⟩
    have HO := Lib.hid (And.intro ho hb)
    clear ho hb
    go_wp2_with fail
    go_returns
    exact ⟨v, rfl, HO.out.1, HO.out.2⟩
theorem vtop_case (ns : List Nd) (tw : Int) (ex : Bool) (most : Int) (hl : ns.length ≤ 879609302220) : ∃ R, R.1.length ≤ 2002 ∧ VpP ns tw ex most 26 27 R := by
  obtain ⟨R, hR, h1, h2⟩ := column_case ns tw ex most true hl
  refine ⟨R, hR, fun A k w hk hs => ?_, fun A k w hk hs hA => ?_⟩
  · have H := Lib.hid (h1 A k w hk hs)
    clear h1 h2 hs
    generalize ns.length = len at *
    go_enter Tryz.func26, Tryz.ntmps26
    go_wp2_with fail
    refine H.out.mono ?_
    rintro e w1 ⟨v, rfl, ho, hb⟩
    have HO := Lib.hid (And.intro ho hb)
    clear ho hb
    go_wp2_with fail
    go_returns
    exact ⟨v, rfl, HO.out.1, HO.out.2⟩
  · have H := Lib.hid (h2 A k w hk hs hA)
    clear h1 h2 hs hA
    generalize ns.length = len at *
    go_enter Tryz.func27, Tryz.ntmps27
    go_wp2_with fail
    refine H.out.mono ?_
    rintro e w1 ⟨v, rfl, ho, hb⟩
    have HO := Lib.hid (And.intro ho hb)
    clear ho hb
    go_wp2_with fail
    go_returns
    exact ⟨v, rfl, HO.out.1, HO.out.2⟩
end Go.Proofs.YtoboecenlangmaaGreat.Pk
end
section
namespace Go.Proofs.YtoboecenlangmaaGreat.Pk
open Go.ChangeShapes Go.WideShapes Go.ChangeAt Go.RowKit
open Me Np No
set_option linter.unusedVariables false
set_option linter.unusedSimpArgs false

def bitN : Nd := { nz 1 with char := 97, wd := 327680, ht := 262144 }
def gluN : Nd := { nz 7 with gn := 65536, gs := 131072, gh := 65536 }
def l3 : List Nd := [bitN, gluN, bitN]
theorem bit_right : right bitN = true := right_s bitN 1 rfl rfl rfl rfl
theorem glu_right : right gluN = true := right_s gluN 7 rfl rfl rfl rfl
theorem end_right : right (nz 6) = true := right_s (nz 6) 6 rfl rfl rfl rfl
theorem l3_chk : chk l3 = 0 := by
  have h : Np.run l3 ([], 0) = some ([], 1) := by
    simp only [l3, Np.run, stp, bit_right, glu_right]
    rfl
  unfold chk
  rw [h]
  rfl
theorem l3_its : Its [0, 1, 2] l3 0 := ⟨rfl, 1, rfl, rfl, 1, rfl, rfl, 1, rfl, rfl⟩
theorem l3_part : partD l3 = (l3, []) := by
  unfold partD
  rw [itsD_of l3_its]
  rfl
theorem l3_al : alD l3 false 0 = 327680 ∧ alD l3 false 1 = 65536 ∧ alD l3 false 2 = 327680 :=
  ⟨alD_of ⟨bitN, rfl, rfl⟩, alD_of ⟨gluN, rfl, rfl⟩, alD_of ⟨bitN, rfl, rfl⟩⟩
theorem l3_tot : totD l3 false [0, 1, 2] = ⟨720896, [131072, 0, 0, 0], [65536, 0, 0, 0]⟩ := by
  have h : ∀ al : Nat → Int, al 0 = 327680 → al 1 = 65536 → al 2 = 327680 → tsum l3 al [0, 1, 2] tz = ⟨720896, [131072, 0, 0, 0], [65536, 0, 0, 0]⟩ := by
    intro al h0 h1 h2
    simp only [tsum, h0, h1, h2]
    rfl
  exact h _ l3_al.1 l3_al.2.1 l3_al.2.2
theorem l3_ext : extD l3 false [0, 1, 2] = (262144, 0) := by
  have h0 : roD l3 0 = (262144, 0) := roD_of ⟨bitN, rfl, rfl⟩
  have h1 : roD l3 1 = (0, 0) := roD_of ⟨gluN, rfl, rfl⟩
  have h2 : roD l3 2 = (262144, 0) := roD_of ⟨bitN, rfl, rfl⟩
  have h : ∀ ra : Nat → Int × Int, ra 0 = (262144, 0) → ra 1 = (0, 0) → ra 2 = (262144, 0) → rfold ra [0, 1, 2] (0, 0) = (262144, 0) := by
    intro ra h0 h1 h2
    simp only [rfold, h0, h1, h2]
    rfl
  exact h _ h0 h1 h2
theorem l3_msr : Msr l3 false 720896 131072 0 0 0 65536 0 0 0 0 262144 0 0 := by
  have ht := fun A k w h hs => totals_any A l3 k [0, 1, 2] false w l3_chk h hs l3_its
  have hR : totR l3 false [0, 1, 2] = ⟨720896, [131072, 0, 0, 0], [65536, 0, 0, 0]⟩ := by
    unfold totR
    rw [l3_tot]
    rfl
  have hu := fun A k w h hs => extent_good A l3 k [0, 1, 2] false w l3_chk h hs l3_its
  simp only [hR, l3_tot] at ht
  simp only [l3_ext] at hu
  exact ⟨ht, hu, fun _ => rfl, fun _ => ⟨rfl, rfl, rfl, rfl, rfl, rfl, rfl, rfl⟩, fun _ => .inl rfl, fun _ => ⟨rfl, rfl⟩⟩
/-- The box around them. -/
def boxN : Nd := fitN (hN 851968 262144 0) (1, 0, 131072, 131072)
theorem box_right : right boxN = true := right_s boxN 4 rfl rfl rfl rfl
theorem box_chk : chk (wrapL boxN l3) = 0 := by
  have h : Np.run (wrapL boxN l3) ([], 0) = some ([], 2) := by
    simp only [wrapL, l3, List.cons_append, List.nil_append, Np.run, stp, bit_right, glu_right, box_right, end_right]
    rfl
  unfold chk
  rw [h]
  rfl
theorem live_hpack (A : Option Addr) (k : Nat) (w : World) (hk : 3 ≤ k) (hs : Seg w w.heap.size A (l3.flatMap ncs)) : Calls Tryz.prog 16 #[.slice A 3 k, .int .i64 851968, .bool true] w (HOut (wrapL boxN l3, [], 100, 0, 0) w) := by
  have h := hpack_t A l3 l3 [] (wrapL boxN l3) k 851968 w l3_chk hk hs rfl l3_part 720896 131072 0 0 0 65536 0 0 0 0 262144 0 0 0 851968 l3_msr rfl (fun A c' w hs => (wrap_ok boxN A l3 c' w hs box_right rfl (by decide) l3_chk box_chk).mono (by rintro e w' ⟨v, rfl, h, hb⟩; exact ⟨v, rfl, h, hb⟩))
  have e : hpkR 0 0 (dimB 851968) 0 (wrapL boxN l3) [] (setV (fitN (hN 851968 262144 0) (Gl.fit 131072 0 0 0 65536 0 0 0 (851968 - 720896))) 131072 65536 ((l3.length : Int) == 0) (851968 - 720896) (0, 0)).1 (setV (fitN (hN 851968 262144 0) (Gl.fit 131072 0 0 0 65536 0 0 0 (851968 - 720896))) 131072 65536 ((l3.length : Int) == 0) (851968 - 720896) (0, 0)).2 = (wrapL boxN l3, [], 100, 0, 0) := by kernel_rfl
  rw [e] at h
  exact h
theorem live_sizes : Gl.szE [gOf gluN] 1 0 131072 131072 = 0 ∧ Gl.szL [gOf gluN] 1 0 131072 131072 = [196608] := by
  have hr : Gl.rowE [gOf gluN] = 0 := by decide
  have ha : Gl.argOk 1 0 = true := by decide
  have hg : Gl.rngOk 1 131072 131072 = true := by decide
  have hz : Gl.run 1 0 131072 131072 [gOf gluN] = some ⟨131072, 131072, [196608]⟩ := by kernel_rfl
  exact Gl.szE_some hr ha hg hz
theorem live_places (A : Option Addr) (k : Nat) (w : World) (hk : 5 ≤ k) (hs : Seg w w.heap.size A ((wrapL boxN l3).flatMap ncs)) : Calls Tryz.prog 55 #[.slice A 5 k, .int .i64 0] w (PlOut [0, 327680, 524288] 0 w) := by
  obtain ⟨f, hf, hv, hz⟩ := size_case l3 false l3_chk
  have f0 : f 0 = 327680 := hv 0 bitN rfl (.inr (by decide))
  have f2 : f 2 = 327680 := hv 2 bitN rfl (.inr (by decide))
  have hin : innerL (wrapL boxN l3) 0 5 = l3 := rfl
  have hI := inside_ok A (wrapL boxN l3) k 0 5 boxN w hk hs box_chk rfl rfl rfl rfl
  rw [hin] at hI
  have h := places_ok A (wrapL boxN l3) l3 k 0 boxN [0, 1, 2] f w hk (by decide) hs rfl (.inl rfl) hI l3_chk l3_its hf hz
  have e : plcR boxN l3 f [0, 1, 2] = ([0, 327680, 524288], 0) := by
    unfold plcR
    have hg : skF l3 [0, 1, 2] [] = [gOf gluN] := rfl
    rw [hg]
    have h1 : Gl.szE [gOf gluN] boxN.sign boxN.order boxN.num boxN.den = 0 := live_sizes.1
    have h2 : Gl.szL [gOf gluN] boxN.sign boxN.order boxN.num boxN.den = [196608] := live_sizes.2
    rw [h1, h2, if_pos rfl]
    have h3 : ∀ f : Nat → Int, f 0 = 327680 → f 2 = 327680 → (plF l3 f [0, 1, 2] ⟨0, [196608], []⟩).out = [0, 327680, 524288] := by
      intro f h0 h2
      show [(0 : Int), 0 + f 0, 0 + f 0 + 196608] = _
      rw [h0]
      rfl
    rw [h3 f f0 f2]
  rw [e] at h
  exact h
end Go.Proofs.YtoboecenlangmaaGreat.Pk
end
section
namespace Go.Proofs.YtoboecenlangmaaGreat.Pk
open Go.ChangeShapes Go.WideShapes Go.ChangeAt Go.RowKit
open Me Np No
set_option linter.unusedVariables false
set_option linter.unusedSimpArgs false

theorem num6_any (x : Int) (w : World) : Calls Tryz.prog 19 #[.int .i64 x] w fun e w' => e = .returned (.int .i64 x) ∧ w = w' := by
  go_enter Tryz.func19, Tryz.ntmps19
  go_wp2
  go_ret
  exact ⟨rfl, rfl⟩
section
attribute [local go_sem ↓] bldN_eq
set_option maxRecDepth 100000 in
theorem bit_any (w : World) : Calls Tryz.prog 53 #[] w fun e w' => e = .returned (.agg (nc bitN)) ∧ Below w.heap.size w w' := by
  have hbn : ∀ w, (bldN #[(0, .int .i64 1), (2, .int .u8 97), (3, .int .i64 327680), (4, .int .i64 262144)]).run Tryz.prog w = .ok (.agg (nc bitN)) w := fun w => by rw [← bldN_eq]; exact run_build w 101 _ _ (by kernel_rfl)
  go_enter Tryz.func53, Tryz.ntmps53
  go_wp2_with (first | (refine wpList_alloc_node rfl rfl ?_) | (refine wpList_store_node rfl _ _ rfl _ _ _ rfl rfl _ (by repeat (first | (apply Blk.new'; first | rfl | (simp; done)) | assumption | apply Blk.alloc)) ?_))
  exact bodyPost_ret (v := .agg (nc bitN)) (results_node rfl _ _ _ _ rfl (by repeat (first | apply NodeAt.row | (apply Blk.new'; first | rfl | (simp; done)) | (apply Blk.node; apply Blk.new'; first | rfl | (simp; done)) | assumption | apply NodeAt.alloc))) rfl ⟨rfl, (by repeat (first | (refine below_setRow ?_ _ _ ?_; rotate_left; focus (simp; done)) | exact Below.refl _ _ | refine andAlloc ?_ _))⟩
set_option maxRecDepth 100000 in
theorem glu_any (w : World) : Calls Tryz.prog 54 #[] w fun e w' => e = .returned (.agg (nc gluN)) ∧ Below w.heap.size w w' := by
  have hbn : ∀ w, (bldN #[(0, .int .i64 7), (7, .agg #[.int .i64 65536, .int .i64 131072, .int .i64 65536, .int .i64 0, .int .i64 0])]).run Tryz.prog w = .ok (.agg (nc gluN)) w := fun w => by rw [← bldN_eq]; exact run_build w 101 _ _ (by kernel_rfl)
  go_enter Tryz.func54, Tryz.ntmps54
  go_wp2_with (first | (refine wpList_alloc_node rfl rfl ?_) | (refine wpList_build_eq (o := ⟨some 1, _, _, _, _, _⟩) rfl _ _ rfl #[.int .i64 65536, .int .i64 131072, .int .i64 65536, .int .i64 0, .int .i64 0] (by kernel_rfl) ?_) | (refine wpList_build_eq (o := ⟨some 2, _, _, _, _, _⟩) rfl _ _ rfl (nc gluN) (by kernel_rfl) ?_) | (refine wpList_store_node rfl _ _ rfl _ _ _ rfl rfl _ (by repeat (first | (apply Blk.new'; first | rfl | (simp; done)) | assumption | apply Blk.alloc)) ?_))
  exact bodyPost_ret (v := .agg (nc gluN)) (results_node rfl _ _ _ _ rfl (by repeat (first | apply NodeAt.row | (apply Blk.new'; first | rfl | (simp; done)) | (apply Blk.node; apply Blk.new'; first | rfl | (simp; done)) | assumption | apply NodeAt.alloc))) rfl ⟨rfl, (by repeat (first | (refine below_setRow ?_ _ _ ?_; rotate_left; focus (simp; done)) | exact Below.refl _ _ | refine andAlloc ?_ _))⟩
end
theorem l3_seg {w : World} {g : Nat} (hg : g = w.heap.size) : Seg (w.alloc (.cells (l3.flatMap ncs).toArray 101)) (w.alloc (.cells (l3.flatMap ncs).toArray 101)).heap.size (some ⟨g, 0, none⟩) (l3.flatMap ncs) := by
  subst hg
  refine .inr ⟨w.heap.size, 0, rfl, by simp, fun j u hu => ?_⟩
  rw [Nat.zero_add, (Blk.new w _ _).cell j]
  simpa using hu
theorem blk_seg {w : World} {g B : Nat} {t : TypeId} {cs : Array Value} {xs : List Value} (h : Blk w g t cs) (hB : g < B) (hx : cs.toList = xs) : Seg w B (some ⟨g, 0, none⟩) xs :=
  .inr ⟨g, 0, rfl, hB, fun j u hu => by rw [Nat.zero_add, h.cell j]; rw [← hx] at hu; simpa using hu⟩
set_option maxRecDepth 100000 in
theorem live_any (w : World) : Calls Tryz.prog 23 #[] w fun e w' => e = .returned (.bool true) ∧ Below w.heap.size w w' := by
  go_enter Tryz.func23, Tryz.ntmps23
  go_wp2_with fail
  refine (bit_any _).mono ?_
  rintro e w1 ⟨rfl, hb1⟩
  go_wp2_with fail
  refine (glu_any _).mono ?_
  rintro e w2 ⟨rfl, hb2⟩
  go_wp2_with fail
  refine (bit_any _).mono ?_
  rintro e w3 ⟨rfl, hb3⟩
  have hl3 : Below w.heap.size w w3 := andThen (andThen hb1 hb2) hb3
  clear hb1 hb2 hb3
  go_wp2_with (first | (refine wpList_ex (o := ⟨some 12, _, _, _, _, _⟩) (v := .slice (some ⟨w3.heap.size, 0, none⟩) 3 3) (w' := w3.alloc (.cells (l3.flatMap ncs).toArray 101)) rfl (by kernel_rfl) ?_))
  refine (live_hpack (some ⟨w3.heap.size, 0, none⟩) 3 _ (by omega) (l3_seg rfl)).mono ?_
  rintro e w4 ⟨va, vb, rfl, ho, hb4⟩
  have HL4 := Lib.hid (andThen (andAlloc hl3 (.cells (l3.flatMap ncs).toArray 101)) hb4)
  obtain ⟨Aa, ca, e0, hca, _, hsa⟩ := Seg.of_own ho.one
  simp only at e0
  subst e0
  clear hb4 hl3 ho
  simp only
  go_wp2_with fail
  refine (live_places Aa ca w4 hca hsa).mono ?_
  rintro e w5 ⟨v5, rfl, ho5, hb5⟩
  obtain ⟨A5, c5, e5, hc5, _, hs5⟩ := Seg.of_own ho5
  subst e5
  have HL5 := Lib.hid (andThen HL4.out hb5)
  clear hb5 ho5 hsa
  go_wp2_with (go_at_call 19; refine (num6_any _ _).mono ?_; rintro e w' ⟨rfl, rfl⟩)
  have hb6 : Below w5.heap.size w5 (w5.alloc (.cells #[.int .i64 0, .int .i64 327680, .int .i64 524288] 3)) := andAlloc (Below.refl _ _) _
  refine (Si.same_ints A5 (some ⟨w5.heap.size, 0, none⟩) [0, 327680, 524288] [0, 327680, 524288] c5 3 _ (by decide) (by decide) (Seg.belowW hs5 hb6) (blk_seg (Blk.new' rfl) (by simp) rfl)).mono ?_
  rintro e w6 ⟨rfl, hb7⟩
  go_wp2_with fail
  go_ret
  exact ⟨rfl, andThen (andThen HL5.out hb6) hb7⟩
end Go.Proofs.YtoboecenlangmaaGreat.Pk
end
section
namespace Go.Proofs.YtoboecenlangmaaGreat.Me
open Go.RowKit
set_option linter.unusedVariables false

theorem grown_new (w : World) (o : Obj) : w.grownBy (w.drew.alloc o) none :=
  ⟨rfl, rfl, rfl, by simp, fun k hk _ => Below.heap_alloc w.drew o k hk⟩
theorem run_push_where {P : Program} {w : World} (base : Nat) (t ty e : TypeId) (i : TypeInfo) (z : Value) (ht : P.underlying t = some (.slice e)) (hi : P.info? e = some i) (hz : i.zero = some z)
    (v : Value) (n : Nat) (xs : List Value) (hown : w.ownsRow base e i.size v n xs) (a : Addr) (c : Nat) (news : List Value) (hl : news.length = 1 * i.size) (hnews : ∀ j u, news[j]? = some u → w.cell? (a.add j) = some u) (h1 : ∀ u ∈ news, u.oneCell' = true)
    (hn : n + 1 ≤ 140737488355328) (hbytes : (n + 1) * i.bytes ≤ 140737488355328) :
    ∃ v' w', (Builtin.append_ #[t, t] ty #[v, .slice (some a) 1 c]).run P w = .ok v' w' ∧ (v'.ownBlock = v.ownBlock ∨ (∃ q, v'.ownBlock = some q ∧ w.heap.size ≤ q) ∧ w.grownBy w' none) := by
  rcases hown.2 with ⟨rfl, rfl⟩ | ⟨g, cap, cur, rfl, hbg, hg, hnc, hcm, hcs, htake⟩
  · exact ⟨_, _, run_append_nil (P := P) w t ty e i z ht hi hz a 1 c news hl hnews (by omega) (by omega) (by omega), .inr ⟨⟨_, rfl, Nat.le_refl _⟩, grown_new w _⟩⟩
  · by_cases hroom : n + 1 ≤ cap
    · have hfit : n * i.size + news.length ≤ cur.size := by rw [hl, hcs, ← Nat.add_mul]; exact Nat.mul_le_mul_right _ hroom
      exact ⟨_, _, run_append_room (P := P) w t ty e i ht hi g n cap cur hg a 1 c news hl hnews h1 hroom hfit, .inl rfl⟩
    · have holds : ∀ j u, xs[j]? = some u → w.cell? ((⟨g, 0, none⟩ : Addr).add j) = some u := hown.cells (g := g) rfl
      exact ⟨_, _, run_append_grow (P := P) w t ty e i z ht hi hz ⟨g, 0, none⟩ n cap xs hown.1 holds a 1 c news hl hnews (by omega) (by omega) (growslice_fits (by omega) (by omega)), .inr ⟨⟨_, rfl, Nat.le_refl _⟩, grown_new w _⟩⟩
theorem wpList_push_at {P : Program} {ops : Array Oper} {rest : List Oper} {o : Oper} {a : Act} {Q : Exit → Act → World → Prop} {w : World} (hgd : o.guard = none) (s x : Operand) (t : TypeId)
    (ho : o.op = .call { callee := .builtin .append, args := #[s, x], argTypes := #[t, t] }) (base : Nat) (e : TypeId) (z : Value) (size bytes : Nat) (ht : P.underlying t = some (.slice e))
    (hinfo : (P.info? e).map (fun i => (i.zero, i.size, i.bytes)) = some (some z, size, bytes)) (hzs : z.cells.size = size) (hsz : 0 < size) (hby : 0 < bytes)
    (v : Value) (n : Nat) (xs : List Value) (hs : a.eval s = v) (hown : w.ownsRow base e size v n xs) (hbase : base ≤ w.heap.size)
    (cs : Array Value) (hc : cs.size = size) (h1 : cs.toList.all (fun u => u.oneCell') = true) {g : Nat} (hx : a.eval x = .slice (some ⟨g, 0, none⟩) 1 1) (hg : g = w.heap.size) (hlen : (n + 1) * bytes ≤ 140737488355328)
    (h : ∀ v' w', w'.ownsRow base e size v' (n + 1) (xs ++ cs.toList) → (w.alloc (.cells cs e)).grownBy w' v.ownBlock → (v'.ownBlock = v.ownBlock ∨ (∃ q, v'.ownBlock = some q ∧ w.heap.size ≤ q) ∧ (w.alloc (.cells cs e)).grownBy w' none) → wpList P ops Q rest (a.put o.dst v') w') :
    wpList P ops Q (o :: rest) a (w.alloc (.cells cs e)) :=
  wpList_plain hgd fun K hK => by
    subst hg
    obtain ⟨i, hi, hz, hsi, hbi⟩ := info_parts hinfo
    subst hsi hbi
    have hn : n + 1 ≤ 140737488355328 := Nat.le_trans (Nat.le_mul_of_pos_right _ hby) hlen
    have hnews : ∀ j u, cs.toList[j]? = some u → (w.alloc (.cells cs e)).cell? ((⟨w.heap.size, 0, none⟩ : Addr).add j) = some u := by
      intro j u hu
      have hcell : (w.alloc (.cells cs e)).cell? ⟨w.heap.size, j, none⟩ = some u := by
        rw [(Blk.new w e cs).cell j]
        simpa using hu
      unfold Addr.add
      split
      · rename_i hj; subst hj; exact hcell
      · simpa using hcell
    have h1' : ∀ u ∈ cs.toList, u.oneCell' = true := fun u hu => List.all_eq_true.1 h1 u hu
    obtain ⟨v', w', hr, h2, h3, _⟩ := run_append_own (P := P) (w := w.alloc (.cells cs e)) base t o.type e i z i.size i.bytes ht hi hz rfl rfl hzs hsz v n xs (hown.alloc _) ⟨w.heap.size, 0, none⟩ 1 1 cs.toList (by simp [hc]) hnews h1' (by unfold maxLen; omega) hlen (by simp; omega)
    obtain ⟨v2, w2, hr2, h4⟩ := run_push_where (P := P) (w := w.alloc (.cells cs e)) base t o.type e i z ht hi hz v n xs (hown.alloc _) ⟨w.heap.size, 0, none⟩ 1 cs.toList (by simp [hc]) hnews h1' hn hlen
    rw [hr] at hr2
    injection hr2 with e1 e2
    subst e1
    subst e2
    unfold Oper.wp execOp
    simp only [ho, resolve, invoke, builtin, Sem.run_bind, Sem.run_pure, Result.andThen_ok, List.map_toArray, List.map_cons, List.map_nil, hs, hx, hr]
    refine hK _ _ (h v' w' h2 h3 ?_)
    rcases h4 with h4 | ⟨⟨q, h4, h5⟩, h6⟩
    · exact .inl h4
    · exact .inr ⟨⟨q, h4, by simp at h5; omega⟩, h6⟩
end Go.Proofs.YtoboecenlangmaaGreat.Me
end
section
namespace Go.Proofs.YtoboecenlangmaaGreat.No
open Go.ChangeShapes Go.WideShapes Go.ChangeAt Go.RowKit
open Me Np
set_option linter.unusedVariables false
set_option linter.unusedSimpArgs false

theorem grown_refl (w : World) (r : Option Nat) : w.grownBy w r := ⟨rfl, rfl, rfl, Nat.le_refl _, fun _ _ _ => rfl⟩
theorem grown_trans {w a b : World} {r : Option Nat} (h : w.grownBy a r) (k : a.grownBy b r) : w.grownBy b r :=
  ⟨k.os.trans h.os, k.tape.trans h.tape, k.output.trans h.output, Nat.le_trans h.size k.size, fun q hq hne => (k.block q (by have := h.size; omega) hne).trans (h.block q hq hne)⟩
theorem grown_set (w : World) (g j : Nat) (u : Value) : w.grownBy (w.setCell ⟨g, j, none⟩ u) (some g) := ⟨rfl, rfl, rfl, by simp, fun k _ hk => heap_setCell_other w ⟨g, j, none⟩ k u (fun e => hk (by simp [e]))⟩
theorem grown_cells (g : Nat) : ∀ (vs : List Value) (o : Nat) (w : World), w.grownBy (w.setCells g o vs) (some g)
  | [], _, w => grown_refl w _
  | v :: r, o, w => grown_trans (grown_set w g o v) (grown_cells g r (o + 1) _)
/-- A list, written over from a place on. -/
def over : List Value → Nat → List Value → List Value
  | xs, _, [] => xs
  | xs, o, v :: r => over (xs.set o v) (o + 1) r
theorem over_length : ∀ (vs : List Value) (xs : List Value) (o : Nat), (over xs o vs).length = xs.length
  | [], _, _ => rfl
  | v :: r, xs, o => by rw [over, over_length r, List.length_set]
theorem over_out : ∀ (vs : List Value) (xs : List Value) (o i : Nat), i < o ∨ o + vs.length ≤ i → (over xs o vs)[i]? = xs[i]?
  | [], _, _, _, _ => rfl
  | v :: r, xs, o, i, h => by
    simp only [List.length_cons] at h
    rw [over, over_out r _ _ _ (by omega), List.getElem?_set_ne (by omega)]
theorem over_in : ∀ (vs : List Value) (xs : List Value) (o i : Nat), o + vs.length ≤ xs.length → i < vs.length → (over xs o vs)[o + i]? = vs[i]?
  | [], _, _, _, _, h => by simp at h
  | v :: r, xs, o, 0, h, _ => by
    simp only [List.length_cons] at h
    show (over (xs.set o v) (o + 1) r)[o]? = some v
    rw [ over_out r (xs.set o v) (o + 1) o (by omega), List.getElem?_set_self (by omega)]
  | v :: r, xs, o, i + 1, h, hi => by
    simp only [List.length_cons] at h hi
    rw [over, show o + (i + 1) = o + 1 + i by omega, over_in r _ _ _ (by rw [List.length_set]; omega) (by omega)]
    rfl
theorem over_node (l : List Nd) (k : Nat) (x : Nd) (hk : k < l.length) : over (l.flatMap ncs) (k * 19) (ncs x) = (l.set k x).flatMap ncs := by
  apply List.ext_getElem?
  intro i
  have h1 := flat_length ncs_length l
  have h2 := flat_length ncs_length (l.set k x)
  rw [List.length_set] at h2
  have hx : (ncs x).length = 19 := ncs_length x
  rcases Nat.lt_or_ge i (l.length * 19) with hi | hi
  · obtain ⟨r, q, hr, hq, rfl⟩ : ∃ r q, r < l.length ∧ q < 19 ∧ i = r * 19 + q := ⟨i / 19, i % 19, by omega, by omega, by omega⟩
    obtain ⟨y, hy⟩ : ∃ y, l[r]? = some y := ⟨l[r], List.getElem?_eq_getElem hr⟩
    by_cases hrk : r = k
    · subst hrk
      rw [over_in _ _ _ _ (by rw [h1, hx]; omega) (by rw [hx]; exact hq)]
      exact (flat_get ncs_length _ r x q (by rw [List.getElem?_set_self hr]) hq).symm
    · rw [over_out _ _ _ _ (by rw [hx]; omega), flat_get ncs_length _ r y q hy hq, flat_get ncs_length _ r y q (by rw [List.getElem?_set_ne (by omega)]; exact hy) hq]
  · rw [List.getElem?_eq_none (by rw [over_length]; omega), List.getElem?_eq_none (by omega)]
theorem own_overs {base : Nat} {e : TypeId} {size g n cap : Nat} : ∀ (vs : List Value) (o : Nat) (w : World) (xs : List Value), w.ownsRow base e size (.slice (some ⟨g, 0, none⟩) n cap) n xs → (w.setCells g o vs).ownsRow base e size (.slice (some ⟨g, 0, none⟩) n cap) n (over xs o vs)
  | [], _, _, _, h => h
  | v :: r, o, w, xs, h => own_overs r (o + 1) _ _ (h.stored o v).1
/-- A node is stored in a row of one's own. -/
theorem own_node {w : World} {base g n cap : Nat} {l : List Nd} (h : w.ownsRow base 101 19 (.slice (some ⟨g, 0, none⟩) n cap) n (l.flatMap ncs)) (k : Nat) (hk : k < l.length) (x : Nd) :
    (w.setCells g (k * 19) (ncs x)).ownsRow base 101 19 (.slice (some ⟨g, 0, none⟩) n cap) n ((l.set k x).flatMap ncs) := by
  rw [← over_node l k x hk]
  exact own_overs _ _ _ _ h
theorem own_there {w : World} {base g n cap : Nat} {l : List Nd} (h : w.ownsRow base 101 19 (.slice (some ⟨g, 0, none⟩) n cap) n (l.flatMap ncs)) (k : Nat) (hk : k < n) : w.there g (k * 19) 19 := by
  intro j hj
  have hl := h.1
  refine ⟨?_, h.frozenAt _⟩
  rw [h.cellAt _ (by omega)]
  rw [List.getElem?_eq_getElem (by omega)]
  rfl
theorem nc_there (n : Nd) : (Tryz.prog.info? 101).map (·.size) = some (nc n).size := node_info
attribute [local go_sem ↓] bldN_eq
set_option maxHeartbeats 1000000 in
set_option maxRecDepth 100000 in
theorem spoil_any (g n c : Nat) (w : World) (hn : n ≤ 9223372036854775806) (hc : n ≤ c) (ht : ∀ k, k < n → w.there g (k * 19) 19) :
    Calls Tryz.prog 21 #[.slice (some ⟨g, 0, none⟩) n c] w fun e w' => e = .returned (.tuple #[]) ∧ w.grownBy w' (some g) := by
  have HT := Lib.hid ht
  have hb99 := run_bldN 99
  clear ht
  go_enter Tryz.func21, Tryz.ntmps21
  go_wp2_with fail
  go_loopw [2] (fun v2 wr => ∃ k : Nat, k ≤ n ∧ v2 = .int .i64 (k : Int) ∧ w.grownBy wr (some g) ∧ ∀ k, k < n → wr.there g (k * 19) 19) (fun v2 _ => n - (intOf v2).toNat)
  case atStart => exact ⟨0, by omega, rfl, grown_refl _ _, HT.out⟩
  case round =>
    obtain ⟨k, hk, rfl, hg, ht⟩ := hrel
    have HG := Lib.hid (And.intro hg ht)
    clear hg ht
    by_cases hlt : k < n
    · go_wp2_with (first | (refine wpList_store_mid (op := ⟨none, .store _ (.tmp 12) (.tmp 11), _, _, _, _⟩) rfl 101 _ _ rfl g (k * 19) (nc (nz 99)) ?_ rfl (HG.out.2 k hlt) (nc_there _) (nc_one _) ?_; simp [go_sem]))
      go_roundw
      case rel => exact ⟨k + 1, by omega, by go_num, grown_trans HG.out.1 (grown_cells g _ _ _), fun q hq => World.there_setCells (HG.out.2 q hq) _ _ _⟩
      case measure => simp [intOf]; omega
    · obtain rfl : k = n := by omega
      go_wp2_with fail
      go_end0
      exact ⟨rfl, HG.out.1⟩
end Go.Proofs.YtoboecenlangmaaGreat.No
end
section
namespace Go.Proofs.YtoboecenlangmaaGreat.No
open Go.ChangeShapes Go.WideShapes Go.ChangeAt Go.RowKit
open Me Np
set_option linter.unusedVariables false
set_option linter.unusedSimpArgs false

/-- A value that reads as a list of nodes, from the head of a block of nodes. -/
def RowAt (w : World) (v : Value) (l : List Nd) : Prop := (v = .slice none 0 0 ∧ l = []) ∨ ∃ g c cs, v = .slice (some ⟨g, 0, none⟩) l.length c ∧ l.length ≤ c ∧ Blk w g 101 cs ∧ ∀ (j : Nat) (u : Value), (l.flatMap ncs)[j]? = some u → cs[j]? = some u
def Away (v : Value) (r : Option Nat) : Prop := v.ownBlock = none ∨ v.ownBlock ≠ r
theorem RowAt.grown {w w' : World} {v : Value} {l : List Nd} {r : Option Nat} (h : RowAt w v l) (hg : w.grownBy w' r) (ha : Away v r) : RowAt w' v l := by
  rcases h with h | ⟨g, c, cs, rfl, hc, hb, hcs⟩
  · exact .inl h
  · refine .inr ⟨g, c, cs, rfl, hc, hb.grown hg ?_, hcs⟩
    rcases ha with ha | ha
    · cases ha
    · exact ha
theorem RowAt.below {w w' : World} {v : Value} {l : List Nd} (h : RowAt w v l) (hb : Below w.heap.size w w') : RowAt w' v l := by
  rcases h with h | ⟨g, c, cs, rfl, hc, hk, hcs⟩
  · exact .inl h
  · exact .inr ⟨g, c, cs, rfl, hc, hk.below hb hk.lt, hcs⟩
theorem RowAt.seg {w : World} {v : Value} {l : List Nd} (h : RowAt w v l) : ∃ A c, v = .slice A l.length c ∧ l.length ≤ c ∧ Seg w w.heap.size A (l.flatMap ncs) := by
  rcases h with ⟨rfl, rfl⟩ | ⟨g, c, cs, rfl, hc, hk, hcs⟩
  · exact ⟨none, 0, rfl, Nat.le_refl _, .inl rfl⟩
  · exact ⟨_, c, rfl, hc, .inr ⟨g, 0, rfl, hk.lt, fun j u hu => by rw [Nat.zero_add, hk.cell]; exact hcs j u hu⟩⟩
theorem RowAt.of_own {w : World} {base n : Nat} {v : Value} {l : List Nd} (h : w.ownsRow base 101 19 v n (l.flatMap ncs)) : RowAt w v l := by
  have hl := h.1
  rw [flat_length ncs_length] at hl
  have : n = l.length := by omega
  subst this
  rcases h.2 with ⟨h1, h2⟩ | ⟨g, cap, cur, h', _, hg, h1, _, _, ht⟩
  · exact .inl ⟨h1, List.eq_nil_of_length_eq_zero h2⟩
  · refine .inr ⟨g, cap, cur, h', h1, hg, fun j u hu => ?_⟩
    rw [← ht, List.getElem?_take] at hu
    split at hu
    · simpa using hu
    · cases hu
theorem away_none (v : Value) : Away v none := by
  unfold Away
  cases v.ownBlock <;> simp
/-- Where a row of one's own begins. -/
def Shape (v : Value) (n : Nat) : Prop := (v = .slice none 0 0 ∧ n = 0) ∨ ∃ g c, v = .slice (some ⟨g, 0, none⟩) n c ∧ n ≤ c
theorem own_shape {w : World} {base : Nat} {e : TypeId} {size n : Nat} {v : Value} {xs : List Value} (h : w.ownsRow base e size v n xs) : Shape v n := by
  rcases h.2 with h' | ⟨g, cap, cur, h', _, _, h1, _⟩
  · exact .inl h'
  · exact .inr ⟨g, cap, h', h1⟩
/-- The beginning of a row of one's own. -/
theorem RowAt.before {w : World} {base n : Nat} {v v' : Value} {l m : List Nd} (h : w.ownsRow base 101 19 v' n ((l ++ m).flatMap ncs)) (hs : Shape v l.length) (hb : v'.ownBlock = v.ownBlock) : RowAt w v l := by
  rcases hs with ⟨rfl, h0⟩ | ⟨g, c, rfl, hc⟩
  · exact .inl ⟨rfl, List.eq_nil_of_length_eq_zero h0⟩
  · rcases RowAt.of_own h with ⟨rfl, _⟩ | ⟨g', c', cs, rfl, _, hk, hcs⟩
    · cases hb
    · have e : g' = g := by
        have : some g' = some g := hb
        injection this
      subst e
      refine .inr ⟨g', c, cs, rfl, hc, hk, fun j u hu => hcs j u ?_⟩
      rw [List.flatMap_append, List.getElem?_append_left (List.getElem?_eq_some_iff.1 hu).1]
      exact hu
theorem ne_nodes : (101 : Nat) ≠ 39 := by decide
theorem own_ne_blk {w : World} {base : Nat} {e t : TypeId} {size n g k c : Nat} {xs : List Value} {cs : Array Value} (h : w.ownsRow base e size (.slice (some ⟨g, 0, none⟩) n c) n xs) (hb : Blk w k t cs) (hne : e ≠ t) : k ≠ g := by
  rintro rfl
  rcases h.2 with ⟨h', _⟩ | ⟨g', cap, cur, h', _, hg, _⟩
  · cases h'
  · injection h' with h' _ _
    injection h' with h'
    injection h' with h' _ _
    subst h'
    have hp : w.heap[k]? = some (.cells _ t (0, 0)) := hb
    rw [hg] at hp
    simp only [Option.some.injEq, Obj.cells.injEq] at hp
    exact hne hp.2.1
theorem own_away_blk {w : World} {base : Nat} {e t : TypeId} {size n k : Nat} {v : Value} {xs : List Value} {cs : Array Value} (h : w.ownsRow base e size v n xs) (hb : Blk w k t cs) (hne : e ≠ t) : some k ≠ v.ownBlock := by
  rcases own_shape h with ⟨rfl, _⟩ | ⟨g, c, rfl, _⟩
  · intro e; cases e
  · intro e
    injection e with e
    exact own_ne_blk h hb hne e
def Dist (N : Nat) (vs : Nat → Value) : Prop := ∀ i j, i < N → j < N → i ≠ j → Away (vs i) (vs j).ownBlock
/-- Rows that are marked. -/
structure Ap1 (w : World) (base N gL : Nat) (vs : Nat → Value) (L : Nat → List Nd) (wr : World) : Prop where
  own : ∀ j, j < N → wr.ownsRow base 101 19 (vs j) (L j).length ((L j).flatMap ncs)
  lst : Blk wr gL 39 ((List.range N).map vs).toArray
  low : Below base w wr
theorem Ap1.store {w : World} {base N gL : Nat} {vs : Nat → Value} {L : Nat → List Nd} {wr : World} (h : Ap1 w base N gL vs L wr) (hd : Dist N vs) {i k g c : Nat} (hi : i < N) (hk : k < (L i).length) (hv : vs i = .slice (some ⟨g, 0, none⟩) (L i).length c) (x : Nd) :
    Ap1 w base N gL vs (fun j => if j = i then (L i).set k x else L j) (wr.setCells g (k * 19) (ncs x)) := by
  have hoi := h.own i hi
  rw [hv] at hoi
  have hg := grown_cells g (ncs x) (k * 19) wr
  refine ⟨fun j hj => ?_, h.lst.grown hg ?_, ?_⟩
  · by_cases e : j = i
    · subst e
      simp only [if_true]
      rw [List.length_set, hv]
      exact own_node hoi k hk x
    · simp only [if_neg e]
      refine (h.own j hj).kept hg ?_
      have := hd j i hj hi e
      rw [hv] at this
      exact this
  · intro e
    injection e with e
    exact own_ne_blk hoi h.lst ne_nodes e
  · have hlt := hoi.lt g rfl
    exact ⟨hg.os.trans h.low.os, hg.tape.trans h.low.tape, hg.output.trans h.low.output, Nat.le_trans h.low.size hg.size, fun q hq => (hg.block q (by omega) (by intro e; injection e with e; omega)).trans (h.low.block q hq)⟩
theorem lst_get {N : Nat} {vs : Nat → Value} {i : Nat} (hi : i < N) : ((List.range N).map vs).toArray[i]? = some (vs i) := by
  rw [List.getElem?_toArray, List.getElem?_map, List.getElem?_range hi]
  rfl
/-- Rows that are grown: those ahead of i are. -/
structure Ap2 (w : World) (base N gL : Nat) (vs : Nat → Value) (M : Nat → List Nd) (i : Nat) (gv : Value) (Gs : Nat → Value) (wr : World) : Prop where
  own : ∀ j, i ≤ j → j < N → wr.ownsRow base 101 19 (vs j) (M j).length ((M j).flatMap ncs)
  old : ∀ j, j < i → RowAt wr (vs j) (M j)
  new : ∀ j, j < i → RowAt wr (Gs j) (M j ++ List.replicate 40 (nz (2000 + (j : Int))))
  off : ∀ j k, j < i → i ≤ k → k < N → Away (Gs j) (vs k).ownBlock
  row : wr.ownsRow w.heap.size 39 1 gv i ((List.range i).map Gs)
  lst : Blk wr gL 39 ((List.range N).map vs).toArray
  low : Below base w wr
/-- The row i is being grown; w2: where that began. -/
structure Ap3 (w w2 : World) (base N gL : Nat) (vs : Nat → Value) (M : Nat → List Nd) (i : Nat) (gv : Value) (Gs : Nat → Value) (k : Nat) (cv : Value) (wr : World) : Prop where
  cur : wr.ownsRow base 101 19 cv ((M i).length + k) ((M i ++ List.replicate k (nz (2000 + (i : Int)))).flatMap ncs)
  at_ : cv.ownBlock = (vs i).ownBlock ∨ ∃ q, cv.ownBlock = some q ∧ w2.heap.size ≤ q
  mine : RowAt wr (vs i) (M i)
  own : ∀ j, i < j → j < N → wr.ownsRow base 101 19 (vs j) (M j).length ((M j).flatMap ncs)
  old : ∀ j, j < i → RowAt wr (vs j) (M j)
  new : ∀ j, j < i → RowAt wr (Gs j) (M j ++ List.replicate 40 (nz (2000 + (j : Int))))
  row : wr.ownsRow w.heap.size 39 1 gv i ((List.range i).map Gs)
  lst : Blk wr gL 39 ((List.range N).map vs).toArray
  low : Below base w wr
  size : w2.heap.size ≤ wr.heap.size
/-- What stays put while row i grows. -/
structure Fix (w2 : World) (base N : Nat) (vs : Nat → Value) (M : Nat → List Nd) (i : Nat) (Gs : Nat → Value) : Prop where
  hi : i < N
  dist : Dist N vs
  off : ∀ j k, j < i → i ≤ k → k < N → Away (Gs j) (vs k).ownBlock
  bnd : ∀ k, k < N → ∀ q, (vs k).ownBlock = some q → q < w2.heap.size
  bng : ∀ k, k < i → ∀ q, (Gs k).ownBlock = some q → q < w2.heap.size
  shp : Shape (vs i) (M i).length
theorem RowAt.lt {w : World} {v : Value} {l : List Nd} (h : RowAt w v l) : ∀ q, v.ownBlock = some q → q < w.heap.size := by
  rcases h with ⟨rfl, rfl⟩ | ⟨g, c, cs, rfl, hc, hk, hcs⟩
  · intro q hq; cases hq
  · intro q hq
    injection hq with hq
    rw [← hq]; exact hk.lt
/-- A row of rows lies elsewhere. -/
theorem RowAt.away {w : World} {base n : Nat} {v gv : Value} {l : List Nd} {xs : List Value} (h : RowAt w v l) (hr : w.ownsRow base 39 1 gv n xs) : Away v gv.ownBlock := by
  rcases h with ⟨rfl, rfl⟩ | ⟨g, c, cs, rfl, hc, hk, hcs⟩
  · exact .inl rfl
  · exact .inr (own_away_blk hr hk ne_nodes.symm)
theorem away_cur {w2 : World} {cv v vi : Value} (hat : cv.ownBlock = vi.ownBlock ∨ ∃ q, cv.ownBlock = some q ∧ w2.heap.size ≤ q) (hd : Away v vi.ownBlock) (hb : ∀ q, v.ownBlock = some q → q < w2.heap.size) : Away v cv.ownBlock := by
  rcases hat with e | ⟨q, e, hq⟩
  · rw [e]; exact hd
  · rw [e]
    cases hv : v.ownBlock with
    | none => exact .inl hv
    | some b =>
      refine .inr ?_
      rw [hv]
      intro e2
      injection e2 with e2
      have := hb b hv
      omega
theorem Ap3.push {w w2 : World} {base N gL : Nat} {vs : Nat → Value} {M : Nat → List Nd} {i : Nat} {gv : Value} {Gs : Nat → Value} {k : Nat} {cv cv' : Value} {wr w' : World} {z : Int} (h : Ap3 w w2 base N gL vs M i gv Gs k cv wr) (hf : Fix w2 base N vs M i Gs) (hbs : base ≤ wr.heap.size) (hz : z = 2000 + (i : Int))
    (ho : w'.ownsRow base 101 19 cv' ((M i).length + k + 1) ((M i ++ List.replicate k (nz (2000 + (i : Int)))).flatMap ncs ++ (nc (nz z)).toList)) (hg : (wr.alloc (.cells (nc (nz z)) 101)).grownBy w' cv.ownBlock)
    (hw : cv'.ownBlock = cv.ownBlock ∨ (∃ q, cv'.ownBlock = some q ∧ wr.heap.size ≤ q) ∧ (wr.alloc (.cells (nc (nz z)) 101)).grownBy w' none) : Ap3 w w2 base N gL vs M i gv Gs (k + 1) cv' w' := by
  subst hz
  have hga : ∀ r, wr.grownBy (wr.alloc (.cells (nc (nz (2000 + (i : Int)))) 101)) r := fun r => ⟨rfl, rfl, rfl, by simp, fun q hq _ => Below.heap_alloc wr _ q hq⟩
  have hgt := grown_trans (hga _) hg
  have hs := h.size
  have hlk : ∀ q, cv.ownBlock = some q → base ≤ q := fun q hq => (h.cur.lt q hq).1
  have e1 : (M i ++ List.replicate (k + 1) (nz (2000 + (i : Int)))).flatMap ncs = (M i ++ List.replicate k (nz (2000 + (i : Int)))).flatMap ncs ++ (nc (nz (2000 + (i : Int)))).toList := by
    rw [List.replicate_succ', ← List.append_assoc, List.flatMap_append]
    congr 1
  refine ⟨by rw [e1]; exact ho, ?_, ?_, fun j h1 h2 => (h.own j h1 h2).kept hgt (away_cur h.at_ (hf.dist j i h2 hf.hi (by omega)) (hf.bnd j h2)), fun j hj => (h.old j hj).grown hgt (away_cur h.at_ (hf.dist j i (by have := hf.hi; omega) hf.hi (by omega)) (hf.bnd j (by have := hf.hi; omega))), fun j hj => (h.new j hj).grown hgt (away_cur h.at_ (hf.off j i hj (Nat.le_refl _) hf.hi) (hf.bng j hj)), ?_, ?_, ?_, Nat.le_trans h.size hgt.size⟩
  · rcases hw with e | ⟨⟨q, e, hq⟩, _⟩
    · rw [e]; exact h.at_
    · exact .inr ⟨q, e, Nat.le_trans hs hq⟩
  · rcases hw with e | ⟨_, hn⟩
    · rcases h.at_ with e2 | ⟨q, e2, hq⟩
      · have ho' := ho
        rw [List.flatMap_append, List.append_assoc, show (List.replicate k (nz (2000 + (i : Int)))).flatMap ncs ++ (nc (nz (2000 + (i : Int)))).toList = (List.replicate (k + 1) (nz (2000 + (i : Int)))).flatMap ncs by rw [List.replicate_succ', List.flatMap_append]; congr 1, ← List.flatMap_append] at ho'
        exact RowAt.before ho' hf.shp (by rw [e, e2])
      · refine h.mine.grown hgt ?_
        rw [e2]
        cases hv : (vs i).ownBlock with
        | none => exact .inl hv
        | some b =>
          refine .inr ?_
          rw [hv]
          intro e3
          injection e3 with e3
          have := hf.bnd i hf.hi b hv
          omega
    · exact h.mine.grown (grown_trans (hga _) hn) (away_none _)
  · refine h.row.kept hgt ?_
    rcases own_shape h.row with ⟨e, _⟩ | ⟨g, c, e, _⟩
    · exact .inl (by rw [e]; rfl)
    · refine .inr ?_
      intro e2
      have hr := h.row
      rw [e] at hr e2
      rcases hr.2 with ⟨h', _⟩ | ⟨g', cap, cur', h', _, hgb, _⟩
      · cases h'
      · injection h' with h' _ _
        injection h' with h'
        injection h' with h' _ _
        subst h'
        exact own_away_blk h.cur (show Blk wr g 39 cur' from hgb) ne_nodes e2
  · exact h.lst.grown hgt (own_away_blk h.cur h.lst ne_nodes)
  · exact ⟨hgt.os.trans h.low.os, hgt.tape.trans h.low.tape, hgt.output.trans h.low.output, Nat.le_trans h.low.size hgt.size, fun q hq => (hgt.block q (by omega) (by intro e; have := hlk q e.symm; omega)).trans (h.low.block q hq)⟩
/-- Where row i begins to grow. -/
theorem Ap2.open_ {w : World} {base N gL : Nat} {vs : Nat → Value} {M : Nat → List Nd} {i : Nat} {gv : Value} {Gs : Nat → Value} {wr : World} (h : Ap2 w base N gL vs M i gv Gs wr) (hi : i < N) : Ap3 w wr base N gL vs M i gv Gs 0 (vs i) wr :=
  ⟨by simpa using h.own i (Nat.le_refl _) hi, .inl rfl, RowAt.of_own (h.own i (Nat.le_refl _) hi), fun j h1 h2 => h.own j (by omega) h2, h.old, h.new, h.row, h.lst, h.low, Nat.le_refl _⟩
theorem Ap2.fix {w : World} {base N gL : Nat} {vs : Nat → Value} {M : Nat → List Nd} {i : Nat} {gv : Value} {Gs : Nat → Value} {wr : World} (h : Ap2 w base N gL vs M i gv Gs wr) (hi : i < N) (hd : Dist N vs) (hb : ∀ k, k < N → ∀ q, (vs k).ownBlock = some q → q < wr.heap.size) : Fix wr base N vs M i Gs :=
  ⟨hi, hd, h.off, hb, fun k hk => (h.new k hk).lt, own_shape (h.own i (Nat.le_refl _) hi)⟩
/-- Row i has been grown, and is put with the others. -/
theorem Ap3.close {w w2 : World} {base N gL : Nat} {vs : Nat → Value} {M : Nat → List Nd} {i : Nat} {gv gv' : Value} {Gs : Nat → Value} {cv : Value} {wr w' : World} (h : Ap3 w w2 base N gL vs M i gv Gs 40 cv wr) (hf : Fix w2 base N vs M i Gs) (hbs : base ≤ w.heap.size) (hgl : gL < w.heap.size)
    (ho : w'.ownsRow w.heap.size 39 1 gv' (i + 1) ((List.range i).map Gs ++ #[cv].toList)) (hg : (wr.alloc (.cells #[cv] 39)).grownBy w' gv.ownBlock) : Ap2 w base N gL vs M (i + 1) gv' (fun j => if j = i then cv else Gs j) w' := by
  have hga : wr.grownBy (wr.alloc (.cells #[cv] 39)) gv.ownBlock := ⟨rfl, rfl, rfl, by simp, fun q hq _ => Below.heap_alloc wr _ q hq⟩
  have hgt := grown_trans hga hg
  have hlk : ∀ q, gv.ownBlock = some q → base ≤ q := fun q hq => Nat.le_trans hbs (h.row.lt q hq).1
  have e1 : (List.range (i + 1)).map (fun j => if j = i then cv else Gs j) = (List.range i).map Gs ++ #[cv].toList := by
    rw [List.range_succ, List.map_append]
    congr 1
    · refine List.map_congr_left fun j hj => ?_
      have := List.mem_range.1 hj
      rw [if_neg (by omega)]
    · simp
  have hcur := RowAt.of_own h.cur
  refine ⟨fun j h1 h2 => (h.own j (by omega) h2).kept hgt ((RowAt.of_own (h.own j (by omega) h2)).away h.row), fun j hj => ?_, fun j hj => ?_, fun j k hj hik hk => ?_, by rw [e1]; exact ho, ?_, ?_⟩
  · by_cases e : j = i
    · subst e; exact h.mine.grown hgt (h.mine.away h.row)
    · have hj' := h.old j (by omega)
      exact hj'.grown hgt (hj'.away h.row)
  · by_cases e : j = i
    · subst e
      simp only [if_true]
      exact hcur.grown hgt (hcur.away h.row)
    · simp only [if_neg e]
      have hj' := h.new j (by omega)
      exact hj'.grown hgt (hj'.away h.row)
  · by_cases e : j = i
    · subst e
      simp only [if_true]
      rcases h.at_ with e2 | ⟨q, e2, hq⟩
      · have := hf.dist j k hf.hi hk (by omega)
        unfold Away at this ⊢
        rw [e2]; exact this
      · refine .inr ?_
        rw [e2]
        intro e3
        have := hf.bnd k hk q e3.symm
        omega
    · simp only [if_neg e]
      exact hf.off j k (by omega) (by omega) hk
  · exact h.lst.grown hgt (by intro e; have := (h.row.lt gL e.symm).1; omega)
  · exact ⟨hgt.os.trans h.low.os, hgt.tape.trans h.low.tape, hgt.output.trans h.low.output, Nat.le_trans h.low.size hgt.size, fun q hq => (hgt.block q (by have := h.low.size; omega) (by intro e; have := hlk q e.symm; omega)).trans (h.low.block q hq)⟩
end Go.Proofs.YtoboecenlangmaaGreat.No
end
section
namespace Go.Proofs.YtoboecenlangmaaGreat.No
open Go.ChangeShapes Go.WideShapes Go.ChangeAt Go.RowKit
open Me Np
set_option linter.unusedVariables false
set_option linter.unusedSimpArgs false

/-- The first loop of Apart: the rows ahead of i are marked, and k nodes of row i. -/
structure Mk1 (w : World) (base N gL : Nat) (vs : Nat → Value) (L L1 : Nat → List Nd) (i k : Nat) (wr : World) : Prop where
  ap : Ap1 w base N gL vs L1 wr
  len : ∀ j, j < N → (L1 j).length = (L j).length
  mks : ∀ j q, j < N → (j < i ∨ j = i ∧ q < k) → q < (L j).length → (L1 j)[q]? = some (nz (1000 + (j : Int)))
theorem Mk1.store {w : World} {base N gL : Nat} {vs : Nat → Value} {L L1 : Nat → List Nd} {i k : Nat} {wr : World} (h : Mk1 w base N gL vs L L1 i k wr) (hd : Dist N vs) {g c : Nat} (hi : i < N) (hk : k < (L i).length) (hv : vs i = .slice (some ⟨g, 0, none⟩) (L i).length c) {z : Int} (hz : z = 1000 + (i : Int)) :
    ∃ L2, Mk1 w base N gL vs L L2 i (k + 1) (wr.setCells g (k * 19) (nc (nz z)).toList) := by
  subst hz
  have hl := h.len i hi
  refine ⟨fun j => if j = i then (L1 i).set k (nz (1000 + (i : Int))) else L1 j, h.ap.store hd hi (by omega) (by rw [hl]; exact hv) _, fun j hj => ?_, fun j q hj hq hl2 => ?_⟩
  · by_cases e : j = i
    · subst e
      simp only [if_true, List.length_set]
      exact hl
    · simp only [if_neg e]
      exact h.len j hj
  · by_cases e : j = i
    · subst e
      simp only [if_true]
      by_cases hqk : q = k
      · subst hqk
        rw [List.getElem?_set_self (by omega)]
      · rw [List.getElem?_set_ne (by omega)]
        exact h.mks j q hj (by omega) hl2
    · simp only [if_neg e]
      exact h.mks j q hj (by omega) hl2
theorem Mk1.next {w : World} {base N gL : Nat} {vs : Nat → Value} {L L1 : Nat → List Nd} {i k : Nat} {wr : World} (h : Mk1 w base N gL vs L L1 i k wr) (hk : (L i).length ≤ k) : Mk1 w base N gL vs L L1 (i + 1) 0 wr :=
  ⟨h.ap, h.len, fun j q hj hq hl => h.mks j q hj (by
    rcases hq with hq | ⟨_, hq⟩
    · by_cases e : j = i
      · subst e; exact .inr ⟨rfl, by omega⟩
      · exact .inl (by omega)
    · omega) hl⟩
def mkd (L : Nat → List Nd) (j : Nat) : List Nd := List.replicate (L j).length (nz (1000 + (j : Int)))
theorem Mk1.done {w : World} {base N gL : Nat} {vs : Nat → Value} {L L1 : Nat → List Nd} {wr : World} (h : Mk1 w base N gL vs L L1 N 0 wr) : Ap2 w base N gL vs (mkd L) 0 (.slice none 0 0) (fun _ => .slice none 0 0) wr := by
  have e : ∀ j, j < N → L1 j = mkd L j := fun j hj => by
    apply List.ext_getElem?
    intro q
    unfold mkd
    rw [List.getElem?_replicate]
    split
    · exact h.mks j q hj (.inl hj) (by assumption)
    · rw [List.getElem?_eq_none (by rw [h.len j hj]; omega)]
  refine ⟨fun j _ hj => by rw [← e j hj]; exact h.ap.own j hj, by simp, by simp, by simp, World.ownsRow_nil _ _ _ _, h.ap.lst, h.ap.low⟩
theorem RowAt.node {w : World} {v : Value} {l : List Nd} (h : RowAt w v l) {k : Nat} {x : Nd} (hx : l[k]? = some x) : ∃ g c, v = .slice (some ⟨g, 0, none⟩) l.length c ∧ w.cell? ⟨g, k * 19, none⟩ = some (.int .i64 x.kind) := by
  rcases h with ⟨rfl, rfl⟩ | ⟨g, c, cs, rfl, hc, hk, hcs⟩
  · simp at hx
  · refine ⟨g, c, rfl, ?_⟩
    rw [hk.cell]
    refine hcs (k * 19) _ ?_
    have := flat_get ncs_length l k x 0 hx (by decide)
    rw [Nat.add_zero] at this
    rw [this]
    rfl
theorem own_val {w : World} {base : Nat} {e : TypeId} {size n : Nat} {v : Value} {xs : List Value} (h : w.ownsRow base e size v n xs) : ∃ A c, v = .slice A n c ∧ n ≤ c := by
  rcases own_shape h with ⟨rfl, rfl⟩ | ⟨g, c, rfl, hc⟩
  · exact ⟨none, 0, rfl, Nat.le_refl _⟩
  · exact ⟨_, c, rfl, hc⟩
theorem rows_info : (Tryz.prog.info? 39).map (fun i => (i.zero, i.size, i.bytes)) = some (some (.slice none 0 0), 1, 24) := by kernel_rfl
attribute [local go_sem ↓] bldN_eq
set_option maxHeartbeats 4000000 in
set_option maxRecDepth 100000 in
theorem apart_any (base N gL : Nat) (vs : Nat → Value) (L : Nat → List Nd) (w : World) (hN : N ≤ 100) (hbs : base ≤ w.heap.size) (hown : ∀ j, j < N → w.ownsRow base 101 19 (vs j) (L j).length ((L j).flatMap ncs))
    (hd : Dist N vs) (hlst : Blk w gL 39 ((List.range N).map vs).toArray) (hlen : ∀ j, j < N → (L j).length ≤ 4000) :
    Calls Tryz.prog 22 #[.slice (some ⟨gL, 0, none⟩) N N] w fun e w' => e = .returned (.bool true) ∧ Below base w w' := by
  have HI0 := Lib.hid (show Mk1 w base N gL vs L L 0 0 w from ⟨⟨hown, hlst, Below.refl _ _⟩, fun _ _ => rfl, fun j q hj hq => by omega⟩)
  have HSH := Lib.hid (fun (j : Nat) (hj : j < N) => own_shape (hown j hj))
  have HBN := Lib.hid (fun (j : Nat) (hj : j < N) (q : Nat) (hq : (vs j).ownBlock = some q) => ((hown j hj).lt q hq).2)
  have HGL := Lib.hid hlst.lt
  have HD := Lib.hid hd
  have HLEN := Lib.hid hlen
  have HBS := Lib.hid hbs
  clear hown hd hlst hlen hbs
  go_enter Tryz.func22, Tryz.ntmps22
  go_wp2_with fail
  go_loopw [4] (fun v4 wr => ∃ (i : Nat) (L1 : Nat → List Nd), i ≤ N ∧ v4 = .int .i64 (i : Int) ∧ Mk1 w base N gL vs L L1 i 0 wr) (fun v4 _ => N - (intOf v4).toNat)
  case atStart => exact ⟨0, L, by omega, rfl, HI0.out⟩
  case round =>
    obtain ⟨i, L1, hi, rfl, hI⟩ := hrel
    have HI := Lib.hid hI
    clear hI
    by_cases hlt : i < N
    · obtain ⟨A, c, hv, hnc⟩ : ∃ A c, vs i = .slice A (L i).length c ∧ (L i).length ≤ c := by
        rcases HSH.out i hlt with ⟨h1, h2⟩ | ⟨g, c, h1, h2⟩
        · exact ⟨none, 0, by rw [h1, h2], by omega⟩
        · exact ⟨_, c, h1, h2⟩
      have hn4 := HLEN.out i hlt
      have HV := Lib.hid hv
      generalize hn : (L i).length = n at hv hnc hn4
      have HNN := Lib.hid hn
      clear hn
      go_wp2_with fail
      go_loopw [5] (fun v5 wr => ∃ (k : Nat) (L1 : Nat → List Nd), k ≤ n ∧ v5 = .int .i64 (k : Int) ∧ Mk1 w base N gL vs L L1 i k wr) (fun v5 _ => n - (intOf v5).toNat)
      case atStart => exact ⟨0, L1, by omega, rfl, HI.out⟩
      case round =>
        obtain ⟨k, L1, hk, rfl, hI⟩ := hrel
        have hci : wr.cell? ⟨gL, i, none⟩ = some (.slice A n c) := by rw [hI.ap.lst.cell, lst_get hlt, hv]
        have HI := Lib.hid hI
        clear hI
        by_cases hkn : k < n
        · obtain ⟨g, rfl⟩ : ∃ g, A = some ⟨g, 0, none⟩ := by
            rcases HSH.out i hlt with ⟨h1, h2⟩ | ⟨g, c, h1, h2⟩
            · have := HNN.out; omega
            · rw [HV.out] at h1
              injection h1 with h1
              exact ⟨g, h1⟩
          have hbn := run_bldN (1000 + (i : Int))
          have HTH := Lib.hid (show wr.there g (k * 19) 19 by
            have h1 := HI.out.ap.own i hlt
            rw [HV.out] at h1
            have h2 := HI.out.len i hlt
            rw [h2] at h1
            exact own_there h1 k (by rw [HNN.out]; exact hkn))
          have HST := Lib.hid (HI.out.store HD.out hlt (by rw [HNN.out]; exact hkn) HV.out rfl)
          clear HI
          go_wp2_with (first | (refine wpList_store_mid (op := ⟨none, .store _ (.tmp 34) (.tmp 33), _, _, _, _⟩) rfl 101 _ _ rfl g (k * 19) (nc (nz (1000 + (i : Int)))) ?_ rfl HTH.out (nc_there _) (nc_one _) ?_; simp [go_sem]))
          obtain ⟨L2, hL2⟩ := HST.out
          have HL2 := Lib.hid hL2
          clear hL2 HST HTH
          go_roundw
          case rel => exact ⟨k + 1, L2, by omega, by go_num, HL2.out⟩
          case measure => simp [intOf]; omega
        · have HNX := Lib.hid (HI.out.next (by rw [HNN.out]; omega))
          clear HI
          go_wp2_with fail
          go_roundw
          case rel => exact ⟨i + 1, L1, by omega, by go_num, HNX.out⟩
          case measure => simp [intOf]; omega
    · obtain rfl : N = i := by omega
      have HA2 := Lib.hid HI.out.done
      have HML := Lib.hid (fun j => show (mkd L j).length = (L j).length by simp [mkd])
      clear HI HI0
      have HMK := Lib.hid (fun (j k : Nat) (hk : k < (mkd L j).length) => show (mkd L j)[k]? = some (nz (1000 + (j : Int))) by unfold mkd at hk ⊢; rw [List.getElem?_replicate, if_pos (by simpa using hk)])
      generalize mkd L = M at HA2 HML HMK
      go_wp2_with fail
      go_loopw [3, 6] (fun v3 v6 wr => ∃ (i : Nat) (Gs : Nat → Value), i ≤ N ∧ v6 = .int .i64 (i : Int) ∧ Ap2 w base N gL vs M i v3 Gs wr) (fun _ v6 _ => N - (intOf v6).toNat)
      case atStart => exact ⟨0, _, by omega, rfl, HA2.out⟩
      case round =>
        obtain ⟨i, Gs, hi, rfl, hI⟩ := hrel
        by_cases hlt : i < N
        · have hci := (hI.lst.cell i).trans (lst_get hlt)
          have HF := Lib.hid (hI.fix hlt HD.out (fun k hk q hq => Nat.lt_of_lt_of_le (HBN.out k hk q hq) hI.low.size))
          have HI := Lib.hid (hI.open_ hlt)
          have HSZ := Lib.hid hI.low.size
          clear hI
          have hn4 : (M i).length ≤ 4000 := by rw [HML.out]; exact HLEN.out i hlt
          go_wp2_with fail
          obtain ⟨w2, hw2⟩ : ∃ w2, w2 = wr := ⟨_, rfl⟩
          subst hw2
          go_loopw [7, 8] (fun v7 v8 w3 => ∃ k : Nat, k ≤ 40 ∧ v8 = .int .i64 (k : Int) ∧ Ap3 w w2 base N gL vs M i u3 Gs k v7 w3) (fun _ v8 _ => 40 - (intOf v8).toNat)
          case atStart => exact ⟨0, by omega, rfl, HI.out⟩
          case round =>
            obtain ⟨k, hk, rfl, hJ⟩ := hrel
            have HJ := Lib.hid hJ
            clear hJ HI
            have hbw : base ≤ wr.heap.size := Nat.le_trans HBS.out (Nat.le_trans HSZ.out HJ.out.size)
            have HBW := Lib.hid hbw
            clear hbw
            by_cases hk40 : k < 40
            · have hbn := run_bldN (2000 + (i : Int))
              obtain ⟨Ac, cc, hcv, _⟩ := own_val HJ.out.cur
              have HCV := Lib.hid hcv
              have HO := Lib.hid HJ.out.cur
              go_wp2_with (first
                | (refine wpList_ex (o := ⟨some 53, _, _, _, _, _⟩) (v := .slice (some ⟨wr.heap.size, 0, none⟩) 1 1) (w' := wr.alloc (.cells (nc (nz (2000 + (i : Int)))) 101)) rfl (by kernel_rfl) ?_)
                | (at_builtin; go_loud (refine wpList_push_at rfl (.tmp 49) (.tmp 53) 39 rfl base 101 _ 19 160 Tryz.underlying39 node_row rfl (by decide) (by decide) _ _ _ rfl HO.out HBW.out _ rfl rfl rfl rfl (by omega) ?_; intro v7 w7 hown7 hg7 hw7; have HP := Lib.hid (HJ.out.push HF.out HBW.out rfl hown7 hg7 hw7); clear hown7 hg7 hw7))
                | fail)
              go_roundw
              case rel => exact ⟨k + 1, by omega, by go_num, HP.out⟩
              case measure => simp [intOf]; omega
            · obtain rfl : k = 40 := by omega
              obtain ⟨Ac, cc, hcv, _⟩ := own_val HJ.out.cur
              subst hcv
              have HROW := Lib.hid HJ.out.row
              have HWS := Lib.hid (show w.heap.size ≤ wr.heap.size from Nat.le_trans HSZ.out HJ.out.size)
              go_wp2_with (at_builtin; go_loud (refine wpList_push rfl (.tmp 55) (.tmp 57) 125 rfl w.heap.size 39 _ 1 24 Tryz.underlying125 rows_info rfl (by decide) (by decide) _ _ _ rfl HROW.out HWS.out _ rfl rfl rfl (by simp) (by omega) ?_; intro v9 w9 hown9 hg9 hn9; have HC := Lib.hid (HJ.out.close HF.out HBS.out HGL.out hown9 hg9); clear hown9 hg9 hn9))
              go_roundw
              case rel => exact ⟨i + 1, _, by omega, by go_num, HC.out⟩
              case measure => simp [intOf]; omega
        · obtain rfl : N = i := by omega
          have HFN := Lib.hid hI
          clear hI HA2
          go_wp2_with fail
          obtain ⟨w3, hw3⟩ : ∃ w3, w3 = wr := ⟨_, rfl⟩
          subst hw3
          go_loopw [9] (fun v9 wr => ∃ (i nq : Nat), i ≤ N ∧ v9 = .int .i64 (i : Int) ∧ wr = w3.drewN nq) (fun v9 _ => N - (intOf v9).toNat)
          case atStart => exact ⟨0, 0, by omega, rfl, rfl⟩
          case round =>
            obtain ⟨i, nq, hi, rfl, rfl⟩ := hrel
            by_cases hlt : i < N
            · obtain ⟨gG, cG, hgv, hcG⟩ : ∃ g c, u3 = .slice (some ⟨g, 0, none⟩) N c ∧ w3.cell? ⟨g, i, none⟩ = some (Gs i) := by
                have ho := HFN.out.row
                rcases own_shape ho with ⟨_, h0⟩ | ⟨g, c, e, _⟩
                · omega
                · rw [e] at ho
                  refine ⟨g, c, e, (ho.cellAt i (by omega)).trans ?_⟩
                  rw [List.getElem?_map, List.getElem?_range hlt]
                  rfl
              have hcL : w3.cell? ⟨gL, i, none⟩ = some (vs i) := (HFN.out.lst.cell i).trans (lst_get hlt)
              have hn4 : (M i).length ≤ 4000 := by rw [HML.out]; exact HLEN.out i hlt
              have h1 := HFN.out.old i hlt
              have h2 := HFN.out.new i hlt
              obtain ⟨A1, c1, e1, hc1, _⟩ := h1.seg
              obtain ⟨A2, c2, e2, hc2, _⟩ := h2.seg
              have HR1 := Lib.hid (fun k (hk : k < (M i).length) => h1.node (HMK.out i k hk))
              have HR2 := Lib.hid (fun k (hk : k < (M i).length) => h2.node (k := k) (x := nz (1000 + (i : Int))) (by rw [List.getElem?_append_left hk]; exact HMK.out i k hk))
              have HR3 := Lib.hid (fun k (hk : (M i).length ≤ k) (hk2 : k < (M i).length + 40) => h2.node (k := k) (x := nz (2000 + (i : Int))) (by rw [List.getElem?_append_right hk, List.getElem?_replicate, if_pos (by omega)]))
              rw [List.length_append, List.length_replicate] at e2 hc2 
              rw [e1] at HR1 hcL
              rw [e2] at HR2 HR3 hcG
              rw [hgv]
              clear h1 h2 e1 e2 hgv
              rw [List.length_append, List.length_replicate] at HR2 HR3
              generalize (M i).length = n at *
              go_wp2_with fail
              go_loopw [10] (fun v10 wr => ∃ (k nq : Nat), k ≤ n + 40 ∧ v10 = .int .i64 (k : Int) ∧ wr = w3.drewN nq) (fun v10 _ => n + 40 - (intOf v10).toNat)
              case atStart => exact ⟨0, nq, by omega, rfl, rfl⟩
              case round =>
                obtain ⟨k, nq, hk, rfl, rfl⟩ := hrel
                by_cases hkn : k < n
                · obtain ⟨g1, d1, f1, hx1⟩ := HR1.out k hkn
                  obtain ⟨g2, d2, f2, hx2⟩ := HR2.out k hkn
                  injection f1 with f1 _ _
                  injection f2 with f2 _ _
                  subst f1
                  subst f2
                  rw [show (nz (1000 + (i : Int))).kind = 1000 + (i : Int) from rfl] at hx1 hx2
                  go_wp2_with fail
                  go_roundw
                  case rel => exact ⟨k + 1, nq, by omega, by go_num, rfl⟩
                  case measure => simp [intOf]; omega
                · by_cases hkn2 : k < n + 40
                  · obtain ⟨g2, d2, f2, hx2⟩ := HR3.out k (by omega) hkn2
                    injection f2 with f2 _ _
                    subst f2
                    rw [show (nz (2000 + (i : Int))).kind = 2000 + (i : Int) from rfl] at hx2
                    go_wp2_with fail
                    go_roundw
                    case rel => exact ⟨k + 1, nq, by omega, by go_num, rfl⟩
                    case measure => simp [intOf]; omega
                  · go_wp2_with fail
                    go_roundw
                    case rel => exact ⟨i + 1, _, by omega, by go_num, rfl⟩
                    case measure => simp [intOf]; omega
            · go_wp2_with fail
              go_ret
              exact ⟨rfl, below_drewN HFN.out.low _⟩
end Go.Proofs.YtoboecenlangmaaGreat.No
end
section
namespace Go.Proofs.YtoboecenlangmaaGreat.No
open Go.ChangeShapes Go.WideShapes Go.ChangeAt Go.RowKit
open Me Np
set_option linter.unusedVariables false
set_option linter.unusedSimpArgs false

@[irreducible] def neN (x y : Value) : Sem Value := binOp .neq 101 x y
theorem neN_eq (x y : Value) : binOp .neq 101 x y = neN x y := by unfold neN; rfl
theorem run_neN (a b : Nd) (w : World) : (neN (.agg (nc a)) (.agg (nc b))).run Tryz.prog w = .ok (.bool (!eqB a b)) w := by
  rw [← neN_eq, run_neq_struct]
  have h := eqB_eq a b w
  rw [run_eql_struct] at h
  generalize (Op.equalIn 10000 101 (.agg (nc a)) (.agg (nc b))).run Tryz.prog w = r at h ⊢
  cases r with
  | ok b' w' =>
    simp only [Result.andThen, Result.ok.injEq, Value.bool.injEq] at h ⊢
    obtain ⟨h1, h2⟩ := h
    rw [h1, h2]
    exact ⟨rfl, rfl⟩
  | halt x w' => simp [Result.andThen] at h
def sameB (l m : List Nd) : Bool := decide (l.length = m.length) && (l.zip m).all fun p => eqB p.1 p.2
theorem sameB_iff : ∀ {l m : List Nd}, sameB l m = true ↔ l = m
  | [], [] => by simp [sameB]
  | [], _ :: _ => by simp [sameB]
  | _ :: _, [] => by simp [sameB]
  | x :: l, y :: m => by
    have ih := sameB_iff (l := l) (m := m)
    simp only [sameB, Bool.and_eq_true, decide_eq_true_eq] at ih
    simp only [sameB, List.length_cons, List.zip_cons_cons, List.all_cons, Bool.and_eq_true, decide_eq_true_eq, eqB_iff, List.cons.injEq]
    constructor
    · rintro ⟨h1, h2, h3⟩
      exact ⟨h2, ih.1 ⟨by omega, h3⟩⟩
    · rintro ⟨rfl, h2⟩
      obtain ⟨h3, h4⟩ := ih.2 h2
      exact ⟨by omega, rfl, h4⟩
theorem same_no {l m : List Nd} {k : Nat} {x y : Nd} (hx : l[k]? = some x) (hy : m[k]? = some y) (h : eqB x y = false) : sameB l m = false := by
  cases h1 : sameB l m
  · rfl
  · have := sameB_iff.1 h1
    subst this
    rw [hx] at hy
    injection hy with e
    subst e
    rw [eqB_self] at h
    cases h
theorem same_yes {l m : List Nd} (hl : l.length = m.length) (h : ∀ (k : Nat) (x y : Nd), l[k]? = some x → m[k]? = some y → eqB x y = true) : sameB l m = true := by
  rw [sameB_iff]
  apply List.ext_getElem?
  intro k
  cases hx : l[k]? with
  | none =>
    rw [List.getElem?_eq_none_iff] at hx
    rw [List.getElem?_eq_none (by omega)]
  | some x =>
    have hk := (List.getElem?_eq_some_iff.1 hx).1
    have hy : m[k]? = some (m[k]'(by omega)) := List.getElem?_eq_getElem (by omega)
    rw [hy, (eqB_iff _ _).1 (h k _ _ hx hy)]
attribute [local go_sem ↓] ldN_eq neN_eq
set_option maxHeartbeats 1000000 in
set_option maxRecDepth 100000 in
theorem same_any (A B : Option Addr) (l m : List Nd) (c d : Nat) (w : World) (hl : l.length ≤ 9223372036854775806) (hm : m.length ≤ 9223372036854775806) (hA : Seg w w.heap.size A (l.flatMap ncs)) (hB : Seg w w.heap.size B (m.flatMap ncs)) :
    Calls Tryz.prog 18 #[.slice A l.length c, .slice B m.length d] w fun e w' => e = .returned (.bool (sameB l m)) ∧ Below w.heap.size w w' := by
  by_cases hlen : l.length = m.length
  · have e1 : ((l.length : Int) != (m.length : Int)) = false := by simp [hlen]
    have HA := Lib.hid hA
    have HB := Lib.hid hB
    have HLEN := Lib.hid hlen
    clear hA hB
    generalize hn : l.length = n at *
    generalize hq : m.length = q at *
    have HN := Lib.hid hn
    have HQ := Lib.hid hq
    clear hn hq hlen
    obtain rfl : n = q := HLEN.out
    clear HLEN
    go_enter Tryz.func18, Tryz.ntmps18
    go_wp2_with fail
    go_loopw [5] (fun i wr => ∃ (k r : Nat), k ≤ n ∧ i = .int .i64 k ∧ wr = w.drewN r ∧ ∀ (j : Nat) (x y : Nd), j < k → l[j]? = some x → m[j]? = some y → eqB x y = true) (fun i _ => n - (intOf i).toNat)
    case atStart => exact ⟨0, 0, by omega, rfl, rfl, fun j x y hj => by omega⟩
    case round =>
      obtain ⟨k, r, hk, rfl, rfl, hall⟩ := hrel
      have HALL := Lib.hid hall
      clear hall
      by_cases hlt : k < n
      · obtain ⟨x, hx⟩ : ∃ x, l[k]? = some x := ⟨_, List.getElem?_eq_getElem (by rw [HN.out]; exact hlt)⟩
        obtain ⟨y, hy⟩ : ∃ y, m[k]? = some y := ⟨_, List.getElem?_eq_getElem (by rw [HQ.out]; exact hlt)⟩
        obtain ⟨b, off, rfl, hb, hnx⟩ := seg_node HA.out hx
        obtain ⟨b', off', rfl, hb', hny⟩ := seg_node HB.out hy
        have HX := Lib.hid hx
        have HY := Lib.hid hy
        have HNX := Lib.hid hnx
        have HNY := Lib.hid hny
        have hq := run_neN x y
        clear hx hy hnx hny
        cases he : eqB x y
        · rw [he] at hq
          have HE := Lib.hid he
          clear he
          go_wp2_with fail
          go_region_held3 (fun w' => (ldN ⟨b, off + k * 19, none⟩).run Tryz.prog w' = .ok (.agg (nc x)) w' ∧ (ldN ⟨b', off' + k * 19, none⟩).run Tryz.prog w' = .ok (.agg (nc y)) w') (exact ⟨run_ldN (NodeAt.drewN (NodeAt.drewN HNX.out r) 1), run_ldN (NodeAt.drewN (NodeAt.drewN HNY.out r) 1)⟩) (fail)
          go_wp2_with fail
          go_ret
          exact ⟨ret_bool (same_no HX.out HY.out HE.out).symm, below_drewN (below_drewN (Below.refl _ _) r) 1⟩
        · rw [he] at hq
          have HE := Lib.hid he
          clear he
          go_wp2_with fail
          go_region_held3 (fun w' => (ldN ⟨b, off + k * 19, none⟩).run Tryz.prog w' = .ok (.agg (nc x)) w' ∧ (ldN ⟨b', off' + k * 19, none⟩).run Tryz.prog w' = .ok (.agg (nc y)) w') (exact ⟨run_ldN (NodeAt.drewN (NodeAt.drewN HNX.out r) 1), run_ldN (NodeAt.drewN (NodeAt.drewN HNY.out r) 1)⟩) (fail)
          go_wp2_with fail
          go_roundw
          case rel =>
            refine ⟨k + 1, r + 1, by omega, by go_num, rfl, fun j x' y' hj hx' hy' => ?_⟩
            rcases Nat.lt_or_ge j k with h1 | h1
            · exact HALL.out j x' y' h1 hx' hy'
            · obtain rfl : j = k := by omega
              rw [HX.out] at hx'
              rw [HY.out] at hy'
              injection hx' with h2
              injection hy' with h3
              subst h2 h3
              exact HE.out
          case measure => simp [intOf]; omega
      · obtain rfl : k = n := by omega
        go_wp2_with fail
        go_ret
        refine ⟨ret_bool (same_yes (by rw [HN.out, HQ.out]) fun j x y hx hy => HALL.out j x y ?_ hx hy).symm, below_drewN (Below.refl _ _) r⟩
        have := (List.getElem?_eq_some_iff.1 hx).1
        rw [HN.out] at this
        exact this
  · have e1 : ((l.length : Int) != (m.length : Int)) = true := by
      rw [bne_iff_ne]
      omega
    have hs : sameB l m = false := by simp [sameB, hlen]
    have HS := Lib.hid hs
    clear hs hlen
    generalize l.length = n at *
    generalize m.length = q at *
    go_enter Tryz.func18, Tryz.ntmps18
    go_wp2_with fail
    go_ret
    exact ⟨ret_bool HS.out.symm, Below.refl _ _⟩
end Go.Proofs.YtoboecenlangmaaGreat.No
end
section
namespace Go.Proofs.YtoboecenlangmaaGreat.No
open Go.ChangeShapes Go.WideShapes Go.ChangeAt Go.RowKit
open Me Np
set_option linter.unusedVariables false
set_option linter.unusedSimpArgs false

/-- A node that no list has: what stands in the room behind a lent one. -/
def mk (k : Int) : Nd := { nz (-k) with text := ⟨#[114, 111, 111, 109]⟩ }
attribute [local go_sem ↓] bldN_eq
set_option maxRecDepth 100000 in
theorem marker_any (k : Int) (w : World) (hk : 0 ≤ k ∧ k ≤ 100) : Calls Tryz.prog 39 #[.int .i64 k] w fun e w' => e = .returned (.agg (nc (mk k))) ∧ Below w.heap.size w w' := by
  have hw : IntKind.i64.wrap (-k) = -k := IntWalk.i64_in _ (by omega)
  have hbn : ∀ w, (bldN #[(0, .int .i64 (-k)), (14, .string ⟨#[114, 111, 111, 109]⟩)]).run Tryz.prog w = .ok (.agg (nc (mk k))) w := fun w => by rw [← bldN_eq]; exact run_build w 101 _ _ (by kernel_rfl)
  go_enter Tryz.func39, Tryz.ntmps39
  go_wp2_with (first | (refine wpList_alloc_node rfl rfl ?_) | (refine wpList_store_node rfl _ _ rfl _ _ _ rfl rfl _ (by repeat (first | (apply Blk.new'; first | rfl | (simp; done)) | assumption | apply Blk.alloc)) ?_))
  exact bodyPost_ret (v := .agg (nc (mk k))) (results_node rfl _ _ _ _ rfl (by repeat (first | apply NodeAt.row | (apply Blk.new'; first | rfl | (simp; done)) | (apply Blk.node; apply Blk.new'; first | rfl | (simp; done)) | assumption | apply NodeAt.alloc))) rfl ⟨rfl, (by repeat (first | (refine below_setRow ?_ _ _ ?_; rotate_left; focus (simp; done)) | exact Below.refl _ _ | refine andAlloc ?_ _))⟩
end Go.Proofs.YtoboecenlangmaaGreat.No
end
section
namespace Go.Proofs.YtoboecenlangmaaGreat.No
open Go.ChangeShapes Go.WideShapes Go.ChangeAt Go.RowKit
open Me Np
set_option linter.unusedVariables false
set_option linter.unusedSimpArgs false

theorem next_two {n cap : Nat} (h : cap < n + 2) (hc : n ≤ cap) : Builtin.nextslicecap (n + 2) cap ≤ cap + cap / 4 + 520 := by
  unfold Builtin.nextslicecap
  split
  · omega
  · split
    · omega
    · rw [growBy_four]
      repeat' split
      all_goals omega
/-- A row of the call's own, two nodes longer. -/
theorem run_append_two {w : World} (ty : TypeId) (base : Nat) (hbase : base ≤ w.heap.size) (g n cap : Nat) (xs : List Value) (hown : w.ownsRow base 101 19 (.slice (some ⟨g, 0, none⟩) n cap) n xs) (hn : n ≤ 879609302220) (ad : Addr) (c : Nat) (l : List Nd) (hl2 : l.length = 2)
    (hc : ∀ j u, (l.flatMap ncs)[j]? = some u → w.cell? (ad.add j) = some u) :
    ∃ (g' cap' : Nat) (w' : World), (Builtin.append_ #[39, 39] ty #[.slice (some ⟨g, 0, none⟩) n cap, .slice (some ad) 2 c]).run Tryz.prog w = .ok (.slice (some ⟨g', 0, none⟩) (n + 2) cap') w' ∧
      w'.ownsRow base 101 19 (.slice (some ⟨g', 0, none⟩) (n + 2) cap') (n + 2) (xs ++ l.flatMap ncs) ∧ w.grownBy w' (some g) := by
  obtain ⟨i, hi, hz, hsi, hbi⟩ := info_parts node_row
  have hfl : (l.flatMap ncs).length = 38 := by rw [flat_length ncs_length, hl2]
  have hfl2 : (l.flatMap ncs).length = 2 * i.size := by rw [hfl, hsi]
  have hxs := hown.1
  have hcells := hown.cells (g := g) rfl
  rcases hown.2 with ⟨h, _⟩ | ⟨g0, cap0, cur, h, hg0, hg, hnc, hcm, hcs, htake⟩
  · simp at h
  simp only [Value.slice.injEq, Option.some.injEq, Addr.mk.injEq, and_true, true_and] at h
  obtain ⟨h1, h2⟩ := h
  subst h1; subst h2
  have hlen : (xs ++ l.flatMap ncs).length = (n + 2) * 19 := by rw [List.length_append, hxs, hfl]; omega
  by_cases hroom : n + 2 ≤ cap
  · have hr := run_append_room (P := Tryz.prog) w 39 ty 101 i Tryz.underlying39 hi g n cap cur hg ad 2 c (l.flatMap ncs) hfl2 hc (ncs_one l) hroom (by rw [hsi, hfl, hcs]; omega)
    refine ⟨g, cap, _, hr, ?_, ?_⟩
    · refine ⟨hlen, .inr ⟨g, cap, _, rfl, hg0, setRow_heap w g cur _ _ _ hg, hroom, hcm, ?_, ?_⟩⟩
      · have e : cur.toList.length = cap * 19 := by rw [← hcs]; simp
        simp only [List.size_toArray, List.length_append, List.length_take, List.length_drop, hfl, hsi, e]
        omega
      · rw [hsi]
        simp only [htake]
        rw [← hlen]
        exact List.take_left
    · exact ⟨rfl, rfl, rfl, by simp, fun k _ hk => setRow_other w g k _ (fun e => hk (by rw [e]))⟩
  · have hfit : Builtin.nextslicecap (n + 2) cap * i.bytes ≤ 281474976710656 := by
      have h1 := next_two (n := n) (cap := cap) (by omega) hnc
      rw [hbi]
      omega
    have hr := run_append_grow (P := Tryz.prog) w 39 ty 101 i _ Tryz.underlying39 hi hz ⟨g, 0, none⟩ n cap xs (by rw [hsi]; exact hxs) hcells ad 2 c (l.flatMap ncs) hfl2 hc (by omega) (by omega) hfit
    have hge := grownCap_ge w (n + 2) cap 101
    have hle := grownCap_le_maxLen w (n + 2) cap 101 (by simp only [maxLen]; omega)
    refine ⟨w.heap.size, _, _, hr, ?_, ?_⟩
    · refine ⟨hlen, .inr ⟨w.heap.size, _, _, rfl, hbase, heap_alloc_new w.drew _, hge, hle, ?_, ?_⟩⟩
      · rw [Array.size_append, Array.size_append, size_zeroCells, List.size_toArray, List.size_toArray, hxs, hfl, show (Value.agg (nc (nz 0))).cells.size = 19 from rfl]
        omega
      · rw [Array.toList_append, Array.toList_append]
        simp only
        rw [← hlen]
        exact List.take_left
    · exact ⟨rfl, rfl, rfl, by simp, fun k hk _ => heap_alloc_old w.drew _ hk⟩
end Go.Proofs.YtoboecenlangmaaGreat.No
end
section
namespace Go.Proofs.YtoboecenlangmaaGreat.No
open Go.ChangeShapes Go.WideShapes Go.ChangeAt Go.RowKit
open Me Np
set_option linter.unusedVariables false
set_option linter.unusedSimpArgs false

def marks : List Nd := [mk 7, mk 8]
/-- What Lent answers: a row of the call's own, the list and the two marks; the slice is the list alone. -/
def MadeT (w : World) (l : List Nd) (e : Ending) (w' : World) : Prop :=
  ∃ g cap, e = .returned (.slice (some ⟨g, 0, none⟩) l.length cap) ∧ l.length + 2 ≤ cap ∧ cap ≤ maxLen ∧ w'.ownsRow w.heap.size 101 19 (.slice (some ⟨g, 0, none⟩) (l.length + 2) cap) (l.length + 2) ((l ++ marks).flatMap ncs) ∧ Below w.heap.size w w'
/-- 'append' of a whole slice that came in to an empty one, as long as the reach lets it be. -/
theorem run_append_all {w : World} (ty : TypeId) (base g : Nat) (hbase : base ≤ w.heap.size) (hown : w.ownsRow base 101 19 (.slice (some ⟨g, 0, none⟩) 0 0) 0 []) (B : Nat) (A : Option Addr) (c : Nat) (l : List Nd) (hs : Seg w B A (l.flatMap ncs)) (hA : A = none → c = 0) (hl : l.length ≤ 879609302220) :
    ∃ g' cap w', (Builtin.append_ #[39, 39] ty #[.slice (some ⟨g, 0, none⟩) 0 0, .slice A l.length c]).run Tryz.prog w = .ok (.slice (some ⟨g', 0, none⟩) l.length cap) w' ∧ w'.ownsRow base 101 19 (.slice (some ⟨g', 0, none⟩) l.length cap) l.length (l.flatMap ncs) ∧ w.grownBy w' (some g) := by
  obtain ⟨i, hi, hz, hsi, hbi⟩ := info_parts node_row
  have hl0 : l.flatMap ncs = [] → l = [] := fun h => by
    have := flat_length ncs_length l
    rw [h] at this
    simp only [List.length_nil] at this
    exact List.eq_nil_of_length_eq_zero (by omega)
  cases A with
  | none =>
    obtain rfl := hA rfl
    have hl : l = [] := by
      rcases hs with h | ⟨b, off, e, _⟩
      · exact hl0 h
      · cases e
    subst hl
    exact ⟨g, 0, w, run_append_owned_none w base 39 ty 101 i 19 Tryz.underlying39 hi _ 0 [] hown, hown, rfl, rfl, rfl, Nat.le_refl _, fun k _ _ => rfl⟩
  | some ad =>
    have hc : ∀ j u, (l.flatMap ncs)[j]? = some u → w.cell? (ad.add j) = some u := by
      rcases hs with h | ⟨b, off, e, _, h⟩
      · intro j u hu
        rw [h] at hu
        simp at hu
      · injection e with e
        subst e
        intro j u hu
        have hadd : (⟨b, off, none⟩ : Addr).add j = ⟨b, off + j, none⟩ := by unfold Addr.add; split <;> simp_all
        rw [hadd]
        exact h j u hu
    obtain ⟨v', w', hr, h2, h3, h4⟩ := run_append_own (P := Tryz.prog) w base 39 ty 101 i _ 19 160 Tryz.underlying39 hi hz hsi hbi rfl (by decide) _ 0 [] hown ad l.length c (l.flatMap ncs) (flat_length ncs_length l) hc (ncs_one l) (by simp only [maxLen]; omega) (by omega) hbase
    simp only [Nat.zero_add, List.nil_append] at h2
    rcases id h2.2 with ⟨rfl, h0⟩ | ⟨g', cap, cur, rfl, _⟩
    · exact absurd (h4.1 rfl).1 (by simp)
    · exact ⟨g', cap, w', hr, h2, h3⟩
theorem wpList_append_all {ops : Array Oper} {rest : List Oper} {o : Oper} {a : Act} {w : World} {Q : Exit → Act → World → Prop} (hgd : o.guard = none) (s x : Operand) (ho : o.op = .call { callee := .builtin .append, args := #[s, x], argTypes := #[39, 39] })
    (base g : Nat) (hbase : base ≤ w.heap.size) (hs : a.eval s = .slice (some ⟨g, 0, none⟩) 0 0) (hown : w.ownsRow base 101 19 (.slice (some ⟨g, 0, none⟩) 0 0) 0 []) (B : Nat) (A : Option Addr) (c len : Nat) (l : List Nd) (hx : a.eval x = .slice A len c) (hlen : len = l.length) (hseg : Seg w B A (l.flatMap ncs)) (hA : A = none → c = 0) (hl : l.length ≤ 879609302220)
    (h : ∀ g' cap w', w'.ownsRow base 101 19 (.slice (some ⟨g', 0, none⟩) len cap) len (l.flatMap ncs) → w.grownBy w' (some g) → wpList Tryz.prog ops Q rest (a.put o.dst (.slice (some ⟨g', 0, none⟩) len cap)) w') : wpList Tryz.prog ops Q (o :: rest) a w :=
  wpList_plain hgd fun K hK => by
    subst hlen
    obtain ⟨g', cap, w', hr, h2, h3⟩ := run_append_all o.type base g hbase hown B A c l hseg hA hl
    unfold Oper.wp execOp
    simp only [ho, resolve, invoke, builtin, Sem.run_bind, Sem.run_pure, Result.andThen_ok, List.map_toArray, List.map_cons, List.map_nil, hs, hx, hr]
    exact hK _ _ (h g' cap w' h2 h3)
theorem wpList_append_two {ops : Array Oper} {rest : List Oper} {o : Oper} {a : Act} {w : World} {Q : Exit → Act → World → Prop} (hgd : o.guard = none) (s x : Operand) (ho : o.op = .call { callee := .builtin .append, args := #[s, x], argTypes := #[39, 39] })
    (base g n cap : Nat) (hbase : base ≤ w.heap.size) (xs : List Value) (hs : a.eval s = .slice (some ⟨g, 0, none⟩) n cap) (hown : w.ownsRow base 101 19 (.slice (some ⟨g, 0, none⟩) n cap) n xs) (hn : n ≤ 879609302220) (ad : Addr) (c : Nat) (l : List Nd) (hx : a.eval x = .slice (some ad) 2 c) (hl2 : l.length = 2) (hc : ∀ j u, (l.flatMap ncs)[j]? = some u → w.cell? (ad.add j) = some u)
    (h : ∀ g' cap' w', w'.ownsRow base 101 19 (.slice (some ⟨g', 0, none⟩) (n + 2) cap') (n + 2) (xs ++ l.flatMap ncs) → w.grownBy w' (some g) → wpList Tryz.prog ops Q rest (a.put o.dst (.slice (some ⟨g', 0, none⟩) (n + 2) cap')) w') : wpList Tryz.prog ops Q (o :: rest) a w :=
  wpList_plain hgd fun K hK => by
    obtain ⟨g', cap', w', hr, h2, h3⟩ := run_append_two o.type base hbase g n cap xs hown hn ad c l hl2 hc
    unfold Oper.wp execOp
    simp only [ho, resolve, invoke, builtin, Sem.run_bind, Sem.run_pure, Result.andThen_ok, List.map_toArray, List.map_cons, List.map_nil, hs, hx, hr]
    exact hK _ _ (h g' cap' w' h2 h3)
end Go.Proofs.YtoboecenlangmaaGreat.No
end
section
namespace Go.Proofs.YtoboecenlangmaaGreat.No
open Go.ChangeShapes Go.WideShapes Go.ChangeAt Go.RowKit
open Me Np
set_option linter.unusedVariables false
set_option linter.unusedSimpArgs false

theorem own_cap {w : World} {base : Nat} {e : TypeId} {size g n c : Nat} {xs : List Value} (h : w.ownsRow base e size (.slice (some ⟨g, 0, none⟩) n c) n xs) : n ≤ c ∧ c ≤ maxLen := by
  rcases h.2 with ⟨h', _⟩ | ⟨g', cap', cur, h', _, _, hnc, hcm, _, _⟩
  · simp at h'
  · simp only [Value.slice.injEq, Option.some.injEq, Addr.mk.injEq, and_true, true_and] at h'
    obtain ⟨rfl, rfl⟩ := h'
    exact ⟨hnc, hcm⟩
set_option maxHeartbeats 1000000 in
set_option maxRecDepth 100000 in
theorem lent_any (A : Option Addr) (l : List Nd) (c : Nat) (w : World) (hl : l.length ≤ 879609302220) (hA : A = none → c = 0) (hseg : Seg w w.heap.size A (l.flatMap ncs)) :
    Calls Tryz.prog 15 #[.slice A l.length c] w (MadeT w l) := by
  have HL := Lib.hid (rfl : l.length = l.length)
  have HA := Lib.hid hA
  have HO0 := Lib.hid (by simpa using World.ownsRow_made w #[] 0 (e := 101) (size := 19) (Nat.le_refl _) (by simp [maxLen]) (by simp) : (w.alloc (.cells #[] 101)).ownsRow w.heap.size 101 19 (.slice (some ⟨w.heap.size, 0, none⟩) 0 0) 0 [])
  have HSG := Lib.hid (Seg.below hseg (andAlloc (Below.refl _ _) (.cells #[] 101)))
  unfold MadeT
  clear hseg hA HL
  generalize hlen : l.length = len at *
  have HL := Lib.hid hlen
  clear hlen
  go_enter Tryz.func15, Tryz.ntmps15
  go_wp2_with (first
    | (at_builtin; refine wpList_append_all rfl (.tmp 4) (.tmp 5) rfl w.heap.size w.heap.size ?_ rfl HO0.out w.heap.size A c len l rfl HL.out.symm HSG.out HA.out ?_ ?_; simp; (rw [HL.out]; exact hl); intro g1 cap1 W1 hown1 hg1))
  have hlw1 : Below w.heap.size w W1 := below_grown (Nat.le_refl _) (andAlloc (Below.refl _ _) _) hg1 (fun k hk => by injection hk with hk; omega)
  have HO1 := Lib.hid hown1
  clear hown1 hg1
  refine (marker_any 7 _ (by omega)).mono ?_
  rintro e w2 ⟨rfl, hb2⟩
  have hlw2 := andThen hlw1 hb2
  have HO2 := Lib.hid (own_below HO1.out hb2)
  clear hb2 hlw1
  go_wp2_with fail
  refine (marker_any 8 _ (by omega)).mono ?_
  rintro e w3 ⟨rfl, hb3⟩
  have HLW3 := Lib.hid (andThen hlw2 hb3)
  have HO3 := Lib.hid (own_below (own_below HO2.out hb3) (andAlloc (Below.refl _ _) (.cells (marks.flatMap ncs).toArray 101)))
  have HLW4 := Lib.hid (andAlloc HLW3.out (.cells (marks.flatMap ncs).toArray 101))
  have hcc : ∀ j u, (marks.flatMap ncs)[j]? = some u → (w3.alloc (.cells (marks.flatMap ncs).toArray 101)).cell? ((⟨w3.heap.size, 0, none⟩ : Addr).add j) = some u := by
    intro j u hu
    have hadd : (⟨w3.heap.size, 0, none⟩ : Addr).add j = ⟨w3.heap.size, j, none⟩ := by unfold Addr.add; split <;> simp_all
    rw [hadd, (Blk.new w3 _ _).cell j]
    simpa using hu
  have HCC := Lib.hid hcc
  clear hb3 hlw2 HO2 HO1 hcc
  go_wp2_with (first
    | (refine wpList_ex (o := ⟨some 10, _, _, _, _, _⟩) (v := .slice (some ⟨w3.heap.size, 0, none⟩) 2 2) (w' := w3.alloc (.cells (marks.flatMap ncs).toArray 101)) rfl (by kernel_rfl) ?_)
    | (at_builtin; refine wpList_append_two rfl (.tmp 7) (.tmp 10) rfl w.heap.size g1 len cap1 ?_ _ rfl HO3.out ?_ ⟨w3.heap.size, 0, none⟩ 2 marks rfl rfl HCC.out ?_; (have hh := HLW4.out.size; exact hh); exact hl; intro g2 cap2 W4 hown4 hg4; have hcp := own_cap hown4))
  have hlt := HO3.out.lt g1 rfl
  have HLF := Lib.hid (below_grown (Nat.le_refl _) HLW4.out hg4 (fun k hk => by injection hk with hk; omega) : Below w.heap.size w W4)
  have HOF := Lib.hid hown4
  clear hg4 hown4 hlt
  go_ret
  exact ⟨g2, cap2, rfl, hcp.1, hcp.2, by rw [List.flatMap_append]; exact HOF.out, HLF.out⟩
end Go.Proofs.YtoboecenlangmaaGreat.No
end
section
namespace Go.Proofs.YtoboecenlangmaaGreat.No
open Go.ChangeShapes Go.WideShapes Go.ChangeAt Go.RowKit
open Me Np
set_option linter.unusedVariables false
set_option linter.unusedSimpArgs false
theorem keepY {w W W' : World} {g len : Nat} (hb : Below W.heap.size W W') (hS : (ldN ⟨g, len * 19, none⟩).run Tryz.prog W = .ok (.agg (nc (mk 7))) W ∧ (ldN ⟨g, (len + 1) * 19, none⟩).run Tryz.prog W = .ok (.agg (nc (mk 8))) W ∧ NodeAt W g (len * 19) (mk 7) ∧ NodeAt W g ((len + 1) * 19) (mk 8) ∧ Below w.heap.size w W) : (ldN ⟨g, len * 19, none⟩).run Tryz.prog W' = .ok (.agg (nc (mk 7))) W' ∧ (ldN ⟨g, (len + 1) * 19, none⟩).run Tryz.prog W' = .ok (.agg (nc (mk 8))) W' ∧ NodeAt W' g (len * 19) (mk 7) ∧ NodeAt W' g ((len + 1) * 19) (mk 8) ∧ Below w.heap.size w W' := by
  obtain ⟨_, _, h3, h4, h5⟩ := hS
  have g3 := h3.below hb h3.lt
  have g4 := h4.below hb h4.lt
  exact ⟨run_ldN g3, run_ldN g4, g3, g4, andThen h5 hb⟩
theorem keepYb {w W : World} {g len : Nat} (hS : (ldN ⟨g, len * 19, none⟩).run Tryz.prog W = .ok (.agg (nc (mk 7))) W ∧ (ldN ⟨g, (len + 1) * 19, none⟩).run Tryz.prog W = .ok (.agg (nc (mk 8))) W ∧ NodeAt W g (len * 19) (mk 7) ∧ NodeAt W g ((len + 1) * 19) (mk 8) ∧ Below w.heap.size w W) : Below w.heap.size w W := hS.2.2.2.2
theorem drewY {w W : World} {g len : Nat} (hS : (ldN ⟨g, len * 19, none⟩).run Tryz.prog W = .ok (.agg (nc (mk 7))) W ∧ (ldN ⟨g, (len + 1) * 19, none⟩).run Tryz.prog W = .ok (.agg (nc (mk 8))) W ∧ NodeAt W g (len * 19) (mk 7) ∧ NodeAt W g ((len + 1) * 19) (mk 8) ∧ Below w.heap.size w W) : (ldN ⟨g, len * 19, none⟩).run Tryz.prog W.drew = .ok (.agg (nc (mk 7))) W.drew ∧ (ldN ⟨g, (len + 1) * 19, none⟩).run Tryz.prog W.drew = .ok (.agg (nc (mk 8))) W.drew ∧ NodeAt W.drew g (len * 19) (mk 7) ∧ NodeAt W.drew g ((len + 1) * 19) (mk 8) ∧ Below w.heap.size w W.drew := keepY (below_drewN (Below.refl _ _) 1) hS
attribute [local go_sem ↓] ldN_eq eqN_eq
set_option maxHeartbeats 2000000 in
set_option maxRecDepth 100000 in
theorem stays_any (g cap : Nat) (A : Option Addr) (l : List Nd) (c : Nat) (w : World) (hl : l.length ≤ 879609302220) (hcap : l.length + 2 ≤ cap) (hcm : cap ≤ maxLen) (hx : Seg w w.heap.size (some ⟨g, 0, none⟩) ((l ++ marks).flatMap ncs)) (hseg : Seg w w.heap.size A (l.flatMap ncs)) :
    Calls Tryz.prog 20 #[.slice (some ⟨g, 0, none⟩) l.length cap, .slice A l.length c] w fun e w' => e = .returned (.bool true) ∧ Below w.heap.size w w' := by
  have hn7 : NodeAt w g (l.length * 19) (mk 7) := by
    obtain ⟨b, off, e, _, h⟩ := seg_node (k := l.length) (n := mk 7) hx (by rw [List.getElem?_append_right (Nat.le_refl _), Nat.sub_self]; rfl)
    injection e with e
    injection e with e1 e2
    subst e1; subst e2
    simpa using h
  have hn8 : NodeAt w g ((l.length + 1) * 19) (mk 8) := by
    obtain ⟨b, off, e, _, h⟩ := seg_node (k := l.length + 1) (n := mk 8) hx (by rw [List.getElem?_append_right (by omega), show l.length + 1 - l.length = 1 by omega]; rfl)
    injection e with e
    injection e with e1 e2
    subst e1; subst e2
    simpa using h
  have hxs : Seg w w.heap.size (some ⟨g, 0, none⟩) (l.flatMap ncs) := by
    have h := Seg.take hx (l.length * 19)
    rw [← flat_take ncs_length, List.take_left] at h
    exact h
  have HSM := Lib.hid fun w1 (h : Below w.heap.size w w1) => same_any (some ⟨g, 0, none⟩) A l l cap c w1 (by omega) (by omega) (Seg.belowW hxs h) (Seg.belowW hseg h)
  rw [show sameB l l = true from sameB_iff.2 rfl] at HSM
  have HS0 := Lib.hid (show (ldN ⟨g, l.length * 19, none⟩).run Tryz.prog w = .ok (.agg (nc (mk 7))) w ∧ (ldN ⟨g, (l.length + 1) * 19, none⟩).run Tryz.prog w = .ok (.agg (nc (mk 8))) w ∧ NodeAt w g (l.length * 19) (mk 7) ∧ NodeAt w g ((l.length + 1) * 19) (mk 8) ∧ Below w.heap.size w w from ⟨run_ldN hn7, run_ldN hn8, hn7, hn8, Below.refl _ _⟩)
  have hq7 := run_eqN (mk 7) (mk 7)
  have hq8 := run_eqN (mk 8) (mk 8)
  rw [eqB_self] at hq7 hq8
  have hwr : IntKind.i64.wrap ((l.length : Int) + 2) = l.length + 2 := IntWalk.i64_in _ (by omega)
  have hwr1 : IntKind.i64.wrap ((l.length : Int) + 1) = l.length + 1 := IntWalk.i64_in _ (by omega)
  clear hx hseg hxs hn7 hn8
  generalize l.length = len at *
  have hc1 : (len : Int) + 2 ≤ cap := by omega
  have hc2 : (len : Int) ≤ cap := by omega
  have t2 : ((len : Int) + 2).toNat = len + 2 := by omega
  have t1 : ((len : Int) + 1).toNat = len + 1 := by omega
  have i0 : (0 : Int) ≤ (len : Int) := by omega
  have i1 : (len : Int) < (len : Int) + 2 := by omega
  have i2 : (len : Int) < ((len + 2 : Nat) : Int) := by omega
  have i3 : (0 : Int) ≤ (len : Int) + 1 := by omega
  have i4 : (len : Int) + 1 < (len : Int) + 2 := by omega
  have i5 : (len : Int) + 1 < ((len + 2 : Nat) : Int) := by omega
  go_enter Tryz.func20, Tryz.ntmps20
  go_wp2_with fail
  go_region_held3 (fun w' => (ldN ⟨g, len * 19, none⟩).run Tryz.prog w' = .ok (.agg (nc (mk 7))) w' ∧ (ldN ⟨g, (len + 1) * 19, none⟩).run Tryz.prog w' = .ok (.agg (nc (mk 8))) w' ∧ NodeAt w' g (len * 19) (mk 7) ∧ NodeAt w' g ((len + 1) * 19) (mk 8) ∧ Below w.heap.size w w') (first
      | exact drewY HS0.out
      | exact ⟨by assumption, by assumption, by assumption, by assumption, by assumption⟩
      | exact drewY (w := w) (g := g) (len := len) (by assumption)
      | go_keep) (first
    | (go_at_call 18; refine (HSM.out _ ?_).mono ?_; (refine keepYb (w := w) (g := g) (len := len) ?_; assumption); rintro e wz ⟨rfl, hbz⟩; have hkz := keepY (w := w) (g := g) (len := len) hbz (by assumption); obtain ⟨k0, k1, k2, k3, k4⟩ := hkz)
    | (go_at_call_of 39 (Value.int .i64 7); refine (marker_any 7 _ (by omega)).mono ?_; rintro e wz ⟨rfl, hbz⟩; have hkz := keepY (w := w) (g := g) (len := len) hbz (by assumption); obtain ⟨k0, k1, k2, k3, k4⟩ := hkz)
    | (go_at_call_of 39 (Value.int .i64 8); refine (marker_any 8 _ (by omega)).mono ?_; rintro e wz ⟨rfl, hbz⟩; have hkz := keepY (w := w) (g := g) (len := len) hbz (by assumption); obtain ⟨k0, k1, k2, k3, k4⟩ := hkz))
  all_goals
    go_wp2_with fail
    go_ret
    exact ⟨ret_bool (by simp), by assumption⟩
end Go.Proofs.YtoboecenlangmaaGreat.No
end
section
namespace Go.Proofs.YtoboecenlangmaaGreat.No
open Go.ChangeShapes Go.WideShapes Go.ChangeAt Go.RowKit
open Me Np
set_option linter.unusedVariables false
set_option linter.unusedSimpArgs false

theorem Seg.far {w w' : World} {B : Nat} {A : Option Addr} {xs : List Value} {g : Nat} (h : Seg w B A xs) (hg : w.grownBy w' (some g)) (hB : B ≤ w.heap.size) (hne : ∀ a, A = some a → a.block ≠ g) : Seg w' w'.heap.size A xs := by
  rcases h with h | ⟨b, off, rfl, hb, hc⟩
  · exact .inl h
  · have hs := hg.size
    have := hne _ rfl
    refine .inr ⟨b, off, rfl, by omega, fun j u hu => ?_⟩
    exact (World.cell?_of_block (hg.block b (by omega) (by intro e; injection e with e; exact this e))).trans (hc j u hu)
theorem Seg.low {w w' : World} {B : Nat} {A : Option Addr} {xs : List Value} {g : Nat} (h : Seg w B A xs) (hg : w.grownBy w' (some g)) (hB : B ≤ w.heap.size) (hgB : B ≤ g) : Seg w' w'.heap.size A xs := by
  rcases h with h | ⟨b, off, rfl, hb, hc⟩
  · exact .inl h
  · have hs := hg.size
    refine .inr ⟨b, off, rfl, by omega, fun j u hu => ?_⟩
    exact (World.cell?_of_block (hg.block b (by omega) (by intro e; injection e with e; omega))).trans (hc j u hu)
/-- A row of one's own, elsewhere. -/
theorem own_far {w w' : World} {base n g : Nat} {v : Value} {xs : List Value} (h : w.ownsRow base 101 19 v n xs) (hg : w.grownBy w' (some g)) (hb : g < base) : w'.ownsRow base 101 19 v n xs := by
  refine h.kept hg ?_
  cases hv : v.ownBlock with
  | none => exact .inl rfl
  | some q =>
    refine .inr ?_
    intro e
    injection e with e
    have := (h.lt q hv).1
    omega
theorem src_of_seg {w : World} {g c : Nat} {l : List Nd} (h : Seg w w.heap.size (some ⟨g, 0, none⟩) (l.flatMap ncs)) : Src w (some ⟨g, 0, none⟩) c l := by
  rcases h with h | ⟨b, off, e, hb, hc⟩
  · refine .inl ⟨g, 0, rfl, .inl ?_, by rw [h]; simp⟩
    have h2 := congrArg List.length h
    rw [flat_length ncs_length] at h2
    exact List.eq_nil_of_length_eq_zero (by simp at h2; omega)
  · injection e with e
    injection e with e1 e2 _
    subst e1
    subst e2
    exact .inl ⟨g, 0, rfl, .inr hb, hc⟩
theorem seg_of {w : World} {base n c : Nat} {A : Option Addr} {xs : List Value} (h : w.ownsRow base 101 19 (.slice A n c) n xs) : Seg w w.heap.size A xs := by
  obtain ⟨A1, c1, e, _, _, hs⟩ := Seg.of_own h
  injection e with e _ _
  subst e
  exact hs
theorem own_lt {w : World} {base n : Nat} {e : TypeId} {size : Nat} {v : Value} {xs : List Value} (h : w.ownsRow base e size v n xs) : ∀ q, v.ownBlock = some q → base ≤ q ∧ q < w.heap.size := fun q hq => h.lt q hq
theorem away_lt {a b : Value} {B : Nat} (ha : ∀ q, a.ownBlock = some q → q < B) (hb : ∀ q, b.ownBlock = some q → B ≤ q) : Away a b.ownBlock ∧ Away b a.ownBlock := by
  cases h1 : a.ownBlock with
  | none => exact ⟨.inl h1, away_none _⟩
  | some p =>
    cases h2 : b.ownBlock with
    | none => exact ⟨away_none _, .inl h2⟩
    | some q =>
      have e1 := ha p h1
      have e2 := hb q h2
      refine ⟨.inr ?_, .inr ?_⟩
      · rw [h1]; intro e; injection e with e; omega
      · rw [h2]; intro e; injection e with e; omega
theorem sameB_self (l : List Nd) : sameB l l = true := sameB_iff.2 rfl
end Go.Proofs.YtoboecenlangmaaGreat.No
end
section
namespace Go.Proofs.YtoboecenlangmaaGreat.Pk
open Go.ChangeShapes Go.WideShapes Go.ChangeAt Go.RowKit
open Me Np No
set_option linter.unusedVariables false
set_option linter.unusedSimpArgs false

/-- Four rows of the call's own, two and two that read alike. -/
structure Two (base : Nat) (va vb ua ub : Value) (La Lb : List Nd) (w : World) : Prop where
  oa : w.ownsRow base 101 19 va La.length (La.flatMap ncs)
  ob : w.ownsRow base 101 19 vb Lb.length (Lb.flatMap ncs)
  pa : w.ownsRow base 101 19 ua La.length (La.flatMap ncs)
  pb : w.ownsRow base 101 19 ub Lb.length (Lb.flatMap ncs)
theorem Two.below {base : Nat} {va vb ua ub : Value} {La Lb : List Nd} {w w' : World} (h : Two base va vb ua ub La Lb w) (hb : Below w.heap.size w w') : Two base va vb ua ub La Lb w' :=
  ⟨own_below h.oa hb, own_below h.ob hb, own_below h.pa hb, own_below h.pb hb⟩
theorem Two.far {base : Nat} {va vb ua ub : Value} {La Lb : List Nd} {w w' : World} {g : Nat} (h : Two base va vb ua ub La Lb w) (hg : w.grownBy w' (some g)) (hb : g < base) : Two base va vb ua ub La Lb w' :=
  ⟨own_far h.oa hg hb, own_far h.ob hg hb, own_far h.pa hg hb, own_far h.pb hg hb⟩
def two {α : Type} (a b : α) : Nat → α
  | 0 => a
  | _ => b
theorem two_list {α : Type} (a b : α) : ((List.range 2).map (two a b)).toArray = #[a, b] := rfl
theorem dist2 {va vb : Value} (h : va.ownBlock = none ∨ va.ownBlock ≠ vb.ownBlock) (h' : vb.ownBlock = none ∨ vb.ownBlock ≠ va.ownBlock) : Dist 2 (two va vb) := by
  intro i j hi hj hne
  have h1 : i = 0 ∨ i = 1 := by omega
  have h2 : j = 0 ∨ j = 1 := by omega
  rcases h1 with rfl | rfl <;> rcases h2 with rfl | rfl <;> first
    | exact absurd rfl hne
    | exact h
    | exact h'
end Go.Proofs.YtoboecenlangmaaGreat.Pk
end
section
namespace Go.Proofs.YtoboecenlangmaaGreat.Pk
open Go.ChangeShapes Go.WideShapes Go.ChangeAt Go.RowKit
open Me Np No
set_option linter.unusedVariables false
set_option linter.unusedSimpArgs false

set_option maxHeartbeats 4000000 in
set_option maxRecDepth 100000 in
theorem cols_walk (A : Option Addr) (l : List Nd) (c : Nat) (tw : Int) (ex : Bool) (most : Int) (w : World) (hl : l.length ≤ 879609302220) (hcap : l.length ≤ c) (hA : A = none → c = 0) (hseg : Seg w w.heap.size A (l.flatMap ncs)) :
    Calls Tryz.prog 5 #[.slice A l.length c, .int .i64 tw, .bool ex, .int .i64 most] w fun e w' => e = .returned (.bool true) ∧ Below w.heap.size w w' := by
  obtain ⟨⟨La, bad, ov, E⟩, hLa, P1, P2⟩ := vpack_case l tw ex most hl
  obtain ⟨⟨Lb, bad2, ov2, E2⟩, hLb, Q1, Q2⟩ := vtop_case l tw ex most hl
  simp only at hLa hLb
  have HP1 := Lib.hid P1
  have HP2 := Lib.hid P2
  have HQ1 := Lib.hid Q1
  have HQ2 := Lib.hid Q2
  have HLN := Lib.hid (And.intro hLa hLb)
  have HLE := Lib.hid (lent_any A l c w hl hA hseg)
  have HSG := Lib.hid hseg
  have HA := Lib.hid hA
  have hl' := Lib.hid hl
  clear P1 P2 Q1 Q2 hLa hLb hseg hA
  generalize hlen : l.length = len at *
  have HL := Lib.hid hlen
  clear hlen
  go_enter Tryz.func5, Tryz.ntmps5
  go_wp2_with fail
  refine HLE.out.mono ?_
  rintro e w1 ⟨g, cap, rfl, hc2, hcm, hown, hb1⟩
  rw [HL.out] at hc2 ⊢
  have HG := Lib.hid (show w.heap.size ≤ g ∧ g < w1.heap.size by have := hown.lt g rfl; omega)
  have HX := Lib.hid hown
  have HXS := Lib.hid (fun w2 (h : Below w1.heap.size w1 w2) => show Seg w2 w2.heap.size (some ⟨g, 0, none⟩) (l.flatMap ncs) by
    obtain ⟨A1, c1, e5, _, _, hs1⟩ := Seg.of_own HX.out
    simp only [Value.slice.injEq, true_and] at e5
    obtain ⟨e6, e7⟩ := e5
    subst e6; subst e7
    have h := Seg.take (Seg.belowW hs1 h) (l.length * 19)
    rw [← flat_take ncs_length, List.take_left] at h
    exact h)
  have HCC := Lib.hid (And.intro hc2 hcm)
  have HB1 := Lib.hid hb1
  have hlc : len ≤ cap := by omega
  clear hown hb1 hc2 hcm HLE
  go_wp2_with fail
  refine (HP1.out (some ⟨g, 0, none⟩) cap w1 hlc (src_of_seg (HXS.out _ (Below.refl _ _)))).mono ?_
  rintro e w2 ⟨va, rfl, oa, hb2⟩
  have OA := Lib.hid oa
  have HB2 := Lib.hid hb2
  clear oa hb2 HP1
  simp only
  go_wp2_with fail
  refine (HP2.out A c w2 hcap (Seg.belowW HSG.out (andThen HB1.out HB2.out)) HA.out).mono ?_
  rintro e w3 ⟨ua, rfl, oua, hb3⟩
  have OUA := Lib.hid oua
  have HB3 := Lib.hid hb3
  have HB13 := Lib.hid (andThen HB2.out hb3)
  clear oua hb3 HP2
  simp only
  go_wp2_with fail
  refine (HQ1.out (some ⟨g, 0, none⟩) cap w3 hlc (src_of_seg (HXS.out _ HB13.out))).mono ?_
  rintro e w4 ⟨vb, rfl, ob, hb4⟩
  have OB := Lib.hid ob
  have HB4 := Lib.hid hb4
  have HB14 := Lib.hid (andThen HB13.out hb4)
  clear ob hb4 HQ1
  simp only
  go_wp2_with fail
  refine (HQ2.out A c w4 hcap (Seg.belowW HSG.out (andThen HB1.out HB14.out)) HA.out).mono ?_
  rintro e w5 ⟨ub, rfl, oub, hb5⟩
  have OUB := Lib.hid oub
  have HB5 := Lib.hid hb5
  have HB15 := Lib.hid (andThen HB14.out hb5)
  clear oub hb5 HQ2
  have HB35 := Lib.hid (andThen HB4.out HB5.out)
  have HB25 := Lib.hid (andThen HB3.out HB35.out)
  have s2 := HB2.out.size
  have s3 := HB13.out.size
  have s4 := HB14.out.size
  have HDS := Lib.hid (dist2 (away_lt (a := va) (b := vb) (B := w2.heap.size) (fun q hq => (OA.out.lt q hq).2) (fun q hq => Nat.le_trans HB3.out.size (OB.out.lt q hq).1)).1 (away_lt (a := va) (b := vb) (B := w2.heap.size) (fun q hq => (OA.out.lt q hq).2) (fun q hq => Nat.le_trans HB3.out.size (OB.out.lt q hq).1)).2)
  obtain ⟨Aa, xa, e0, _⟩ := own_val OA.out
  obtain ⟨Ab, xb, e1, _⟩ := own_val OB.out
  obtain ⟨Ua, ya, f0, _⟩ := own_val OUA.out
  obtain ⟨Ub, yb, f1, _⟩ := own_val OUB.out
  simp only at e0 e1 f0 f1
  subst e0 e1 f0 f1
  have HTW := Lib.hid (show Two w1.heap.size (.slice Aa La.length xa) (.slice Ab Lb.length xb) (.slice Ua La.length ya) (.slice Ub Lb.length yb) La Lb w5 from ⟨own_below OA.out HB25.out, own_base (own_below OB.out HB5.out) s3, own_base (own_below OUA.out HB35.out) s2, own_base OUB.out s4⟩)
  have hla : La.length ≤ 9223372036854775806 := by have := HLN.out.1; omega
  have hlb : Lb.length ≤ 9223372036854775806 := by have := HLN.out.2; omega
  clear OA OB OUA OUB HXS HB25 HB35 s2 s3 s4
  simp only
  go_wp2_with fail
  refine (same_any Aa Ua La La xa ya w5 hla hla (seg_of HTW.out.oa) (seg_of HTW.out.pa)).mono ?_
  rintro e w6 ⟨rfl, hb6⟩
  rw [sameB_self]
  have HT6 := Lib.hid (HTW.out.below hb6)
  have HB16 := Lib.hid (andThen HB15.out hb6)
  clear hb6
  go_wp2_with (first | (go_at_call 19; refine (num6_any _ _).mono ?_; rintro e w' ⟨rfl, rfl⟩) | (go_at_call 18; refine (same_any Ab Ub Lb Lb xb yb w6 hlb hlb (seg_of HT6.out.ob) (seg_of HT6.out.pb)).mono ?_; rintro e w7 ⟨rfl, hb7⟩; rw [sameB_self]; have HT7 := Lib.hid (HT6.out.below hb7); have HB17 := Lib.hid (andThen HB16.out hb7); clear hb7))
  have HXM := Lib.hid (fun w2 (h : Below w1.heap.size w1 w2) => show Seg w2 w2.heap.size (some ⟨g, 0, none⟩) ((l ++ marks).flatMap ncs) by
    obtain ⟨A1, c1, e5, _, _, hs1⟩ := Seg.of_own HX.out
    simp only [Value.slice.injEq, true_and] at e5
    obtain ⟨e6, e7⟩ := e5
    subst e6; subst e7
    exact Seg.belowW hs1 h)
  have hst := stays_any g cap A l c w7 (by rw [HL.out]; exact hl) (by rw [HL.out]; exact HCC.out.1) HCC.out.2 (HXM.out _ HB17.out) (Seg.belowW HSG.out (andThen HB1.out HB17.out))
  rw [HL.out] at hst
  refine hst.mono ?_
  rintro e w8 ⟨rfl, hb8⟩
  have HT8 := Lib.hid (HT7.out.below hb8)
  have HB12 := Lib.hid (andThen HB1.out (andThen HB17.out hb8))
  have hw1 := HB1.out.size
  clear hst hb8 HXM HX HB2 HB3 HB4 HB5 HB13 HB14 HB15 HB16 HTW HT6 HT7 HSG
  go_wp2_with fail
  have hV := HT8.out.below (andAlloc (Below.refl _ _) (.cells #[.slice Aa La.length xa, .slice Ab Lb.length xb] 39))
  have hB := andAlloc HB12.out (.cells #[.slice Aa La.length xa, .slice Ab Lb.length xb] 39)
  refine (apart_any w.heap.size 2 w8.heap.size (two (.slice Aa La.length xa) (.slice Ab Lb.length xb)) (two La Lb) _ (by omega) hB.size ?_ HDS.out (by rw [two_list]; exact Blk.new' rfl) ?_).mono ?_
  · intro j hj
    have h1 : j = 0 ∨ j = 1 := by omega
    rcases h1 with rfl | rfl
    · exact own_base hV.oa hw1
    · exact own_base hV.ob hw1
  · intro j hj
    have h0 := HLN.out
    have h1 : j = 0 ∨ j = 1 := by omega
    rcases h1 with rfl | rfl
    · show La.length ≤ 4000; omega
    · show Lb.length ≤ 4000; omega
  · rintro e w10 ⟨rfl, hb10⟩
    have HF := Lib.hid (hB.trans hb10)
    clear hb10 hV hB
    go_wp2_with fail
    refine (live_any _).mono ?_
    rintro e w11 ⟨rfl, hb11⟩
    have HF2 := Lib.hid (andThen HF.out hb11)
    clear hb11
    go_wp2_with fail
    go_ret
    exact ⟨rfl, HF2.out⟩
end Go.Proofs.YtoboecenlangmaaGreat.Pk
end
section
namespace Go.Proofs.YtoboecenlangmaaGreat.Le
open Go.ChangeShapes Go.WideShapes Go.RowKit Go.Deep

/-- The types of a type's cells. -/
def lv (P : Program) : Nat → TypeId → List TypeId
  | 0, t => [t]
  | n + 1, t => match P.underlying t with
    | some (.struct fs) => fs.toList.flatMap fun f => lv P n f.type
    | some (.array k e) => (List.replicate k (lv P n e)).flatten
    | _ => [t]

/-- The cells' types are where the type's own table says. -/
def good (P : Program) : Nat → TypeId → Bool
  | 0, t => P.cellsOf t == 1
  | n + 1, t => match P.underlying t with
    | some (.struct fs) => (P.cellsOf t == (lv P (n + 1) t).length) && fs.toList.all (fun f => good P n f.type) &&
        (List.range (lv P (n + 1) t).length).all fun i => (List.range fs.size).any fun j => match fs[j]? with
          | some f => decide (f.offset ≤ i) && decide (i < f.offset + P.cellsOf f.type) && decide (f.offset + P.cellsOf f.type ≤ P.cellsOf t) && decide ((lv P n f.type)[i - f.offset]? = (lv P (n + 1) t)[i]?)
          | none => false
    | some (.array k e) => (P.cellsOf t == (lv P (n + 1) t).length) && good P n e &&
        (List.range (lv P (n + 1) t).length).all fun i => (List.range k).any fun j => decide (j * P.cellsOf e ≤ i) && decide (i < j * P.cellsOf e + P.cellsOf e) && decide (j * P.cellsOf e + P.cellsOf e ≤ P.cellsOf t) && decide ((lv P n e)[i - j * P.cellsOf e]? = (lv P (n + 1) t)[i]?)
    | _ => P.cellsOf t == 1

section
variable {H : Type} {enc : TypeId × Value → H} {P : Program} {w : World} {base : Nat} {spare : Nat → Bool} {held : Bool}

theorem slice_get {cs : List Value} {o c i : Nat} (h0 : o ≤ i) (h1 : i < o + c) : ((cs.drop o).take c)[i - o]? = cs[i]? := by
  rw [List.getElem?_take, if_pos (by omega), List.getElem?_drop]
  congr 1
  omega

/-- Each cell reads as its leaf's type. -/
theorem leaves : ∀ (n : Nat) {t : TypeId} {fuel : Nat} {cs : List Value} {x : DataW H × List MemPlace}, good P n t = true → cs.length = P.cellsOf t → DataW.trod enc P w base spare held fuel t cs = some x →
    ∀ (i : Nat) (u : TypeId), (lv P n t)[i]? = some u → ∃ (v : Value) (m : Nat) (y : DataW H × List MemPlace), cs[i]? = some v ∧ DataW.trod enc P w base spare held m u [v] = some y
  | 0, t, fuel, cs, x, hg, hl, h, i, u, hu => by
    simp only [lv] at hu
    match i, hu with
    | 0, hu =>
      simp at hu
      subst hu
      unfold good at hg
      rw [beq_iff_eq] at hg
      rw [hg] at hl
      match cs, hl with
      | [v], _ => exact ⟨v, fuel, x, rfl, h⟩
    | i + 1, hu => simp at hu
  | n + 1, t, fuel, cs, x, hg, hl, h, i, u, hu => by
    have hilt : i < (lv P (n + 1) t).length := by
      rcases Nat.lt_or_ge i (lv P (n + 1) t).length with h1 | h1
      · exact h1
      · rw [List.getElem?_eq_none h1] at hu; cases hu
    unfold good at hg
    split at hg
    · rename_i fs hfs
      simp only [Bool.and_eq_true, List.all_eq_true] at hg
      obtain ⟨⟨_, hgf⟩, hcov⟩ := hg
      have hc := hcov i (List.mem_range.2 hilt)
      simp only [List.any_eq_true] at hc
      obtain ⟨j, hj, hc⟩ := hc
      split at hc
      · rename_i f hf
        simp only [Bool.and_eq_true, decide_eq_true_eq] at hc
        obtain ⟨⟨⟨h1, h2⟩, h4⟩, h3⟩ := hc
        obtain ⟨xs, n', _, _, hcl, hxl, hat⟩ := DataW.trod_struct hfs h
        have hjl : j < fs.size := by
          rcases Nat.lt_or_ge j fs.size with hh | hh
          · exact hh
          · rw [Array.getElem?_eq_none hh] at hf; cases hf
        have hxj : xs[j]? = some (xs[j]'(by omega)) := List.getElem?_eq_getElem (by omega)
        have ht := (hat j f hf).trans hxj
        have hmem : f ∈ fs.toList := by
          have := Array.mem_of_getElem? hf
          simpa using this
        have hlen : ((cs.drop f.offset).take (P.cellsOf f.type)).length = P.cellsOf f.type := by
          rw [List.length_take, List.length_drop]
          omega
        obtain ⟨v, m, y, hv, hy⟩ := leaves n (hgf f hmem) hlen ht (i - f.offset) u (by rw [h3]; exact hu)
        exact ⟨v, m, y, by rw [← slice_get h1 h2]; exact hv, hy⟩
      · cases hc
    · rename_i k e he
      simp only [Bool.and_eq_true, List.all_eq_true] at hg
      obtain ⟨⟨_, hge⟩, hcov⟩ := hg
      have hc := hcov i (List.mem_range.2 hilt)
      simp only [List.any_eq_true, List.mem_range, Bool.and_eq_true, decide_eq_true_eq] at hc
      obtain ⟨j, hj, ⟨⟨h1, h2⟩, h4⟩, h3⟩ := hc
      obtain ⟨xs, n', _, _, hcl, hxl, hat⟩ := DataW.trod_array he h
      have hxj : xs[j]? = some (xs[j]'(by omega)) := List.getElem?_eq_getElem (by omega)
      have ht := (hat j hj).trans hxj
      have hlen : ((cs.drop (j * P.cellsOf e)).take (P.cellsOf e)).length = P.cellsOf e := by
        rw [List.length_take, List.length_drop]
        omega
      obtain ⟨v, m, y, hv, hy⟩ := leaves n hge hlen ht (i - j * P.cellsOf e) u (by rw [h3]; exact hu)
      exact ⟨v, m, y, by rw [← slice_get h1 h2]; exact hv, hy⟩
    · rename_i hns hna
      have hlv : lv P (n + 1) t = [t] := by
        unfold lv
        split
        · rename_i fs hfs; exact absurd hfs (hns fs)
        · rename_i k e he; exact absurd he (hna k e)
        · rfl
      rw [hlv] at hu
      match i, hu with
      | 0, hu =>
        simp at hu
        subst hu
        rw [beq_iff_eq] at hg
        rw [hg] at hl
        match cs, hl with
        | [v], _ => exact ⟨v, fuel, x, rfl, h⟩
      | i + 1, hu => simp at hu
end

section
variable {H : Type} {enc : TypeId × Value → H} {P : Program} {w : World} {base : Nat} {spare : Nat → Bool} {held : Bool}

/-- What is known of a row of cells of type t. -/
def Cells (enc : TypeId × Value → H) (P : Program) (w : World) (base : Nat) (spare : Nat → Bool) (held : Bool) (ls : List TypeId) (cs : List Value) : Prop :=
  cs.length = ls.length ∧ ∀ (i : Nat) (u : TypeId), ls[i]? = some u → ∃ (v : Value) (m : Nat) (y : DataW H × List MemPlace), cs[i]? = some v ∧ DataW.trod enc P w base spare held m u [v] = some y

/-- A struct that comes by value. -/
theorem open_flat {r : Reach} {b0 : Nat} {t : TypeId} {fs : Array Field} {v : Value} {d : DataW H} {ps : List MemPlace} (n : Nat) (ls : List TypeId) (hs : P.underlying t = some (.struct fs)) (hg : good P n t = true) (hl : lv P n t = ls) (hc : P.cellsOf t = ls.length)
    (hv : Value.okWide P w r b0 t v) (h : DataW.Trod enc P w base spare held t v d ps) : ∃ cs : List Value, v = .agg cs.toArray ∧ Cells enc P w base spare held ls cs := by
  obtain ⟨cs, rfl, hsz⟩ := okWide_struct hs hv
  obtain ⟨fuel, hf⟩ := h
  refine ⟨cs.toList, by simp, by simp [hsz, hc], fun i u hu => ?_⟩
  exact leaves n hg (by simp [hsz]) (by simpa [Value.cells] using hf) i u (by rw [hl]; exact hu)

/-- A slice that comes in: where it lies, and its elements' cells. -/
theorem open_rows0 {r : Reach} {b0 : Nat} {t e : TypeId} {v : Value} {d : DataW H} {ps : List MemPlace} (n : Nat) (ls : List TypeId) (ht : P.underlying t = some (.slice e)) (hg : good P n e = true) (hl : lv P n e = ls) (hc : P.cellsOf e = ls.length)
    (hv : Value.okWide P w r b0 t v) (h : DataW.Trod enc P w base (fun _ => true) held t v d ps) (hlt : ∀ x ∈ ps, x.block < w.heap.size) :
    ∃ (A : Option Addr) (c : Nat) (rows : List (List Value)), v = .slice A rows.length c ∧ rows.length ≤ c ∧ c ≤ maxLen ∧ (∀ cs ∈ rows, Cells enc P w base (fun _ => true) held ls cs) ∧ Me.Seg w w.heap.size A rows.flatten ∧ (A = none → c = 0) ∧
      (∃ es sp : List (DataW H), (d = .slice es sp ∧ es.length = rows.length ∧ es.length + sp.length = c) ∨ (d = .nil ∧ rows = [] ∧ c = 0)) := by
  obtain ⟨fuel, hf⟩ := h
  obtain ⟨a0, len0, cap0, rfl⟩ := okWide_slice ht hv
  rw [show Value.cells (.slice a0 len0 cap0) = #[.slice a0 len0 cap0] from rfl] at hf
  rcases open_slice ht hf with ⟨h0, hx⟩ | ⟨a, len, cap, m, nn, D, Pl, hcs, _, hlc, hcm, hm, hx, hi⟩
  · simp at h0
    obtain ⟨rfl, rfl, rfl⟩ := h0
    simp only [Prod.mk.injEq] at hx
    exact ⟨none, 0, [], rfl, Nat.le_refl _, by simp [maxLen], by simp, .inl rfl, fun _ => rfl, [], [], .inr ⟨hx.1, rfl, rfl⟩⟩
  · simp at hcs
    obtain ⟨rfl, rfl, rfl⟩ := hcs
    simp only [if_true] at hm
    subst hm
    simp only [Prod.mk.injEq] at hx
    obtain ⟨hd, hps⟩ := hx
    have hrow : ∀ i, i < len0 → ∃ cs, w.cells? base (a.add (i * P.cellsOf e)) (P.cellsOf e) = some cs ∧ Cells enc P w base (fun _ => true) held ls cs := by
      intro i hil
      obtain ⟨cs, h1, h2⟩ := hi i (by omega)
      obtain ⟨_, h3, _⟩ := World.cells?_some h1
      exact ⟨cs, h1, by rw [h3, hc], fun j u hu => leaves n hg h3 h2 j u (by rw [hl]; exact hu)⟩
    let R : Nat → List Value := fun i => (w.cells? base (a.add (i * P.cellsOf e)) (P.cellsOf e)).getD []
    have hR : ∀ i, i < len0 → Cells enc P w base (fun _ => true) held ls (R i) ∧ ∀ j, j < P.cellsOf e → w.cell? ((a.add (i * P.cellsOf e)).add j) = (R i)[j]? := by
      intro i hil
      obtain ⟨cs, h1, h2⟩ := hrow i hil
      have e1 : R i = cs := by simp [R, h1]
      rw [e1]
      exact ⟨h2, (World.cells?_some h1).2.2⟩
    have hlen : ∀ i, i < len0 → (R i).length = P.cellsOf e := fun i hil => by rw [hc]; exact (hR i hil).1.1
    refine ⟨some a, m, (List.range len0).map R, by simp, by simpa using hlc, hcm, ?_, ?_, (by intro hh; cases hh), (List.range len0).map D, (List.range (m - len0)).map fun j => D (len0 + j), .inl ⟨hd, by simp, by simp; omega⟩⟩
    · intro cs hcs
      obtain ⟨i, hi', rfl⟩ := List.mem_map.1 hcs
      exact (hR i (List.mem_range.1 hi')).1
    · by_cases hz : ((List.range len0).map R).flatten = []
      · exact .inl hz
      · have hpos : 0 < len0 * P.cellsOf e := by
          rcases Nat.eq_zero_or_pos (len0 * P.cellsOf e) with h1 | h1
          · exfalso
            apply hz
            rw [List.flatten_eq_nil_iff]
            intro l hl'
            obtain ⟨i, hi', rfl⟩ := List.mem_map.1 hl'
            have hil := List.mem_range.1 hi'
            have h2 := hlen i hil
            rcases Nat.mul_eq_zero.1 h1 with h3 | h3
            · omega
            · rw [h3] at h2; exact List.eq_nil_of_length_eq_zero h2
          · exact h1
        have hlen0 : 0 < len0 := Nat.pos_of_mul_pos_right hpos
        have hce : 0 < P.cellsOf e := Nat.pos_of_mul_pos_left hpos
        have hcell0 : ∃ u, w.cell? a = some u := by
          obtain ⟨h1, h2⟩ := hR 0 hlen0
          have h3 := h2 0 hce
          have h4 : (a.add (0 * P.cellsOf e)).add 0 = a := by simp [Addr.add]
          rw [h4] at h3
          refine ⟨_, h3.trans (List.getElem?_eq_getElem (by rw [hlen 0 hlen0]; exact hce))⟩
        obtain ⟨u0, hu0⟩ := hcell0
        have hspot : a.spot = none := World.cell?_spot hu0
        obtain ⟨b, off, sp⟩ := a
        simp only at hspot
        subst hspot
        refine .inr ⟨b, off, rfl, ?_, ?_⟩
        · have hm0 := Nat.mul_le_mul_right (P.cellsOf e) hlc
          have := hlt (.cell b off) (by rw [hps]; exact List.mem_append_left _ (List.mem_map.2 ⟨0, List.mem_range.2 (by omega), rfl⟩))
          exact this
        · intro j u hu
          have hall : ∀ (k : Nat) (l : List Nat), (∀ i ∈ l, i < len0) → ∀ j u, ((l.map R).flatten)[j]? = some u → ∃ i q, l[i]? ≠ none ∧ j = i * P.cellsOf e + q ∧ q < P.cellsOf e ∧ ∃ z, l[i]? = some z ∧ (R z)[q]? = some u := by
            intro k l
            induction l with
            | nil => intro _ j u h; simp at h
            | cons z l ih =>
              intro hl' j u h
              simp only [List.map_cons, List.flatten_cons] at h
              have hz1 := hlen z (hl' z (by simp))
              rcases Nat.lt_or_ge j (P.cellsOf e) with hj | hj
              · rw [List.getElem?_append_left (by omega)] at h
                exact ⟨0, j, by simp, by omega, hj, z, by simp, h⟩
              · rw [List.getElem?_append_right (by omega), hz1] at h
                obtain ⟨i, q, h1, h2, h3, y, h4, h5⟩ := ih (fun i hi' => hl' i (by simp [hi'])) _ _ h
                refine ⟨i + 1, q, by simpa using h1, ?_, h3, y, by simpa using h4, h5⟩
                rw [Nat.add_mul]; omega
          obtain ⟨i, q, _, hj, hq, z, hz1, hz2⟩ := hall 0 (List.range len0) (fun i hi' => List.mem_range.1 hi') j u hu
          have hzi : z = i ∧ i < len0 := by
            have hil : i < len0 := by
              rcases Nat.lt_or_ge i len0 with h1 | h1
              · exact h1
              · rw [List.getElem?_eq_none (by simpa using h1)] at hz1; cases hz1
            rw [List.getElem?_range hil] at hz1
            injection hz1 with hz1
            exact ⟨hz1.symm, hil⟩
          obtain ⟨rfl, hil⟩ := hzi
          have h6 := (hR z hil).2 q hq
          rw [hz2] at h6
          rw [← h6, hj]
          congr 1
          unfold Addr.add
          by_cases h7 : z * P.cellsOf e = 0 <;> by_cases h8 : q = 0 <;> simp [h7, h8, Nat.add_assoc]
theorem open_rows {r : Reach} {b0 : Nat} {t e : TypeId} {v : Value} {d : DataW H} {ps : List MemPlace} (n : Nat) (ls : List TypeId) (ht : P.underlying t = some (.slice e)) (hg : good P n e = true) (hl : lv P n e = ls) (hc : P.cellsOf e = ls.length)
    (hv : Value.okWide P w r b0 t v) (h : DataW.Trod enc P w base (fun _ => true) held t v d ps) (hlt : ∀ x ∈ ps, x.block < w.heap.size) :
    ∃ (A : Option Addr) (c : Nat) (rows : List (List Value)), v = .slice A rows.length c ∧ rows.length ≤ c ∧ c ≤ maxLen ∧ (∀ cs ∈ rows, Cells enc P w base (fun _ => true) held ls cs) ∧ Me.Seg w w.heap.size A rows.flatten ∧
      (∃ es sp : List (DataW H), (d = .slice es sp ∧ es.length = rows.length ∧ es.length + sp.length = c) ∨ (d = .nil ∧ rows = [] ∧ c = 0)) := by
  obtain ⟨A, c, rows, h1, h2, h3, h4, h5, _, h6⟩ := open_rows0 n ls ht hg hl hc hv h hlt
  exact ⟨A, c, rows, h1, h2, h3, h4, h5, h6⟩
end

section
variable {H : Type} {enc : TypeId × Value → H} {P : Program} {w : World} {base : Nat} {spare : Nat → Bool} {held : Bool}
/-- Cells that are all integers of one kind. -/
theorem cells_ints {ti : TypeId} {k : IntKind} (hu : P.underlying ti = some (.int k)) : ∀ {n : Nat} {cs : List Value}, Cells enc P w base spare held (List.replicate n ti) cs →
    ∃ zs : List Int, zs.length = n ∧ cs = zs.map (Value.int k) ∧ ∀ z ∈ zs, (Lit.int k z).wf = true
  | 0, cs, h => ⟨[], rfl, by simpa using h.1, by simp⟩
  | n + 1, cs, h => by
    obtain ⟨hl, hc⟩ := h
    match cs, hl with
    | c :: cs, hl =>
      obtain ⟨v, m, y, hv, hy⟩ := hc 0 ti (by simp [List.replicate_succ])
      simp at hv
      subst hv
      obtain ⟨z, hz, _, hw⟩ := DataW.trod_int hu hy
      simp at hz
      subst hz
      obtain ⟨zs, h1, h2, h3⟩ := cells_ints hu (n := n) (cs := cs) ⟨by simpa [List.replicate_succ] using hl, fun i u hi => by
        obtain ⟨v, m, y, hv, hy⟩ := hc (i + 1) u (by simpa [List.replicate_succ] using hi)
        exact ⟨v, m, y, by simpa using hv, hy⟩⟩
      exact ⟨z :: zs, by simp [h1], by simp [h2], by
        intro x hx
        rcases List.mem_cons.1 hx with rfl | hx
        · exact hw
        · exact h3 x hx⟩
theorem wf_bd {z : Int} (h : (Lit.int .i64 z).wf = true) : -9223372036854775808 ≤ z ∧ z ≤ 9223372036854775807 := by
  simp [Lit.wf, IntKind.min, IntKind.max, IntKind.signed, IntKind.bits] at h
  omega
end
end Go.Proofs.YtoboecenlangmaaGreat.Le
end
section
namespace Go.Proofs.YtoboecenlangmaaGreat.No
open Go.ChangeShapes Go.WideShapes Go.ChangeAt Go.RowKit
open Me Np
set_option linter.unusedVariables false

def leafs : List TypeId := [3, 3, 5, 3, 3, 3, 3, 3, 3, 3, 3, 3, 3, 3, 3, 3, 3, 3, 9]
theorem node_of {H : Type} {enc : TypeId × Value → H} {w : World} {base : Nat} {spare : Nat → Bool} {held : Bool} {cs : List Value} (h : Le.Cells enc Tryz.prog w base spare held leafs cs) : ∃ n : Nd, cs = ncs n := by
  obtain ⟨hl, hc⟩ := h
  have hl : cs.length = 19 := hl
  obtain ⟨v0, m0, y0, e0, t0⟩ := hc 0 3 rfl
  obtain ⟨z0, g0, _⟩ := DataW.trod_int Tryz.underlying3 t0
  simp only [List.cons.injEq, and_true] at g0
  subst g0
  obtain ⟨v1, m1, y1, e1, t1⟩ := hc 1 3 rfl
  obtain ⟨z1, g1, _⟩ := DataW.trod_int Tryz.underlying3 t1
  simp only [List.cons.injEq, and_true] at g1
  subst g1
  obtain ⟨v2, m2, y2, e2, t2⟩ := hc 2 5 rfl
  obtain ⟨z2, g2, _⟩ := DataW.trod_int Tryz.underlying5 t2
  simp only [List.cons.injEq, and_true] at g2
  subst g2
  obtain ⟨v3, m3, y3, e3, t3⟩ := hc 3 3 rfl
  obtain ⟨z3, g3, _⟩ := DataW.trod_int Tryz.underlying3 t3
  simp only [List.cons.injEq, and_true] at g3
  subst g3
  obtain ⟨v4, m4, y4, e4, t4⟩ := hc 4 3 rfl
  obtain ⟨z4, g4, _⟩ := DataW.trod_int Tryz.underlying3 t4
  simp only [List.cons.injEq, and_true] at g4
  subst g4
  obtain ⟨v5, m5, y5, e5, t5⟩ := hc 5 3 rfl
  obtain ⟨z5, g5, _⟩ := DataW.trod_int Tryz.underlying3 t5
  simp only [List.cons.injEq, and_true] at g5
  subst g5
  obtain ⟨v6, m6, y6, e6, t6⟩ := hc 6 3 rfl
  obtain ⟨z6, g6, _⟩ := DataW.trod_int Tryz.underlying3 t6
  simp only [List.cons.injEq, and_true] at g6
  subst g6
  obtain ⟨v7, m7, y7, e7, t7⟩ := hc 7 3 rfl
  obtain ⟨z7, g7, _⟩ := DataW.trod_int Tryz.underlying3 t7
  simp only [List.cons.injEq, and_true] at g7
  subst g7
  obtain ⟨v8, m8, y8, e8, t8⟩ := hc 8 3 rfl
  obtain ⟨z8, g8, _⟩ := DataW.trod_int Tryz.underlying3 t8
  simp only [List.cons.injEq, and_true] at g8
  subst g8
  obtain ⟨v9, m9, y9, e9, t9⟩ := hc 9 3 rfl
  obtain ⟨z9, g9, _⟩ := DataW.trod_int Tryz.underlying3 t9
  simp only [List.cons.injEq, and_true] at g9
  subst g9
  obtain ⟨v10, m10, y10, e10, t10⟩ := hc 10 3 rfl
  obtain ⟨z10, g10, _⟩ := DataW.trod_int Tryz.underlying3 t10
  simp only [List.cons.injEq, and_true] at g10
  subst g10
  obtain ⟨v11, m11, y11, e11, t11⟩ := hc 11 3 rfl
  obtain ⟨z11, g11, _⟩ := DataW.trod_int Tryz.underlying3 t11
  simp only [List.cons.injEq, and_true] at g11
  subst g11
  obtain ⟨v12, m12, y12, e12, t12⟩ := hc 12 3 rfl
  obtain ⟨z12, g12, _⟩ := DataW.trod_int Tryz.underlying3 t12
  simp only [List.cons.injEq, and_true] at g12
  subst g12
  obtain ⟨v13, m13, y13, e13, t13⟩ := hc 13 3 rfl
  obtain ⟨z13, g13, _⟩ := DataW.trod_int Tryz.underlying3 t13
  simp only [List.cons.injEq, and_true] at g13
  subst g13
  obtain ⟨v14, m14, y14, e14, t14⟩ := hc 14 3 rfl
  obtain ⟨z14, g14, _⟩ := DataW.trod_int Tryz.underlying3 t14
  simp only [List.cons.injEq, and_true] at g14
  subst g14
  obtain ⟨v15, m15, y15, e15, t15⟩ := hc 15 3 rfl
  obtain ⟨z15, g15, _⟩ := DataW.trod_int Tryz.underlying3 t15
  simp only [List.cons.injEq, and_true] at g15
  subst g15
  obtain ⟨v16, m16, y16, e16, t16⟩ := hc 16 3 rfl
  obtain ⟨z16, g16, _⟩ := DataW.trod_int Tryz.underlying3 t16
  simp only [List.cons.injEq, and_true] at g16
  subst g16
  obtain ⟨v17, m17, y17, e17, t17⟩ := hc 17 3 rfl
  obtain ⟨z17, g17, _⟩ := DataW.trod_int Tryz.underlying3 t17
  simp only [List.cons.injEq, and_true] at g17
  subst g17
  obtain ⟨v18, m18, y18, e18, t18⟩ := hc 18 9 rfl
  obtain ⟨z18, g18, _⟩ := DataW.trod_string Tryz.underlying9 t18
  simp only [List.cons.injEq, and_true] at g18
  subst g18
  refine ⟨⟨z0, z1, z2, z3, z4, z5, z6, z7, z8, z9, z10, z11, z12, z13, z14, z15, z16, z17, z18⟩, ?_⟩
  apply List.ext_getElem?
  intro i
  match i with
  | 0 => exact e0
  | 1 => exact e1
  | 2 => exact e2
  | 3 => exact e3
  | 4 => exact e4
  | 5 => exact e5
  | 6 => exact e6
  | 7 => exact e7
  | 8 => exact e8
  | 9 => exact e9
  | 10 => exact e10
  | 11 => exact e11
  | 12 => exact e12
  | 13 => exact e13
  | 14 => exact e14
  | 15 => exact e15
  | 16 => exact e16
  | 17 => exact e17
  | 18 => exact e18
  | i + 19 =>
    rw [List.getElem?_eq_none (by omega), List.getElem?_eq_none (by rw [ncs_length]; omega)]
theorem nodes_of {H : Type} {enc : TypeId × Value → H} {w : World} {base : Nat} {spare : Nat → Bool} {held : Bool} : ∀ {rows : List (List Value)}, (∀ cs ∈ rows, Le.Cells enc Tryz.prog w base spare held leafs cs) → ∃ l : List Nd, l.length = rows.length ∧ rows.flatten = l.flatMap ncs
  | [], _ => ⟨[], rfl, rfl⟩
  | cs :: rows, h => by
    obtain ⟨n, hn⟩ := node_of (h cs (by simp))
    obtain ⟨l, h1, h2⟩ := nodes_of (rows := rows) (fun c hc => h c (by simp [hc]))
    exact ⟨n :: l, by simp [h1], by simp [hn, h2]⟩
theorem bytes_node : Tryz.prog.bytesOf 101 = 160 := by kernel_rfl
end Go.Proofs.YtoboecenlangmaaGreat.No
end
section
namespace Go.Proofs.YtoboecenlangmaaGreat.Li
open Go.ChangeShapes Go.WideShapes Go.ChangeAt Go.RowKit

section
variable {H : Type} {enc : TypeId × Value → H} {P : Program}

theorem trodAll_below (hl : laidOutB P = true) {W W' : World} (hb : Below W.heap.size W W') {sp : Nat → Bool} :
    ∀ {ts : List TypeId} {vs : List Value} {ds : List (DataW H)} {p : List MemPlace}, ts.all (fun t => P.readableRec t && decide (t < P.types.size)) = true → DataW.TrodAll enc P W 0 (fun _ => true) true ts vs ds p →
      (∀ x ∈ p, x.block < W.heap.size) → (∀ x ∈ p, sp x.block = true) → DataW.TrodAll enc P W' 0 sp true ts vs ds p
  | [], _, _, _, _, h, _, _ => by
    obtain ⟨rfl, rfl, rfl⟩ := trodAll_nil h
    exact trodAll_mk0
  | t :: ts, _, _, _, hr, h, hlt, hs => by
    obtain ⟨v, vs1, d, ds1, a, b, rfl, rfl, rfl, h1, h2⟩ := trodAll_cons h
    simp only [List.all_cons, Bool.and_eq_true, decide_eq_true_eq] at hr
    refine trodAll_cons_mk (WideElems.Trod_stays hl hr.1.1 hr.1.2 h1 (fun x hx => hb.same (hlt x (by simp [hx]))) (fun x hx => hs x (by simp [hx]))) ?_
    exact trodAll_below hl hb (by simpa using hr.2) h2 (fun x hx => hlt x (by simp [hx])) (fun x hx => hs x (by simp [hx]))

theorem law_post {f : Func} {s : ChangeSpec} {apart fresh handsOn again : Bool} {W W' : World} {args : Array Value} {ds gs : List (DataW H)} {before : List MemPlace} {tb : TypeId}
    (hl : laidOutB P = true) (hv : s.vars = []) (hW : DataW.Whole enc P f.params.toList s.vars apart W args.toList ds gs before) (hr : f.params.toList.all (fun t => P.readableRec t && decide (t < P.types.size)) = true)
    (hres : (s.fn H (ds ++ gs)).results = [.lit (.bool true)]) (hargs : (s.fn H (ds ++ gs)).args = ds) (hvars : (s.fn H (ds ++ gs)).vars = []) (hrt : f.resultTypes = #[tb]) (htb : P.underlying tb = some .bool)
    (hb : Below W.heap.size W W') : s.post enc P f apart fresh handsOn again W args (.bool true) W' := by
  have hlt0 := hW.lt
  obtain ⟨p, q, hA, hV, he, hfz, hnd⟩ := id hW
  rw [hv] at hV
  obtain ⟨rfl, rfl⟩ := trodVars_none hV
  rw [List.append_nil] at he
  subst he
  have hlt : ∀ x ∈ before, x.block < W.heap.size := fun x hx => hlt0 x hx
  have hR : ∀ (b : Nat) (sp : Nat → Bool) (hd : Bool), DataW.TrodAll enc P W' b sp hd f.resultTypes.toList ((Value.bool true).resultList f.resultTypes.size) (s.fn H (ds ++ [])).results [] := by
    intro b sp hd
    rw [hrt, hres]
    exact trodAll_mk1 (shut_bool htb _)
  have hVW : ∀ sp : Nat → Bool, DataW.TrodVars enc P W' sp s.vars (s.fn H (ds ++ [])).vars [] := by
    intro sp
    rw [hv, hvars]
    rfl
  have hAW : ∀ sp : Nat → Bool, (∀ x ∈ before, sp x.block = true) → DataW.TrodAll enc P W' 0 sp true f.params.toList args.toList (s.fn H (ds ++ [])).args before := by
    intro sp hs
    rw [hargs]
    exact trodAll_below hl hb hr hA hlt hs
  refine ⟨ds, [], before, [], before, [], hW, hR _ _ _, hAW _ (fun x hx => by simpa using hlt x hx), hVW _, World.keptBut_mono (fun x hx => ⟨hx, .inr (.inl hx)⟩) (hb.frame (· ∈ before)), fun _ => ⟨?_, ?_⟩⟩
  · exact ok_one hrt rfl (okWide_bool_mk htb _)
  · refine ⟨_, _, [] ++ before ++ [], ⟨[] ++ before, [], trodAll_append (hAW _ (fun _ _ => rfl)) (hR _ _ _), hVW _, rfl, ?_, ?_⟩, ?_⟩
    · intro b off hx
      have hx' : MemPlace.cell b off ∈ before := by simpa using hx
      rw [hb.frozen (hlt _ hx')]
      exact hfz b off hx'
    · intro ha
      simpa using hnd ha
    · intro x hx _
      simpa using hx
end
end Go.Proofs.YtoboecenlangmaaGreat.Li
end
section
namespace Go.Proofs.YtoboecenlangmaaGreat.PackColumns
open Np
open Go.ChangeShapes Go.WideShapes Go.ChangeAt Go.RowKit
set_option linter.unusedVariables false

theorem own : ownKnob Tryz.prog.godebug = none := by kernel_rfl
theorem laidOut : laidOutB Tryz.prog = true := by kernel_rfl

set_option maxRecDepth 100000 in
theorem lifted (os : Os) (started : os.Started) (H : Type) (enc : TypeId × Value → H) :
    ReturnsInHanded {} Tryz.checked os 5 .any (Rows.packColumnsSpec.pre6 enc Tryz.prog Tryz.f5 Rows.packColumnsRow.domain false) (Rows.packColumnsSpec.post enc Tryz.prog Tryz.f5 false true false false) := by
  refine returnsInHanded_of_change_sized (C := Tryz.checked) own started (by kernel_rfl) Tryz.func5
    (ChangeSpec.witness6 (enc := enc) (C := Tryz.checked) false ⟨#[], #[.slice none 0 0, .int .i64 0, .bool false, .int .i64 0], []⟩ 8 (by kernel_rfl) (by kernel_rfl) (by kernel_rfl) (by kernel_rfl)) ?_
  intro W base args ds gs before hval0 hW _ hsz0 _
  have hval : ∀ (j : Nat) t v, Tryz.f5.params[j]? = some t → args[j]? = some v → Value.okWide Tryz.prog W .any base t v := hval0
  have hsz : (DataW.weightsEach Tryz.prog (Tryz.f5.params.toList ++ Rows.packColumnsSpec.plain.varTypes Tryz.prog) (ds ++ gs)).all (· ≤ reachBytes) = true := hsz0
  have hW' := hW
  have hlt0 := hW.lt
  obtain ⟨p, q, hA0, hV, he, hfz, hnd⟩ := hW
  have hA : DataW.TrodAll enc Tryz.prog W 0 (fun _ => true) true Tryz.f5.params.toList args.toList ds p := hA0
  rw [Tryz.params5] at hA hval hsz
  obtain ⟨rfl, rfl⟩ := trodVars_none hV
  rw [List.append_nil] at he
  subst he
  obtain ⟨v0, vs0, d0, ds0, p0, q0, hargs, rfl, rfl, h0, r0⟩ := trodAll_cons hA
  obtain ⟨v1, vs1, d1, ds1, p1, q1, rfl, rfl, rfl, h1, r1⟩ := trodAll_cons r0
  obtain ⟨v2, vs2, d2, ds2, p2, q2, rfl, rfl, rfl, h2, r2⟩ := trodAll_cons r1
  obtain ⟨v3, vs3, d3, ds3, p3, q3, rfl, rfl, rfl, h3, r3⟩ := trodAll_cons r2
  obtain ⟨rfl, rfl, rfl⟩ := trodAll_nil r3
  obtain rfl : args = #[v0, v1, v2, v3] := by cases args; simp_all
  have k0 : ∀ x ∈ p0, x.block < W.heap.size := fun x hx => hlt0 x (by simp [hx])
  have k1 : ∀ x ∈ p1, x.block < W.heap.size := fun x hx => hlt0 x (by simp [hx])
  have k2 : ∀ x ∈ p2, x.block < W.heap.size := fun x hx => hlt0 x (by simp [hx])
  have k3 : ∀ x ∈ p3, x.block < W.heap.size := fun x hx => hlt0 x (by simp [hx])
  obtain ⟨A0, c0, rows0, rfl, hlc0, hcm0, hrow0, hseg0, hz0, hdat0⟩ := Le.open_rows0 8 No.leafs Tryz.underlying39 (by kernel_rfl) (by kernel_rfl) (by kernel_rfl) (hval 0 39 v0 rfl rfl) h0 k0
  obtain ⟨l0, hll0, hls0⟩ := No.nodes_of hrow0
  rw [hls0] at hseg0
  rw [← hll0] at hlc0 hW' hdat0 ⊢
  have hreach0 : l0.length ≤ 879609302220 := by
    obtain ⟨es, sp, ⟨hd, he1, he2⟩ | ⟨hd, he1, he2⟩⟩ := hdat0
    · have h := sized_slice hsz (j := 0) (t := 39) (e := 101) rfl (by rw [hd]; rfl) Tryz.underlying39
      rw [No.bytes_node] at h
      simp only [reachBytes] at h
      omega
    · rw [he1] at hll0
      simp at hll0
      simp [hll0]
  obtain ⟨a1, rfl, rfl, rfl, w1⟩ := open_int Tryz.underlying3 (hval 1 3 v1 rfl rfl) h1
  obtain ⟨a2, rfl, rfl, rfl⟩ := open_bool Tryz.underlying4 (hval 2 4 v2 rfl rfl) h2
  obtain ⟨a3, rfl, rfl, rfl, w3⟩ := open_int Tryz.underlying3 (hval 3 3 v3 rfl rfl) h3
  clear hA0 hval0
  refine (Pk.cols_walk A0 l0 c0 a1 a2 a3 W (by omega) hlc0 hz0 hseg0).mono fun e W' ⟨he, hb⟩ => ?_
  subst he
  exact ⟨_, rfl, Li.law_post laidOut rfl hW' (by kernel_rfl) rfl rfl rfl rfl Tryz.underlying4 hb⟩

theorem over : Rows.packColumnsRow.holds Tryz.pinned (OpenSpec.ofChange Rows.packColumnsSpec) :=
  OpenClaim.holds_of_wide 5 Tryz.f5 rfl rfl rfl rfl rfl rfl rfl ⟨rfl, rfl, rfl, rfl, rfl⟩ rfl rfl rfl rfl rfl (by kernel_rfl) Tryz.func5 (by kernel_rfl)
    (of_decide_eq_true (by kernel_rfl)) (by unfold Func.isWrapper; first | (rw [if_pos (by decide +kernel)]; kernel_rfl) | (rw [if_neg (by decide +kernel)]; exact ⟨rfl, rfl⟩))
    (fun os started H enc _ => lifted os started H enc)

theorem proved : Rows.PackColumnsSaid := over
#print axioms proved
end Go.Proofs.YtoboecenlangmaaGreat.PackColumns
end
