import Derived.Test.YtoboecenlangmaaGreatMw2
import Derived.Test.YtoboecenlangmaaGreatMw3
import Derived.Test.YtoboecenlangmaaGreatNodeSm
import Derived.StillTailTactics
import Derived.Test.YtoboecenlangmaaGreatMem
import Derived.ProofKit
import Derived.OpenShut
import Derived.Deep.Slices
import Derived.SizedLaws
import Derived.KernelRfl
import Derived.Test.YtoboecenlangmaaGreatNodeE
import Derived.Carry
/- AlignWidths: how wide each column of any rows is. No conditions. -/
section
namespace Go.Proofs.YtoboecenlangmaaGreat.Al
open Go.ChangeShapes Go.WideShapes Go.ChangeAt Go.RowKit
open Me Np No
open Gl (G Row)
set_option linter.unusedVariables false
set_option linter.unusedSimpArgs false

theorem d_row {dn rs : List Rw} (h : dn.map Rw.d = rs.map Rw.d) {i : Nat} {r : Rw} (hr : rs[i]? = some r) : ∃ d, dn[i]? = some d ∧ d.d = r.d := by
  have h1 := congrArg (fun l => l[i]?) h
  simp only [List.getElem?_map, hr, Option.map_some] at h1
  obtain ⟨d, h2, h3⟩ := Option.map_eq_some_iff.1 h1
  exact ⟨d, h2, h3⟩
theorem d_cell {d r : Rw} (h : d.d = r.d) {k : Nat} {x : Cl} (hx : r.cs[k]? = some x) : ∃ y, d.cs[k]? = some y ∧ y.l = x.l ∧ y.sp = x.sp := by
  have h0 : d.cs.map Cl.d = r.cs.map Cl.d := congrArg Prod.fst h
  have h1 := congrArg (fun l => l[k]?) h0
  simp only [List.getElem?_map, hx, Option.map_some] at h1
  obtain ⟨y, h2, h3⟩ := Option.map_eq_some_iff.1 h1
  exact ⟨y, h2, congrArg Prod.fst h3, congrArg Prod.snd h3⟩

set_option maxHeartbeats 4000000 in
set_option maxRecDepth 100000 in
theorem stay_al (A1 : Option Addr) (dn : List Rw) (c1 : Nat) (B : Option Addr) (rs : List Rw) (k : Nat) (w : World) (h1 : RsOk w (fun _ => True) A1 c1 dn) (h2 : RsOk w (fun _ => True) B k rs) (hd : dn.map Rw.d = rs.map Rw.d) :
    Calls Tryz.prog 12 #[.slice A1 dn.length c1, .slice B rs.length k] w fun e w' => e = .returned (.bool true) ∧ Below w.heap.size w w' := by
  have H1 := Lib.hid h1
  have H2 := Lib.hid h2
  have HD := Lib.hid hd
  have hlen : dn.length = rs.length := by have := congrArg List.length hd; simpa using this
  have hrl := h2.len
  rw [hlen]
  clear h1 h2 hd hlen
  generalize hm : rs.length = m at *
  have HM := Lib.hid hm
  clear hm
  go_enter Tryz.func12, Tryz.ntmps12
  go_wp2_with fail
  go_loopw [5] (fun v5 wr => ∃ i : Nat, i ≤ m ∧ v5 = .int .i64 (i : Int) ∧ Below w.heap.size w wr) (fun v5 _ => m - (intOf v5).toNat)
  case atStart => exact ⟨0, by omega, rfl, Below.refl _ _⟩
  case round =>
    obtain ⟨i, hi, rfl, hb⟩ := hrel
    have HB := Lib.hid hb
    by_cases hlt : i < m
    · obtain ⟨r, hr⟩ := get_some (l := rs) (i := i) (by rw [HM.out]; exact hlt)
      obtain ⟨d, hdi, hdr⟩ := d_row HD.out hr
      have hk1 := H1.out.below hb
      have hk2 := H2.out.below hb
      obtain ⟨b1, o1, rfl, hb1, p0, p1⟩ := hk1.row hdi
      obtain ⟨b2, o2, rfl, hb2, q0, q1⟩ := hk2.row hr
      have HO1 := Lib.hid (H1.out.get hdi)
      have HO2 := Lib.hid (H2.out.get hr)
      have HK1 := Lib.hid hdi
      have HK2 := Lib.hid hr
      have HDR := Lib.hid hdr
      have hxe : d.ex = r.ex := congrArg Prod.snd hdr
      have HXE := Lib.hid hxe
      have hcl : d.cs.length = r.cs.length := by have := congrArg List.length (congrArg Prod.fst hdr); simpa [Rw.d] using this
      have hii : (i : Int) < (m : Int) := by omega
      rw [show d.ex.length = r.ex.length by rw [hxe]] at p1
      rw [hcl] at p0
      have hxl := HO2.out.extra.len
      have hcsl := HO2.out.len
      have HSM := Lib.hid (fun (w' : World) (hb : Below w.heap.size w w') => show Calls Tryz.prog 18 #[.slice d.E r.ex.length d.k, .slice r.E r.ex.length r.k] w' fun e w'' => e = .returned (.bool true) ∧ Below w'.heap.size w' w'' from
        (same_any d.E r.E r.ex r.ex d.k r.k w' (by omega) (by omega) (by have := (HO1.out.extra.keep (Kp.below _ hb)).seg.seg; rw [HXE.out] at this; exact this) (HO2.out.extra.keep (Kp.below _ hb)).seg.seg).mono (by rintro e w'' ⟨rfl, hz⟩; exact ⟨by rw [sameB_iff.2 rfl], hz⟩))
      clear hb hk1 hk2 hdi hr hdr hxe hcl
      go_wp2_with fail
      go_still_tail 10, (by kernel_rfl)
      change wpList _ _ _ _ _ wr.drew
      have HBD := Lib.hid (Below.drew (Below.refl wr.heap.size wr))
      generalize wr.drew = w3 at HBD ⊢
      go_wp2_with fail
      refine (HSM.out w3 (andThen HB.out HBD.out)).mono ?_
      rintro e w4 ⟨rfl, hb4⟩
      have HB4 := Lib.hid (andThen (andThen HB.out HBD.out) hb4)
      clear hb4 p0 p1 q0 q1
      go_wp2_with fail
      go_loopw [6] (fun v6 wr => ∃ q : Nat, q ≤ r.cs.length ∧ v6 = .int .i64 (q : Int) ∧ Below w.heap.size w wr) (fun v6 _ => r.cs.length - (intOf v6).toNat)
      case atStart => exact ⟨0, by omega, rfl, HB4.out⟩
      case round =>
        obtain ⟨q, hq, rfl, hb⟩ := hrel
        have HBQ := Lib.hid hb
        obtain ⟨b1', o1', e1, hb1, p0, _⟩ := (H1.out.below hb).row HK1.out
        simp only [Option.some.injEq, Addr.mk.injEq, and_true] at e1
        obtain ⟨rfl, rfl⟩ := e1
        obtain ⟨b2', o2', e1, hb2, q0, _⟩ := (H2.out.below hb).row HK2.out
        simp only [Option.some.injEq, Addr.mk.injEq, and_true] at e1
        obtain ⟨rfl, rfl⟩ := e1
        rw [show d.cs.length = r.cs.length by have := congrArg List.length (congrArg Prod.fst HDR.out); simpa [Rw.d] using this] at p0
        by_cases hlt2 : q < r.cs.length
        · obtain ⟨x, hx⟩ := get_some hlt2
          obtain ⟨y, hy, hyl, hys⟩ := d_cell HDR.out hx
          obtain ⟨b3, o3, hA3, hb3, x0, x1⟩ := (HO1.out.keep (Kp.below _ hb)).cell hy
          obtain ⟨b4, o4, hA4, hb4, y0, y1⟩ := (HO2.out.keep (Kp.below _ hb)).cell hx
          have HY := Lib.hid (HO1.out.get hy)
          have HX := Lib.hid (HO2.out.get hx)
          have HYL := Lib.hid hyl
          rw [hyl] at x0
          rw [hys] at x1
          rw [hA3] at p0
          rw [hA4] at q0
          have hqi : (q : Int) < (r.cs.length : Int) := by omega
          have hxl2 := HX.out.len
          have HSM2 := Lib.hid (fun (w' : World) (hb : Below w.heap.size w w') => show Calls Tryz.prog 18 #[.slice y.A x.l.length y.c, .slice x.A x.l.length x.c] w' fun e w'' => e = .returned (.bool true) ∧ Below w'.heap.size w' w'' from
            (same_any y.A x.A x.l x.l y.c x.c w' (by omega) (by omega) (by have := (HY.out.keep (Kp.below _ hb)).seg.seg; rw [HYL.out] at this; exact this) (HX.out.keep (Kp.below _ hb)).seg.seg).mono (by rintro e w'' ⟨rfl, hz⟩; exact ⟨by rw [sameB_iff.2 rfl], hz⟩))
          clear hb hx hy hyl hys hA3 hA4
          go_wp2_with fail
          go_still_tail 38, (by kernel_rfl)
          change wpList _ _ _ _ _ wr.drew
          have HBD2 := Lib.hid (Below.drew (Below.refl wr.heap.size wr))
          generalize wr.drew = w5 at HBD2 ⊢
          go_wp2_with fail
          refine (HSM2.out w5 (andThen HBQ.out HBD2.out)).mono ?_
          rintro e w6 ⟨rfl, hb6⟩
          have HB6 := Lib.hid (andThen (andThen HBQ.out HBD2.out) hb6)
          clear hb6
          go_wp2_with fail
          go_roundw
          case rel => exact ⟨q + 1, by omega, by go_num, HB6.out⟩
          case measure => simp [intOf]; omega
        · obtain rfl : q = r.cs.length := by omega
          clear hb
          go_wp2_with fail
          go_roundw
          case rel => exact ⟨i + 1, by omega, by go_num, HBQ.out⟩
          case measure => simp [intOf]; omega
    · clear hb
      go_wp2_with fail
      go_ret
      exact ⟨rfl, HB.out⟩

/-- What given answers, as it is read. -/
theorem given_rows {w w1 : World} {rs : List Rw} {v : Value} {dn : List Rw} (h : GI w rs rs.length v dn w1) (hl : rs.length ≤ 2932031007402) : ∃ A c, v = .slice A dn.length c ∧ dn.length = rs.length ∧ RsOk w1 (fun _ => True) A c dn ∧ dn.map Rw.d = rs.map Rw.d := by
  have hd := h.dat
  rw [List.take_length] at hd
  have hn : dn.length = rs.length := by have := congrArg List.length hd; simpa using this
  obtain ⟨A, c, hv, hc, _, _, hs⟩ := SegS.own (S := fun _ => True) h.own (fun _ _ => trivial)
  exact ⟨A, c, by rw [hv, hn], hn, ⟨by omega, by omega, hs, fun r hr => (h.ok r hr).mono fun _ _ _ => trivial⟩, hd⟩
def wsOf (E : Int) (C : Co) : List Int := if E = 0 then C.w else []
def gsOf (E : Int) (C : Co) : List Bool := if E = 0 then C.g else []
theorem WdOut.uni {E : Int} {C : Co} {w w' : World} {e : Ending} (h : WdOut E C w e w') : ∃ A1 c1 A2 c2, e = .returned (.tuple #[.slice A1 (wsOf E C).length c1, .slice A2 (gsOf E C).length c2, .int .i64 E]) ∧ Below w.heap.size w w' ∧
    w'.ownsRow w.heap.size 3 1 (.slice A1 (wsOf E C).length c1) (wsOf E C).length ((wsOf E C).map intV) ∧ w'.ownsRow w.heap.size 4 1 (.slice A2 (gsOf E C).length c2) (gsOf E C).length ((gsOf E C).map boolV) := by
  obtain ⟨A1, n1, c1, A2, n2, c2, rfl, hb, h⟩ := h
  rcases h with ⟨h0, o1, rfl, o2, rfl⟩ | ⟨h0, rfl, rfl, rfl, rfl, rfl, rfl⟩
  · unfold wsOf gsOf
    rw [if_pos h0, if_pos h0]
    exact ⟨A1, c1, A2, c2, rfl, hb, o1, o2⟩
  · unfold wsOf gsOf
    rw [if_neg h0, if_neg h0]
    exact ⟨none, 0, none, 0, rfl, hb, World.ownsRow_nil _ _ _ _, World.ownsRow_nil _ _ _ _⟩
theorem RwOut.uni {E : Int} {C : Co} {w w' : World} {e : Ending} (h : RwOut E C w e w') : ∃ A1 c1 A2 c2 v, e = .returned (.tuple #[.slice A1 (wsOf E C).length c1, .slice A2 (gsOf E C).length c2, v, .int .i64 E]) ∧ Below w.heap.size w w' ∧
    Seg w' w'.heap.size A1 ((wsOf E C).map intV) ∧ Seg w' w'.heap.size A2 ((gsOf E C).map boolV) := by
  obtain ⟨A1, n1, c1, A2, n2, c2, v, rfl, hb, h⟩ := h
  rcases h with ⟨h0, rfl, rfl, o1, o2⟩ | ⟨h0, rfl, rfl⟩
  · unfold wsOf gsOf
    rw [if_pos h0, if_pos h0]
    exact ⟨A1, c1, A2, c2, v, rfl, hb, o1, o2⟩
  · unfold wsOf gsOf
    rw [if_neg h0, if_neg h0]
    exact ⟨A1, c1, A2, c2, v, rfl, hb, .inl rfl, .inl rfl⟩
theorem ws_len {ss : List G} {ds : List RD} : (wsOf (mdE ss ds) (mdC ss ds)).length ≤ 256 := by
  unfold wsOf
  by_cases h : mdE ss ds = 0
  · rw [if_pos h]
    have hl : (mdC ss ds).w.length = ss.length - 1 := (cols_len _ ss _).1
    have hck : ckE ss ds = 0 := by
      unfold mdE at h
      split at h
      · assumption
      · rename_i h1
        exact absurd h h1
    unfold ckE at hck
    split at hck
    · cases hck
    · omega
  · rw [if_neg h]
    simp
theorem gs_len {ss : List G} {ds : List RD} : (gsOf (mdE ss ds) (mdC ss ds)).length ≤ 256 := by
  unfold gsOf
  by_cases h : mdE ss ds = 0
  · rw [if_pos h]
    have hl : (mdC ss ds).g.length = ss.length - 1 := (cols_len _ ss _).2.1
    have hck : ckE ss ds = 0 := by
      unfold mdE at h
      split at h
      · assumption
      · rename_i h1
        exact absurd h h1
    unfold ckE at hck
    split at hck
    · cases hck
    · omega
  · rw [if_neg h]
    simp

set_option maxHeartbeats 8000000 in
set_option maxRecDepth 100000 in
theorem widths_walk (A : Option Addr) (ss : List G) (c : Nat) (B : Option Addr) (rs : List Rw) (k : Nat) (w : World) (hS : Row w A ss) (h63 : ss.length ≤ maxLen) (hR : RsOk w (fun _ => True) B k rs) :
    Calls Tryz.prog 3 #[.slice A ss.length c, .slice B rs.length k] w fun e w' => e = .returned (.bool true) ∧ Below w.heap.size w w' := by
  have HG := Lib.hid (given_any B rs k w hR)
  have HRL := Lib.hid hR.len
  have HW := Lib.hid (fun (dn : List Rw) (w1 : World) (A1 : Option Addr) (c1 : Nat) (hb : Below w.heap.size w w1) (h : RsOk w1 (fun _ => True) A1 c1 dn) => widths_al A ss c A1 dn c1 w1 (Seg.belowW hS hb) h h63)
  have HV := Lib.hid (fun (w1 : World) (hb : Below w.heap.size w w1) => rwidths_al A ss c B rs k w1 (Seg.belowW hS hb) (hR.below hb) h63)
  have HST := Lib.hid (fun (dn : List Rw) (w1 : World) (A1 : Option Addr) (c1 : Nat) (hb : Below w.heap.size w w1) (h : RsOk w1 (fun _ => True) A1 c1 dn) (hd : dn.map Rw.d = rs.map Rw.d) => stay_al A1 dn c1 B rs k w1 h (hR.below hb) hd)
  have hwl := ws_len (ss := ss) (ds := rs.map Rw.d)
  have hgl := gs_len (ss := ss) (ds := rs.map Rw.d)
  clear hS hR
  go_enter Tryz.func3, Tryz.ntmps3
  go_wp2_with fail
  refine HG.out.mono ?_
  rintro e w1 ⟨v, dn, rfl, hgi⟩
  obtain ⟨A1, c1, rfl, hn, hro, hdd⟩ := given_rows hgi HRL.out
  have HRO := Lib.hid hro
  have HDD := Lib.hid hdd
  have HB1 := Lib.hid hgi.low
  have hws := HW.out dn w1 A1 c1 HB1.out hro
  rw [hdd] at hws
  have HST2 := Lib.hid (fun (w2 : World) (hb : Below w1.heap.size w1 w2) => HST.out dn w2 A1 c1 (andThen HB1.out hb) (hro.below hb) hdd)
  generalize hE : mdE ss (rs.map Rw.d) = E at *
  generalize hC : mdC ss (rs.map Rw.d) = C at *
  have HWS := Lib.hid hws
  clear hgi hro hdd HG hn HST HW hws hE hC
  generalize hws : wsOf E C = ws at *
  generalize hgs : gsOf E C = gs at *
  have HWE := Lib.hid hws
  have HGE := Lib.hid hgs
  clear hws hgs
  go_wp2_with fail
  refine HWS.out.mono ?_
  rintro e w2 hout
  obtain ⟨B1, d1, B2, d2, rfl, hb2, o1, o2⟩ := hout.uni
  simp only [HWE.out, HGE.out] at o1 o2 ⊢
  have HB2 := Lib.hid (andThen HB1.out hb2)
  have HB12 := Lib.hid hb2
  have HO1 := Lib.hid o1
  have HO2 := Lib.hid o2
  clear hout hb2 o1 o2
  go_wp2_with fail
  refine (HV.out w2 HB2.out).mono ?_
  rintro e w3 hout
  obtain ⟨D1, e1, D2, e2, v, rfl, hb3, s1, s2⟩ := hout.uni
  simp only [HWE.out, HGE.out] at s1 s2 ⊢
  have HB3 := Lib.hid (andThen HB2.out hb3)
  have HB13 := Lib.hid (andThen HB12.out hb3)
  have o1 := own_below HO1.out hb3
  have o2 := own_below HO2.out hb3
  have HO13 := Lib.hid o1
  obtain ⟨x1, y1, v1', _, _, _, t1⟩ := SegS.own (S := fun _ => True) o1 (fun _ _ => trivial)
  injection v1' with v1' _ v2'
  subst v1' v2'
  obtain ⟨x1, y1, v1', _, _, _, t2⟩ := SegS.own (S := fun _ => True) o2 (fun _ _ => trivial)
  injection v1' with v1' _ v2'
  subst v1' v2'
  have HSI := Lib.hid (Si.same_ints B1 D1 ws ws d1 e1 w3 (by omega) (by omega) t1.seg s1)
  have HT2 := Lib.hid (And.intro t2.seg s2)
  clear hout hb3 o1 o2 t1 t2 s1 s2
  have HDL := Lib.hid (show dn.length = rs.length by have := congrArg List.length HDD.out; simpa using this)
  go_wp2_with (first | (go_at_call 10; refine (num21 _ _).mono ?_; rintro e wz ⟨rfl, rfl⟩) | (go_at_call 11; refine HSI.out.mono ?_; rintro e w4 ⟨rfl, hb4⟩; try simp only [decide_true]) | (go_at_call 12; refine (HST2.out w4 (andThen HB13.out hb4)).mono ?_; rintro e w5 ⟨rfl, hb5⟩) | (go_at_call 13; refine (knows21 _).mono ?_; rintro e w6 ⟨rfl, hb6⟩))
  have HB36 := Lib.hid (andThen hb4 (andThen hb5 hb6))
  clear hb4 hb5 hb6
  go_loopw [13] (fun v13 wr => ∃ i : Nat, i ≤ gs.length ∧ v13 = .int .i64 (i : Int) ∧ Below w3.heap.size w3 wr) (fun v13 _ => gs.length - (intOf v13).toNat)
  case atStart => exact ⟨0, by omega, rfl, HB36.out⟩
  case round =>
    obtain ⟨i, hi, rfl, hb⟩ := hrel
    have HB := Lib.hid hb
    by_cases hlt : i < gs.length
    · obtain ⟨x, hx⟩ := get_some hlt
      obtain ⟨b1, o1, rfl, hl1, y1⟩ := Si.seg_get HT2.out.1 (k := i) (u := .bool x) (by rw [List.getElem?_map, hx]; rfl)
      obtain ⟨b2, o2, rfl, hl2, y2⟩ := Si.seg_get HT2.out.2 (k := i) (u := .bool x) (by rw [List.getElem?_map, hx]; rfl)
      have z1 : wr.cell? ⟨b1, o1 + i, none⟩ = some (.bool x) := (hb.cell (p := ⟨b1, o1 + i, none⟩) hl1).trans y1
      have z2 : wr.cell? ⟨b2, o2 + i, none⟩ = some (.bool x) := (hb.cell (p := ⟨b2, o2 + i, none⟩) hl2).trans y2
      have l1 : b1 < wr.heap.size := Nat.lt_of_lt_of_le hl1 hb.size
      have l2 : b2 < wr.heap.size := Nat.lt_of_lt_of_le hl2 hb.size
      have hii : (i : Int) < (gs.length : Int) := by omega
      clear hx y1 y2 hl1 hl2 hb
      go_upto_region 9 with fail
      go_quiet (fail)
      go_wp2_with fail
      go_roundw
      case rel => exact ⟨i + 1, by omega, by go_num, below_drewN HB.out _⟩
      case measure => simp [intOf]; omega
    · have HAP := Lib.hid (apart_row (wr.alloc (.cells #[.slice B1 ws.length d1] 26)) w1.heap.size wr.heap.size B1 ws.length d1 _ (Blk.new _ _ _) ((own_below HO13.out hb).alloc _) (by omega) (by have := (andThen HB13.out hb).size; simp; omega))
      clear hb
      go_wp2_with (go_at_call 14; refine HAP.out.mono ?_; rintro e w7 ⟨rfl, hb7⟩)
      go_ret
      exact ⟨rfl, (andAlloc (andThen HB3.out HB.out) _).trans (hb7.mono HB1.out.size)⟩
end Go.Proofs.YtoboecenlangmaaGreat.Al
end
section
namespace Go.Proofs.YtoboecenlangmaaGreat.Rd
open Go.ChangeShapes Go.WideShapes Go.RowKit Go.Deep
set_option linter.unusedVariables false

section
variable {H : Type} (enc : TypeId × Value → H) (P : Program) (w : World)
/-- These cells read as this type; all that is read lies in memory that is there, and is within reach. -/
def Rd (t : TypeId) (cs : List Value) : Prop :=
  ∃ (fuel : Nat) (x : DataW H × List MemPlace), DataW.trod enc P w 0 (fun _ => true) true fuel t cs = some x ∧ (∀ p ∈ x.2, p.block < w.heap.size) ∧ ∀ n ∈ x.1.weights P t, n ≤ reachBytes
end

section
variable {H : Type} {enc : TypeId × Value → H} {P : Program} {w : World}
theorem Rd.struct {t : TypeId} {fs : Array Field} {cs : List Value} (ht : P.underlying t = some (.struct fs)) (h : Rd enc P w t cs) :
    cs.length = P.cellsOf t ∧ ∀ (i : Nat) (f : Field), fs[i]? = some f → Rd enc P w f.type ((cs.drop f.offset).take (P.cellsOf f.type)) := by
  obtain ⟨fuel, x, h, hp, hw⟩ := h
  obtain ⟨xs, n, _, rfl, hl, hxl, hat⟩ := DataW.trod_struct ht h
  refine ⟨hl, fun i f hf => ?_⟩
  have h1 := hat i f hf
  have hi : i < xs.length := by
    rw [hxl]
    rcases Nat.lt_or_ge i fs.size with h2 | h2
    · exact h2
    · rw [Array.getElem?_eq_none h2] at hf; cases hf
  rw [List.getElem?_eq_getElem hi] at h1
  refine ⟨n, xs[i], h1, fun p hpp => hp p (List.mem_flatMap.2 ⟨_, List.getElem_mem hi, hpp⟩), fun k hk => ?_⟩
  apply hw
  have e1 : (DataW.agg (xs.map (·.1))).weights P t = DataW.weightsEach P (fs.toList.map (·.type)) (xs.map (·.1)) := by simp [DataW.weights, ht]
  show k ∈ (DataW.agg (xs.map (·.1))).weights P t
  rw [e1]
  exact DataW.weights_mem_each (j := i) (t := f.type) (d := xs[i].1) (by simp [hf]) (by simp [List.getElem?_eq_getElem hi]) k hk
theorem weightsAll_mem {e : TypeId} {d : DataW H} {n : Nat} (hn : n ∈ d.weights P e) : ∀ {l : List (DataW H)}, d ∈ l → n ∈ DataW.weightsAll P e l
  | a :: l, h => by
    simp only [DataW.weightsAll, List.mem_append]
    rcases List.mem_cons.1 h with rfl | h
    · exact .inl hn
    · exact .inr (weightsAll_mem hn h)
/-- A slice: where it lies, and its elements. -/
theorem Rd.slice {t e : TypeId} {cs : List Value} (ht : P.underlying t = some (.slice e)) (h : Rd enc P w t cs) :
    ∃ (A : Option Addr) (c : Nat) (rows : List (List Value)), cs = [.slice A rows.length c] ∧ rows.length ≤ c ∧ c ≤ maxLen ∧ c * P.bytesOf e ≤ reachBytes ∧ Me.Seg w w.heap.size A rows.flatten ∧ (A = none → c = 0) ∧
      ∀ x ∈ rows, x.length = P.cellsOf e ∧ Rd enc P w e x := by
  obtain ⟨fuel, x, hf, hp, hw⟩ := h
  rcases open_slice ht hf with ⟨h0, hx⟩ | ⟨a, len0, m, m', nn, D, Pl, hcs, _, hlc, hcm, hm, hx, hi⟩
  · subst h0
    exact ⟨none, 0, [], rfl, Nat.le_refl _, by simp [maxLen], by simp, .inl rfl, fun _ => rfl, by simp⟩
  · subst hcs
    simp only [if_true] at hm
    subst hm
    subst hx
    have hrow : ∀ i, i < m' → ∃ cs, w.cells? 0 (a.add (i * P.cellsOf e)) (P.cellsOf e) = some cs ∧ Rd enc P w e cs := by
      intro i hil
      obtain ⟨cs, h1, h2⟩ := hi i hil
      refine ⟨cs, h1, nn, _, h2, fun p hpp => hp p (List.mem_append_right _ (List.mem_flatMap.2 ⟨i, List.mem_range.2 hil, hpp⟩)), fun k hk => hw k ?_⟩
      simp only [DataW.weights, ht]
      refine List.mem_cons_of_mem _ (List.mem_append.2 ?_)
      rcases Nat.lt_or_ge i len0 with h3 | h3
      · exact .inl (weightsAll_mem hk (List.mem_map.2 ⟨i, List.mem_range.2 h3, rfl⟩))
      · refine .inr (weightsAll_mem hk (List.mem_map.2 ⟨i - len0, List.mem_range.2 (by omega), ?_⟩))
        show D (len0 + (i - len0)) = D i
        rw [Nat.add_sub_cancel' h3]
    let R : Nat → List Value := fun i => (w.cells? 0 (a.add (i * P.cellsOf e)) (P.cellsOf e)).getD []
    have hR : ∀ i, i < m' → (R i).length = P.cellsOf e ∧ Rd enc P w e (R i) ∧ ∀ j, j < P.cellsOf e → w.cell? ((a.add (i * P.cellsOf e)).add j) = (R i)[j]? := by
      intro i hil
      obtain ⟨cs, h1, h2⟩ := hrow i hil
      have e1 : R i = cs := by simp [R, h1]
      rw [e1]
      exact ⟨(World.cells?_some h1).2.1, h2, (World.cells?_some h1).2.2⟩
    have hlen : ∀ i, i < len0 → (R i).length = P.cellsOf e := fun i hil => (hR i (by omega)).1
    refine ⟨some a, m', (List.range len0).map R, by simp, by simpa using hlc, hcm, ?_, ?_, (by intro hh; cases hh), ?_⟩
    · have h5 := hw ((((List.range len0).map D).length + ((List.range (m' - len0)).map fun j => D (len0 + j)).length) * P.bytesOf e) (by simp [DataW.weights, ht])
      simp only [List.length_map, List.length_range] at h5
      rwa [show len0 + (m' - len0) = m' by omega] at h5
    · by_cases hz : ((List.range len0).map R).flatten = []
      · exact .inl hz
      · have hpos : 0 < len0 * P.cellsOf e := by
          rcases Nat.eq_zero_or_pos (len0 * P.cellsOf e) with h1 | h1
          · exfalso
            apply hz
            rw [List.flatten_eq_nil_iff]
            intro l hl'
            obtain ⟨i, hi', rfl⟩ := List.mem_map.1 hl'
            have hil := List.mem_range.1 hi'
            have h2 := hlen i hil
            rcases Nat.mul_eq_zero.1 h1 with h3 | h3
            · omega
            · rw [h3] at h2; exact List.eq_nil_of_length_eq_zero h2
          · exact h1
        have hlen0 : 0 < len0 := Nat.pos_of_mul_pos_right hpos
        have hce : 0 < P.cellsOf e := Nat.pos_of_mul_pos_left hpos
        have hcell0 : ∃ u, w.cell? a = some u := by
          obtain ⟨h1, _, h2⟩ := hR 0 (by omega)
          have h3 := h2 0 hce
          have h4 : (a.add (0 * P.cellsOf e)).add 0 = a := by simp [Addr.add]
          rw [h4] at h3
          refine ⟨_, h3.trans (List.getElem?_eq_getElem (by rw [hlen 0 hlen0]; exact hce))⟩
        obtain ⟨u0, hu0⟩ := hcell0
        have hspot : a.spot = none := World.cell?_spot hu0
        obtain ⟨b, off, sp⟩ := a
        simp only at hspot
        subst hspot
        refine .inr ⟨b, off, rfl, ?_, ?_⟩
        · have hm0 : 0 < m' * P.cellsOf e := Nat.mul_pos (by omega) hce
          exact hp (.cell b off) (List.mem_append_left _ (List.mem_map.2 ⟨0, List.mem_range.2 hm0, rfl⟩))
        · intro j u hu
          have hall : ∀ (k : Nat) (l : List Nat), (∀ i ∈ l, i < len0) → ∀ j u, ((l.map R).flatten)[j]? = some u → ∃ i q, l[i]? ≠ none ∧ j = i * P.cellsOf e + q ∧ q < P.cellsOf e ∧ ∃ z, l[i]? = some z ∧ (R z)[q]? = some u := by
            intro k l
            induction l with
            | nil => intro _ j u h; simp at h
            | cons z l ih =>
              intro hl' j u h
              simp only [List.map_cons, List.flatten_cons] at h
              have hz1 := hlen z (hl' z (by simp))
              rcases Nat.lt_or_ge j (P.cellsOf e) with hj | hj
              · rw [List.getElem?_append_left (by omega)] at h
                exact ⟨0, j, by simp, by omega, hj, z, by simp, h⟩
              · rw [List.getElem?_append_right (by omega), hz1] at h
                obtain ⟨i, q, h1, h2, h3, y, h4, h5⟩ := ih (fun i hi' => hl' i (by simp [hi'])) _ _ h
                refine ⟨i + 1, q, by simpa using h1, ?_, h3, y, by simpa using h4, h5⟩
                rw [Nat.add_mul]; omega
          obtain ⟨i, q, _, hj, hq, z, hz1, hz2⟩ := hall 0 (List.range len0) (fun i hi' => List.mem_range.1 hi') j u hu
          have hzi : z = i ∧ i < len0 := by
            have hil : i < len0 := by
              rcases Nat.lt_or_ge i len0 with h1 | h1
              · exact h1
              · rw [List.getElem?_eq_none (by simpa using h1)] at hz1; cases hz1
            rw [List.getElem?_range hil] at hz1
            injection hz1 with hz1
            exact ⟨hz1.symm, hil⟩
          obtain ⟨rfl, hil⟩ := hzi
          have h6 := (hR z (by omega)).2.2 q hq
          rw [hz2] at h6
          rw [← h6, hj]
          congr 1
          unfold Addr.add
          by_cases h7 : z * P.cellsOf e = 0 <;> by_cases h8 : q = 0 <;> simp [h7, h8, Nat.add_assoc]
    · intro x hx
      obtain ⟨i, hi', rfl⟩ := List.mem_map.1 hx
      have := hR i (by have := List.mem_range.1 hi'; omega)
      exact ⟨this.1, this.2.1⟩
theorem Rd.int {t : TypeId} {k : IntKind} {cs : List Value} (hu : P.underlying t = some (.int k)) (h : Rd enc P w t cs) : ∃ z : Int, cs = [.int k z] ∧ (Lit.int k z).wf = true := by
  obtain ⟨fuel, x, h, _, _⟩ := h
  obtain ⟨z, h1, _, h2⟩ := DataW.trod_int hu h
  exact ⟨z, h1, h2⟩
/-- An argument. -/
theorem Rd.arg {ts : List TypeId} {ds : List (DataW H)} {j : Nat} {t : TypeId} {v : Value} {d : DataW H} {ps : List MemPlace} (h : DataW.Trod enc P w 0 (fun _ => true) true t v d ps) (hlt : ∀ x ∈ ps, x.block < w.heap.size)
    (hsz : (DataW.weightsEach P ts ds).all (· ≤ reachBytes) = true) (ht : ts[j]? = some t) (hd : ds[j]? = some d) : Rd enc P w t v.cells.toList := by
  obtain ⟨fuel, hf⟩ := h
  exact ⟨fuel, _, hf, hlt, fun n hn => by simpa using List.all_eq_true.1 hsz _ (DataW.weights_mem_each ht hd n hn)⟩
end
end Go.Proofs.YtoboecenlangmaaGreat.Rd
end
section
namespace Go.Proofs.YtoboecenlangmaaGreat.Le
open Go.ChangeShapes Go.WideShapes Go.RowKit Go.Deep

/-- The types of a type's cells. -/
def lv (P : Program) : Nat → TypeId → List TypeId
  | 0, t => [t]
  | n + 1, t => match P.underlying t with
    | some (.struct fs) => fs.toList.flatMap fun f => lv P n f.type
    | some (.array k e) => (List.replicate k (lv P n e)).flatten
    | _ => [t]

/-- The cells' types are where the type's own table says. -/
def good (P : Program) : Nat → TypeId → Bool
  | 0, t => P.cellsOf t == 1
  | n + 1, t => match P.underlying t with
    | some (.struct fs) => (P.cellsOf t == (lv P (n + 1) t).length) && fs.toList.all (fun f => good P n f.type) &&
        (List.range (lv P (n + 1) t).length).all fun i => (List.range fs.size).any fun j => match fs[j]? with
          | some f => decide (f.offset ≤ i) && decide (i < f.offset + P.cellsOf f.type) && decide (f.offset + P.cellsOf f.type ≤ P.cellsOf t) && decide ((lv P n f.type)[i - f.offset]? = (lv P (n + 1) t)[i]?)
          | none => false
    | some (.array k e) => (P.cellsOf t == (lv P (n + 1) t).length) && good P n e &&
        (List.range (lv P (n + 1) t).length).all fun i => (List.range k).any fun j => decide (j * P.cellsOf e ≤ i) && decide (i < j * P.cellsOf e + P.cellsOf e) && decide (j * P.cellsOf e + P.cellsOf e ≤ P.cellsOf t) && decide ((lv P n e)[i - j * P.cellsOf e]? = (lv P (n + 1) t)[i]?)
    | _ => P.cellsOf t == 1

section
variable {H : Type} {enc : TypeId × Value → H} {P : Program} {w : World} {base : Nat} {spare : Nat → Bool} {held : Bool}

theorem slice_get {cs : List Value} {o c i : Nat} (h0 : o ≤ i) (h1 : i < o + c) : ((cs.drop o).take c)[i - o]? = cs[i]? := by
  rw [List.getElem?_take, if_pos (by omega), List.getElem?_drop]
  congr 1
  omega

/-- Each cell reads as its leaf's type. -/
theorem leaves : ∀ (n : Nat) {t : TypeId} {fuel : Nat} {cs : List Value} {x : DataW H × List MemPlace}, good P n t = true → cs.length = P.cellsOf t → DataW.trod enc P w base spare held fuel t cs = some x →
    ∀ (i : Nat) (u : TypeId), (lv P n t)[i]? = some u → ∃ (v : Value) (m : Nat) (y : DataW H × List MemPlace), cs[i]? = some v ∧ DataW.trod enc P w base spare held m u [v] = some y
  | 0, t, fuel, cs, x, hg, hl, h, i, u, hu => by
    simp only [lv] at hu
    match i, hu with
    | 0, hu =>
      simp at hu
      subst hu
      unfold good at hg
      rw [beq_iff_eq] at hg
      rw [hg] at hl
      match cs, hl with
      | [v], _ => exact ⟨v, fuel, x, rfl, h⟩
    | i + 1, hu => simp at hu
  | n + 1, t, fuel, cs, x, hg, hl, h, i, u, hu => by
    have hilt : i < (lv P (n + 1) t).length := by
      rcases Nat.lt_or_ge i (lv P (n + 1) t).length with h1 | h1
      · exact h1
      · rw [List.getElem?_eq_none h1] at hu; cases hu
    unfold good at hg
    split at hg
    · rename_i fs hfs
      simp only [Bool.and_eq_true, List.all_eq_true] at hg
      obtain ⟨⟨_, hgf⟩, hcov⟩ := hg
      have hc := hcov i (List.mem_range.2 hilt)
      simp only [List.any_eq_true] at hc
      obtain ⟨j, hj, hc⟩ := hc
      split at hc
      · rename_i f hf
        simp only [Bool.and_eq_true, decide_eq_true_eq] at hc
        obtain ⟨⟨⟨h1, h2⟩, h4⟩, h3⟩ := hc
        obtain ⟨xs, n', _, _, hcl, hxl, hat⟩ := DataW.trod_struct hfs h
        have hjl : j < fs.size := by
          rcases Nat.lt_or_ge j fs.size with hh | hh
          · exact hh
          · rw [Array.getElem?_eq_none hh] at hf; cases hf
        have hxj : xs[j]? = some (xs[j]'(by omega)) := List.getElem?_eq_getElem (by omega)
        have ht := (hat j f hf).trans hxj
        have hmem : f ∈ fs.toList := by
          have := Array.mem_of_getElem? hf
          simpa using this
        have hlen : ((cs.drop f.offset).take (P.cellsOf f.type)).length = P.cellsOf f.type := by
          rw [List.length_take, List.length_drop]
          omega
        obtain ⟨v, m, y, hv, hy⟩ := leaves n (hgf f hmem) hlen ht (i - f.offset) u (by rw [h3]; exact hu)
        exact ⟨v, m, y, by rw [← slice_get h1 h2]; exact hv, hy⟩
      · cases hc
    · rename_i k e he
      simp only [Bool.and_eq_true, List.all_eq_true] at hg
      obtain ⟨⟨_, hge⟩, hcov⟩ := hg
      have hc := hcov i (List.mem_range.2 hilt)
      simp only [List.any_eq_true, List.mem_range, Bool.and_eq_true, decide_eq_true_eq] at hc
      obtain ⟨j, hj, ⟨⟨h1, h2⟩, h4⟩, h3⟩ := hc
      obtain ⟨xs, n', _, _, hcl, hxl, hat⟩ := DataW.trod_array he h
      have hxj : xs[j]? = some (xs[j]'(by omega)) := List.getElem?_eq_getElem (by omega)
      have ht := (hat j hj).trans hxj
      have hlen : ((cs.drop (j * P.cellsOf e)).take (P.cellsOf e)).length = P.cellsOf e := by
        rw [List.length_take, List.length_drop]
        omega
      obtain ⟨v, m, y, hv, hy⟩ := leaves n hge hlen ht (i - j * P.cellsOf e) u (by rw [h3]; exact hu)
      exact ⟨v, m, y, by rw [← slice_get h1 h2]; exact hv, hy⟩
    · rename_i hns hna
      have hlv : lv P (n + 1) t = [t] := by
        unfold lv
        split
        · rename_i fs hfs; exact absurd hfs (hns fs)
        · rename_i k e he; exact absurd he (hna k e)
        · rfl
      rw [hlv] at hu
      match i, hu with
      | 0, hu =>
        simp at hu
        subst hu
        rw [beq_iff_eq] at hg
        rw [hg] at hl
        match cs, hl with
        | [v], _ => exact ⟨v, fuel, x, rfl, h⟩
      | i + 1, hu => simp at hu
end

section
variable {H : Type} {enc : TypeId × Value → H} {P : Program} {w : World} {base : Nat} {spare : Nat → Bool} {held : Bool}

/-- What is known of a row of cells of type t. -/
def Cells (enc : TypeId × Value → H) (P : Program) (w : World) (base : Nat) (spare : Nat → Bool) (held : Bool) (ls : List TypeId) (cs : List Value) : Prop :=
  cs.length = ls.length ∧ ∀ (i : Nat) (u : TypeId), ls[i]? = some u → ∃ (v : Value) (m : Nat) (y : DataW H × List MemPlace), cs[i]? = some v ∧ DataW.trod enc P w base spare held m u [v] = some y

/-- A struct that comes by value. -/
theorem open_flat {r : Reach} {b0 : Nat} {t : TypeId} {fs : Array Field} {v : Value} {d : DataW H} {ps : List MemPlace} (n : Nat) (ls : List TypeId) (hs : P.underlying t = some (.struct fs)) (hg : good P n t = true) (hl : lv P n t = ls) (hc : P.cellsOf t = ls.length)
    (hv : Value.okWide P w r b0 t v) (h : DataW.Trod enc P w base spare held t v d ps) : ∃ cs : List Value, v = .agg cs.toArray ∧ Cells enc P w base spare held ls cs := by
  obtain ⟨cs, rfl, hsz⟩ := okWide_struct hs hv
  obtain ⟨fuel, hf⟩ := h
  refine ⟨cs.toList, by simp, by simp [hsz, hc], fun i u hu => ?_⟩
  exact leaves n hg (by simp [hsz]) (by simpa [Value.cells] using hf) i u (by rw [hl]; exact hu)

/-- A slice that comes in: where it lies, and its elements' cells. -/
theorem open_rows0 {r : Reach} {b0 : Nat} {t e : TypeId} {v : Value} {d : DataW H} {ps : List MemPlace} (n : Nat) (ls : List TypeId) (ht : P.underlying t = some (.slice e)) (hg : good P n e = true) (hl : lv P n e = ls) (hc : P.cellsOf e = ls.length)
    (hv : Value.okWide P w r b0 t v) (h : DataW.Trod enc P w base (fun _ => true) held t v d ps) (hlt : ∀ x ∈ ps, x.block < w.heap.size) :
    ∃ (A : Option Addr) (c : Nat) (rows : List (List Value)), v = .slice A rows.length c ∧ rows.length ≤ c ∧ c ≤ maxLen ∧ (∀ cs ∈ rows, Cells enc P w base (fun _ => true) held ls cs) ∧ Me.Seg w w.heap.size A rows.flatten ∧ (A = none → c = 0) ∧
      (∃ es sp : List (DataW H), (d = .slice es sp ∧ es.length = rows.length ∧ es.length + sp.length = c) ∨ (d = .nil ∧ rows = [] ∧ c = 0)) := by
  obtain ⟨fuel, hf⟩ := h
  obtain ⟨a0, len0, cap0, rfl⟩ := okWide_slice ht hv
  rw [show Value.cells (.slice a0 len0 cap0) = #[.slice a0 len0 cap0] from rfl] at hf
  rcases open_slice ht hf with ⟨h0, hx⟩ | ⟨a, len, cap, m, nn, D, Pl, hcs, _, hlc, hcm, hm, hx, hi⟩
  · simp at h0
    obtain ⟨rfl, rfl, rfl⟩ := h0
    simp only [Prod.mk.injEq] at hx
    exact ⟨none, 0, [], rfl, Nat.le_refl _, by simp [maxLen], by simp, .inl rfl, fun _ => rfl, [], [], .inr ⟨hx.1, rfl, rfl⟩⟩
  · simp at hcs
    obtain ⟨rfl, rfl, rfl⟩ := hcs
    simp only [if_true] at hm
    subst hm
    simp only [Prod.mk.injEq] at hx
    obtain ⟨hd, hps⟩ := hx
    have hrow : ∀ i, i < len0 → ∃ cs, w.cells? base (a.add (i * P.cellsOf e)) (P.cellsOf e) = some cs ∧ Cells enc P w base (fun _ => true) held ls cs := by
      intro i hil
      obtain ⟨cs, h1, h2⟩ := hi i (by omega)
      obtain ⟨_, h3, _⟩ := World.cells?_some h1
      exact ⟨cs, h1, by rw [h3, hc], fun j u hu => leaves n hg h3 h2 j u (by rw [hl]; exact hu)⟩
    let R : Nat → List Value := fun i => (w.cells? base (a.add (i * P.cellsOf e)) (P.cellsOf e)).getD []
    have hR : ∀ i, i < len0 → Cells enc P w base (fun _ => true) held ls (R i) ∧ ∀ j, j < P.cellsOf e → w.cell? ((a.add (i * P.cellsOf e)).add j) = (R i)[j]? := by
      intro i hil
      obtain ⟨cs, h1, h2⟩ := hrow i hil
      have e1 : R i = cs := by simp [R, h1]
      rw [e1]
      exact ⟨h2, (World.cells?_some h1).2.2⟩
    have hlen : ∀ i, i < len0 → (R i).length = P.cellsOf e := fun i hil => by rw [hc]; exact (hR i hil).1.1
    refine ⟨some a, m, (List.range len0).map R, by simp, by simpa using hlc, hcm, ?_, ?_, (by intro hh; cases hh), (List.range len0).map D, (List.range (m - len0)).map fun j => D (len0 + j), .inl ⟨hd, by simp, by simp; omega⟩⟩
    · intro cs hcs
      obtain ⟨i, hi', rfl⟩ := List.mem_map.1 hcs
      exact (hR i (List.mem_range.1 hi')).1
    · by_cases hz : ((List.range len0).map R).flatten = []
      · exact .inl hz
      · have hpos : 0 < len0 * P.cellsOf e := by
          rcases Nat.eq_zero_or_pos (len0 * P.cellsOf e) with h1 | h1
          · exfalso
            apply hz
            rw [List.flatten_eq_nil_iff]
            intro l hl'
            obtain ⟨i, hi', rfl⟩ := List.mem_map.1 hl'
            have hil := List.mem_range.1 hi'
            have h2 := hlen i hil
            rcases Nat.mul_eq_zero.1 h1 with h3 | h3
            · omega
            · rw [h3] at h2; exact List.eq_nil_of_length_eq_zero h2
          · exact h1
        have hlen0 : 0 < len0 := Nat.pos_of_mul_pos_right hpos
        have hce : 0 < P.cellsOf e := Nat.pos_of_mul_pos_left hpos
        have hcell0 : ∃ u, w.cell? a = some u := by
          obtain ⟨h1, h2⟩ := hR 0 hlen0
          have h3 := h2 0 hce
          have h4 : (a.add (0 * P.cellsOf e)).add 0 = a := by simp [Addr.add]
          rw [h4] at h3
          refine ⟨_, h3.trans (List.getElem?_eq_getElem (by rw [hlen 0 hlen0]; exact hce))⟩
        obtain ⟨u0, hu0⟩ := hcell0
        have hspot : a.spot = none := World.cell?_spot hu0
        obtain ⟨b, off, sp⟩ := a
        simp only at hspot
        subst hspot
        refine .inr ⟨b, off, rfl, ?_, ?_⟩
        · have hm0 := Nat.mul_le_mul_right (P.cellsOf e) hlc
          have := hlt (.cell b off) (by rw [hps]; exact List.mem_append_left _ (List.mem_map.2 ⟨0, List.mem_range.2 (by omega), rfl⟩))
          exact this
        · intro j u hu
          have hall : ∀ (k : Nat) (l : List Nat), (∀ i ∈ l, i < len0) → ∀ j u, ((l.map R).flatten)[j]? = some u → ∃ i q, l[i]? ≠ none ∧ j = i * P.cellsOf e + q ∧ q < P.cellsOf e ∧ ∃ z, l[i]? = some z ∧ (R z)[q]? = some u := by
            intro k l
            induction l with
            | nil => intro _ j u h; simp at h
            | cons z l ih =>
              intro hl' j u h
              simp only [List.map_cons, List.flatten_cons] at h
              have hz1 := hlen z (hl' z (by simp))
              rcases Nat.lt_or_ge j (P.cellsOf e) with hj | hj
              · rw [List.getElem?_append_left (by omega)] at h
                exact ⟨0, j, by simp, by omega, hj, z, by simp, h⟩
              · rw [List.getElem?_append_right (by omega), hz1] at h
                obtain ⟨i, q, h1, h2, h3, y, h4, h5⟩ := ih (fun i hi' => hl' i (by simp [hi'])) _ _ h
                refine ⟨i + 1, q, by simpa using h1, ?_, h3, y, by simpa using h4, h5⟩
                rw [Nat.add_mul]; omega
          obtain ⟨i, q, _, hj, hq, z, hz1, hz2⟩ := hall 0 (List.range len0) (fun i hi' => List.mem_range.1 hi') j u hu
          have hzi : z = i ∧ i < len0 := by
            have hil : i < len0 := by
              rcases Nat.lt_or_ge i len0 with h1 | h1
              · exact h1
              · rw [List.getElem?_eq_none (by simpa using h1)] at hz1; cases hz1
            rw [List.getElem?_range hil] at hz1
            injection hz1 with hz1
            exact ⟨hz1.symm, hil⟩
          obtain ⟨rfl, hil⟩ := hzi
          have h6 := (hR z hil).2 q hq
          rw [hz2] at h6
          rw [← h6, hj]
          congr 1
          unfold Addr.add
          by_cases h7 : z * P.cellsOf e = 0 <;> by_cases h8 : q = 0 <;> simp [h7, h8, Nat.add_assoc]
theorem open_rows {r : Reach} {b0 : Nat} {t e : TypeId} {v : Value} {d : DataW H} {ps : List MemPlace} (n : Nat) (ls : List TypeId) (ht : P.underlying t = some (.slice e)) (hg : good P n e = true) (hl : lv P n e = ls) (hc : P.cellsOf e = ls.length)
    (hv : Value.okWide P w r b0 t v) (h : DataW.Trod enc P w base (fun _ => true) held t v d ps) (hlt : ∀ x ∈ ps, x.block < w.heap.size) :
    ∃ (A : Option Addr) (c : Nat) (rows : List (List Value)), v = .slice A rows.length c ∧ rows.length ≤ c ∧ c ≤ maxLen ∧ (∀ cs ∈ rows, Cells enc P w base (fun _ => true) held ls cs) ∧ Me.Seg w w.heap.size A rows.flatten ∧
      (∃ es sp : List (DataW H), (d = .slice es sp ∧ es.length = rows.length ∧ es.length + sp.length = c) ∨ (d = .nil ∧ rows = [] ∧ c = 0)) := by
  obtain ⟨A, c, rows, h1, h2, h3, h4, h5, _, h6⟩ := open_rows0 n ls ht hg hl hc hv h hlt
  exact ⟨A, c, rows, h1, h2, h3, h4, h5, h6⟩
end

section
variable {H : Type} {enc : TypeId × Value → H} {P : Program} {w : World} {base : Nat} {spare : Nat → Bool} {held : Bool}
/-- Cells that are all integers of one kind. -/
theorem cells_ints {ti : TypeId} {k : IntKind} (hu : P.underlying ti = some (.int k)) : ∀ {n : Nat} {cs : List Value}, Cells enc P w base spare held (List.replicate n ti) cs →
    ∃ zs : List Int, zs.length = n ∧ cs = zs.map (Value.int k) ∧ ∀ z ∈ zs, (Lit.int k z).wf = true
  | 0, cs, h => ⟨[], rfl, by simpa using h.1, by simp⟩
  | n + 1, cs, h => by
    obtain ⟨hl, hc⟩ := h
    match cs, hl with
    | c :: cs, hl =>
      obtain ⟨v, m, y, hv, hy⟩ := hc 0 ti (by simp [List.replicate_succ])
      simp at hv
      subst hv
      obtain ⟨z, hz, _, hw⟩ := DataW.trod_int hu hy
      simp at hz
      subst hz
      obtain ⟨zs, h1, h2, h3⟩ := cells_ints hu (n := n) (cs := cs) ⟨by simpa [List.replicate_succ] using hl, fun i u hi => by
        obtain ⟨v, m, y, hv, hy⟩ := hc (i + 1) u (by simpa [List.replicate_succ] using hi)
        exact ⟨v, m, y, by simpa using hv, hy⟩⟩
      exact ⟨z :: zs, by simp [h1], by simp [h2], by
        intro x hx
        rcases List.mem_cons.1 hx with rfl | hx
        · exact hw
        · exact h3 x hx⟩
theorem wf_bd {z : Int} (h : (Lit.int .i64 z).wf = true) : -9223372036854775808 ≤ z ∧ z ≤ 9223372036854775807 := by
  simp [Lit.wf, IntKind.min, IntKind.max, IntKind.signed, IntKind.bits] at h
  omega
end
end Go.Proofs.YtoboecenlangmaaGreat.Le
end
section
namespace Go.Proofs.YtoboecenlangmaaGreat.No
open Go.ChangeShapes Go.WideShapes Go.ChangeAt Go.RowKit
open Me Np
set_option linter.unusedVariables false

def leafs : List TypeId := [3, 3, 5, 3, 3, 3, 3, 3, 3, 3, 3, 3, 3, 3, 3, 3, 3, 3, 9]
theorem node_of {H : Type} {enc : TypeId × Value → H} {w : World} {base : Nat} {spare : Nat → Bool} {held : Bool} {cs : List Value} (h : Le.Cells enc Tryz.prog w base spare held leafs cs) : ∃ n : Nd, cs = ncs n := by
  obtain ⟨hl, hc⟩ := h
  have hl : cs.length = 19 := hl
  obtain ⟨v0, m0, y0, e0, t0⟩ := hc 0 3 rfl
  obtain ⟨z0, g0, _⟩ := DataW.trod_int Tryz.underlying3 t0
  simp only [List.cons.injEq, and_true] at g0
  subst g0
  obtain ⟨v1, m1, y1, e1, t1⟩ := hc 1 3 rfl
  obtain ⟨z1, g1, _⟩ := DataW.trod_int Tryz.underlying3 t1
  simp only [List.cons.injEq, and_true] at g1
  subst g1
  obtain ⟨v2, m2, y2, e2, t2⟩ := hc 2 5 rfl
  obtain ⟨z2, g2, _⟩ := DataW.trod_int Tryz.underlying5 t2
  simp only [List.cons.injEq, and_true] at g2
  subst g2
  obtain ⟨v3, m3, y3, e3, t3⟩ := hc 3 3 rfl
  obtain ⟨z3, g3, _⟩ := DataW.trod_int Tryz.underlying3 t3
  simp only [List.cons.injEq, and_true] at g3
  subst g3
  obtain ⟨v4, m4, y4, e4, t4⟩ := hc 4 3 rfl
  obtain ⟨z4, g4, _⟩ := DataW.trod_int Tryz.underlying3 t4
  simp only [List.cons.injEq, and_true] at g4
  subst g4
  obtain ⟨v5, m5, y5, e5, t5⟩ := hc 5 3 rfl
  obtain ⟨z5, g5, _⟩ := DataW.trod_int Tryz.underlying3 t5
  simp only [List.cons.injEq, and_true] at g5
  subst g5
  obtain ⟨v6, m6, y6, e6, t6⟩ := hc 6 3 rfl
  obtain ⟨z6, g6, _⟩ := DataW.trod_int Tryz.underlying3 t6
  simp only [List.cons.injEq, and_true] at g6
  subst g6
  obtain ⟨v7, m7, y7, e7, t7⟩ := hc 7 3 rfl
  obtain ⟨z7, g7, _⟩ := DataW.trod_int Tryz.underlying3 t7
  simp only [List.cons.injEq, and_true] at g7
  subst g7
  obtain ⟨v8, m8, y8, e8, t8⟩ := hc 8 3 rfl
  obtain ⟨z8, g8, _⟩ := DataW.trod_int Tryz.underlying3 t8
  simp only [List.cons.injEq, and_true] at g8
  subst g8
  obtain ⟨v9, m9, y9, e9, t9⟩ := hc 9 3 rfl
  obtain ⟨z9, g9, _⟩ := DataW.trod_int Tryz.underlying3 t9
  simp only [List.cons.injEq, and_true] at g9
  subst g9
  obtain ⟨v10, m10, y10, e10, t10⟩ := hc 10 3 rfl
  obtain ⟨z10, g10, _⟩ := DataW.trod_int Tryz.underlying3 t10
  simp only [List.cons.injEq, and_true] at g10
  subst g10
  obtain ⟨v11, m11, y11, e11, t11⟩ := hc 11 3 rfl
  obtain ⟨z11, g11, _⟩ := DataW.trod_int Tryz.underlying3 t11
  simp only [List.cons.injEq, and_true] at g11
  subst g11
  obtain ⟨v12, m12, y12, e12, t12⟩ := hc 12 3 rfl
  obtain ⟨z12, g12, _⟩ := DataW.trod_int Tryz.underlying3 t12
  simp only [List.cons.injEq, and_true] at g12
  subst g12
  obtain ⟨v13, m13, y13, e13, t13⟩ := hc 13 3 rfl
  obtain ⟨z13, g13, _⟩ := DataW.trod_int Tryz.underlying3 t13
  simp only [List.cons.injEq, and_true] at g13
  subst g13
  obtain ⟨v14, m14, y14, e14, t14⟩ := hc 14 3 rfl
  obtain ⟨z14, g14, _⟩ := DataW.trod_int Tryz.underlying3 t14
  simp only [List.cons.injEq, and_true] at g14
  subst g14
  obtain ⟨v15, m15, y15, e15, t15⟩ := hc 15 3 rfl
  obtain ⟨z15, g15, _⟩ := DataW.trod_int Tryz.underlying3 t15
  simp only [List.cons.injEq, and_true] at g15
  subst g15
  obtain ⟨v16, m16, y16, e16, t16⟩ := hc 16 3 rfl
  obtain ⟨z16, g16, _⟩ := DataW.trod_int Tryz.underlying3 t16
  simp only [List.cons.injEq, and_true] at g16
  subst g16
  obtain ⟨v17, m17, y17, e17, t17⟩ := hc 17 3 rfl
  obtain ⟨z17, g17, _⟩ := DataW.trod_int Tryz.underlying3 t17
  simp only [List.cons.injEq, and_true] at g17
  subst g17
  obtain ⟨v18, m18, y18, e18, t18⟩ := hc 18 9 rfl
  obtain ⟨z18, g18, _⟩ := DataW.trod_string Tryz.underlying9 t18
  simp only [List.cons.injEq, and_true] at g18
  subst g18
  refine ⟨⟨z0, z1, z2, z3, z4, z5, z6, z7, z8, z9, z10, z11, z12, z13, z14, z15, z16, z17, z18⟩, ?_⟩
  apply List.ext_getElem?
  intro i
  match i with
  | 0 => exact e0
  | 1 => exact e1
  | 2 => exact e2
  | 3 => exact e3
  | 4 => exact e4
  | 5 => exact e5
  | 6 => exact e6
  | 7 => exact e7
  | 8 => exact e8
  | 9 => exact e9
  | 10 => exact e10
  | 11 => exact e11
  | 12 => exact e12
  | 13 => exact e13
  | 14 => exact e14
  | 15 => exact e15
  | 16 => exact e16
  | 17 => exact e17
  | 18 => exact e18
  | i + 19 =>
    rw [List.getElem?_eq_none (by omega), List.getElem?_eq_none (by rw [ncs_length]; omega)]
theorem nodes_of {H : Type} {enc : TypeId × Value → H} {w : World} {base : Nat} {spare : Nat → Bool} {held : Bool} : ∀ {rows : List (List Value)}, (∀ cs ∈ rows, Le.Cells enc Tryz.prog w base spare held leafs cs) → ∃ l : List Nd, l.length = rows.length ∧ rows.flatten = l.flatMap ncs
  | [], _ => ⟨[], rfl, rfl⟩
  | cs :: rows, h => by
    obtain ⟨n, hn⟩ := node_of (h cs (by simp))
    obtain ⟨l, h1, h2⟩ := nodes_of (rows := rows) (fun c hc => h c (by simp [hc]))
    exact ⟨n :: l, by simp [h1], by simp [hn, h2]⟩
theorem bytes_node : Tryz.prog.bytesOf 101 = 160 := by kernel_rfl
end Go.Proofs.YtoboecenlangmaaGreat.No
end
section
namespace Go.Proofs.YtoboecenlangmaaGreat.Al
open Go.ChangeShapes Go.WideShapes Go.RowKit
open Me Np No
open Gl (G Row)
open Rd (Rd)
set_option linter.unusedVariables false

section
variable {H : Type} {enc : TypeId × Value → H} {w : World}
theorem cells_of {t : TypeId} {ls : List TypeId} {cs : List Value} (h : Rd enc Tryz.prog w t cs) (hg : Le.good Tryz.prog 8 t = true) (hl : Le.lv Tryz.prog 8 t = ls) (hc : Tryz.prog.cellsOf t = ls.length) (hn : cs.length = Tryz.prog.cellsOf t) : Le.Cells enc Tryz.prog w 0 (fun _ => true) true ls cs := by
  obtain ⟨fuel, x, hf, _⟩ := h
  exact ⟨by rw [hn, hc], fun i u hu => Le.leaves 8 hg hn hf i u (by rw [hl]; exact hu)⟩
theorem list_in {v : Value} (h : Rd enc Tryz.prog w 39 [v]) : ∃ (A : Option Addr) (c : Nat) (l : List Nd), v = .slice A l.length c ∧ LsOk w (fun _ => True) A c l := by
  obtain ⟨A, c, rows, hv, hc, _, hby, hs, hz, hr⟩ := h.slice Tryz.underlying39
  rw [No.bytes_node] at hby
  simp only [reachBytes] at hby
  have hce : Tryz.prog.cellsOf 101 = 19 := by kernel_rfl
  obtain ⟨l, hl1, hl2⟩ := No.nodes_of (rows := rows) (fun x hx => cells_of (hr x hx).2 (by kernel_rfl) (by kernel_rfl) (by rw [hce]; rfl) (hr x hx).1)
  injection hv with hv _
  refine ⟨A, c, l, by rw [hv, hl1], ⟨by rw [hl1]; exact hc, by omega, hz, ?_⟩⟩
  rw [hl2] at hs
  exact SegS.of hs (Nat.le_refl _) fun _ _ => trivial
theorem take_one {cs : List Value} {i n : Nat} {v : Value} (h : cs[i]? = some v) (hn : n = 1) : (cs.drop i).take n = [v] := by
  subst hn
  have hlt : i < cs.length := by
    rcases Nat.lt_or_ge i cs.length with h1 | h1
    · exact h1
    · rw [List.getElem?_eq_none h1] at h; cases h
  rw [List.drop_eq_getElem_cons hlt, List.take_succ_cons, List.take_zero]
  rw [List.getElem?_eq_getElem hlt] at h
  injection h with h
  rw [h]
theorem one_int : Tryz.prog.cellsOf 3 = 1 := by kernel_rfl
theorem one_nodes : Tryz.prog.cellsOf 39 = 1 := by kernel_rfl
theorem one_cells : Tryz.prog.cellsOf 79 = 1 := by kernel_rfl
theorem cell_in {cs : List Value} (hl : cs.length = 2) (h : Rd enc Tryz.prog w 86 cs) : ∃ x : Cl, cs = x.vals ∧ LsOk w (fun _ => True) x.A x.c x.l := by
  match cs, hl with
  | [v0, v1], _ =>
    obtain ⟨_, hf⟩ := h.struct Tryz.underlying86
    have h0 : Rd enc Tryz.prog w 39 (([v0, v1].drop 0).take (Tryz.prog.cellsOf 39)) := hf 0 _ rfl
    have h1 : Rd enc Tryz.prog w 3 (([v0, v1].drop 1).take (Tryz.prog.cellsOf 3)) := hf 1 _ rfl
    rw [take_one (v := v0) rfl one_nodes] at h0
    rw [take_one (v := v1) rfl one_int] at h1
    obtain ⟨A, c, l, rfl, hls⟩ := list_in h0
    obtain ⟨z, hz, _⟩ := h1.int Tryz.underlying3
    injection hz with hz _
    subst hz
    exact ⟨⟨A, c, l, z⟩, rfl, hls⟩
theorem cells_in : ∀ {rows : List (List Value)}, (∀ x ∈ rows, x.length = 2 ∧ Rd enc Tryz.prog w 86 x) → ∃ l : List Cl, l.length = rows.length ∧ rows.flatten = l.flatMap Cl.vals ∧ ∀ x ∈ l, LsOk w (fun _ => True) x.A x.c x.l
  | [], _ => ⟨[], rfl, rfl, by simp⟩
  | r :: rows, h => by
    obtain ⟨x, hx, hk⟩ := cell_in (h r (by simp)).1 (h r (by simp)).2
    obtain ⟨l, h1, h2, h3⟩ := cells_in (rows := rows) fun y hy => h y (by simp [hy])
    refine ⟨x :: l, by simp [h1], by simp [hx, h2], fun y hy => ?_⟩
    rcases List.mem_cons.1 hy with rfl | hy
    · exact hk
    · exact h3 y hy
theorem row_in {cs : List Value} (hl : cs.length = 2) (h : Rd enc Tryz.prog w 81 cs) : ∃ r : Rw, cs = r.vals ∧ r.Ok w (fun _ => True) := by
  match cs, hl with
  | [v0, v1], _ =>
    obtain ⟨_, hf⟩ := h.struct Tryz.underlying81
    have h0 : Rd enc Tryz.prog w 79 (([v0, v1].drop 0).take (Tryz.prog.cellsOf 79)) := hf 0 _ rfl
    have h1 : Rd enc Tryz.prog w 39 (([v0, v1].drop 1).take (Tryz.prog.cellsOf 39)) := hf 1 _ rfl
    rw [take_one (v := v0) rfl one_cells] at h0
    rw [take_one (v := v1) rfl one_nodes] at h1
    obtain ⟨A, c, rows, hv, hc, _, hby, hs, hz, hr⟩ := h0.slice Tryz.underlying79
    have hb32 : Tryz.prog.bytesOf 86 = 32 := by kernel_rfl
    rw [hb32] at hby
    simp only [reachBytes] at hby
    have hce : Tryz.prog.cellsOf 86 = 2 := by kernel_rfl
    obtain ⟨l, h2, h3, h4⟩ := cells_in (rows := rows) fun x hx => ⟨by rw [(hr x hx).1, hce], (hr x hx).2⟩
    obtain ⟨E, k, ex, rfl, hx⟩ := list_in h1
    injection hv with hv _
    subst hv
    refine ⟨⟨A, c, l, E, k, ex⟩, by rw [← h2]; rfl, ⟨by show l.length ≤ c; omega, by show l.length ≤ _; omega, ?_, h4, hx⟩⟩
    rw [h3] at hs
    exact SegS.of hs (Nat.le_refl _) fun _ _ => trivial
theorem rows_in : ∀ {rows : List (List Value)}, (∀ x ∈ rows, x.length = 2 ∧ Rd enc Tryz.prog w 81 x) → ∃ l : List Rw, l.length = rows.length ∧ rows.flatten = l.flatMap Rw.vals ∧ ∀ x ∈ l, x.Ok w (fun _ => True)
  | [], _ => ⟨[], rfl, rfl, by simp⟩
  | r :: rows, h => by
    obtain ⟨x, hx, hk⟩ := row_in (h r (by simp)).1 (h r (by simp)).2
    obtain ⟨l, h1, h2, h3⟩ := rows_in (rows := rows) fun y hy => h y (by simp [hy])
    refine ⟨x :: l, by simp [h1], by simp [hx, h2], fun y hy => ?_⟩
    rcases List.mem_cons.1 hy with rfl | hy
    · exact hk
    · exact h3 y hy
/-- Rows. -/
theorem arg_rows {v : Value} (h : Rd enc Tryz.prog w 23 [v]) : ∃ (A : Option Addr) (c : Nat) (rs : List Rw), v = .slice A rs.length c ∧ RsOk w (fun _ => True) A c rs := by
  obtain ⟨A, c, rows, hv, hc, _, hby, hs, hz, hr⟩ := h.slice Tryz.underlying23
  have hb48 : Tryz.prog.bytesOf 81 = 48 := by kernel_rfl
  rw [hb48] at hby
  simp only [reachBytes] at hby
  have hce : Tryz.prog.cellsOf 81 = 2 := by kernel_rfl
  obtain ⟨l, h2, h3, h4⟩ := rows_in (rows := rows) fun x hx => ⟨by rw [(hr x hx).1, hce], (hr x hx).2⟩
  injection hv with hv _
  refine ⟨A, c, l, by rw [hv, h2], ⟨by omega, by omega, ?_, h4⟩⟩
  rw [h3] at hs
  exact SegS.of hs (Nat.le_refl _) fun _ _ => trivial
theorem glue_in {cs : List Value} (hl : cs.length = 5) (h : Le.Cells enc Tryz.prog w 0 (fun _ => true) true (List.replicate 5 3) cs) : ∃ g : G, cs = g.vals := by
  obtain ⟨zs, h1, h2, _⟩ := Le.cells_ints Tryz.underlying3 h
  match zs, h1 with
  | [a, b, c, d, e], _ => exact ⟨⟨a, b, c, d, e⟩, h2⟩
theorem glues_in : ∀ {rows : List (List Value)}, (∀ x ∈ rows, x.length = 5 ∧ Le.Cells enc Tryz.prog w 0 (fun _ => true) true (List.replicate 5 3) x) → ∃ l : List G, l.length = rows.length ∧ rows.flatten = l.flatMap G.vals
  | [], _ => ⟨[], rfl, rfl⟩
  | r :: rows, h => by
    obtain ⟨x, hx⟩ := glue_in (h r (by simp)).1 (h r (by simp)).2
    obtain ⟨l, h1, h2⟩ := glues_in (rows := rows) fun y hy => h y (by simp [hy])
    exact ⟨x :: l, by simp [h1], by simp [hx, h2]⟩
/-- Skips. -/
theorem arg_glues {v : Value} (h : Rd enc Tryz.prog w 22 [v]) : ∃ (A : Option Addr) (c : Nat) (ss : List G), v = .slice A ss.length c ∧ Row w A ss ∧ ss.length ≤ maxLen := by
  obtain ⟨A, c, rows, hv, hc, hm, hby, hs, hz, hr⟩ := h.slice Tryz.underlying22
  have hce : Tryz.prog.cellsOf 96 = 5 := by kernel_rfl
  obtain ⟨l, h2, h3⟩ := glues_in (rows := rows) fun x hx => ⟨by rw [(hr x hx).1, hce], cells_of (hr x hx).2 (by kernel_rfl) (by kernel_rfl) (by rw [hce]; rfl) (hr x hx).1⟩
  injection hv with hv _
  refine ⟨A, c, l, by rw [hv, h2], ?_, by omega⟩
  rw [h3] at hs
  exact hs
end
end Go.Proofs.YtoboecenlangmaaGreat.Al
end
section
namespace Go.Proofs.YtoboecenlangmaaGreat.Li
open Go.ChangeShapes Go.WideShapes Go.ChangeAt Go.RowKit

section
variable {H : Type} {enc : TypeId × Value → H} {P : Program}

theorem trodAll_below (hl : laidOutB P = true) {W W' : World} (hb : Below W.heap.size W W') {sp : Nat → Bool} :
    ∀ {ts : List TypeId} {vs : List Value} {ds : List (DataW H)} {p : List MemPlace}, ts.all (fun t => P.readableRec t && decide (t < P.types.size)) = true → DataW.TrodAll enc P W 0 (fun _ => true) true ts vs ds p →
      (∀ x ∈ p, x.block < W.heap.size) → (∀ x ∈ p, sp x.block = true) → DataW.TrodAll enc P W' 0 sp true ts vs ds p
  | [], _, _, _, _, h, _, _ => by
    obtain ⟨rfl, rfl, rfl⟩ := trodAll_nil h
    exact trodAll_mk0
  | t :: ts, _, _, _, hr, h, hlt, hs => by
    obtain ⟨v, vs1, d, ds1, a, b, rfl, rfl, rfl, h1, h2⟩ := trodAll_cons h
    simp only [List.all_cons, Bool.and_eq_true, decide_eq_true_eq] at hr
    refine trodAll_cons_mk (WideElems.Trod_stays hl hr.1.1 hr.1.2 h1 (fun x hx => hb.same (hlt x (by simp [hx]))) (fun x hx => hs x (by simp [hx]))) ?_
    exact trodAll_below hl hb (by simpa using hr.2) h2 (fun x hx => hlt x (by simp [hx])) (fun x hx => hs x (by simp [hx]))

theorem law_post {f : Func} {s : ChangeSpec} {apart fresh handsOn again : Bool} {W W' : World} {args : Array Value} {ds gs : List (DataW H)} {before : List MemPlace} {tb : TypeId}
    (hl : laidOutB P = true) (hv : s.vars = []) (hW : DataW.Whole enc P f.params.toList s.vars apart W args.toList ds gs before) (hr : f.params.toList.all (fun t => P.readableRec t && decide (t < P.types.size)) = true)
    (hres : (s.fn H (ds ++ gs)).results = [.lit (.bool true)]) (hargs : (s.fn H (ds ++ gs)).args = ds) (hvars : (s.fn H (ds ++ gs)).vars = []) (hrt : f.resultTypes = #[tb]) (htb : P.underlying tb = some .bool)
    (hb : Below W.heap.size W W') : s.post enc P f apart fresh handsOn again W args (.bool true) W' := by
  have hlt0 := hW.lt
  obtain ⟨p, q, hA, hV, he, hfz, hnd⟩ := id hW
  rw [hv] at hV
  obtain ⟨rfl, rfl⟩ := trodVars_none hV
  rw [List.append_nil] at he
  subst he
  have hlt : ∀ x ∈ before, x.block < W.heap.size := fun x hx => hlt0 x hx
  have hR : ∀ (b : Nat) (sp : Nat → Bool) (hd : Bool), DataW.TrodAll enc P W' b sp hd f.resultTypes.toList ((Value.bool true).resultList f.resultTypes.size) (s.fn H (ds ++ [])).results [] := by
    intro b sp hd
    rw [hrt, hres]
    exact trodAll_mk1 (shut_bool htb _)
  have hVW : ∀ sp : Nat → Bool, DataW.TrodVars enc P W' sp s.vars (s.fn H (ds ++ [])).vars [] := by
    intro sp
    rw [hv, hvars]
    rfl
  have hAW : ∀ sp : Nat → Bool, (∀ x ∈ before, sp x.block = true) → DataW.TrodAll enc P W' 0 sp true f.params.toList args.toList (s.fn H (ds ++ [])).args before := by
    intro sp hs
    rw [hargs]
    exact trodAll_below hl hb hr hA hlt hs
  refine ⟨ds, [], before, [], before, [], hW, hR _ _ _, hAW _ (fun x hx => by simpa using hlt x hx), hVW _, World.keptBut_mono (fun x hx => ⟨hx, .inr (.inl hx)⟩) (hb.frame (· ∈ before)), fun _ => ⟨?_, ?_⟩⟩
  · exact ok_one hrt rfl (okWide_bool_mk htb _)
  · refine ⟨_, _, [] ++ before ++ [], ⟨[] ++ before, [], trodAll_append (hAW _ (fun _ _ => rfl)) (hR _ _ _), hVW _, rfl, ?_, ?_⟩, ?_⟩
    · intro b off hx
      have hx' : MemPlace.cell b off ∈ before := by simpa using hx
      rw [hb.frozen (hlt _ hx')]
      exact hfz b off hx'
    · intro ha
      simpa using hnd ha
    · intro x hx _
      simpa using hx
end
end Go.Proofs.YtoboecenlangmaaGreat.Li
end
section
namespace Go.Proofs.YtoboecenlangmaaGreat.AlignWidths
open Go.ChangeShapes Go.WideShapes Go.ChangeAt Go.RowKit
set_option linter.unusedVariables false

theorem own : ownKnob Tryz.prog.godebug = none := by kernel_rfl
theorem laidOut : laidOutB Tryz.prog = true := by kernel_rfl

set_option maxRecDepth 100000 in
theorem lifted (os : Os) (started : os.Started) (H : Type) (enc : TypeId × Value → H) :
    ReturnsInHanded {} Tryz.checked os 3 .any (Rows.alignWidthsSpec.pre6 enc Tryz.prog Tryz.f3 Rows.alignWidthsRow.domain false) (Rows.alignWidthsSpec.post enc Tryz.prog Tryz.f3 false true false false) := by
  refine returnsInHanded_of_change_sized (C := Tryz.checked) own started (by kernel_rfl) Tryz.func3
    (ChangeSpec.witness6 (enc := enc) (C := Tryz.checked) false ⟨#[], #[.slice none 0 0, .slice none 0 0], []⟩ 8 (by kernel_rfl) (by kernel_rfl) (by kernel_rfl) (by kernel_rfl)) ?_
  intro W base args ds gs before hval0 hW _ hsz0 _
  have hval : ∀ (j : Nat) t v, Tryz.f3.params[j]? = some t → args[j]? = some v → Value.okWide Tryz.prog W .any base t v := hval0
  have hsz : (DataW.weightsEach Tryz.prog (Tryz.f3.params.toList ++ Rows.alignWidthsSpec.plain.varTypes Tryz.prog) (ds ++ gs)).all (· ≤ reachBytes) = true := hsz0
  have hW' := hW
  have hlt0 := hW.lt
  obtain ⟨p, q, hA0, hV, he, hfz, hnd⟩ := hW
  have hA : DataW.TrodAll enc Tryz.prog W 0 (fun _ => true) true Tryz.f3.params.toList args.toList ds p := hA0
  rw [Tryz.params3] at hA hval hsz
  obtain ⟨rfl, rfl⟩ := trodVars_none hV
  rw [List.append_nil] at he
  subst he
  obtain ⟨v0, vs0, d0, ds0, p0, q0, hargs, rfl, rfl, h0, r0⟩ := trodAll_cons hA
  obtain ⟨v1, vs1, d1, ds1, p1, q1, rfl, rfl, rfl, h1, r1⟩ := trodAll_cons r0
  obtain ⟨rfl, rfl, rfl⟩ := trodAll_nil r1
  obtain rfl : args = #[v0, v1] := by cases args; simp_all
  have k0 : ∀ x ∈ p0, x.block < W.heap.size := fun x hx => hlt0 x (by simp [hx])
  have k1 : ∀ x ∈ p1, x.block < W.heap.size := fun x hx => hlt0 x (by simp [hx])
  have hR0 := Rd.Rd.arg h0 k0 hsz (j := 0) (t := 22) rfl rfl
  obtain ⟨a0, len0, cap0, rfl⟩ := okWide_slice Tryz.underlying22 (hval 0 22 v0 rfl rfl)
  obtain ⟨A0, c0, l0, hv0, hx0, h63⟩ := Al.arg_glues (show Rd.Rd enc Tryz.prog W 22 [.slice a0 len0 cap0] from hR0)
  injection hv0 with e1 e2 e3
  subst e1 e2 e3
  have hR1 := Rd.Rd.arg h1 k1 hsz (j := 1) (t := 23) rfl rfl
  obtain ⟨a1, len1, cap1, rfl⟩ := okWide_slice Tryz.underlying23 (hval 1 23 v1 rfl rfl)
  obtain ⟨A1, c1, l1, hv1, hx1⟩ := Al.arg_rows (show Rd.Rd enc Tryz.prog W 23 [.slice a1 len1 cap1] from hR1)
  injection hv1 with e1 e2 e3
  subst e1 e2 e3
  clear hA0 hval0
  refine (Al.widths_walk a0 l0 cap0 a1 l1 cap1  W hx0 h63 hx1).mono fun e W' ⟨he, hb⟩ => ?_
  subst he
  exact ⟨_, rfl, Li.law_post laidOut rfl hW' (by kernel_rfl) rfl rfl rfl rfl Tryz.underlying4 hb⟩

theorem over : Rows.alignWidthsRow.holds Tryz.pinned (OpenSpec.ofChange Rows.alignWidthsSpec) :=
  OpenClaim.holds_of_wide 3 Tryz.f3 rfl rfl rfl rfl rfl rfl rfl ⟨rfl, rfl, rfl, rfl, rfl⟩ rfl rfl rfl rfl rfl (by kernel_rfl) Tryz.func3 (by kernel_rfl)
    (of_decide_eq_true (by kernel_rfl)) (by unfold Func.isWrapper; first | (rw [if_pos (by decide +kernel)]; kernel_rfl) | (rw [if_neg (by decide +kernel)]; exact ⟨rfl, rfl⟩))
    (fun os started H enc _ => lifted os started H enc)

theorem proved : Rows.AlignWidthsSaid := over
#print axioms proved
end Go.Proofs.YtoboecenlangmaaGreat.AlignWidths
end
