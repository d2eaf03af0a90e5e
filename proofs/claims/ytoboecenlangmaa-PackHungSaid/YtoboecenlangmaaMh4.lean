import Derived.Test.YtoboecenlangmaaMh3
import Derived.Test.YtoboecenlangmaaMh1
import Derived.Deep.DeepCutAuto
import Derived.RegionTactic
import Derived.BigRegion
import Derived.Test.YtoboecenlangmaaPka
import Derived.Test.YtoboecenlangmaaGlueG
import Derived.Handy
/- Merged texts. Conditions: those that each theorem names. -/
section
namespace Go.Proofs.Ytoboecenlangmaa.Pk
open Go.ChangeShapes Go.WideShapes Go.ChangeAt Go.RowKit
open Me Np No
set_option linter.unusedVariables false
set_option linter.unusedSimpArgs false

def cN (W h v : Int) : Nd := { nz 5 with wd := W, ht := h, dp := v }
/-- What a column comes to, where the list may be one. -/
def ccR (e1 e2 : Int) (d1 d2 : Bool) (e3 : Int) (L : List Nd) (bad ov : Int) : List Nd × Int × Int × Int :=
  if e1 = 0 then (if e2 = 0 then (if d1 = true then (if d2 = true then (if e3 = 0 then (L, bad, ov, 0) else ([], 0, 0, e3)) else ([], 0, 0, 20)) else ([], 0, 0, 20)) else ([], 0, 0, e2)) else ([], 0, 0, e1)
theorem Hs.cut3 {w0 : World} {v u : Value} {S O : List Nd} {g : Nat} {x a b c d p q r s : Int} {em : Bool} {bad ov wr : Int} {w : World} (h : Hs w0 v u S O g (nz 5) x a b c d p q r s em bad ov wr w) (W y z : Int) : Hs w0 v u S O g (cN W z y) x a b c d p q r s em bad ov wr (((w.setCell ⟨g, 3, none⟩ (.int .i64 W)).setCell ⟨g, 5, none⟩ (.int .i64 y)).setCell ⟨g, 4, none⟩ (.int .i64 z)) :=
  h.turn (grown_trans (grown_trans (grown_set _ _ _ _) (grown_set _ _ _ _)) (grown_set _ _ _ _)) (((h.mkr.n3 W).n5 y).n4 z)
theorem Hs.cutH {w0 : World} {v u : Value} {S O : List Nd} {g : Nat} {W y z : Int} {x a b c d p q r s : Int} {em : Bool} {bad ov wr : Int} {w : World} (h : Hs w0 v u S O g (cN W z y) x a b c d p q r s em bad ov wr w) (z' : Int) : Hs w0 v u S O g (cN W z' y) x a b c d p q r s em bad ov wr (w.setCell ⟨g, 4, none⟩ (.int .i64 z')) :=
  h.turn (grown_set _ _ _ _) (h.mkr.n4 z')
theorem Hs.cutT {w0 : World} {v u : Value} {S O : List Nd} {g : Nat} {W y z : Int} {F : Int × Int × Int × Int} {x a b c d p q r s : Int} {em : Bool} {bad ov wr : Int} {w : World} (h : Hs w0 v u S O g (fitN (cN W z y) F) x a b c d p q r s em bad ov wr w) (z' y' : Int) : Hs w0 v u S O g (fitN (cN W z' y') F) x a b c d p q r s em bad ov wr ((w.setCell ⟨g, 4, none⟩ (.int .i64 z')).setCell ⟨g, 5, none⟩ (.int .i64 y')) :=
  h.turn (grown_trans (grown_set _ _ _ _) (grown_set _ _ _ _)) ((h.mkr.n4 z').n5 y')
theorem Hs.cout {w0 w w' : World} {v : Value} {u : Value} {S O L : List Nd} {g : Nat} {n : Nd} {x a b c d p q r s : Int} {em : Bool} {bad ov wr : Int} (h : Hs w0 v u S O g n x a b c d p q r s em bad ov wr w) {vL : Value} (ho : w'.ownsRow w.heap.size 54 19 vL L.length (L.flatMap ncs)) (hb : Below w.heap.size w w') (y z : Int) :
    CHOut (L, y, z, 0) w0 (.returned (.tuple #[vL, .int .i64 y, .int .i64 z, .int .i64 0])) w' :=
  ⟨vL, rfl, own_base ho h.low.size, andThen h.low hb⟩
theorem CHOut.drewN {R : List Nd × Int × Int × Int} {w w' : World} {e : Ending} (h : CHOut R w e w') (n : Nat) : CHOut R w e (w'.drewN n) := by
  obtain ⟨v, rfl, ho, hb⟩ := h
  exact ⟨v, rfl, own_below ho (below_drewN (Below.refl _ _) n), below_drewN hb n⟩
set_option maxHeartbeats 10000000 in
set_option maxRecDepth 100000 in
theorem column_main (A : Option Addr) (ns L : List Nd) (k : Nat) (tw most : Int) (ex top : Bool) (w : World) (hcap : ns.length ≤ k) (hsrc : Src w A k ns) (hc : chk ns = 0) (h1 : dimB tw = true) (h2 : dimB most = true) (hcb : colB ns (itsD ns) = true) (x a b c d p q r s e1 h v e2 e3 N D H Hf Df : Int) (M : Msr ns true x a b c d p q r s e1 h v e2)
    (hN : N = if most < v then x - v + v - most else x - v) (hD : D = if most < v then most else v) (hH : H = if ex = true then tw else tw + N) (hHf : Hf = if top = true then firstV ns else H) (hDf : Df = if top = true then H + D - firstV ns else D)
    (hw : ∀ (A : Option Addr) (c' : Nat) (w : World), Src w A c' ns → Calls Try.prog 79 #[.agg (nc (fitN (cN h Hf Df) (Gl.fit a b c d p q r s (H - N)))), .slice A ns.length c'] w fun e' w' => ∃ v, e' = .returned (.tuple #[v, .int .i64 e3]) ∧ w'.ownsRow w.heap.size 54 19 v L.length (L.flatMap ncs) ∧ Below w.heap.size w w') :
    Calls Try.prog 59 #[.slice A ns.length k, .int .i64 tw, .bool ex, .int .i64 most, .bool top] w (CHOut (ccR e1 e2 (dimB H && dimB N) (!top || dimB Df) e3 L (setV (fitN (cN h H D) (Gl.fit a b c d p q r s (H - N))) a p ((ns.length : Int) == 0) (H - N) (0, 0)).1 (setV (fitN (cN h H D) (Gl.fit a b c d p q r s (H - N))) a p ((ns.length : Int) == 0) (H - N) (0, 0)).2) w) := by
  have hl := (chk_run hc).1
  have hseg := hsrc.seg
  have HC := Lib.hid (check_any A ns k w (by omega) hseg)
  rw [hc] at HC
  have HDT := Lib.hid (fun w => dimen_any tw w)
  have HDM := Lib.hid (fun w => dimen_any most w)
  rw [h1] at HDT
  rw [h2] at HDM
  have htw : -1073741823 ≤ tw ∧ tw ≤ 1073741823 := by simpa [dimB] using h1
  have hmo : -1073741823 ≤ most ∧ most ≤ 1073741823 := by simpa [dimB] using h2
  have HIT := Lib.hid (fun (a m : Nat) w1 (h : Below w.heap.size w w1) hb hm => item_ok A ns k a m w1 (by omega) (Seg.belowW hseg h) hc hb hm)
  have HFI := Lib.hid (fun w1 (h : Below w.heap.size w w1) => first_any A ns k w1 (by omega) (Seg.belowW hseg h))
  have HSG := Lib.hid hseg
  have HSR := Lib.hid hsrc
  have HST := Lib.hid (stand0 hc (itsD_is hc))
  have HCB := Lib.hid hcb
  have HM := Lib.hid M
  have HMT := Lib.hid M.tot
  have HME := Lib.hid M.ext
  have HFB : -2147483648 ≤ firstV ns ∧ firstV ns ≤ 2147483648 := by
    unfold firstV
    split
    · rename_i y hy
      split
      · rename_i hk
        have := right_hd (chk_right hc y (List.mem_of_getElem? hy)) (by omega)
        unfold dm at this
        omega
      · omega
    · omega
  obtain ⟨R, hR⟩ : ∃ R, R = ccR e1 e2 (dimB H && dimB N) (!top || dimB Df) e3 L (setV (fitN (cN h H D) (Gl.fit a b c d p q r s (H - N))) a p ((ns.length : Int) == 0) (H - N) (0, 0)).1 (setV (fitN (cN h H D) (Gl.fit a b c d p q r s (H - N))) a p ((ns.length : Int) == 0) (H - N) (0, 0)).2 := ⟨_, rfl⟩
  rw [← hR]
  have HR := Lib.hid hR
  generalize hem : ((ns.length : Int) == 0) = em at *
  have HEM := Lib.hid hem
  have HMW := Lib.hid (fun (g : Nat) (bad ov : Int) (A : Option Addr) (k : Nat) (w : World) (hg : Mk w g (fitN (cN h Hf Df) (Gl.fit a b c d p q r s (H - N))) x a b c d p q r s em bad ov 0) (hs : Src w A k ns) => mwrap_any g _ x a b c d p q r s em bad ov ns L e3 A k w hg hw hs)
  have HN := Lib.hid hN
  have HD := Lib.hid hD
  have HH := Lib.hid hH
  have HHF := Lib.hid hHf
  have HDF := Lib.hid hDf
  generalize hF : firstV ns = F at *
  generalize hxs : itsD ns = xs at *
  clear hR hseg hsrc hc h1 h2 hcb M hw hN hD hH hHf hDf hF hxs
  generalize hlen : ns.length = len at *
  have HL := Lib.hid hlen
  clear hlen
  go_enter Try.func59, Try.ntmps59
  go_wp2_with fail
  refine HC.out.mono ?_
  rintro e w1 ⟨rfl, hb1⟩
  have HB1 := Lib.hid hb1
  clear hb1
  go_wp2_with (go_at_call 41; first | (refine (HDT.out _).mono ?_; rintro e w' ⟨rfl, rfl⟩) | (refine (HDM.out _).mono ?_; rintro e w' ⟨rfl, rfl⟩))
  go_loopw [15] (fun v15 wr => ∃ (a : Nat) (ys : List Nat), v15 = .int .i64 (a : Int) ∧ Stand ns a ys ∧ colB ns ys = true ∧ Below w.heap.size w wr) (fun v15 _ => len - (intOf v15).toNat)
  case atStart => exact ⟨0, xs, rfl, HST.out, HCB.out, HB1.out⟩
  case round =>
    obtain ⟨j, ys, rfl, hst, hcb, hlow⟩ := hrel
    have hal := hst.le
    rw [HL.out] at hal
    by_cases hlt : j < len
    · obtain ⟨m, zs, y, rfl, hm, hm1, ham, hst', _, hy, h6, h11⟩ := hst.step (by rw [HL.out]; exact hl) (by rw [HL.out]; exact hlt)
      rw [HL.out] at ham
      cases hbar : barB y
      · obtain ⟨k1, k2, k10, k15, k16, k17⟩ := bar_no hbar
        obtain ⟨b0, off, rfl, hb, hnd⟩ := seg_node HSG.out hy
        have c0 : wr.cell? ⟨b0, off + j * 19, none⟩ = some (.int .i64 y.kind) := (hnd.below hlow hb) 0 _ rfl
        have HLOW := Lib.hid hlow
        have HX := Lib.hid (And.intro hy hm)
        have HB := Lib.hid (beg_of hy h6 h11)
        have HS := Lib.hid hst'
        rw [colB_no hy hbar] at hcb
        have HCC := Lib.hid hcb
        have hal1 : (j : Int) + m ≤ len := by omega
        clear hst' hy hm hnd hst h6 h11 hcb hlow hbar
        go_wp2_with (go_at_call 48; refine (HIT.out j m _ HLOW.out HB.out HX.out.2).mono ?_; rintro e w5 ⟨rfl, hb5⟩; have HB5 := Lib.hid hb5; clear hb5)
        go_roundw
        case rel => exact ⟨j + m, zs, by go_num, HS.out, HCC.out, andThen HLOW.out HB5.out⟩
        case measure => simp [intOf]; omega
      · rw [colB_bar hy hbar] at hcb
        cases hcb
    · obtain rfl : j = len := by omega
      have HLW := Lib.hid hlow
      clear hst hcb hlow hal HST HCB HB1 HC HDM HDT
      go_wp2_with (first | (refine wpList_build_eq (o := ⟨some 60, _, _, _, _, _⟩) rfl _ _ rfl (mkc (nz 5) 0 0 0 0 0 0 0 0 0 em 0 0 0) (by kernel_rfl) ?_))
      have hs0 : Hs w (.slice none 0 0) (.slice none 0 0) [] [] wr.heap.size (nz 5) 0 0 0 0 0 0 0 0 0 em 0 0 0 (wr.alloc (.cells (mkc (nz 5) 0 0 0 0 0 0 0 0 0 em 0 0 0) 97)) := ⟨Blk.new' rfl, ⟨World.ownsRow_nil _ _ _ _, World.ownsRow_nil _ _ _ _, .inl rfl, .inl rfl⟩, andAlloc HLW.out _, HLW.out.size⟩
      clear HLW
      generalize wr.alloc (.cells (mkc (nz 5) 0 0 0 0 0 0 0 0 0 em 0 0 0) 97) = w3 at hs0 ⊢
      generalize wr.heap.size = g at hs0 ⊢
      refine (HMT.out A k w3 hcap (Seg.belowW HSG.out hs0.low)).mono ?_
      rintro e w4 ⟨rfl, hb4⟩
      have hs4 := hs0.below hb4
      have hth := mk_there hs4.mkr
      have HS4 := Lib.hid hs4
      clear hs0 hb4 hs4
      have hs5 := HS4.out.turn (grown_cells g _ 19 w4) (mk_tot HS4.out.mkr x a b c d p q r s)
      have HS5 := Lib.hid hs5
      clear hs5
      by_cases he1 : e1 = 0
      · have t1 : (e1 != 0) = false := by simp [he1]
        by_cases he2 : e2 = 0
        · have t2 : (e2 != 0) = false := by simp [he2]
          have hbx : -1073741823 ≤ x ∧ x ≤ 1073741823 := by simpa [dimB] using HM.out.nat he1
          have hbv : -1073741823 ≤ v ∧ v ≤ 1073741823 := by simpa [dimB] using (HM.out.hv he2).2
          obtain ⟨N0, hN0⟩ : ∃ N0, x - v = N0 := ⟨_, rfl⟩
          have hsub0 : IntKind.i64.wrap (x - v) = N0 := by rw [hN0]; exact IntWalk.i64_in _ (by omega)
          have hb0 : -2147483646 ≤ N0 ∧ N0 ≤ 2147483646 := by omega
          have HN0 := Lib.hid hN0
          clear hN0
          go_upto_if 91 with (first | (refine wpList_store_mid (op := ⟨none, .store _ (.tmp 69) (.tmp 66), _, _, _, _⟩) rfl 69 _ _ rfl g 19 #[.int .i64 x, .int .i64 a, .int .i64 b, .int .i64 c, .int .i64 d, .int .i64 p, .int .i64 q, .int .i64 r, .int .i64 s] ?_ rfl hth tot_info (t9_one _ _ _ _ _ _ _ _ _) ?_; rfl) | (go_at_call 44; refine (HME.out A k _ hcap (Seg.belowW HSG.out HS5.out.low)).mono ?_; rintro e w6 ⟨rfl, hb6⟩; have HS6 := Lib.hid (HS5.out.below hb6); clear hb6; have hd19 : w6.cell? ⟨g, 19, none⟩ = some (.int .i64 x) := Blk.cell HS6.out.mkr 19))
          clear hth
          go_cut [18, 19] (fun v18 v19 wx => v18 = .int .i64 D ∧ v19 = .int .i64 N ∧ wx = w6)
          case first =>
            by_cases hg : most < v
            · have hs1 : IntKind.i64.wrap (N0 + v) = x := by rw [← HN0.out, Int.sub_add_cancel]; exact IntWalk.i64_in _ (by omega)
              have hs2 : IntKind.i64.wrap (x - most) = N := by rw [HN.out, if_pos hg, Int.sub_add_cancel]; exact IntWalk.i64_in _ (by omega)
              have HG := Lib.hid hg
              go_wp2_with fail
              go_meet
              exact ⟨by rw [HD.out, if_pos HG.out], rfl, rfl⟩
            · have HG := Lib.hid hg
              have hng : v ≤ most := by omega
              go_wp2_with fail
              go_meet
              exact ⟨by rw [HD.out, if_neg (by have := HG.out; omega)], by rw [HN.out, if_neg (by have := HG.out; omega), HN0.out], rfl⟩
          case rest =>
            obtain ⟨rfl, rfl, rfl⟩ := hcut
            have hbN : -4294967292 ≤ N ∧ N ≤ 4294967292 := by
              have := HN.out
              split at this <;> omega
            have hbD : -1073741823 ≤ D ∧ D ≤ 1073741823 := by
              have := HD.out
              split at this <;> omega
            have hbH : -5368709115 ≤ H ∧ H ≤ 5368709115 := by
              have := HH.out
              split at this <;> omega
            have q3 : wc.cell? ⟨g, 3, none⟩ = some (.int .i64 0) := Blk.cell HS6.out.mkr 3
            have q4 : wc.cell? ⟨g, 4, none⟩ = some (.int .i64 0) := Blk.cell HS6.out.mkr 4
            have q5 : wc.cell? ⟨g, 5, none⟩ = some (.int .i64 0) := Blk.cell HS6.out.mkr 5
            have r3 := Blk.free HS6.out.mkr 3
            have r4 := Blk.free HS6.out.mkr 4
            have r5 := Blk.free HS6.out.mkr 5
            go_upto_if 114 with fail
            have hs7 := HS6.out.cut3 h D tw
            have HS7 := Lib.hid hs7
            generalize ((wc.setCell ⟨g, 3, none⟩ (.int .i64 h)).setCell ⟨g, 5, none⟩ (.int .i64 D)).setCell ⟨g, 4, none⟩ (.int .i64 tw) = w7 at HS7 ⊢
            clear hs7 q3 q4 q5 r3 r4 r5 hd19 HS6 HS5 HS4
            have q4 : w7.cell? ⟨g, 4, none⟩ = some (.int .i64 tw) := Blk.cell HS7.out.mkr 4
            have r4 := Blk.free HS7.out.mkr 4
            go_cut [] (fun wx => Hs w (.slice none 0 0) (.slice none 0 0) [] [] g (cN h H D) x a b c d p q r s em 0 0 0 wx)
            case first =>
              cases ex
              · have hsum : IntKind.i64.wrap (tw + N) = H := by rw [HH.out, if_neg (by decide)]; exact IntWalk.i64_in _ (by omega)
                go_wp2_with fail
                go_meet
                exact HS7.out.cutH H
              · have hHt : H = tw := by rw [HH.out, if_pos rfl]
                have HHT := Lib.hid hHt
                clear hHt
                go_wp2_with fail
                go_meet
                rw [HHT.out]
                exact HS7.out
            case rest =>
              have HS8 := Lib.hid hcut
              clear hcut q4 r4 HS7
              have q4 : wc.cell? ⟨g, 4, none⟩ = some (.int .i64 H) := Blk.cell HS8.out.mkr 4
              by_cases dH : dimB H = true
              · have HDH := Lib.hid dH
                by_cases dN : dimB N = true
                · have HDN := Lib.hid dN
                  have hbH' : -1073741823 ≤ H ∧ H ≤ 1073741823 := by simpa [dimB] using dH
                  have hbN' : -1073741823 ≤ N ∧ N ≤ 1073741823 := by simpa [dimB] using dN
                  have hsub : IntKind.i64.wrap (H - N) = H - N := IntWalk.i64_in _ (by omega)
                  have HNW := Lib.hid (show Gl.nearB (H - N) = true by unfold Gl.nearB; rw [decide_eq_true_eq]; omega)
                  clear hbH hbN
                  cases top
                  · have hq1 : Hf = H := by rw [HHF.out]; rfl
                    have hq2 : Df = D := by rw [HDF.out]; rfl
                    rw [hq1, hq2] at HMW
                    clear hq1 hq2
                    go_upto_region 38 with (first | (go_at_call 41; refine (dimen_any _ _).mono ?_; rintro e w' ⟨rfl, rfl⟩) | (go_at_call 43; refine (set_any g (cN h H D) x a b c d p q r s em 0 0 (H - N) _ HS8.out.mkr HNW.out (HM.out.near he1).1 (HM.out.near he1).2.2.2.2.1 (HM.out.near he1).2.1 (HM.out.near he1).2.2.2.2.2.1 (HM.out.near he1).2.2.1 (HM.out.near he1).2.2.2.2.2.2.1 (HM.out.near he1).2.2.2.1 (HM.out.near he1).2.2.2.2.2.2.2).mono ?_; rintro e w9 ⟨rfl, hm9, hg9⟩; have HS9 := Lib.hid (HS8.out.turn hg9 hm9); clear hm9 hg9))
                    clear dH dN q4 hsub
                    by_cases he3 : e3 = 0
                    · have t3 : (e3 != 0) = false := by simp [he3]
                      go_upto_region 41 with (go_at_call 45; refine (HMW.out g _ _ A k _ HS9.out.mkr (HSR.out.below HS9.out.low)).mono ?_; rintro e wq ⟨vL, rfl, hoL, hbL⟩; have HO9 := Lib.hid (And.intro hoL hbL); clear hoL hbL)
                      have HK9 := Lib.hid (HS9.out.below HO9.out.2).mkr
                      have hd29 : wq.cell? ⟨g, 29, none⟩ = some (.int .i64 (setV (fitN (cN h H D) (Gl.fit a b c d p q r s (H - N))) a p em (H - N) (0, 0)).1) := Blk.cell HK9.out 29
                      have hd30 : wq.cell? ⟨g, 30, none⟩ = some (.int .i64 (setV (fitN (cN h H D) (Gl.fit a b c d p q r s (H - N))) a p em (H - N) (0, 0)).2) := Blk.cell HK9.out 30
                      have hr : R = (L, (setV (fitN (cN h H D) (Gl.fit a b c d p q r s (H - N))) a p em (H - N) (0, 0)).1, (setV (fitN (cN h H D) (Gl.fit a b c d p q r s (H - N))) a p em (H - N) (0, 0)).2, 0) := by rw [HR.out]; unfold ccR; rw [if_pos he1, if_pos he2, if_pos (by rw [HDH.out, HDN.out]; rfl), if_pos (by simp), if_pos he3]
                      have HR' := Lib.hid hr
                      clear hr HR
                      have HO := Lib.hid (fun y z => HS9.out.cout HO9.out.1 HO9.out.2 y z)
                      generalize (setV (fitN (cN h H D) (Gl.fit a b c d p q r s (H - N))) a p em (H - N) (0, 0)).1 = y1 at *
                      generalize (setV (fitN (cN h H D) (Gl.fit a b c d p q r s (H - N))) a p em (H - N) (0, 0)).2 = y2 at *
                      go_quiet (fail)
                      go_wp2_with fail
                      go_returns
                      rw [HR'.out]
                      exact (HO.out _ _).drewN _
                    · have t3 : (e3 != 0) = true := by simp [he3]
                      have hr : R = ([], 0, 0, e3) := by rw [HR.out]; unfold ccR; rw [if_pos he1, if_pos he2, if_pos (by rw [HDH.out, HDN.out]; rfl), if_pos (by simp), if_neg he3]
                      have HR' := Lib.hid hr
                      clear hr HR
                      go_wp2_with (go_at_call 45; refine (HMW.out g _ _ A k _ HS9.out.mkr (HSR.out.below HS9.out.low)).mono ?_; rintro e wq ⟨vL, rfl, hoL, hbL⟩; have HO9 := Lib.hid (And.intro hoL hbL); clear hoL hbL)
                      go_returns
                      rw [HR'.out]
                      exact CHOut.no (andThen HS9.out.low HO9.out.2) _
                  · have hq1 : Hf = F := by rw [HHF.out]; rfl
                    have hq2 : Df = H + D - F := by rw [HDF.out]; rfl
                    have HQ2 := Lib.hid hq2
                    rw [hq1] at HMW
                    clear hq1 hq2
                    go_upto_region 35 with (first | (go_at_call 41; refine (dimen_any _ _).mono ?_; rintro e w' ⟨rfl, rfl⟩) | (go_at_call 43; refine (set_any g (cN h H D) x a b c d p q r s em 0 0 (H - N) _ HS8.out.mkr HNW.out (HM.out.near he1).1 (HM.out.near he1).2.2.2.2.1 (HM.out.near he1).2.1 (HM.out.near he1).2.2.2.2.2.1 (HM.out.near he1).2.2.1 (HM.out.near he1).2.2.2.2.2.2.1 (HM.out.near he1).2.2.2.1 (HM.out.near he1).2.2.2.2.2.2.2).mono ?_; rintro e w9 ⟨rfl, hm9, hg9⟩; have HS9 := Lib.hid (HS8.out.turn hg9 hm9); clear hm9 hg9) | (go_at_call 86; refine (HFI.out _ HS9.out.low).mono ?_; rintro e w' ⟨rfl, rfl⟩))
                    clear dH dN q4 hsub
                    have q4 : w9.cell? ⟨g, 4, none⟩ = some (.int .i64 H) := Blk.cell HS9.out.mkr 4
                    have q5 : w9.cell? ⟨g, 5, none⟩ = some (.int .i64 D) := Blk.cell HS9.out.mkr 5
                    have r4 := Blk.free HS9.out.mkr 4
                    have r5 := Blk.free HS9.out.mkr 5
                    have hsu1 : IntKind.i64.wrap (H + D) = H + D := IntWalk.i64_in _ (by omega)
                    have hsu2 : IntKind.i64.wrap (H + D - F) = Df := by rw [HQ2.out]; exact IntWalk.i64_in _ (by omega)
                    go_cut [] (fun wx => Hs w (.slice none 0 0) (.slice none 0 0) [] [] g (fitN (cN h F Df) (Gl.fit a b c d p q r s (H - N))) x a b c d p q r s em (setV (fitN (cN h H D) (Gl.fit a b c d p q r s (H - N))) a p em (H - N) (0, 0)).1 (setV (fitN (cN h H D) (Gl.fit a b c d p q r s (H - N))) a p em (H - N) (0, 0)).2 0 wx)
                    case first =>
                      clear HIT HMT HME HFI HMW HSG HSR HM HN HD HH HDF HHF HR HEM HQ2 HNW HL hbx hbv hb0 HN0 hsub0 hbD htw hmo HDH HDN
                      go_region_with (fail)
                      all_goals
                        first | go_meet | (go_wp2_with fail; go_meet)
                        exact (HS9.out.cutT F Df).below (Below.drew (Below.refl _ _))
                    case rest =>
                      have HS10 := Lib.hid hcut
                      clear hcut q4 q5 r4 r5 hsu1 hsu2
                      have q5 : wc.cell? ⟨g, 5, none⟩ = some (.int .i64 Df) := Blk.cell HS10.out.mkr 5
                      by_cases dD : dimB Df = true
                      · have HDD := Lib.hid dD
                        go_upto_region 38 with (go_at_call 41; refine (dimen_any _ _).mono ?_; rintro e w' ⟨rfl, rfl⟩)
                        clear dD q5
                        by_cases he3 : e3 = 0
                        · have t3 : (e3 != 0) = false := by simp [he3]
                          go_upto_region 41 with (go_at_call 45; refine (HMW.out g _ _ A k _ HS10.out.mkr (HSR.out.below HS10.out.low)).mono ?_; rintro e wq ⟨vL, rfl, hoL, hbL⟩; have HO9 := Lib.hid (And.intro hoL hbL); clear hoL hbL)
                          have HK9 := Lib.hid (HS10.out.below HO9.out.2).mkr
                          have hd29 : wq.cell? ⟨g, 29, none⟩ = some (.int .i64 (setV (fitN (cN h H D) (Gl.fit a b c d p q r s (H - N))) a p em (H - N) (0, 0)).1) := Blk.cell HK9.out 29
                          have hd30 : wq.cell? ⟨g, 30, none⟩ = some (.int .i64 (setV (fitN (cN h H D) (Gl.fit a b c d p q r s (H - N))) a p em (H - N) (0, 0)).2) := Blk.cell HK9.out 30
                          have hr : R = (L, (setV (fitN (cN h H D) (Gl.fit a b c d p q r s (H - N))) a p em (H - N) (0, 0)).1, (setV (fitN (cN h H D) (Gl.fit a b c d p q r s (H - N))) a p em (H - N) (0, 0)).2, 0) := by rw [HR.out]; unfold ccR; rw [if_pos he1, if_pos he2, if_pos (by rw [HDH.out, HDN.out]; rfl), if_pos (by rw [HDD.out]; rfl), if_pos he3]
                          have HR' := Lib.hid hr
                          clear hr HR
                          have HO := Lib.hid (fun y z => HS10.out.cout HO9.out.1 HO9.out.2 y z)
                          generalize (setV (fitN (cN h H D) (Gl.fit a b c d p q r s (H - N))) a p em (H - N) (0, 0)).1 = y1 at *
                          generalize (setV (fitN (cN h H D) (Gl.fit a b c d p q r s (H - N))) a p em (H - N) (0, 0)).2 = y2 at *
                          go_quiet (fail)
                          go_wp2_with fail
                          go_returns
                          rw [HR'.out]
                          exact (HO.out _ _).drewN _
                        · have t3 : (e3 != 0) = true := by simp [he3]
                          have hr : R = ([], 0, 0, e3) := by rw [HR.out]; unfold ccR; rw [if_pos he1, if_pos he2, if_pos (by rw [HDH.out, HDN.out]; rfl), if_pos (by rw [HDD.out]; rfl), if_neg he3]
                          have HR' := Lib.hid hr
                          clear hr HR
                          go_wp2_with (go_at_call 45; refine (HMW.out g _ _ A k _ HS10.out.mkr (HSR.out.below HS10.out.low)).mono ?_; rintro e wq ⟨vL, rfl, hoL, hbL⟩; have HO9 := Lib.hid (And.intro hoL hbL); clear hoL hbL)
                          go_returns
                          rw [HR'.out]
                          exact CHOut.no (andThen HS10.out.low HO9.out.2) _
                      · have hr : R = ([], 0, 0, 20) := by rw [HR.out]; unfold ccR; rw [if_pos he1, if_pos he2, if_pos (by rw [HDH.out, HDN.out]; rfl), if_neg (by simp [dD])]
                        have HR' := Lib.hid hr
                        clear hr HR
                        have dD' : dimB Df = false := by simpa using dD
                        clear dD
                        go_wp2_with (go_at_call 41; refine (dimen_any _ _).mono ?_; rintro e w' ⟨rfl, rfl⟩)
                        go_returns
                        rw [HR'.out]
                        exact CHOut.no HS10.out.low _
                · have hr : R = ([], 0, 0, 20) := by rw [HR.out]; unfold ccR; rw [if_pos he1, if_pos he2, if_neg (by simp [dN])]
                  have HR' := Lib.hid hr
                  clear hr HR
                  have dN' : dimB N = false := by simpa using dN
                  clear dN
                  go_wp2_with (go_at_call 41; refine (dimen_any _ _).mono ?_; rintro e w' ⟨rfl, rfl⟩)
                  go_returns
                  rw [HR'.out]
                  exact CHOut.no HS8.out.low _
              · have hr : R = ([], 0, 0, 20) := by rw [HR.out]; unfold ccR; rw [if_pos he1, if_pos he2, if_neg (by simp [dH])]
                have HR' := Lib.hid hr
                clear hr HR
                have dH' : dimB H = false := by simpa using dH
                clear dH
                go_wp2_with (go_at_call 41; refine (dimen_any _ _).mono ?_; rintro e w' ⟨rfl, rfl⟩)
                go_returns
                rw [HR'.out]
                exact CHOut.no HS8.out.low _
        · have t2 : (e2 != 0) = true := by simp [he2]
          have hr : R = ([], 0, 0, e2) := by rw [HR.out]; unfold ccR; rw [if_pos he1, if_neg he2]
          have HR' := Lib.hid hr
          clear hr HR
          go_wp2_with (first | (refine wpList_store_mid (op := ⟨none, .store _ (.tmp 69) (.tmp 66), _, _, _, _⟩) rfl 69 _ _ rfl g 19 #[.int .i64 x, .int .i64 a, .int .i64 b, .int .i64 c, .int .i64 d, .int .i64 p, .int .i64 q, .int .i64 r, .int .i64 s] ?_ rfl hth tot_info (t9_one _ _ _ _ _ _ _ _ _) ?_; rfl) | (go_at_call 44; refine (HME.out A k _ hcap (Seg.belowW HSG.out HS5.out.low)).mono ?_; rintro e w6 ⟨rfl, hb6⟩; have HS6 := Lib.hid (HS5.out.below hb6); clear hb6; have hd19 : w6.cell? ⟨g, 19, none⟩ = some (.int .i64 x) := Blk.cell HS6.out.mkr 19))
          go_returns
          rw [HR'.out]
          exact CHOut.no HS6.out.low _
      · have t1 : (e1 != 0) = true := by simp [he1]
        have hr : R = ([], 0, 0, e1) := by rw [HR.out]; unfold ccR; rw [if_neg he1]
        have HR' := Lib.hid hr
        clear hr HR
        go_wp2_with (refine wpList_store_mid (op := ⟨none, .store _ (.tmp 69) (.tmp 66), _, _, _, _⟩) rfl 69 _ _ rfl g 19 #[.int .i64 x, .int .i64 a, .int .i64 b, .int .i64 c, .int .i64 d, .int .i64 p, .int .i64 q, .int .i64 r, .int .i64 s] ?_ rfl hth tot_info (t9_one _ _ _ _ _ _ _ _ _) ?_; rfl)
        go_returns
        rw [HR'.out]
        exact CHOut.no HS5.out.low _
end Go.Proofs.Ytoboecenlangmaa.Pk
end
section
namespace Go.Proofs.Ytoboecenlangmaa.Pk
open Go.ChangeShapes Go.WideShapes Go.ChangeAt Go.RowKit
open Me Np No
set_option linter.unusedVariables false
set_option linter.unusedSimpArgs false

/-- A column that is packed. -/
def ColG (ns : List Nd) (tw : Int) (ex : Bool) (most : Int) (top : Bool) (R : List Nd × Int × Int × Int) : Prop :=
  ∃ x a b c d p q r s h v N D H Hf Df F, chk ns = 0 ∧ Msr ns true x a b c d p q r s 0 h v 0 ∧ (N = if most < v then x - v + v - most else x - v) ∧ (D = if most < v then most else v) ∧ (H = if ex = true then tw else tw + N) ∧ (Hf = if top = true then firstV ns else H) ∧ (Df = if top = true then H + D - firstV ns else D) ∧
    F = Gl.fit a b c d p q r s (H - N) ∧ chk (wrapL (fitN (cN h Hf Df) F) ns) = 0 ∧ opensB (fitN (cN h Hf Df) F) = true ∧ x = natD ns true ∧ h = extH ns true ∧
    R = (wrapL (fitN (cN h Hf Df) F) ns, (setV (fitN (cN h H D) F) a p ((ns.length : Int) == 0) (H - N) (0, 0)).1, (setV (fitN (cN h H D) F) a p ((ns.length : Int) == 0) (H - N) (0, 0)).2, 0)
def ColN (R : List Nd × Int × Int × Int) : Prop := R.1 = [] ∧ R.2.1 = 0 ∧ R.2.2.1 = 0 ∧ ¬ R.2.2.2 = 0
theorem col1_case (ns : List Nd) (tw : Int) (ex : Bool) (most : Int) (top : Bool) (hl : ns.length ≤ 9223372036854775806) : ∃ R, R.1.length ≤ 2002 ∧ (ColG ns tw ex most top R ∨ ColN R) ∧
    ∀ (A : Option Addr) (k : Nat) (w : World), ns.length ≤ k → Src w A k ns → Calls Try.prog 59 #[.slice A ns.length k, .int .i64 tw, .bool ex, .int .i64 most, .bool top] w (CHOut R w) := by
  by_cases hc : chk ns = 0
  · cases hd : (dimB tw && dimB most)
    · exact ⟨([], 0, 0, 11), by simp, .inr ⟨rfl, rfl, rfl, by simp⟩, fun A k w hk hs => column_far A ns k tw most ex top w hl hs.seg hc hd⟩
    · simp only [Bool.and_eq_true] at hd
      cases hb : colB ns (itsD ns)
      · exact ⟨([], 0, 0, 50), by simp, .inr ⟨rfl, rfl, rfl, by simp⟩, fun A k w hk hs => column_bar A ns k tw most ex top w hk hs.seg hc hd.1 hd.2 hb⟩
      · obtain ⟨x, a, b, c, d, p, q, r, s, e1, h, v, e2, M, h20, hxN, hhE⟩ := msr_prog ns true hc
        obtain ⟨N, hN⟩ : ∃ N, N = if most < v then x - v + v - most else x - v := ⟨_, rfl⟩
        obtain ⟨D, hD⟩ : ∃ D, D = if most < v then most else v := ⟨_, rfl⟩
        obtain ⟨H, hH⟩ : ∃ H, H = if ex = true then tw else tw + N := ⟨_, rfl⟩
        obtain ⟨Hf, hHf⟩ : ∃ Hf, Hf = if top = true then firstV ns else H := ⟨_, rfl⟩
        obtain ⟨Df, hDf⟩ : ∃ Df, Df = if top = true then H + D - firstV ns else D := ⟨_, rfl⟩
        obtain ⟨L, e3, hL, hP⟩ := pwrp_case (fitN (cN h Hf Df) (Gl.fit a b c d p q r s (H - N))) ns hc
        have hm := fun A k w hk hs => column_main A ns L k tw most ex top w hk hs hc hd.1 hd.2 hb x a b c d p q r s e1 h v e2 e3 N D H Hf Df M hN hD hH hHf hDf hP
        by_cases h1 : e1 = 0
        · by_cases h2 : e2 = 0
          · by_cases h3 : (dimB H && dimB N) = true
            · by_cases h5 : (!top || dimB Df) = true
              · rcases hL with ⟨h4, rfl, hcw, ho, hrt⟩ | ⟨h4, rfl⟩
                · subst h1 h2 h4
                  refine ⟨_, ?_, .inl ⟨x, a, b, c, d, p, q, r, s, h, v, N, D, H, Hf, Df, _, hc, M, hN, hD, hH, hHf, hDf, rfl, hcw, ho, hxN, hhE, ?_⟩, hm⟩
                  · unfold ccR; rw [if_pos rfl, if_pos rfl, if_pos h3, if_pos h5, if_pos rfl]; have := (chk_run hcw).1; show (wrapL _ _).length ≤ 2002; omega
                  · unfold ccR; rw [if_pos rfl, if_pos rfl, if_pos h3, if_pos h5, if_pos rfl]
                · have e : ∀ y z, ccR e1 e2 (dimB H && dimB N) (!top || dimB Df) e3 [] y z = ([], 0, 0, e3) := by intro y z; unfold ccR; rw [if_pos h1, if_pos h2, if_pos h3, if_pos h5, if_neg h4]
                  simp only [e] at hm
                  exact ⟨_, by simp, .inr ⟨rfl, rfl, rfl, h4⟩, hm⟩
              · have e : ∀ y z, ccR e1 e2 (dimB H && dimB N) (!top || dimB Df) e3 L y z = ([], 0, 0, 20) := by intro y z; unfold ccR; rw [if_pos h1, if_pos h2, if_pos h3, if_neg h5]
                simp only [e] at hm
                exact ⟨_, by simp, .inr ⟨rfl, rfl, rfl, by simp⟩, hm⟩
            · have e : ∀ y z, ccR e1 e2 (dimB H && dimB N) (!top || dimB Df) e3 L y z = ([], 0, 0, 20) := by intro y z; unfold ccR; rw [if_pos h1, if_pos h2, if_neg h3]
              simp only [e] at hm
              exact ⟨_, by simp, .inr ⟨rfl, rfl, rfl, by simp⟩, hm⟩
          · have e : ∀ y z, ccR e1 e2 (dimB H && dimB N) (!top || dimB Df) e3 L y z = ([], 0, 0, e2) := by intro y z; unfold ccR; rw [if_pos h1, if_neg h2]
            simp only [e] at hm
            exact ⟨_, by simp, .inr ⟨rfl, rfl, rfl, h2⟩, hm⟩
        · have e : ∀ y z, ccR e1 e2 (dimB H && dimB N) (!top || dimB Df) e3 L y z = ([], 0, 0, e1) := by intro y z; unfold ccR; rw [if_neg h1]
          simp only [e] at hm
          exact ⟨_, by simp, .inr ⟨rfl, rfl, rfl, h1⟩, hm⟩
  · exact ⟨([], 0, 0, chk ns), by simp, .inr ⟨rfl, rfl, rfl, hc⟩, fun A k w hk hs => column_err A ns k tw most ex top w hl hs.seg hc⟩
/-- Vpack and Vtop: column's answer. -/
theorem vpack_of (ns : List Nd) (tw : Int) (ex : Bool) (most : Int) (R : List Nd × Int × Int × Int) (A : Option Addr) (k : Nat) (w : World) (h1 : Calls Try.prog 59 #[.slice A ns.length k, .int .i64 tw, .bool ex, .int .i64 most, .bool false] w (CHOut R w)) :
    Calls Try.prog 27 #[.slice A ns.length k, .int .i64 tw, .bool ex, .int .i64 most] w (CHOut R w) := by
  have H := Lib.hid h1
  clear h1
  generalize ns.length = len at *
  go_enter Try.func27, Try.ntmps27
  go_wp2_with fail
  refine H.out.mono ?_
  rintro e w1 ⟨v, rfl, ho, hb⟩
  have HO := Lib.hid (And.intro ho hb)
  clear ho hb
  go_wp2_with fail
  go_returns
  exact ⟨v, rfl, HO.out.1, HO.out.2⟩
theorem vtop_of (ns : List Nd) (tw : Int) (ex : Bool) (most : Int) (R : List Nd × Int × Int × Int) (A : Option Addr) (k : Nat) (w : World) (h1 : Calls Try.prog 59 #[.slice A ns.length k, .int .i64 tw, .bool ex, .int .i64 most, .bool true] w (CHOut R w)) :
    Calls Try.prog 30 #[.slice A ns.length k, .int .i64 tw, .bool ex, .int .i64 most] w (CHOut R w) := by
  have H := Lib.hid h1
  clear h1
  generalize ns.length = len at *
  go_enter Try.func30, Try.ntmps30
  go_wp2_with fail
  refine H.out.mono ?_
  rintro e w1 ⟨v, rfl, ho, hb⟩
  have HO := Lib.hid (And.intro ho hb)
  clear ho hb
  go_wp2_with fail
  go_returns
  exact ⟨v, rfl, HO.out.1, HO.out.2⟩
end Go.Proofs.Ytoboecenlangmaa.Pk
end
section
namespace Go.Proofs.Ytoboecenlangmaa.Pk
open Np
set_option linter.unusedVariables false

/-- A Skip's glue. -/
def gOf (n : Nd) : Gl.G := ⟨n.gn, n.gs, n.gh, n.ga, n.gb⟩
/-- One item more: its glue, if it is a Skip. -/
def skstep (ns : List Nd) (s : List Gl.G) (a : Nat) : List Gl.G := match ns[a]? with
  | some x => if x.kind = 7 then s ++ [gOf x] else s
  | none => s
def skF (ns : List Nd) (xs : List Nat) (s : List Gl.G) : List Gl.G := xs.foldl (skstep ns) s
theorem skF_cons (ns : List Nd) (a : Nat) (xs : List Nat) (s : List Gl.G) : skF ns (a :: xs) s = skF ns xs (skstep ns s a) := rfl
theorem skstep_yes {ns : List Nd} {s : List Gl.G} {a : Nat} {x : Nd} (hx : ns[a]? = some x) (hk : x.kind = 7) : skstep ns s a = s ++ [gOf x] := by
  unfold skstep; rw [hx]; simp only; rw [if_pos hk]
theorem skstep_no {ns : List Nd} {s : List Gl.G} {a : Nat} {x : Nd} (hx : ns[a]? = some x) (hk : ¬ x.kind = 7) : skstep ns s a = s := by
  unfold skstep; rw [hx]; simp only; rw [if_neg hk]
theorem skF_acc (ns : List Nd) : ∀ (xs : List Nat) (s : List Gl.G), skF ns xs s = s ++ skF ns xs []
  | [], s => by simp [skF]
  | a :: xs, s => by
    rw [skF_cons, skF_cons, skF_acc ns xs (skstep ns s a), skF_acc ns xs (skstep ns [] a)]
    unfold skstep
    split
    · split
      · simp
      · simp
    · simp
theorem skF_len (ns : List Nd) : ∀ (xs : List Nat) (s : List Gl.G), (skF ns xs s).length ≤ s.length + xs.length
  | [], s => by simp [skF]
  | a :: xs, s => by
    rw [skF_cons]
    have h := skF_len ns xs (skstep ns s a)
    have h2 : (skstep ns s a).length ≤ s.length + 1 := by
      unfold skstep
      split
      · split
        · simp
        · omega
      · omega
    simp only [List.length_cons]
    omega
/-- How far a walk over the items has come: where the next one stands, the sizes that are left, the places so far. -/
structure Plc where
  x : Int
  sz : List Int
  out : List Int
def plstep (ns : List Nd) (f : Nat → Int) (s : Plc) (a : Nat) : Plc := match ns[a]? with
  | some n => if n.kind = 7 then ⟨s.x + s.sz.headD 0, s.sz.tail, s.out ++ [s.x]⟩ else ⟨s.x + f a, s.sz, s.out ++ [s.x]⟩
  | none => s
def plF (ns : List Nd) (f : Nat → Int) (xs : List Nat) (s : Plc) : Plc := xs.foldl (plstep ns f) s
theorem plF_cons (ns : List Nd) (f : Nat → Int) (a : Nat) (xs : List Nat) (s : Plc) : plF ns f (a :: xs) s = plF ns f xs (plstep ns f s a) := rfl
theorem plstep_yes {ns : List Nd} {f : Nat → Int} {s : Plc} {a : Nat} {x : Nd} (hx : ns[a]? = some x) (hk : x.kind = 7) : plstep ns f s a = ⟨s.x + s.sz.headD 0, s.sz.tail, s.out ++ [s.x]⟩ := by
  unfold plstep; rw [hx]; simp only; rw [if_pos hk]
theorem plstep_no {ns : List Nd} {f : Nat → Int} {s : Plc} {a : Nat} {x : Nd} (hx : ns[a]? = some x) (hk : ¬ x.kind = 7) : plstep ns f s a = ⟨s.x + f a, s.sz, s.out ++ [s.x]⟩ := by
  unfold plstep; rw [hx]; simp only; rw [if_neg hk]
/-- What holds ahead of the items ys, k of them behind: as many sizes are left as Skips come; nothing is too far. -/
structure PlIn (ns : List Nd) (f : Nat → Int) (s : Plc) (ys : List Nat) (k : Nat) : Prop where
  left : s.sz.length = (skF ns ys []).length
  bd : ∀ z ∈ s.sz, -281474976710656 ≤ z ∧ z ≤ 281474976710656
  x : -((k : Int) * 281474976710656) ≤ s.x ∧ s.x ≤ (k : Int) * 281474976710656
  out : s.out.length = k
theorem PlIn.skip {ns : List Nd} {f : Nat → Int} {s : Plc} {a : Nat} {ys : List Nat} {k : Nat} {x : Nd} (h : PlIn ns f s (a :: ys) k) (hx : ns[a]? = some x) (hk : x.kind = 7) :
    ∃ z r, s.sz = z :: r ∧ (-281474976710656 ≤ z ∧ z ≤ 281474976710656) ∧ plstep ns f s a = ⟨s.x + z, r, s.out ++ [s.x]⟩ ∧ PlIn ns f (plstep ns f s a) ys (k + 1) := by
  obtain ⟨h1, h2, h3, h4⟩ := h
  rw [skF_cons, skstep_yes hx hk, skF_acc] at h1
  simp only [List.nil_append, List.length_append, List.length_cons, List.length_nil] at h1
  cases hs : s.sz with
  | nil => rw [hs] at h1; simp at h1; omega
  | cons z r =>
    have hz := h2 z (by rw [hs]; simp)
    have e : plstep ns f s a = ⟨s.x + z, r, s.out ++ [s.x]⟩ := by rw [plstep_yes hx hk, hs]; rfl
    refine ⟨z, r, rfl, hz, e, ?_⟩
    rw [e]
    refine ⟨?_, fun y hy => h2 y (by rw [hs]; simp [hy]), ?_, by simp [h4]⟩
    · rw [hs] at h1; simp at h1; simp only; omega
    · simp only; push_cast; omega
theorem PlIn.other {ns : List Nd} {f : Nat → Int} {s : Plc} {a : Nat} {ys : List Nat} {k : Nat} {x : Nd} (h : PlIn ns f s (a :: ys) k) (hx : ns[a]? = some x) (hk : ¬ x.kind = 7) (hf : -281474976710656 ≤ f a ∧ f a ≤ 281474976710656) :
    plstep ns f s a = ⟨s.x + f a, s.sz, s.out ++ [s.x]⟩ ∧ PlIn ns f (plstep ns f s a) ys (k + 1) := by
  obtain ⟨h1, h2, h3, h4⟩ := h
  rw [skF_cons, skstep_no hx hk] at h1
  have e := plstep_no (f := f) (s := s) hx hk
  refine ⟨e, ?_⟩
  rw [e]
  exact ⟨h1, h2, by simp only; push_cast; omega, by simp [h4]⟩
theorem plF_out (ns : List Nd) (f : Nat → Int) : ∀ (ys : List Nat) (s : Plc), (plF ns f ys s).out.length ≤ s.out.length + ys.length
  | [], s => by simp [plF]
  | a :: ys, s => by
    rw [plF_cons]
    have h := plF_out ns f ys (plstep ns f s a)
    have h2 : (plstep ns f s a).out.length ≤ s.out.length + 1 := by
      unfold plstep
      split
      · split <;> simp
      · omega
    simp only [List.length_cons]
    omega
end Go.Proofs.Ytoboecenlangmaa.Pk
namespace Go.Proofs.Ytoboecenlangmaa.Gl
/-- Each size is within bounds. -/
theorem step_szb {sign order N D : Int} {z z' : Sz} {g : G} {k : Nat} (h : z.In k) (hb : ∀ y ∈ z.o, -281474976710656 ≤ y ∧ y ≤ 281474976710656) (hg : g.ok = true) (hs : step sign order N D z g = some z') : ∀ y ∈ z'.o, -281474976710656 ≤ y ∧ y ≤ 281474976710656 := by
  obtain ⟨h1, h2, h3, h4⟩ := h
  obtain ⟨⟨m0, m1⟩, ⟨s0, s1⟩, ⟨t0, t1⟩, _, _⟩ := glueB_iff.1 hg
  unfold step at hs
  split at hs
  · split at hs
    · simp only [Option.some.injEq] at hs
      subst hs
      intro y hy
      have hp := psV_bd (z.S + g.s) N D
      rcases List.mem_append.1 hy with hy | hy
      · exact hb y hy
      · simp only [List.mem_singleton] at hy
        subst hy
        omega
    · cases hs
  · split at hs
    · split at hs
      · simp only [Option.some.injEq] at hs
        subst hs
        intro y hy
        have hp := psV_bd (z.S + g.h) N D
        rcases List.mem_append.1 hy with hy | hy
        · exact hb y hy
        · simp only [List.mem_singleton] at hy
          subst hy
          omega
      · cases hs
    · simp only [Option.some.injEq] at hs
      subst hs
      intro y hy
      rcases List.mem_append.1 hy with hy | hy
      · exact hb y hy
      · simp only [List.mem_singleton] at hy
        subst hy
        omega
theorem szrun_in {sign order N D : Int} {l : List G} (hl : l.all G.ok = true) : ∀ (k : Nat), k ≤ l.length → ∀ z, run sign order N D (l.take k) = some z → z.In k ∧ ∀ y ∈ z.o, -281474976710656 ≤ y ∧ y ≤ 281474976710656
  | 0, _, z, h => by
    simp only [List.take_zero, run_nil, Option.some.injEq] at h
    subst h
    exact ⟨Sz.In.zero, by simp⟩
  | k + 1, hk, z, h => by
    obtain ⟨g, hg⟩ : ∃ g, l[k]? = some g := ⟨_, List.getElem?_eq_getElem (by omega)⟩
    have hgo : g.ok = true := List.all_eq_true.1 hl g (List.mem_of_getElem? hg)
    cases hr : run sign order N D (l.take k) with
    | none =>
      have h2 := h
      unfold run at h2 hr
      rw [List.take_add_one, hg, List.foldl_append, hr] at h2
      cases h2
    | some z0 =>
      obtain ⟨h1, h2⟩ := szrun_in hl k (by omega) z0 hr
      have h3 := run_snoc hg hr
      rw [h] at h3
      exact ⟨step_in h1 hgo h3.symm, step_szb h1 h2 hgo h3.symm⟩
/-- The sizes of a row that is set: one each, none too great. -/
theorem szL_in {l : List G} {sign order N D : Int} (h : szE l sign order N D = 0) : (szL l sign order N D).length = l.length ∧ ∀ y ∈ szL l sign order N D, -281474976710656 ≤ y ∧ y ≤ 281474976710656 := by
  obtain ⟨h1, h2, h3, z, hz⟩ := szE_zero h
  have hl := (rowE_zero h1).2
  have h4 := szrun_in hl l.length (Nat.le_refl _) z (by rw [List.take_length]; exact hz)
  rw [(szE_some h1 h2 h3 hz).2]
  exact ⟨h4.1.2.2.2, h4.2⟩
end Go.Proofs.Ytoboecenlangmaa.Gl
end
section
namespace Go.Proofs.Ytoboecenlangmaa.No
open Go.ChangeShapes Go.WideShapes Go.ChangeAt Go.RowKit
open Me Np
set_option linter.unusedVariables false
set_option linter.unusedSimpArgs false

theorem innerL_len (ns : List Nd) (a m : Nat) : (innerL ns a m).length ≤ ns.length := by
  unfold innerL
  simp only [List.length_take, List.length_drop]
  omega
theorem begB_at {ns : List Nd} {a : Int} (h : begB ns a = true) : ∃ (k : Nat) (x : Nd), a = (k : Int) ∧ ns[k]? = some x ∧ ¬ x.kind = 6 ∧ ¬ x.kind = 11 := by
  unfold begB at h
  simp only [Bool.and_eq_true, decide_eq_true_eq] at h
  obtain ⟨h0, h1⟩ := h
  split at h1
  · cases h1
  · rename_i x hx
    simp only [Bool.and_eq_true, bne_iff_ne, ne_eq] at h1
    exact ⟨a.toNat, x, by omega, hx, h1.1, h1.2⟩
theorem parts_err (A : Option Addr) (ns : List Nd) (c : Nat) (a : Int) (w : World) (hl : ns.length ≤ 9223372036854775806) (hseg : Seg w w.heap.size A (ns.flatMap ncs)) (hc : ¬ chk ns = 0) :
    Calls Try.prog 84 #[.slice A ns.length c, .int .i64 a] w fun e w' => e = .returned (.tuple #[.slice none 0 0, .slice none 0 0, .slice none 0 0, .int .i64 (chk ns)]) ∧ Below w.heap.size w w' := by
  have e0 : (chk ns != 0) = true := by simp [hc]
  have HC := Lib.hid (check_any A ns c w (by omega) hseg)
  have HX := Lib.hid hc
  clear hseg hc
  generalize chk ns = v at *
  generalize ns.length = len at *
  go_enter Try.func84, Try.ntmps84
  go_wp2_with fail
  refine HC.out.mono ?_
  rintro e w1 ⟨rfl, hb1⟩
  go_wp2_with fail
  go_returns
  exact ⟨rfl, hb1⟩
theorem parts_none (A : Option Addr) (ns : List Nd) (c : Nat) (a : Int) (w : World) (hl : ns.length ≤ 9223372036854775806) (hseg : Seg w w.heap.size A (ns.flatMap ncs)) (hc : chk ns = 0) (hb : begB ns a = false) :
    Calls Try.prog 84 #[.slice A ns.length c, .int .i64 a] w fun e w' => e = .returned (.tuple #[.slice none 0 0, .slice none 0 0, .slice none 0 0, .int .i64 3]) ∧ Below w.heap.size w w' := by
  have HC := Lib.hid (check_any A ns c w (by omega) hseg)
  have HB := Lib.hid hb
  have HE := Lib.hid hc
  have HBG := Lib.hid fun w1 (h : Below w.heap.size w w1) => begins_any A ns c a w1 (by omega) (Seg.belowW hseg h)
  clear hseg hc hb
  rw [HE.out] at HC
  rw [HB.out] at HBG
  generalize ns.length = len at *
  go_enter Try.func84, Try.ntmps84
  go_wp2_with fail
  refine HC.out.mono ?_
  rintro e w1 ⟨rfl, hb1⟩
  go_wp2_with fail
  refine (HBG.out w1 hb1).mono ?_
  rintro e w' ⟨rfl, rfl⟩
  go_wp2_with fail
  go_returns
  exact ⟨rfl, hb1⟩
theorem parts_other (A : Option Addr) (ns : List Nd) (c : Nat) (a : Nat) (x : Nd) (w : World) (hl : ns.length ≤ 9223372036854775806) (hseg : Seg w w.heap.size A (ns.flatMap ncs)) (hc : chk ns = 0) (hb : begB ns a = true) (hx : ns[a]? = some x) (h10 : ¬ x.kind = 10) :
    Calls Try.prog 84 #[.slice A ns.length c, .int .i64 (a : Int)] w fun e w' => e = .returned (.tuple #[.slice none 0 0, .slice none 0 0, .slice none 0 0, .int .i64 3]) ∧ Below w.heap.size w w' := by
  have HC := Lib.hid (check_any A ns c w (by omega) hseg)
  have HB := Lib.hid hb
  have HE := Lib.hid hc
  have HBG := Lib.hid fun w1 (h : Below w.heap.size w w1) => begins_any A ns c a w1 (by omega) (Seg.belowW hseg h)
  obtain ⟨b, off, rfl, hb', hnode⟩ := seg_node hseg hx
  have hal : a < ns.length := (List.getElem?_eq_some_iff.1 hx).1
  have HN := Lib.hid hnode
  have e10 : (x.kind != 10) = true := by simp [h10]
  clear hseg hc hb hx hnode
  rw [HE.out] at HC
  rw [HB.out] at HBG
  generalize ns.length = len at *
  go_enter Try.func84, Try.ntmps84
  go_wp2_with fail
  refine HC.out.mono ?_
  rintro e w1 ⟨rfl, hb1⟩
  have hc0 : w1.cell? ⟨b, off + a * 19, none⟩ = some (.int .i64 x.kind) := HN.out.below hb1 hb' 0 _ rfl
  go_wp2_with (first
    | (go_at_call 52; refine (HBG.out w1 hb1).mono ?_; rintro e w' ⟨rfl, rfl⟩))
  go_returns
  exact ⟨rfl, hb1⟩
set_option maxHeartbeats 1000000 in
set_option maxRecDepth 100000 in
theorem parts_ok (A : Option Addr) (ns : List Nd) (c : Nat) (a m : Nat) (x : Nd) (ss : List Nat) (w : World) (hcap : ns.length ≤ c) (hseg : Seg w w.heap.size A (ns.flatMap ncs)) (hc : chk ns = 0) (hb : begB ns a = true) (hx : ns[a]? = some x) (h10 : x.kind = 10) (hm : endc (ns.drop a) 0 = some m) (hd : D3 ss (ns.drop (a + 1)) 0 (m - 2)) (hm2 : 2 ≤ m) :
    Calls Try.prog 84 #[.slice A ns.length c, .int .i64 (a : Int)] w fun e w' => ∃ vs, e = .returned (.tuple #[vs 0, vs 1, vs 2, .int .i64 0]) ∧ Own3 w' w.heap.size vs (thr ss (ns.drop (a + 1)) 0) ∧ Below w.heap.size w w' := by
  have hl := (chk_run hc).1
  have HT := Lib.hid fun w1 (h : Below w.heap.size w w1) => three_any A ns c a m ss x w1 hc hcap (Seg.belowW hseg h) hx hm hd hm2
  have HC := Lib.hid (check_any A ns c w (by omega) hseg)
  have HB := Lib.hid hb
  have HE := Lib.hid hc
  have HBG := Lib.hid fun w1 (h : Below w.heap.size w w1) => begins_any A ns c a w1 (by omega) (Seg.belowW hseg h)
  obtain ⟨b, off, rfl, hb', hnode⟩ := seg_node hseg hx
  have hal : a < ns.length := (List.getElem?_eq_some_iff.1 hx).1
  have HN := Lib.hid hnode
  have e10 : (x.kind != 10) = false := by simp [h10]
  clear hseg hc hb hx hnode hm hd
  rw [HE.out] at HC
  rw [HB.out] at HBG
  generalize thr ss (ns.drop (a + 1)) 0 = F at HT ⊢
  generalize ns.length = len at *
  go_enter Try.func84, Try.ntmps84
  go_wp2_with fail
  refine HC.out.mono ?_
  rintro e w1 ⟨rfl, hb1⟩
  have hc0 : w1.cell? ⟨b, off + a * 19, none⟩ = some (.int .i64 x.kind) := HN.out.below hb1 hb' 0 _ rfl
  go_wp2_with (first
    | (go_at_call 52; refine (HBG.out w1 hb1).mono ?_; rintro e w' ⟨rfl, rfl⟩))
  refine (HT.out _ hb1).mono ?_
  rintro e w2 ⟨vs, rfl, ho, hb2⟩
  have HO := Lib.hid ho
  have HB2 := Lib.hid (andThen hb1 hb2)
  obtain ⟨A0, c0, h0⟩ := own_slice (ho.own 0 (by omega))
  obtain ⟨A1, c1, h1⟩ := own_slice (ho.own 1 (by omega))
  obtain ⟨A2, c2, h2⟩ := own_slice (ho.own 2 (by omega))
  have htc : tc3 vs = #[.slice A0 (F 0).length c0, .slice A1 (F 1).length c1, .slice A2 (F 2).length c2] := by unfold tc3; rw [h0, h1, h2]
  have HH := Lib.hid (And.intro h0 (And.intro h1 h2))
  have h31 := tc3_one vs ho
  have hsz3 : (Try.prog.info? 110).map (·.size) = some (tc3 vs).size := by rw [tc3_size]; exact three_info
  rw [htc] at h31 hsz3 ⊢
  have H31 := Lib.hid (And.intro h31 hsz3)
  clear ho hb2 HC HT HBG h0 h1 h2 htc h31 hsz3
  generalize (F 0).length = l0 at *
  generalize (F 1).length = l1 at *
  generalize (F 2).length = l2 at *
  go_wp2_with (first
    | (refine wpList_store_row (o := ⟨none, .store _ (.tmp 9) (.tmp 31), _, _, _, _⟩) rfl 110 _ _ rfl w2.heap.size #[.slice A0 l0 c0, .slice A1 l1 c1, .slice A2 l2 c2] rfl rfl 110 (tc3 fun _ => .slice none 0 0) (Blk.new' rfl) H31.out.2 rfl H31.out.1 ?_))
  go_simp
  have B3 : Blk (w2.alloc (.cells #[.slice A0 l0 c0, .slice A1 l1 c1, .slice A2 l2 c2] 110)) w2.heap.size 110 #[.slice A0 l0 c0, .slice A1 l1 c1, .slice A2 l2 c2] := Blk.new' rfl
  have HO3 := Lib.hid (HO.out.below (andAlloc (Below.refl _ _) (.cells #[.slice A0 l0 c0, .slice A1 l1 c1, .slice A2 l2 c2] 110)))
  have HB3 := Lib.hid (andAlloc HB2.out (.cells #[.slice A0 l0 c0, .slice A1 l1 c1, .slice A2 l2 c2] 110))
  have HS1 := Lib.hid hb1.size
  generalize w2.alloc (.cells #[.slice A0 l0 c0, .slice A1 l1 c1, .slice A2 l2 c2] 110) = w3 at B3 HO3 HB3 ⊢
  generalize w2.heap.size = g3 at *
  have hd0 : w3.cell? ⟨g3, 0, none⟩ = some (.slice A0 l0 c0) := B3.cell 0
  have hd1 : w3.cell? ⟨g3, 1, none⟩ = some (.slice A1 l1 c1) := B3.cell 1
  have hd2 : w3.cell? ⟨g3, 2, none⟩ = some (.slice A2 l2 c2) := B3.cell 2
  clear B3 HB2 HO hb1 hc0
  go_region
  all_goals
    go_wp2_with fail
    go_returns
    exact ⟨vs, by rw [HH.out.1, HH.out.2.1, HH.out.2.2], ⟨fun j hj => own_base ((HO3.out.below (below_drewN (Below.refl _ _) 1)).own j hj) HS1.out, HO3.out.dist⟩, below_drewN HB3.out 1⟩
end Go.Proofs.Ytoboecenlangmaa.No
end
