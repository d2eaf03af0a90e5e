import Derived.Test.YtoboecenlangmaaMo1
import Derived.Test.YtoboecenlangmaaNodeJ
import Derived.StillTailTactics
import Derived.IntWalk
import Derived.Test.YtoboecenlangmaaMo2
import Derived.Test.YtoboecenlangmaaNodeKb
import Derived.Test.YtoboecenlangmaaGlueG
import Derived.Test.YtoboecenlangmaaNodeIn
import Derived.Handy
import Derived.RegionTactic
import Derived.BigRegion
import Derived.Test.YtoboecenlangmaaGlueI
/- Merged texts. Conditions: those that each theorem names. -/
section
namespace Go.Proofs.Ytoboecenlangmaa.Pk
open Go.ChangeShapes Go.WideShapes Go.ChangeAt Go.RowKit
open Me Np No
set_option linter.unusedVariables false
set_option linter.unusedSimpArgs false

attribute [local go_sem ↓] bldN_eq
set_option maxHeartbeats 20000000 in
set_option maxRecDepth 100000 in
theorem hpack_f (A : Option Addr) (ns S O L : List Nd) (k : Nat) (tw : Int) (w : World) (hc : chk ns = 0) (hcap : ns.length ≤ k) (hseg : Seg w w.heap.size A (ns.flatMap ncs)) (ht : dimB tw = true) (hS : partD ns = (S, O)) (x a b c d p q r s e1 h v e2 e3 W : Int) (M : Msr S false x a b c d p q r s e1 h v e2)
    (hW : W = tw + x)
    (hw : ∀ (A : Option Addr) (c' : Nat) (w : World), Src w A c' S → Calls Try.prog 79 #[.agg (nc (fitN (hN W h v) (Gl.fit a b c d p q r s (W - x)))), .slice A S.length c'] w fun e' w' => ∃ v, e' = .returned (.tuple #[v, .int .i64 e3]) ∧ w'.ownsRow w.heap.size 54 19 v L.length (L.flatMap ncs) ∧ Below w.heap.size w w') :
    Calls Try.prog 20 #[.slice A ns.length k, .int .i64 tw, .bool false] w (HOut (hpkR e1 e2 (dimB W) e3 L O (setV (fitN (hN W h v) (Gl.fit a b c d p q r s (W - x))) a p ((S.length : Int) == 0) (W - x) (0, 0)).1 (setV (fitN (hN W h v) (Gl.fit a b c d p q r s (W - x))) a p ((S.length : Int) == 0) (W - x) (0, 0)).2) w) := by
  have hSl : S.length ≤ 2000 := by have := (partD_len hc).1; rw [hS] at this; exact this
  have HC := Lib.hid (check_any A ns k w (by have := (chk_run hc).1; omega) hseg)
  rw [hc] at HC
  have HD := Lib.hid (fun w => dimen_any tw w)
  rw [ht] at HD
  have HP := Lib.hid (fun w1 (hb : Below w.heap.size w w1) => parted_any A ns k w1 hc hcap (Seg.belowW hseg hb))
  rw [hS] at HP
  have HM := Lib.hid M
  have HMT := Lib.hid M.tot
  have HME := Lib.hid M.ext
  have HW := Lib.hid hw
  obtain ⟨R, hR⟩ : ∃ R, R = hpkR e1 e2 (dimB W) e3 L O (setV (fitN (hN W h v) (Gl.fit a b c d p q r s (W - x))) a p ((S.length : Int) == 0) (W - x) (0, 0)).1 (setV (fitN (hN W h v) (Gl.fit a b c d p q r s (W - x))) a p ((S.length : Int) == 0) (W - x) (0, 0)).2 := ⟨_, rfl⟩
  rw [← hR]
  have HR := Lib.hid hR
  clear hR
  have HWE := Lib.hid hW
  have htw : -1073741823 ≤ tw ∧ tw ≤ 1073741823 := by simpa [dimB] using ht
  clear hseg hc hS M hw hW ht
  generalize ns.length = len at *
  have hb4 := run_bldN 4
  go_enter Try.func20, Try.ntmps20
  go_wp2_with fail
  refine HC.out.mono ?_
  rintro e w1 ⟨rfl, hb1⟩
  go_wp2_with (go_at_call 41; refine (HD.out _).mono ?_; rintro e w' ⟨rfl, rfl⟩)
  refine (HP.out _ hb1).mono ?_
  rintro e w2 ⟨vS, vO, rfl, hO, hb2⟩
  have hb12 := andThen hb1 hb2
  obtain ⟨AS, kS, hvS, hkS⟩ : ∃ A c, vS = .slice A S.length c ∧ S.length ≤ c := by
    obtain ⟨A, c, h1, h2, _⟩ := Src.own hO.one
    exact ⟨A, c, h1, h2⟩
  subst hvS
  have HH := Lib.hid (show Own2 w2 w.heap.size (.slice AS S.length kS) vO S O from ⟨own_base hO.one hb1.size, own_base hO.two hb1.size, hO.dist, hO.dist'⟩)
  have HB2 := Lib.hid hb12
  clear hO hb1 hb2 hb12 HC HP
  generalize hem : ((S.length : Int) == 0) = em
  have HMW := Lib.hid (fun (g : Nat) (bad ov : Int) (A : Option Addr) (k : Nat) (w : World) (hg : Mk w g (fitN (hN W h v) (Gl.fit a b c d p q r s (W - x))) x a b c d p q r s em bad ov 0) (hs : Src w A k S) => mwrap_any g _ x a b c d p q r s em bad ov S L e3 A k w hg HW.out hs)
  clear HW
  generalize hln : S.length = lS at hSl hkS hem HH HMW HMT HME HR ⊢
  have HLS := Lib.hid hln
  have HEM := Lib.hid hem
  clear hln
  go_wp2_with (first | (refine wpList_build_eq (o := ⟨some 32, _, _, _, _, _⟩) rfl _ _ rfl (mkc (nz 4) 0 0 0 0 0 0 0 0 0 em 0 0 0) (by kernel_rfl) ?_))
  have hs0 : Hs w (.slice AS lS kS) vO S O w2.heap.size (nz 4) 0 0 0 0 0 0 0 0 0 em 0 0 0 (w2.alloc (.cells (mkc (nz 4) 0 0 0 0 0 0 0 0 0 em 0 0 0) 97)) := ⟨Blk.new' rfl, HH.out.below (andAlloc (Below.refl _ _) _), andAlloc HB2.out _, HB2.out.size⟩
  clear HH HB2
  generalize w2.alloc (.cells (mkc (nz 4) 0 0 0 0 0 0 0 0 0 em 0 0 0) 97) = w3 at hs0 ⊢
  generalize w2.heap.size = g at hs0 ⊢
  refine (HMT.out AS kS w3 hkS hs0.seg).mono ?_
  rintro e w4 ⟨rfl, hb4'⟩
  have hs4 := hs0.below hb4'
  have hth := mk_there hs4.mkr
  have HS4 := Lib.hid hs4
  clear hs0 hb4' hs4
  have hs5 := HS4.out.turn (grown_cells g _ 19 w4) (mk_tot HS4.out.mkr x a b c d p q r s)
  have HS5 := Lib.hid hs5
  clear hs5
  by_cases he1 : e1 = 0
  · have t1 : (e1 != 0) = false := by simp [he1]
    by_cases he2 : e2 = 0
    · have t2 : (e2 != 0) = false := by simp [he2]
      · skip
        have hnx := HM.out.nat he1
        have hnx' : -1073741823 ≤ x ∧ x ≤ 1073741823 := by simpa [dimB] using hnx
        have HNW := Lib.hid (show Gl.nearB (W - x) = true by unfold Gl.nearB; rw [decide_eq_true_eq]; have := HWE.out; omega)
        clear hnx
        go_upto_region 17 with (first | (refine wpList_store_mid (op := ⟨none, .store _ (.tmp 43) (.tmp 40), _, _, _, _⟩) rfl 69 _ _ rfl g 19 #[.int .i64 x, .int .i64 a, .int .i64 b, .int .i64 c, .int .i64 d, .int .i64 p, .int .i64 q, .int .i64 r, .int .i64 s] ?_ rfl hth tot_info (t9_one _ _ _ _ _ _ _ _ _) ?_; rfl) | (go_at_call 44; refine (HME.out AS kS _ hkS HS5.out.seg).mono ?_; rintro e w6 ⟨rfl, hb6⟩; have HS6 := Lib.hid (HS5.out.below hb6); clear hb6; have hd3 : w6.cell? ⟨g, 3, none⟩ = some (.int .i64 0) := Blk.cell HS6.out.mkr 3; have hf3 := Blk.free HS6.out.mkr 3; have hd4 : w6.cell? ⟨g, 4, none⟩ = some (.int .i64 0) := Blk.cell HS6.out.mkr 4; have hf4 := Blk.free HS6.out.mkr 4; have hd5 : w6.cell? ⟨g, 5, none⟩ = some (.int .i64 0) := Blk.cell HS6.out.mkr 5; have hf5 := Blk.free HS6.out.mkr 5; have hd19 : w6.cell? ⟨g, 19, none⟩ = some (.int .i64 x) := Blk.cell HS6.out.mkr 19) | (go_at_call 41; refine (HD.out _).mono ?_; rintro e w' ⟨rfl, rfl⟩))
        have hs7 := (HS6.out.n45 h v).n3 tw
        have HS7 := Lib.hid hs7
        generalize ((w6.setCell ⟨g, 4, none⟩ (.int .i64 h)).setCell ⟨g, 5, none⟩ (.int .i64 v)).setCell ⟨g, 3, none⟩ (.int .i64 tw) = w7 at HS7 ⊢
        clear hs7 hd3 hf3 hd4 hf4 hd5 hf5 hd19 HS6 HS5 HS4 hth
        have hd3 : w7.cell? ⟨g, 3, none⟩ = some (.int .i64 tw) := Blk.cell HS7.out.mkr 3
        have hd19 : w7.cell? ⟨g, 19, none⟩ = some (.int .i64 x) := Blk.cell HS7.out.mkr 19
        have hsum : IntKind.i64.wrap (tw + x) = W := by rw [HWE.out]; exact IntWalk.i64_in _ (by omega)
        go_still_tail 14, (by kernel_rfl)
        change wpList _ _ _ _ _ w7.drew
        have hs8 := HS7.out.below (Below.drew (Below.refl _ w7))
        generalize w7.drew = w8 at hs8 ⊢
        have HS8 := Lib.hid hs8
        clear hs8 hd3 hd19 HS7 hsum
        have hd3 : w8.cell? ⟨g, 3, none⟩ = some (.int .i64 tw) := Blk.cell HS8.out.mkr 3
        have hf3 := Blk.free HS8.out.mkr 3
        by_cases hdw : dimB W = true
        · have HDW := Lib.hid hdw
          go_upto_region 20 with (go_at_call 41; refine (dimen_any _ _).mono ?_; rintro e w' ⟨rfl, rfl⟩)
          have hs7 := HS8.out.n3 W
          have HS7 := Lib.hid hs7
          generalize w8.setCell ⟨g, 3, none⟩ (.int .i64 W) = w7 at HS7 ⊢
          clear hs7 hd3 hf3 HS8 hdw
          have hd3' : w7.cell? ⟨g, 3, none⟩ = some (.int .i64 W) := Blk.cell HS7.out.mkr 3
          have hd19' : w7.cell? ⟨g, 19, none⟩ = some (.int .i64 x) := Blk.cell HS7.out.mkr 19
          have hsub : IntKind.i64.wrap (W - x) = W - x := IntWalk.i64_in _ (by have := HWE.out; omega)
          go_still_tail 12, (by kernel_rfl)
          change wpList _ _ _ _ _ w7.drew
          have hs8 := HS7.out.below (Below.drew (Below.refl _ w7))
          generalize w7.drew = w8 at hs8 ⊢
          have HS8 := Lib.hid hs8
          clear hs8 hd3' hd19' HS7
          by_cases he3 : e3 = 0
          · have t3 : (e3 != 0) = false := by simp [he3]
            go_upto_region 24 with (first | (go_at_call 43; refine (set_any g (hN W h v) x a b c d p q r s em 0 0 (W - x) _ HS8.out.mkr HNW.out (HM.out.near he1).1 (HM.out.near he1).2.2.2.2.1 (HM.out.near he1).2.1 (HM.out.near he1).2.2.2.2.2.1 (HM.out.near he1).2.2.1 (HM.out.near he1).2.2.2.2.2.2.1 (HM.out.near he1).2.2.2.1 (HM.out.near he1).2.2.2.2.2.2.2).mono ?_; rintro e w9 ⟨rfl, hm9, hg9⟩; have HS9 := Lib.hid (HS8.out.turn hg9 hm9); clear hm9 hg9) | (go_at_call 45; refine (HMW.out g _ _ AS kS _ HS9.out.mkr HS9.out.src).mono ?_; rintro e wq ⟨vL, rfl, hoL, hbL⟩; have HO9 := Lib.hid (And.intro hoL hbL); clear hoL hbL))
            have HK9 := Lib.hid (HS9.out.below HO9.out.2).mkr
            have hd29 : wq.cell? ⟨g, 29, none⟩ = some (.int .i64 (setV (fitN (hN W h v) (Gl.fit a b c d p q r s (W - x))) a p em (W - x) (0, 0)).1) := Blk.cell HK9.out 29
            have hd30 : wq.cell? ⟨g, 30, none⟩ = some (.int .i64 (setV (fitN (hN W h v) (Gl.fit a b c d p q r s (W - x))) a p em (W - x) (0, 0)).2) := Blk.cell HK9.out 30
            have hr : R = (L, O, (setV (fitN (hN W h v) (Gl.fit a b c d p q r s (W - x))) a p em (W - x) (0, 0)).1, (setV (fitN (hN W h v) (Gl.fit a b c d p q r s (W - x))) a p em (W - x) (0, 0)).2, 0) := by rw [HR.out, HEM.out]; unfold hpkR; rw [if_pos he1, if_pos he2, if_pos HDW.out, if_pos he3]
            have HR' := Lib.hid hr
            clear hr HR
            have HO := Lib.hid (fun y z => HS9.out.out HO9.out.1 HO9.out.2 y z)
            generalize (setV (fitN (hN W h v) (Gl.fit a b c d p q r s (W - x))) a p em (W - x) (0, 0)).1 = y1 at *
            generalize (setV (fitN (hN W h v) (Gl.fit a b c d p q r s (W - x))) a p em (W - x) (0, 0)).2 = y2 at *
            go_quiet (fail)
            go_wp2_with fail
            go_returns
            rw [HR'.out]
            exact (HO.out _ _).drewN _
          · have t3 : (e3 != 0) = true := by simp [he3]
            have hr : R = ([], [], 0, 0, e3) := by rw [HR.out]; unfold hpkR; rw [if_pos he1, if_pos he2, if_pos HDW.out, if_neg he3]
            have HR' := Lib.hid hr
            clear hr HR
            go_wp2_with (first | (go_at_call 43; refine (set_any g (hN W h v) x a b c d p q r s em 0 0 (W - x) _ HS8.out.mkr HNW.out (HM.out.near he1).1 (HM.out.near he1).2.2.2.2.1 (HM.out.near he1).2.1 (HM.out.near he1).2.2.2.2.2.1 (HM.out.near he1).2.2.1 (HM.out.near he1).2.2.2.2.2.2.1 (HM.out.near he1).2.2.2.1 (HM.out.near he1).2.2.2.2.2.2.2).mono ?_; rintro e w9 ⟨rfl, hm9, hg9⟩; have HS9 := Lib.hid (HS8.out.turn hg9 hm9); clear hm9 hg9) | (go_at_call 45; refine (HMW.out g _ _ AS kS _ HS9.out.mkr HS9.out.src).mono ?_; rintro e wq ⟨vL, rfl, hoL, hbL⟩; have HO9 := Lib.hid (And.intro hoL hbL); clear hoL hbL))
            go_returns
            rw [HR'.out]
            exact HOut.no (andThen HS9.out.low HO9.out.2) _
        · have hdw' : dimB W = false := by simpa using hdw
          have hr : R = ([], [], 0, 0, 20) := by rw [HR.out]; unfold hpkR; rw [if_pos he1, if_pos he2, if_neg hdw]
          have HR' := Lib.hid hr
          clear hr HR hdw
          go_wp2_with (go_at_call 41; refine (dimen_any _ _).mono ?_; rintro e w' ⟨rfl, rfl⟩)
          go_returns
          rw [HR'.out]
          exact HOut.no (HS8.out.n3 W).low _
    · have t2 : (e2 != 0) = true := by simp [he2]
      have hr : R = ([], [], 0, 0, e2) := by rw [HR.out]; unfold hpkR; rw [if_pos he1, if_neg he2]
      have HR' := Lib.hid hr
      clear hr HR
      go_wp2_with (first | (refine wpList_store_mid (op := ⟨none, .store _ (.tmp 43) (.tmp 40), _, _, _, _⟩) rfl 69 _ _ rfl g 19 #[.int .i64 x, .int .i64 a, .int .i64 b, .int .i64 c, .int .i64 d, .int .i64 p, .int .i64 q, .int .i64 r, .int .i64 s] ?_ rfl hth tot_info (t9_one _ _ _ _ _ _ _ _ _) ?_; rfl) | (go_at_call 44; refine (HME.out AS kS _ hkS HS5.out.seg).mono ?_; rintro e w6 ⟨rfl, hb6⟩; have HS6 := Lib.hid (HS5.out.below hb6); clear hb6; have hd3 : w6.cell? ⟨g, 3, none⟩ = some (.int .i64 0) := Blk.cell HS6.out.mkr 3; have hf3 := Blk.free HS6.out.mkr 3; have hd4 : w6.cell? ⟨g, 4, none⟩ = some (.int .i64 0) := Blk.cell HS6.out.mkr 4; have hf4 := Blk.free HS6.out.mkr 4; have hd5 : w6.cell? ⟨g, 5, none⟩ = some (.int .i64 0) := Blk.cell HS6.out.mkr 5; have hf5 := Blk.free HS6.out.mkr 5; have hd19 : w6.cell? ⟨g, 19, none⟩ = some (.int .i64 x) := Blk.cell HS6.out.mkr 19))
      go_returns
      rw [HR'.out]
      exact HOut.no (HS6.out.n45 h v).low _
  · have t1 : (e1 != 0) = true := by simp [he1]
    have hr : R = ([], [], 0, 0, e1) := by rw [HR.out]; unfold hpkR; rw [if_neg he1]
    have HR' := Lib.hid hr
    clear hr HR
    go_wp2_with (refine wpList_store_mid (op := ⟨none, .store _ (.tmp 43) (.tmp 40), _, _, _, _⟩) rfl 69 _ _ rfl g 19 #[.int .i64 x, .int .i64 a, .int .i64 b, .int .i64 c, .int .i64 d, .int .i64 p, .int .i64 q, .int .i64 r, .int .i64 s] ?_ rfl hth tot_info (t9_one _ _ _ _ _ _ _ _ _) ?_; rfl)
    go_returns
    rw [HR'.out]
    exact HOut.no HS5.out.low _
end Go.Proofs.Ytoboecenlangmaa.Pk
end
section
namespace Go.Proofs.Ytoboecenlangmaa.Pk
open Go.ChangeShapes Go.WideShapes Go.ChangeAt Go.RowKit
open Me Np No
set_option linter.unusedVariables false
set_option linter.unusedSimpArgs false

theorem hpack_main (A : Option Addr) (ns S O L : List Nd) (k : Nat) (tw : Int) (ex : Bool) (w : World) (hc : chk ns = 0) (hcap : ns.length ≤ k) (hseg : Seg w w.heap.size A (ns.flatMap ncs)) (ht : dimB tw = true) (hS : partD ns = (S, O)) (x a b c d p q r s e1 h v e2 e3 W : Int) (M : Msr S false x a b c d p q r s e1 h v e2)
    (hW : W = if ex = true then tw else tw + x)
    (hw : ∀ (A : Option Addr) (c' : Nat) (w : World), Src w A c' S → Calls Try.prog 79 #[.agg (nc (fitN (hN W h v) (Gl.fit a b c d p q r s (W - x)))), .slice A S.length c'] w fun e' w' => ∃ v, e' = .returned (.tuple #[v, .int .i64 e3]) ∧ w'.ownsRow w.heap.size 54 19 v L.length (L.flatMap ncs) ∧ Below w.heap.size w w') :
    Calls Try.prog 20 #[.slice A ns.length k, .int .i64 tw, .bool ex] w (HOut (hpkR e1 e2 (dimB W) e3 L O (setV (fitN (hN W h v) (Gl.fit a b c d p q r s (W - x))) a p ((S.length : Int) == 0) (W - x) (0, 0)).1 (setV (fitN (hN W h v) (Gl.fit a b c d p q r s (W - x))) a p ((S.length : Int) == 0) (W - x) (0, 0)).2) w) := by
  cases ex with
  | true => exact hpack_t A ns S O L k tw w hc hcap hseg ht hS x a b c d p q r s e1 h v e2 e3 W M hW hw
  | false => exact hpack_f A ns S O L k tw w hc hcap hseg ht hS x a b c d p q r s e1 h v e2 e3 W M hW hw
end Go.Proofs.Ytoboecenlangmaa.Pk
end
section
namespace Go.Proofs.Ytoboecenlangmaa.No
open Go.ChangeShapes Go.WideShapes Go.ChangeAt Go.RowKit
open Me Np
set_option linter.unusedVariables false
set_option linter.unusedSimpArgs false

attribute [local go_sem ↓] ldN_eq bldN_eq
set_option maxHeartbeats 2000000 in
set_option maxRecDepth 100000 in
theorem wrap_r (n : Nd) (A : Option Addr) (l : List Nd) (c : Nat) (w : World) (hr : right n = false) :
    Calls Try.prog 79 #[.agg (nc n), .slice A l.length c] w fun e w' => e = .returned (.tuple #[.slice none 0 0, .int .i64 1]) ∧ Below w.heap.size w w' := by
  have HR := Lib.hid hr
  clear hr
  generalize l.length = len at *
  go_enter Try.func79, Try.ntmps79
  go_wp2_with fail
  refine (kinds_any _).mono ?_
  rintro e w1 ⟨rfl, hq, hz1, hb1⟩
  have HQ := Lib.hid hq
  have HZ1 := Lib.hid hz1
  have hn1 : NodeAt w1 w.heap.size 0 n := NodeAt.below (Blk.node (Blk.new' rfl)) hb1 (by simp)
  have hl1 : Below w.heap.size w w1 := andThen (andAlloc (Below.refl _ _) _) hb1
  clear hq hz1 hb1
  have hld1 : ∀ o : Obj, (ldN ⟨w.heap.size, 0, none⟩).run Try.prog (w1.alloc o) = .ok (.agg (nc n)) (w1.alloc o) := fun o => run_ldN (hn1.alloc o)
  go_wp2_with (first
    | (refine wpList_store_row rfl 117 _ _ rfl w1.heap.size (ktab (w.heap.size + 1 + 1)) rfl rfl 117 Try.zeroCells117 (Blk.new' rfl) (by rw [ktab_size]; exact kinds_info) (by rw [ktab_size]; exact zero_size) (ktab_one _) ?_)
    | fail)
  have hq2 : (w1.alloc (.cells (ktab (w.heap.size + 1 + 1)) 117)).cell? ⟨w.heap.size + 1 + 1, 0, none⟩ = some (.func (.func 87) #[] #[]) := by
    have h1 := HQ.out
    have h2 := HZ1.out
    simp at h1 h2
    exact (World.cell?_alloc_past (w := w1) _ _ _ (by omega)).trans h1
  have hw2 := andAlloc hl1 (.cells (ktab (w.heap.size + 1 + 1)) 117)
  have hn2 := hn1.alloc (.cells (ktab (w.heap.size + 1 + 1)) 117)
  refine (right_any n w1.heap.size (w.heap.size + 1 + 1) _ (Blk.new' rfl) hq2).mono ?_
  rintro e w2 ⟨rfl, hb2⟩
  have hl2 := andThen hw2 hb2
  have hn2' := hn2.below hb2 hn2.lt
  have hc2 : w2.cell? ⟨w.heap.size, 0, none⟩ = some (.int .i64 n.kind) := hn2' 0 _ rfl
  have hz2 := hn2'.lt
  rw [HR.out]
  clear hq2 hw2 hn2 hb2 hn1 hl1 HQ HZ1 hld1
  go_wp2_with fail
  go_ret2
  exact ⟨rfl, hl2⟩
set_option maxHeartbeats 2000000 in
set_option maxRecDepth 100000 in
theorem wrap_o (n : Nd) (A : Option Addr) (l : List Nd) (c : Nat) (w : World) (hr : right n = true) (ho : opensB n = false) :
    Calls Try.prog 79 #[.agg (nc n), .slice A l.length c] w fun e w' => e = .returned (.tuple #[.slice none 0 0, .int .i64 1]) ∧ Below w.heap.size w w' := by
  have HR := Lib.hid hr
  have HO := Lib.hid ho
  clear hr ho
  generalize l.length = len at *
  go_enter Try.func79, Try.ntmps79
  go_wp2_with fail
  refine (kinds_any _).mono ?_
  rintro e w1 ⟨rfl, hq, hz1, hb1⟩
  have HQ := Lib.hid hq
  have HZ1 := Lib.hid hz1
  have hn1 : NodeAt w1 w.heap.size 0 n := NodeAt.below (Blk.node (Blk.new' rfl)) hb1 (by simp)
  have hl1 : Below w.heap.size w w1 := andThen (andAlloc (Below.refl _ _) _) hb1
  clear hq hz1 hb1
  have hld1 : ∀ o : Obj, (ldN ⟨w.heap.size, 0, none⟩).run Try.prog (w1.alloc o) = .ok (.agg (nc n)) (w1.alloc o) := fun o => run_ldN (hn1.alloc o)
  go_wp2_with (first
    | (refine wpList_store_row rfl 117 _ _ rfl w1.heap.size (ktab (w.heap.size + 1 + 1)) rfl rfl 117 Try.zeroCells117 (Blk.new' rfl) (by rw [ktab_size]; exact kinds_info) (by rw [ktab_size]; exact zero_size) (ktab_one _) ?_)
    | fail)
  have hq2 : (w1.alloc (.cells (ktab (w.heap.size + 1 + 1)) 117)).cell? ⟨w.heap.size + 1 + 1, 0, none⟩ = some (.func (.func 87) #[] #[]) := by
    have h1 := HQ.out
    have h2 := HZ1.out
    simp at h1 h2
    exact (World.cell?_alloc_past (w := w1) _ _ _ (by omega)).trans h1
  have hw2 := andAlloc hl1 (.cells (ktab (w.heap.size + 1 + 1)) 117)
  have hn2 := hn1.alloc (.cells (ktab (w.heap.size + 1 + 1)) 117)
  refine (right_any n w1.heap.size (w.heap.size + 1 + 1) _ (Blk.new' rfl) hq2).mono ?_
  rintro e w2 ⟨rfl, hb2⟩
  have hl2 := andThen hw2 hb2
  have hn2' := hn2.below hb2 hn2.lt
  have hc2 : w2.cell? ⟨w.heap.size, 0, none⟩ = some (.int .i64 n.kind) := hn2' 0 _ rfl
  have hz2 := hn2'.lt
  rw [HR.out]
  have hld2 : (ldN ⟨w.heap.size, 0, none⟩).run Try.prog w2 = .ok (.agg (nc n)) w2 := run_ldN hn2'
  have hld3 : ∀ o : Obj, (ldN ⟨w.heap.size, 0, none⟩).run Try.prog (w2.alloc o) = .ok (.agg (nc n)) (w2.alloc o) := fun o => run_ldN (hn2'.alloc o)
  clear hq2 hw2 hn2 hb2 hn1 hl1 HQ HZ1 hld1
  go_wp2_with (first
    | (go_at_call 53; (with_reducible refine (opens_any _ _).mono ?_); rintro e w' ⟨rfl, rfl⟩; simp only [HO.out]))
  go_ret2
  exact ⟨rfl, andAlloc hl2 _⟩
set_option maxHeartbeats 2000000 in
set_option maxRecDepth 100000 in
theorem wrap_d (n : Nd) (A : Option Addr) (l : List Nd) (c : Nat) (w : World) (hr : right n = true) (ho : opensB n = true) (h10 : n.kind = 10) :
    Calls Try.prog 79 #[.agg (nc n), .slice A l.length c] w fun e w' => e = .returned (.tuple #[.slice none 0 0, .int .i64 1]) ∧ Below w.heap.size w w' := by
  have HR := Lib.hid hr
  have HO := Lib.hid ho
  have e10 : (n.kind == 10) = true := by simp [h10]
  clear hr ho h10
  generalize l.length = len at *
  go_enter Try.func79, Try.ntmps79
  go_wp2_with fail
  refine (kinds_any _).mono ?_
  rintro e w1 ⟨rfl, hq, hz1, hb1⟩
  have HQ := Lib.hid hq
  have HZ1 := Lib.hid hz1
  have hn1 : NodeAt w1 w.heap.size 0 n := NodeAt.below (Blk.node (Blk.new' rfl)) hb1 (by simp)
  have hl1 : Below w.heap.size w w1 := andThen (andAlloc (Below.refl _ _) _) hb1
  clear hq hz1 hb1
  have hld1 : ∀ o : Obj, (ldN ⟨w.heap.size, 0, none⟩).run Try.prog (w1.alloc o) = .ok (.agg (nc n)) (w1.alloc o) := fun o => run_ldN (hn1.alloc o)
  go_wp2_with (first
    | (refine wpList_store_row rfl 117 _ _ rfl w1.heap.size (ktab (w.heap.size + 1 + 1)) rfl rfl 117 Try.zeroCells117 (Blk.new' rfl) (by rw [ktab_size]; exact kinds_info) (by rw [ktab_size]; exact zero_size) (ktab_one _) ?_)
    | fail)
  have hq2 : (w1.alloc (.cells (ktab (w.heap.size + 1 + 1)) 117)).cell? ⟨w.heap.size + 1 + 1, 0, none⟩ = some (.func (.func 87) #[] #[]) := by
    have h1 := HQ.out
    have h2 := HZ1.out
    simp at h1 h2
    exact (World.cell?_alloc_past (w := w1) _ _ _ (by omega)).trans h1
  have hw2 := andAlloc hl1 (.cells (ktab (w.heap.size + 1 + 1)) 117)
  have hn2 := hn1.alloc (.cells (ktab (w.heap.size + 1 + 1)) 117)
  refine (right_any n w1.heap.size (w.heap.size + 1 + 1) _ (Blk.new' rfl) hq2).mono ?_
  rintro e w2 ⟨rfl, hb2⟩
  have hl2 := andThen hw2 hb2
  have hn2' := hn2.below hb2 hn2.lt
  have hc2 : w2.cell? ⟨w.heap.size, 0, none⟩ = some (.int .i64 n.kind) := hn2' 0 _ rfl
  have hz2 := hn2'.lt
  rw [HR.out]
  have hld2 : (ldN ⟨w.heap.size, 0, none⟩).run Try.prog w2 = .ok (.agg (nc n)) w2 := run_ldN hn2'
  have hld3 : ∀ o : Obj, (ldN ⟨w.heap.size, 0, none⟩).run Try.prog (w2.alloc o) = .ok (.agg (nc n)) (w2.alloc o) := fun o => run_ldN (hn2'.alloc o)
  clear hq2 hw2 hn2 hb2 hn1 hl1 HQ HZ1 hld1
  go_wp2_with (first
    | (go_at_call 53; (with_reducible refine (opens_any _ _).mono ?_); rintro e w' ⟨rfl, rfl⟩; simp only [HO.out]))
  go_ret2
  exact ⟨rfl, andAlloc hl2 _⟩
set_option maxHeartbeats 2000000 in
set_option maxRecDepth 100000 in
theorem wrap_c (n : Nd) (A : Option Addr) (l : List Nd) (c : Nat) (w : World) (hl : l.length ≤ 9223372036854775806) (hseg : Seg w w.heap.size A (l.flatMap ncs)) (hr : right n = true) (ho : opensB n = true) (h10 : ¬ n.kind = 10) (hc : ¬ chk l = 0) :
    Calls Try.prog 79 #[.agg (nc n), .slice A l.length c] w fun e w' => e = .returned (.tuple #[.slice none 0 0, .int .i64 (chk l)]) ∧ Below w.heap.size w w' := by
  have e10 : (n.kind == 10) = false := by simp [h10]
  have HO := Lib.hid ho
  have HR := Lib.hid hr
  have HC := Lib.hid fun w1 (h : Below w.heap.size w w1) => check_any A l c w1 (by omega) (Seg.belowW hseg h)
  have e0 : (chk l != 0) = true := by simp [hc]
  clear hc ho hr hseg h10
  generalize chk l = q0 at *
  generalize l.length = len at *
  go_enter Try.func79, Try.ntmps79
  go_wp2_with fail
  refine (kinds_any _).mono ?_
  rintro e w1 ⟨rfl, hq, hz1, hb1⟩
  have HQ := Lib.hid hq
  have HZ1 := Lib.hid hz1
  have hn1 : NodeAt w1 w.heap.size 0 n := NodeAt.below (Blk.node (Blk.new' rfl)) hb1 (by simp)
  have hl1 : Below w.heap.size w w1 := andThen (andAlloc (Below.refl _ _) _) hb1
  clear hq hz1 hb1
  have hld1 : ∀ o : Obj, (ldN ⟨w.heap.size, 0, none⟩).run Try.prog (w1.alloc o) = .ok (.agg (nc n)) (w1.alloc o) := fun o => run_ldN (hn1.alloc o)
  go_wp2_with (first
    | (refine wpList_store_row rfl 117 _ _ rfl w1.heap.size (ktab (w.heap.size + 1 + 1)) rfl rfl 117 Try.zeroCells117 (Blk.new' rfl) (by rw [ktab_size]; exact kinds_info) (by rw [ktab_size]; exact zero_size) (ktab_one _) ?_)
    | fail)
  have hq2 : (w1.alloc (.cells (ktab (w.heap.size + 1 + 1)) 117)).cell? ⟨w.heap.size + 1 + 1, 0, none⟩ = some (.func (.func 87) #[] #[]) := by
    have h1 := HQ.out
    have h2 := HZ1.out
    simp at h1 h2
    exact (World.cell?_alloc_past (w := w1) _ _ _ (by omega)).trans h1
  have hw2 := andAlloc hl1 (.cells (ktab (w.heap.size + 1 + 1)) 117)
  have hn2 := hn1.alloc (.cells (ktab (w.heap.size + 1 + 1)) 117)
  refine (right_any n w1.heap.size (w.heap.size + 1 + 1) _ (Blk.new' rfl) hq2).mono ?_
  rintro e w2 ⟨rfl, hb2⟩
  have hl2 := andThen hw2 hb2
  have hn2' := hn2.below hb2 hn2.lt
  have hc2 : w2.cell? ⟨w.heap.size, 0, none⟩ = some (.int .i64 n.kind) := hn2' 0 _ rfl
  have hz2 := hn2'.lt
  rw [HR.out]
  have hld2 : (ldN ⟨w.heap.size, 0, none⟩).run Try.prog w2 = .ok (.agg (nc n)) w2 := run_ldN hn2'
  have hld3 : ∀ o : Obj, (ldN ⟨w.heap.size, 0, none⟩).run Try.prog (w2.alloc o) = .ok (.agg (nc n)) (w2.alloc o) := fun o => run_ldN (hn2'.alloc o)
  clear hq2 hw2 hn2 hb2 hn1 hl1 HQ HZ1 hld1
  go_wp2_with (first
    | (go_at_call 53; (with_reducible refine (opens_any _ _).mono ?_); rintro e w' ⟨rfl, rfl⟩; simp only [HO.out]))
  have hl3 := andAlloc hl2 (.cells (nc n) 54)
  have hn3 := hn2'.alloc (.cells (nc n) 54)
  refine (HC.out _ hl3).mono ?_
  rintro e w3 ⟨rfl, hb3⟩
  have HL3 := Lib.hid (andThen hl3 hb3)
  clear hl2 hn2' hc2 hz2 hld2 hld3 hl3 hn3 hb3 HC
  go_wp2_with fail
  go_ret2
  exact ⟨rfl, HL3.out⟩
set_option maxHeartbeats 2000000 in
set_option maxRecDepth 100000 in
theorem wrap_w (n : Nd) (A : Option Addr) (l : List Nd) (c : Nat) (w : World) (hsrc : Src w A c l) (hr : right n = true) (ho : opensB n = true) (h10 : ¬ n.kind = 10) (hc : chk l = 0) (hw : ¬ chk (wrapL n l) = 0) :
    Calls Try.prog 79 #[.agg (nc n), .slice A l.length c] w fun e w' => e = .returned (.tuple #[.slice none 0 0, .int .i64 (chk (wrapL n l))]) ∧ Below w.heap.size w w' := by
  have hl := (chk_run hc).1
  have e10 : (n.kind == 10) = false := by simp [h10]
  have HO := Lib.hid ho
  have HR := Lib.hid hr
  have HC := Lib.hid fun w1 (h : Below w.heap.size w w1) => check_any A l c w1 (by omega) (Src.below hsrc h).seg
  have HE := Lib.hid hc
  have HS := Lib.hid hsrc
  have e0 : (chk (wrapL n l) != 0) = true := by simp [hw]
  generalize hqw : chk (wrapL n l) = q0 at *
  have HQW := Lib.hid hqw
  rw [HE.out] at HC
  clear hc ho hr hsrc hw h10 hqw
  go_enter Try.func79, Try.ntmps79
  go_wp2_with fail
  refine (kinds_any _).mono ?_
  rintro e w1 ⟨rfl, hq, hz1, hb1⟩
  have HQ := Lib.hid hq
  have HZ1 := Lib.hid hz1
  have hn1 : NodeAt w1 w.heap.size 0 n := NodeAt.below (Blk.node (Blk.new' rfl)) hb1 (by simp)
  have hl1 : Below w.heap.size w w1 := andThen (andAlloc (Below.refl _ _) _) hb1
  clear hq hz1 hb1
  have hld1 : ∀ o : Obj, (ldN ⟨w.heap.size, 0, none⟩).run Try.prog (w1.alloc o) = .ok (.agg (nc n)) (w1.alloc o) := fun o => run_ldN (hn1.alloc o)
  go_wp2_with (first
    | (refine wpList_store_row rfl 117 _ _ rfl w1.heap.size (ktab (w.heap.size + 1 + 1)) rfl rfl 117 Try.zeroCells117 (Blk.new' rfl) (by rw [ktab_size]; exact kinds_info) (by rw [ktab_size]; exact zero_size) (ktab_one _) ?_)
    | fail)
  have hq2 : (w1.alloc (.cells (ktab (w.heap.size + 1 + 1)) 117)).cell? ⟨w.heap.size + 1 + 1, 0, none⟩ = some (.func (.func 87) #[] #[]) := by
    have h1 := HQ.out
    have h2 := HZ1.out
    simp at h1 h2
    exact (World.cell?_alloc_past (w := w1) _ _ _ (by omega)).trans h1
  have hw2 := andAlloc hl1 (.cells (ktab (w.heap.size + 1 + 1)) 117)
  have hn2 := hn1.alloc (.cells (ktab (w.heap.size + 1 + 1)) 117)
  refine (right_any n w1.heap.size (w.heap.size + 1 + 1) _ (Blk.new' rfl) hq2).mono ?_
  rintro e w2 ⟨rfl, hb2⟩
  have hl2 := andThen hw2 hb2
  have hn2' := hn2.below hb2 hn2.lt
  have hc2 : w2.cell? ⟨w.heap.size, 0, none⟩ = some (.int .i64 n.kind) := hn2' 0 _ rfl
  have hz2 := hn2'.lt
  rw [HR.out]
  have hld2 : (ldN ⟨w.heap.size, 0, none⟩).run Try.prog w2 = .ok (.agg (nc n)) w2 := run_ldN hn2'
  have hld3 : ∀ o : Obj, (ldN ⟨w.heap.size, 0, none⟩).run Try.prog (w2.alloc o) = .ok (.agg (nc n)) (w2.alloc o) := fun o => run_ldN (hn2'.alloc o)
  clear hq2 hw2 hn2 hb2 hn1 hl1 HQ HZ1 hld1
  go_wp2_with (first
    | (go_at_call 53; (with_reducible refine (opens_any _ _).mono ?_); rintro e w' ⟨rfl, rfl⟩; simp only [HO.out]))
  have hl3 := andAlloc hl2 (.cells (nc n) 54)
  have hn3 := hn2'.alloc (.cells (nc n) 54)
  refine (HC.out _ hl3).mono ?_
  rintro e w3 ⟨rfl, hb3⟩
  have HL3 := Lib.hid (andThen hl3 hb3)
  have hn4 := hn3.below hb3 hn3.lt
  have hld4 : (ldN ⟨w.heap.size, 0, none⟩).run Try.prog w3 = .ok (.agg (nc n)) w3 := run_ldN hn4
  have hb6 := run_bldN 6
  have HSR := Lib.hid (fun (W : World) (h : Below w.heap.size w W) => Src.below HS.out h)
  have HO1 := Lib.hid (own_one w3 n)
  have HLA := Lib.hid (andAlloc HL3.out (.cells (nc n) 54))
  clear hl2 hn2' hc2 hz2 hld2 hld3 hl3 hn3 hb3 hn4 HC
  go_wp2_with (first
    | (refine wpList_ex (o := ⟨some 30, _, _, _, _, _⟩) (v := .slice (some ⟨w3.heap.size, 0, none⟩) 1 1) (w' := w3.alloc (.cells (nc n) 54)) rfl (by kernel_rfl) ?_)
    | (at_builtin; refine wpList_append_nodes rfl (.tmp 30) (.tmp 31) rfl w3.heap.size ?_ _ 1 _ rfl HO1.out A c l rfl (HSR.out _ HLA.out) ?_ ?_; simp; omega; intro v1 W1 hown1 hg1; have hlw1 : Below w.heap.size w W1 := below_grown (Nat.le_refl _) HLA.out hg1 (fun g hg => by have hh := HL3.out.size; have hg' : some w3.heap.size = some g := hg; injection hg' with hg'; omega))
    | (refine wpList_build_eq (o := ⟨some 34, _, _, _, _, _⟩) rfl _ _ rfl (nc (nz 6)) (by kernel_rfl) ?_)
    | (refine wpList_ex (o := ⟨some 35, _, _, _, _, _⟩) (v := .slice (some ⟨W1.heap.size, 0, none⟩) 1 1) (w' := W1.alloc (.cells (nc (nz 6)) 54)) rfl (by kernel_rfl) ?_)
    | (at_builtin; refine wpList_push rfl (.tmp 33) (.tmp 35) 34 rfl w3.heap.size 54 _ 19 160 Try.underlying34 node_row rfl (by decide) (by decide) _ _ _ rfl hown1 ?_ _ rfl rfl rfl rfl ?_ ?_; (have hh := hg1.size; simp at hh; omega); omega; intro v2 W2 hown2 hg2 hnn2)
    | fail)
  have hg2' : (W1.alloc (.cells (nc (nz 6)) 54)).grownBy W2 v1.ownBlock := hg2
  clear hg2 hnn2
  have hlw2 : Below w.heap.size w W2 := below_grown (Nat.le_refl _) (andAlloc hlw1 _) hg2' (fun g hg => by
    have h1 := hown1.lt g hg
    have h2 := HL3.out.size
    omega)
  have hfl : (wrapL n l).flatMap ncs = ncs n ++ l.flatMap ncs ++ (nc (nz 6)).toList := by
    show _ = ncs n ++ l.flatMap ncs ++ ncs (nz 6)
    simp [wrapL, List.flatMap_append]
  have hln : 1 + l.length + 1 = (wrapL n l).length := by
    simp [wrapL]
    omega
  rw [← hfl, hln] at hown2
  have HOW := Lib.hid (own_base hown2 (show w.heap.size ≤ w3.heap.size from HL3.out.size))
  obtain ⟨A2, c2, rfl, hc2, hm2, hs2⟩ := Seg.of_own hown2
  have hch := check_any A2 (wrapL n l) c2 W2 (by rw [← hln]; omega) hs2
  rw [HQW.out] at hch
  have HLW2 := Lib.hid hlw2
  clear hg2' hown2 hown1 hg1 hlw1 hlw2 hfl hs2 hm2 HSR HO1 HLA hld4 hb6
  generalize hwl : (wrapL n l).length = wl at *
  have HWL := Lib.hid hwl
  clear hwl
  refine hch.mono ?_
  rintro e w5 ⟨rfl, hb5⟩
  have HLF := Lib.hid (andThen HLW2.out hb5)
  clear hch hb5 HOW HLW2
  go_wp2_with fail
  go_ret2
  exact ⟨rfl, HLF.out⟩
end Go.Proofs.Ytoboecenlangmaa.No
end
section
namespace Go.Proofs.Ytoboecenlangmaa.Pk
open Go.ChangeShapes Go.WideShapes Go.ChangeAt Go.RowKit
open Me Np No
set_option linter.unusedVariables false
set_option linter.unusedSimpArgs false

/-- How long a list is; how high (along a row) or how wide (down a column). -/
noncomputable def natD (l : List Nd) (down : Bool) : Int := (totR l down (itsD l)).nat
noncomputable def extH (l : List Nd) (down : Bool) : Int := if (dimB (extD l down (itsD l)).1 && dimB (extD l down (itsD l)).2) = true then (extD l down (itsD l)).1 else 0
/-- What a list's measures are, where it is one: the program's. -/
theorem msr_prog (l : List Nd) (down : Bool) (hc : chk l = 0) : ∃ x a b c d p q r s e1 h v e2, Msr l down x a b c d p q r s e1 h v e2 ∧ (e1 = 0 ∨ e1 = 20) ∧ x = natD l down ∧ h = extH l down := by
  obtain ⟨xs, hx⟩ := its_of_chk hc
  have hT := totR_len l down xs
  have hB := totD_tb down hc hx
  have hND : natD l down = (totR l down xs).nat := by unfold natD; rw [itsD_of hx]
  have hEH : extH l down = if (dimB (extD l down xs).1 && dimB (extD l down xs).2) = true then (extD l down xs).1 else 0 := by unfold extH; rw [itsD_of hx]
  obtain ⟨⟨x, st, sh⟩, hTe⟩ : ∃ T, totR l down xs = T := ⟨_, rfl⟩
  rw [hTe] at hT hND
  match st, sh, hT.1, hT.2 with
  | [a, b, c, d], [p, q, r, s], _, _ =>
  have ht := fun A k w h hs => totals_any A l k xs down w hc h hs hx
  simp only [hTe] at ht
  obtain ⟨ext, hext⟩ : ∃ E, extD l down xs = E := ⟨_, rfl⟩
  have hu := fun A k w h hs => extent_good A l k xs down w hc h hs hx
  simp only [hext] at hu hEH
  refine ⟨x, a, b, c, d, p, q, r, s, _, _, _, _, ⟨ht, hu, ?_, ?_, ?_, ?_⟩, ?_, hND.symm, hEH.symm⟩
  · intro h0
    have hd : dimB (totD l down xs).nat = true := by
      by_cases hd : dimB (totD l down xs).nat = true
      · exact hd
      · rw [if_neg hd] at h0; cases h0
    have : totR l down xs = totD l down xs := if_pos hd
    rw [hTe] at this
    rw [← this] at hd
    exact hd
  · intro h0
    have hd : dimB (totD l down xs).nat = true := by
      by_cases hd : dimB (totD l down xs).nat = true
      · exact hd
      · rw [if_neg hd] at h0; cases h0
    have he : totR l down xs = totD l down xs := if_pos hd
    rw [hTe] at he
    rw [← he] at hB
    exact ⟨near_of (hB.st 0), near_of (hB.st 1), near_of (hB.st 2), near_of (hB.st 3), near_of (hB.sh 0), near_of (hB.sh 1), near_of (hB.sh 2), near_of (hB.sh 3)⟩
  · intro _
    split
    · exact .inl rfl
    · exact .inr rfl
  · intro h0
    split at h0
    · rename_i h1
      rw [if_pos h1, if_pos h1]
      simp only [Bool.and_eq_true] at h1
      exact h1
    · cases h0
  · split
    · exact .inl rfl
    · exact .inr rfl
/-- Wrap, of a list. -/
theorem pwrp_case (n : Nd) (ns : List Nd) (hc : chk ns = 0) : ∃ L e, ((e = 0 ∧ L = wrapL n ns ∧ chk (wrapL n ns) = 0 ∧ opensB n = true ∧ right n = true) ∨ (¬ e = 0 ∧ L = [])) ∧ ∀ (A : Option Addr) (c : Nat) (w : World), Src w A c ns →
    Calls Try.prog 79 #[.agg (nc n), .slice A ns.length c] w fun e' w' => ∃ v, e' = .returned (.tuple #[v, .int .i64 e]) ∧ w'.ownsRow w.heap.size 54 19 v L.length (L.flatMap ncs) ∧ Below w.heap.size w w' := by
  cases hr : right n
  · refine ⟨[], 1, .inr ⟨by omega, rfl⟩, fun A c w hs => (wrap_r n A ns c w hr).mono ?_⟩
    rintro e w' ⟨rfl, hb⟩; exact ⟨_, rfl, World.ownsRow_nil _ _ _ _, hb⟩
  · cases ho : opensB n
    · refine ⟨[], 1, .inr ⟨by omega, rfl⟩, fun A c w hs => (wrap_o n A ns c w hr ho).mono ?_⟩
      rintro e w' ⟨rfl, hb⟩; exact ⟨_, rfl, World.ownsRow_nil _ _ _ _, hb⟩
    · by_cases h10 : n.kind = 10
      · refine ⟨[], 1, .inr ⟨by omega, rfl⟩, fun A c w hs => (wrap_d n A ns c w hr ho h10).mono ?_⟩
        rintro e w' ⟨rfl, hb⟩; exact ⟨_, rfl, World.ownsRow_nil _ _ _ _, hb⟩
      · by_cases hw : chk (wrapL n ns) = 0
        · refine ⟨wrapL n ns, 0, .inl ⟨rfl, rfl, hw, rfl, rfl⟩, fun A c w hs => (wrap_ok n A ns c w hs hr ho h10 hc hw).mono ?_⟩
          rintro e w' ⟨v, rfl, h, hb⟩; exact ⟨v, rfl, h, hb⟩
        · refine ⟨[], chk (wrapL n ns), .inr ⟨hw, rfl⟩, fun A c w hs => (wrap_w n A ns c w hs hr ho h10 hc hw).mono ?_⟩
          rintro e w' ⟨rfl, hb⟩; exact ⟨_, rfl, World.ownsRow_nil _ _ _ _, hb⟩
/-- A row that is packed. -/
def HpkG (ns : List Nd) (tw : Int) (ex : Bool) (R : List Nd × List Nd × Int × Int × Int) : Prop :=
  ∃ S O x a b c d p q r s h v W F, partD ns = (S, O) ∧ chk ns = 0 ∧ Msr S false x a b c d p q r s 0 h v 0 ∧ W = (if ex = true then tw else tw + x) ∧ dimB W = true ∧ F = Gl.fit a b c d p q r s (W - x) ∧ chk (wrapL (fitN (hN W h v) F) S) = 0 ∧
    R = (wrapL (fitN (hN W h v) F) S, O, (setV (fitN (hN W h v) F) a p ((S.length : Int) == 0) (W - x) (0, 0)).1, (setV (fitN (hN W h v) F) a p ((S.length : Int) == 0) (W - x) (0, 0)).2, 0)
def HpkN (R : List Nd × List Nd × Int × Int × Int) : Prop := R.1 = [] ∧ R.2.1 = [] ∧ R.2.2.1 = 0 ∧ R.2.2.2.1 = 0 ∧ ¬ R.2.2.2.2 = 0
theorem hpk1_case (ns : List Nd) (tw : Int) (ex : Bool) (hl : ns.length ≤ 9223372036854775806) : ∃ R, R.1.length ≤ 2002 ∧ R.2.1.length ≤ 2000 ∧ (HpkG ns tw ex R ∨ HpkN R) ∧
    ∀ (A : Option Addr) (k : Nat) (w : World), ns.length ≤ k → Seg w w.heap.size A (ns.flatMap ncs) → Calls Try.prog 20 #[.slice A ns.length k, .int .i64 tw, .bool ex] w (HOut R w) := by
  by_cases hc : chk ns = 0
  · cases ht : dimB tw
    · exact ⟨([], [], 0, 0, 11), by simp, by simp, .inr ⟨rfl, rfl, rfl, rfl, by simp⟩, fun A k w hk hs => hpack_far A ns k tw ex w hl hs hc ht⟩
    · obtain ⟨S, O, hS⟩ : ∃ S O, partD ns = (S, O) := ⟨_, _, rfl⟩
      have hlen := partD_len hc
      have hchk := partD_chk hc
      rw [hS] at hlen hchk
      obtain ⟨x, a, b, c, d, p, q, r, s, e1, h, v, e2, M, h20, hxN, hhE⟩ := msr_prog S false hchk.1
      obtain ⟨W, hW⟩ : ∃ W, W = if ex = true then tw else tw + x := ⟨_, rfl⟩
      obtain ⟨L, e3, hL, hP⟩ := pwrp_case (fitN (hN W h v) (Gl.fit a b c d p q r s (W - x))) S hchk.1
      have hm := fun A k w hk hs => hpack_main A ns S O L k tw ex w hc hk hs ht hS x a b c d p q r s e1 h v e2 e3 W M hW hP
      by_cases h1 : e1 = 0
      · by_cases h2 : e2 = 0
        · by_cases h3 : dimB W = true
          · rcases hL with ⟨h4, rfl, hcw, ho, hrt⟩ | ⟨h4, rfl⟩
            · subst h1 h2 h4
              refine ⟨_, ?_, ?_, .inl ⟨S, O, x, a, b, c, d, p, q, r, s, h, v, W, _, hS, hc, M, hW, h3, rfl, hcw, ?_⟩, hm⟩
              · unfold hpkR; rw [if_pos rfl, if_pos rfl, if_pos h3, if_pos rfl]; have := (chk_run hcw).1; show (wrapL _ _).length ≤ 2002; omega
              · unfold hpkR; rw [if_pos rfl, if_pos rfl, if_pos h3, if_pos rfl]; exact hlen.2
              · unfold hpkR; rw [if_pos rfl, if_pos rfl, if_pos h3, if_pos rfl]
            · have e : ∀ y z, hpkR e1 e2 (dimB W) e3 [] O y z = ([], [], 0, 0, e3) := by intro y z; unfold hpkR; rw [if_pos h1, if_pos h2, if_pos h3, if_neg h4]
              simp only [e] at hm
              exact ⟨_, by simp, by simp, .inr ⟨rfl, rfl, rfl, rfl, h4⟩, hm⟩
          · have e : ∀ y z, hpkR e1 e2 (dimB W) e3 L O y z = ([], [], 0, 0, 20) := by intro y z; unfold hpkR; rw [if_pos h1, if_pos h2, if_neg h3]
            simp only [e] at hm
            exact ⟨_, by simp, by simp, .inr ⟨rfl, rfl, rfl, rfl, by simp⟩, hm⟩
        · have e : ∀ y z, hpkR e1 e2 (dimB W) e3 L O y z = ([], [], 0, 0, e2) := by intro y z; unfold hpkR; rw [if_pos h1, if_neg h2]
          simp only [e] at hm
          exact ⟨_, by simp, by simp, .inr ⟨rfl, rfl, rfl, rfl, h2⟩, hm⟩
      · have e : ∀ y z, hpkR e1 e2 (dimB W) e3 L O y z = ([], [], 0, 0, e1) := by intro y z; unfold hpkR; rw [if_neg h1]
        simp only [e] at hm
        exact ⟨_, by simp, by simp, .inr ⟨rfl, rfl, rfl, rfl, h1⟩, hm⟩
  · exact ⟨([], [], 0, 0, chk ns), by simp, by simp, .inr ⟨rfl, rfl, rfl, rfl, hc⟩, fun A k w hk hs => hpack_err A ns k tw ex w hl hs hc⟩
end Go.Proofs.Ytoboecenlangmaa.Pk
end
section
namespace Go.Proofs.Ytoboecenlangmaa.Pk
open Np
set_option linter.unusedVariables false

/-- A Skip's glue. -/
def gOf (n : Nd) : Gl.G := ⟨n.gn, n.gs, n.gh, n.ga, n.gb⟩
/-- One item more: its glue, if it is a Skip. -/
def skstep (ns : List Nd) (s : List Gl.G) (a : Nat) : List Gl.G := match ns[a]? with
  | some x => if x.kind = 7 then s ++ [gOf x] else s
  | none => s
def skF (ns : List Nd) (xs : List Nat) (s : List Gl.G) : List Gl.G := xs.foldl (skstep ns) s
theorem skF_cons (ns : List Nd) (a : Nat) (xs : List Nat) (s : List Gl.G) : skF ns (a :: xs) s = skF ns xs (skstep ns s a) := rfl
theorem skstep_yes {ns : List Nd} {s : List Gl.G} {a : Nat} {x : Nd} (hx : ns[a]? = some x) (hk : x.kind = 7) : skstep ns s a = s ++ [gOf x] := by
  unfold skstep; rw [hx]; simp only; rw [if_pos hk]
theorem skstep_no {ns : List Nd} {s : List Gl.G} {a : Nat} {x : Nd} (hx : ns[a]? = some x) (hk : ¬ x.kind = 7) : skstep ns s a = s := by
  unfold skstep; rw [hx]; simp only; rw [if_neg hk]
theorem skF_acc (ns : List Nd) : ∀ (xs : List Nat) (s : List Gl.G), skF ns xs s = s ++ skF ns xs []
  | [], s => by simp [skF]
  | a :: xs, s => by
    rw [skF_cons, skF_cons, skF_acc ns xs (skstep ns s a), skF_acc ns xs (skstep ns [] a)]
    unfold skstep
    split
    · split
      · simp
      · simp
    · simp
theorem skF_len (ns : List Nd) : ∀ (xs : List Nat) (s : List Gl.G), (skF ns xs s).length ≤ s.length + xs.length
  | [], s => by simp [skF]
  | a :: xs, s => by
    rw [skF_cons]
    have h := skF_len ns xs (skstep ns s a)
    have h2 : (skstep ns s a).length ≤ s.length + 1 := by
      unfold skstep
      split
      · split
        · simp
        · omega
      · omega
    simp only [List.length_cons]
    omega
/-- How far a walk over the items has come: where the next one stands, the sizes that are left, the places so far. -/
structure Plc where
  x : Int
  sz : List Int
  out : List Int
def plstep (ns : List Nd) (f : Nat → Int) (s : Plc) (a : Nat) : Plc := match ns[a]? with
  | some n => if n.kind = 7 then ⟨s.x + s.sz.headD 0, s.sz.tail, s.out ++ [s.x]⟩ else ⟨s.x + f a, s.sz, s.out ++ [s.x]⟩
  | none => s
def plF (ns : List Nd) (f : Nat → Int) (xs : List Nat) (s : Plc) : Plc := xs.foldl (plstep ns f) s
theorem plF_cons (ns : List Nd) (f : Nat → Int) (a : Nat) (xs : List Nat) (s : Plc) : plF ns f (a :: xs) s = plF ns f xs (plstep ns f s a) := rfl
theorem plstep_yes {ns : List Nd} {f : Nat → Int} {s : Plc} {a : Nat} {x : Nd} (hx : ns[a]? = some x) (hk : x.kind = 7) : plstep ns f s a = ⟨s.x + s.sz.headD 0, s.sz.tail, s.out ++ [s.x]⟩ := by
  unfold plstep; rw [hx]; simp only; rw [if_pos hk]
theorem plstep_no {ns : List Nd} {f : Nat → Int} {s : Plc} {a : Nat} {x : Nd} (hx : ns[a]? = some x) (hk : ¬ x.kind = 7) : plstep ns f s a = ⟨s.x + f a, s.sz, s.out ++ [s.x]⟩ := by
  unfold plstep; rw [hx]; simp only; rw [if_neg hk]
/-- What holds ahead of the items ys, k of them behind: as many sizes are left as Skips come; nothing is too far. -/
structure PlIn (ns : List Nd) (f : Nat → Int) (s : Plc) (ys : List Nat) (k : Nat) : Prop where
  left : s.sz.length = (skF ns ys []).length
  bd : ∀ z ∈ s.sz, -281474976710656 ≤ z ∧ z ≤ 281474976710656
  x : -((k : Int) * 281474976710656) ≤ s.x ∧ s.x ≤ (k : Int) * 281474976710656
  out : s.out.length = k
theorem PlIn.skip {ns : List Nd} {f : Nat → Int} {s : Plc} {a : Nat} {ys : List Nat} {k : Nat} {x : Nd} (h : PlIn ns f s (a :: ys) k) (hx : ns[a]? = some x) (hk : x.kind = 7) :
    ∃ z r, s.sz = z :: r ∧ (-281474976710656 ≤ z ∧ z ≤ 281474976710656) ∧ plstep ns f s a = ⟨s.x + z, r, s.out ++ [s.x]⟩ ∧ PlIn ns f (plstep ns f s a) ys (k + 1) := by
  obtain ⟨h1, h2, h3, h4⟩ := h
  rw [skF_cons, skstep_yes hx hk, skF_acc] at h1
  simp only [List.nil_append, List.length_append, List.length_cons, List.length_nil] at h1
  cases hs : s.sz with
  | nil => rw [hs] at h1; simp at h1; omega
  | cons z r =>
    have hz := h2 z (by rw [hs]; simp)
    have e : plstep ns f s a = ⟨s.x + z, r, s.out ++ [s.x]⟩ := by rw [plstep_yes hx hk, hs]; rfl
    refine ⟨z, r, rfl, hz, e, ?_⟩
    rw [e]
    refine ⟨?_, fun y hy => h2 y (by rw [hs]; simp [hy]), ?_, by simp [h4]⟩
    · rw [hs] at h1; simp at h1; simp only; omega
    · simp only; push_cast; omega
theorem PlIn.other {ns : List Nd} {f : Nat → Int} {s : Plc} {a : Nat} {ys : List Nat} {k : Nat} {x : Nd} (h : PlIn ns f s (a :: ys) k) (hx : ns[a]? = some x) (hk : ¬ x.kind = 7) (hf : -281474976710656 ≤ f a ∧ f a ≤ 281474976710656) :
    plstep ns f s a = ⟨s.x + f a, s.sz, s.out ++ [s.x]⟩ ∧ PlIn ns f (plstep ns f s a) ys (k + 1) := by
  obtain ⟨h1, h2, h3, h4⟩ := h
  rw [skF_cons, skstep_no hx hk] at h1
  have e := plstep_no (f := f) (s := s) hx hk
  refine ⟨e, ?_⟩
  rw [e]
  exact ⟨h1, h2, by simp only; push_cast; omega, by simp [h4]⟩
theorem plF_out (ns : List Nd) (f : Nat → Int) : ∀ (ys : List Nat) (s : Plc), (plF ns f ys s).out.length ≤ s.out.length + ys.length
  | [], s => by simp [plF]
  | a :: ys, s => by
    rw [plF_cons]
    have h := plF_out ns f ys (plstep ns f s a)
    have h2 : (plstep ns f s a).out.length ≤ s.out.length + 1 := by
      unfold plstep
      split
      · split <;> simp
      · omega
    simp only [List.length_cons]
    omega
end Go.Proofs.Ytoboecenlangmaa.Pk
namespace Go.Proofs.Ytoboecenlangmaa.Gl
/-- Each size is within bounds. -/
theorem step_szb {sign order N D : Int} {z z' : Sz} {g : G} {k : Nat} (h : z.In k) (hb : ∀ y ∈ z.o, -281474976710656 ≤ y ∧ y ≤ 281474976710656) (hg : g.ok = true) (hs : step sign order N D z g = some z') : ∀ y ∈ z'.o, -281474976710656 ≤ y ∧ y ≤ 281474976710656 := by
  obtain ⟨h1, h2, h3, h4⟩ := h
  obtain ⟨⟨m0, m1⟩, ⟨s0, s1⟩, ⟨t0, t1⟩, _, _⟩ := glueB_iff.1 hg
  unfold step at hs
  split at hs
  · split at hs
    · simp only [Option.some.injEq] at hs
      subst hs
      intro y hy
      have hp := psV_bd (z.S + g.s) N D
      rcases List.mem_append.1 hy with hy | hy
      · exact hb y hy
      · simp only [List.mem_singleton] at hy
        subst hy
        omega
    · cases hs
  · split at hs
    · split at hs
      · simp only [Option.some.injEq] at hs
        subst hs
        intro y hy
        have hp := psV_bd (z.S + g.h) N D
        rcases List.mem_append.1 hy with hy | hy
        · exact hb y hy
        · simp only [List.mem_singleton] at hy
          subst hy
          omega
      · cases hs
    · simp only [Option.some.injEq] at hs
      subst hs
      intro y hy
      rcases List.mem_append.1 hy with hy | hy
      · exact hb y hy
      · simp only [List.mem_singleton] at hy
        subst hy
        omega
theorem szrun_in {sign order N D : Int} {l : List G} (hl : l.all G.ok = true) : ∀ (k : Nat), k ≤ l.length → ∀ z, run sign order N D (l.take k) = some z → z.In k ∧ ∀ y ∈ z.o, -281474976710656 ≤ y ∧ y ≤ 281474976710656
  | 0, _, z, h => by
    simp only [List.take_zero, run_nil, Option.some.injEq] at h
    subst h
    exact ⟨Sz.In.zero, by simp⟩
  | k + 1, hk, z, h => by
    obtain ⟨g, hg⟩ : ∃ g, l[k]? = some g := ⟨_, List.getElem?_eq_getElem (by omega)⟩
    have hgo : g.ok = true := List.all_eq_true.1 hl g (List.mem_of_getElem? hg)
    cases hr : run sign order N D (l.take k) with
    | none =>
      have h2 := h
      unfold run at h2 hr
      rw [List.take_add_one, hg, List.foldl_append, hr] at h2
      cases h2
    | some z0 =>
      obtain ⟨h1, h2⟩ := szrun_in hl k (by omega) z0 hr
      have h3 := run_snoc hg hr
      rw [h] at h3
      exact ⟨step_in h1 hgo h3.symm, step_szb h1 h2 hgo h3.symm⟩
/-- The sizes of a row that is set: one each, none too great. -/
theorem szL_in {l : List G} {sign order N D : Int} (h : szE l sign order N D = 0) : (szL l sign order N D).length = l.length ∧ ∀ y ∈ szL l sign order N D, -281474976710656 ≤ y ∧ y ≤ 281474976710656 := by
  obtain ⟨h1, h2, h3, z, hz⟩ := szE_zero h
  have hl := (rowE_zero h1).2
  have h4 := szrun_in hl l.length (Nat.le_refl _) z (by rw [List.take_length]; exact hz)
  rw [(szE_some h1 h2 h3 hz).2]
  exact ⟨h4.1.2.2.2, h4.2⟩
end Go.Proofs.Ytoboecenlangmaa.Gl
end
section
namespace Go.Proofs.Ytoboecenlangmaa.No
open Go.ChangeShapes Go.WideShapes Go.ChangeAt Go.RowKit
open Me Np
set_option linter.unusedVariables false
set_option linter.unusedSimpArgs false

theorem innerL_len (ns : List Nd) (a m : Nat) : (innerL ns a m).length ≤ ns.length := by
  unfold innerL
  simp only [List.length_take, List.length_drop]
  omega
theorem begB_at {ns : List Nd} {a : Int} (h : begB ns a = true) : ∃ (k : Nat) (x : Nd), a = (k : Int) ∧ ns[k]? = some x ∧ ¬ x.kind = 6 ∧ ¬ x.kind = 11 := by
  unfold begB at h
  simp only [Bool.and_eq_true, decide_eq_true_eq] at h
  obtain ⟨h0, h1⟩ := h
  split at h1
  · cases h1
  · rename_i x hx
    simp only [Bool.and_eq_true, bne_iff_ne, ne_eq] at h1
    exact ⟨a.toNat, x, by omega, hx, h1.1, h1.2⟩
theorem parts_err (A : Option Addr) (ns : List Nd) (c : Nat) (a : Int) (w : World) (hl : ns.length ≤ 9223372036854775806) (hseg : Seg w w.heap.size A (ns.flatMap ncs)) (hc : ¬ chk ns = 0) :
    Calls Try.prog 84 #[.slice A ns.length c, .int .i64 a] w fun e w' => e = .returned (.tuple #[.slice none 0 0, .slice none 0 0, .slice none 0 0, .int .i64 (chk ns)]) ∧ Below w.heap.size w w' := by
  have e0 : (chk ns != 0) = true := by simp [hc]
  have HC := Lib.hid (check_any A ns c w (by omega) hseg)
  have HX := Lib.hid hc
  clear hseg hc
  generalize chk ns = v at *
  generalize ns.length = len at *
  go_enter Try.func84, Try.ntmps84
  go_wp2_with fail
  refine HC.out.mono ?_
  rintro e w1 ⟨rfl, hb1⟩
  go_wp2_with fail
  go_returns
  exact ⟨rfl, hb1⟩
theorem parts_none (A : Option Addr) (ns : List Nd) (c : Nat) (a : Int) (w : World) (hl : ns.length ≤ 9223372036854775806) (hseg : Seg w w.heap.size A (ns.flatMap ncs)) (hc : chk ns = 0) (hb : begB ns a = false) :
    Calls Try.prog 84 #[.slice A ns.length c, .int .i64 a] w fun e w' => e = .returned (.tuple #[.slice none 0 0, .slice none 0 0, .slice none 0 0, .int .i64 3]) ∧ Below w.heap.size w w' := by
  have HC := Lib.hid (check_any A ns c w (by omega) hseg)
  have HB := Lib.hid hb
  have HE := Lib.hid hc
  have HBG := Lib.hid fun w1 (h : Below w.heap.size w w1) => begins_any A ns c a w1 (by omega) (Seg.belowW hseg h)
  clear hseg hc hb
  rw [HE.out] at HC
  rw [HB.out] at HBG
  generalize ns.length = len at *
  go_enter Try.func84, Try.ntmps84
  go_wp2_with fail
  refine HC.out.mono ?_
  rintro e w1 ⟨rfl, hb1⟩
  go_wp2_with fail
  refine (HBG.out w1 hb1).mono ?_
  rintro e w' ⟨rfl, rfl⟩
  go_wp2_with fail
  go_returns
  exact ⟨rfl, hb1⟩
theorem parts_other (A : Option Addr) (ns : List Nd) (c : Nat) (a : Nat) (x : Nd) (w : World) (hl : ns.length ≤ 9223372036854775806) (hseg : Seg w w.heap.size A (ns.flatMap ncs)) (hc : chk ns = 0) (hb : begB ns a = true) (hx : ns[a]? = some x) (h10 : ¬ x.kind = 10) :
    Calls Try.prog 84 #[.slice A ns.length c, .int .i64 (a : Int)] w fun e w' => e = .returned (.tuple #[.slice none 0 0, .slice none 0 0, .slice none 0 0, .int .i64 3]) ∧ Below w.heap.size w w' := by
  have HC := Lib.hid (check_any A ns c w (by omega) hseg)
  have HB := Lib.hid hb
  have HE := Lib.hid hc
  have HBG := Lib.hid fun w1 (h : Below w.heap.size w w1) => begins_any A ns c a w1 (by omega) (Seg.belowW hseg h)
  obtain ⟨b, off, rfl, hb', hnode⟩ := seg_node hseg hx
  have hal : a < ns.length := (List.getElem?_eq_some_iff.1 hx).1
  have HN := Lib.hid hnode
  have e10 : (x.kind != 10) = true := by simp [h10]
  clear hseg hc hb hx hnode
  rw [HE.out] at HC
  rw [HB.out] at HBG
  generalize ns.length = len at *
  go_enter Try.func84, Try.ntmps84
  go_wp2_with fail
  refine HC.out.mono ?_
  rintro e w1 ⟨rfl, hb1⟩
  have hc0 : w1.cell? ⟨b, off + a * 19, none⟩ = some (.int .i64 x.kind) := HN.out.below hb1 hb' 0 _ rfl
  go_wp2_with (first
    | (go_at_call 52; refine (HBG.out w1 hb1).mono ?_; rintro e w' ⟨rfl, rfl⟩))
  go_returns
  exact ⟨rfl, hb1⟩
set_option maxHeartbeats 1000000 in
set_option maxRecDepth 100000 in
theorem parts_ok (A : Option Addr) (ns : List Nd) (c : Nat) (a m : Nat) (x : Nd) (ss : List Nat) (w : World) (hcap : ns.length ≤ c) (hseg : Seg w w.heap.size A (ns.flatMap ncs)) (hc : chk ns = 0) (hb : begB ns a = true) (hx : ns[a]? = some x) (h10 : x.kind = 10) (hm : endc (ns.drop a) 0 = some m) (hd : D3 ss (ns.drop (a + 1)) 0 (m - 2)) (hm2 : 2 ≤ m) :
    Calls Try.prog 84 #[.slice A ns.length c, .int .i64 (a : Int)] w fun e w' => ∃ vs, e = .returned (.tuple #[vs 0, vs 1, vs 2, .int .i64 0]) ∧ Own3 w' w.heap.size vs (thr ss (ns.drop (a + 1)) 0) ∧ Below w.heap.size w w' := by
  have hl := (chk_run hc).1
  have HT := Lib.hid fun w1 (h : Below w.heap.size w w1) => three_any A ns c a m ss x w1 hc hcap (Seg.belowW hseg h) hx hm hd hm2
  have HC := Lib.hid (check_any A ns c w (by omega) hseg)
  have HB := Lib.hid hb
  have HE := Lib.hid hc
  have HBG := Lib.hid fun w1 (h : Below w.heap.size w w1) => begins_any A ns c a w1 (by omega) (Seg.belowW hseg h)
  obtain ⟨b, off, rfl, hb', hnode⟩ := seg_node hseg hx
  have hal : a < ns.length := (List.getElem?_eq_some_iff.1 hx).1
  have HN := Lib.hid hnode
  have e10 : (x.kind != 10) = false := by simp [h10]
  clear hseg hc hb hx hnode hm hd
  rw [HE.out] at HC
  rw [HB.out] at HBG
  generalize thr ss (ns.drop (a + 1)) 0 = F at HT ⊢
  generalize ns.length = len at *
  go_enter Try.func84, Try.ntmps84
  go_wp2_with fail
  refine HC.out.mono ?_
  rintro e w1 ⟨rfl, hb1⟩
  have hc0 : w1.cell? ⟨b, off + a * 19, none⟩ = some (.int .i64 x.kind) := HN.out.below hb1 hb' 0 _ rfl
  go_wp2_with (first
    | (go_at_call 52; refine (HBG.out w1 hb1).mono ?_; rintro e w' ⟨rfl, rfl⟩))
  refine (HT.out _ hb1).mono ?_
  rintro e w2 ⟨vs, rfl, ho, hb2⟩
  have HO := Lib.hid ho
  have HB2 := Lib.hid (andThen hb1 hb2)
  obtain ⟨A0, c0, h0⟩ := own_slice (ho.own 0 (by omega))
  obtain ⟨A1, c1, h1⟩ := own_slice (ho.own 1 (by omega))
  obtain ⟨A2, c2, h2⟩ := own_slice (ho.own 2 (by omega))
  have htc : tc3 vs = #[.slice A0 (F 0).length c0, .slice A1 (F 1).length c1, .slice A2 (F 2).length c2] := by unfold tc3; rw [h0, h1, h2]
  have HH := Lib.hid (And.intro h0 (And.intro h1 h2))
  have h31 := tc3_one vs ho
  have hsz3 : (Try.prog.info? 110).map (·.size) = some (tc3 vs).size := by rw [tc3_size]; exact three_info
  rw [htc] at h31 hsz3 ⊢
  have H31 := Lib.hid (And.intro h31 hsz3)
  clear ho hb2 HC HT HBG h0 h1 h2 htc h31 hsz3
  generalize (F 0).length = l0 at *
  generalize (F 1).length = l1 at *
  generalize (F 2).length = l2 at *
  go_wp2_with (first
    | (refine wpList_store_row (o := ⟨none, .store _ (.tmp 9) (.tmp 31), _, _, _, _⟩) rfl 110 _ _ rfl w2.heap.size #[.slice A0 l0 c0, .slice A1 l1 c1, .slice A2 l2 c2] rfl rfl 110 (tc3 fun _ => .slice none 0 0) (Blk.new' rfl) H31.out.2 rfl H31.out.1 ?_))
  go_simp
  have B3 : Blk (w2.alloc (.cells #[.slice A0 l0 c0, .slice A1 l1 c1, .slice A2 l2 c2] 110)) w2.heap.size 110 #[.slice A0 l0 c0, .slice A1 l1 c1, .slice A2 l2 c2] := Blk.new' rfl
  have HO3 := Lib.hid (HO.out.below (andAlloc (Below.refl _ _) (.cells #[.slice A0 l0 c0, .slice A1 l1 c1, .slice A2 l2 c2] 110)))
  have HB3 := Lib.hid (andAlloc HB2.out (.cells #[.slice A0 l0 c0, .slice A1 l1 c1, .slice A2 l2 c2] 110))
  have HS1 := Lib.hid hb1.size
  generalize w2.alloc (.cells #[.slice A0 l0 c0, .slice A1 l1 c1, .slice A2 l2 c2] 110) = w3 at B3 HO3 HB3 ⊢
  generalize w2.heap.size = g3 at *
  have hd0 : w3.cell? ⟨g3, 0, none⟩ = some (.slice A0 l0 c0) := B3.cell 0
  have hd1 : w3.cell? ⟨g3, 1, none⟩ = some (.slice A1 l1 c1) := B3.cell 1
  have hd2 : w3.cell? ⟨g3, 2, none⟩ = some (.slice A2 l2 c2) := B3.cell 2
  clear B3 HB2 HO hb1 hc0
  go_region
  all_goals
    go_wp2_with fail
    go_returns
    exact ⟨vs, by rw [HH.out.1, HH.out.2.1, HH.out.2.2], ⟨fun j hj => own_base ((HO3.out.below (below_drewN (Below.refl _ _) 1)).own j hj) HS1.out, HO3.out.dist⟩, below_drewN HB3.out 1⟩
end Go.Proofs.Ytoboecenlangmaa.No
end
section
namespace Go.Proofs.Ytoboecenlangmaa.Pk
open Go.ChangeShapes Go.WideShapes Go.ChangeAt Go.RowKit
open Me Np No
set_option linter.unusedVariables false
set_option linter.unusedSimpArgs false

/-- How long a node is that is neither a Disc nor a Skip. -/
def szP (n : Nd) (down : Bool) : Int := if n.kind = 7 then 0 else alongP n down

theorem size_kern_true (A : Option Addr) (ns : List Nd) (c k : Nat) (n : Nd) (w : World) (hl : ns.length ≤ 9223372036854775806) (hseg : Seg w w.heap.size A (ns.flatMap ncs)) (hk : ns[k]? = some n) (hn : n.kind = 8) :
    Calls Try.prog 51 #[.slice A ns.length c, .int .i64 (k : Int), .bool true] w fun e w' => e = .returned (.int .i64 (szP n true)) ∧ Below w.heap.size w w' := by
  obtain ⟨b, off, rfl, hb, hnode⟩ := seg_node hseg hk
  have hkl : k < ns.length := (List.getElem?_eq_some_iff.1 hk).1
  clear hseg hk
  have hv : szP n true = n.wd := by simp [szP, alongP, hn]
  have HV := Lib.hid hv
  clear hv
  generalize ns.length = len at *
  go_enter Try.func51, Try.ntmps51
  go_wp2_with (first | (refine wpList_load_node rfl _ rfl _ _ rfl _ (by repeat (first | apply NodeAt.row | (apply Blk.new'; first | rfl | (simp; done)) | (apply Blk.node; apply Blk.new'; first | rfl | (simp; done)) | assumption | apply NodeAt.alloc)) ?_) | (refine wpList_alloc_node rfl rfl ?_) | (refine wpList_store_node rfl _ _ rfl _ _ _ rfl rfl _ (by repeat (first | (apply Blk.new'; first | rfl | (simp; done)) | assumption | apply Blk.alloc)) ?_))
  (go_ret; exact ⟨ret_int (by rw [HV.out]), (by repeat (first | exact Below.refl _ _ | (refine below_setRow ?_ _ _ ?_; rotate_left; focus (simp; done)) | refine andAlloc ?_ _))⟩)

theorem size_b3_true (A : Option Addr) (ns : List Nd) (c k : Nat) (n : Nd) (w : World) (hl : ns.length ≤ 9223372036854775806) (hseg : Seg w w.heap.size A (ns.flatMap ncs)) (hk : ns[k]? = some n) (hn : n.kind = 3) (hr : right n = true) :
    Calls Try.prog 51 #[.slice A ns.length c, .int .i64 (k : Int), .bool true] w fun e w' => e = .returned (.int .i64 (szP n true)) ∧ Below w.heap.size w w' := by
  obtain ⟨b, off, rfl, hb, hnode⟩ := seg_node hseg hk
  have hkl : k < ns.length := (List.getElem?_eq_some_iff.1 hk).1
  clear hseg hk
  have hd := right_hd hr (by omega)
  unfold dm at hd
  obtain ⟨⟨d0, d1⟩, d2, d3⟩ := hd
  clear hr
  have hv : szP n true = n.ht + n.dp := by simp [szP, alongP, hn]
  have HV := Lib.hid hv
  clear hv
  generalize ns.length = len at *
  go_enter Try.func51, Try.ntmps51
  go_wp2_with (first | (refine wpList_load_node rfl _ rfl _ _ rfl _ (by repeat (first | apply NodeAt.row | (apply Blk.new'; first | rfl | (simp; done)) | (apply Blk.node; apply Blk.new'; first | rfl | (simp; done)) | assumption | apply NodeAt.alloc)) ?_) | (refine wpList_alloc_node rfl rfl ?_) | (refine wpList_store_node rfl _ _ rfl _ _ _ rfl rfl _ (by repeat (first | (apply Blk.new'; first | rfl | (simp; done)) | assumption | apply Blk.alloc)) ?_))
  (go_ret; exact ⟨ret_int (by rw [HV.out]), (by repeat (first | exact Below.refl _ _ | (refine below_setRow ?_ _ _ ?_; rotate_left; focus (simp; done)) | refine andAlloc ?_ _))⟩)

theorem size_b4_true (A : Option Addr) (ns : List Nd) (c k : Nat) (n : Nd) (w : World) (hl : ns.length ≤ 9223372036854775806) (hseg : Seg w w.heap.size A (ns.flatMap ncs)) (hk : ns[k]? = some n) (hn : n.kind = 4) (hr : right n = true) :
    Calls Try.prog 51 #[.slice A ns.length c, .int .i64 (k : Int), .bool true] w fun e w' => e = .returned (.int .i64 (szP n true)) ∧ Below w.heap.size w w' := by
  obtain ⟨b, off, rfl, hb, hnode⟩ := seg_node hseg hk
  have hkl : k < ns.length := (List.getElem?_eq_some_iff.1 hk).1
  clear hseg hk
  have hd := right_hd hr (by omega)
  unfold dm at hd
  obtain ⟨⟨d0, d1⟩, d2, d3⟩ := hd
  clear hr
  have hv : szP n true = n.ht + n.dp := by simp [szP, alongP, hn]
  have HV := Lib.hid hv
  clear hv
  generalize ns.length = len at *
  go_enter Try.func51, Try.ntmps51
  go_wp2_with (first | (refine wpList_load_node rfl _ rfl _ _ rfl _ (by repeat (first | apply NodeAt.row | (apply Blk.new'; first | rfl | (simp; done)) | (apply Blk.node; apply Blk.new'; first | rfl | (simp; done)) | assumption | apply NodeAt.alloc)) ?_) | (refine wpList_alloc_node rfl rfl ?_) | (refine wpList_store_node rfl _ _ rfl _ _ _ rfl rfl _ (by repeat (first | (apply Blk.new'; first | rfl | (simp; done)) | assumption | apply Blk.alloc)) ?_))
  (go_ret; exact ⟨ret_int (by rw [HV.out]), (by repeat (first | exact Below.refl _ _ | (refine below_setRow ?_ _ _ ?_; rotate_left; focus (simp; done)) | refine andAlloc ?_ _))⟩)

theorem size_b5_true (A : Option Addr) (ns : List Nd) (c k : Nat) (n : Nd) (w : World) (hl : ns.length ≤ 9223372036854775806) (hseg : Seg w w.heap.size A (ns.flatMap ncs)) (hk : ns[k]? = some n) (hn : n.kind = 5) (hr : right n = true) :
    Calls Try.prog 51 #[.slice A ns.length c, .int .i64 (k : Int), .bool true] w fun e w' => e = .returned (.int .i64 (szP n true)) ∧ Below w.heap.size w w' := by
  obtain ⟨b, off, rfl, hb, hnode⟩ := seg_node hseg hk
  have hkl : k < ns.length := (List.getElem?_eq_some_iff.1 hk).1
  clear hseg hk
  have hd := right_hd hr (by omega)
  unfold dm at hd
  obtain ⟨⟨d0, d1⟩, d2, d3⟩ := hd
  clear hr
  have hv : szP n true = n.ht + n.dp := by simp [szP, alongP, hn]
  have HV := Lib.hid hv
  clear hv
  generalize ns.length = len at *
  go_enter Try.func51, Try.ntmps51
  go_wp2_with (first | (refine wpList_load_node rfl _ rfl _ _ rfl _ (by repeat (first | apply NodeAt.row | (apply Blk.new'; first | rfl | (simp; done)) | (apply Blk.node; apply Blk.new'; first | rfl | (simp; done)) | assumption | apply NodeAt.alloc)) ?_) | (refine wpList_alloc_node rfl rfl ?_) | (refine wpList_store_node rfl _ _ rfl _ _ _ rfl rfl _ (by repeat (first | (apply Blk.new'; first | rfl | (simp; done)) | assumption | apply Blk.alloc)) ?_))
  (go_ret; exact ⟨ret_int (by rw [HV.out]), (by repeat (first | exact Below.refl _ _ | (refine below_setRow ?_ _ _ ?_; rotate_left; focus (simp; done)) | refine andAlloc ?_ _))⟩)

theorem size_b1_true (A : Option Addr) (ns : List Nd) (c k : Nat) (n : Nd) (w : World) (hl : ns.length ≤ 9223372036854775806) (hseg : Seg w w.heap.size A (ns.flatMap ncs)) (hk : ns[k]? = some n) (hn : n.kind = 1) :
    Calls Try.prog 51 #[.slice A ns.length c, .int .i64 (k : Int), .bool true] w fun e w' => e = .returned (.int .i64 (szP n true)) ∧ Below w.heap.size w w' := by
  obtain ⟨b, off, rfl, hb, hnode⟩ := seg_node hseg hk
  have hkl : k < ns.length := (List.getElem?_eq_some_iff.1 hk).1
  clear hseg hk
  have hv : szP n true = 0 := by simp [szP, alongP, hn]
  have HV := Lib.hid hv
  clear hv
  generalize ns.length = len at *
  go_enter Try.func51, Try.ntmps51
  go_wp2_with (first | (refine wpList_load_node rfl _ rfl _ _ rfl _ (by repeat (first | apply NodeAt.row | (apply Blk.new'; first | rfl | (simp; done)) | (apply Blk.node; apply Blk.new'; first | rfl | (simp; done)) | assumption | apply NodeAt.alloc)) ?_) | (refine wpList_alloc_node rfl rfl ?_) | (refine wpList_store_node rfl _ _ rfl _ _ _ rfl rfl _ (by repeat (first | (apply Blk.new'; first | rfl | (simp; done)) | assumption | apply Blk.alloc)) ?_))
  (go_ret; exact ⟨ret_int (by rw [HV.out]), (by repeat (first | exact Below.refl _ _ | (refine below_setRow ?_ _ _ ?_; rotate_left; focus (simp; done)) | refine andAlloc ?_ _))⟩)

theorem size_b2_true (A : Option Addr) (ns : List Nd) (c k : Nat) (n : Nd) (w : World) (hl : ns.length ≤ 9223372036854775806) (hseg : Seg w w.heap.size A (ns.flatMap ncs)) (hk : ns[k]? = some n) (hn : n.kind = 2) :
    Calls Try.prog 51 #[.slice A ns.length c, .int .i64 (k : Int), .bool true] w fun e w' => e = .returned (.int .i64 (szP n true)) ∧ Below w.heap.size w w' := by
  obtain ⟨b, off, rfl, hb, hnode⟩ := seg_node hseg hk
  have hkl : k < ns.length := (List.getElem?_eq_some_iff.1 hk).1
  clear hseg hk
  have hv : szP n true = 0 := by simp [szP, alongP, hn]
  have HV := Lib.hid hv
  clear hv
  generalize ns.length = len at *
  go_enter Try.func51, Try.ntmps51
  go_wp2_with (first | (refine wpList_load_node rfl _ rfl _ _ rfl _ (by repeat (first | apply NodeAt.row | (apply Blk.new'; first | rfl | (simp; done)) | (apply Blk.node; apply Blk.new'; first | rfl | (simp; done)) | assumption | apply NodeAt.alloc)) ?_) | (refine wpList_alloc_node rfl rfl ?_) | (refine wpList_store_node rfl _ _ rfl _ _ _ rfl rfl _ (by repeat (first | (apply Blk.new'; first | rfl | (simp; done)) | assumption | apply Blk.alloc)) ?_))
  (go_ret; exact ⟨ret_int (by rw [HV.out]), (by repeat (first | exact Below.refl _ _ | (refine below_setRow ?_ _ _ ?_; rotate_left; focus (simp; done)) | refine andAlloc ?_ _))⟩)

theorem size_b15_true (A : Option Addr) (ns : List Nd) (c k : Nat) (n : Nd) (w : World) (hl : ns.length ≤ 9223372036854775806) (hseg : Seg w w.heap.size A (ns.flatMap ncs)) (hk : ns[k]? = some n) (hn : n.kind = 15) :
    Calls Try.prog 51 #[.slice A ns.length c, .int .i64 (k : Int), .bool true] w fun e w' => e = .returned (.int .i64 (szP n true)) ∧ Below w.heap.size w w' := by
  obtain ⟨b, off, rfl, hb, hnode⟩ := seg_node hseg hk
  have hkl : k < ns.length := (List.getElem?_eq_some_iff.1 hk).1
  clear hseg hk
  have hv : szP n true = 0 := by simp [szP, alongP, hn]
  have HV := Lib.hid hv
  clear hv
  generalize ns.length = len at *
  go_enter Try.func51, Try.ntmps51
  go_wp2_with (first | (refine wpList_load_node rfl _ rfl _ _ rfl _ (by repeat (first | apply NodeAt.row | (apply Blk.new'; first | rfl | (simp; done)) | (apply Blk.node; apply Blk.new'; first | rfl | (simp; done)) | assumption | apply NodeAt.alloc)) ?_) | (refine wpList_alloc_node rfl rfl ?_) | (refine wpList_store_node rfl _ _ rfl _ _ _ rfl rfl _ (by repeat (first | (apply Blk.new'; first | rfl | (simp; done)) | assumption | apply Blk.alloc)) ?_))
  (go_ret; exact ⟨ret_int (by rw [HV.out]), (by repeat (first | exact Below.refl _ _ | (refine below_setRow ?_ _ _ ?_; rotate_left; focus (simp; done)) | refine andAlloc ?_ _))⟩)

theorem size_b16_true (A : Option Addr) (ns : List Nd) (c k : Nat) (n : Nd) (w : World) (hl : ns.length ≤ 9223372036854775806) (hseg : Seg w w.heap.size A (ns.flatMap ncs)) (hk : ns[k]? = some n) (hn : n.kind = 16) :
    Calls Try.prog 51 #[.slice A ns.length c, .int .i64 (k : Int), .bool true] w fun e w' => e = .returned (.int .i64 (szP n true)) ∧ Below w.heap.size w w' := by
  obtain ⟨b, off, rfl, hb, hnode⟩ := seg_node hseg hk
  have hkl : k < ns.length := (List.getElem?_eq_some_iff.1 hk).1
  clear hseg hk
  have hv : szP n true = 0 := by simp [szP, alongP, hn]
  have HV := Lib.hid hv
  clear hv
  generalize ns.length = len at *
  go_enter Try.func51, Try.ntmps51
  go_wp2_with (first | (refine wpList_load_node rfl _ rfl _ _ rfl _ (by repeat (first | apply NodeAt.row | (apply Blk.new'; first | rfl | (simp; done)) | (apply Blk.node; apply Blk.new'; first | rfl | (simp; done)) | assumption | apply NodeAt.alloc)) ?_) | (refine wpList_alloc_node rfl rfl ?_) | (refine wpList_store_node rfl _ _ rfl _ _ _ rfl rfl _ (by repeat (first | (apply Blk.new'; first | rfl | (simp; done)) | assumption | apply Blk.alloc)) ?_))
  (go_ret; exact ⟨ret_int (by rw [HV.out]), (by repeat (first | exact Below.refl _ _ | (refine below_setRow ?_ _ _ ?_; rotate_left; focus (simp; done)) | refine andAlloc ?_ _))⟩)

theorem size_disc_true (A : Option Addr) (ns : List Nd) (c k : Nat) (n : Nd) (w : World) (hl : ns.length ≤ 9223372036854775806) (hseg : Seg w w.heap.size A (ns.flatMap ncs)) (hk : ns[k]? = some n) (hn : n.kind = 10) :
    Calls Try.prog 51 #[.slice A ns.length c, .int .i64 (k : Int), .bool true] w fun e w' => e = .returned (.int .i64 (szP n true)) ∧ Below w.heap.size w w' := by
  obtain ⟨b, off, rfl, hb, hnode⟩ := seg_node hseg hk
  have hkl : k < ns.length := (List.getElem?_eq_some_iff.1 hk).1
  clear hseg hk
  have hv : szP n true = 0 := by simp [szP, alongP, hn]
  have HV := Lib.hid hv
  clear hv
  generalize ns.length = len at *
  go_enter Try.func51, Try.ntmps51
  go_wp2_with (first | (refine wpList_load_node rfl _ rfl _ _ rfl _ (by repeat (first | apply NodeAt.row | (apply Blk.new'; first | rfl | (simp; done)) | (apply Blk.node; apply Blk.new'; first | rfl | (simp; done)) | assumption | apply NodeAt.alloc)) ?_) | (refine wpList_alloc_node rfl rfl ?_) | (refine wpList_store_node rfl _ _ rfl _ _ _ rfl rfl _ (by repeat (first | (apply Blk.new'; first | rfl | (simp; done)) | assumption | apply Blk.alloc)) ?_))
  (go_ret; exact ⟨ret_int (by rw [HV.out]), (by repeat (first | exact Below.refl _ _ | (refine below_setRow ?_ _ _ ?_; rotate_left; focus (simp; done)) | refine andAlloc ?_ _))⟩)

theorem size_other_true (A : Option Addr) (ns : List Nd) (c k : Nat) (n : Nd) (w : World) (hl : ns.length ≤ 9223372036854775806) (hseg : Seg w w.heap.size A (ns.flatMap ncs)) (hk : ns[k]? = some n) (h8 : ¬ n.kind = 8) (h3 : ¬ n.kind = 3) (h4 : ¬ n.kind = 4) (h5 : ¬ n.kind = 5) (h1 : ¬ n.kind = 1) (h2 : ¬ n.kind = 2) (h15 : ¬ n.kind = 15) (h16 : ¬ n.kind = 16) (h10 : ¬ n.kind = 10) :
    Calls Try.prog 51 #[.slice A ns.length c, .int .i64 (k : Int), .bool true] w fun e w' => e = .returned (.int .i64 (szP n true)) ∧ Below w.heap.size w w' := by
  obtain ⟨b, off, rfl, hb, hnode⟩ := seg_node hseg hk
  have hkl : k < ns.length := (List.getElem?_eq_some_iff.1 hk).1
  clear hseg hk
  have hv : szP n true = 0 := by
    unfold szP
    split
    · rfl
    · rename_i h7
      simp [alongP, h7, h8, h3, h4, h5, h1, h2, h15, h16]
  have HV := Lib.hid hv
  clear hv
  have e8 : (n.kind == 8) = false := by simp [h8]
  have e3 : (n.kind == 3) = false := by simp [h3]
  have e4 : (n.kind == 4) = false := by simp [h4]
  have e5 : (n.kind == 5) = false := by simp [h5]
  have e1 : (n.kind == 1) = false := by simp [h1]
  have e2 : (n.kind == 2) = false := by simp [h2]
  have e15 : (n.kind == 15) = false := by simp [h15]
  have e16 : (n.kind == 16) = false := by simp [h16]
  have e10 : (n.kind == 10) = false := by simp [h10]
  clear h8 h3 h4 h5 h1 h2 h15 h16 h10
  generalize ns.length = len at *
  go_enter Try.func51, Try.ntmps51
  go_wp2_with (first | (refine wpList_load_node rfl _ rfl _ _ rfl _ (by repeat (first | apply NodeAt.row | (apply Blk.new'; first | rfl | (simp; done)) | (apply Blk.node; apply Blk.new'; first | rfl | (simp; done)) | assumption | apply NodeAt.alloc)) ?_) | (refine wpList_alloc_node rfl rfl ?_) | (refine wpList_store_node rfl _ _ rfl _ _ _ rfl rfl _ (by repeat (first | (apply Blk.new'; first | rfl | (simp; done)) | assumption | apply Blk.alloc)) ?_))
  (go_ret; exact ⟨ret_int (by rw [HV.out]), (by repeat (first | exact Below.refl _ _ | (refine below_setRow ?_ _ _ ?_; rotate_left; focus (simp; done)) | refine andAlloc ?_ _))⟩)

theorem size_kern_false (A : Option Addr) (ns : List Nd) (c k : Nat) (n : Nd) (w : World) (hl : ns.length ≤ 9223372036854775806) (hseg : Seg w w.heap.size A (ns.flatMap ncs)) (hk : ns[k]? = some n) (hn : n.kind = 8) :
    Calls Try.prog 51 #[.slice A ns.length c, .int .i64 (k : Int), .bool false] w fun e w' => e = .returned (.int .i64 (szP n false)) ∧ Below w.heap.size w w' := by
  obtain ⟨b, off, rfl, hb, hnode⟩ := seg_node hseg hk
  have hkl : k < ns.length := (List.getElem?_eq_some_iff.1 hk).1
  clear hseg hk
  have hv : szP n false = n.wd := by simp [szP, alongP, hn]
  have HV := Lib.hid hv
  clear hv
  generalize ns.length = len at *
  go_enter Try.func51, Try.ntmps51
  go_wp2_with (first | (refine wpList_load_node rfl _ rfl _ _ rfl _ (by repeat (first | apply NodeAt.row | (apply Blk.new'; first | rfl | (simp; done)) | (apply Blk.node; apply Blk.new'; first | rfl | (simp; done)) | assumption | apply NodeAt.alloc)) ?_) | (refine wpList_alloc_node rfl rfl ?_) | (refine wpList_store_node rfl _ _ rfl _ _ _ rfl rfl _ (by repeat (first | (apply Blk.new'; first | rfl | (simp; done)) | assumption | apply Blk.alloc)) ?_))
  (go_ret; exact ⟨ret_int (by rw [HV.out]), (by repeat (first | exact Below.refl _ _ | (refine below_setRow ?_ _ _ ?_; rotate_left; focus (simp; done)) | refine andAlloc ?_ _))⟩)

theorem size_b3_false (A : Option Addr) (ns : List Nd) (c k : Nat) (n : Nd) (w : World) (hl : ns.length ≤ 9223372036854775806) (hseg : Seg w w.heap.size A (ns.flatMap ncs)) (hk : ns[k]? = some n) (hn : n.kind = 3) (hr : right n = true) :
    Calls Try.prog 51 #[.slice A ns.length c, .int .i64 (k : Int), .bool false] w fun e w' => e = .returned (.int .i64 (szP n false)) ∧ Below w.heap.size w w' := by
  obtain ⟨b, off, rfl, hb, hnode⟩ := seg_node hseg hk
  have hkl : k < ns.length := (List.getElem?_eq_some_iff.1 hk).1
  clear hseg hk
  have hd := right_hd hr (by omega)
  unfold dm at hd
  obtain ⟨⟨d0, d1⟩, d2, d3⟩ := hd
  clear hr
  have hv : szP n false = n.wd := by simp [szP, alongP, hn]
  have HV := Lib.hid hv
  clear hv
  generalize ns.length = len at *
  go_enter Try.func51, Try.ntmps51
  go_wp2_with (first | (refine wpList_load_node rfl _ rfl _ _ rfl _ (by repeat (first | apply NodeAt.row | (apply Blk.new'; first | rfl | (simp; done)) | (apply Blk.node; apply Blk.new'; first | rfl | (simp; done)) | assumption | apply NodeAt.alloc)) ?_) | (refine wpList_alloc_node rfl rfl ?_) | (refine wpList_store_node rfl _ _ rfl _ _ _ rfl rfl _ (by repeat (first | (apply Blk.new'; first | rfl | (simp; done)) | assumption | apply Blk.alloc)) ?_))
  (go_ret; exact ⟨ret_int (by rw [HV.out]), (by repeat (first | exact Below.refl _ _ | (refine below_setRow ?_ _ _ ?_; rotate_left; focus (simp; done)) | refine andAlloc ?_ _))⟩)

theorem size_b4_false (A : Option Addr) (ns : List Nd) (c k : Nat) (n : Nd) (w : World) (hl : ns.length ≤ 9223372036854775806) (hseg : Seg w w.heap.size A (ns.flatMap ncs)) (hk : ns[k]? = some n) (hn : n.kind = 4) (hr : right n = true) :
    Calls Try.prog 51 #[.slice A ns.length c, .int .i64 (k : Int), .bool false] w fun e w' => e = .returned (.int .i64 (szP n false)) ∧ Below w.heap.size w w' := by
  obtain ⟨b, off, rfl, hb, hnode⟩ := seg_node hseg hk
  have hkl : k < ns.length := (List.getElem?_eq_some_iff.1 hk).1
  clear hseg hk
  have hd := right_hd hr (by omega)
  unfold dm at hd
  obtain ⟨⟨d0, d1⟩, d2, d3⟩ := hd
  clear hr
  have hv : szP n false = n.wd := by simp [szP, alongP, hn]
  have HV := Lib.hid hv
  clear hv
  generalize ns.length = len at *
  go_enter Try.func51, Try.ntmps51
  go_wp2_with (first | (refine wpList_load_node rfl _ rfl _ _ rfl _ (by repeat (first | apply NodeAt.row | (apply Blk.new'; first | rfl | (simp; done)) | (apply Blk.node; apply Blk.new'; first | rfl | (simp; done)) | assumption | apply NodeAt.alloc)) ?_) | (refine wpList_alloc_node rfl rfl ?_) | (refine wpList_store_node rfl _ _ rfl _ _ _ rfl rfl _ (by repeat (first | (apply Blk.new'; first | rfl | (simp; done)) | assumption | apply Blk.alloc)) ?_))
  (go_ret; exact ⟨ret_int (by rw [HV.out]), (by repeat (first | exact Below.refl _ _ | (refine below_setRow ?_ _ _ ?_; rotate_left; focus (simp; done)) | refine andAlloc ?_ _))⟩)

theorem size_b5_false (A : Option Addr) (ns : List Nd) (c k : Nat) (n : Nd) (w : World) (hl : ns.length ≤ 9223372036854775806) (hseg : Seg w w.heap.size A (ns.flatMap ncs)) (hk : ns[k]? = some n) (hn : n.kind = 5) (hr : right n = true) :
    Calls Try.prog 51 #[.slice A ns.length c, .int .i64 (k : Int), .bool false] w fun e w' => e = .returned (.int .i64 (szP n false)) ∧ Below w.heap.size w w' := by
  obtain ⟨b, off, rfl, hb, hnode⟩ := seg_node hseg hk
  have hkl : k < ns.length := (List.getElem?_eq_some_iff.1 hk).1
  clear hseg hk
  have hd := right_hd hr (by omega)
  unfold dm at hd
  obtain ⟨⟨d0, d1⟩, d2, d3⟩ := hd
  clear hr
  have hv : szP n false = n.wd := by simp [szP, alongP, hn]
  have HV := Lib.hid hv
  clear hv
  generalize ns.length = len at *
  go_enter Try.func51, Try.ntmps51
  go_wp2_with (first | (refine wpList_load_node rfl _ rfl _ _ rfl _ (by repeat (first | apply NodeAt.row | (apply Blk.new'; first | rfl | (simp; done)) | (apply Blk.node; apply Blk.new'; first | rfl | (simp; done)) | assumption | apply NodeAt.alloc)) ?_) | (refine wpList_alloc_node rfl rfl ?_) | (refine wpList_store_node rfl _ _ rfl _ _ _ rfl rfl _ (by repeat (first | (apply Blk.new'; first | rfl | (simp; done)) | assumption | apply Blk.alloc)) ?_))
  (go_ret; exact ⟨ret_int (by rw [HV.out]), (by repeat (first | exact Below.refl _ _ | (refine below_setRow ?_ _ _ ?_; rotate_left; focus (simp; done)) | refine andAlloc ?_ _))⟩)

theorem size_b1_false (A : Option Addr) (ns : List Nd) (c k : Nat) (n : Nd) (w : World) (hl : ns.length ≤ 9223372036854775806) (hseg : Seg w w.heap.size A (ns.flatMap ncs)) (hk : ns[k]? = some n) (hn : n.kind = 1) :
    Calls Try.prog 51 #[.slice A ns.length c, .int .i64 (k : Int), .bool false] w fun e w' => e = .returned (.int .i64 (szP n false)) ∧ Below w.heap.size w w' := by
  obtain ⟨b, off, rfl, hb, hnode⟩ := seg_node hseg hk
  have hkl : k < ns.length := (List.getElem?_eq_some_iff.1 hk).1
  clear hseg hk
  have hv : szP n false = n.wd := by simp [szP, alongP, hn]
  have HV := Lib.hid hv
  clear hv
  generalize ns.length = len at *
  go_enter Try.func51, Try.ntmps51
  go_wp2_with (first | (refine wpList_load_node rfl _ rfl _ _ rfl _ (by repeat (first | apply NodeAt.row | (apply Blk.new'; first | rfl | (simp; done)) | (apply Blk.node; apply Blk.new'; first | rfl | (simp; done)) | assumption | apply NodeAt.alloc)) ?_) | (refine wpList_alloc_node rfl rfl ?_) | (refine wpList_store_node rfl _ _ rfl _ _ _ rfl rfl _ (by repeat (first | (apply Blk.new'; first | rfl | (simp; done)) | assumption | apply Blk.alloc)) ?_))
  (go_ret; exact ⟨ret_int (by rw [HV.out]), (by repeat (first | exact Below.refl _ _ | (refine below_setRow ?_ _ _ ?_; rotate_left; focus (simp; done)) | refine andAlloc ?_ _))⟩)

theorem size_b2_false (A : Option Addr) (ns : List Nd) (c k : Nat) (n : Nd) (w : World) (hl : ns.length ≤ 9223372036854775806) (hseg : Seg w w.heap.size A (ns.flatMap ncs)) (hk : ns[k]? = some n) (hn : n.kind = 2) :
    Calls Try.prog 51 #[.slice A ns.length c, .int .i64 (k : Int), .bool false] w fun e w' => e = .returned (.int .i64 (szP n false)) ∧ Below w.heap.size w w' := by
  obtain ⟨b, off, rfl, hb, hnode⟩ := seg_node hseg hk
  have hkl : k < ns.length := (List.getElem?_eq_some_iff.1 hk).1
  clear hseg hk
  have hv : szP n false = n.wd := by simp [szP, alongP, hn]
  have HV := Lib.hid hv
  clear hv
  generalize ns.length = len at *
  go_enter Try.func51, Try.ntmps51
  go_wp2_with (first | (refine wpList_load_node rfl _ rfl _ _ rfl _ (by repeat (first | apply NodeAt.row | (apply Blk.new'; first | rfl | (simp; done)) | (apply Blk.node; apply Blk.new'; first | rfl | (simp; done)) | assumption | apply NodeAt.alloc)) ?_) | (refine wpList_alloc_node rfl rfl ?_) | (refine wpList_store_node rfl _ _ rfl _ _ _ rfl rfl _ (by repeat (first | (apply Blk.new'; first | rfl | (simp; done)) | assumption | apply Blk.alloc)) ?_))
  (go_ret; exact ⟨ret_int (by rw [HV.out]), (by repeat (first | exact Below.refl _ _ | (refine below_setRow ?_ _ _ ?_; rotate_left; focus (simp; done)) | refine andAlloc ?_ _))⟩)

theorem size_b15_false (A : Option Addr) (ns : List Nd) (c k : Nat) (n : Nd) (w : World) (hl : ns.length ≤ 9223372036854775806) (hseg : Seg w w.heap.size A (ns.flatMap ncs)) (hk : ns[k]? = some n) (hn : n.kind = 15) :
    Calls Try.prog 51 #[.slice A ns.length c, .int .i64 (k : Int), .bool false] w fun e w' => e = .returned (.int .i64 (szP n false)) ∧ Below w.heap.size w w' := by
  obtain ⟨b, off, rfl, hb, hnode⟩ := seg_node hseg hk
  have hkl : k < ns.length := (List.getElem?_eq_some_iff.1 hk).1
  clear hseg hk
  have hv : szP n false = n.wd := by simp [szP, alongP, hn]
  have HV := Lib.hid hv
  clear hv
  generalize ns.length = len at *
  go_enter Try.func51, Try.ntmps51
  go_wp2_with (first | (refine wpList_load_node rfl _ rfl _ _ rfl _ (by repeat (first | apply NodeAt.row | (apply Blk.new'; first | rfl | (simp; done)) | (apply Blk.node; apply Blk.new'; first | rfl | (simp; done)) | assumption | apply NodeAt.alloc)) ?_) | (refine wpList_alloc_node rfl rfl ?_) | (refine wpList_store_node rfl _ _ rfl _ _ _ rfl rfl _ (by repeat (first | (apply Blk.new'; first | rfl | (simp; done)) | assumption | apply Blk.alloc)) ?_))
  (go_ret; exact ⟨ret_int (by rw [HV.out]), (by repeat (first | exact Below.refl _ _ | (refine below_setRow ?_ _ _ ?_; rotate_left; focus (simp; done)) | refine andAlloc ?_ _))⟩)

theorem size_b16_false (A : Option Addr) (ns : List Nd) (c k : Nat) (n : Nd) (w : World) (hl : ns.length ≤ 9223372036854775806) (hseg : Seg w w.heap.size A (ns.flatMap ncs)) (hk : ns[k]? = some n) (hn : n.kind = 16) :
    Calls Try.prog 51 #[.slice A ns.length c, .int .i64 (k : Int), .bool false] w fun e w' => e = .returned (.int .i64 (szP n false)) ∧ Below w.heap.size w w' := by
  obtain ⟨b, off, rfl, hb, hnode⟩ := seg_node hseg hk
  have hkl : k < ns.length := (List.getElem?_eq_some_iff.1 hk).1
  clear hseg hk
  have hv : szP n false = n.wd := by simp [szP, alongP, hn]
  have HV := Lib.hid hv
  clear hv
  generalize ns.length = len at *
  go_enter Try.func51, Try.ntmps51
  go_wp2_with (first | (refine wpList_load_node rfl _ rfl _ _ rfl _ (by repeat (first | apply NodeAt.row | (apply Blk.new'; first | rfl | (simp; done)) | (apply Blk.node; apply Blk.new'; first | rfl | (simp; done)) | assumption | apply NodeAt.alloc)) ?_) | (refine wpList_alloc_node rfl rfl ?_) | (refine wpList_store_node rfl _ _ rfl _ _ _ rfl rfl _ (by repeat (first | (apply Blk.new'; first | rfl | (simp; done)) | assumption | apply Blk.alloc)) ?_))
  (go_ret; exact ⟨ret_int (by rw [HV.out]), (by repeat (first | exact Below.refl _ _ | (refine below_setRow ?_ _ _ ?_; rotate_left; focus (simp; done)) | refine andAlloc ?_ _))⟩)

theorem size_other_false (A : Option Addr) (ns : List Nd) (c k : Nat) (n : Nd) (w : World) (hl : ns.length ≤ 9223372036854775806) (hseg : Seg w w.heap.size A (ns.flatMap ncs)) (hk : ns[k]? = some n) (h8 : ¬ n.kind = 8) (h3 : ¬ n.kind = 3) (h4 : ¬ n.kind = 4) (h5 : ¬ n.kind = 5) (h1 : ¬ n.kind = 1) (h2 : ¬ n.kind = 2) (h15 : ¬ n.kind = 15) (h16 : ¬ n.kind = 16) (h10 : ¬ n.kind = 10) :
    Calls Try.prog 51 #[.slice A ns.length c, .int .i64 (k : Int), .bool false] w fun e w' => e = .returned (.int .i64 (szP n false)) ∧ Below w.heap.size w w' := by
  obtain ⟨b, off, rfl, hb, hnode⟩ := seg_node hseg hk
  have hkl : k < ns.length := (List.getElem?_eq_some_iff.1 hk).1
  clear hseg hk
  have hv : szP n false = 0 := by
    unfold szP
    split
    · rfl
    · rename_i h7
      simp [alongP, h7, h8, h3, h4, h5, h1, h2, h15, h16]
  have HV := Lib.hid hv
  clear hv
  have e8 : (n.kind == 8) = false := by simp [h8]
  have e3 : (n.kind == 3) = false := by simp [h3]
  have e4 : (n.kind == 4) = false := by simp [h4]
  have e5 : (n.kind == 5) = false := by simp [h5]
  have e1 : (n.kind == 1) = false := by simp [h1]
  have e2 : (n.kind == 2) = false := by simp [h2]
  have e15 : (n.kind == 15) = false := by simp [h15]
  have e16 : (n.kind == 16) = false := by simp [h16]
  have e10 : (n.kind == 10) = false := by simp [h10]
  clear h8 h3 h4 h5 h1 h2 h15 h16 h10
  generalize ns.length = len at *
  go_enter Try.func51, Try.ntmps51
  go_wp2_with (first | (refine wpList_load_node rfl _ rfl _ _ rfl _ (by repeat (first | apply NodeAt.row | (apply Blk.new'; first | rfl | (simp; done)) | (apply Blk.node; apply Blk.new'; first | rfl | (simp; done)) | assumption | apply NodeAt.alloc)) ?_) | (refine wpList_alloc_node rfl rfl ?_) | (refine wpList_store_node rfl _ _ rfl _ _ _ rfl rfl _ (by repeat (first | (apply Blk.new'; first | rfl | (simp; done)) | assumption | apply Blk.alloc)) ?_))
  (go_ret; exact ⟨ret_int (by rw [HV.out]), (by repeat (first | exact Below.refl _ _ | (refine below_setRow ?_ _ _ ?_; rotate_left; focus (simp; done)) | refine andAlloc ?_ _))⟩)

theorem size_any (A : Option Addr) (ns : List Nd) (c k : Nat) (n : Nd) (down : Bool) (w : World) (hl : ns.length ≤ 9223372036854775806) (hseg : Seg w w.heap.size A (ns.flatMap ncs)) (hk : ns[k]? = some n) (hr : right n = true) (hd : down = true ∨ ¬ n.kind = 10) :
    Calls Try.prog 51 #[.slice A ns.length c, .int .i64 (k : Int), .bool down] w fun e w' => e = .returned (.int .i64 (szP n down)) ∧ Below w.heap.size w w' := by
  cases down
  · have hd : ¬ n.kind = 10 := by
      rcases hd with h | h
      · cases h
      · exact h
    by_cases h8 : n.kind = 8
    · exact size_kern_false A ns c k n w hl hseg hk h8
    by_cases h3 : n.kind = 3
    · exact size_b3_false A ns c k n w hl hseg hk h3 hr
    by_cases h4 : n.kind = 4
    · exact size_b4_false A ns c k n w hl hseg hk h4 hr
    by_cases h5 : n.kind = 5
    · exact size_b5_false A ns c k n w hl hseg hk h5 hr
    by_cases h1 : n.kind = 1
    · exact size_b1_false A ns c k n w hl hseg hk h1
    by_cases h2 : n.kind = 2
    · exact size_b2_false A ns c k n w hl hseg hk h2
    by_cases h15 : n.kind = 15
    · exact size_b15_false A ns c k n w hl hseg hk h15
    by_cases h16 : n.kind = 16
    · exact size_b16_false A ns c k n w hl hseg hk h16
    exact size_other_false A ns c k n w hl hseg hk h8 h3 h4 h5 h1 h2 h15 h16 hd
  · by_cases h10 : n.kind = 10
    · exact size_disc_true A ns c k n w hl hseg hk h10
    by_cases h8 : n.kind = 8
    · exact size_kern_true A ns c k n w hl hseg hk h8
    by_cases h3 : n.kind = 3
    · exact size_b3_true A ns c k n w hl hseg hk h3 hr
    by_cases h4 : n.kind = 4
    · exact size_b4_true A ns c k n w hl hseg hk h4 hr
    by_cases h5 : n.kind = 5
    · exact size_b5_true A ns c k n w hl hseg hk h5 hr
    by_cases h1 : n.kind = 1
    · exact size_b1_true A ns c k n w hl hseg hk h1
    by_cases h2 : n.kind = 2
    · exact size_b2_true A ns c k n w hl hseg hk h2
    by_cases h15 : n.kind = 15
    · exact size_b15_true A ns c k n w hl hseg hk h15
    by_cases h16 : n.kind = 16
    · exact size_b16_true A ns c k n w hl hseg hk h16
    exact size_other_true A ns c k n w hl hseg hk h8 h3 h4 h5 h1 h2 h15 h16 h10
set_option maxHeartbeats 2000000 in
set_option maxRecDepth 100000 in
/-- A Disc: what its third list comes to, if that is a dimension. -/
theorem size_disc (A : Option Addr) (ns : List Nd) (c k m : Nat) (ss : List Nat) (n : Nd) (v : Int) (w : World) (hc : chk ns = 0) (hcap : ns.length ≤ c) (hseg : Seg w w.heap.size A (ns.flatMap ncs)) (hk : ns[k]? = some n) (hb : begB ns k = true) (hm : endc (ns.drop k) 0 = some m) (hm2 : 2 ≤ m) (hd : D3 ss (ns.drop (k + 1)) 0 (m - 2)) (hn : n.kind = 10)
    (a b c' d p q r s e1 : Int) (htot : ∀ w1 A1 c1, (thr ss (ns.drop (k + 1)) 0 2).length ≤ c1 → Seg w1 w1.heap.size A1 ((thr ss (ns.drop (k + 1)) 0 2).flatMap ncs) → Calls Try.prog 31 #[.slice A1 (thr ss (ns.drop (k + 1)) 0 2).length c1, .bool false] w1 fun e w' => e = .returned (.tuple #[.agg #[.int .i64 v, .int .i64 a, .int .i64 b, .int .i64 c', .int .i64 d, .int .i64 p, .int .i64 q, .int .i64 r, .int .i64 s], .int .i64 e1]) ∧ Below w1.heap.size w1 w') :
    Calls Try.prog 51 #[.slice A ns.length c, .int .i64 (k : Int), .bool false] w fun e w' => e = .returned (.int .i64 v) ∧ Below w.heap.size w w' := by
  have hl := (chk_run hc).1
  have HT := Lib.hid fun w1 (h : Below w.heap.size w w1) => parts_ok A ns c k m n ss w1 hcap (Seg.belowW hseg h) hc hb hk hn hm hd hm2
  have HS := Lib.hid htot
  obtain ⟨b, off, rfl, hb, hnode⟩ := seg_node hseg hk
  have hkl : k < ns.length := (List.getElem?_eq_some_iff.1 hk).1
  clear hseg hk htot hm hd hc
  generalize thr ss (ns.drop (k + 1)) 0 = F at *
  generalize ns.length = len at *
  go_enter Try.func51, Try.ntmps51
  go_wp2_with (first | (refine wpList_load_node rfl _ rfl _ _ rfl _ (by repeat (first | apply NodeAt.row | (apply Blk.new'; first | rfl | (simp; done)) | (apply Blk.node; apply Blk.new'; first | rfl | (simp; done)) | assumption | apply NodeAt.alloc)) ?_) | (refine wpList_alloc_node rfl rfl ?_) | (refine wpList_store_node rfl _ _ rfl _ _ _ rfl rfl _ (by repeat (first | (apply Blk.new'; first | rfl | (simp; done)) | assumption | apply Blk.alloc)) ?_))
  refine (HT.out _ (andAlloc (Below.refl _ _) _)).mono ?_
  rintro e w1 ⟨vs, rfl, ho, hb1⟩
  obtain ⟨A2, c2, h2, hc2, _, hs2⟩ := Seg.of_own (ho.own 2 (by omega))
  have hl1 : Below w.heap.size w w1 := andThen (andAlloc (Below.refl _ _) _) hb1
  rw [h2]
  go_wp2_with fail
  refine (HS.out _ _ _ hc2 hs2).mono ?_
  rintro e w2 ⟨rfl, hb2⟩
  go_wp2_with fail
  go_ret
  exact ⟨rfl, andAlloc (andThen hl1 hb2) _⟩
theorem tot_case (l : List Nd) (hl : l.length ≤ 879609302220) : ∃ x a b c d p q r s e1, (-1073741823 ≤ x ∧ x ≤ 1073741823) ∧ ∀ (A : Option Addr) (k : Nat) (w : World), l.length ≤ k → Seg w w.heap.size A (l.flatMap ncs) → Calls Try.prog 31 #[.slice A l.length k, .bool false] w fun e w' => e = .returned (.tuple #[.agg #[.int .i64 x, .int .i64 a, .int .i64 b, .int .i64 c, .int .i64 d, .int .i64 p, .int .i64 q, .int .i64 r, .int .i64 s], .int .i64 e1]) ∧ Below w.heap.size w w' := by
  by_cases hc : chk l = 0
  · obtain ⟨xs, hx⟩ := its_of_chk hc
    have hT := totR_len l false xs
    have hn : -1073741823 ≤ (totR l false xs).nat ∧ (totR l false xs).nat ≤ 1073741823 := by
      unfold totR
      split
      · rename_i h
        simpa [dimB] using h
      · simp [tz]
    obtain ⟨⟨x, st, sh⟩, hTe⟩ : ∃ T, totR l false xs = T := ⟨_, rfl⟩
    rw [hTe] at hT hn
    match st, sh, hT.1, hT.2 with
    | [a, b, c, d], [p, q, r, s], _, _ =>
    have ht := fun A k w h hs => totals_any A l k xs false w hc h hs hx
    simp only [hTe] at ht
    exact ⟨x, a, b, c, d, p, q, r, s, _, hn, ht⟩
  · exact ⟨0, 0, 0, 0, 0, 0, 0, 0, 0, chk l, by omega, fun A k w h hs => totals_bad A l k false w (by omega) hs hc⟩
/-- Each item of a list has a size. -/
theorem size_case (ns : List Nd) (down : Bool) (hc : chk ns = 0) : ∃ f : Nat → Int, (∀ k, -281474976710656 ≤ f k ∧ f k ≤ 281474976710656) ∧ (∀ (k : Nat) (n : Nd), ns[k]? = some n → (down = true ∨ ¬ n.kind = 10) → f k = szP n down) ∧
    ∀ (k : Nat) (n : Nd), ns[k]? = some n → ¬ n.kind = 6 → ¬ n.kind = 11 → ∀ (A : Option Addr) (c : Nat) (w : World), ns.length ≤ c → Seg w w.heap.size A (ns.flatMap ncs) → Calls Try.prog 51 #[.slice A ns.length c, .int .i64 (k : Int), .bool down] w fun e w' => e = .returned (.int .i64 (f k)) ∧ Below w.heap.size w w' := by
  have hl := (chk_run hc).1
  have hr := chk_right hc
  have hex : ∀ k : Nat, ∃ v : Int, (-281474976710656 ≤ v ∧ v ≤ 281474976710656) ∧ (∀ (n : Nd), ns[k]? = some n → (down = true ∨ ¬ n.kind = 10) → v = szP n down) ∧
      ∀ (n : Nd), ns[k]? = some n → ¬ n.kind = 6 → ¬ n.kind = 11 → ∀ (A : Option Addr) (c : Nat) (w : World), ns.length ≤ c → Seg w w.heap.size A (ns.flatMap ncs) → Calls Try.prog 51 #[.slice A ns.length c, .int .i64 (k : Int), .bool down] w fun e w' => e = .returned (.int .i64 v) ∧ Below w.heap.size w w' := by
    intro k
    cases hk : ns[k]? with
    | none => exact ⟨0, by omega, fun n h => by (cases h), fun n h => by (cases h)⟩
    | some n =>
      have hrn := hr n (List.mem_of_getElem? hk)
      by_cases hd : down = true ∨ ¬ n.kind = 10
      · refine ⟨szP n down, ?_, fun n' h _ => by (injection h with h; rw [h]), fun n' h _ _ A c w hcap hs => by (injection h with h; subst h; exact size_any A ns c k n down w (by omega) hs hk hrn hd)⟩
        unfold szP
        split
        · omega
        · have := along_bd hrn down
          omega
      · have hdn : down = false := by
          cases down
          · rfl
          · exact absurd (.inl rfl) hd
        have h10 : n.kind = 10 := by
          by_cases h : n.kind = 10
          · exact h
          · exact absurd (.inr h) hd
        subst hdn
        obtain ⟨m, hm⟩ := item_ends hc hk (by omega) (by omega)
        obtain ⟨hm2, ss, hss⟩ := disc_steps hc hk h10 hm
        have hlen : (thr ss (ns.drop (k + 1)) 0 2).length ≤ 2000 := by
          have h1 := thr_len (j := 2) hss
          have h2 := hss.le
          rw [List.length_drop] at h2
          omega
        obtain ⟨x, a, b, c', d, p, q, r, s, e1, hx, ht⟩ := tot_case (thr ss (ns.drop (k + 1)) 0 2) (by omega)
        refine ⟨x, by omega, fun n' h h' => by (injection h with h; subst h; exact absurd h' hd), fun n' h _ _ A c w hcap hs => by (injection h with h; subst h; exact size_disc A ns c k m ss n x w hc hcap hs hk (beg_of hk (by omega) (by omega)) hm hm2 hss h10 a b c' d p q r s e1 fun w1 A1 c1 h1 h2 => ht A1 c1 w1 h1 h2)⟩
  exact ⟨fun k => (hex k).choose, fun k => (hex k).choose_spec.1, fun k n h h' => (hex k).choose_spec.2.1 n h h', fun k n h h6 h11 => (hex k).choose_spec.2.2 n h h6 h11⟩
end Go.Proofs.Ytoboecenlangmaa.Pk
end
section
namespace Go.Proofs.Ytoboecenlangmaa.Gl
open Go.ChangeShapes Go.WideShapes Go.ChangeAt Go.RowKit
open Me

theorem sizes_any (A : Option Addr) (l : List G) (c : Nat) (sign order N D : Int) (w : World) (h63 : l.length ≤ maxLen) (hrow : Row w A l) :
    Calls Try.prog 49 #[.slice A l.length c, .int .i64 sign, .int .i64 order, .int .i64 N, .int .i64 D] w (SzOut l sign order N D w) := by
  by_cases hr : rowE l = 0
  · cases ha : argOk sign order
    · refine (sizes_bad A l c sign order N D w h63 hrow (.inr (.inl ha))).mono fun e w' h => ?_
      unfold SzOut
      rw [if_neg (by rw [szE_arg hr ha]; omega)]
      exact h
    · cases hg : rngOk sign N D
      · refine (sizes_bad A l c sign order N D w h63 hrow (.inr (.inr hg))).mono fun e w' h => ?_
        unfold SzOut
        rw [if_neg (by rw [szE_rng hr ha hg]; omega)]
        exact h
      · obtain ⟨a0, a1, -, -⟩ := argOk_iff.1 ha
        rcases (show sign = 0 ∨ sign = 1 ∨ sign = 2 by omega) with rfl | rfl | rfl
        · exact sizes_still A l c order N D w hrow hr ha hg
        · exact sizes_stretch A l c order N D w hrow hr ha hg
        · exact sizes_shrink A l c order N D w hrow hr ha hg
  · refine (sizes_bad A l c sign order N D w h63 hrow (.inl hr)).mono fun e w' h => ?_
    unfold SzOut
    rw [if_neg (by rw [szE_row hr]; exact hr)]
    exact h
end Go.Proofs.Ytoboecenlangmaa.Gl
end
section
namespace Go.Proofs.Ytoboecenlangmaa.Pk
open Go.ChangeShapes Go.WideShapes Go.ChangeAt Go.RowKit
open Me Np No
set_option linter.unusedVariables false
set_option linter.unusedSimpArgs false

theorem info_int : (Try.prog.info? 3).map (fun i => (i.zero, i.size, i.bytes)) = some (some (.int .i64 0), 1, 8) := by kernel_rfl
theorem info_glue : (Try.prog.info? 40).map (fun i => (i.zero, i.size, i.bytes)) = some (some (.agg #[.int .i64 0, .int .i64 0, .int .i64 0, .int .i64 0, .int .i64 0]), 5, 40) := by kernel_rfl
/-- What Places answers. -/
def PlOut (P : List Int) (E : Int) (w : World) (e : Ending) (w' : World) : Prop := ∃ v, e = .returned (.tuple #[v, .int .i64 E]) ∧ w'.ownsRow w.heap.size 3 1 v P.length (P.map (Value.int .i64)) ∧ Below w.heap.size w w'
theorem PlOut.no {w w' : World} (hb : Below w.heap.size w w') (E : Int) : PlOut [] E w (.returned (.tuple #[.slice none 0 0, .int .i64 E])) w' := ⟨_, rfl, World.ownsRow_nil _ _ _ _, hb⟩
/-- What the second loop of Places holds in memory: how far it has come, the places so far. -/
structure MP (W : World) (gx : Nat) (x : Int) (v : Value) (o : List Int) (wr : World) : Prop where
  blk : Blk wr gx 3 #[.int .i64 x]
  own : wr.ownsRow (gx + 1) 3 1 v o.length (o.map (Value.int .i64))
  low : Below W.heap.size W wr
  gl : W.heap.size ≤ gx
theorem MP.below {W : World} {gx : Nat} {x : Int} {v : Value} {o : List Int} {wr w' : World} (h : MP W gx x v o wr) (hb : Below wr.heap.size wr w') : MP W gx x v o w' := ⟨h.blk.below hb h.blk.lt, own_below h.own hb, andThen h.low hb, h.gl⟩
theorem MP.push {W : World} {gx : Nat} {x z : Int} {v v' : Value} {o : List Int} {wr w' : World} (h : MP W gx x v o wr) (ho : w'.ownsRow (gx + 1) 3 1 v' (o.length + 1) (o.map (Value.int .i64) ++ [.int .i64 z])) (hg : wr.grownBy w' v.ownBlock) : MP W gx x v' (o ++ [z]) w' :=
  ⟨h.blk.grown hg (by intro e; have := (h.own.lt gx e.symm).1; omega), by simpa using ho, below_grown (Nat.le_refl _) h.low hg (fun q hq => by have := (h.own.lt q hq).1; have := h.gl; omega), h.gl⟩
theorem MP.turn {W : World} {gx : Nat} {x y : Int} {v : Value} {o : List Int} {wr w' : World} (h : MP W gx x v o wr) (hb : Blk w' gx 3 #[.int .i64 y]) (hg : wr.grownBy w' (some gx)) : MP W gx y v o w' := by
  refine ⟨hb, h.own.kept hg ?_, below_grown (Nat.le_refl _) h.low hg (fun q hq => by injection hq with hq; have := h.gl; omega), h.gl⟩
  cases hv : v.ownBlock with
  | none => exact .inl rfl
  | some q =>
    refine .inr ?_
    intro e
    injection e with e
    have := (h.own.lt q hv).1
    omega
theorem grow_any (gx : Nat) (x z : Int) (w : World) (hb : Blk w gx 3 #[.int .i64 x]) (h0 : -2305843009213693952 ≤ x) (h1 : x ≤ 2305843009213693952) (h2 : -2305843009213693952 ≤ z) (h3 : z ≤ 2305843009213693952) :
    Calls Try.prog 50 #[.int .i64 z, .pointer (some ⟨gx, 0, none⟩)] w fun e w' => e = .returned (.tuple #[]) ∧ Blk w' gx 3 #[.int .i64 (x + z)] ∧ w.grownBy w' (some gx) := by
  have hc : w.cell? ⟨gx, 0, none⟩ = some (.int .i64 x) := Blk.cell hb 0
  have hf := Blk.free hb 0
  have HB := Lib.hid hb
  clear hb
  go_enter Try.func50, Try.ntmps50
  go_wp2_with fail
  go_returns
  exact ⟨rfl, Blk.set HB.out 0 (.int .i64 (x + z)), grown_set _ _ _ _⟩
/-- What Places comes to. -/
noncomputable def plcR (x : Nd) (l : List Nd) (f : Nat → Int) (xs : List Nat) : List Int × Int :=
  if Gl.szE (skF l xs []) x.sign x.order x.num x.den = 0 then ((plF l f xs ⟨0, Gl.szL (skF l xs []) x.sign x.order x.num x.den, []⟩).out, 0) else ([], Gl.szE (skF l xs []) x.sign x.order x.num x.den)
theorem places_no (A : Option Addr) (ns L : List Nd) (c : Nat) (a E : Int) (w : World) (hE : ¬ E = 0) (hI : Calls Try.prog 24 #[.slice A ns.length c, .int .i64 a] w fun e' w' => ∃ v, e' = .returned (.tuple #[v, .int .i64 E]) ∧ w'.ownsRow w.heap.size 54 19 v L.length (L.flatMap ncs) ∧ Below w.heap.size w w') :
    Calls Try.prog 23 #[.slice A ns.length c, .int .i64 a] w (PlOut [] E w) := by
  have e0 : (E != 0) = true := by simp [hE]
  have HI := Lib.hid hI
  clear hI
  generalize ns.length = len at *
  go_enter Try.func23, Try.ntmps23
  go_wp2_with fail
  refine HI.out.mono ?_
  rintro e w1 ⟨v, rfl, ho, hb1⟩
  clear ho
  go_wp2_with fail
  go_ret2
  exact PlOut.no hb1 _
set_option maxRecDepth 100000 in
theorem places_kind (A : Option Addr) (ns L : List Nd) (c k : Nat) (x : Nd) (w : World) (hcap : ns.length ≤ c) (hl : ns.length ≤ 2000) (hseg : Seg w w.heap.size A (ns.flatMap ncs)) (hx : ns[k]? = some x) (h4 : ¬ x.kind = 4) (h5 : ¬ x.kind = 5) (hI : Calls Try.prog 24 #[.slice A ns.length c, .int .i64 (k : Int)] w fun e' w' => ∃ v, e' = .returned (.tuple #[v, .int .i64 0]) ∧ w'.ownsRow w.heap.size 54 19 v L.length (L.flatMap ncs) ∧ Below w.heap.size w w') :
    Calls Try.prog 23 #[.slice A ns.length c, .int .i64 (k : Int)] w (PlOut [] 3 w) := by
  have e4 : (x.kind != 4) = true := by simp [h4]
  have e5 : (x.kind != 5) = true := by simp [h5]
  have HI := Lib.hid hI
  obtain ⟨b, off, rfl, hb, hnode⟩ := seg_node hseg hx
  have hkl : k < ns.length := (List.getElem?_eq_some_iff.1 hx).1
  clear hI hseg hx h4 h5
  generalize ns.length = len at *
  go_enter Try.func23, Try.ntmps23
  go_wp2_with fail
  refine HI.out.mono ?_
  rintro e w1 ⟨v, rfl, ho, hb1⟩
  have hnode := hnode.below hb1 hb
  clear ho
  go_wp2_with (first | (refine wpList_load_node rfl _ rfl _ _ rfl _ (by repeat (first | apply NodeAt.row | (apply Blk.new'; first | rfl | (simp; done)) | (apply Blk.node; apply Blk.new'; first | rfl | (simp; done)) | assumption | apply NodeAt.alloc)) ?_) | (refine wpList_alloc_node rfl rfl ?_) | (refine wpList_store_node rfl _ _ rfl _ _ _ rfl rfl _ (by repeat (first | (apply Blk.new'; first | rfl | (simp; done)) | assumption | apply Blk.alloc)) ?_))
  go_ret2
  exact PlOut.no (andAlloc hb1 _) _
end Go.Proofs.Ytoboecenlangmaa.Pk
end
