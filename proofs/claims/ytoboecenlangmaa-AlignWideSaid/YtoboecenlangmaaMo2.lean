import Derived.Test.YtoboecenlangmaaMo1
import Derived.Test.YtoboecenlangmaaNodeJ
import Derived.StillTailTactics
import Derived.IntWalk
/- Merged texts. Conditions: those that each theorem names. -/
section
namespace Go.Proofs.Ytoboecenlangmaa.Pk
open Go.ChangeShapes Go.WideShapes Go.ChangeAt Go.RowKit
open Me Np No
set_option linter.unusedVariables false
set_option linter.unusedSimpArgs false

attribute [local go_sem ↓] bldN_eq
set_option maxHeartbeats 20000000 in
set_option maxRecDepth 100000 in
theorem hpack_t (A : Option Addr) (ns S O L : List Nd) (k : Nat) (tw : Int) (w : World) (hc : chk ns = 0) (hcap : ns.length ≤ k) (hseg : Seg w w.heap.size A (ns.flatMap ncs)) (ht : dimB tw = true) (hS : partD ns = (S, O)) (x a b c d p q r s e1 h v e2 e3 W : Int) (M : Msr S false x a b c d p q r s e1 h v e2)
    (hW : W = tw)
    (hw : ∀ (A : Option Addr) (c' : Nat) (w : World), Src w A c' S → Calls Try.prog 79 #[.agg (nc (fitN (hN W h v) (Gl.fit a b c d p q r s (W - x)))), .slice A S.length c'] w fun e' w' => ∃ v, e' = .returned (.tuple #[v, .int .i64 e3]) ∧ w'.ownsRow w.heap.size 54 19 v L.length (L.flatMap ncs) ∧ Below w.heap.size w w') :
    Calls Try.prog 20 #[.slice A ns.length k, .int .i64 tw, .bool true] w (HOut (hpkR e1 e2 (dimB W) e3 L O (setV (fitN (hN W h v) (Gl.fit a b c d p q r s (W - x))) a p ((S.length : Int) == 0) (W - x) (0, 0)).1 (setV (fitN (hN W h v) (Gl.fit a b c d p q r s (W - x))) a p ((S.length : Int) == 0) (W - x) (0, 0)).2) w) := by
  have hSl : S.length ≤ 2000 := by have := (partD_len hc).1; rw [hS] at this; exact this
  have HC := Lib.hid (check_any A ns k w (by have := (chk_run hc).1; omega) hseg)
  rw [hc] at HC
  have HD := Lib.hid (fun w => dimen_any tw w)
  rw [ht] at HD
  have HP := Lib.hid (fun w1 (hb : Below w.heap.size w w1) => parted_any A ns k w1 hc hcap (Seg.belowW hseg hb))
  rw [hS] at HP
  have HM := Lib.hid M
  have HMT := Lib.hid M.tot
  have HME := Lib.hid M.ext
  have HW := Lib.hid hw
  obtain ⟨R, hR⟩ : ∃ R, R = hpkR e1 e2 (dimB W) e3 L O (setV (fitN (hN W h v) (Gl.fit a b c d p q r s (W - x))) a p ((S.length : Int) == 0) (W - x) (0, 0)).1 (setV (fitN (hN W h v) (Gl.fit a b c d p q r s (W - x))) a p ((S.length : Int) == 0) (W - x) (0, 0)).2 := ⟨_, rfl⟩
  rw [← hR]
  have HR := Lib.hid hR
  clear hR
  have HWE := Lib.hid hW
  have htw : -1073741823 ≤ tw ∧ tw ≤ 1073741823 := by simpa [dimB] using ht
  clear hseg hc hS M hw hW ht
  generalize ns.length = len at *
  have hb4 := run_bldN 4
  go_enter Try.func20, Try.ntmps20
  go_wp2_with fail
  refine HC.out.mono ?_
  rintro e w1 ⟨rfl, hb1⟩
  go_wp2_with (go_at_call 41; refine (HD.out _).mono ?_; rintro e w' ⟨rfl, rfl⟩)
  refine (HP.out _ hb1).mono ?_
  rintro e w2 ⟨vS, vO, rfl, hO, hb2⟩
  have hb12 := andThen hb1 hb2
  obtain ⟨AS, kS, hvS, hkS⟩ : ∃ A c, vS = .slice A S.length c ∧ S.length ≤ c := by
    obtain ⟨A, c, h1, h2, _⟩ := Src.own hO.one
    exact ⟨A, c, h1, h2⟩
  subst hvS
  have HH := Lib.hid (show Own2 w2 w.heap.size (.slice AS S.length kS) vO S O from ⟨own_base hO.one hb1.size, own_base hO.two hb1.size, hO.dist, hO.dist'⟩)
  have HB2 := Lib.hid hb12
  clear hO hb1 hb2 hb12 HC HP
  generalize hem : ((S.length : Int) == 0) = em
  have HMW := Lib.hid (fun (g : Nat) (bad ov : Int) (A : Option Addr) (k : Nat) (w : World) (hg : Mk w g (fitN (hN W h v) (Gl.fit a b c d p q r s (W - x))) x a b c d p q r s em bad ov 0) (hs : Src w A k S) => mwrap_any g _ x a b c d p q r s em bad ov S L e3 A k w hg HW.out hs)
  clear HW
  generalize hln : S.length = lS at hSl hkS hem HH HMW HMT HME HR ⊢
  have HLS := Lib.hid hln
  have HEM := Lib.hid hem
  clear hln
  go_wp2_with (first | (refine wpList_build_eq (o := ⟨some 32, _, _, _, _, _⟩) rfl _ _ rfl (mkc (nz 4) 0 0 0 0 0 0 0 0 0 em 0 0 0) (by kernel_rfl) ?_))
  have hs0 : Hs w (.slice AS lS kS) vO S O w2.heap.size (nz 4) 0 0 0 0 0 0 0 0 0 em 0 0 0 (w2.alloc (.cells (mkc (nz 4) 0 0 0 0 0 0 0 0 0 em 0 0 0) 97)) := ⟨Blk.new' rfl, HH.out.below (andAlloc (Below.refl _ _) _), andAlloc HB2.out _, HB2.out.size⟩
  clear HH HB2
  generalize w2.alloc (.cells (mkc (nz 4) 0 0 0 0 0 0 0 0 0 em 0 0 0) 97) = w3 at hs0 ⊢
  generalize w2.heap.size = g at hs0 ⊢
  refine (HMT.out AS kS w3 hkS hs0.seg).mono ?_
  rintro e w4 ⟨rfl, hb4'⟩
  have hs4 := hs0.below hb4'
  have hth := mk_there hs4.mkr
  have HS4 := Lib.hid hs4
  clear hs0 hb4' hs4
  have hs5 := HS4.out.turn (grown_cells g _ 19 w4) (mk_tot HS4.out.mkr x a b c d p q r s)
  have HS5 := Lib.hid hs5
  clear hs5
  by_cases he1 : e1 = 0
  · have t1 : (e1 != 0) = false := by simp [he1]
    by_cases he2 : e2 = 0
    · have t2 : (e2 != 0) = false := by simp [he2]
      · skip
        have hWE : W = tw := HWE.out
        subst hWE
        go_upto_region 20 with (first | (refine wpList_store_mid (op := ⟨none, .store _ (.tmp 43) (.tmp 40), _, _, _, _⟩) rfl 69 _ _ rfl g 19 #[.int .i64 x, .int .i64 a, .int .i64 b, .int .i64 c, .int .i64 d, .int .i64 p, .int .i64 q, .int .i64 r, .int .i64 s] ?_ rfl hth tot_info (t9_one _ _ _ _ _ _ _ _ _) ?_; rfl) | (go_at_call 44; refine (HME.out AS kS _ hkS HS5.out.seg).mono ?_; rintro e w6 ⟨rfl, hb6⟩; have HS6 := Lib.hid (HS5.out.below hb6); clear hb6; have hd3 : w6.cell? ⟨g, 3, none⟩ = some (.int .i64 0) := Blk.cell HS6.out.mkr 3; have hf3 := Blk.free HS6.out.mkr 3; have hd4 : w6.cell? ⟨g, 4, none⟩ = some (.int .i64 0) := Blk.cell HS6.out.mkr 4; have hf4 := Blk.free HS6.out.mkr 4; have hd5 : w6.cell? ⟨g, 5, none⟩ = some (.int .i64 0) := Blk.cell HS6.out.mkr 5; have hf5 := Blk.free HS6.out.mkr 5; have hd19 : w6.cell? ⟨g, 19, none⟩ = some (.int .i64 x) := Blk.cell HS6.out.mkr 19) | (go_at_call 41; refine (HD.out _).mono ?_; rintro e w' ⟨rfl, rfl⟩))
        have hs7 := (HS6.out.n45 h v).n3 W
        have HS7 := Lib.hid hs7
        generalize ((w6.setCell ⟨g, 4, none⟩ (.int .i64 h)).setCell ⟨g, 5, none⟩ (.int .i64 v)).setCell ⟨g, 3, none⟩ (.int .i64 W) = w7 at HS7 ⊢
        clear hs7 hd3 hf3 hd4 hf4 hd5 hf5 hd19 HS6 HS5 HS4 hth
        have HDW := Lib.hid (HD.out w)
        have hdw : dimB W = true := by simpa [dimB] using htw
        have HDW := Lib.hid hdw
        have hnx := HM.out.nat he1
        have hnx' : -1073741823 ≤ x ∧ x ≤ 1073741823 := by simpa [dimB] using hnx
        have HNW := Lib.hid (show Gl.nearB (W - x) = true by unfold Gl.nearB; rw [decide_eq_true_eq]; omega)
        clear hnx hdw
        have hd3' : w7.cell? ⟨g, 3, none⟩ = some (.int .i64 (W)) := Blk.cell HS7.out.mkr 3
        have hd19' : w7.cell? ⟨g, 19, none⟩ = some (.int .i64 x) := Blk.cell HS7.out.mkr 19
        have hsub : IntKind.i64.wrap (W - x) = W - x := IntWalk.i64_in _ (by omega)
        go_still_tail 12, (by kernel_rfl)
        change wpList _ _ _ _ _ w7.drew
        have hs8 := HS7.out.below (Below.drew (Below.refl _ w7))
        generalize w7.drew = w8 at hs8 ⊢
        have HS8 := Lib.hid hs8
        clear hs8 hd3' hd19' HS7
        by_cases he3 : e3 = 0
        · have t3 : (e3 != 0) = false := by simp [he3]
          go_upto_region 24 with (first | (go_at_call 43; refine (set_any g (hN (W) h v) x a b c d p q r s em 0 0 (W - x) _ HS8.out.mkr HNW.out (HM.out.near he1).1 (HM.out.near he1).2.2.2.2.1 (HM.out.near he1).2.1 (HM.out.near he1).2.2.2.2.2.1 (HM.out.near he1).2.2.1 (HM.out.near he1).2.2.2.2.2.2.1 (HM.out.near he1).2.2.2.1 (HM.out.near he1).2.2.2.2.2.2.2).mono ?_; rintro e w9 ⟨rfl, hm9, hg9⟩; have HS9 := Lib.hid (HS8.out.turn hg9 hm9); clear hm9 hg9) | (go_at_call 45; refine (HMW.out g _ _ AS kS _ HS9.out.mkr HS9.out.src).mono ?_; rintro e wq ⟨vL, rfl, hoL, hbL⟩; have HO9 := Lib.hid (And.intro hoL hbL); clear hoL hbL))
          have HK9 := Lib.hid (HS9.out.below HO9.out.2).mkr
          have hd29 : wq.cell? ⟨g, 29, none⟩ = some (.int .i64 (setV (fitN (hN (W) h v) (Gl.fit a b c d p q r s (W - x))) a p em (W - x) (0, 0)).1) := Blk.cell HK9.out 29
          have hd30 : wq.cell? ⟨g, 30, none⟩ = some (.int .i64 (setV (fitN (hN (W) h v) (Gl.fit a b c d p q r s (W - x))) a p em (W - x) (0, 0)).2) := Blk.cell HK9.out 30
          have hr : R = (L, O, (setV (fitN (hN (W) h v) (Gl.fit a b c d p q r s (W - x))) a p em (W - x) (0, 0)).1, (setV (fitN (hN (W) h v) (Gl.fit a b c d p q r s (W - x))) a p em (W - x) (0, 0)).2, 0) := by rw [HR.out, HEM.out]; unfold hpkR; rw [if_pos he1, if_pos he2, if_pos HDW.out, if_pos he3]
          have HR' := Lib.hid hr
          clear hr HR
          have HO := Lib.hid (fun y z => HS9.out.out HO9.out.1 HO9.out.2 y z)
          generalize (setV (fitN (hN (W) h v) (Gl.fit a b c d p q r s (W - x))) a p em (W - x) (0, 0)).1 = y1 at *
          generalize (setV (fitN (hN (W) h v) (Gl.fit a b c d p q r s (W - x))) a p em (W - x) (0, 0)).2 = y2 at *
          go_quiet (fail)
          go_wp2_with fail
          go_returns
          rw [HR'.out]
          exact (HO.out _ _).drewN _
        · have t3 : (e3 != 0) = true := by simp [he3]
          have hr : R = ([], [], 0, 0, e3) := by rw [HR.out]; unfold hpkR; rw [if_pos he1, if_pos he2, if_pos HDW.out, if_neg he3]
          have HR' := Lib.hid hr
          clear hr HR
          go_wp2_with (first | (go_at_call 43; refine (set_any g (hN (W) h v) x a b c d p q r s em 0 0 (W - x) _ HS8.out.mkr HNW.out (HM.out.near he1).1 (HM.out.near he1).2.2.2.2.1 (HM.out.near he1).2.1 (HM.out.near he1).2.2.2.2.2.1 (HM.out.near he1).2.2.1 (HM.out.near he1).2.2.2.2.2.2.1 (HM.out.near he1).2.2.2.1 (HM.out.near he1).2.2.2.2.2.2.2).mono ?_; rintro e w9 ⟨rfl, hm9, hg9⟩; have HS9 := Lib.hid (HS8.out.turn hg9 hm9); clear hm9 hg9) | (go_at_call 45; refine (HMW.out g _ _ AS kS _ HS9.out.mkr HS9.out.src).mono ?_; rintro e wq ⟨vL, rfl, hoL, hbL⟩; have HO9 := Lib.hid (And.intro hoL hbL); clear hoL hbL))
          go_returns
          rw [HR'.out]
          exact HOut.no (andThen HS9.out.low HO9.out.2) _
    · have t2 : (e2 != 0) = true := by simp [he2]
      have hr : R = ([], [], 0, 0, e2) := by rw [HR.out]; unfold hpkR; rw [if_pos he1, if_neg he2]
      have HR' := Lib.hid hr
      clear hr HR
      go_wp2_with (first | (refine wpList_store_mid (op := ⟨none, .store _ (.tmp 43) (.tmp 40), _, _, _, _⟩) rfl 69 _ _ rfl g 19 #[.int .i64 x, .int .i64 a, .int .i64 b, .int .i64 c, .int .i64 d, .int .i64 p, .int .i64 q, .int .i64 r, .int .i64 s] ?_ rfl hth tot_info (t9_one _ _ _ _ _ _ _ _ _) ?_; rfl) | (go_at_call 44; refine (HME.out AS kS _ hkS HS5.out.seg).mono ?_; rintro e w6 ⟨rfl, hb6⟩; have HS6 := Lib.hid (HS5.out.below hb6); clear hb6; have hd3 : w6.cell? ⟨g, 3, none⟩ = some (.int .i64 0) := Blk.cell HS6.out.mkr 3; have hf3 := Blk.free HS6.out.mkr 3; have hd4 : w6.cell? ⟨g, 4, none⟩ = some (.int .i64 0) := Blk.cell HS6.out.mkr 4; have hf4 := Blk.free HS6.out.mkr 4; have hd5 : w6.cell? ⟨g, 5, none⟩ = some (.int .i64 0) := Blk.cell HS6.out.mkr 5; have hf5 := Blk.free HS6.out.mkr 5; have hd19 : w6.cell? ⟨g, 19, none⟩ = some (.int .i64 x) := Blk.cell HS6.out.mkr 19))
      go_returns
      rw [HR'.out]
      exact HOut.no (HS6.out.n45 h v).low _
  · have t1 : (e1 != 0) = true := by simp [he1]
    have hr : R = ([], [], 0, 0, e1) := by rw [HR.out]; unfold hpkR; rw [if_neg he1]
    have HR' := Lib.hid hr
    clear hr HR
    go_wp2_with (refine wpList_store_mid (op := ⟨none, .store _ (.tmp 43) (.tmp 40), _, _, _, _⟩) rfl 69 _ _ rfl g 19 #[.int .i64 x, .int .i64 a, .int .i64 b, .int .i64 c, .int .i64 d, .int .i64 p, .int .i64 q, .int .i64 r, .int .i64 s] ?_ rfl hth tot_info (t9_one _ _ _ _ _ _ _ _ _) ?_; rfl)
    go_returns
    rw [HR'.out]
    exact HOut.no HS5.out.low _
end Go.Proofs.Ytoboecenlangmaa.Pk
end
