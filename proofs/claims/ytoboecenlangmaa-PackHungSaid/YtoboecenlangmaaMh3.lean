import Derived.Test.YtoboecenlangmaaMh1
import Derived.Test.YtoboecenlangmaaNodeJ
import Derived.StillTailTactics
import Derived.IntWalk
import Derived.Test.YtoboecenlangmaaMh2
import Derived.Test.YtoboecenlangmaaNodeKb
import Derived.Test.YtoboecenlangmaaNodeG
import Derived.Handy
/- Merged texts. Conditions: those that each theorem names. -/
section
namespace Go.Proofs.Ytoboecenlangmaa.Pk
open Go.ChangeShapes Go.WideShapes Go.ChangeAt Go.RowKit
open Me Np No
set_option linter.unusedVariables false
set_option linter.unusedSimpArgs false

attribute [local go_sem ↓] bldN_eq
set_option maxHeartbeats 20000000 in
set_option maxRecDepth 100000 in
theorem hpack_f (A : Option Addr) (ns S O L : List Nd) (k : Nat) (tw : Int) (w : World) (hc : chk ns = 0) (hcap : ns.length ≤ k) (hseg : Seg w w.heap.size A (ns.flatMap ncs)) (ht : dimB tw = true) (hS : partD ns = (S, O)) (x a b c d p q r s e1 h v e2 e3 W : Int) (M : Msr S false x a b c d p q r s e1 h v e2)
    (hW : W = tw + x)
    (hw : ∀ (A : Option Addr) (c' : Nat) (w : World), Src w A c' S → Calls Try.prog 79 #[.agg (nc (fitN (hN W h v) (Gl.fit a b c d p q r s (W - x)))), .slice A S.length c'] w fun e' w' => ∃ v, e' = .returned (.tuple #[v, .int .i64 e3]) ∧ w'.ownsRow w.heap.size 54 19 v L.length (L.flatMap ncs) ∧ Below w.heap.size w w') :
    Calls Try.prog 20 #[.slice A ns.length k, .int .i64 tw, .bool false] w (HOut (hpkR e1 e2 (dimB W) e3 L O (setV (fitN (hN W h v) (Gl.fit a b c d p q r s (W - x))) a p ((S.length : Int) == 0) (W - x) (0, 0)).1 (setV (fitN (hN W h v) (Gl.fit a b c d p q r s (W - x))) a p ((S.length : Int) == 0) (W - x) (0, 0)).2) w) := by
  have hSl : S.length ≤ 2000 := by have := (partD_len hc).1; rw [hS] at this; exact this
  have HC := Lib.hid (check_any A ns k w (by have := (chk_run hc).1; omega) hseg)
  rw [hc] at HC
  have HD := Lib.hid (fun w => dimen_any tw w)
  rw [ht] at HD
  have HP := Lib.hid (fun w1 (hb : Below w.heap.size w w1) => parted_any A ns k w1 hc hcap (Seg.belowW hseg hb))
  rw [hS] at HP
  have HM := Lib.hid M
  have HMT := Lib.hid M.tot
  have HME := Lib.hid M.ext
  have HW := Lib.hid hw
  obtain ⟨R, hR⟩ : ∃ R, R = hpkR e1 e2 (dimB W) e3 L O (setV (fitN (hN W h v) (Gl.fit a b c d p q r s (W - x))) a p ((S.length : Int) == 0) (W - x) (0, 0)).1 (setV (fitN (hN W h v) (Gl.fit a b c d p q r s (W - x))) a p ((S.length : Int) == 0) (W - x) (0, 0)).2 := ⟨_, rfl⟩
  rw [← hR]
  have HR := Lib.hid hR
  clear hR
  have HWE := Lib.hid hW
  have htw : -1073741823 ≤ tw ∧ tw ≤ 1073741823 := by simpa [dimB] using ht
  clear hseg hc hS M hw hW ht
  generalize ns.length = len at *
  have hb4 := run_bldN 4
  go_enter Try.func20, Try.ntmps20
  go_wp2_with fail
  refine HC.out.mono ?_
  rintro e w1 ⟨rfl, hb1⟩
  go_wp2_with (go_at_call 41; refine (HD.out _).mono ?_; rintro e w' ⟨rfl, rfl⟩)
  refine (HP.out _ hb1).mono ?_
  rintro e w2 ⟨vS, vO, rfl, hO, hb2⟩
  have hb12 := andThen hb1 hb2
  obtain ⟨AS, kS, hvS, hkS⟩ : ∃ A c, vS = .slice A S.length c ∧ S.length ≤ c := by
    obtain ⟨A, c, h1, h2, _⟩ := Src.own hO.one
    exact ⟨A, c, h1, h2⟩
  subst hvS
  have HH := Lib.hid (show Own2 w2 w.heap.size (.slice AS S.length kS) vO S O from ⟨own_base hO.one hb1.size, own_base hO.two hb1.size, hO.dist, hO.dist'⟩)
  have HB2 := Lib.hid hb12
  clear hO hb1 hb2 hb12 HC HP
  generalize hem : ((S.length : Int) == 0) = em
  have HMW := Lib.hid (fun (g : Nat) (bad ov : Int) (A : Option Addr) (k : Nat) (w : World) (hg : Mk w g (fitN (hN W h v) (Gl.fit a b c d p q r s (W - x))) x a b c d p q r s em bad ov 0) (hs : Src w A k S) => mwrap_any g _ x a b c d p q r s em bad ov S L e3 A k w hg HW.out hs)
  clear HW
  generalize hln : S.length = lS at hSl hkS hem HH HMW HMT HME HR ⊢
  have HLS := Lib.hid hln
  have HEM := Lib.hid hem
  clear hln
  go_wp2_with (first | (refine wpList_build_eq (o := ⟨some 32, _, _, _, _, _⟩) rfl _ _ rfl (mkc (nz 4) 0 0 0 0 0 0 0 0 0 em 0 0 0) (by kernel_rfl) ?_))
  have hs0 : Hs w (.slice AS lS kS) vO S O w2.heap.size (nz 4) 0 0 0 0 0 0 0 0 0 em 0 0 0 (w2.alloc (.cells (mkc (nz 4) 0 0 0 0 0 0 0 0 0 em 0 0 0) 97)) := ⟨Blk.new' rfl, HH.out.below (andAlloc (Below.refl _ _) _), andAlloc HB2.out _, HB2.out.size⟩
  clear HH HB2
  generalize w2.alloc (.cells (mkc (nz 4) 0 0 0 0 0 0 0 0 0 em 0 0 0) 97) = w3 at hs0 ⊢
  generalize w2.heap.size = g at hs0 ⊢
  refine (HMT.out AS kS w3 hkS hs0.seg).mono ?_
  rintro e w4 ⟨rfl, hb4'⟩
  have hs4 := hs0.below hb4'
  have hth := mk_there hs4.mkr
  have HS4 := Lib.hid hs4
  clear hs0 hb4' hs4
  have hs5 := HS4.out.turn (grown_cells g _ 19 w4) (mk_tot HS4.out.mkr x a b c d p q r s)
  have HS5 := Lib.hid hs5
  clear hs5
  by_cases he1 : e1 = 0
  · have t1 : (e1 != 0) = false := by simp [he1]
    by_cases he2 : e2 = 0
    · have t2 : (e2 != 0) = false := by simp [he2]
      · skip
        have hnx := HM.out.nat he1
        have hnx' : -1073741823 ≤ x ∧ x ≤ 1073741823 := by simpa [dimB] using hnx
        have HNW := Lib.hid (show Gl.nearB (W - x) = true by unfold Gl.nearB; rw [decide_eq_true_eq]; have := HWE.out; omega)
        clear hnx
        go_upto_region 17 with (first | (refine wpList_store_mid (op := ⟨none, .store _ (.tmp 43) (.tmp 40), _, _, _, _⟩) rfl 69 _ _ rfl g 19 #[.int .i64 x, .int .i64 a, .int .i64 b, .int .i64 c, .int .i64 d, .int .i64 p, .int .i64 q, .int .i64 r, .int .i64 s] ?_ rfl hth tot_info (t9_one _ _ _ _ _ _ _ _ _) ?_; rfl) | (go_at_call 44; refine (HME.out AS kS _ hkS HS5.out.seg).mono ?_; rintro e w6 ⟨rfl, hb6⟩; have HS6 := Lib.hid (HS5.out.below hb6); clear hb6; have hd3 : w6.cell? ⟨g, 3, none⟩ = some (.int .i64 0) := Blk.cell HS6.out.mkr 3; have hf3 := Blk.free HS6.out.mkr 3; have hd4 : w6.cell? ⟨g, 4, none⟩ = some (.int .i64 0) := Blk.cell HS6.out.mkr 4; have hf4 := Blk.free HS6.out.mkr 4; have hd5 : w6.cell? ⟨g, 5, none⟩ = some (.int .i64 0) := Blk.cell HS6.out.mkr 5; have hf5 := Blk.free HS6.out.mkr 5; have hd19 : w6.cell? ⟨g, 19, none⟩ = some (.int .i64 x) := Blk.cell HS6.out.mkr 19) | (go_at_call 41; refine (HD.out _).mono ?_; rintro e w' ⟨rfl, rfl⟩))
        have hs7 := (HS6.out.n45 h v).n3 tw
        have HS7 := Lib.hid hs7
        generalize ((w6.setCell ⟨g, 4, none⟩ (.int .i64 h)).setCell ⟨g, 5, none⟩ (.int .i64 v)).setCell ⟨g, 3, none⟩ (.int .i64 tw) = w7 at HS7 ⊢
        clear hs7 hd3 hf3 hd4 hf4 hd5 hf5 hd19 HS6 HS5 HS4 hth
        have hd3 : w7.cell? ⟨g, 3, none⟩ = some (.int .i64 tw) := Blk.cell HS7.out.mkr 3
        have hd19 : w7.cell? ⟨g, 19, none⟩ = some (.int .i64 x) := Blk.cell HS7.out.mkr 19
        have hsum : IntKind.i64.wrap (tw + x) = W := by rw [HWE.out]; exact IntWalk.i64_in _ (by omega)
        go_still_tail 14, (by kernel_rfl)
        change wpList _ _ _ _ _ w7.drew
        have hs8 := HS7.out.below (Below.drew (Below.refl _ w7))
        generalize w7.drew = w8 at hs8 ⊢
        have HS8 := Lib.hid hs8
        clear hs8 hd3 hd19 HS7 hsum
        have hd3 : w8.cell? ⟨g, 3, none⟩ = some (.int .i64 tw) := Blk.cell HS8.out.mkr 3
        have hf3 := Blk.free HS8.out.mkr 3
        by_cases hdw : dimB W = true
        · have HDW := Lib.hid hdw
          go_upto_region 20 with (go_at_call 41; refine (dimen_any _ _).mono ?_; rintro e w' ⟨rfl, rfl⟩)
          have hs7 := HS8.out.n3 W
          have HS7 := Lib.hid hs7
          generalize w8.setCell ⟨g, 3, none⟩ (.int .i64 W) = w7 at HS7 ⊢
          clear hs7 hd3 hf3 HS8 hdw
          have hd3' : w7.cell? ⟨g, 3, none⟩ = some (.int .i64 W) := Blk.cell HS7.out.mkr 3
          have hd19' : w7.cell? ⟨g, 19, none⟩ = some (.int .i64 x) := Blk.cell HS7.out.mkr 19
          have hsub : IntKind.i64.wrap (W - x) = W - x := IntWalk.i64_in _ (by have := HWE.out; omega)
          go_still_tail 12, (by kernel_rfl)
          change wpList _ _ _ _ _ w7.drew
          have hs8 := HS7.out.below (Below.drew (Below.refl _ w7))
          generalize w7.drew = w8 at hs8 ⊢
          have HS8 := Lib.hid hs8
          clear hs8 hd3' hd19' HS7
          by_cases he3 : e3 = 0
          · have t3 : (e3 != 0) = false := by simp [he3]
            go_upto_region 24 with (first | (go_at_call 43; refine (set_any g (hN W h v) x a b c d p q r s em 0 0 (W - x) _ HS8.out.mkr HNW.out (HM.out.near he1).1 (HM.out.near he1).2.2.2.2.1 (HM.out.near he1).2.1 (HM.out.near he1).2.2.2.2.2.1 (HM.out.near he1).2.2.1 (HM.out.near he1).2.2.2.2.2.2.1 (HM.out.near he1).2.2.2.1 (HM.out.near he1).2.2.2.2.2.2.2).mono ?_; rintro e w9 ⟨rfl, hm9, hg9⟩; have HS9 := Lib.hid (HS8.out.turn hg9 hm9); clear hm9 hg9) | (go_at_call 45; refine (HMW.out g _ _ AS kS _ HS9.out.mkr HS9.out.src).mono ?_; rintro e wq ⟨vL, rfl, hoL, hbL⟩; have HO9 := Lib.hid (And.intro hoL hbL); clear hoL hbL))
            have HK9 := Lib.hid (HS9.out.below HO9.out.2).mkr
            have hd29 : wq.cell? ⟨g, 29, none⟩ = some (.int .i64 (setV (fitN (hN W h v) (Gl.fit a b c d p q r s (W - x))) a p em (W - x) (0, 0)).1) := Blk.cell HK9.out 29
            have hd30 : wq.cell? ⟨g, 30, none⟩ = some (.int .i64 (setV (fitN (hN W h v) (Gl.fit a b c d p q r s (W - x))) a p em (W - x) (0, 0)).2) := Blk.cell HK9.out 30
            have hr : R = (L, O, (setV (fitN (hN W h v) (Gl.fit a b c d p q r s (W - x))) a p em (W - x) (0, 0)).1, (setV (fitN (hN W h v) (Gl.fit a b c d p q r s (W - x))) a p em (W - x) (0, 0)).2, 0) := by rw [HR.out, HEM.out]; unfold hpkR; rw [if_pos he1, if_pos he2, if_pos HDW.out, if_pos he3]
            have HR' := Lib.hid hr
            clear hr HR
            have HO := Lib.hid (fun y z => HS9.out.out HO9.out.1 HO9.out.2 y z)
            generalize (setV (fitN (hN W h v) (Gl.fit a b c d p q r s (W - x))) a p em (W - x) (0, 0)).1 = y1 at *
            generalize (setV (fitN (hN W h v) (Gl.fit a b c d p q r s (W - x))) a p em (W - x) (0, 0)).2 = y2 at *
            go_quiet (fail)
            go_wp2_with fail
            go_returns
            rw [HR'.out]
            exact (HO.out _ _).drewN _
          · have t3 : (e3 != 0) = true := by simp [he3]
            have hr : R = ([], [], 0, 0, e3) := by rw [HR.out]; unfold hpkR; rw [if_pos he1, if_pos he2, if_pos HDW.out, if_neg he3]
            have HR' := Lib.hid hr
            clear hr HR
            go_wp2_with (first | (go_at_call 43; refine (set_any g (hN W h v) x a b c d p q r s em 0 0 (W - x) _ HS8.out.mkr HNW.out (HM.out.near he1).1 (HM.out.near he1).2.2.2.2.1 (HM.out.near he1).2.1 (HM.out.near he1).2.2.2.2.2.1 (HM.out.near he1).2.2.1 (HM.out.near he1).2.2.2.2.2.2.1 (HM.out.near he1).2.2.2.1 (HM.out.near he1).2.2.2.2.2.2.2).mono ?_; rintro e w9 ⟨rfl, hm9, hg9⟩; have HS9 := Lib.hid (HS8.out.turn hg9 hm9); clear hm9 hg9) | (go_at_call 45; refine (HMW.out g _ _ AS kS _ HS9.out.mkr HS9.out.src).mono ?_; rintro e wq ⟨vL, rfl, hoL, hbL⟩; have HO9 := Lib.hid (And.intro hoL hbL); clear hoL hbL))
            go_returns
            rw [HR'.out]
            exact HOut.no (andThen HS9.out.low HO9.out.2) _
        · have hdw' : dimB W = false := by simpa using hdw
          have hr : R = ([], [], 0, 0, 20) := by rw [HR.out]; unfold hpkR; rw [if_pos he1, if_pos he2, if_neg hdw]
          have HR' := Lib.hid hr
          clear hr HR hdw
          go_wp2_with (go_at_call 41; refine (dimen_any _ _).mono ?_; rintro e w' ⟨rfl, rfl⟩)
          go_returns
          rw [HR'.out]
          exact HOut.no (HS8.out.n3 W).low _
    · have t2 : (e2 != 0) = true := by simp [he2]
      have hr : R = ([], [], 0, 0, e2) := by rw [HR.out]; unfold hpkR; rw [if_pos he1, if_neg he2]
      have HR' := Lib.hid hr
      clear hr HR
      go_wp2_with (first | (refine wpList_store_mid (op := ⟨none, .store _ (.tmp 43) (.tmp 40), _, _, _, _⟩) rfl 69 _ _ rfl g 19 #[.int .i64 x, .int .i64 a, .int .i64 b, .int .i64 c, .int .i64 d, .int .i64 p, .int .i64 q, .int .i64 r, .int .i64 s] ?_ rfl hth tot_info (t9_one _ _ _ _ _ _ _ _ _) ?_; rfl) | (go_at_call 44; refine (HME.out AS kS _ hkS HS5.out.seg).mono ?_; rintro e w6 ⟨rfl, hb6⟩; have HS6 := Lib.hid (HS5.out.below hb6); clear hb6; have hd3 : w6.cell? ⟨g, 3, none⟩ = some (.int .i64 0) := Blk.cell HS6.out.mkr 3; have hf3 := Blk.free HS6.out.mkr 3; have hd4 : w6.cell? ⟨g, 4, none⟩ = some (.int .i64 0) := Blk.cell HS6.out.mkr 4; have hf4 := Blk.free HS6.out.mkr 4; have hd5 : w6.cell? ⟨g, 5, none⟩ = some (.int .i64 0) := Blk.cell HS6.out.mkr 5; have hf5 := Blk.free HS6.out.mkr 5; have hd19 : w6.cell? ⟨g, 19, none⟩ = some (.int .i64 x) := Blk.cell HS6.out.mkr 19))
      go_returns
      rw [HR'.out]
      exact HOut.no (HS6.out.n45 h v).low _
  · have t1 : (e1 != 0) = true := by simp [he1]
    have hr : R = ([], [], 0, 0, e1) := by rw [HR.out]; unfold hpkR; rw [if_neg he1]
    have HR' := Lib.hid hr
    clear hr HR
    go_wp2_with (refine wpList_store_mid (op := ⟨none, .store _ (.tmp 43) (.tmp 40), _, _, _, _⟩) rfl 69 _ _ rfl g 19 #[.int .i64 x, .int .i64 a, .int .i64 b, .int .i64 c, .int .i64 d, .int .i64 p, .int .i64 q, .int .i64 r, .int .i64 s] ?_ rfl hth tot_info (t9_one _ _ _ _ _ _ _ _ _) ?_; rfl)
    go_returns
    rw [HR'.out]
    exact HOut.no HS5.out.low _
end Go.Proofs.Ytoboecenlangmaa.Pk
end
section
namespace Go.Proofs.Ytoboecenlangmaa.Pk
open Go.ChangeShapes Go.WideShapes Go.ChangeAt Go.RowKit
open Me Np No
set_option linter.unusedVariables false
set_option linter.unusedSimpArgs false

theorem hpack_main (A : Option Addr) (ns S O L : List Nd) (k : Nat) (tw : Int) (ex : Bool) (w : World) (hc : chk ns = 0) (hcap : ns.length ≤ k) (hseg : Seg w w.heap.size A (ns.flatMap ncs)) (ht : dimB tw = true) (hS : partD ns = (S, O)) (x a b c d p q r s e1 h v e2 e3 W : Int) (M : Msr S false x a b c d p q r s e1 h v e2)
    (hW : W = if ex = true then tw else tw + x)
    (hw : ∀ (A : Option Addr) (c' : Nat) (w : World), Src w A c' S → Calls Try.prog 79 #[.agg (nc (fitN (hN W h v) (Gl.fit a b c d p q r s (W - x)))), .slice A S.length c'] w fun e' w' => ∃ v, e' = .returned (.tuple #[v, .int .i64 e3]) ∧ w'.ownsRow w.heap.size 54 19 v L.length (L.flatMap ncs) ∧ Below w.heap.size w w') :
    Calls Try.prog 20 #[.slice A ns.length k, .int .i64 tw, .bool ex] w (HOut (hpkR e1 e2 (dimB W) e3 L O (setV (fitN (hN W h v) (Gl.fit a b c d p q r s (W - x))) a p ((S.length : Int) == 0) (W - x) (0, 0)).1 (setV (fitN (hN W h v) (Gl.fit a b c d p q r s (W - x))) a p ((S.length : Int) == 0) (W - x) (0, 0)).2) w) := by
  cases ex with
  | true => exact hpack_t A ns S O L k tw w hc hcap hseg ht hS x a b c d p q r s e1 h v e2 e3 W M hW hw
  | false => exact hpack_f A ns S O L k tw w hc hcap hseg ht hS x a b c d p q r s e1 h v e2 e3 W M hW hw
end Go.Proofs.Ytoboecenlangmaa.Pk
end
section
namespace Go.Proofs.Ytoboecenlangmaa.No
open Go.ChangeShapes Go.WideShapes Go.ChangeAt Go.RowKit
open Me Np
set_option linter.unusedVariables false
set_option linter.unusedSimpArgs false

attribute [local go_sem ↓] ldN_eq bldN_eq
set_option maxHeartbeats 2000000 in
set_option maxRecDepth 100000 in
theorem wrap_r (n : Nd) (A : Option Addr) (l : List Nd) (c : Nat) (w : World) (hr : right n = false) :
    Calls Try.prog 79 #[.agg (nc n), .slice A l.length c] w fun e w' => e = .returned (.tuple #[.slice none 0 0, .int .i64 1]) ∧ Below w.heap.size w w' := by
  have HR := Lib.hid hr
  clear hr
  generalize l.length = len at *
  go_enter Try.func79, Try.ntmps79
  go_wp2_with fail
  refine (kinds_any _).mono ?_
  rintro e w1 ⟨rfl, hq, hz1, hb1⟩
  have HQ := Lib.hid hq
  have HZ1 := Lib.hid hz1
  have hn1 : NodeAt w1 w.heap.size 0 n := NodeAt.below (Blk.node (Blk.new' rfl)) hb1 (by simp)
  have hl1 : Below w.heap.size w w1 := andThen (andAlloc (Below.refl _ _) _) hb1
  clear hq hz1 hb1
  have hld1 : ∀ o : Obj, (ldN ⟨w.heap.size, 0, none⟩).run Try.prog (w1.alloc o) = .ok (.agg (nc n)) (w1.alloc o) := fun o => run_ldN (hn1.alloc o)
  go_wp2_with (first
    | (refine wpList_store_row rfl 117 _ _ rfl w1.heap.size (ktab (w.heap.size + 1 + 1)) rfl rfl 117 Try.zeroCells117 (Blk.new' rfl) (by rw [ktab_size]; exact kinds_info) (by rw [ktab_size]; exact zero_size) (ktab_one _) ?_)
    | fail)
  have hq2 : (w1.alloc (.cells (ktab (w.heap.size + 1 + 1)) 117)).cell? ⟨w.heap.size + 1 + 1, 0, none⟩ = some (.func (.func 87) #[] #[]) := by
    have h1 := HQ.out
    have h2 := HZ1.out
    simp at h1 h2
    exact (World.cell?_alloc_past (w := w1) _ _ _ (by omega)).trans h1
  have hw2 := andAlloc hl1 (.cells (ktab (w.heap.size + 1 + 1)) 117)
  have hn2 := hn1.alloc (.cells (ktab (w.heap.size + 1 + 1)) 117)
  refine (right_any n w1.heap.size (w.heap.size + 1 + 1) _ (Blk.new' rfl) hq2).mono ?_
  rintro e w2 ⟨rfl, hb2⟩
  have hl2 := andThen hw2 hb2
  have hn2' := hn2.below hb2 hn2.lt
  have hc2 : w2.cell? ⟨w.heap.size, 0, none⟩ = some (.int .i64 n.kind) := hn2' 0 _ rfl
  have hz2 := hn2'.lt
  rw [HR.out]
  clear hq2 hw2 hn2 hb2 hn1 hl1 HQ HZ1 hld1
  go_wp2_with fail
  go_ret2
  exact ⟨rfl, hl2⟩
set_option maxHeartbeats 2000000 in
set_option maxRecDepth 100000 in
theorem wrap_o (n : Nd) (A : Option Addr) (l : List Nd) (c : Nat) (w : World) (hr : right n = true) (ho : opensB n = false) :
    Calls Try.prog 79 #[.agg (nc n), .slice A l.length c] w fun e w' => e = .returned (.tuple #[.slice none 0 0, .int .i64 1]) ∧ Below w.heap.size w w' := by
  have HR := Lib.hid hr
  have HO := Lib.hid ho
  clear hr ho
  generalize l.length = len at *
  go_enter Try.func79, Try.ntmps79
  go_wp2_with fail
  refine (kinds_any _).mono ?_
  rintro e w1 ⟨rfl, hq, hz1, hb1⟩
  have HQ := Lib.hid hq
  have HZ1 := Lib.hid hz1
  have hn1 : NodeAt w1 w.heap.size 0 n := NodeAt.below (Blk.node (Blk.new' rfl)) hb1 (by simp)
  have hl1 : Below w.heap.size w w1 := andThen (andAlloc (Below.refl _ _) _) hb1
  clear hq hz1 hb1
  have hld1 : ∀ o : Obj, (ldN ⟨w.heap.size, 0, none⟩).run Try.prog (w1.alloc o) = .ok (.agg (nc n)) (w1.alloc o) := fun o => run_ldN (hn1.alloc o)
  go_wp2_with (first
    | (refine wpList_store_row rfl 117 _ _ rfl w1.heap.size (ktab (w.heap.size + 1 + 1)) rfl rfl 117 Try.zeroCells117 (Blk.new' rfl) (by rw [ktab_size]; exact kinds_info) (by rw [ktab_size]; exact zero_size) (ktab_one _) ?_)
    | fail)
  have hq2 : (w1.alloc (.cells (ktab (w.heap.size + 1 + 1)) 117)).cell? ⟨w.heap.size + 1 + 1, 0, none⟩ = some (.func (.func 87) #[] #[]) := by
    have h1 := HQ.out
    have h2 := HZ1.out
    simp at h1 h2
    exact (World.cell?_alloc_past (w := w1) _ _ _ (by omega)).trans h1
  have hw2 := andAlloc hl1 (.cells (ktab (w.heap.size + 1 + 1)) 117)
  have hn2 := hn1.alloc (.cells (ktab (w.heap.size + 1 + 1)) 117)
  refine (right_any n w1.heap.size (w.heap.size + 1 + 1) _ (Blk.new' rfl) hq2).mono ?_
  rintro e w2 ⟨rfl, hb2⟩
  have hl2 := andThen hw2 hb2
  have hn2' := hn2.below hb2 hn2.lt
  have hc2 : w2.cell? ⟨w.heap.size, 0, none⟩ = some (.int .i64 n.kind) := hn2' 0 _ rfl
  have hz2 := hn2'.lt
  rw [HR.out]
  have hld2 : (ldN ⟨w.heap.size, 0, none⟩).run Try.prog w2 = .ok (.agg (nc n)) w2 := run_ldN hn2'
  have hld3 : ∀ o : Obj, (ldN ⟨w.heap.size, 0, none⟩).run Try.prog (w2.alloc o) = .ok (.agg (nc n)) (w2.alloc o) := fun o => run_ldN (hn2'.alloc o)
  clear hq2 hw2 hn2 hb2 hn1 hl1 HQ HZ1 hld1
  go_wp2_with (first
    | (go_at_call 53; (with_reducible refine (opens_any _ _).mono ?_); rintro e w' ⟨rfl, rfl⟩; simp only [HO.out]))
  go_ret2
  exact ⟨rfl, andAlloc hl2 _⟩
set_option maxHeartbeats 2000000 in
set_option maxRecDepth 100000 in
theorem wrap_d (n : Nd) (A : Option Addr) (l : List Nd) (c : Nat) (w : World) (hr : right n = true) (ho : opensB n = true) (h10 : n.kind = 10) :
    Calls Try.prog 79 #[.agg (nc n), .slice A l.length c] w fun e w' => e = .returned (.tuple #[.slice none 0 0, .int .i64 1]) ∧ Below w.heap.size w w' := by
  have HR := Lib.hid hr
  have HO := Lib.hid ho
  have e10 : (n.kind == 10) = true := by simp [h10]
  clear hr ho h10
  generalize l.length = len at *
  go_enter Try.func79, Try.ntmps79
  go_wp2_with fail
  refine (kinds_any _).mono ?_
  rintro e w1 ⟨rfl, hq, hz1, hb1⟩
  have HQ := Lib.hid hq
  have HZ1 := Lib.hid hz1
  have hn1 : NodeAt w1 w.heap.size 0 n := NodeAt.below (Blk.node (Blk.new' rfl)) hb1 (by simp)
  have hl1 : Below w.heap.size w w1 := andThen (andAlloc (Below.refl _ _) _) hb1
  clear hq hz1 hb1
  have hld1 : ∀ o : Obj, (ldN ⟨w.heap.size, 0, none⟩).run Try.prog (w1.alloc o) = .ok (.agg (nc n)) (w1.alloc o) := fun o => run_ldN (hn1.alloc o)
  go_wp2_with (first
    | (refine wpList_store_row rfl 117 _ _ rfl w1.heap.size (ktab (w.heap.size + 1 + 1)) rfl rfl 117 Try.zeroCells117 (Blk.new' rfl) (by rw [ktab_size]; exact kinds_info) (by rw [ktab_size]; exact zero_size) (ktab_one _) ?_)
    | fail)
  have hq2 : (w1.alloc (.cells (ktab (w.heap.size + 1 + 1)) 117)).cell? ⟨w.heap.size + 1 + 1, 0, none⟩ = some (.func (.func 87) #[] #[]) := by
    have h1 := HQ.out
    have h2 := HZ1.out
    simp at h1 h2
    exact (World.cell?_alloc_past (w := w1) _ _ _ (by omega)).trans h1
  have hw2 := andAlloc hl1 (.cells (ktab (w.heap.size + 1 + 1)) 117)
  have hn2 := hn1.alloc (.cells (ktab (w.heap.size + 1 + 1)) 117)
  refine (right_any n w1.heap.size (w.heap.size + 1 + 1) _ (Blk.new' rfl) hq2).mono ?_
  rintro e w2 ⟨rfl, hb2⟩
  have hl2 := andThen hw2 hb2
  have hn2' := hn2.below hb2 hn2.lt
  have hc2 : w2.cell? ⟨w.heap.size, 0, none⟩ = some (.int .i64 n.kind) := hn2' 0 _ rfl
  have hz2 := hn2'.lt
  rw [HR.out]
  have hld2 : (ldN ⟨w.heap.size, 0, none⟩).run Try.prog w2 = .ok (.agg (nc n)) w2 := run_ldN hn2'
  have hld3 : ∀ o : Obj, (ldN ⟨w.heap.size, 0, none⟩).run Try.prog (w2.alloc o) = .ok (.agg (nc n)) (w2.alloc o) := fun o => run_ldN (hn2'.alloc o)
  clear hq2 hw2 hn2 hb2 hn1 hl1 HQ HZ1 hld1
  go_wp2_with (first
    | (go_at_call 53; (with_reducible refine (opens_any _ _).mono ?_); rintro e w' ⟨rfl, rfl⟩; simp only [HO.out]))
  go_ret2
  exact ⟨rfl, andAlloc hl2 _⟩
set_option maxHeartbeats 2000000 in
set_option maxRecDepth 100000 in
theorem wrap_c (n : Nd) (A : Option Addr) (l : List Nd) (c : Nat) (w : World) (hl : l.length ≤ 9223372036854775806) (hseg : Seg w w.heap.size A (l.flatMap ncs)) (hr : right n = true) (ho : opensB n = true) (h10 : ¬ n.kind = 10) (hc : ¬ chk l = 0) :
    Calls Try.prog 79 #[.agg (nc n), .slice A l.length c] w fun e w' => e = .returned (.tuple #[.slice none 0 0, .int .i64 (chk l)]) ∧ Below w.heap.size w w' := by
  have e10 : (n.kind == 10) = false := by simp [h10]
  have HO := Lib.hid ho
  have HR := Lib.hid hr
  have HC := Lib.hid fun w1 (h : Below w.heap.size w w1) => check_any A l c w1 (by omega) (Seg.belowW hseg h)
  have e0 : (chk l != 0) = true := by simp [hc]
  clear hc ho hr hseg h10
  generalize chk l = q0 at *
  generalize l.length = len at *
  go_enter Try.func79, Try.ntmps79
  go_wp2_with fail
  refine (kinds_any _).mono ?_
  rintro e w1 ⟨rfl, hq, hz1, hb1⟩
  have HQ := Lib.hid hq
  have HZ1 := Lib.hid hz1
  have hn1 : NodeAt w1 w.heap.size 0 n := NodeAt.below (Blk.node (Blk.new' rfl)) hb1 (by simp)
  have hl1 : Below w.heap.size w w1 := andThen (andAlloc (Below.refl _ _) _) hb1
  clear hq hz1 hb1
  have hld1 : ∀ o : Obj, (ldN ⟨w.heap.size, 0, none⟩).run Try.prog (w1.alloc o) = .ok (.agg (nc n)) (w1.alloc o) := fun o => run_ldN (hn1.alloc o)
  go_wp2_with (first
    | (refine wpList_store_row rfl 117 _ _ rfl w1.heap.size (ktab (w.heap.size + 1 + 1)) rfl rfl 117 Try.zeroCells117 (Blk.new' rfl) (by rw [ktab_size]; exact kinds_info) (by rw [ktab_size]; exact zero_size) (ktab_one _) ?_)
    | fail)
  have hq2 : (w1.alloc (.cells (ktab (w.heap.size + 1 + 1)) 117)).cell? ⟨w.heap.size + 1 + 1, 0, none⟩ = some (.func (.func 87) #[] #[]) := by
    have h1 := HQ.out
    have h2 := HZ1.out
    simp at h1 h2
    exact (World.cell?_alloc_past (w := w1) _ _ _ (by omega)).trans h1
  have hw2 := andAlloc hl1 (.cells (ktab (w.heap.size + 1 + 1)) 117)
  have hn2 := hn1.alloc (.cells (ktab (w.heap.size + 1 + 1)) 117)
  refine (right_any n w1.heap.size (w.heap.size + 1 + 1) _ (Blk.new' rfl) hq2).mono ?_
  rintro e w2 ⟨rfl, hb2⟩
  have hl2 := andThen hw2 hb2
  have hn2' := hn2.below hb2 hn2.lt
  have hc2 : w2.cell? ⟨w.heap.size, 0, none⟩ = some (.int .i64 n.kind) := hn2' 0 _ rfl
  have hz2 := hn2'.lt
  rw [HR.out]
  have hld2 : (ldN ⟨w.heap.size, 0, none⟩).run Try.prog w2 = .ok (.agg (nc n)) w2 := run_ldN hn2'
  have hld3 : ∀ o : Obj, (ldN ⟨w.heap.size, 0, none⟩).run Try.prog (w2.alloc o) = .ok (.agg (nc n)) (w2.alloc o) := fun o => run_ldN (hn2'.alloc o)
  clear hq2 hw2 hn2 hb2 hn1 hl1 HQ HZ1 hld1
  go_wp2_with (first
    | (go_at_call 53; (with_reducible refine (opens_any _ _).mono ?_); rintro e w' ⟨rfl, rfl⟩; simp only [HO.out]))
  have hl3 := andAlloc hl2 (.cells (nc n) 54)
  have hn3 := hn2'.alloc (.cells (nc n) 54)
  refine (HC.out _ hl3).mono ?_
  rintro e w3 ⟨rfl, hb3⟩
  have HL3 := Lib.hid (andThen hl3 hb3)
  clear hl2 hn2' hc2 hz2 hld2 hld3 hl3 hn3 hb3 HC
  go_wp2_with fail
  go_ret2
  exact ⟨rfl, HL3.out⟩
set_option maxHeartbeats 2000000 in
set_option maxRecDepth 100000 in
theorem wrap_w (n : Nd) (A : Option Addr) (l : List Nd) (c : Nat) (w : World) (hsrc : Src w A c l) (hr : right n = true) (ho : opensB n = true) (h10 : ¬ n.kind = 10) (hc : chk l = 0) (hw : ¬ chk (wrapL n l) = 0) :
    Calls Try.prog 79 #[.agg (nc n), .slice A l.length c] w fun e w' => e = .returned (.tuple #[.slice none 0 0, .int .i64 (chk (wrapL n l))]) ∧ Below w.heap.size w w' := by
  have hl := (chk_run hc).1
  have e10 : (n.kind == 10) = false := by simp [h10]
  have HO := Lib.hid ho
  have HR := Lib.hid hr
  have HC := Lib.hid fun w1 (h : Below w.heap.size w w1) => check_any A l c w1 (by omega) (Src.below hsrc h).seg
  have HE := Lib.hid hc
  have HS := Lib.hid hsrc
  have e0 : (chk (wrapL n l) != 0) = true := by simp [hw]
  generalize hqw : chk (wrapL n l) = q0 at *
  have HQW := Lib.hid hqw
  rw [HE.out] at HC
  clear hc ho hr hsrc hw h10 hqw
  go_enter Try.func79, Try.ntmps79
  go_wp2_with fail
  refine (kinds_any _).mono ?_
  rintro e w1 ⟨rfl, hq, hz1, hb1⟩
  have HQ := Lib.hid hq
  have HZ1 := Lib.hid hz1
  have hn1 : NodeAt w1 w.heap.size 0 n := NodeAt.below (Blk.node (Blk.new' rfl)) hb1 (by simp)
  have hl1 : Below w.heap.size w w1 := andThen (andAlloc (Below.refl _ _) _) hb1
  clear hq hz1 hb1
  have hld1 : ∀ o : Obj, (ldN ⟨w.heap.size, 0, none⟩).run Try.prog (w1.alloc o) = .ok (.agg (nc n)) (w1.alloc o) := fun o => run_ldN (hn1.alloc o)
  go_wp2_with (first
    | (refine wpList_store_row rfl 117 _ _ rfl w1.heap.size (ktab (w.heap.size + 1 + 1)) rfl rfl 117 Try.zeroCells117 (Blk.new' rfl) (by rw [ktab_size]; exact kinds_info) (by rw [ktab_size]; exact zero_size) (ktab_one _) ?_)
    | fail)
  have hq2 : (w1.alloc (.cells (ktab (w.heap.size + 1 + 1)) 117)).cell? ⟨w.heap.size + 1 + 1, 0, none⟩ = some (.func (.func 87) #[] #[]) := by
    have h1 := HQ.out
    have h2 := HZ1.out
    simp at h1 h2
    exact (World.cell?_alloc_past (w := w1) _ _ _ (by omega)).trans h1
  have hw2 := andAlloc hl1 (.cells (ktab (w.heap.size + 1 + 1)) 117)
  have hn2 := hn1.alloc (.cells (ktab (w.heap.size + 1 + 1)) 117)
  refine (right_any n w1.heap.size (w.heap.size + 1 + 1) _ (Blk.new' rfl) hq2).mono ?_
  rintro e w2 ⟨rfl, hb2⟩
  have hl2 := andThen hw2 hb2
  have hn2' := hn2.below hb2 hn2.lt
  have hc2 : w2.cell? ⟨w.heap.size, 0, none⟩ = some (.int .i64 n.kind) := hn2' 0 _ rfl
  have hz2 := hn2'.lt
  rw [HR.out]
  have hld2 : (ldN ⟨w.heap.size, 0, none⟩).run Try.prog w2 = .ok (.agg (nc n)) w2 := run_ldN hn2'
  have hld3 : ∀ o : Obj, (ldN ⟨w.heap.size, 0, none⟩).run Try.prog (w2.alloc o) = .ok (.agg (nc n)) (w2.alloc o) := fun o => run_ldN (hn2'.alloc o)
  clear hq2 hw2 hn2 hb2 hn1 hl1 HQ HZ1 hld1
  go_wp2_with (first
    | (go_at_call 53; (with_reducible refine (opens_any _ _).mono ?_); rintro e w' ⟨rfl, rfl⟩; simp only [HO.out]))
  have hl3 := andAlloc hl2 (.cells (nc n) 54)
  have hn3 := hn2'.alloc (.cells (nc n) 54)
  refine (HC.out _ hl3).mono ?_
  rintro e w3 ⟨rfl, hb3⟩
  have HL3 := Lib.hid (andThen hl3 hb3)
  have hn4 := hn3.below hb3 hn3.lt
  have hld4 : (ldN ⟨w.heap.size, 0, none⟩).run Try.prog w3 = .ok (.agg (nc n)) w3 := run_ldN hn4
  have hb6 := run_bldN 6
  have HSR := Lib.hid (fun (W : World) (h : Below w.heap.size w W) => Src.below HS.out h)
  have HO1 := Lib.hid (own_one w3 n)
  have HLA := Lib.hid (andAlloc HL3.out (.cells (nc n) 54))
  clear hl2 hn2' hc2 hz2 hld2 hld3 hl3 hn3 hb3 hn4 HC
  go_wp2_with (first
    | (refine wpList_ex (o := ⟨some 30, _, _, _, _, _⟩) (v := .slice (some ⟨w3.heap.size, 0, none⟩) 1 1) (w' := w3.alloc (.cells (nc n) 54)) rfl (by kernel_rfl) ?_)
    | (at_builtin; refine wpList_append_nodes rfl (.tmp 30) (.tmp 31) rfl w3.heap.size ?_ _ 1 _ rfl HO1.out A c l rfl (HSR.out _ HLA.out) ?_ ?_; simp; omega; intro v1 W1 hown1 hg1; have hlw1 : Below w.heap.size w W1 := below_grown (Nat.le_refl _) HLA.out hg1 (fun g hg => by have hh := HL3.out.size; have hg' : some w3.heap.size = some g := hg; injection hg' with hg'; omega))
    | (refine wpList_build_eq (o := ⟨some 34, _, _, _, _, _⟩) rfl _ _ rfl (nc (nz 6)) (by kernel_rfl) ?_)
    | (refine wpList_ex (o := ⟨some 35, _, _, _, _, _⟩) (v := .slice (some ⟨W1.heap.size, 0, none⟩) 1 1) (w' := W1.alloc (.cells (nc (nz 6)) 54)) rfl (by kernel_rfl) ?_)
    | (at_builtin; refine wpList_push rfl (.tmp 33) (.tmp 35) 34 rfl w3.heap.size 54 _ 19 160 Try.underlying34 node_row rfl (by decide) (by decide) _ _ _ rfl hown1 ?_ _ rfl rfl rfl rfl ?_ ?_; (have hh := hg1.size; simp at hh; omega); omega; intro v2 W2 hown2 hg2 hnn2)
    | fail)
  have hg2' : (W1.alloc (.cells (nc (nz 6)) 54)).grownBy W2 v1.ownBlock := hg2
  clear hg2 hnn2
  have hlw2 : Below w.heap.size w W2 := below_grown (Nat.le_refl _) (andAlloc hlw1 _) hg2' (fun g hg => by
    have h1 := hown1.lt g hg
    have h2 := HL3.out.size
    omega)
  have hfl : (wrapL n l).flatMap ncs = ncs n ++ l.flatMap ncs ++ (nc (nz 6)).toList := by
    show _ = ncs n ++ l.flatMap ncs ++ ncs (nz 6)
    simp [wrapL, List.flatMap_append]
  have hln : 1 + l.length + 1 = (wrapL n l).length := by
    simp [wrapL]
    omega
  rw [← hfl, hln] at hown2
  have HOW := Lib.hid (own_base hown2 (show w.heap.size ≤ w3.heap.size from HL3.out.size))
  obtain ⟨A2, c2, rfl, hc2, hm2, hs2⟩ := Seg.of_own hown2
  have hch := check_any A2 (wrapL n l) c2 W2 (by rw [← hln]; omega) hs2
  rw [HQW.out] at hch
  have HLW2 := Lib.hid hlw2
  clear hg2' hown2 hown1 hg1 hlw1 hlw2 hfl hs2 hm2 HSR HO1 HLA hld4 hb6
  generalize hwl : (wrapL n l).length = wl at *
  have HWL := Lib.hid hwl
  clear hwl
  refine hch.mono ?_
  rintro e w5 ⟨rfl, hb5⟩
  have HLF := Lib.hid (andThen HLW2.out hb5)
  clear hch hb5 HOW HLW2
  go_wp2_with fail
  go_ret2
  exact ⟨rfl, HLF.out⟩
end Go.Proofs.Ytoboecenlangmaa.No
end
section
namespace Go.Proofs.Ytoboecenlangmaa.Pk
open Go.ChangeShapes Go.WideShapes Go.ChangeAt Go.RowKit
open Me Np No
set_option linter.unusedVariables false
set_option linter.unusedSimpArgs false

/-- How long a list is; how high (along a row) or how wide (down a column). -/
noncomputable def natD (l : List Nd) (down : Bool) : Int := (totR l down (itsD l)).nat
noncomputable def extH (l : List Nd) (down : Bool) : Int := if (dimB (extD l down (itsD l)).1 && dimB (extD l down (itsD l)).2) = true then (extD l down (itsD l)).1 else 0
/-- What a list's measures are, where it is one: the program's. -/
theorem msr_prog (l : List Nd) (down : Bool) (hc : chk l = 0) : ∃ x a b c d p q r s e1 h v e2, Msr l down x a b c d p q r s e1 h v e2 ∧ (e1 = 0 ∨ e1 = 20) ∧ x = natD l down ∧ h = extH l down := by
  obtain ⟨xs, hx⟩ := its_of_chk hc
  have hT := totR_len l down xs
  have hB := totD_tb down hc hx
  have hND : natD l down = (totR l down xs).nat := by unfold natD; rw [itsD_of hx]
  have hEH : extH l down = if (dimB (extD l down xs).1 && dimB (extD l down xs).2) = true then (extD l down xs).1 else 0 := by unfold extH; rw [itsD_of hx]
  obtain ⟨⟨x, st, sh⟩, hTe⟩ : ∃ T, totR l down xs = T := ⟨_, rfl⟩
  rw [hTe] at hT hND
  match st, sh, hT.1, hT.2 with
  | [a, b, c, d], [p, q, r, s], _, _ =>
  have ht := fun A k w h hs => totals_any A l k xs down w hc h hs hx
  simp only [hTe] at ht
  obtain ⟨ext, hext⟩ : ∃ E, extD l down xs = E := ⟨_, rfl⟩
  have hu := fun A k w h hs => extent_good A l k xs down w hc h hs hx
  simp only [hext] at hu hEH
  refine ⟨x, a, b, c, d, p, q, r, s, _, _, _, _, ⟨ht, hu, ?_, ?_, ?_, ?_⟩, ?_, hND.symm, hEH.symm⟩
  · intro h0
    have hd : dimB (totD l down xs).nat = true := by
      by_cases hd : dimB (totD l down xs).nat = true
      · exact hd
      · rw [if_neg hd] at h0; cases h0
    have : totR l down xs = totD l down xs := if_pos hd
    rw [hTe] at this
    rw [← this] at hd
    exact hd
  · intro h0
    have hd : dimB (totD l down xs).nat = true := by
      by_cases hd : dimB (totD l down xs).nat = true
      · exact hd
      · rw [if_neg hd] at h0; cases h0
    have he : totR l down xs = totD l down xs := if_pos hd
    rw [hTe] at he
    rw [← he] at hB
    exact ⟨near_of (hB.st 0), near_of (hB.st 1), near_of (hB.st 2), near_of (hB.st 3), near_of (hB.sh 0), near_of (hB.sh 1), near_of (hB.sh 2), near_of (hB.sh 3)⟩
  · intro _
    split
    · exact .inl rfl
    · exact .inr rfl
  · intro h0
    split at h0
    · rename_i h1
      rw [if_pos h1, if_pos h1]
      simp only [Bool.and_eq_true] at h1
      exact h1
    · cases h0
  · split
    · exact .inl rfl
    · exact .inr rfl
/-- Wrap, of a list. -/
theorem pwrp_case (n : Nd) (ns : List Nd) (hc : chk ns = 0) : ∃ L e, ((e = 0 ∧ L = wrapL n ns ∧ chk (wrapL n ns) = 0 ∧ opensB n = true ∧ right n = true) ∨ (¬ e = 0 ∧ L = [])) ∧ ∀ (A : Option Addr) (c : Nat) (w : World), Src w A c ns →
    Calls Try.prog 79 #[.agg (nc n), .slice A ns.length c] w fun e' w' => ∃ v, e' = .returned (.tuple #[v, .int .i64 e]) ∧ w'.ownsRow w.heap.size 54 19 v L.length (L.flatMap ncs) ∧ Below w.heap.size w w' := by
  cases hr : right n
  · refine ⟨[], 1, .inr ⟨by omega, rfl⟩, fun A c w hs => (wrap_r n A ns c w hr).mono ?_⟩
    rintro e w' ⟨rfl, hb⟩; exact ⟨_, rfl, World.ownsRow_nil _ _ _ _, hb⟩
  · cases ho : opensB n
    · refine ⟨[], 1, .inr ⟨by omega, rfl⟩, fun A c w hs => (wrap_o n A ns c w hr ho).mono ?_⟩
      rintro e w' ⟨rfl, hb⟩; exact ⟨_, rfl, World.ownsRow_nil _ _ _ _, hb⟩
    · by_cases h10 : n.kind = 10
      · refine ⟨[], 1, .inr ⟨by omega, rfl⟩, fun A c w hs => (wrap_d n A ns c w hr ho h10).mono ?_⟩
        rintro e w' ⟨rfl, hb⟩; exact ⟨_, rfl, World.ownsRow_nil _ _ _ _, hb⟩
      · by_cases hw : chk (wrapL n ns) = 0
        · refine ⟨wrapL n ns, 0, .inl ⟨rfl, rfl, hw, rfl, rfl⟩, fun A c w hs => (wrap_ok n A ns c w hs hr ho h10 hc hw).mono ?_⟩
          rintro e w' ⟨v, rfl, h, hb⟩; exact ⟨v, rfl, h, hb⟩
        · refine ⟨[], chk (wrapL n ns), .inr ⟨hw, rfl⟩, fun A c w hs => (wrap_w n A ns c w hs hr ho h10 hc hw).mono ?_⟩
          rintro e w' ⟨rfl, hb⟩; exact ⟨_, rfl, World.ownsRow_nil _ _ _ _, hb⟩
/-- A row that is packed. -/
def HpkG (ns : List Nd) (tw : Int) (ex : Bool) (R : List Nd × List Nd × Int × Int × Int) : Prop :=
  ∃ S O x a b c d p q r s h v W F, partD ns = (S, O) ∧ chk ns = 0 ∧ Msr S false x a b c d p q r s 0 h v 0 ∧ W = (if ex = true then tw else tw + x) ∧ dimB W = true ∧ F = Gl.fit a b c d p q r s (W - x) ∧ chk (wrapL (fitN (hN W h v) F) S) = 0 ∧
    R = (wrapL (fitN (hN W h v) F) S, O, (setV (fitN (hN W h v) F) a p ((S.length : Int) == 0) (W - x) (0, 0)).1, (setV (fitN (hN W h v) F) a p ((S.length : Int) == 0) (W - x) (0, 0)).2, 0)
def HpkN (R : List Nd × List Nd × Int × Int × Int) : Prop := R.1 = [] ∧ R.2.1 = [] ∧ R.2.2.1 = 0 ∧ R.2.2.2.1 = 0 ∧ ¬ R.2.2.2.2 = 0
theorem hpk1_case (ns : List Nd) (tw : Int) (ex : Bool) (hl : ns.length ≤ 9223372036854775806) : ∃ R, R.1.length ≤ 2002 ∧ R.2.1.length ≤ 2000 ∧ (HpkG ns tw ex R ∨ HpkN R) ∧
    ∀ (A : Option Addr) (k : Nat) (w : World), ns.length ≤ k → Seg w w.heap.size A (ns.flatMap ncs) → Calls Try.prog 20 #[.slice A ns.length k, .int .i64 tw, .bool ex] w (HOut R w) := by
  by_cases hc : chk ns = 0
  · cases ht : dimB tw
    · exact ⟨([], [], 0, 0, 11), by simp, by simp, .inr ⟨rfl, rfl, rfl, rfl, by simp⟩, fun A k w hk hs => hpack_far A ns k tw ex w hl hs hc ht⟩
    · obtain ⟨S, O, hS⟩ : ∃ S O, partD ns = (S, O) := ⟨_, _, rfl⟩
      have hlen := partD_len hc
      have hchk := partD_chk hc
      rw [hS] at hlen hchk
      obtain ⟨x, a, b, c, d, p, q, r, s, e1, h, v, e2, M, h20, hxN, hhE⟩ := msr_prog S false hchk.1
      obtain ⟨W, hW⟩ : ∃ W, W = if ex = true then tw else tw + x := ⟨_, rfl⟩
      obtain ⟨L, e3, hL, hP⟩ := pwrp_case (fitN (hN W h v) (Gl.fit a b c d p q r s (W - x))) S hchk.1
      have hm := fun A k w hk hs => hpack_main A ns S O L k tw ex w hc hk hs ht hS x a b c d p q r s e1 h v e2 e3 W M hW hP
      by_cases h1 : e1 = 0
      · by_cases h2 : e2 = 0
        · by_cases h3 : dimB W = true
          · rcases hL with ⟨h4, rfl, hcw, ho, hrt⟩ | ⟨h4, rfl⟩
            · subst h1 h2 h4
              refine ⟨_, ?_, ?_, .inl ⟨S, O, x, a, b, c, d, p, q, r, s, h, v, W, _, hS, hc, M, hW, h3, rfl, hcw, ?_⟩, hm⟩
              · unfold hpkR; rw [if_pos rfl, if_pos rfl, if_pos h3, if_pos rfl]; have := (chk_run hcw).1; show (wrapL _ _).length ≤ 2002; omega
              · unfold hpkR; rw [if_pos rfl, if_pos rfl, if_pos h3, if_pos rfl]; exact hlen.2
              · unfold hpkR; rw [if_pos rfl, if_pos rfl, if_pos h3, if_pos rfl]
            · have e : ∀ y z, hpkR e1 e2 (dimB W) e3 [] O y z = ([], [], 0, 0, e3) := by intro y z; unfold hpkR; rw [if_pos h1, if_pos h2, if_pos h3, if_neg h4]
              simp only [e] at hm
              exact ⟨_, by simp, by simp, .inr ⟨rfl, rfl, rfl, rfl, h4⟩, hm⟩
          · have e : ∀ y z, hpkR e1 e2 (dimB W) e3 L O y z = ([], [], 0, 0, 20) := by intro y z; unfold hpkR; rw [if_pos h1, if_pos h2, if_neg h3]
            simp only [e] at hm
            exact ⟨_, by simp, by simp, .inr ⟨rfl, rfl, rfl, rfl, by simp⟩, hm⟩
        · have e : ∀ y z, hpkR e1 e2 (dimB W) e3 L O y z = ([], [], 0, 0, e2) := by intro y z; unfold hpkR; rw [if_pos h1, if_neg h2]
          simp only [e] at hm
          exact ⟨_, by simp, by simp, .inr ⟨rfl, rfl, rfl, rfl, h2⟩, hm⟩
      · have e : ∀ y z, hpkR e1 e2 (dimB W) e3 L O y z = ([], [], 0, 0, e1) := by intro y z; unfold hpkR; rw [if_neg h1]
        simp only [e] at hm
        exact ⟨_, by simp, by simp, .inr ⟨rfl, rfl, rfl, rfl, h1⟩, hm⟩
  · exact ⟨([], [], 0, 0, chk ns), by simp, by simp, .inr ⟨rfl, rfl, rfl, rfl, hc⟩, fun A k w hk hs => hpack_err A ns k tw ex w hl hs hc⟩
end Go.Proofs.Ytoboecenlangmaa.Pk
end
section
namespace Go.Proofs.Ytoboecenlangmaa.Pk
open Go.ChangeShapes Go.WideShapes Go.ChangeAt Go.RowKit
open Me Np No
set_option linter.unusedVariables false
set_option linter.unusedSimpArgs false

/-- How high a column's first item is. -/
def firstV (ns : List Nd) : Int := match ns[0]? with
  | some x => if x.kind = 3 ∨ x.kind = 4 ∨ x.kind = 5 then x.ht else 0
  | none => 0
/-- May a node not begin an item of a column? -/
def barB (n : Nd) : Bool := n.kind == 1 || (n.kind == 2 || (n.kind == 10 || (n.kind == 15 || (n.kind == 16 || n.kind == 17))))
def colB (ns : List Nd) : List Nat → Bool
  | [] => true
  | a :: xs => (match ns[a]? with | some x => !barB x | none => true) && colB ns xs
theorem colB_bar {ns : List Nd} {a : Nat} {x : Nd} {xs : List Nat} (hx : ns[a]? = some x) (hb : barB x = true) : colB ns (a :: xs) = false := by
  simp [colB, hx, hb]
theorem colB_no {ns : List Nd} {a : Nat} {x : Nd} {xs : List Nat} (hx : ns[a]? = some x) (hb : barB x = false) : colB ns (a :: xs) = colB ns xs := by
  simp [colB, hx, hb]
theorem bar_no {n : Nd} (h : barB n = false) : (n.kind == 1) = false ∧ (n.kind == 2) = false ∧ (n.kind == 10) = false ∧ (n.kind == 15) = false ∧ (n.kind == 16) = false ∧ (n.kind == 17) = false := by
  simpa only [barB, Bool.or_eq_false_iff] using h
/-- What a column answers. -/
def CHOut (R : List Nd × Int × Int × Int) (w : World) (e : Ending) (w' : World) : Prop := ∃ v, e = .returned (.tuple #[v, .int .i64 R.2.1, .int .i64 R.2.2.1, .int .i64 R.2.2.2]) ∧ w'.ownsRow w.heap.size 54 19 v R.1.length (R.1.flatMap ncs) ∧ Below w.heap.size w w'
theorem CHOut.no {w w' : World} (hb : Below w.heap.size w w') (E : Int) : CHOut ([], 0, 0, E) w (.returned (.tuple #[.slice none 0 0, .int .i64 0, .int .i64 0, .int .i64 E])) w' := ⟨_, rfl, World.ownsRow_nil _ _ _ _, hb⟩
theorem first_any (A : Option Addr) (ns : List Nd) (c : Nat) (w : World) (hl : ns.length ≤ 9223372036854775806) (hseg : Seg w w.heap.size A (ns.flatMap ncs)) :
    Calls Try.prog 86 #[.slice A ns.length c] w fun e w' => e = .returned (.int .i64 (firstV ns)) ∧ w = w' := by
  cases ns with
  | nil =>
    have HV := Lib.hid (show firstV [] = 0 from rfl)
    clear hseg
    simp only [List.length_nil]
    go_enter Try.func86, Try.ntmps86
    go_wp2_with fail
    go_ret
    exact ⟨ret_int (by rw [HV.out]), rfl⟩
  | cons x r =>
    obtain ⟨b, off, rfl, hb, hnode⟩ := seg_node hseg (k := 0) (n := x) rfl
    have c0 : w.cell? ⟨b, off, none⟩ = some (.int .i64 x.kind) := by simpa using hnode 0 _ rfl
    have c4 : w.cell? ⟨b, off + 4, none⟩ = some (.int .i64 x.ht) := by simpa using hnode 4 _ rfl
    have hz : (((r.length : Int) + 1) == 0) = false := by simp; omega
    simp only [List.length_cons] at hl ⊢
    clear hseg hnode
    by_cases h3 : x.kind = 3
    · have HV := Lib.hid (show firstV (x :: r) = x.ht by simp [firstV, h3])
      have e3 : (x.kind == 3) = true := by simp [h3]
      clear h3
      generalize r.length = len at *
      go_enter Try.func86, Try.ntmps86
      go_wp2_with fail
      go_ret
      exact ⟨ret_int (by rw [HV.out]), rfl⟩
    · have e3 : (x.kind == 3) = false := by simp [h3]
      by_cases h4 : x.kind = 4
      · have HV := Lib.hid (show firstV (x :: r) = x.ht by simp [firstV, h4])
        have e4 : (x.kind == 4) = true := by simp [h4]
        clear h4
        generalize r.length = len at *
        go_enter Try.func86, Try.ntmps86
        go_wp2_with fail
        go_ret
        exact ⟨ret_int (by rw [HV.out]), rfl⟩
      · have e4 : (x.kind == 4) = false := by simp [h4]
        by_cases h5 : x.kind = 5
        · have HV := Lib.hid (show firstV (x :: r) = x.ht by simp [firstV, h5])
          have e5 : (x.kind == 5) = true := by simp [h5]
          clear h5
          generalize r.length = len at *
          go_enter Try.func86, Try.ntmps86
          go_wp2_with fail
          go_ret
          exact ⟨ret_int (by rw [HV.out]), rfl⟩
        · have e5 : (x.kind == 5) = false := by simp [h5]
          have HV := Lib.hid (show firstV (x :: r) = 0 by simp [firstV, h3, h4, h5])
          clear h3 h4 h5
          generalize r.length = len at *
          go_enter Try.func86, Try.ntmps86
          go_wp2_with fail
          go_ret
          exact ⟨ret_int (by rw [HV.out]), rfl⟩
set_option maxRecDepth 100000 in
theorem column_err (A : Option Addr) (ns : List Nd) (k : Nat) (tw most : Int) (ex top : Bool) (w : World) (hl : ns.length ≤ 9223372036854775806) (hseg : Seg w w.heap.size A (ns.flatMap ncs)) (hc : ¬ chk ns = 0) :
    Calls Try.prog 59 #[.slice A ns.length k, .int .i64 tw, .bool ex, .int .i64 most, .bool top] w (CHOut ([], 0, 0, chk ns) w) := by
  have e0 : (chk ns != 0) = true := by simp [hc]
  have HC := Lib.hid (check_any A ns k w (by omega) hseg)
  clear hseg hc
  generalize chk ns = q0 at *
  generalize ns.length = len at *
  go_enter Try.func59, Try.ntmps59
  go_wp2_with fail
  refine HC.out.mono ?_
  rintro e w1 ⟨rfl, hb1⟩
  go_wp2_with fail
  go_returns
  exact CHOut.no hb1 _
set_option maxHeartbeats 2000000 in
set_option maxRecDepth 100000 in
theorem column_far (A : Option Addr) (ns : List Nd) (k : Nat) (tw most : Int) (ex top : Bool) (w : World) (hl : ns.length ≤ 9223372036854775806) (hseg : Seg w w.heap.size A (ns.flatMap ncs)) (hc : chk ns = 0) (ht : (dimB tw && dimB most) = false) :
    Calls Try.prog 59 #[.slice A ns.length k, .int .i64 tw, .bool ex, .int .i64 most, .bool top] w (CHOut ([], 0, 0, 11) w) := by
  have HC := Lib.hid (check_any A ns k w (by omega) hseg)
  rw [hc] at HC
  have HD := Lib.hid (fun w => dimen_any tw w)
  have HE := Lib.hid (fun w => dimen_any most w)
  clear hseg hc
  generalize ns.length = len at *
  cases h1 : dimB tw
  · rw [h1] at HD
    clear ht h1
    go_enter Try.func59, Try.ntmps59
    go_wp2_with fail
    refine HC.out.mono ?_
    rintro e w1 ⟨rfl, hb1⟩
    go_wp2_with (go_at_call 41; first | (refine (HD.out _).mono ?_; rintro e w' ⟨rfl, rfl⟩) | (refine (HE.out _).mono ?_; rintro e w' ⟨rfl, rfl⟩))
    go_returns
    exact CHOut.no hb1 _
  · have h2 : dimB most = false := by simpa [h1] using ht
    rw [h1] at HD
    rw [h2] at HE
    clear ht h1 h2
    go_enter Try.func59, Try.ntmps59
    go_wp2_with fail
    refine HC.out.mono ?_
    rintro e w1 ⟨rfl, hb1⟩
    go_wp2_with (go_at_call 41; first | (refine (HD.out _).mono ?_; rintro e w' ⟨rfl, rfl⟩) | (refine (HE.out _).mono ?_; rintro e w' ⟨rfl, rfl⟩))
    go_returns
    exact CHOut.no hb1 _
set_option maxHeartbeats 2000000 in
set_option maxRecDepth 100000 in
theorem column_bar (A : Option Addr) (ns : List Nd) (k : Nat) (tw most : Int) (ex top : Bool) (w : World) (hcap : ns.length ≤ k) (hseg : Seg w w.heap.size A (ns.flatMap ncs)) (hc : chk ns = 0) (h1 : dimB tw = true) (h2 : dimB most = true) (hcb : colB ns (itsD ns) = false) :
    Calls Try.prog 59 #[.slice A ns.length k, .int .i64 tw, .bool ex, .int .i64 most, .bool top] w (CHOut ([], 0, 0, 50) w) := by
  have hl := (chk_run hc).1
  have HC := Lib.hid (check_any A ns k w (by omega) hseg)
  rw [hc] at HC
  have HD := Lib.hid (fun w => dimen_any tw w)
  have HE := Lib.hid (fun w => dimen_any most w)
  rw [h1] at HD
  rw [h2] at HE
  have HIT := Lib.hid (fun (a m : Nat) w1 (h : Below w.heap.size w w1) hb hm => item_ok A ns k a m w1 (by omega) (Seg.belowW hseg h) hc hb hm)
  have HSG := Lib.hid hseg
  have HST := Lib.hid (stand0 hc (itsD_is hc))
  have HCB := Lib.hid hcb
  clear hseg hc h1 h2 hcb
  generalize itsD ns = xs at *
  generalize hlen : ns.length = len at *
  have HL := Lib.hid hlen
  clear hlen
  go_enter Try.func59, Try.ntmps59
  go_wp2_with fail
  refine HC.out.mono ?_
  rintro e w1 ⟨rfl, hb1⟩
  have HB1 := Lib.hid hb1
  clear hb1
  go_wp2_with (go_at_call 41; first | (refine (HD.out _).mono ?_; rintro e w' ⟨rfl, rfl⟩) | (refine (HE.out _).mono ?_; rintro e w' ⟨rfl, rfl⟩))
  go_loopw [15] (fun v15 wr => ∃ (a : Nat) (ys : List Nat), v15 = .int .i64 (a : Int) ∧ Stand ns a ys ∧ colB ns ys = false ∧ Below w.heap.size w wr) (fun v15 _ => len - (intOf v15).toNat)
  case atStart => exact ⟨0, xs, rfl, HST.out, HCB.out, HB1.out⟩
  case round =>
    obtain ⟨a, ys, rfl, hst, hcb, hlow⟩ := hrel
    have hal := hst.le
    rw [HL.out] at hal
    by_cases hlt : a < len
    · obtain ⟨m, zs, y, rfl, hm, hm1, ham, hst', _, hy, h6, h11⟩ := hst.step (by rw [HL.out]; exact hl) (by rw [HL.out]; exact hlt)
      rw [HL.out] at ham
      obtain ⟨b, off, rfl, hb, hnd⟩ := seg_node HSG.out hy
      have c0 : wr.cell? ⟨b, off + a * 19, none⟩ = some (.int .i64 y.kind) := (hnd.below hlow hb) 0 _ rfl
      have HLOW := Lib.hid hlow
      have HX := Lib.hid (And.intro hy hm)
      have HB := Lib.hid (beg_of hy h6 h11)
      have HS := Lib.hid hst'
      have HCC := Lib.hid hcb
      have hal1 : (a : Int) + m ≤ len := by omega
      clear hst' hy hm hnd hst h6 h11 hcb hlow
      by_cases k1 : y.kind = 1
      · have e1 : (y.kind == 1) = true := by simp [k1]
        clear k1
        go_wp2_with fail
        go_returns
        exact CHOut.no HLOW.out _
      have e1 : (y.kind == 1) = false := by simp [k1]
      by_cases k2 : y.kind = 2
      · have e2 : (y.kind == 2) = true := by simp [k2]
        clear k2
        go_wp2_with fail
        go_returns
        exact CHOut.no HLOW.out _
      have e2 : (y.kind == 2) = false := by simp [k2]
      by_cases k10 : y.kind = 10
      · have e10 : (y.kind == 10) = true := by simp [k10]
        clear k10
        go_wp2_with fail
        go_returns
        exact CHOut.no HLOW.out _
      have e10 : (y.kind == 10) = false := by simp [k10]
      by_cases k15 : y.kind = 15
      · have e15 : (y.kind == 15) = true := by simp [k15]
        clear k15
        go_wp2_with fail
        go_returns
        exact CHOut.no HLOW.out _
      have e15 : (y.kind == 15) = false := by simp [k15]
      by_cases k16 : y.kind = 16
      · have e16 : (y.kind == 16) = true := by simp [k16]
        clear k16
        go_wp2_with fail
        go_returns
        exact CHOut.no HLOW.out _
      have e16 : (y.kind == 16) = false := by simp [k16]
      by_cases k17 : y.kind = 17
      · have e17 : (y.kind == 17) = true := by simp [k17]
        clear k17
        go_wp2_with fail
        go_returns
        exact CHOut.no HLOW.out _
      have e17 : (y.kind == 17) = false := by simp [k17]
      have HCN := Lib.hid (show colB ns zs = false by rw [← colB_no HX.out.1 (by unfold barB; rw [e1, e2, e10, e15, e16, e17]; rfl)]; exact HCC.out)
      clear k1 k2 k10 k15 k16 k17
      go_wp2_with (go_at_call 48; refine (HIT.out a m _ HLOW.out HB.out HX.out.2).mono ?_; rintro e w5 ⟨rfl, hb5⟩; have HB5 := Lib.hid hb5; clear hb5)
      go_roundw
      case rel => exact ⟨a + m, zs, by go_num, HS.out, HCN.out, andThen HLOW.out HB5.out⟩
      case measure => simp [intOf]; omega
    · obtain rfl : a = len := by omega
      have he : ys = [] := (show Stand ns ns.length ys from HL.out ▸ hst).done
      subst he
      simp [colB] at hcb
end Go.Proofs.Ytoboecenlangmaa.Pk
end
