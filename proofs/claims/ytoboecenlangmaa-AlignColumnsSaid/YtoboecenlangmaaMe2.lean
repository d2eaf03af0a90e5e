import Derived.Test.YtoboecenlangmaaMe1
import Derived.Test.YtoboecenlangmaaNodeJ
import Derived.StillTailTactics
import Derived.IntWalk
import Derived.Test.YtoboecenlangmaaNodeKb
import Derived.Test.YtoboecenlangmaaNodeE
import Derived.Test.YtoboecenlangmaaNr
import Derived.Barred
import Derived.Test.YtoboecenlangmaaGlueF
import Derived.Test.YtoboecenlangmaaPw
import Derived.Test.YtoboecenlangmaaMem
import Derived.Deep.RegionLaw
import Derived.Laws.AppendOwn
import Derived.Laws.Rows
import Derived.Test.YtoboecenlangmaaGlueC
import Derived.Test.YtoboecenlangmaaNodeF
import Derived.Deep.LoopGhost
import Derived.Deep.MidRow
import Derived.OneCell
import Derived.BigQuiet
import Derived.Test.YtoboecenlangmaaRows
import Derived.WalkKit
import Derived.ProofKit
import Derived.OpenShut
import Derived.WalkSpells
import Derived.WalkLawsBesides
import Derived.Outline
import Derived.Lib.Hide
import Derived.Deep.DeepCutAuto
import Derived.Deep.QuietTactic
import Derived.Handy
/- Merged texts. Conditions: those that each theorem names. -/
section
namespace Go.Proofs.Ytoboecenlangmaa.Pk
open Go.ChangeShapes Go.WideShapes Go.ChangeAt Go.RowKit
open Me Np No
set_option linter.unusedVariables false
set_option linter.unusedSimpArgs false

attribute [local go_sem ↓] bldN_eq
set_option maxHeartbeats 20000000 in
set_option maxRecDepth 100000 in
theorem hpack_f (A : Option Addr) (ns S O L : List Nd) (k : Nat) (tw : Int) (w : World) (hc : chk ns = 0) (hcap : ns.length ≤ k) (hseg : Seg w w.heap.size A (ns.flatMap ncs)) (ht : dimB tw = true) (hS : partD ns = (S, O)) (x a b c d p q r s e1 h v e2 e3 W : Int) (M : Msr S false x a b c d p q r s e1 h v e2)
    (hW : W = tw + x)
    (hw : ∀ (A : Option Addr) (c' : Nat) (w : World), Src w A c' S → Calls Try.prog 79 #[.agg (nc (fitN (hN W h v) (Gl.fit a b c d p q r s (W - x)))), .slice A S.length c'] w fun e' w' => ∃ v, e' = .returned (.tuple #[v, .int .i64 e3]) ∧ w'.ownsRow w.heap.size 54 19 v L.length (L.flatMap ncs) ∧ Below w.heap.size w w') :
    Calls Try.prog 20 #[.slice A ns.length k, .int .i64 tw, .bool false] w (HOut (hpkR e1 e2 (dimB W) e3 L O (setV (fitN (hN W h v) (Gl.fit a b c d p q r s (W - x))) a p ((S.length : Int) == 0) (W - x) (0, 0)).1 (setV (fitN (hN W h v) (Gl.fit a b c d p q r s (W - x))) a p ((S.length : Int) == 0) (W - x) (0, 0)).2) w) := by
  have hSl : S.length ≤ 2000 := by have := (partD_len hc).1; rw [hS] at this; exact this
  have HC := Lib.hid (check_any A ns k w (by have := (chk_run hc).1; omega) hseg)
  rw [hc] at HC
  have HD := Lib.hid (fun w => dimen_any tw w)
  rw [ht] at HD
  have HP := Lib.hid (fun w1 (hb : Below w.heap.size w w1) => parted_any A ns k w1 hc hcap (Seg.belowW hseg hb))
  rw [hS] at HP
  have HM := Lib.hid M
  have HMT := Lib.hid M.tot
  have HME := Lib.hid M.ext
  have HW := Lib.hid hw
  obtain ⟨R, hR⟩ : ∃ R, R = hpkR e1 e2 (dimB W) e3 L O (setV (fitN (hN W h v) (Gl.fit a b c d p q r s (W - x))) a p ((S.length : Int) == 0) (W - x) (0, 0)).1 (setV (fitN (hN W h v) (Gl.fit a b c d p q r s (W - x))) a p ((S.length : Int) == 0) (W - x) (0, 0)).2 := ⟨_, rfl⟩
  rw [← hR]
  have HR := Lib.hid hR
  clear hR
  have HWE := Lib.hid hW
  have htw : -1073741823 ≤ tw ∧ tw ≤ 1073741823 := by simpa [dimB] using ht
  clear hseg hc hS M hw hW ht
  generalize ns.length = len at *
  have hb4 := run_bldN 4
  go_enter Try.func20, Try.ntmps20
  go_wp2_with fail
  refine HC.out.mono ?_
  rintro e w1 ⟨rfl, hb1⟩
  go_wp2_with (go_at_call 41; refine (HD.out _).mono ?_; rintro e w' ⟨rfl, rfl⟩)
  refine (HP.out _ hb1).mono ?_
  rintro e w2 ⟨vS, vO, rfl, hO, hb2⟩
  have hb12 := andThen hb1 hb2
  obtain ⟨AS, kS, hvS, hkS⟩ : ∃ A c, vS = .slice A S.length c ∧ S.length ≤ c := by
    obtain ⟨A, c, h1, h2, _⟩ := Src.own hO.one
    exact ⟨A, c, h1, h2⟩
  subst hvS
  have HH := Lib.hid (show Own2 w2 w.heap.size (.slice AS S.length kS) vO S O from ⟨own_base hO.one hb1.size, own_base hO.two hb1.size, hO.dist, hO.dist'⟩)
  have HB2 := Lib.hid hb12
  clear hO hb1 hb2 hb12 HC HP
  generalize hem : ((S.length : Int) == 0) = em
  have HMW := Lib.hid (fun (g : Nat) (bad ov : Int) (A : Option Addr) (k : Nat) (w : World) (hg : Mk w g (fitN (hN W h v) (Gl.fit a b c d p q r s (W - x))) x a b c d p q r s em bad ov 0) (hs : Src w A k S) => mwrap_any g _ x a b c d p q r s em bad ov S L e3 A k w hg HW.out hs)
  clear HW
  generalize hln : S.length = lS at hSl hkS hem HH HMW HMT HME HR ⊢
  have HLS := Lib.hid hln
  have HEM := Lib.hid hem
  clear hln
  go_wp2_with (first | (refine wpList_build_eq (o := ⟨some 32, _, _, _, _, _⟩) rfl _ _ rfl (mkc (nz 4) 0 0 0 0 0 0 0 0 0 em 0 0 0) (by kernel_rfl) ?_))
  have hs0 : Hs w (.slice AS lS kS) vO S O w2.heap.size (nz 4) 0 0 0 0 0 0 0 0 0 em 0 0 0 (w2.alloc (.cells (mkc (nz 4) 0 0 0 0 0 0 0 0 0 em 0 0 0) 97)) := ⟨Blk.new' rfl, HH.out.below (andAlloc (Below.refl _ _) _), andAlloc HB2.out _, HB2.out.size⟩
  clear HH HB2
  generalize w2.alloc (.cells (mkc (nz 4) 0 0 0 0 0 0 0 0 0 em 0 0 0) 97) = w3 at hs0 ⊢
  generalize w2.heap.size = g at hs0 ⊢
  refine (HMT.out AS kS w3 hkS hs0.seg).mono ?_
  rintro e w4 ⟨rfl, hb4'⟩
  have hs4 := hs0.below hb4'
  have hth := mk_there hs4.mkr
  have HS4 := Lib.hid hs4
  clear hs0 hb4' hs4
  have hs5 := HS4.out.turn (grown_cells g _ 19 w4) (mk_tot HS4.out.mkr x a b c d p q r s)
  have HS5 := Lib.hid hs5
  clear hs5
  by_cases he1 : e1 = 0
  · have t1 : (e1 != 0) = false := by simp [he1]
    by_cases he2 : e2 = 0
    · have t2 : (e2 != 0) = false := by simp [he2]
      · skip
        have hnx := HM.out.nat he1
        have hnx' : -1073741823 ≤ x ∧ x ≤ 1073741823 := by simpa [dimB] using hnx
        have HNW := Lib.hid (show Gl.nearB (W - x) = true by unfold Gl.nearB; rw [decide_eq_true_eq]; have := HWE.out; omega)
        clear hnx
        go_upto_region 17 with (first | (refine wpList_store_mid (op := ⟨none, .store _ (.tmp 43) (.tmp 40), _, _, _, _⟩) rfl 69 _ _ rfl g 19 #[.int .i64 x, .int .i64 a, .int .i64 b, .int .i64 c, .int .i64 d, .int .i64 p, .int .i64 q, .int .i64 r, .int .i64 s] ?_ rfl hth tot_info (t9_one _ _ _ _ _ _ _ _ _) ?_; rfl) | (go_at_call 44; refine (HME.out AS kS _ hkS HS5.out.seg).mono ?_; rintro e w6 ⟨rfl, hb6⟩; have HS6 := Lib.hid (HS5.out.below hb6); clear hb6; have hd3 : w6.cell? ⟨g, 3, none⟩ = some (.int .i64 0) := Blk.cell HS6.out.mkr 3; have hf3 := Blk.free HS6.out.mkr 3; have hd4 : w6.cell? ⟨g, 4, none⟩ = some (.int .i64 0) := Blk.cell HS6.out.mkr 4; have hf4 := Blk.free HS6.out.mkr 4; have hd5 : w6.cell? ⟨g, 5, none⟩ = some (.int .i64 0) := Blk.cell HS6.out.mkr 5; have hf5 := Blk.free HS6.out.mkr 5; have hd19 : w6.cell? ⟨g, 19, none⟩ = some (.int .i64 x) := Blk.cell HS6.out.mkr 19) | (go_at_call 41; refine (HD.out _).mono ?_; rintro e w' ⟨rfl, rfl⟩))
        have hs7 := (HS6.out.n45 h v).n3 tw
        have HS7 := Lib.hid hs7
        generalize ((w6.setCell ⟨g, 4, none⟩ (.int .i64 h)).setCell ⟨g, 5, none⟩ (.int .i64 v)).setCell ⟨g, 3, none⟩ (.int .i64 tw) = w7 at HS7 ⊢
        clear hs7 hd3 hf3 hd4 hf4 hd5 hf5 hd19 HS6 HS5 HS4 hth
        have hd3 : w7.cell? ⟨g, 3, none⟩ = some (.int .i64 tw) := Blk.cell HS7.out.mkr 3
        have hd19 : w7.cell? ⟨g, 19, none⟩ = some (.int .i64 x) := Blk.cell HS7.out.mkr 19
        have hsum : IntKind.i64.wrap (tw + x) = W := by rw [HWE.out]; exact IntWalk.i64_in _ (by omega)
        go_still_tail 14, (by kernel_rfl)
        change wpList _ _ _ _ _ w7.drew
        have hs8 := HS7.out.below (Below.drew (Below.refl _ w7))
        generalize w7.drew = w8 at hs8 ⊢
        have HS8 := Lib.hid hs8
        clear hs8 hd3 hd19 HS7 hsum
        have hd3 : w8.cell? ⟨g, 3, none⟩ = some (.int .i64 tw) := Blk.cell HS8.out.mkr 3
        have hf3 := Blk.free HS8.out.mkr 3
        by_cases hdw : dimB W = true
        · have HDW := Lib.hid hdw
          go_upto_region 20 with (go_at_call 41; refine (dimen_any _ _).mono ?_; rintro e w' ⟨rfl, rfl⟩)
          have hs7 := HS8.out.n3 W
          have HS7 := Lib.hid hs7
          generalize w8.setCell ⟨g, 3, none⟩ (.int .i64 W) = w7 at HS7 ⊢
          clear hs7 hd3 hf3 HS8 hdw
          have hd3' : w7.cell? ⟨g, 3, none⟩ = some (.int .i64 W) := Blk.cell HS7.out.mkr 3
          have hd19' : w7.cell? ⟨g, 19, none⟩ = some (.int .i64 x) := Blk.cell HS7.out.mkr 19
          have hsub : IntKind.i64.wrap (W - x) = W - x := IntWalk.i64_in _ (by have := HWE.out; omega)
          go_still_tail 12, (by kernel_rfl)
          change wpList _ _ _ _ _ w7.drew
          have hs8 := HS7.out.below (Below.drew (Below.refl _ w7))
          generalize w7.drew = w8 at hs8 ⊢
          have HS8 := Lib.hid hs8
          clear hs8 hd3' hd19' HS7
          by_cases he3 : e3 = 0
          · have t3 : (e3 != 0) = false := by simp [he3]
            go_upto_region 24 with (first | (go_at_call 43; refine (set_any g (hN W h v) x a b c d p q r s em 0 0 (W - x) _ HS8.out.mkr HNW.out (HM.out.near he1).1 (HM.out.near he1).2.2.2.2.1 (HM.out.near he1).2.1 (HM.out.near he1).2.2.2.2.2.1 (HM.out.near he1).2.2.1 (HM.out.near he1).2.2.2.2.2.2.1 (HM.out.near he1).2.2.2.1 (HM.out.near he1).2.2.2.2.2.2.2).mono ?_; rintro e w9 ⟨rfl, hm9, hg9⟩; have HS9 := Lib.hid (HS8.out.turn hg9 hm9); clear hm9 hg9) | (go_at_call 45; refine (HMW.out g _ _ AS kS _ HS9.out.mkr HS9.out.src).mono ?_; rintro e wq ⟨vL, rfl, hoL, hbL⟩; have HO9 := Lib.hid (And.intro hoL hbL); clear hoL hbL))
            have HK9 := Lib.hid (HS9.out.below HO9.out.2).mkr
            have hd29 : wq.cell? ⟨g, 29, none⟩ = some (.int .i64 (setV (fitN (hN W h v) (Gl.fit a b c d p q r s (W - x))) a p em (W - x) (0, 0)).1) := Blk.cell HK9.out 29
            have hd30 : wq.cell? ⟨g, 30, none⟩ = some (.int .i64 (setV (fitN (hN W h v) (Gl.fit a b c d p q r s (W - x))) a p em (W - x) (0, 0)).2) := Blk.cell HK9.out 30
            have hr : R = (L, O, (setV (fitN (hN W h v) (Gl.fit a b c d p q r s (W - x))) a p em (W - x) (0, 0)).1, (setV (fitN (hN W h v) (Gl.fit a b c d p q r s (W - x))) a p em (W - x) (0, 0)).2, 0) := by rw [HR.out, HEM.out]; unfold hpkR; rw [if_pos he1, if_pos he2, if_pos HDW.out, if_pos he3]
            have HR' := Lib.hid hr
            clear hr HR
            have HO := Lib.hid (fun y z => HS9.out.out HO9.out.1 HO9.out.2 y z)
            generalize (setV (fitN (hN W h v) (Gl.fit a b c d p q r s (W - x))) a p em (W - x) (0, 0)).1 = y1 at *
            generalize (setV (fitN (hN W h v) (Gl.fit a b c d p q r s (W - x))) a p em (W - x) (0, 0)).2 = y2 at *
            go_quiet (fail)
            go_wp2_with fail
            go_returns
            rw [HR'.out]
            exact (HO.out _ _).drewN _
          · have t3 : (e3 != 0) = true := by simp [he3]
            have hr : R = ([], [], 0, 0, e3) := by rw [HR.out]; unfold hpkR; rw [if_pos he1, if_pos he2, if_pos HDW.out, if_neg he3]
            have HR' := Lib.hid hr
            clear hr HR
            go_wp2_with (first | (go_at_call 43; refine (set_any g (hN W h v) x a b c d p q r s em 0 0 (W - x) _ HS8.out.mkr HNW.out (HM.out.near he1).1 (HM.out.near he1).2.2.2.2.1 (HM.out.near he1).2.1 (HM.out.near he1).2.2.2.2.2.1 (HM.out.near he1).2.2.1 (HM.out.near he1).2.2.2.2.2.2.1 (HM.out.near he1).2.2.2.1 (HM.out.near he1).2.2.2.2.2.2.2).mono ?_; rintro e w9 ⟨rfl, hm9, hg9⟩; have HS9 := Lib.hid (HS8.out.turn hg9 hm9); clear hm9 hg9) | (go_at_call 45; refine (HMW.out g _ _ AS kS _ HS9.out.mkr HS9.out.src).mono ?_; rintro e wq ⟨vL, rfl, hoL, hbL⟩; have HO9 := Lib.hid (And.intro hoL hbL); clear hoL hbL))
            go_returns
            rw [HR'.out]
            exact HOut.no (andThen HS9.out.low HO9.out.2) _
        · have hdw' : dimB W = false := by simpa using hdw
          have hr : R = ([], [], 0, 0, 20) := by rw [HR.out]; unfold hpkR; rw [if_pos he1, if_pos he2, if_neg hdw]
          have HR' := Lib.hid hr
          clear hr HR hdw
          go_wp2_with (go_at_call 41; refine (dimen_any _ _).mono ?_; rintro e w' ⟨rfl, rfl⟩)
          go_returns
          rw [HR'.out]
          exact HOut.no (HS8.out.n3 W).low _
    · have t2 : (e2 != 0) = true := by simp [he2]
      have hr : R = ([], [], 0, 0, e2) := by rw [HR.out]; unfold hpkR; rw [if_pos he1, if_neg he2]
      have HR' := Lib.hid hr
      clear hr HR
      go_wp2_with (first | (refine wpList_store_mid (op := ⟨none, .store _ (.tmp 43) (.tmp 40), _, _, _, _⟩) rfl 69 _ _ rfl g 19 #[.int .i64 x, .int .i64 a, .int .i64 b, .int .i64 c, .int .i64 d, .int .i64 p, .int .i64 q, .int .i64 r, .int .i64 s] ?_ rfl hth tot_info (t9_one _ _ _ _ _ _ _ _ _) ?_; rfl) | (go_at_call 44; refine (HME.out AS kS _ hkS HS5.out.seg).mono ?_; rintro e w6 ⟨rfl, hb6⟩; have HS6 := Lib.hid (HS5.out.below hb6); clear hb6; have hd3 : w6.cell? ⟨g, 3, none⟩ = some (.int .i64 0) := Blk.cell HS6.out.mkr 3; have hf3 := Blk.free HS6.out.mkr 3; have hd4 : w6.cell? ⟨g, 4, none⟩ = some (.int .i64 0) := Blk.cell HS6.out.mkr 4; have hf4 := Blk.free HS6.out.mkr 4; have hd5 : w6.cell? ⟨g, 5, none⟩ = some (.int .i64 0) := Blk.cell HS6.out.mkr 5; have hf5 := Blk.free HS6.out.mkr 5; have hd19 : w6.cell? ⟨g, 19, none⟩ = some (.int .i64 x) := Blk.cell HS6.out.mkr 19))
      go_returns
      rw [HR'.out]
      exact HOut.no (HS6.out.n45 h v).low _
  · have t1 : (e1 != 0) = true := by simp [he1]
    have hr : R = ([], [], 0, 0, e1) := by rw [HR.out]; unfold hpkR; rw [if_neg he1]
    have HR' := Lib.hid hr
    clear hr HR
    go_wp2_with (refine wpList_store_mid (op := ⟨none, .store _ (.tmp 43) (.tmp 40), _, _, _, _⟩) rfl 69 _ _ rfl g 19 #[.int .i64 x, .int .i64 a, .int .i64 b, .int .i64 c, .int .i64 d, .int .i64 p, .int .i64 q, .int .i64 r, .int .i64 s] ?_ rfl hth tot_info (t9_one _ _ _ _ _ _ _ _ _) ?_; rfl)
    go_returns
    rw [HR'.out]
    exact HOut.no HS5.out.low _
end Go.Proofs.Ytoboecenlangmaa.Pk
end
section
namespace Go.Proofs.Ytoboecenlangmaa.Pk
open Go.ChangeShapes Go.WideShapes Go.ChangeAt Go.RowKit
open Me Np No
set_option linter.unusedVariables false
set_option linter.unusedSimpArgs false

theorem hpack_main (A : Option Addr) (ns S O L : List Nd) (k : Nat) (tw : Int) (ex : Bool) (w : World) (hc : chk ns = 0) (hcap : ns.length ≤ k) (hseg : Seg w w.heap.size A (ns.flatMap ncs)) (ht : dimB tw = true) (hS : partD ns = (S, O)) (x a b c d p q r s e1 h v e2 e3 W : Int) (M : Msr S false x a b c d p q r s e1 h v e2)
    (hW : W = if ex = true then tw else tw + x)
    (hw : ∀ (A : Option Addr) (c' : Nat) (w : World), Src w A c' S → Calls Try.prog 79 #[.agg (nc (fitN (hN W h v) (Gl.fit a b c d p q r s (W - x)))), .slice A S.length c'] w fun e' w' => ∃ v, e' = .returned (.tuple #[v, .int .i64 e3]) ∧ w'.ownsRow w.heap.size 54 19 v L.length (L.flatMap ncs) ∧ Below w.heap.size w w') :
    Calls Try.prog 20 #[.slice A ns.length k, .int .i64 tw, .bool ex] w (HOut (hpkR e1 e2 (dimB W) e3 L O (setV (fitN (hN W h v) (Gl.fit a b c d p q r s (W - x))) a p ((S.length : Int) == 0) (W - x) (0, 0)).1 (setV (fitN (hN W h v) (Gl.fit a b c d p q r s (W - x))) a p ((S.length : Int) == 0) (W - x) (0, 0)).2) w) := by
  cases ex with
  | true => exact hpack_t A ns S O L k tw w hc hcap hseg ht hS x a b c d p q r s e1 h v e2 e3 W M hW hw
  | false => exact hpack_f A ns S O L k tw w hc hcap hseg ht hS x a b c d p q r s e1 h v e2 e3 W M hW hw
end Go.Proofs.Ytoboecenlangmaa.Pk
end
section
namespace Go.Proofs.Ytoboecenlangmaa.No
open Go.ChangeShapes Go.WideShapes Go.ChangeAt Go.RowKit
open Me Np
set_option linter.unusedVariables false
set_option linter.unusedSimpArgs false

attribute [local go_sem ↓] ldN_eq bldN_eq
set_option maxHeartbeats 2000000 in
set_option maxRecDepth 100000 in
theorem wrap_r (n : Nd) (A : Option Addr) (l : List Nd) (c : Nat) (w : World) (hr : right n = false) :
    Calls Try.prog 79 #[.agg (nc n), .slice A l.length c] w fun e w' => e = .returned (.tuple #[.slice none 0 0, .int .i64 1]) ∧ Below w.heap.size w w' := by
  have HR := Lib.hid hr
  clear hr
  generalize l.length = len at *
  go_enter Try.func79, Try.ntmps79
  go_wp2_with fail
  refine (kinds_any _).mono ?_
  rintro e w1 ⟨rfl, hq, hz1, hb1⟩
  have HQ := Lib.hid hq
  have HZ1 := Lib.hid hz1
  have hn1 : NodeAt w1 w.heap.size 0 n := NodeAt.below (Blk.node (Blk.new' rfl)) hb1 (by simp)
  have hl1 : Below w.heap.size w w1 := andThen (andAlloc (Below.refl _ _) _) hb1
  clear hq hz1 hb1
  have hld1 : ∀ o : Obj, (ldN ⟨w.heap.size, 0, none⟩).run Try.prog (w1.alloc o) = .ok (.agg (nc n)) (w1.alloc o) := fun o => run_ldN (hn1.alloc o)
  go_wp2_with (first
    | (refine wpList_store_row rfl 117 _ _ rfl w1.heap.size (ktab (w.heap.size + 1 + 1)) rfl rfl 117 Try.zeroCells117 (Blk.new' rfl) (by rw [ktab_size]; exact kinds_info) (by rw [ktab_size]; exact zero_size) (ktab_one _) ?_)
    | fail)
  have hq2 : (w1.alloc (.cells (ktab (w.heap.size + 1 + 1)) 117)).cell? ⟨w.heap.size + 1 + 1, 0, none⟩ = some (.func (.func 87) #[] #[]) := by
    have h1 := HQ.out
    have h2 := HZ1.out
    simp at h1 h2
    exact (World.cell?_alloc_past (w := w1) _ _ _ (by omega)).trans h1
  have hw2 := andAlloc hl1 (.cells (ktab (w.heap.size + 1 + 1)) 117)
  have hn2 := hn1.alloc (.cells (ktab (w.heap.size + 1 + 1)) 117)
  refine (right_any n w1.heap.size (w.heap.size + 1 + 1) _ (Blk.new' rfl) hq2).mono ?_
  rintro e w2 ⟨rfl, hb2⟩
  have hl2 := andThen hw2 hb2
  have hn2' := hn2.below hb2 hn2.lt
  have hc2 : w2.cell? ⟨w.heap.size, 0, none⟩ = some (.int .i64 n.kind) := hn2' 0 _ rfl
  have hz2 := hn2'.lt
  rw [HR.out]
  clear hq2 hw2 hn2 hb2 hn1 hl1 HQ HZ1 hld1
  go_wp2_with fail
  go_ret2
  exact ⟨rfl, hl2⟩
set_option maxHeartbeats 2000000 in
set_option maxRecDepth 100000 in
theorem wrap_o (n : Nd) (A : Option Addr) (l : List Nd) (c : Nat) (w : World) (hr : right n = true) (ho : opensB n = false) :
    Calls Try.prog 79 #[.agg (nc n), .slice A l.length c] w fun e w' => e = .returned (.tuple #[.slice none 0 0, .int .i64 1]) ∧ Below w.heap.size w w' := by
  have HR := Lib.hid hr
  have HO := Lib.hid ho
  clear hr ho
  generalize l.length = len at *
  go_enter Try.func79, Try.ntmps79
  go_wp2_with fail
  refine (kinds_any _).mono ?_
  rintro e w1 ⟨rfl, hq, hz1, hb1⟩
  have HQ := Lib.hid hq
  have HZ1 := Lib.hid hz1
  have hn1 : NodeAt w1 w.heap.size 0 n := NodeAt.below (Blk.node (Blk.new' rfl)) hb1 (by simp)
  have hl1 : Below w.heap.size w w1 := andThen (andAlloc (Below.refl _ _) _) hb1
  clear hq hz1 hb1
  have hld1 : ∀ o : Obj, (ldN ⟨w.heap.size, 0, none⟩).run Try.prog (w1.alloc o) = .ok (.agg (nc n)) (w1.alloc o) := fun o => run_ldN (hn1.alloc o)
  go_wp2_with (first
    | (refine wpList_store_row rfl 117 _ _ rfl w1.heap.size (ktab (w.heap.size + 1 + 1)) rfl rfl 117 Try.zeroCells117 (Blk.new' rfl) (by rw [ktab_size]; exact kinds_info) (by rw [ktab_size]; exact zero_size) (ktab_one _) ?_)
    | fail)
  have hq2 : (w1.alloc (.cells (ktab (w.heap.size + 1 + 1)) 117)).cell? ⟨w.heap.size + 1 + 1, 0, none⟩ = some (.func (.func 87) #[] #[]) := by
    have h1 := HQ.out
    have h2 := HZ1.out
    simp at h1 h2
    exact (World.cell?_alloc_past (w := w1) _ _ _ (by omega)).trans h1
  have hw2 := andAlloc hl1 (.cells (ktab (w.heap.size + 1 + 1)) 117)
  have hn2 := hn1.alloc (.cells (ktab (w.heap.size + 1 + 1)) 117)
  refine (right_any n w1.heap.size (w.heap.size + 1 + 1) _ (Blk.new' rfl) hq2).mono ?_
  rintro e w2 ⟨rfl, hb2⟩
  have hl2 := andThen hw2 hb2
  have hn2' := hn2.below hb2 hn2.lt
  have hc2 : w2.cell? ⟨w.heap.size, 0, none⟩ = some (.int .i64 n.kind) := hn2' 0 _ rfl
  have hz2 := hn2'.lt
  rw [HR.out]
  have hld2 : (ldN ⟨w.heap.size, 0, none⟩).run Try.prog w2 = .ok (.agg (nc n)) w2 := run_ldN hn2'
  have hld3 : ∀ o : Obj, (ldN ⟨w.heap.size, 0, none⟩).run Try.prog (w2.alloc o) = .ok (.agg (nc n)) (w2.alloc o) := fun o => run_ldN (hn2'.alloc o)
  clear hq2 hw2 hn2 hb2 hn1 hl1 HQ HZ1 hld1
  go_wp2_with (first
    | (go_at_call 53; (with_reducible refine (opens_any _ _).mono ?_); rintro e w' ⟨rfl, rfl⟩; simp only [HO.out]))
  go_ret2
  exact ⟨rfl, andAlloc hl2 _⟩
set_option maxHeartbeats 2000000 in
set_option maxRecDepth 100000 in
theorem wrap_d (n : Nd) (A : Option Addr) (l : List Nd) (c : Nat) (w : World) (hr : right n = true) (ho : opensB n = true) (h10 : n.kind = 10) :
    Calls Try.prog 79 #[.agg (nc n), .slice A l.length c] w fun e w' => e = .returned (.tuple #[.slice none 0 0, .int .i64 1]) ∧ Below w.heap.size w w' := by
  have HR := Lib.hid hr
  have HO := Lib.hid ho
  have e10 : (n.kind == 10) = true := by simp [h10]
  clear hr ho h10
  generalize l.length = len at *
  go_enter Try.func79, Try.ntmps79
  go_wp2_with fail
  refine (kinds_any _).mono ?_
  rintro e w1 ⟨rfl, hq, hz1, hb1⟩
  have HQ := Lib.hid hq
  have HZ1 := Lib.hid hz1
  have hn1 : NodeAt w1 w.heap.size 0 n := NodeAt.below (Blk.node (Blk.new' rfl)) hb1 (by simp)
  have hl1 : Below w.heap.size w w1 := andThen (andAlloc (Below.refl _ _) _) hb1
  clear hq hz1 hb1
  have hld1 : ∀ o : Obj, (ldN ⟨w.heap.size, 0, none⟩).run Try.prog (w1.alloc o) = .ok (.agg (nc n)) (w1.alloc o) := fun o => run_ldN (hn1.alloc o)
  go_wp2_with (first
    | (refine wpList_store_row rfl 117 _ _ rfl w1.heap.size (ktab (w.heap.size + 1 + 1)) rfl rfl 117 Try.zeroCells117 (Blk.new' rfl) (by rw [ktab_size]; exact kinds_info) (by rw [ktab_size]; exact zero_size) (ktab_one _) ?_)
    | fail)
  have hq2 : (w1.alloc (.cells (ktab (w.heap.size + 1 + 1)) 117)).cell? ⟨w.heap.size + 1 + 1, 0, none⟩ = some (.func (.func 87) #[] #[]) := by
    have h1 := HQ.out
    have h2 := HZ1.out
    simp at h1 h2
    exact (World.cell?_alloc_past (w := w1) _ _ _ (by omega)).trans h1
  have hw2 := andAlloc hl1 (.cells (ktab (w.heap.size + 1 + 1)) 117)
  have hn2 := hn1.alloc (.cells (ktab (w.heap.size + 1 + 1)) 117)
  refine (right_any n w1.heap.size (w.heap.size + 1 + 1) _ (Blk.new' rfl) hq2).mono ?_
  rintro e w2 ⟨rfl, hb2⟩
  have hl2 := andThen hw2 hb2
  have hn2' := hn2.below hb2 hn2.lt
  have hc2 : w2.cell? ⟨w.heap.size, 0, none⟩ = some (.int .i64 n.kind) := hn2' 0 _ rfl
  have hz2 := hn2'.lt
  rw [HR.out]
  have hld2 : (ldN ⟨w.heap.size, 0, none⟩).run Try.prog w2 = .ok (.agg (nc n)) w2 := run_ldN hn2'
  have hld3 : ∀ o : Obj, (ldN ⟨w.heap.size, 0, none⟩).run Try.prog (w2.alloc o) = .ok (.agg (nc n)) (w2.alloc o) := fun o => run_ldN (hn2'.alloc o)
  clear hq2 hw2 hn2 hb2 hn1 hl1 HQ HZ1 hld1
  go_wp2_with (first
    | (go_at_call 53; (with_reducible refine (opens_any _ _).mono ?_); rintro e w' ⟨rfl, rfl⟩; simp only [HO.out]))
  go_ret2
  exact ⟨rfl, andAlloc hl2 _⟩
set_option maxHeartbeats 2000000 in
set_option maxRecDepth 100000 in
theorem wrap_c (n : Nd) (A : Option Addr) (l : List Nd) (c : Nat) (w : World) (hl : l.length ≤ 9223372036854775806) (hseg : Seg w w.heap.size A (l.flatMap ncs)) (hr : right n = true) (ho : opensB n = true) (h10 : ¬ n.kind = 10) (hc : ¬ chk l = 0) :
    Calls Try.prog 79 #[.agg (nc n), .slice A l.length c] w fun e w' => e = .returned (.tuple #[.slice none 0 0, .int .i64 (chk l)]) ∧ Below w.heap.size w w' := by
  have e10 : (n.kind == 10) = false := by simp [h10]
  have HO := Lib.hid ho
  have HR := Lib.hid hr
  have HC := Lib.hid fun w1 (h : Below w.heap.size w w1) => check_any A l c w1 (by omega) (Seg.belowW hseg h)
  have e0 : (chk l != 0) = true := by simp [hc]
  clear hc ho hr hseg h10
  generalize chk l = q0 at *
  generalize l.length = len at *
  go_enter Try.func79, Try.ntmps79
  go_wp2_with fail
  refine (kinds_any _).mono ?_
  rintro e w1 ⟨rfl, hq, hz1, hb1⟩
  have HQ := Lib.hid hq
  have HZ1 := Lib.hid hz1
  have hn1 : NodeAt w1 w.heap.size 0 n := NodeAt.below (Blk.node (Blk.new' rfl)) hb1 (by simp)
  have hl1 : Below w.heap.size w w1 := andThen (andAlloc (Below.refl _ _) _) hb1
  clear hq hz1 hb1
  have hld1 : ∀ o : Obj, (ldN ⟨w.heap.size, 0, none⟩).run Try.prog (w1.alloc o) = .ok (.agg (nc n)) (w1.alloc o) := fun o => run_ldN (hn1.alloc o)
  go_wp2_with (first
    | (refine wpList_store_row rfl 117 _ _ rfl w1.heap.size (ktab (w.heap.size + 1 + 1)) rfl rfl 117 Try.zeroCells117 (Blk.new' rfl) (by rw [ktab_size]; exact kinds_info) (by rw [ktab_size]; exact zero_size) (ktab_one _) ?_)
    | fail)
  have hq2 : (w1.alloc (.cells (ktab (w.heap.size + 1 + 1)) 117)).cell? ⟨w.heap.size + 1 + 1, 0, none⟩ = some (.func (.func 87) #[] #[]) := by
    have h1 := HQ.out
    have h2 := HZ1.out
    simp at h1 h2
    exact (World.cell?_alloc_past (w := w1) _ _ _ (by omega)).trans h1
  have hw2 := andAlloc hl1 (.cells (ktab (w.heap.size + 1 + 1)) 117)
  have hn2 := hn1.alloc (.cells (ktab (w.heap.size + 1 + 1)) 117)
  refine (right_any n w1.heap.size (w.heap.size + 1 + 1) _ (Blk.new' rfl) hq2).mono ?_
  rintro e w2 ⟨rfl, hb2⟩
  have hl2 := andThen hw2 hb2
  have hn2' := hn2.below hb2 hn2.lt
  have hc2 : w2.cell? ⟨w.heap.size, 0, none⟩ = some (.int .i64 n.kind) := hn2' 0 _ rfl
  have hz2 := hn2'.lt
  rw [HR.out]
  have hld2 : (ldN ⟨w.heap.size, 0, none⟩).run Try.prog w2 = .ok (.agg (nc n)) w2 := run_ldN hn2'
  have hld3 : ∀ o : Obj, (ldN ⟨w.heap.size, 0, none⟩).run Try.prog (w2.alloc o) = .ok (.agg (nc n)) (w2.alloc o) := fun o => run_ldN (hn2'.alloc o)
  clear hq2 hw2 hn2 hb2 hn1 hl1 HQ HZ1 hld1
  go_wp2_with (first
    | (go_at_call 53; (with_reducible refine (opens_any _ _).mono ?_); rintro e w' ⟨rfl, rfl⟩; simp only [HO.out]))
  have hl3 := andAlloc hl2 (.cells (nc n) 54)
  have hn3 := hn2'.alloc (.cells (nc n) 54)
  refine (HC.out _ hl3).mono ?_
  rintro e w3 ⟨rfl, hb3⟩
  have HL3 := Lib.hid (andThen hl3 hb3)
  clear hl2 hn2' hc2 hz2 hld2 hld3 hl3 hn3 hb3 HC
  go_wp2_with fail
  go_ret2
  exact ⟨rfl, HL3.out⟩
set_option maxHeartbeats 2000000 in
set_option maxRecDepth 100000 in
theorem wrap_w (n : Nd) (A : Option Addr) (l : List Nd) (c : Nat) (w : World) (hsrc : Src w A c l) (hr : right n = true) (ho : opensB n = true) (h10 : ¬ n.kind = 10) (hc : chk l = 0) (hw : ¬ chk (wrapL n l) = 0) :
    Calls Try.prog 79 #[.agg (nc n), .slice A l.length c] w fun e w' => e = .returned (.tuple #[.slice none 0 0, .int .i64 (chk (wrapL n l))]) ∧ Below w.heap.size w w' := by
  have hl := (chk_run hc).1
  have e10 : (n.kind == 10) = false := by simp [h10]
  have HO := Lib.hid ho
  have HR := Lib.hid hr
  have HC := Lib.hid fun w1 (h : Below w.heap.size w w1) => check_any A l c w1 (by omega) (Src.below hsrc h).seg
  have HE := Lib.hid hc
  have HS := Lib.hid hsrc
  have e0 : (chk (wrapL n l) != 0) = true := by simp [hw]
  generalize hqw : chk (wrapL n l) = q0 at *
  have HQW := Lib.hid hqw
  rw [HE.out] at HC
  clear hc ho hr hsrc hw h10 hqw
  go_enter Try.func79, Try.ntmps79
  go_wp2_with fail
  refine (kinds_any _).mono ?_
  rintro e w1 ⟨rfl, hq, hz1, hb1⟩
  have HQ := Lib.hid hq
  have HZ1 := Lib.hid hz1
  have hn1 : NodeAt w1 w.heap.size 0 n := NodeAt.below (Blk.node (Blk.new' rfl)) hb1 (by simp)
  have hl1 : Below w.heap.size w w1 := andThen (andAlloc (Below.refl _ _) _) hb1
  clear hq hz1 hb1
  have hld1 : ∀ o : Obj, (ldN ⟨w.heap.size, 0, none⟩).run Try.prog (w1.alloc o) = .ok (.agg (nc n)) (w1.alloc o) := fun o => run_ldN (hn1.alloc o)
  go_wp2_with (first
    | (refine wpList_store_row rfl 117 _ _ rfl w1.heap.size (ktab (w.heap.size + 1 + 1)) rfl rfl 117 Try.zeroCells117 (Blk.new' rfl) (by rw [ktab_size]; exact kinds_info) (by rw [ktab_size]; exact zero_size) (ktab_one _) ?_)
    | fail)
  have hq2 : (w1.alloc (.cells (ktab (w.heap.size + 1 + 1)) 117)).cell? ⟨w.heap.size + 1 + 1, 0, none⟩ = some (.func (.func 87) #[] #[]) := by
    have h1 := HQ.out
    have h2 := HZ1.out
    simp at h1 h2
    exact (World.cell?_alloc_past (w := w1) _ _ _ (by omega)).trans h1
  have hw2 := andAlloc hl1 (.cells (ktab (w.heap.size + 1 + 1)) 117)
  have hn2 := hn1.alloc (.cells (ktab (w.heap.size + 1 + 1)) 117)
  refine (right_any n w1.heap.size (w.heap.size + 1 + 1) _ (Blk.new' rfl) hq2).mono ?_
  rintro e w2 ⟨rfl, hb2⟩
  have hl2 := andThen hw2 hb2
  have hn2' := hn2.below hb2 hn2.lt
  have hc2 : w2.cell? ⟨w.heap.size, 0, none⟩ = some (.int .i64 n.kind) := hn2' 0 _ rfl
  have hz2 := hn2'.lt
  rw [HR.out]
  have hld2 : (ldN ⟨w.heap.size, 0, none⟩).run Try.prog w2 = .ok (.agg (nc n)) w2 := run_ldN hn2'
  have hld3 : ∀ o : Obj, (ldN ⟨w.heap.size, 0, none⟩).run Try.prog (w2.alloc o) = .ok (.agg (nc n)) (w2.alloc o) := fun o => run_ldN (hn2'.alloc o)
  clear hq2 hw2 hn2 hb2 hn1 hl1 HQ HZ1 hld1
  go_wp2_with (first
    | (go_at_call 53; (with_reducible refine (opens_any _ _).mono ?_); rintro e w' ⟨rfl, rfl⟩; simp only [HO.out]))
  have hl3 := andAlloc hl2 (.cells (nc n) 54)
  have hn3 := hn2'.alloc (.cells (nc n) 54)
  refine (HC.out _ hl3).mono ?_
  rintro e w3 ⟨rfl, hb3⟩
  have HL3 := Lib.hid (andThen hl3 hb3)
  have hn4 := hn3.below hb3 hn3.lt
  have hld4 : (ldN ⟨w.heap.size, 0, none⟩).run Try.prog w3 = .ok (.agg (nc n)) w3 := run_ldN hn4
  have hb6 := run_bldN 6
  have HSR := Lib.hid (fun (W : World) (h : Below w.heap.size w W) => Src.below HS.out h)
  have HO1 := Lib.hid (own_one w3 n)
  have HLA := Lib.hid (andAlloc HL3.out (.cells (nc n) 54))
  clear hl2 hn2' hc2 hz2 hld2 hld3 hl3 hn3 hb3 hn4 HC
  go_wp2_with (first
    | (refine wpList_ex (o := ⟨some 30, _, _, _, _, _⟩) (v := .slice (some ⟨w3.heap.size, 0, none⟩) 1 1) (w' := w3.alloc (.cells (nc n) 54)) rfl (by kernel_rfl) ?_)
    | (at_builtin; refine wpList_append_nodes rfl (.tmp 30) (.tmp 31) rfl w3.heap.size ?_ _ 1 _ rfl HO1.out A c l rfl (HSR.out _ HLA.out) ?_ ?_; simp; omega; intro v1 W1 hown1 hg1; have hlw1 : Below w.heap.size w W1 := below_grown (Nat.le_refl _) HLA.out hg1 (fun g hg => by have hh := HL3.out.size; have hg' : some w3.heap.size = some g := hg; injection hg' with hg'; omega))
    | (refine wpList_build_eq (o := ⟨some 34, _, _, _, _, _⟩) rfl _ _ rfl (nc (nz 6)) (by kernel_rfl) ?_)
    | (refine wpList_ex (o := ⟨some 35, _, _, _, _, _⟩) (v := .slice (some ⟨W1.heap.size, 0, none⟩) 1 1) (w' := W1.alloc (.cells (nc (nz 6)) 54)) rfl (by kernel_rfl) ?_)
    | (at_builtin; refine wpList_push rfl (.tmp 33) (.tmp 35) 34 rfl w3.heap.size 54 _ 19 160 Try.underlying34 node_row rfl (by decide) (by decide) _ _ _ rfl hown1 ?_ _ rfl rfl rfl rfl ?_ ?_; (have hh := hg1.size; simp at hh; omega); omega; intro v2 W2 hown2 hg2 hnn2)
    | fail)
  have hg2' : (W1.alloc (.cells (nc (nz 6)) 54)).grownBy W2 v1.ownBlock := hg2
  clear hg2 hnn2
  have hlw2 : Below w.heap.size w W2 := below_grown (Nat.le_refl _) (andAlloc hlw1 _) hg2' (fun g hg => by
    have h1 := hown1.lt g hg
    have h2 := HL3.out.size
    omega)
  have hfl : (wrapL n l).flatMap ncs = ncs n ++ l.flatMap ncs ++ (nc (nz 6)).toList := by
    show _ = ncs n ++ l.flatMap ncs ++ ncs (nz 6)
    simp [wrapL, List.flatMap_append]
  have hln : 1 + l.length + 1 = (wrapL n l).length := by
    simp [wrapL]
    omega
  rw [← hfl, hln] at hown2
  have HOW := Lib.hid (own_base hown2 (show w.heap.size ≤ w3.heap.size from HL3.out.size))
  obtain ⟨A2, c2, rfl, hc2, hm2, hs2⟩ := Seg.of_own hown2
  have hch := check_any A2 (wrapL n l) c2 W2 (by rw [← hln]; omega) hs2
  rw [HQW.out] at hch
  have HLW2 := Lib.hid hlw2
  clear hg2' hown2 hown1 hg1 hlw1 hlw2 hfl hs2 hm2 HSR HO1 HLA hld4 hb6
  generalize hwl : (wrapL n l).length = wl at *
  have HWL := Lib.hid hwl
  clear hwl
  refine hch.mono ?_
  rintro e w5 ⟨rfl, hb5⟩
  have HLF := Lib.hid (andThen HLW2.out hb5)
  clear hch hb5 HOW HLW2
  go_wp2_with fail
  go_ret2
  exact ⟨rfl, HLF.out⟩
end Go.Proofs.Ytoboecenlangmaa.No
end
section
namespace Go.Proofs.Ytoboecenlangmaa.Pk
open Go.ChangeShapes Go.WideShapes Go.ChangeAt Go.RowKit
open Me Np No
set_option linter.unusedVariables false
set_option linter.unusedSimpArgs false

/-- How long a list is; how high (along a row) or how wide (down a column). -/
noncomputable def natD (l : List Nd) (down : Bool) : Int := (totR l down (itsD l)).nat
noncomputable def extH (l : List Nd) (down : Bool) : Int := if (dimB (extD l down (itsD l)).1 && dimB (extD l down (itsD l)).2) = true then (extD l down (itsD l)).1 else 0
/-- What a list's measures are, where it is one: the program's. -/
theorem msr_prog (l : List Nd) (down : Bool) (hc : chk l = 0) : ∃ x a b c d p q r s e1 h v e2, Msr l down x a b c d p q r s e1 h v e2 ∧ (e1 = 0 ∨ e1 = 20) ∧ x = natD l down ∧ h = extH l down := by
  obtain ⟨xs, hx⟩ := its_of_chk hc
  have hT := totR_len l down xs
  have hB := totD_tb down hc hx
  have hND : natD l down = (totR l down xs).nat := by unfold natD; rw [itsD_of hx]
  have hEH : extH l down = if (dimB (extD l down xs).1 && dimB (extD l down xs).2) = true then (extD l down xs).1 else 0 := by unfold extH; rw [itsD_of hx]
  obtain ⟨⟨x, st, sh⟩, hTe⟩ : ∃ T, totR l down xs = T := ⟨_, rfl⟩
  rw [hTe] at hT hND
  match st, sh, hT.1, hT.2 with
  | [a, b, c, d], [p, q, r, s], _, _ =>
  have ht := fun A k w h hs => totals_any A l k xs down w hc h hs hx
  simp only [hTe] at ht
  obtain ⟨ext, hext⟩ : ∃ E, extD l down xs = E := ⟨_, rfl⟩
  have hu := fun A k w h hs => extent_good A l k xs down w hc h hs hx
  simp only [hext] at hu hEH
  refine ⟨x, a, b, c, d, p, q, r, s, _, _, _, _, ⟨ht, hu, ?_, ?_, ?_, ?_⟩, ?_, hND.symm, hEH.symm⟩
  · intro h0
    have hd : dimB (totD l down xs).nat = true := by
      by_cases hd : dimB (totD l down xs).nat = true
      · exact hd
      · rw [if_neg hd] at h0; cases h0
    have : totR l down xs = totD l down xs := if_pos hd
    rw [hTe] at this
    rw [← this] at hd
    exact hd
  · intro h0
    have hd : dimB (totD l down xs).nat = true := by
      by_cases hd : dimB (totD l down xs).nat = true
      · exact hd
      · rw [if_neg hd] at h0; cases h0
    have he : totR l down xs = totD l down xs := if_pos hd
    rw [hTe] at he
    rw [← he] at hB
    exact ⟨near_of (hB.st 0), near_of (hB.st 1), near_of (hB.st 2), near_of (hB.st 3), near_of (hB.sh 0), near_of (hB.sh 1), near_of (hB.sh 2), near_of (hB.sh 3)⟩
  · intro _
    split
    · exact .inl rfl
    · exact .inr rfl
  · intro h0
    split at h0
    · rename_i h1
      rw [if_pos h1, if_pos h1]
      simp only [Bool.and_eq_true] at h1
      exact h1
    · cases h0
  · split
    · exact .inl rfl
    · exact .inr rfl
/-- Wrap, of a list. -/
theorem pwrp_case (n : Nd) (ns : List Nd) (hc : chk ns = 0) : ∃ L e, ((e = 0 ∧ L = wrapL n ns ∧ chk (wrapL n ns) = 0 ∧ opensB n = true ∧ right n = true) ∨ (¬ e = 0 ∧ L = [])) ∧ ∀ (A : Option Addr) (c : Nat) (w : World), Src w A c ns →
    Calls Try.prog 79 #[.agg (nc n), .slice A ns.length c] w fun e' w' => ∃ v, e' = .returned (.tuple #[v, .int .i64 e]) ∧ w'.ownsRow w.heap.size 54 19 v L.length (L.flatMap ncs) ∧ Below w.heap.size w w' := by
  cases hr : right n
  · refine ⟨[], 1, .inr ⟨by omega, rfl⟩, fun A c w hs => (wrap_r n A ns c w hr).mono ?_⟩
    rintro e w' ⟨rfl, hb⟩; exact ⟨_, rfl, World.ownsRow_nil _ _ _ _, hb⟩
  · cases ho : opensB n
    · refine ⟨[], 1, .inr ⟨by omega, rfl⟩, fun A c w hs => (wrap_o n A ns c w hr ho).mono ?_⟩
      rintro e w' ⟨rfl, hb⟩; exact ⟨_, rfl, World.ownsRow_nil _ _ _ _, hb⟩
    · by_cases h10 : n.kind = 10
      · refine ⟨[], 1, .inr ⟨by omega, rfl⟩, fun A c w hs => (wrap_d n A ns c w hr ho h10).mono ?_⟩
        rintro e w' ⟨rfl, hb⟩; exact ⟨_, rfl, World.ownsRow_nil _ _ _ _, hb⟩
      · by_cases hw : chk (wrapL n ns) = 0
        · refine ⟨wrapL n ns, 0, .inl ⟨rfl, rfl, hw, rfl, rfl⟩, fun A c w hs => (wrap_ok n A ns c w hs hr ho h10 hc hw).mono ?_⟩
          rintro e w' ⟨v, rfl, h, hb⟩; exact ⟨v, rfl, h, hb⟩
        · refine ⟨[], chk (wrapL n ns), .inr ⟨hw, rfl⟩, fun A c w hs => (wrap_w n A ns c w hs hr ho h10 hc hw).mono ?_⟩
          rintro e w' ⟨rfl, hb⟩; exact ⟨_, rfl, World.ownsRow_nil _ _ _ _, hb⟩
/-- A row that is packed. -/
def HpkG (ns : List Nd) (tw : Int) (ex : Bool) (R : List Nd × List Nd × Int × Int × Int) : Prop :=
  ∃ S O x a b c d p q r s h v W F, partD ns = (S, O) ∧ chk ns = 0 ∧ Msr S false x a b c d p q r s 0 h v 0 ∧ W = (if ex = true then tw else tw + x) ∧ dimB W = true ∧ F = Gl.fit a b c d p q r s (W - x) ∧ chk (wrapL (fitN (hN W h v) F) S) = 0 ∧
    R = (wrapL (fitN (hN W h v) F) S, O, (setV (fitN (hN W h v) F) a p ((S.length : Int) == 0) (W - x) (0, 0)).1, (setV (fitN (hN W h v) F) a p ((S.length : Int) == 0) (W - x) (0, 0)).2, 0)
def HpkN (R : List Nd × List Nd × Int × Int × Int) : Prop := R.1 = [] ∧ R.2.1 = [] ∧ R.2.2.1 = 0 ∧ R.2.2.2.1 = 0 ∧ ¬ R.2.2.2.2 = 0
theorem hpk1_case (ns : List Nd) (tw : Int) (ex : Bool) (hl : ns.length ≤ 9223372036854775806) : ∃ R, R.1.length ≤ 2002 ∧ R.2.1.length ≤ 2000 ∧ (HpkG ns tw ex R ∨ HpkN R) ∧
    ∀ (A : Option Addr) (k : Nat) (w : World), ns.length ≤ k → Seg w w.heap.size A (ns.flatMap ncs) → Calls Try.prog 20 #[.slice A ns.length k, .int .i64 tw, .bool ex] w (HOut R w) := by
  by_cases hc : chk ns = 0
  · cases ht : dimB tw
    · exact ⟨([], [], 0, 0, 11), by simp, by simp, .inr ⟨rfl, rfl, rfl, rfl, by simp⟩, fun A k w hk hs => hpack_far A ns k tw ex w hl hs hc ht⟩
    · obtain ⟨S, O, hS⟩ : ∃ S O, partD ns = (S, O) := ⟨_, _, rfl⟩
      have hlen := partD_len hc
      have hchk := partD_chk hc
      rw [hS] at hlen hchk
      obtain ⟨x, a, b, c, d, p, q, r, s, e1, h, v, e2, M, h20, hxN, hhE⟩ := msr_prog S false hchk.1
      obtain ⟨W, hW⟩ : ∃ W, W = if ex = true then tw else tw + x := ⟨_, rfl⟩
      obtain ⟨L, e3, hL, hP⟩ := pwrp_case (fitN (hN W h v) (Gl.fit a b c d p q r s (W - x))) S hchk.1
      have hm := fun A k w hk hs => hpack_main A ns S O L k tw ex w hc hk hs ht hS x a b c d p q r s e1 h v e2 e3 W M hW hP
      by_cases h1 : e1 = 0
      · by_cases h2 : e2 = 0
        · by_cases h3 : dimB W = true
          · rcases hL with ⟨h4, rfl, hcw, ho, hrt⟩ | ⟨h4, rfl⟩
            · subst h1 h2 h4
              refine ⟨_, ?_, ?_, .inl ⟨S, O, x, a, b, c, d, p, q, r, s, h, v, W, _, hS, hc, M, hW, h3, rfl, hcw, ?_⟩, hm⟩
              · unfold hpkR; rw [if_pos rfl, if_pos rfl, if_pos h3, if_pos rfl]; have := (chk_run hcw).1; show (wrapL _ _).length ≤ 2002; omega
              · unfold hpkR; rw [if_pos rfl, if_pos rfl, if_pos h3, if_pos rfl]; exact hlen.2
              · unfold hpkR; rw [if_pos rfl, if_pos rfl, if_pos h3, if_pos rfl]
            · have e : ∀ y z, hpkR e1 e2 (dimB W) e3 [] O y z = ([], [], 0, 0, e3) := by intro y z; unfold hpkR; rw [if_pos h1, if_pos h2, if_pos h3, if_neg h4]
              simp only [e] at hm
              exact ⟨_, by simp, by simp, .inr ⟨rfl, rfl, rfl, rfl, h4⟩, hm⟩
          · have e : ∀ y z, hpkR e1 e2 (dimB W) e3 L O y z = ([], [], 0, 0, 20) := by intro y z; unfold hpkR; rw [if_pos h1, if_pos h2, if_neg h3]
            simp only [e] at hm
            exact ⟨_, by simp, by simp, .inr ⟨rfl, rfl, rfl, rfl, by simp⟩, hm⟩
        · have e : ∀ y z, hpkR e1 e2 (dimB W) e3 L O y z = ([], [], 0, 0, e2) := by intro y z; unfold hpkR; rw [if_pos h1, if_neg h2]
          simp only [e] at hm
          exact ⟨_, by simp, by simp, .inr ⟨rfl, rfl, rfl, rfl, h2⟩, hm⟩
      · have e : ∀ y z, hpkR e1 e2 (dimB W) e3 L O y z = ([], [], 0, 0, e1) := by intro y z; unfold hpkR; rw [if_neg h1]
        simp only [e] at hm
        exact ⟨_, by simp, by simp, .inr ⟨rfl, rfl, rfl, rfl, h1⟩, hm⟩
  · exact ⟨([], [], 0, 0, chk ns), by simp, by simp, .inr ⟨rfl, rfl, rfl, rfl, hc⟩, fun A k w hk hs => hpack_err A ns k tw ex w hl hs hc⟩
end Go.Proofs.Ytoboecenlangmaa.Pk
end
section
namespace Go.Proofs.Ytoboecenlangmaa.Pk
open Go.ChangeShapes Go.WideShapes Go.ChangeAt Go.RowKit
open Me Np No
set_option linter.unusedVariables false
set_option linter.unusedSimpArgs false

theorem seg_own {w : World} {base n c : Nat} {A : Option Addr} {xs : List Value} (h : w.ownsRow base 54 19 (.slice A n c) n xs) : Seg w w.heap.size A xs := by
  obtain ⟨A1, c1, e, _, _, hs⟩ := Seg.of_own h
  injection e with e _ _
  subst e
  exact hs
theorem val_own {w : World} {base : Nat} {e : TypeId} {size n : Nat} {v : Value} {xs : List Value} (h : w.ownsRow base e size v n xs) : ∃ A c, v = .slice A n c ∧ n ≤ c := by
  obtain ⟨A, c, h1, h2, _⟩ := Seg.of_own h
  exact ⟨A, c, h1, h2⟩
theorem opens_beg {n : Nd} (h : opensB n = true) : ¬ n.kind = 6 ∧ ¬ n.kind = 11 := by
  constructor
  · intro e; simp [opensB, e] at h
  · intro e; simp [opensB, e] at h
/-- The first node of a row of one's own. -/
theorem head_cells {w : World} {base k : Nat} {A : Option Addr} {L : List Nd} {n : Nd} {r : List Nd} (ho : w.ownsRow base 54 19 (.slice A L.length k) L.length (L.flatMap ncs)) (hL : L = n :: r) :
    ∃ b off : Nat, A = some ⟨b, off, none⟩ ∧ ∀ w', Below w.heap.size w w' → w'.cell? ⟨b, off + 3, none⟩ = some (.int .i64 n.wd) ∧ w'.cell? ⟨b, off + 4, none⟩ = some (.int .i64 n.ht) ∧ w'.cell? ⟨b, off + 5, none⟩ = some (.int .i64 n.dp) ∧ w'.cell? ⟨b, off + 12, none⟩ = some (.int .i64 n.sign) := by
  obtain ⟨b, off, hA, hb, hn⟩ := seg_node (seg_own ho) (k := 0) (n := n) (by rw [hL]; rfl)
  refine ⟨b, off, hA, fun w' h => ?_⟩
  have h2 := hn.below h hb
  rw [Nat.zero_mul, Nat.add_zero] at h2
  exact ⟨h2 3 _ rfl, h2 4 _ rfl, h2 5 _ rfl, h2 12 _ rfl⟩
end Go.Proofs.Ytoboecenlangmaa.Pk
end
section
namespace Go.Proofs.Ytoboecenlangmaa.Al
open Go.ChangeShapes Go.WideShapes Go.ChangeAt Go.RowKit
open Me Np No Pk
set_option linter.unusedVariables false
set_option linter.unusedSimpArgs false

/-- Two contracts of one call tell of one end. -/
theorem agree {P : Program} {f : FuncId} {args : Array Value} {w : World} {R R' : Value → World → Prop}
    (h : Calls P f args w fun e w' => ∃ v, e = .returned v ∧ R v w') (h' : Calls P f args w fun e w' => ∃ v, e = .returned v ∧ R' v w') (hi : P.inits.idxOf? f = none) : ∃ v w', R v w' ∧ R' v w' := by
  have k : Calls P f args w fun | .returned v, w' => R v w' | _, _ => False := h.mono (by rintro e w' ⟨v, rfl, hr⟩; exact hr)
  have k' : Calls P f args w fun | .returned v, w' => R' v w' | _, _ => False := h'.mono (by rintro e w' ⟨v, rfl, hr⟩; exact hr)
  obtain ⟨n, v, w1, e1, r1⟩ := k.done hi
  obtain ⟨m, v', w2, e2, r2⟩ := k'.done hi
  have a := runN_ended e1 m
  have b := runN_ended e2 n
  rw [Nat.add_comm, a] at b
  injection b with ho hw
  injection ho with hv
  subst hv hw
  exact ⟨_, _, r1, r2⟩

/-- p: the error, and how wide. -/
def HW (l : List Nd) (p : Int × Int) : Prop :=
  (p.1 = 0 → dimB p.2 = true) ∧ ∃ R, R.2.2.2.2 = p.1 ∧ R.1.length ≤ 2002 ∧ R.2.1.length ≤ 2000 ∧ (p.1 = 0 → ∃ n r, R.1 = n :: r ∧ n.wd = p.2) ∧ (¬ p.1 = 0 → R.1 = []) ∧
    ∀ (A : Option Addr) (k : Nat) (w : World), l.length ≤ k → Seg w w.heap.size A (l.flatMap ncs) → Calls Try.prog 20 #[.slice A l.length k, .int .i64 0, .bool false] w (HOut R w)
theorem hw_ex (l : List Nd) (hl : l.length ≤ 9223372036854775806) : ∃ p, HW l p := by
  obtain ⟨R, h1, h2, hG, hc⟩ := hpk1_case l 0 false hl
  rcases hG with ⟨S, O, x, a, b, c, d, p, q, r, s, h, v, W, F, hS, hch, M, hW, hd, hF, hw, hR⟩ | ⟨hN1, _, _, _, hN⟩
  · refine ⟨(0, W), fun _ => hd, R, ?_, h1, h2, fun _ => ⟨_, _, by rw [hR]; rfl, rfl⟩, fun h => absurd rfl h, hc⟩
    rw [hR]
  · exact ⟨(R.2.2.2.2, 0), fun h => absurd h hN, R, rfl, h1, h2, fun h => absurd h hN, fun _ => hN1, hc⟩
open Classical in
noncomputable def wd (l : List Nd) : Int × Int := if h : ∃ p, HW l p then Classical.choose h else (0, 0)
theorem wd_is (l : List Nd) (hl : l.length ≤ 9223372036854775806) : HW l (wd l) := by
  have h := hw_ex l hl
  unfold wd
  rw [dif_pos h]
  exact Classical.choose_spec h
/-- What is known of one call is known of all. -/
theorem wd_of (w : World) (l : List Nd) (hl : l.length ≤ 9223372036854775806) (n : Nd) (r O : List Nd) (b o : Int)
    (hc : ∀ (A : Option Addr) (k : Nat) (w : World), l.length ≤ k → Seg w w.heap.size A (l.flatMap ncs) → Calls Try.prog 20 #[.slice A l.length k, .int .i64 0, .bool false] w (HOut (n :: r, O, b, o, 0) w)) : wd l = (0, n.wd) := by
  obtain ⟨_, R, hE, _, _, hg, _, hcall⟩ := wd_is l hl
  have hs : Seg (w.alloc (.cells (l.flatMap ncs).toArray 54)) (w.alloc (.cells (l.flatMap ncs).toArray 54)).heap.size (some ⟨w.heap.size, 0, none⟩) (l.flatMap ncs) :=
    .inr ⟨w.heap.size, 0, rfl, by simp, fun j u hu => by rw [Nat.zero_add, (Blk.new w _ _).cell j]; simpa using hu⟩
  have k1 := hcall (some ⟨w.heap.size, 0, none⟩) l.length _ (Nat.le_refl _) hs
  have k2 := hc (some ⟨w.heap.size, 0, none⟩) l.length _ (Nat.le_refl _) hs
  generalize w.alloc (.cells (l.flatMap ncs).toArray 54) = W at k1 k2
  obtain ⟨v, w', r1, r2⟩ := agree (R := fun v w' => ∃ x u, v = .tuple #[x, u, .int .i64 R.2.2.1, .int .i64 R.2.2.2.1, .int .i64 R.2.2.2.2] ∧ Own2 w' W.heap.size x u R.1 R.2.1)
    (R' := fun v w' => ∃ x u, v = .tuple #[x, u, .int .i64 b, .int .i64 o, .int .i64 0] ∧ Own2 w' W.heap.size x u (n :: r) O)
    (k1.mono (by rintro e w' ⟨x, u, rfl, ho, _⟩; exact ⟨_, rfl, x, u, rfl, ho⟩)) (k2.mono (by rintro e w' ⟨x, u, rfl, ho, _⟩; exact ⟨_, rfl, x, u, rfl, ho⟩)) (by kernel_rfl)
  obtain ⟨x, u, rfl, o1⟩ := r1
  obtain ⟨x', u', hv, o2⟩ := r2
  injection hv with hv
  injection hv with hv
  simp only [List.cons.injEq, Value.int.injEq, true_and, and_true] at hv
  obtain ⟨rfl, rfl, _, _, hz⟩ := hv
  rw [hz] at hE
  obtain ⟨n', r', hR1, hn'⟩ := hg hE.symm
  have q1 := o1.one
  have q2 := o2.one
  obtain ⟨A1, c1, rfl, _⟩ := val_own q1
  have hlen : R.1.length = (n :: r).length := by
    have e1 := q1.1
    have e2 := q2.1
    obtain ⟨A2, c2, e3, _⟩ := val_own q2
    injection e3
  rw [hlen] at q1
  have q1' : w'.ownsRow W.heap.size 54 19 (.slice A1 R.1.length c1) R.1.length (R.1.flatMap ncs) := by rw [hlen]; exact q1
  rw [hlen] at q2
  obtain ⟨b1, o1', hA1, hc1⟩ := head_cells q1' hR1
  obtain ⟨b2, o2', hA2, hc2⟩ := head_cells q2 rfl
  rw [hA1] at hA2
  simp only [Option.some.injEq, Addr.mk.injEq, and_true] at hA2
  obtain ⟨rfl, rfl⟩ := hA2
  have e1 := (hc1 w' (Below.refl _ _)).1
  have e2 := (hc2 w' (Below.refl _ _)).1
  rw [e1] at e2
  simp only [Option.some.injEq, Value.int.injEq, true_and] at e2
  exact Prod.ext hE.symm (hn'.symm.trans e2)

/-! ### a Kern alone -/
theorem end_right : right (nz 6) = true := right_s (nz 6) 6 rfl rfl rfl rfl
def kernN (x : Int) : Nd := { nz 8 with wd := x }
theorem kern_wd (w : World) (x : Int) (hx : dimB x = true) (hr : right (kernN x) = true) (hb : right (fitN (hN x 0 0) (0, 0, 0, 0)) = true) : wd [kernN x] = (0, x) := by
  have hc : chk [kernN x] = 0 := by
    have h : Np.run [kernN x] ([], 0) = some ([], 1) := by
      simp only [Np.run, stp, hr]
      rfl
    unfold chk
    rw [h]
    rfl
  have hi : Its [0] [kernN x] 0 := ⟨rfl, 1, rfl, rfl⟩
  have hS : partD [kernN x] = ([kernN x], []) := by
    unfold partD
    rw [itsD_of hi]
    rfl
  have ha : alD [kernN x] false 0 = x := alD_of ⟨kernN x, rfl, rfl⟩
  have ht : totD [kernN x] false [0] = ⟨x, [0, 0, 0, 0], [0, 0, 0, 0]⟩ := by
    have h : ∀ al : Nat → Int, al 0 = x → tsum [kernN x] al [0] tz = ⟨x, [0, 0, 0, 0], [0, 0, 0, 0]⟩ := by
      intro al h0
      simp only [tsum, h0]
      simp [kernN, nz, tz, tstep]
    exact h _ ha
  have he : extD [kernN x] false [0] = (0, 0) := by
    have h0 : roD [kernN x] 0 = (0, 0) := roD_of ⟨kernN x, rfl, rfl⟩
    have h : ∀ ra : Nat → Int × Int, ra 0 = (0, 0) → rfold ra [0] (0, 0) = (0, 0) := by
      intro ra h0
      simp only [rfold, h0]
      rfl
    exact h _ h0
  have hm : Msr [kernN x] false x 0 0 0 0 0 0 0 0 0 0 0 0 := by
    have h1 := fun A k w h hs => totals_any A [kernN x] k [0] false w hc h hs hi
    have hR : totR [kernN x] false [0] = ⟨x, [0, 0, 0, 0], [0, 0, 0, 0]⟩ := by
      unfold totR
      rw [ht, if_pos hx]
    have hu := fun A k w h hs => extent_good A [kernN x] k [0] false w hc h hs hi
    simp only [hR, ht, hx] at h1
    simp only [he] at hu
    exact ⟨h1, hu, fun _ => hx, fun _ => ⟨rfl, rfl, rfl, rfl, rfl, rfl, rfl, rfl⟩, fun _ => .inl rfl, fun _ => ⟨rfl, rfl⟩⟩
  have hbc : chk (wrapL (fitN (hN x 0 0) (0, 0, 0, 0)) [kernN x]) = 0 := by
    have h : Np.run (wrapL (fitN (hN x 0 0) (0, 0, 0, 0)) [kernN x]) ([], 0) = some ([], 2) := by
      simp only [wrapL, List.cons_append, List.nil_append, Np.run, stp, hr, hb, end_right]
      rfl
    unfold chk
    rw [h]
    rfl
  have hf : Gl.fit 0 0 0 0 0 0 0 0 (x - x) = (0, 0, 0, 0) := by rw [Int.sub_self]; rfl
  refine wd_of w [kernN x] (by simp) (fitN (hN x 0 0) (0, 0, 0, 0)) ([kernN x] ++ [nz 6]) [] 0 0 fun A k w hk hs => ?_
  have h := hpack_f A [kernN x] [kernN x] [] (wrapL (fitN (hN x 0 0) (0, 0, 0, 0)) [kernN x]) k 0 w hc hk hs rfl hS x 0 0 0 0 0 0 0 0 0 0 0 0 0 x hm (by omega) (fun A c' w hs => by
    rw [hf]
    exact (wrap_ok (fitN (hN x 0 0) (0, 0, 0, 0)) A [kernN x] c' w hs hb rfl (by simp [fitN, hN, nz]) hc hbc).mono (by rintro e w' ⟨v, rfl, h, hb⟩; exact ⟨v, rfl, h, hb⟩))
  have e : hpkR 0 0 (dimB x) 0 (wrapL (fitN (hN x 0 0) (0, 0, 0, 0)) [kernN x]) [] (setV (fitN (hN x 0 0) (Gl.fit 0 0 0 0 0 0 0 0 (x - x))) 0 0 (([kernN x].length : Int) == 0) (x - x) (0, 0)).1 (setV (fitN (hN x 0 0) (Gl.fit 0 0 0 0 0 0 0 0 (x - x))) 0 0 (([kernN x].length : Int) == 0) (x - x) (0, 0)).2 = (wrapL (fitN (hN x 0 0) (0, 0, 0, 0)) [kernN x], [], 0, 0, 0) := by
    rw [hf, Int.sub_self, hx]
    rfl
  rw [e] at h
  exact h
theorem kern_four (w : World) : wd [kernN 327680] = (0, 327680) ∧ wd [kernN 196608] = (0, 196608) ∧ wd [kernN 131072] = (0, 131072) ∧ wd [kernN 458752] = (0, 458752) :=
  ⟨kern_wd w _ rfl (right_s _ 8 rfl rfl rfl rfl) (right_s _ 4 rfl rfl rfl rfl), kern_wd w _ rfl (right_s _ 8 rfl rfl rfl rfl) (right_s _ 4 rfl rfl rfl rfl), kern_wd w _ rfl (right_s _ 8 rfl rfl rfl rfl) (right_s _ 4 rfl rfl rfl rfl), kern_wd w _ rfl (right_s _ 8 rfl rfl rfl rfl) (right_s _ 4 rfl rfl rfl rfl)⟩
end Go.Proofs.Ytoboecenlangmaa.Al
end
section
namespace Go.Proofs.Ytoboecenlangmaa.Al
open Np
open Gl (G)
open Go.RowKit (wrap64)
set_option linter.unusedVariables false

abbrev RD := List (List Nd × Int) × List Nd
noncomputable def celE (cols : Int) : Int → List (List Nd × Int) → Int
  | _, [] => 0
  | a, c :: r => if c.2 < 1 ∨ cols - a < c.2 then 220 else if (wd c.1).1 = 0 then celE cols (a + c.2) r else (wd c.1).1
noncomputable def rowErr (cols : Int) (r : RD) : Int := if celE cols 0 r.1 = 0 then chk r.2 else celE cols 0 r.1
noncomputable def rowsE (cols : Int) : List RD → Int
  | [] => 0
  | r :: rs => if rowErr cols r = 0 then rowsE cols rs else rowErr cols r
noncomputable def ckE (ss : List G) (rs : List RD) : Int :=
  if ss.length < 2 ∨ 257 < ss.length ∨ 2000 < rs.length then 220 else if ss.all G.ok = true then rowsE ((ss.length : Int) - 1) rs else 30
noncomputable def wids (r : RD) : List Int := r.1.map fun c => (wd c.1).2
noncomputable def cel (r : RD) : List (Int × Nat) := r.1.map fun c => ((wd c.1).2, c.2.toNat)
/-- Where cell k begins. -/
def posI : List (List Nd × Int) → Nat → Int
  | _, 0 => 0
  | [], _ => 0
  | c :: r, k + 1 => c.2 + posI r k

theorem posI_succ : ∀ {r : List (List Nd × Int)} {k : Nat} {c : List Nd × Int}, r[k]? = some c → posI r (k + 1) = posI r k + c.2
  | [], k, c, h => by simp at h
  | x :: r, 0, c, h => by
    simp at h
    subst h
    simp [posI]
  | x :: r, k + 1, c, h => by
    rw [posI, posI_succ (r := r) (k := k) (c := c) (by simpa using h), posI]
    omega
theorem celE_drop {cols : Int} {r : List (List Nd × Int)} {k : Nat} {c : List Nd × Int} (hk : r[k]? = some c) (a : Int) : celE cols a (r.drop k) = if c.2 < 1 ∨ cols - a < c.2 then 220 else if (wd c.1).1 = 0 then celE cols (a + c.2) (r.drop (k + 1)) else (wd c.1).1 := by
  have hlt : k < r.length := by
    rcases Nat.lt_or_ge k r.length with h | h
    · exact h
    · rw [List.getElem?_eq_none h] at hk; cases hk
  rw [List.drop_eq_getElem_cons hlt]
  rw [List.getElem?_eq_getElem hlt] at hk
  injection hk with hk
  rw [hk]
  rfl
theorem rowsE_take {cols : Int} : ∀ {rs : List RD} {i : Nat} {r : RD}, rs[i]? = some r → (∀ q ∈ rs.take i, rowErr cols q = 0) → ¬ rowErr cols r = 0 → rowsE cols rs = rowErr cols r
  | [], i, r, h, _, _ => by simp at h
  | x :: rs, 0, r, h, _, hr => by
    simp at h
    subst h
    rw [rowsE, if_neg hr]
  | x :: rs, i + 1, r, h, ha, hr => by
    rw [rowsE, if_pos (ha x (by simp))]
    exact rowsE_take (i := i) (by simpa using h) (fun q hq => ha q (by simp [hq])) hr
theorem rowsE_zero {cols : Int} : ∀ {rs : List RD}, (∀ q ∈ rs, rowErr cols q = 0) → rowsE cols rs = 0
  | [], _ => rfl
  | x :: rs, h => by
    rw [rowsE, if_pos (h x (by simp))]
    exact rowsE_zero fun q hq => h q (by simp [hq])
theorem rowsE_all {cols : Int} : ∀ {rs : List RD}, rowsE cols rs = 0 → ∀ q ∈ rs, rowErr cols q = 0
  | [], _, q, hq => by simp at hq
  | x :: rs, h, q, hq => by
    rw [rowsE] at h
    split at h
    · rename_i h0
      rcases List.mem_cons.1 hq with rfl | hq
      · exact h0
      · exact rowsE_all h q hq
    · rename_i h0
      exact absurd h h0
/-- A row that is good. -/
theorem celE_good {cols : Int} : ∀ {r : List (List Nd × Int)} {a : Int}, a ≤ cols → celE cols a r = 0 → (∀ c ∈ r, 1 ≤ c.2 ∧ (wd c.1).1 = 0) ∧ ∀ k, a + posI r k ≤ cols
  | [], a, ha, _ => ⟨by simp, fun k => by cases k <;> simp [posI, ha]⟩
  | c :: r, a, ha, h => by
    rw [celE] at h
    split at h
    · cases h
    · rename_i h1
      split at h
      · rename_i h2
        obtain ⟨h3, h4⟩ := celE_good (a := a + c.2) (by omega) h
        refine ⟨fun x hx => ?_, fun k => ?_⟩
        · rcases List.mem_cons.1 hx with rfl | hx
          · exact ⟨by omega, h2⟩
          · exact h3 x hx
        · cases k with
          | zero => simp [posI, ha]
          | succ k => have := h4 k; rw [posI]; omega
      · rename_i h2
        exact absurd h h2
theorem cel_pos : ∀ {r : List (List Nd × Int)} {ex : List Nd} {k : Nat}, (∀ c ∈ r, 1 ≤ c.2) → ((pos (cel (r, ex)) k : Nat) : Int) = posI r k
  | [], ex, k, _ => by cases k <;> rfl
  | c :: r, ex, 0, _ => rfl
  | c :: r, ex, k + 1, h => by
    have h1 := h c (by simp)
    have ih := cel_pos (r := r) (ex := ex) (k := k) fun x hx => h x (by simp [hx])
    show ((c.2.toNat + pos (cel (r, ex)) k : Nat) : Int) = c.2 + posI r k
    rw [Int.natCast_add, ih]
    omega
end Go.Proofs.Ytoboecenlangmaa.Al
end
section
namespace Go.Proofs.Ytoboecenlangmaa.Al
open Go.RowKit
open Me Np No
set_option linter.unusedVariables false

theorem cell_block {w w' : World} {b : Nat} (h : w'.heap[b]? = w.heap[b]?) (o : Nat) : w'.cell? ⟨b, o, none⟩ = w.cell? ⟨b, o, none⟩ := by
  simp only [World.cell?, h]
theorem frozen_block {w w' : World} {b : Nat} (h : w'.heap[b]? = w.heap[b]?) (o : Nat) : w'.frozen? ⟨b, o, none⟩ = w.frozen? ⟨b, o, none⟩ := by
  simp only [World.frozen?, h]
/-- A piece of memory that reads as these cells, in a block that S names. -/
def SegS (w : World) (S : Nat → Prop) (A : Option Addr) (xs : List Value) : Prop :=
  xs = [] ∨ ∃ b off : Nat, A = some ⟨b, off, none⟩ ∧ b < w.heap.size ∧ S b ∧ ∀ j u, xs[j]? = some u → w.cell? ⟨b, off + j, none⟩ = some u
/-- What stays: the blocks that S names. -/
def Kp (S : Nat → Prop) (w w' : World) : Prop := w.heap.size ≤ w'.heap.size ∧ ∀ b, b < w.heap.size → S b → w'.heap[b]? = w.heap[b]?
section
variable {w w' : World} {S S' : Nat → Prop} {A : Option Addr} {xs : List Value}
theorem SegS.keep (h : SegS w S A xs) (k : Kp S w w') : SegS w' S A xs := by
  rcases h with h | ⟨b, off, rfl, hb, hs, hc⟩
  · exact .inl h
  · exact .inr ⟨b, off, rfl, Nat.lt_of_lt_of_le hb k.1, hs, fun j u hu => (cell_block (k.2 b hb hs) _).trans (hc j u hu)⟩
theorem SegS.mono (h : SegS w S A xs) (hS : ∀ b, b < w.heap.size → S b → S' b) : SegS w S' A xs := by
  rcases h with h | ⟨b, off, rfl, hb, hs, hc⟩
  · exact .inl h
  · exact .inr ⟨b, off, rfl, hb, hS b hb hs, hc⟩
theorem SegS.seg (h : SegS w S A xs) : Seg w w.heap.size A xs := by
  rcases h with h | ⟨b, off, rfl, hb, hs, hc⟩
  · exact .inl h
  · exact .inr ⟨b, off, rfl, hb, hc⟩
theorem SegS.of {B : Nat} (h : Seg w B A xs) (hB : B ≤ w.heap.size) (hS : ∀ b, b < B → S b) : SegS w S A xs := by
  rcases h with h | ⟨b, off, rfl, hb, hc⟩
  · exact .inl h
  · exact .inr ⟨b, off, rfl, by omega, hS b hb, hc⟩
/-- What the call owns. -/
theorem SegS.own {base : Nat} {e : TypeId} {size n : Nat} {v : Value} (h : w.ownsRow base e size v n xs) (hS : ∀ b, v.ownBlock = some b → S b) :
    ∃ (A : Option Addr) (c : Nat), v = .slice A n c ∧ n ≤ c ∧ c ≤ maxLen ∧ (A = none → c = 0) ∧ SegS w S A xs := by
  rcases id h.2 with ⟨rfl, rfl⟩ | ⟨g, cap, cur, rfl, hg, hh, hn, hc, hs, hx⟩
  · refine ⟨none, 0, rfl, by omega, by simp [maxLen], fun _ => rfl, .inl ?_⟩
    have := h.1
    simp at this
    exact this
  · refine ⟨_, _, rfl, hn, hc, (by intro hh; cases hh), ?_⟩
    by_cases hx0 : xs = []
    · exact .inl hx0
    · refine .inr ⟨g, 0, rfl, (h.lt g rfl).2, hS g rfl, fun j u hu => ?_⟩
      have := h.cells (g := g) rfl j u hu
      unfold Addr.add at this
      split at this
      · rename_i hj; subst hj; simpa using this
      · simpa using this
theorem Kp.below (S : Nat → Prop) (h : Below w.heap.size w w') : Kp S w w' := ⟨h.size, fun b hb _ => h.block b hb⟩
theorem Kp.grown {g : Option Nat} (h : w.grownBy w' g) (hS : ∀ b, b < w.heap.size → S b → some b ≠ g) : Kp S w w' := ⟨h.size, fun b hb hs => h.block b hb (hS b hb hs)⟩
theorem Kp.alloc (S : Nat → Prop) (w : World) (o : Obj) : Kp S w (w.alloc o) := ⟨by simp, fun b hb _ => Below.heap_alloc w o b hb⟩
theorem Kp.drewN (S : Nat → Prop) (w : World) (n : Nat) : Kp S w (w.drewN n) := ⟨Nat.le_refl _, fun _ _ _ => rfl⟩
theorem Kp.set {p : Addr} {u : Value} (hS : ∀ b, b < w.heap.size → S b → b ≠ p.block) : Kp S w (w.setCell p u) := ⟨by simp, fun b hb hs => Below.heap_setCell w p u b (hS b hb hs)⟩
theorem Kp.trans {a : World} (h : Kp S w a) (k : Kp S a w') : Kp S w w' := ⟨Nat.le_trans h.1 k.1, fun b hb hs => (k.2 b (Nat.lt_of_lt_of_le hb h.1) hs).trans (h.2 b hb hs)⟩
end

/-- A cell; a row. -/
structure Cl where
  (A : Option Addr) (c : Nat) (l : List Nd) (sp : Int)
structure Rw where
  (A : Option Addr) (c : Nat) (cs : List Cl) (E : Option Addr) (k : Nat) (ex : List Nd)
def Cl.vals (x : Cl) : List Value := [.slice x.A x.l.length x.c, .int .i64 x.sp]
def Rw.vals (r : Rw) : List Value := [.slice r.A r.cs.length r.c, .slice r.E r.ex.length r.k]
def Cl.d (x : Cl) : List Nd × Int := (x.l, x.sp)
def Rw.d (r : Rw) : List (List Nd × Int) × List Nd := (r.cs.map Cl.d, r.ex)
theorem Cl.vals_length (x : Cl) : x.vals.length = 2 := rfl
theorem Rw.vals_length (r : Rw) : r.vals.length = 2 := rfl
/-- A list as it lies in memory. -/
structure LsOk (w : World) (S : Nat → Prop) (A : Option Addr) (c : Nat) (l : List Nd) : Prop where
  cap : l.length ≤ c
  len : l.length ≤ 879609302220
  nil : A = none → c = 0
  seg : SegS w S A (l.flatMap ncs)
structure Rw.Ok (w : World) (S : Nat → Prop) (r : Rw) : Prop where
  cap : r.cs.length ≤ r.c
  len : r.cs.length ≤ 4398046511103
  seg : SegS w S r.A (r.cs.flatMap Cl.vals)
  cells : ∀ x ∈ r.cs, LsOk w S x.A x.c x.l
  extra : LsOk w S r.E r.k r.ex
structure RsOk (w : World) (S : Nat → Prop) (A : Option Addr) (c : Nat) (rs : List Rw) : Prop where
  cap : rs.length ≤ c
  len : rs.length ≤ 2932031007402
  seg : SegS w S A (rs.flatMap Rw.vals)
  rows : ∀ r ∈ rs, r.Ok w S
section
variable {w w' : World} {S S' : Nat → Prop}
theorem LsOk.keep {A : Option Addr} {c : Nat} {l : List Nd} (h : LsOk w S A c l) (k : Kp S w w') : LsOk w' S A c l := ⟨h.cap, h.len, h.nil, h.seg.keep k⟩
theorem LsOk.mono {A : Option Addr} {c : Nat} {l : List Nd} (h : LsOk w S A c l) (hS : ∀ b, b < w.heap.size → S b → S' b) : LsOk w S' A c l := ⟨h.cap, h.len, h.nil, h.seg.mono hS⟩
theorem Rw.Ok.keep {r : Rw} (h : r.Ok w S) (k : Kp S w w') : r.Ok w' S := ⟨h.cap, h.len, h.seg.keep k, fun x hx => (h.cells x hx).keep k, h.extra.keep k⟩
theorem Rw.Ok.mono {r : Rw} (h : r.Ok w S) (hS : ∀ b, b < w.heap.size → S b → S' b) : r.Ok w S' := ⟨h.cap, h.len, h.seg.mono hS, fun x hx => (h.cells x hx).mono hS, h.extra.mono hS⟩
theorem RsOk.keep {A : Option Addr} {c : Nat} {rs : List Rw} (h : RsOk w S A c rs) (k : Kp S w w') : RsOk w' S A c rs := ⟨h.cap, h.len, h.seg.keep k, fun x hx => (h.rows x hx).keep k⟩
theorem RsOk.below {A : Option Addr} {c : Nat} {rs : List Rw} (h : RsOk w S A c rs) (k : Below w.heap.size w w') : RsOk w' S A c rs := h.keep (Kp.below S k)
/-- The cells of row i. -/
theorem RsOk.row {A : Option Addr} {c : Nat} {rs : List Rw} (h : RsOk w S A c rs) {i : Nat} {r : Rw} (hi : rs[i]? = some r) :
    ∃ b off : Nat, A = some ⟨b, off, none⟩ ∧ b < w.heap.size ∧ w.cell? ⟨b, off + i * 2, none⟩ = some (.slice r.A r.cs.length r.c) ∧ w.cell? ⟨b, off + i * 2 + 1, none⟩ = some (.slice r.E r.ex.length r.k) := by
  obtain ⟨b, off, hA, hb, hc⟩ := h.seg.seg.row Rw.vals_length hi (by decide)
  exact ⟨b, off, hA, hb, by simpa using hc 0 _ rfl, hc 1 _ rfl⟩
/-- The cells of cell k. -/
theorem Rw.Ok.cell {r : Rw} (h : r.Ok w S) {k : Nat} {x : Cl} (hk : r.cs[k]? = some x) :
    ∃ b off : Nat, r.A = some ⟨b, off, none⟩ ∧ b < w.heap.size ∧ w.cell? ⟨b, off + k * 2, none⟩ = some (.slice x.A x.l.length x.c) ∧ w.cell? ⟨b, off + k * 2 + 1, none⟩ = some (.int .i64 x.sp) := by
  obtain ⟨b, off, hA, hb, hc⟩ := h.seg.seg.row Cl.vals_length hk (by decide)
  exact ⟨b, off, hA, hb, by simpa using hc 0 _ rfl, hc 1 _ rfl⟩
theorem RsOk.get {A : Option Addr} {c : Nat} {rs : List Rw} (h : RsOk w S A c rs) {i : Nat} {r : Rw} (hi : rs[i]? = some r) : r.Ok w S := h.rows r (List.mem_of_getElem? hi)
theorem Rw.Ok.get {r : Rw} (h : r.Ok w S) {k : Nat} {x : Cl} (hk : r.cs[k]? = some x) : LsOk w S x.A x.c x.l := h.cells x (List.mem_of_getElem? hk)
end
theorem get_some {α : Type} {l : List α} {i : Nat} (h : i < l.length) : ∃ x, l[i]? = some x := ⟨_, List.getElem?_eq_getElem h⟩
theorem info_cell : (Try.prog.info? 38).map (fun i => (i.zero, i.size, i.bytes)) = some (some (.agg #[.slice none 0 0, .int .i64 0]), 2, 32) := by kernel_rfl
theorem info_row : (Try.prog.info? 36).map (fun i => (i.zero, i.size, i.bytes)) = some (some (.agg #[.slice none 0 0, .slice none 0 0]), 2, 48) := by kernel_rfl
end Go.Proofs.Ytoboecenlangmaa.Al
end
section
namespace Go.Proofs.Ytoboecenlangmaa.Me
open Go.RowKit

/-- 'append(s, l...)' onto what the call owns, at a step of a region that draws its order. -/
theorem step_append_src {P : Program} {ops : Array Oper} {o : Oper} {a : Act} {w : World} {K : Act → World → Prop} {Q : Exit → Act → World → Prop} {E : Prop} (hgd : o.guard = none) (s x : Operand) (t : TypeId)
    (ho : o.op = .call { callee := .builtin .append, args := #[s, x], argTypes := #[t, t] })
    (base : Nat) (e : TypeId) (z : Value) (size bytes : Nat) (ht : P.underlying t = some (.slice e)) (hinfo : (P.info? e).map (fun i => (i.zero, i.size, i.bytes)) = some (some z, size, bytes))
    (hzs : z.cells.size = size) (hsz : 0 < size)
    (v : Value) (n : Nat) (xs : List Value) (hs : a.eval s = v) (hown : w.ownsRow base e size v n xs)
    (ad : Addr) (m c : Nat) (news : List Value) (hx : a.eval x = .slice (some ad) m c) (hl : news.length = m * size) (hnews : ∀ j u, news[j]? = some u → w.cell? (ad.add j) = some u) (h1 : ∀ u ∈ news, u.oneCell' = true)
    (h63 : n + m ≤ maxLen) (hbytes : (n + m) * bytes ≤ 140737488355328) (hbase : base ≤ w.heap.size)
    (h : ∀ v' w', w'.ownsRow base e size v' (n + m) (xs ++ news) → w.grownBy w' v.ownBlock → K (a.put o.dst v') w') :
    if Region.wanted o (yielded ops a.tmps) = true then Oper.wp P o a w K Q else E := by
  obtain ⟨i, hi, hz, hsi, hbi⟩ := info_parts hinfo
  have hw : Region.wanted o (yielded ops a.tmps) = true := by simp [Region.wanted, hgd]
  rw [if_pos hw]
  obtain ⟨v', w', hr, h2, h3, _⟩ := run_append_own (P := P) w base t o.type e i z size bytes ht hi hz hsi hbi hzs hsz v n xs hown ad m c news hl hnews h1 h63 hbytes hbase
  unfold Oper.wp execOp
  simp only [ho, resolve, invoke, builtin, Sem.run_bind, Sem.run_pure, Result.andThen_ok, List.map_toArray, List.map_cons, List.map_nil, hs, hx, hr]
  exact h v' w' h2 h3
theorem seg_cells {w : World} {B b off : Nat} {xs : List Value} (h : Seg w B (some ⟨b, off, none⟩) xs) : ∀ j u, xs[j]? = some u → w.cell? ((⟨b, off, none⟩ : Addr).add j) = some u := by
  intro j u hu
  rcases h with rfl | ⟨b', off', he, _, hc⟩
  · simp at hu
  · simp only [Option.some.injEq, Addr.mk.injEq, and_true] at he
    obtain ⟨rfl, rfl⟩ := he
    have hadd : (⟨b, off, none⟩ : Addr).add j = ⟨b, off + j, none⟩ := by unfold Addr.add; split <;> simp_all
    rw [hadd]
    exact hc j u hu
end Go.Proofs.Ytoboecenlangmaa.Me
end
section
namespace Go.Proofs.Ytoboecenlangmaa.Al
open Go.ChangeShapes Go.WideShapes Go.ChangeAt Go.RowKit
open Me Np No
set_option linter.unusedVariables false

theorem run_append_long {w : World} (ty : TypeId) (base : Nat) (hbase : base ≤ w.heap.size) (v : Value) (n : Nat) (xs : List Value) (hown : w.ownsRow base 54 19 v n xs) (A : Option Addr) (c : Nat) (l : List Nd) (hs : Src w A c l) (hn : (n + l.length) * 160 ≤ 140737488355328) :
    ∃ v' w', (Builtin.append_ #[34, 34] ty #[v, .slice A l.length c]).run Try.prog w = .ok v' w' ∧ w'.ownsRow base 54 19 v' (n + l.length) (xs ++ l.flatMap ncs) ∧ w.grownBy w' v.ownBlock := by
  obtain ⟨i, hi, hz, hsi, hbi⟩ := info_parts node_row
  rcases hs with ⟨b, off, rfl, hb, hc⟩ | ⟨rfl, rfl, rfl⟩ | ⟨ad, rfl, rfl⟩
  · obtain ⟨v', w', hr, h2, h3, _⟩ := run_append_own (P := Try.prog) w base 34 ty 54 i _ 19 160 Try.underlying34 hi hz hsi hbi rfl (by decide) v n xs hown ⟨b, off, none⟩ l.length c (l.flatMap ncs) (flat_length ncs_length l) (fun j u hu => by
      have hadd : (⟨b, off, none⟩ : Addr).add j = ⟨b, off + j, none⟩ := by unfold Addr.add; split <;> simp_all
      rw [hadd]
      exact hc j u hu) (ncs_one l) (by simp only [maxLen]; omega) (by omega) hbase
    exact ⟨v', w', hr, h2, h3⟩
  · refine ⟨v, w, run_append_owned_none w base 34 ty 54 i 19 Try.underlying34 hi v n xs hown, by simpa using hown, ?_⟩
    exact ⟨rfl, rfl, rfl, Nat.le_refl _, fun k _ _ => rfl⟩
  · obtain ⟨v', w', hr, h2, h3, _⟩ := run_append_own (P := Try.prog) w base 34 ty 54 i _ 19 160 Try.underlying34 hi hz hsi hbi rfl (by decide) v n xs hown ad 0 c [] rfl (fun j u hu => by simp at hu) (by simp) (by simp only [maxLen]; omega) (by omega) hbase
    exact ⟨v', w', by simpa using hr, by simpa using h2, h3⟩
theorem wpList_append_long {ops : Array Oper} {rest : List Oper} {o : Oper} {a : Act} {w : World} {Q : Exit → Act → World → Prop} (hgd : o.guard = none) (s x : Operand) (ho : o.op = .call { callee := .builtin .append, args := #[s, x], argTypes := #[34, 34] })
    (base : Nat) (hbase : base ≤ w.heap.size) (v : Value) (n : Nat) (xs : List Value) (hs : a.eval s = v) (hown : w.ownsRow base 54 19 v n xs) (A : Option Addr) (c : Nat) (l : List Nd) (hx : a.eval x = .slice A l.length c) (hsrc : Src w A c l) (hn : (n + l.length) * 160 ≤ 140737488355328)
    (h : ∀ v' w', w'.ownsRow base 54 19 v' (n + l.length) (xs ++ l.flatMap ncs) → w.grownBy w' v.ownBlock → wpList Try.prog ops Q rest (a.put o.dst v') w') : wpList Try.prog ops Q (o :: rest) a w :=
  wpList_plain hgd fun K hK => by
    obtain ⟨v', w', hr, h2, h3⟩ := run_append_long o.type base hbase v n xs hown A c l hsrc hn
    unfold Oper.wp execOp
    simp only [ho, resolve, invoke, builtin, Sem.run_bind, Sem.run_pure, Result.andThen_ok, List.map_toArray, List.map_cons, List.map_nil, hs, hx, hr]
    exact hK _ _ (h v' w' h2 h3)
theorem step_append_long {ops : Array Oper} {o : Oper} {a : Act} {w : World} {K : Act → World → Prop} {Q : Exit → Act → World → Prop} {E : Prop} (hgd : o.guard = none) (s x : Operand) (ho : o.op = .call { callee := .builtin .append, args := #[s, x], argTypes := #[34, 34] })
    (base : Nat) (hbase : base ≤ w.heap.size) (v : Value) (n : Nat) (xs : List Value) (hs : a.eval s = v) (hown : w.ownsRow base 54 19 v n xs) (A : Option Addr) (c : Nat) (l : List Nd) (hx : a.eval x = .slice A l.length c) (hsrc : Src w A c l) (hn : (n + l.length) * 160 ≤ 140737488355328)
    (h : ∀ v' w', w'.ownsRow base 54 19 v' (n + l.length) (xs ++ l.flatMap ncs) → w.grownBy w' v.ownBlock → K (a.put o.dst v') w') :
    if Region.wanted o (yielded ops a.tmps) = true then Oper.wp Try.prog o a w K Q else E := by
  have hw : Region.wanted o (yielded ops a.tmps) = true := by simp [Region.wanted, hgd]
  rw [if_pos hw]
  obtain ⟨v', w', hr, h2, h3⟩ := run_append_long o.type base hbase v n xs hown A c l hsrc hn
  unfold Oper.wp execOp
  simp only [ho, resolve, invoke, builtin, Sem.run_bind, Sem.run_pure, Result.andThen_ok, List.map_toArray, List.map_cons, List.map_nil, hs, hx, hr]
  exact h v' w' h2 h3
/-- An append of one element: what comes of it. -/
theorem run_push {P : Program} {w : World} (base : Nat) (t ty e : TypeId) (z : Value) (size bytes : Nat) (ht : P.underlying t = some (.slice e)) (hinfo : (P.info? e).map (fun i => (i.zero, i.size, i.bytes)) = some (some z, size, bytes)) (hzs : z.cells.size = size) (hsz : 0 < size) (hby : 0 < bytes)
    (v : Value) (n : Nat) (xs : List Value) (hown : w.ownsRow base e size v n xs) (hbase : base ≤ w.heap.size) (a : Addr) (c : Nat) (news : List Value) (hl : news.length = size) (hnews : ∀ j u, news[j]? = some u → w.cell? (a.add j) = some u) (h1 : ∀ u ∈ news, u.oneCell' = true) (hlen : (n + 1) * bytes ≤ 140737488355328) :
    ∃ v' w', (Builtin.append_ #[t, t] ty #[v, .slice (some a) 1 c]).run P w = .ok v' w' ∧ w'.ownsRow base e size v' (n + 1) (xs ++ news) ∧ w.grownBy w' v.ownBlock ∧ (v'.ownBlock = v.ownBlock ∨ ∃ q, v'.ownBlock = some q ∧ w.heap.size ≤ q) := by
  obtain ⟨i, hi, hz, hsi, hbi⟩ := info_parts hinfo
  subst hsi hbi
  have hn : n + 1 ≤ 140737488355328 := Nat.le_trans (Nat.le_mul_of_pos_right _ hby) hlen
  obtain ⟨v', w', hr, h2, h3, _⟩ := run_append_own (P := P) (w := w) base t ty e i z i.size i.bytes ht hi hz rfl rfl hzs hsz v n xs hown a 1 c news (by omega) hnews h1 (by unfold maxLen; omega) hlen hbase
  obtain ⟨v2, w2, hr2, h4⟩ := run_push_where (P := P) (w := w) base t ty e i z ht hi hz v n xs hown a c news (by omega) hnews h1 hn hlen
  rw [hr] at hr2
  injection hr2 with e1 e2
  subst e1
  subst e2
  refine ⟨v', w', hr, h2, h3, ?_⟩
  rcases h4 with h4 | ⟨h5, h6⟩
  · exact .inl h4
  · exact .inr h5
theorem step_push {P : Program} {ops : Array Oper} {o : Oper} {a : Act} {w : World} {K : Act → World → Prop} {Q : Exit → Act → World → Prop} {E : Prop} (hgd : o.guard = none) (s x : Operand) (t : TypeId)
    (ho : o.op = .call { callee := .builtin .append, args := #[s, x], argTypes := #[t, t] })
    (base : Nat) (e : TypeId) (z : Value) (size bytes : Nat) (ht : P.underlying t = some (.slice e)) (hinfo : (P.info? e).map (fun i => (i.zero, i.size, i.bytes)) = some (some z, size, bytes)) (hzs : z.cells.size = size) (hsz : 0 < size) (hby : 0 < bytes)
    (v : Value) (n : Nat) (xs : List Value) (hs : a.eval s = v) (hown : w.ownsRow base e size v n xs) (hbase : base ≤ w.heap.size)
    (ad : Addr) (c : Nat) (news : List Value) (hx : a.eval x = .slice (some ad) 1 c) (hl : news.length = size) (hnews : ∀ j u, news[j]? = some u → w.cell? (ad.add j) = some u) (h1 : ∀ u ∈ news, u.oneCell' = true) (hlen : (n + 1) * bytes ≤ 140737488355328)
    (h : ∀ v' w', w'.ownsRow base e size v' (n + 1) (xs ++ news) → w.grownBy w' v.ownBlock → (v'.ownBlock = v.ownBlock ∨ ∃ q, v'.ownBlock = some q ∧ w.heap.size ≤ q) → K (a.put o.dst v') w') :
    if Region.wanted o (yielded ops a.tmps) = true then Oper.wp P o a w K Q else E := by
  have hw : Region.wanted o (yielded ops a.tmps) = true := by simp [Region.wanted, hgd]
  rw [if_pos hw]
  obtain ⟨v', w', hr, h2, h3, h4⟩ := run_push base t o.type e z size bytes ht hinfo hzs hsz hby v n xs hown hbase ad c news hl hnews h1 hlen
  unfold Oper.wp execOp
  simp only [ho, resolve, invoke, builtin, Sem.run_bind, Sem.run_pure, Result.andThen_ok, List.map_toArray, List.map_cons, List.map_nil, hs, hx, hr]
  exact h v' w' h2 h3 h4
theorem wpList_push2 {P : Program} {ops : Array Oper} {rest : List Oper} {o : Oper} {a : Act} {Q : Exit → Act → World → Prop} {w : World} (hgd : o.guard = none) (s x : Operand) (t : TypeId)
    (ho : o.op = .call { callee := .builtin .append, args := #[s, x], argTypes := #[t, t] })
    (base : Nat) (e : TypeId) (z : Value) (size bytes : Nat) (ht : P.underlying t = some (.slice e)) (hinfo : (P.info? e).map (fun i => (i.zero, i.size, i.bytes)) = some (some z, size, bytes)) (hzs : z.cells.size = size) (hsz : 0 < size) (hby : 0 < bytes)
    (v : Value) (n : Nat) (xs : List Value) (hs : a.eval s = v) (hown : w.ownsRow base e size v n xs) (hbase : base ≤ w.heap.size)
    (ad : Addr) (c : Nat) (news : List Value) (hx : a.eval x = .slice (some ad) 1 c) (hl : news.length = size) (hnews : ∀ j u, news[j]? = some u → w.cell? (ad.add j) = some u) (h1 : ∀ u ∈ news, u.oneCell' = true) (hlen : (n + 1) * bytes ≤ 140737488355328)
    (h : ∀ v' w', w'.ownsRow base e size v' (n + 1) (xs ++ news) → w.grownBy w' v.ownBlock → (v'.ownBlock = v.ownBlock ∨ ∃ q, v'.ownBlock = some q ∧ w.heap.size ≤ q) → wpList P ops Q rest (a.put o.dst v') w') :
    wpList P ops Q (o :: rest) a w :=
  wpList_plain hgd fun K hK => by
    obtain ⟨v', w', hr, h2, h3, h4⟩ := run_push base t o.type e z size bytes ht hinfo hzs hsz hby v n xs hown hbase ad c news hl hnews h1 hlen
    unfold Oper.wp execOp
    simp only [ho, resolve, invoke, builtin, Sem.run_bind, Sem.run_pure, Result.andThen_ok, List.map_toArray, List.map_cons, List.map_nil, hs, hx, hr]
    exact hK _ _ (h v' w' h2 h3 h4)
theorem new_cells {w : World} {g : Nat} {t : TypeId} {cs : Array Value} (h : Blk w g t cs) : ∀ j u, cs.toList[j]? = some u → w.cell? ((⟨g, 0, none⟩ : Addr).add j) = some u := by
  intro j u hu
  have hcell : w.cell? ⟨g, j, none⟩ = some u := by
    rw [h.cell j]
    simpa using hu
  unfold Addr.add
  split
  · rename_i hj; subst hj; exact hcell
  · simpa using hcell
end Go.Proofs.Ytoboecenlangmaa.Al
end
section
namespace Go.Proofs.Ytoboecenlangmaa.Al
open Go.ChangeShapes Go.WideShapes Go.ChangeAt Go.RowKit
open Me Np No
open Gl (G Row)
set_option linter.unusedVariables false
set_option linter.unusedSimpArgs false

structure Ir where
  (A : Option Addr) (c : Nat) (xs : List Int)
def Ir.vals (x : Ir) : List Value := [.slice x.A x.xs.length x.c]
theorem Ir.vals_length (x : Ir) : x.vals.length = 1 := rfl
def intV (x : Int) : Value := .int .i64 x
structure IrsOk (w : World) (S : Nat → Prop) (A : Option Addr) (irs : List Ir) : Prop where
  seg : SegS w S A (irs.flatMap Ir.vals)
  rows : ∀ x ∈ irs, SegS w S x.A (x.xs.map intV)
def CkOut (ss : List G) (ds : List RD) (w : World) (e : Ending) (w' : World) : Prop :=
  ∃ v, e = .returned (.tuple #[v, .int .i64 (ckE ss ds)]) ∧ Below w.heap.size w w' ∧ (ckE ss ds = 0 → ∃ A c irs, v = .slice A irs.length c ∧ IrsOk w' (fun _ => True) A irs ∧ irs.map Ir.xs = ds.map wids)
theorem CkOut.no {ss : List G} {ds : List RD} {w w' : World} {E : Int} (h : ckE ss ds = E) (h0 : ¬ E = 0) (hb : Below w.heap.size w w') : CkOut ss ds w (.returned (.tuple #[.slice none 0 0, .int .i64 E])) w' :=
  ⟨_, by rw [h], hb, fun e => absurd (h ▸ e) h0⟩
theorem CkOut.yes {ss : List G} {ds : List RD} {w w' : World} {v : Value} (h : ckE ss ds = 0) (hb : Below w.heap.size w w') (hi : ∃ A c irs, v = .slice A irs.length c ∧ IrsOk w' (fun _ => True) A irs ∧ irs.map Ir.xs = ds.map wids) : CkOut ss ds w (.returned (.tuple #[v, .int .i64 0])) w' :=
  ⟨_, by rw [h], hb, fun _ => hi⟩

theorem check_size (A : Option Addr) (ss : List G) (c : Nat) (B : Option Addr) (rs : List Rw) (k : Nat) (w : World) (h63 : ss.length ≤ maxLen) (hr63 : rs.length ≤ maxLen) (h : ss.length < 2 ∨ 257 < ss.length ∨ 2000 < rs.length) :
    Calls Try.prog 68 #[.slice A ss.length c, .slice B rs.length k] w (CkOut ss (rs.map Rw.d) w) := by
  have hE : ckE ss (rs.map Rw.d) = 220 := by unfold ckE; rw [if_pos (by simpa using h)]
  have HE := Lib.hid hE
  clear hE
  unfold maxLen at h63 hr63
  by_cases h1 : (ss.length : Int) < 2
  · clear h
    go_enter Try.func68, Try.ntmps68
    go_wp2_with fail
    go_returns
    exact CkOut.no HE.out (by decide) (Below.refl _ _)
  · by_cases h2 : (257 : Int) < ss.length
    · clear h
      go_enter Try.func68, Try.ntmps68
      go_wp2_with fail
      go_returns
      exact CkOut.no HE.out (by decide) (Below.refl _ _)
    · have h3 : (2000 : Int) < rs.length := by omega
      clear h
      go_enter Try.func68, Try.ntmps68
      go_wp2_with fail
      go_returns
      exact CkOut.no HE.out (by decide) (Below.refl _ _)
end Go.Proofs.Ytoboecenlangmaa.Al
end
section
namespace Go.Proofs.Ytoboecenlangmaa.Al
open Go.ChangeShapes Go.WideShapes Go.ChangeAt Go.RowKit
open Me Np No
open Gl (G Row)
set_option linter.unusedVariables false
set_option linter.unusedSimpArgs false

theorem info_i : (Try.prog.info? 3).map (fun i => (i.zero, i.size, i.bytes)) = some (some (.int .i64 0), 1, 8) := by kernel_rfl
theorem info_is : (Try.prog.info? 26).map (fun i => (i.zero, i.size, i.bytes)) = some (some (.slice none 0 0), 1, 24) := by kernel_rfl
theorem make_none (n : Nat) (hn : n ≤ 4398046511103) (u : World) : (Instr.makeSlice 26 (.int .i64 0) (.int .i64 (n : Int))).run Try.prog u = .ok (.slice (some ⟨u.heap.size, 0, none⟩) 0 n) (u.alloc (.cells (madeCells #[.int .i64 0] n) 3)) := by
  obtain ⟨i, hi, hz, hsi, hbi⟩ := info_parts info_i
  have h := run_make (P := Try.prog) u 26 3 i (.int .i64 0) Try.underlying26 hi hz .i64 .i64 0 (n : Int) (Int.le_refl _) (by omega) (by rw [hbi]; omega) (by omega)
  simpa [hsi, Value.cells] using h
structure CI (w : World) (rs : List Rw) (cols : Int) (i : Nat) (v : Value) (done : List Ir) (wr : World) : Prop where
  own : wr.ownsRow w.heap.size 26 1 v i (done.flatMap Ir.vals)
  dat : done.map Ir.xs = (rs.take i).map fun r => wids r.d
  ok : ∀ x ∈ done, SegS wr (fun b => w.heap.size ≤ b ∧ v.ownBlock ≠ some b) x.A (x.xs.map intV)
  err : ∀ q ∈ (rs.map Rw.d).take i, rowErr cols q = 0
  low : Below w.heap.size w wr
structure CJ (W0 : World) (r : Rw) (cols : Int) (k : Nat) (a : Int) (v : Value) (wr : World) : Prop where
  blk : Blk wr W0.heap.size 36 #[.slice r.A r.cs.length r.c, .slice r.E r.ex.length r.k]
  own : wr.ownsRow (W0.heap.size + 1) 3 1 v k (((wids r.d).take k).map intV)
  err : celE cols 0 r.d.1 = celE cols a (r.d.1.drop k)
  a0 : 0 ≤ a
  a1 : a ≤ cols
  low : Below W0.heap.size W0 wr
theorem CJ.next {W0 wr w5 W8 : World} {r : Rw} {cols a : Int} {k : Nat} {v v' : Value} {x : Cl} (h : CJ W0 r cols k a v wr) (hx : r.cs[k]? = some x) (hb : Below wr.heap.size wr w5) (h1 : ¬ x.sp < 1) (h2 : ¬ cols - a < x.sp) (hE : (wd x.l).1 = 0)
    (hown : W8.ownsRow (W0.heap.size + 1) 3 1 v' (k + 1) (((wids r.d).take k).map intV ++ [.int .i64 (wd x.l).2])) (hg : (w5.alloc (.cells #[.int .i64 (wd x.l).2] 3)).grownBy W8 v.ownBlock) : CJ W0 r cols (k + 1) (a + x.sp) v' W8 := by
  have hl := h.blk.lt
  have hs := hb.size
  have hd : r.d.1[k]? = some x.d := by show (r.cs.map Cl.d)[k]? = _; rw [List.getElem?_map, hx]; rfl
  have hw : (wids r.d)[k]? = some (wd x.l).2 := by unfold wids; rw [List.getElem?_map, hd]; rfl
  refine ⟨?_, ?_, ?_, by have := h.a0; omega, by omega, ?_⟩
  · exact (hg.block _ (by simp; omega) (fun e => by have := (h.own.lt _ e.symm).1; omega)).trans ((Blk.below h.blk hb hl).alloc _)
  · rw [List.take_add_one, hw, List.map_append]
    exact hown
  · rw [h.err, celE_drop hd, if_neg (by show ¬ (x.sp < 1 ∨ cols - a < x.sp); omega)]
    exact if_pos hE
  · exact below_grown (Nat.le_refl _) (andAlloc (andThen h.low hb) _) hg fun q hq => by have := (h.own.lt q hq).1; omega
/-- A row that is not good. -/
theorem ck_bad {w W0 : World} {ss : List G} {rs : List Rw} {cols E : Int} {i : Nat} {v : Value} {done : List Ir} {r : Rw} (h : CI w rs cols i v done W0) (hr : rs[i]? = some r) (hck : ckE ss (rs.map Rw.d) = rowsE cols (rs.map Rw.d)) (hE : rowErr cols r.d = E) (h0 : ¬ E = 0) : ckE ss (rs.map Rw.d) = E := by
  rw [hck, rowsE_take (i := i) (r := r.d) (by rw [List.getElem?_map, hr]; rfl) h.err (by rw [hE]; exact h0), hE]
/-- .. at its cell k. -/
theorem CJ.bad {W0 wr : World} {r : Rw} {cols a E : Int} {k : Nat} {v : Value} {x : Cl} (h : CJ W0 r cols k a v wr) (hx : r.cs[k]? = some x) (h0 : ¬ E = 0) (hE : (if x.sp < 1 ∨ cols - a < x.sp then 220 else (wd x.l).1) = E) : rowErr cols r.d = E := by
  have hd : r.d.1[k]? = some x.d := by show (r.cs.map Cl.d)[k]? = _; rw [List.getElem?_map, hx]; rfl
  have h1 : celE cols 0 r.d.1 = E := by
    rw [h.err, celE_drop hd]
    show (if x.sp < 1 ∨ cols - a < x.sp then 220 else if (wd x.l).1 = 0 then celE cols (a + x.sp) (r.d.1.drop (k + 1)) else (wd x.l).1) = E
    by_cases h2 : x.sp < 1 ∨ cols - a < x.sp
    · rw [if_pos h2] at hE ⊢
      exact hE
    · rw [if_neg h2] at hE ⊢
      rw [if_neg (by rw [hE]; exact h0), hE]
  unfold rowErr
  rw [h1, if_neg h0]
theorem CJ.good {W0 wr : World} {r : Rw} {cols a : Int} {v : Value} (h : CJ W0 r cols r.cs.length a v wr) : rowErr cols r.d = chk r.ex := by
  have h1 : celE cols 0 r.d.1 = 0 := by
    rw [h.err, List.drop_of_length_le (by show (r.cs.map Cl.d).length ≤ _; simp)]
    rfl
  unfold rowErr
  rw [if_pos h1]
  rfl

theorem take_map2 {α β γ : Type} {f : α → γ} {g : β → γ} {l : List α} {k : Nat} {x : α} {dn : List β} {y : β} (h : dn.map g = (l.take k).map f) (hx : l[k]? = some x) (hy : g y = f x) : (dn ++ [y]).map g = (l.take (k + 1)).map f := by
  rw [List.map_append, h, List.take_add_one, hx, List.map_append]
  simp [hy]
theorem CI.next {w W0 wr w5 W9 : World} {rs : List Rw} {cols a : Int} {i : Nat} {v v' : Value} {done : List Ir} {r : Rw} {A9 : Option Addr} {c9 : Nat} (h : CI w rs cols i v done W0) (hr : rs[i]? = some r) (hJ : CJ W0 r cols r.cs.length a (.slice A9 r.cs.length c9) wr) (he : rowErr cols r.d = 0) (hb : Below wr.heap.size wr w5)
    (hown : W9.ownsRow w.heap.size 26 1 v' (i + 1) (done.flatMap Ir.vals ++ [.slice A9 r.cs.length r.cs.length])) (hg : (w5.alloc (.cells #[.slice A9 r.cs.length r.cs.length] 26)).grownBy W9 v.ownBlock)
    (hv : v'.ownBlock = v.ownBlock ∨ ∃ q, v'.ownBlock = some q ∧ (w5.alloc (.cells #[.slice A9 r.cs.length r.cs.length] 26)).heap.size ≤ q) : CI w rs cols (i + 1) v' (done ++ [⟨A9, r.cs.length, wids r.d⟩]) W9 := by
  have hs := hb.size
  have hs0 := hJ.low.size
  have hlw := h.low.size
  have hwl : (wids r.d).length = r.cs.length := by show ((r.cs.map Cl.d).map _).length = _; simp
  have hvl : ∀ q, v.ownBlock = some q → w.heap.size ≤ q ∧ q < W0.heap.size := fun q hq => h.own.lt q hq
  have hv8 : ∀ b, v'.ownBlock = some b → v.ownBlock = some b ∨ w5.heap.size < b := fun b hb => by
    rcases hv with hv | ⟨q, hv, hq⟩
    · exact .inl (hv ▸ hb)
    · rw [hv] at hb
      injection hb with hb
      simp at hq
      exact .inr (by omega)
  refine ⟨by simpa [List.flatMap_append, Ir.vals, hwl] using hown, take_map2 h.dat hr rfl, ?_, ?_, below_grown (Nat.le_refl _) (andAlloc (andThen (andThen h.low hJ.low) hb) _) hg fun q hq => (hvl q hq).1⟩
  · intro y hy
    rcases List.mem_append.1 hy with hy | hy
    · have h1 := (h.ok y hy).mono (S' := fun b => (w.heap.size ≤ b ∧ v.ownBlock ≠ some b) ∧ b < W0.heap.size) fun b hb hs => ⟨hs, hb⟩
      have k1 : Kp (fun b => (w.heap.size ≤ b ∧ v.ownBlock ≠ some b) ∧ b < W0.heap.size) W0 W9 :=
        (((Kp.below _ hJ.low).trans (Kp.below _ hb)).trans (Kp.alloc _ _ _)).trans (Kp.grown hg fun b _ hs e => hs.1.2 e.symm)
      refine (h1.keep k1).mono fun b _ hs => ⟨hs.1.1, fun e => ?_⟩
      rcases hv8 b e with h2 | h2
      · exact hs.1.2 h2
      · have := hs.2; omega
    · obtain rfl := List.mem_singleton.1 hy
      obtain ⟨A1, c1, e1, _, _, _, h4⟩ := SegS.own (S := fun b => W0.heap.size < b) hJ.own (fun b hb => (hJ.own.lt b hb).1)
      injection e1 with e1 _ e2
      subst e1 e2
      rw [List.take_of_length_le (by rw [hwl]; exact Nat.le_refl _)] at h4
      have h1 := h4.mono (S' := fun b => W0.heap.size < b ∧ b < wr.heap.size) fun b hb hs => ⟨hs, hb⟩
      have k1 : Kp (fun b => W0.heap.size < b ∧ b < wr.heap.size) wr W9 := ((Kp.below _ hb).trans (Kp.alloc _ _ _)).trans (Kp.grown hg fun b _ hs e => by have := hvl b e.symm; omega)
      refine (h1.keep k1).mono fun b _ hs => ⟨by omega, fun e => ?_⟩
      rcases hv8 b e with h2 | h2
      · have := hvl b h2; omega
      · omega
  · intro q hq
    rw [List.take_add_one, List.getElem?_map, hr] at hq
    rcases List.mem_append.1 hq with hq | hq
    · exact h.err q hq
    · simp at hq
      subst hq
      exact he

set_option maxHeartbeats 4000000 in
set_option maxRecDepth 100000 in
theorem check_go (A : Option Addr) (ss : List G) (c : Nat) (B : Option Addr) (rs : List Rw) (kk : Nat) (w : World) (hS : Row w A ss) (hR : RsOk w (fun _ => True) B kk rs) (h2 : 2 ≤ ss.length) (h257 : ss.length ≤ 257) (h2000 : rs.length ≤ 2000) :
    Calls Try.prog 68 #[.slice A ss.length c, .slice B rs.length kk] w (CkOut ss (rs.map Rw.d) w) := by
  have hE : ckE ss (rs.map Rw.d) = if ss.all G.ok = true then rowsE ((ss.length : Int) - 1) (rs.map Rw.d) else 30 := by unfold ckE; rw [if_neg (by simp; omega)]
  have HE := Lib.hid hE
  have HS := Lib.hid hS
  have HR := Lib.hid hR
  clear hE hS hR
  have t1 : ¬ (ss.length : Int) < 2 := by omega
  have t2 : ¬ (257 : Int) < ss.length := by omega
  have t3 : ¬ (2000 : Int) < rs.length := by omega
  generalize hn : ss.length = n at *
  have HN := Lib.hid hn
  clear hn
  generalize hm : rs.length = m at *
  have HM := Lib.hid hm
  clear hm
  go_enter Try.func68, Try.ntmps68
  go_wp2_with fail
  go_loopw [37] (fun v37 wr => ∃ i : Nat, i ≤ n ∧ v37 = .int .i64 (i : Int) ∧ (ss.take i).all G.ok = true ∧ Below w.heap.size w wr) (fun v37 _ => n - (intOf v37).toNat)
  case atStart => exact ⟨0, by omega, rfl, by simp, Below.refl _ _⟩
  case round =>
    obtain ⟨i, hi, rfl, hall, hb⟩ := hrel
    have HA := Lib.hid hall
    have HB := Lib.hid hb
    clear hall
    by_cases hlt : i < n
    · obtain ⟨g, hg⟩ := get_some (l := ss) (i := i) (by rw [HN.out]; exact hlt)
      obtain ⟨b, off, rfl, c0, c1, c2, c3, c4⟩ := HS.out.cells hb hg
      have hsz := hb.size
      have HG := Lib.hid hg
      clear hb hg
      cases hok : g.ok
      · have H30 := Lib.hid (show Gl.chk g.n g.s g.h g.a g.b = 30 by have := G.chk_bad hok; unfold G.chk at this; exact this)
        have HC' := Lib.hid (show ckE ss (rs.map Rw.d) = 30 by
          rw [HE.out, if_neg]
          intro h
          have h1 := List.all_eq_true.1 h g (List.mem_of_getElem? HG.out)
          rw [hok] at h1
          cases h1)
        clear hok
        go_wp2_with (go_at_call 103; refine (Gl.check_any _ _ _ _ _ _).mono ?_; rintro e w' ⟨rfl, rfl⟩; rw [H30.out])
        go_returns
        exact CkOut.no HC'.out (by decide) (andAlloc (andAlloc HB.out _) _)
      · have H0 := Lib.hid (show Gl.chk g.n g.s g.h g.a g.b = 0 by have := G.chk_ok hok; unfold G.chk at this; exact this)
        have HOK := Lib.hid hok
        clear hok
        go_wp2_with (go_at_call 103; refine (Gl.check_any _ _ _ _ _ _).mono ?_; rintro e w' ⟨rfl, rfl⟩; rw [H0.out])
        go_roundw
        case rel => exact ⟨i + 1, by omega, by go_num, by rw [List.take_add_one, HG.out, List.all_append, HA.out]; simp [HOK.out], andAlloc (andAlloc HB.out _) _⟩
        case measure => simp [intOf]; omega
    · obtain rfl : i = n := by omega
      have HE2 := Lib.hid (show ckE ss (rs.map Rw.d) = rowsE ((i : Int) - 1) (rs.map Rw.d) by rw [HE.out, if_pos]; have := HA.out; rwa [List.take_of_length_le (by rw [HN.out]; exact Nat.le_refl _)] at this)
      obtain ⟨n, rfl⟩ : ∃ z, z = i := ⟨_, rfl⟩
      clear HA HE hi hlt hb
      go_wp2_with fail
      go_loopw [9, 49] (fun v9 v49 wr => ∃ (i : Nat) (done : List Ir), i ≤ m ∧ v49 = .int .i64 (i : Int) ∧ CI w rs ((n : Int) - 1) i v9 done wr) (fun _ v49 _ => m - (intOf v49).toNat)
      case atStart => exact ⟨0, [], by omega, rfl, ⟨World.ownsRow_nil _ _ _ _, rfl, by simp, by simp, HB.out⟩⟩
      case round =>
        obtain ⟨i, done, hi, rfl, hI⟩ := hrel
        have HI := Lib.hid hI
        obtain ⟨W0, rfl⟩ : ∃ W, W = wr := ⟨_, rfl⟩
        by_cases hlt : i < m
        · obtain ⟨r, hr⟩ := get_some (l := rs) (i := i) (by rw [HM.out]; exact hlt)
          have hw := HR.out.below hI.low
          obtain ⟨b, off, rfl, hb, hc0, hc1⟩ := hw.row hr
          have HRO := Lib.hid (hw.get hr)
          have HRK := Lib.hid hr
          have hrl := HRO.out.len
          have hmk := make_none r.cs.length hrl
          clear hI hw hr
          go_upto_region 16 with fail
          have hJ0 : CJ W0 r ((n : Int) - 1) 0 0 (.slice (some ⟨W0.heap.size + 1, 0, none⟩) 0 r.cs.length) ((W0.alloc (.cells #[.slice r.A r.cs.length r.c, .slice r.E r.ex.length r.k] 36)).alloc (.cells (madeCells #[.int .i64 0] r.cs.length) 3)) :=
            ⟨(Blk.new _ _ _).alloc _, by simpa using World.ownsRow_made (base := W0.heap.size + 1) (e := 3) (size := 1) (W0.alloc (.cells #[.slice r.A r.cs.length r.c, .slice r.E r.ex.length r.k] 36)) (madeCells #[.int .i64 0] r.cs.length) r.cs.length (by simp) (by simp [maxLen]; omega) (by rw [size_madeCells, Nat.mul_one]), rfl, by omega, by omega, andAlloc (andAlloc (Below.refl _ _) _) _⟩
          have HJ0 := Lib.hid hJ0
          have hg0 := hJ0.blk.cell 0
          have hg1 := hJ0.blk.cell 1
          have hgl := hJ0.blk.lt
          clear hJ0 hmk
          generalize (W0.alloc (.cells #[.slice r.A r.cs.length r.c, .slice r.E r.ex.length r.k] 36)).alloc (.cells (madeCells #[.int .i64 0] r.cs.length) 3) = W2 at *
          have hg0' : W2.cell? ⟨W0.heap.size, 0, none⟩ = some (.slice r.A r.cs.length r.c) := hg0.trans rfl
          clear hg0 hg1
          go_wp2_with fail
          clear hg0'
          go_loopw [12, 13, 60] (fun v12 v13 v60 wr => ∃ (k : Nat) (a : Int), k ≤ r.cs.length ∧ v60 = .int .i64 (k : Int) ∧ v12 = .int .i64 a ∧ CJ W0 r ((n : Int) - 1) k a v13 wr) (fun _ _ v60 _ => r.cs.length - (intOf v60).toNat)
          case atStart => exact ⟨0, 0, by omega, rfl, rfl, HJ0.out⟩
          case round =>
            obtain ⟨k, a, hk, rfl, rfl, hC⟩ := hrel
            have HC := Lib.hid hC
            have ha0 := hC.a0
            have ha1 := hC.a1
            by_cases hlt2 : k < r.cs.length
            · obtain ⟨x, hx⟩ := get_some hlt2
              have hro := HRO.out.keep (Kp.below _ hC.low)
              obtain ⟨b2, off2, hA2, hb2, hx0, hx1⟩ := hro.cell hx
              have HXO := Lib.hid (hro.get hx)
              have HXK := Lib.hid hx
              have hkl : (k : Int) < (r.cs.length : Int) := by omega
              have hxl := HXO.out.len
              rw [hA2]
              clear hro hx hC
              by_cases q1 : x.sp < 1
              · have HBAD := Lib.hid (ck_bad HI.out HRK.out HE2.out (CJ.bad (E := 220) HC.out HXK.out (by decide) (if_pos (.inl q1))) (by decide))
                go_wp2_with fail
                go_returns
                exact CkOut.no HBAD.out (by decide) (andAlloc (andThen HI.out.low HC.out.low) _)
              · have hw1 : IntKind.i64.wrap ((n : Int) - 1) = (n : Int) - 1 := IntWalk.i64_in _ (by omega)
                have hw2 : IntKind.i64.wrap ((n : Int) - 1 - a) = (n : Int) - 1 - a := IntWalk.i64_in _ (by omega)
                by_cases q2 : (n : Int) - 1 - a < x.sp
                · have HBAD := Lib.hid (ck_bad HI.out HRK.out HE2.out (CJ.bad (E := 220) HC.out HXK.out (by decide) (if_pos (.inr q2))) (by decide))
                  go_wp2_with fail
                  go_returns
                  exact CkOut.no HBAD.out (by decide) (andAlloc (andThen HI.out.low HC.out.low) _)
                · have hw3 : IntKind.i64.wrap (a + x.sp) = a + x.sp := IntWalk.i64_in _ (by omega)
                  obtain ⟨hdim, ⟨Lb, Lo, bad, ov, E⟩, hRE, hl1, hl2, hgd, hbd, hcall⟩ := wd_is x.l (by omega)
                  simp only at hRE hl1 hl2 hgd hbd
                  have HCALL := Lib.hid (fun (w' : World) (hb : Below wr.heap.size wr w') => hcall x.A x.c w' HXO.out.cap (Seg.belowW HXO.out.seg.seg hb))
                  have HRE := Lib.hid hRE
                  clear hcall hRE
                  by_cases q3 : E = 0
                  · have q4 : (E != 0) = false := by simp [q3]
                    obtain ⟨n0, r0, hLb, hn0⟩ := hgd (by rw [← HRE.out]; exact q3)
                    have hla : 0 < Lb.length := by rw [hLb]; simp
                    have hlb : (0 : Int) < (Lb.length : Int) := by omega
                    have HLB := Lib.hid (And.intro hLb hn0)
                    clear hLb hn0 hgd hbd hdim
                    go_wp2_with fail
                    refine (HCALL.out _ (andAlloc (Below.refl _ _) _)).mono ?_
                    rintro e w5 ⟨vb, vo, rfl, oao, hb5⟩
                    obtain ⟨Ab, xb, f0, hxb⟩ := Pk.val_own oao.one
                    obtain ⟨Ao, xo, f1, _⟩ := Pk.val_own oao.two
                    simp only at f0 f1
                    subst f0 f1
                    obtain ⟨b1, o1, rfl, hce⟩ := Pk.head_cells oao.one HLB.out.1
                    have hcw := (hce w5 (Below.refl _ _)).1
                    rw [HLB.out.2] at hcw
                    have HB5 := Lib.hid (andThen (andAlloc (Below.refl wr.heap.size wr) (.cells #[.slice x.A x.l.length x.c, .int .i64 x.sp] 38)) hb5)
                    have hown := Lib.hid (own_below HC.out.own (andAlloc HB5.out (.cells #[.int .i64 (wd x.l).2] 3)))
                    have hl8 : (k + 1) * 8 ≤ 140737488355328 := by omega
                    have hz5 := HB5.out.size
                    have hzr := HC.out.blk.lt
                    clear oao hb5 hce HLB hxb
                    simp only
                    go_wp2_with (at_builtin; refine wpList_push2 rfl (.tmp 93) (.tmp 98) 26 rfl (W0.heap.size + 1) 3 (.int .i64 0) 1 8 Try.underlying26 info_i rfl (by decide) (by decide) u13 k (((wids r.d).take k).map intV) rfl hown.out (by simp; omega) ⟨w5.heap.size, 0, none⟩ 1 [.int .i64 (wd x.l).2] rfl rfl (new_cells (Blk.new _ _ _)) (by simp [Value.oneCell']) hl8 ?_; intro v8 W8 hown8 hg8 _)
                    have HNX := Lib.hid (CJ.next HC.out HXK.out HB5.out (by omega) (by omega) (by rw [← HRE.out]; exact q3) hown8 hg8)
                    clear hown8 hg8
                    go_wp2_with fail
                    go_roundw
                    case rel => exact ⟨k + 1, a + x.sp, by omega, by go_num, by go_num, HNX.out⟩
                    case measure => simp [intOf]; omega
                  · have HBAD := Lib.hid (ck_bad HI.out HRK.out HE2.out (CJ.bad (E := E) HC.out HXK.out q3 ((if_neg (by omega)).trans HRE.out.symm)) q3)
                    have q4 : (E != 0) = true := by simp [q3]
                    clear hgd hbd hdim
                    go_wp2_with fail
                    refine (HCALL.out _ (andAlloc (Below.refl _ _) _)).mono ?_
                    rintro e w5 ⟨vb, vo, rfl, oao, hb5⟩
                    have HB5 := Lib.hid (andThen (andAlloc (Below.refl wr.heap.size wr) (.cells #[.slice x.A x.l.length x.c, .int .i64 x.sp] 38)) hb5)
                    clear oao hb5
                    simp only
                    go_wp2_with fail
                    go_returns
                    exact CkOut.no HBAD.out q3 (andThen (andThen HI.out.low HC.out.low) HB5.out)
            · obtain rfl : k = r.cs.length := by omega
              have hg1 : wr.cell? ⟨W0.heap.size, 1, none⟩ = some (.slice r.E r.ex.length r.k) := (hC.blk.cell 1).trans rfl
              have hown := hC.own
              obtain ⟨A9, c9, rfl, hc9, _⟩ := SegS.own (S := fun _ => True) hC.own (fun _ _ => trivial)
              have HEX := Lib.hid (HRO.out.extra.keep (Kp.below _ hC.low))
              have hCK := check_any r.E r.ex r.k wr (by have := HEX.out.len; omega) HEX.out.seg.seg
              have hGD := hC.good
              have HCK := Lib.hid hCK
              have HGD := Lib.hid hGD
              clear hCK hGD hC hown
              generalize hce : chk r.ex = ce at HCK HGD
              by_cases q3 : ce = 0
              · have q4 : (ce != 0) = false := by simp [q3]
                go_wp2_with fail
                refine HCK.out.mono ?_
                rintro e w5 ⟨rfl, hb5⟩
                have HB5 := Lib.hid hb5
                clear hb5
                have hls : (r.cs.length : Int) ≤ (c9 : Int) := by omega
                have hown := Lib.hid (own_below (own_below HI.out.own (andThen HC.out.low HB5.out)) (andAlloc (Below.refl w5.heap.size w5) (.cells #[.slice A9 r.cs.length r.cs.length] 26)))
                have hl24 : (i + 1) * 24 ≤ 140737488355328 := by omega
                have hz5 := HB5.out.size
                have hzr := HC.out.blk.lt
                have hsw := HI.out.low.size
                go_wp2_with (at_builtin; refine wpList_push2 rfl (.tmp 107) (.tmp 114) 124 rfl w.heap.size 26 (.slice none 0 0) 1 24 Try.underlying124 info_is rfl (by decide) (by decide) u9 i (done.flatMap Ir.vals) rfl hown.out (by simp; omega) ⟨w5.heap.size, 0, none⟩ 1 [.slice A9 r.cs.length r.cs.length] rfl rfl (new_cells (Blk.new _ _ _)) (by simp [Value.oneCell']) hl24 ?_; intro v9 W9 hown9 hg9 hv9)
                have HNX := Lib.hid (CI.next HI.out HRK.out HC.out (by rw [HGD.out]; exact q3) HB5.out hown9 hg9 hv9)
                clear hown9 hg9 hv9
                go_roundw
                case rel => exact ⟨i + 1, _, by omega, by go_num, HNX.out⟩
                case measure => simp [intOf]; omega
              · have HBAD := Lib.hid (ck_bad HI.out HRK.out HE2.out HGD.out q3)
                have q4 : (ce != 0) = true := by simp [q3]
                go_wp2_with fail
                refine HCK.out.mono ?_
                rintro e w5 ⟨rfl, hb5⟩
                have HB5 := Lib.hid hb5
                clear hb5
                go_wp2_with fail
                go_returns
                exact CkOut.no HBAD.out q3 (andThen (andThen HI.out.low HC.out.low) HB5.out)
        · obtain rfl : i = m := by omega
          have h0 : ckE ss (rs.map Rw.d) = 0 := by
            rw [HE2.out]
            refine rowsE_zero fun q hq => hI.err q ?_
            rwa [List.take_of_length_le (by rw [List.length_map, HM.out]; exact Nat.le_refl _)]
          obtain ⟨A9, c9, rfl, _, _, _, hs9⟩ := SegS.own (S := fun _ => True) hI.own (fun _ _ => trivial)
          have hdl : done.length = i := by
            have h1 := congrArg List.length hI.dat
            rw [List.length_map, List.length_map, List.length_take, HM.out] at h1
            omega
          have H9 := Lib.hid (And.intro h0 (And.intro hs9 hdl))
          clear hI h0 hs9
          go_wp2_with fail
          go_returns
          refine CkOut.yes H9.out.1 HI.out.low ⟨A9, c9, done, (by rw [H9.out.2.2]; rfl), ⟨H9.out.2.1, fun x hx => (HI.out.ok x hx).mono fun _ _ _ => trivial⟩, ?_⟩
          have h1 := HI.out.dat
          rw [List.take_of_length_le (by rw [HM.out]; exact Nat.le_refl _)] at h1
          rw [h1, List.map_map]
          rfl
theorem check_al (A : Option Addr) (ss : List G) (c : Nat) (B : Option Addr) (rs : List Rw) (k : Nat) (w : World) (hS : Row w A ss) (hR : RsOk w (fun _ => True) B k rs) (h63 : ss.length ≤ maxLen) :
    Calls Try.prog 68 #[.slice A ss.length c, .slice B rs.length k] w (CkOut ss (rs.map Rw.d) w) := by
  by_cases h : ss.length < 2 ∨ 257 < ss.length ∨ 2000 < rs.length
  · exact check_size A ss c B rs k w h63 (by have := hR.len; simp [maxLen]; omega) h
  · exact check_go A ss c B rs k w hS hR (by omega) (by omega) (by omega)
end Go.Proofs.Ytoboecenlangmaa.Al
end
section
namespace Go.Proofs.Ytoboecenlangmaa.Al
open Go.ChangeShapes Go.WideShapes Go.ChangeAt Go.RowKit
open Me Np No
open Gl (G Row)
set_option linter.unusedVariables false
set_option linter.unusedSimpArgs false

theorem own_apart {w : World} {b1 b2 : Nat} {e1 e2 : TypeId} {s1 s2 n1 n2 : Nat} {v1 v2 : Value} {x1 x2 : List Value} (h1 : w.ownsRow b1 e1 s1 v1 n1 x1) (h2 : w.ownsRow b2 e2 s2 v2 n2 x2) (hne : e1 ≠ e2) : v1.ownBlock = none ∨ v1.ownBlock ≠ v2.ownBlock := by
  rcases h1.2 with ⟨rfl, _⟩ | ⟨g, cap, cur, rfl, _, hg, _⟩
  · exact .inl rfl
  · refine .inr ?_
    rcases h2.2 with ⟨rfl, _⟩ | ⟨g', cap', cur', rfl, _, hg', _⟩
    · intro e; cases e
    · intro e
      have e' : g = g' := by simpa [Value.ownBlock] using e
      subst e'
      rw [hg] at hg'
      simp only [Option.some.injEq, Obj.cells.injEq] at hg'
      exact hne hg'.2.1
theorem own_blk {w : World} {b : Nat} {e t : TypeId} {s n g : Nat} {v : Value} {xs : List Value} {cs : Array Value} (h : w.ownsRow b e s v n xs) (k : Blk w g t cs) (hne : e ≠ t) : v.ownBlock ≠ some g := by
  rcases h.2 with ⟨rfl, _⟩ | ⟨g', cap, cur, rfl, _, hg, _⟩
  · intro e; cases e
  · intro e'
    have e1 : g' = g := by simpa [Value.ownBlock] using e'
    subst e1
    have k' : w.heap[g']? = some (.cells cs t (0, 0)) := k
    rw [k'] at hg
    simp only [Option.some.injEq, Obj.cells.injEq] at hg
    exact hne hg.2.1.symm
theorem gr_refl (w : World) (r : Option Nat) : w.grownBy w r := ⟨rfl, rfl, rfl, Nat.le_refl _, fun _ _ _ => rfl⟩
theorem gr_trans {w a b : World} {r : Option Nat} (h : w.grownBy a r) (k : a.grownBy b r) : w.grownBy b r :=
  ⟨k.os.trans h.os, k.tape.trans h.tape, k.output.trans h.output, Nat.le_trans h.size k.size, fun q hq hne => (k.block q (by have := h.size; omega) hne).trans (h.block q hq hne)⟩
theorem gr_set (w : World) (g j : Nat) (u : Value) : w.grownBy (w.setCell ⟨g, j, none⟩ u) (some g) := ⟨rfl, rfl, rfl, by simp, fun k _ hk => heap_setCell_other w ⟨g, j, none⟩ k u (fun e => hk (by simp [e]))⟩
theorem gr_cells (g : Nat) : ∀ (vs : List Value) (o : Nat) (w : World), w.grownBy (w.setCells g o vs) (some g)
  | [], _, w => gr_refl w _
  | v :: r, o, w => gr_trans (gr_set w g o v) (gr_cells g r (o + 1) _)
/-- A list, written over from a place on. -/
def ovr : List Value → Nat → List Value → List Value
  | xs, _, [] => xs
  | xs, o, v :: r => ovr (xs.set o v) (o + 1) r
theorem ovr_length : ∀ (vs : List Value) (xs : List Value) (o : Nat), (ovr xs o vs).length = xs.length
  | [], _, _ => rfl
  | v :: r, xs, o => by rw [ovr, ovr_length r, List.length_set]
theorem ovr_out : ∀ (vs : List Value) (xs : List Value) (o i : Nat), i < o ∨ o + vs.length ≤ i → (ovr xs o vs)[i]? = xs[i]?
  | [], _, _, _, _ => rfl
  | v :: r, xs, o, i, h => by
    simp only [List.length_cons] at h
    rw [ovr, ovr_out r _ _ _ (by omega), List.getElem?_set_ne (by omega)]
theorem ovr_in : ∀ (vs : List Value) (xs : List Value) (o i : Nat), o + vs.length ≤ xs.length → i < vs.length → (ovr xs o vs)[o + i]? = vs[i]?
  | [], _, _, _, _, h => by simp at h
  | v :: r, xs, o, 0, h, _ => by
    simp only [List.length_cons] at h
    show (ovr (xs.set o v) (o + 1) r)[o]? = some v
    rw [ovr_out r (xs.set o v) (o + 1) o (by omega), List.getElem?_set_self (by omega)]
  | v :: r, xs, o, i + 1, h, hi => by
    simp only [List.length_cons] at h hi
    rw [ovr, show o + (i + 1) = o + 1 + i by omega, ovr_in r _ _ _ (by rw [List.length_set]; omega) (by omega)]
    rfl
theorem ovr_glue (l : List G) (k : Nat) (x : G) (hk : k < l.length) : ovr (l.flatMap G.vals) (k * 5) x.vals = (l.set k x).flatMap G.vals := by
  apply List.ext_getElem?
  intro i
  have h1 := flat_length Gl.G.vals_len l
  have h2 := flat_length Gl.G.vals_len (l.set k x)
  rw [List.length_set] at h2
  have hx : x.vals.length = 5 := x.vals_len
  rcases Nat.lt_or_ge i (l.length * 5) with hi | hi
  · obtain ⟨r, q, hr, hq, rfl⟩ : ∃ r q, r < l.length ∧ q < 5 ∧ i = r * 5 + q := ⟨i / 5, i % 5, by omega, by omega, by omega⟩
    obtain ⟨y, hy⟩ : ∃ y, l[r]? = some y := ⟨l[r], List.getElem?_eq_getElem hr⟩
    by_cases hrk : r = k
    · subst hrk
      rw [ovr_in _ _ _ _ (by rw [h1, hx]; omega) (by rw [hx]; exact hq)]
      exact (flat_get Gl.G.vals_len _ r x q (by rw [List.getElem?_set_self hr]) hq).symm
    · rw [ovr_out _ _ _ _ (by rw [hx]; omega), flat_get Gl.G.vals_len _ r y q hy hq, flat_get Gl.G.vals_len _ r y q (by rw [List.getElem?_set_ne (by omega)]; exact hy) hq]
  · rw [List.getElem?_eq_none (by rw [ovr_length]; omega), List.getElem?_eq_none (by omega)]
theorem own_ovrs {base : Nat} {e : TypeId} {size g n cap : Nat} : ∀ (vs : List Value) (o : Nat) (w : World) (xs : List Value), w.ownsRow base e size (.slice (some ⟨g, 0, none⟩) n cap) n xs → (w.setCells g o vs).ownsRow base e size (.slice (some ⟨g, 0, none⟩) n cap) n (ovr xs o vs)
  | [], _, _, _, h => h
  | v :: r, o, w, xs, h => own_ovrs r (o + 1) _ _ (h.stored o v).1
theorem own_here {w : World} {base g n cap size : Nat} {e : TypeId} {xs : List Value} (h : w.ownsRow base e size (.slice (some ⟨g, 0, none⟩) n cap) n xs) (k : Nat) (hk : k < n) : w.there g (k * size) size := by
  intro j hj
  have hl := h.1
  have hlt : k * size + j < xs.length := by
    rw [hl]
    have : (k + 1) * size ≤ n * size := Nat.mul_le_mul_right _ hk
    rw [Nat.add_mul] at this
    omega
  refine ⟨?_, h.frozenAt _⟩
  rw [h.cellAt _ (by rw [← hl]; exact hlt)]
  rw [List.getElem?_eq_getElem hlt]
  rfl

theorem own_some {w : World} {base n size : Nat} {e : TypeId} {v : Value} {xs : List Value} (h : w.ownsRow base e size v n xs) (hn : 0 < n) : ∃ g c, v = .slice (some ⟨g, 0, none⟩) n c ∧ n ≤ c := by
  rcases h.2 with ⟨_, h0⟩ | ⟨g, cap, cur, rfl, _, _, hc, _⟩
  · omega
  · exact ⟨g, cap, rfl, hc⟩
def boolV (b : Bool) : Value := .bool b
/-- The sheet: skips, widths, which are gone. -/
structure MJ (w1 : World) (gs : Nat) (S : List G) (W : List Int) (D : List Bool) (vs vw vd : Value) (wr : World) : Prop where
  blk : Blk wr gs 84 #[vs, vw, vd]
  os : wr.ownsRow w1.heap.size 40 5 vs S.length (S.flatMap G.vals)
  ow : wr.ownsRow w1.heap.size 3 1 vw W.length (W.map intV)
  od : wr.ownsRow w1.heap.size 4 1 vd D.length (D.map boolV)
  low : Below w1.heap.size w1 wr
  ge : w1.heap.size ≤ gs
section
variable {w1 wr W8 : World} {gs : Nat} {S : List G} {W : List Int} {D : List Bool} {vs vw vd v8 : Value}
theorem MJ.below (h : MJ w1 gs S W D vs vw vd wr) (hb : Below wr.heap.size wr W8) : MJ w1 gs S W D vs vw vd W8 :=
  ⟨h.blk.below hb h.blk.lt, own_below h.os hb, own_below h.ow hb, own_below h.od hb, andThen h.low hb, h.ge⟩
theorem MJ.bW {x : Value} {t : TypeId} (h : MJ w1 gs S W D vs vw vd wr) (hg : (wr.alloc (.cells #[x] t)).grownBy W8 vw.ownBlock) : Blk W8 gs 84 #[vs, vw, vd] := by
  have hgl := h.blk.lt
  have h0 := h.below (andAlloc (Below.refl wr.heap.size wr) (.cells #[x] t))
  exact (hg.block gs (by simp; omega) (Ne.symm (own_blk h0.ow h0.blk (by decide)))).trans h0.blk
theorem MJ.bD {x : Value} {t : TypeId} (h : MJ w1 gs S W D vs vw vd wr) (hg : (wr.alloc (.cells #[x] t)).grownBy W8 vd.ownBlock) : Blk W8 gs 84 #[vs, vw, vd] := by
  have hgl := h.blk.lt
  have h0 := h.below (andAlloc (Below.refl wr.heap.size wr) (.cells #[x] t))
  exact (hg.block gs (by simp; omega) (Ne.symm (own_blk h0.od h0.blk (by decide)))).trans h0.blk
theorem MJ.pushW {x : Int} (h : MJ w1 gs S W D vs vw vd wr) (hown : W8.ownsRow w1.heap.size 3 1 v8 (W.length + 1) (W.map intV ++ [.int .i64 x])) (hg : (wr.alloc (.cells #[.int .i64 x] 3)).grownBy W8 vw.ownBlock) : MJ w1 gs S (W ++ [x]) D vs v8 vd (W8.setCell ⟨gs, 1, none⟩ v8) := by
  have hgl := h.blk.lt
  have h0 := h.below (andAlloc (Below.refl wr.heap.size wr) (.cells #[.int .i64 x] 3))
  have n0 := own_blk h0.ow h0.blk (by decide)
  have n1 := own_apart h0.os h0.ow (by decide)
  have n2 := own_apart h0.od h0.ow (by decide)
  have b8 : Blk W8 gs 84 #[vs, vw, vd] := (hg.block gs (by simp; omega) (Ne.symm n0)).trans h0.blk
  have s8 := h0.os.kept hg n1
  have d8 := h0.od.kept hg n2
  have l8 : Below w1.heap.size w1 W8 := below_grown (Nat.le_refl _) h0.low hg fun q hq => (h0.ow.lt q hq).1
  refine ⟨?_, ownsRow_setCell_other s8 (own_blk s8 b8 (by decide)) _, ?_, ownsRow_setCell_other d8 (own_blk d8 b8 (by decide)) _, l8.setCell h.ge _, h.ge⟩
  · simpa using b8.set 1 v8
  · rw [List.length_append, List.map_append]
    exact ownsRow_setCell_other hown (own_blk hown b8 (by decide)) _
theorem MJ.pushD {x : Bool} (h : MJ w1 gs S W D vs vw vd wr) (hown : W8.ownsRow w1.heap.size 4 1 v8 (D.length + 1) (D.map boolV ++ [.bool x])) (hg : (wr.alloc (.cells #[.bool x] 4)).grownBy W8 vd.ownBlock) : MJ w1 gs S W (D ++ [x]) vs vw v8 (W8.setCell ⟨gs, 2, none⟩ v8) := by
  have hgl := h.blk.lt
  have h0 := h.below (andAlloc (Below.refl wr.heap.size wr) (.cells #[.bool x] 4))
  have n0 := own_blk h0.od h0.blk (by decide)
  have n1 := own_apart h0.os h0.od (by decide)
  have n2 := own_apart h0.ow h0.od (by decide)
  have b8 : Blk W8 gs 84 #[vs, vw, vd] := (hg.block gs (by simp; omega) (Ne.symm n0)).trans h0.blk
  have s8 := h0.os.kept hg n1
  have d8 := h0.ow.kept hg n2
  have l8 : Below w1.heap.size w1 W8 := below_grown (Nat.le_refl _) h0.low hg fun q hq => (h0.od.lt q hq).1
  refine ⟨?_, ownsRow_setCell_other s8 (own_blk s8 b8 (by decide)) _, ownsRow_setCell_other d8 (own_blk d8 b8 (by decide)) _, ?_, l8.setCell h.ge _, h.ge⟩
  · simpa using b8.set 2 v8
  · rw [List.length_append, List.map_append]
    exact ownsRow_setCell_other hown (own_blk hown b8 (by decide)) _
theorem MJ.skip {g c k : Nat} {x : G} (h : MJ w1 gs S W D (.slice (some ⟨g, 0, none⟩) S.length c) vw vd wr) (hk : k < S.length) : MJ w1 gs (S.set k x) W D (.slice (some ⟨g, 0, none⟩) S.length c) vw vd (wr.setCells g (k * 5) x.vals) := by
  have hg := gr_cells g x.vals (k * 5) wr
  have n0 := own_blk h.os h.blk (by decide)
  have n1 := own_apart h.ow h.os (by decide)
  have n2 := own_apart h.od h.os (by decide)
  have hgg : (Value.slice (some ⟨g, 0, none⟩) S.length c).ownBlock = some g := rfl
  rw [hgg] at n0 n1 n2
  refine ⟨(hg.block gs h.blk.lt (Ne.symm n0)).trans h.blk, ?_, h.ow.kept hg n1, h.od.kept hg n2, below_grown (Nat.le_refl _) h.low hg fun q hq => ?_, h.ge⟩
  · rw [List.length_set, ← ovr_glue S k x hk]
    exact own_ovrs _ _ _ _ h.os
  · exact (h.os.lt q hq).1
/-- Where the skips stand. -/
theorem MJ.s0 (h : MJ w1 gs S W D vs vw vd wr) (hl : 0 < S.length) : ∃ g c, vs = .slice (some ⟨g, 0, none⟩) S.length c ∧ S.length ≤ c := by
  rcases id h.os.2 with ⟨rfl, h0⟩ | ⟨g, cap, cur, rfl, _, _, hn, _⟩
  · omega
  · exact ⟨g, cap, rfl, hn⟩
theorem MJ.getW (h : MJ w1 gs S W D vs vw vd wr) {i : Nat} {x : Int} (hi : W[i]? = some x) : ∃ b off c, vw = .slice (some ⟨b, off, none⟩) W.length c ∧ W.length ≤ c ∧ wr.cell? ⟨b, off + i, none⟩ = some (.int .i64 x) := by
  obtain ⟨A, c, rfl, hc, _, _, hs⟩ := SegS.own (S := fun _ => True) h.ow (fun _ _ => trivial)
  rcases hs with h0 | ⟨b, off, rfl, _, _, hx⟩
  · have h1 : W = [] := by simpa using h0
    rw [h1] at hi
    simp at hi
  · exact ⟨b, off, c, rfl, hc, hx i _ (by rw [List.getElem?_map, hi]; rfl)⟩
theorem MJ.getS (h : MJ w1 gs S W D vs vw vd wr) {i : Nat} {x : G} (hi : S[i]? = some x) : ∃ b off c, vs = .slice (some ⟨b, off, none⟩) S.length c ∧ S.length ≤ c ∧ wr.cell? ⟨b, off + i * 5, none⟩ = some (.int .i64 x.n) := by
  obtain ⟨A, c, rfl, hc, _, _, hs⟩ := SegS.own (S := fun _ => True) h.os (fun _ _ => trivial)
  obtain ⟨b, off, rfl, _, hx⟩ := hs.seg.row Gl.G.vals_len hi (by decide)
  exact ⟨b, off, c, rfl, hc, by simpa using hx 0 _ rfl⟩
end
end Go.Proofs.Ytoboecenlangmaa.Al
end
section
namespace Go.Proofs.Ytoboecenlangmaa.Al
open Go.ChangeShapes Go.WideShapes Go.ChangeAt Go.RowKit
open Me Np No
open Gl (G Row)
set_option linter.unusedVariables false
set_option linter.unusedSimpArgs false

noncomputable def mdC (ss : List G) (ds : List RD) : Co := cols (ds.map cel) ss (ss.length - 1)
noncomputable def mdE (ss : List G) (ds : List RD) : Int := if ckE ss ds = 0 then (if (mdC ss ds).w.all dimB = true then 0 else 20) else ckE ss ds
/-- What made answers: the sheet, in memory of its own. -/
def MdOutC (E : Int) (C : Co) (w : World) (e : Ending) (w' : World) : Prop :=
  ∃ v, e = .returned (.tuple #[v, .int .i64 E]) ∧ Below w.heap.size w w' ∧ (E = 0 → ∃ (w1 : World) (g : Nat) (vs vw vd : Value), w.heap.size ≤ w1.heap.size ∧ v = .pointer (some ⟨g, 0, none⟩) ∧ MJ w1 g C.s C.w C.g vs vw vd w')
abbrev MdOut (ss : List G) (ds : List RD) (w : World) (e : Ending) (w' : World) : Prop := MdOutC (mdE ss ds) (mdC ss ds) w e w'
theorem MdOut.no {ss : List G} {ds : List RD} {w w' : World} {E : Int} (h : mdE ss ds = E) (h0 : ¬ E = 0) (hb : Below w.heap.size w w') : MdOut ss ds w (.returned (.tuple #[.pointer none, .int .i64 E])) w' :=
  ⟨_, by rw [h], hb, fun e => absurd (h ▸ e) h0⟩
theorem dimen_al (z : Int) (w : World) : Calls Try.prog 69 #[.int .i64 z] w fun e w' => e = .returned (.bool (dimB z)) ∧ w = w' := by
  by_cases h0 : -1073741823 ≤ z
  · by_cases h1 : z ≤ 1073741823
    · have HD := Lib.hid (show dimB z = true by simp [dimB, h0, h1])
      go_enter Try.func69, Try.ntmps69
      go_wp2_with fail
      go_ret
      exact ⟨by rw [HD.out]; rfl, rfl⟩
    · have HD := Lib.hid (show dimB z = false by simp [dimB, h1])
      go_enter Try.func69, Try.ntmps69
      go_wp2_with fail
      go_ret
      exact ⟨by rw [HD.out]; rfl, rfl⟩
  · have HD := Lib.hid (show dimB z = false by simp [dimB, h0])
    go_enter Try.func69, Try.ntmps69
    go_wp2_with fail
    go_ret
    exact ⟨by rw [HD.out]; rfl, rfl⟩
theorem info_b : (Try.prog.info? 4).map (fun i => (i.zero, i.size, i.bytes)) = some (some (.bool false), 1, 1) := by kernel_rfl
theorem cols_none {rs : List (List (Int × Nat))} {ss : List G} {j : Nat} (h : colM (cols rs ss j).f j none rs = none) : cols rs ss (j + 1) = ⟨(cols rs ss j).w ++ [0], (cols rs ss j).g ++ [true], (cols rs ss j).s.set (j + 1) gz⟩ := by
  rw [cols]
  unfold Co.next
  rw [h]
theorem cols_some {rs : List (List (Int × Nat))} {ss : List G} {j : Nat} {y : Int} (h : colM (cols rs ss j).f j none rs = some y) : cols rs ss (j + 1) = ⟨(cols rs ss j).w ++ [y], (cols rs ss j).g ++ [false], (cols rs ss j).s⟩ := by
  rw [cols]
  unfold Co.next
  rw [h]
theorem MdOut.yes {E : Int} {C : Co} {w w1 w' : World} {g : Nat} {vs vw vd : Value} (h : E = 0) (hb : Below w.heap.size w w') (h1 : w.heap.size ≤ w1.heap.size) (hj : MJ w1 g C.s C.w C.g vs vw vd w') : MdOutC E C w (.returned (.tuple #[.pointer (some ⟨g, 0, none⟩), .int .i64 0])) w' :=
  ⟨_, by rw [h], hb, fun _ => ⟨w1, g, vs, vw, vd, h1, rfl, hj⟩⟩
theorem info_g : (Try.prog.info? 40).map (fun i => (i.zero, i.size, i.bytes)) = some (some (.agg #[.int .i64 0, .int .i64 0, .int .i64 0, .int .i64 0, .int .i64 0]), 5, 40) := by kernel_rfl
theorem glue_one (l : List G) : ∀ u ∈ l.flatMap G.vals, u.oneCell' = true := by
  intro u hu
  obtain ⟨g, _, hg⟩ := List.mem_flatMap.1 hu
  simp only [G.vals, List.mem_cons, List.not_mem_nil, or_false] at hg
  rcases hg with rfl | rfl | rfl | rfl | rfl <;> rfl
theorem wpList_append_src {P : Program} {ops : Array Oper} {rest : List Oper} {o : Oper} {a : Act} {w : World} {Q : Exit → Act → World → Prop} (hgd : o.guard = none) (s x : Operand) (t : TypeId)
    (ho : o.op = .call { callee := .builtin .append, args := #[s, x], argTypes := #[t, t] })
    (base : Nat) (e : TypeId) (z : Value) (size bytes : Nat) (ht : P.underlying t = some (.slice e)) (hinfo : (P.info? e).map (fun i => (i.zero, i.size, i.bytes)) = some (some z, size, bytes))
    (hzs : z.cells.size = size) (hsz : 0 < size)
    (v : Value) (n : Nat) (xs : List Value) (hs : a.eval s = v) (hown : w.ownsRow base e size v n xs)
    (ad : Addr) (m c : Nat) (news : List Value) (hx : a.eval x = .slice (some ad) m c) (hl : news.length = m * size) (hnews : ∀ j u, news[j]? = some u → w.cell? (ad.add j) = some u) (h1 : ∀ u ∈ news, u.oneCell' = true)
    (h63 : n + m ≤ maxLen) (hbytes : (n + m) * bytes ≤ 140737488355328) (hbase : base ≤ w.heap.size)
    (h : ∀ v' w', w'.ownsRow base e size v' (n + m) (xs ++ news) → w.grownBy w' v.ownBlock → wpList P ops Q rest (a.put o.dst v') w') :
    wpList P ops Q (o :: rest) a w :=
  wpList_plain hgd fun K hK => by
    obtain ⟨i, hi, hz, hsi, hbi⟩ := info_parts hinfo
    obtain ⟨v', w', hr, h2, h3, _⟩ := run_append_own (P := P) w base t o.type e i z size bytes ht hi hz hsi hbi hzs hsz v n xs hown ad m c news hl hnews h1 h63 hbytes hbase
    unfold Oper.wp execOp
    simp only [ho, resolve, invoke, builtin, Sem.run_bind, Sem.run_pure, Result.andThen_ok, List.map_toArray, List.map_cons, List.map_nil, hs, hx, hr]
    exact hK _ _ (h v' w' h2 h3)

set_option maxHeartbeats 4000000 in
set_option maxRecDepth 100000 in
theorem made_bad (A : Option Addr) (ss : List G) (c : Nat) (B : Option Addr) (rs : List Rw) (k : Nat) (w : World) (hS : Row w A ss) (hR : RsOk w (fun _ => True) B k rs) (h63 : ss.length ≤ maxLen) (hE : ¬ ckE ss (rs.map Rw.d) = 0) :
    Calls Try.prog 35 #[.slice A ss.length c, .slice B rs.length k] w (MdOut ss (rs.map Rw.d) w) := by
  have HM := Lib.hid (show mdE ss (rs.map Rw.d) = ckE ss (rs.map Rw.d) from if_neg hE)
  have HC := Lib.hid (check_al A ss c B rs k w hS hR h63)
  have HN := Lib.hid hE
  have q1 : (ckE ss (rs.map Rw.d) != 0) = true := by simp [hE]
  clear hS hR hE
  go_enter Try.func35, Try.ntmps35
  go_wp2_with fail
  refine HC.out.mono ?_
  rintro e w1 ⟨v, rfl, hb1, _⟩
  go_wp2_with fail
  go_returns
  exact MdOut.no HM.out HN.out hb1
theorem ask_drop {f : Nat → Int} {j a k : Nat} {r : List (Int × Nat)} {c : Int × Nat} (hk : r[k]? = some c) : ask f j a (r.drop k) = if j < a + c.2 - 1 then none else if a + c.2 - 1 = j then some (less f a (j - a) c.1) else ask f j (a + c.2) (r.drop (k + 1)) := by
  have hlt : k < r.length := by
    rcases Nat.lt_or_ge k r.length with h | h
    · exact h
    · rw [List.getElem?_eq_none h] at hk; cases hk
  rw [List.drop_eq_getElem_cons hlt]
  rw [List.getElem?_eq_getElem hlt] at hk
  injection hk with hk
  rw [hk]
  rfl
theorem ask_before {f : Nat → Int} {j : Nat} : ∀ {r : List (Int × Nat)} {a : Nat}, j < a → (∀ x ∈ r, 1 ≤ x.2) → ask f j a r = none
  | [], _, _, _ => rfl
  | c :: r, a, h, h1 => by
    have := h1 c (by simp)
    rw [ask, if_pos (by omega)]
theorem pos_zero : ∀ r : List (Int × Nat), pos r 0 = 0
  | [] => rfl
  | _ :: _ => rfl
theorem wrapEq (x : Int) : IntKind.i64.wrap x = wrap64 x := by rw [IntKind.wrap_i64, wrap64]
theorem IrsOk.get {w : World} {A : Option Addr} {irs : List Ir} (h : IrsOk w (fun _ => True) A irs) {i q : Nat} {ir : Ir} {x : Int} (hi : irs[i]? = some ir) (hq : ir.xs[q]? = some x) :
    ∃ b off b7 off7, A = some ⟨b, off, none⟩ ∧ ir.A = some ⟨b7, off7, none⟩ ∧ b < w.heap.size ∧ b7 < w.heap.size ∧ w.cell? ⟨b, off + i, none⟩ = some (.slice ir.A ir.xs.length ir.c) ∧ w.cell? ⟨b7, off7 + q, none⟩ = some (.int .i64 x) := by
  obtain ⟨b, off, hA, hb, hc⟩ := h.seg.seg.row Ir.vals_length hi (by decide)
  have h0 := hc 0 _ rfl
  rw [Nat.mul_one, Nat.add_zero] at h0
  rcases h.rows ir (List.mem_of_getElem? hi) with h1 | ⟨b7, off7, hA7, hb7, _, hx⟩
  · have h2 : ir.xs = [] := by simpa using h1
    rw [h2] at hq
    simp at hq
  · exact ⟨b, off, b7, off7, hA, hA7, hb, hb7, h0, hx q _ (by rw [List.getElem?_map, hq]; rfl)⟩
theorem pos_succ : ∀ {r : List (Int × Nat)} {k : Nat} {c : Int × Nat}, r[k]? = some c → pos r (k + 1) = pos r k + c.2
  | [], k, c, h => by simp at h
  | x :: r, 0, c, h => by
    simp at h
    subst h
    simp [pos]
  | x :: r, k + 1, c, h => by
    rw [pos, pos_succ (r := r) (k := k) (c := c) (by simpa using h), pos]
    omega
theorem colM_drop {f : Nat → Int} {j i : Nat} {m : Option Int} {rs : List (List (Int × Nat))} {r : List (Int × Nat)} (hi : rs[i]? = some r) : colM f j m (rs.drop i) = colM f j (mx m (ask f j 0 r)) (rs.drop (i + 1)) := by
  have hlt : i < rs.length := by
    rcases Nat.lt_or_ge i rs.length with h | h
    · exact h
    · rw [List.getElem?_eq_none h] at hi; cases hi
  rw [List.drop_eq_getElem_cons hlt]
  rw [List.getElem?_eq_getElem hlt] at hi
  injection hi with hi
  rw [hi]
  rfl
theorem mx_right (m : Option Int) : mx m none = m := by cases m <;> rfl
/-- What is known of a good alignment's rows. -/
theorem row_good {ss : List G} {ds : List RD} (h : ckE ss ds = 0) {q : RD} (hq : q ∈ ds) : (∀ c ∈ q.1, 1 ≤ c.2 ∧ (wd c.1).1 = 0) ∧ (∀ k, posI q.1 k ≤ (ss.length : Int) - 1) ∧ chk q.2 = 0 := by
  unfold ckE at h
  split at h
  · cases h
  · rename_i h1
    split at h
    · have h2 := rowsE_all h q hq
      unfold rowErr at h2
      split at h2
      · rename_i h3
        obtain ⟨a, b⟩ := celE_good (by omega) h3
        exact ⟨a, fun k => by have := b k; omega, h2⟩
      · rename_i h3
        exact absurd h2 h3
    · cases h
/-- Cell k of a good row. -/
theorem cel_good {ss : List G} {ds : List RD} (h : ckE ss ds = 0) {r : Rw} (hr : r.d ∈ ds) {k : Nat} {x : Cl} (hx : r.cs[k]? = some x) :
    (cel r.d)[k]? = some ((wd x.l).2, x.sp.toNat) ∧ (∀ c ∈ cel r.d, 1 ≤ c.2) ∧ 1 ≤ x.sp ∧ ((pos (cel r.d) k : Nat) : Int) + x.sp ≤ (ss.length : Int) - 1 := by
  obtain ⟨h1, h2, _⟩ := row_good h hr
  have hd : r.d.1[k]? = some x.d := by show (r.cs.map Cl.d)[k]? = _; rw [List.getElem?_map, hx]; rfl
  have h3 : ∀ c ∈ r.d.1, 1 ≤ c.2 := fun c hc => (h1 c hc).1
  have h4 := h3 x.d (List.mem_of_getElem? hd)
  have h5 := h2 (k + 1)
  rw [posI_succ hd] at h5
  have h6 : ((pos (cel r.d) k : Nat) : Int) = posI r.d.1 k := cel_pos (ex := r.d.2) h3
  refine ⟨by unfold cel; rw [List.getElem?_map, hd]; rfl, fun c hc => ?_, h4, ?_⟩
  · unfold cel at hc
    obtain ⟨y, hy, rfl⟩ := List.mem_map.1 hc
    have := h3 y hy
    show 1 ≤ y.2.toNat
    omega
  · rw [h6]
    exact h5
theorem seg_add {w : World} {B b off : Nat} {xs : List Value} (h : Seg w B (some ⟨b, off, none⟩) xs) : ∀ j u, xs[j]? = some u → w.cell? ((⟨b, off, none⟩ : Addr).add j) = some u := by
  intro j u hu
  rcases h with rfl | ⟨b', off', he, _, hc⟩
  · simp at hu
  · simp only [Option.some.injEq, Addr.mk.injEq, and_true] at he
    obtain ⟨rfl, rfl⟩ := he
    have hadd : (⟨b, off, none⟩ : Addr).add j = ⟨b, off + j, none⟩ := by unfold Addr.add; split <;> simp_all
    rw [hadd]
    exact hc j u hu

set_option maxHeartbeats 4000000 in
set_option maxRecDepth 100000 in
theorem made_go (A : Option Addr) (ss : List G) (c : Nat) (B : Option Addr) (rs : List Rw) (k : Nat) (w : World) (hS : Row w A ss) (hR : RsOk w (fun _ => True) B k rs) (h63 : ss.length ≤ maxLen) (hE : ckE ss (rs.map Rw.d) = 0) :
    Calls Try.prog 35 #[.slice A ss.length c, .slice B rs.length k] w (MdOut ss (rs.map Rw.d) w) := by
  have hbd : 2 ≤ ss.length ∧ ss.length ≤ 257 ∧ rs.length ≤ 2000 := by
    unfold ckE at hE
    split at hE
    · cases hE
    · rename_i h
      simp at h
      omega
  have hc0 := check_al A ss c B rs k w hS hR h63
  unfold CkOut at hc0
  rw [hE] at hc0
  have HC := Lib.hid hc0
  have HS := Lib.hid hS
  have HR := Lib.hid hR
  have HE := Lib.hid hE
  clear hS hR hE hc0 h63
  obtain ⟨h2, h257, h2000⟩ := hbd
  generalize hn : ss.length = n at *
  have HN := Lib.hid hn
  clear hn
  generalize hm : rs.length = m at *
  have HM := Lib.hid hm
  clear hm
  go_enter Try.func35, Try.ntmps35
  go_wp2_with fail
  refine HC.out.mono ?_
  rintro e w1 ⟨v, rfl, hb1, hir⟩
  obtain ⟨A6, c6, irs, rfl, hir, hird⟩ := hir trivial
  have HIR := Lib.hid (And.intro hir hird)
  have HB1 := Lib.hid hb1
  obtain ⟨b, off, rfl, hbb⟩ : ∃ b off, A = some ⟨b, off, none⟩ ∧ b < w.heap.size := by
    obtain ⟨g, hg⟩ := get_some (l := ss) (i := 0) (by rw [HN.out]; omega)
    obtain ⟨b, off, hA, hb, _⟩ := Seg.row Gl.G.vals_len HS.out hg (by decide)
    exact ⟨b, off, hA, hb⟩
  have HSC := Lib.hid (seg_add (Seg.belowW HS.out hb1))
  clear hir hird hb1
  go_upto_region 5 with (at_builtin; refine wpList_append_src rfl (.const (.slice none 0 0)) (.tmp 31) 22 rfl w1.heap.size 40 (.agg #[.int .i64 0, .int .i64 0, .int .i64 0, .int .i64 0, .int .i64 0]) 5 40 Try.underlying22 info_g rfl (by decide) (.slice none 0 0) 0 [] rfl (World.ownsRow_nil _ _ _ _) ⟨b, off, none⟩ n c (ss.flatMap G.vals) rfl (by rw [flat_length Gl.G.vals_len, HN.out]) HSC.out (glue_one _) (by simp [maxLen]; omega) (by omega) (Nat.le_refl _) ?_; intro v4 w4 hown4 hg4; rw [Nat.zero_add, List.nil_append] at hown4; obtain ⟨g4, c4, rfl, hc4⟩ := own_some hown4 (by omega))
  have hJ0 : MJ w1 w4.heap.size ss [] [] (.slice (some ⟨g4, 0, none⟩) n c4) (.slice none 0 0) (.slice none 0 0) (w4.alloc (.cells #[.slice (some ⟨g4, 0, none⟩) n c4, .slice none 0 0, .slice none 0 0] 84)) :=
    ⟨Blk.new _ _ _, by rw [HN.out]; exact hown4.alloc _, World.ownsRow_nil _ _ _ _, World.ownsRow_nil _ _ _ _, andAlloc (below_grown (Nat.le_refl _) (Below.refl _ _) hg4 (by intro q hq; cases hq)) _, hg4.size⟩
  have HJ0 := Lib.hid hJ0
  clear hJ0 hown4 hg4 HSC HC
  generalize w4.alloc (.cells #[.slice (some ⟨g4, 0, none⟩) n c4, .slice none 0 0, .slice none 0 0] 84) = W5 at *
  generalize w4.heap.size = gs at *
  have hw1 : IntKind.i64.wrap ((n : Int) - 1) = (n : Int) - 1 := IntWalk.i64_in _ (by omega)
  go_wp2_with fail
  go_loopw [38] (fun v38 wr => ∃ (j : Nat) (vs vw vd : Value), j ≤ n - 1 ∧ v38 = .int .i64 (j : Int) ∧ MJ w1 gs (cols ((rs.map Rw.d).map cel) ss j).s (cols ((rs.map Rw.d).map cel) ss j).w (cols ((rs.map Rw.d).map cel) ss j).g vs vw vd wr) (fun v38 _ => n - (intOf v38).toNat)
  case atStart => exact ⟨0, _, _, _, by omega, rfl, HJ0.out⟩
  case round =>
    obtain ⟨j, vs, vw, vd, hj, rfl, hJ⟩ := hrel
    by_cases hlt : j < n - 1
    · have hjn : (j : Int) < (n : Int) - 1 := by omega
      have HJ := Lib.hid hJ
      obtain ⟨W0, rfl⟩ : ∃ W, W = wr := ⟨_, rfl⟩
      have hL0 := andThen HB1.out hJ.low
      clear hJ
      have HL0 := Lib.hid hL0
      clear hL0
      go_wp2_with fail
      go_loopw [10, 11, 43] (fun v10 v11 v43 wr => ∃ (i : Nat) (mm : Option Int), i ≤ m ∧ v43 = .int .i64 (i : Int) ∧ v10 = .int .i64 (mm.getD 0) ∧ v11 = .bool mm.isSome ∧ colM (cols ((rs.map Rw.d).map cel) ss j).f j none ((rs.map Rw.d).map cel) = colM (cols ((rs.map Rw.d).map cel) ss j).f j mm (((rs.map Rw.d).map cel).drop i) ∧ Below W0.heap.size W0 wr) (fun _ _ v43 _ => m - (intOf v43).toNat)
      case atStart => exact ⟨0, none, by omega, rfl, rfl, rfl, rfl, Below.refl _ _⟩
      case round =>
        obtain ⟨i, mm, hi, rfl, rfl, rfl, hcm, hbw⟩ := hrel
        have HCM := Lib.hid hcm
        have HBW := Lib.hid hbw
        by_cases hlt2 : i < m
        · obtain ⟨r, hr⟩ := get_some (l := rs) (i := i) (by rw [HM.out]; exact hlt2)
          have hw := HR.out.below (andThen HL0.out hbw)
          obtain ⟨b1, off1, rfl, hb1, hc0, hc1⟩ := hw.row hr
          have HRO := Lib.hid (hw.get hr)
          have HRK := Lib.hid hr
          have hii : (i : Int) < (m : Int) := by omega
          clear hcm hbw hw hr
          obtain ⟨W1, rfl⟩ : ∃ W, W = wr := ⟨_, rfl⟩
          go_wp2_with fail
          go_step3
          go_wp2_with fail
          go_step3
          have hg0 : (W1.alloc (.cells #[.slice r.A r.cs.length r.c, .slice r.E r.ex.length r.k] 36)).cell? ⟨W1.heap.size, 0, none⟩ = some (.slice r.A r.cs.length r.c) := (Blk.new _ _ _).cell 0
          have HB2 := Lib.hid (andAlloc (Below.refl W1.heap.size W1) (.cells #[.slice r.A r.cs.length r.c, .slice r.E r.ex.length r.k] 36))
          generalize W1.alloc (.cells #[.slice r.A r.cs.length r.c, .slice r.E r.ex.length r.k] 36) = W2 at *
          go_wp2_with fail
          clear hg0
          have hrl := HRO.out.len
          have HRM := Lib.hid (show r.d ∈ rs.map Rw.d from List.mem_map.2 ⟨r, List.mem_of_getElem? HRK.out, rfl⟩)
          go_loopg [10, 11, 14, 51] r.cs.length (fun g v10 v11 v14 v51 wr => ∃ (q : Nat) (m2 : Option Int), q + g = r.cs.length ∧ v51 = .int .i64 (q : Int) ∧ v14 = .int .i64 ((pos (cel r.d) q : Nat) : Int) ∧ v10 = .int .i64 (m2.getD 0) ∧ v11 = .bool m2.isSome ∧ mx mm (ask (cols ((rs.map Rw.d).map cel) ss j).f j 0 (cel r.d)) = mx m2 (ask (cols ((rs.map Rw.d).map cel) ss j).f j (pos (cel r.d) q) ((cel r.d).drop q)) ∧ Below W1.heap.size W1 wr)
          case atStart => exact ⟨0, mm, by omega, rfl, by rw [pos_zero]; rfl, rfl, rfl, by rw [pos_zero, List.drop_zero], HB2.out⟩
          case round =>
            obtain ⟨q, m2, hqg, rfl, rfl, rfl, rfl, hask, hbq⟩ := hrel
            have HASK := Lib.hid hask
            have HBQ := Lib.hid hbq
            by_cases hlt3 : q < r.cs.length
            · obtain ⟨x, hx⟩ := get_some hlt3
              obtain ⟨hcl, hsp, hx1, hxp⟩ := cel_good HE.out HRM.out hx
              rw [HN.out] at hxp
              have hro := HRO.out.keep (Kp.below _ hbq)
              obtain ⟨b2, off2, hA2, hb2, hx0, hx2⟩ := hro.cell hx
              have HXK := Lib.hid hx
              have HCL := Lib.hid hcl
              have HSP := Lib.hid hsp
              have hqi : (q : Int) < (r.cs.length : Int) := by omega
              rw [hA2]
              obtain ⟨sp, hspn⟩ : ∃ s : Nat, x.sp = (s : Int) := ⟨x.sp.toNat, by omega⟩
              have HSN := Lib.hid hspn
              rw [hspn] at hx2 hx1 hxp
              clear hask hbq hcl hsp hx hro
              obtain ⟨Wk, rfl⟩ : ∃ W, W = wr := ⟨_, rfl⟩
              generalize hpa : pos (cel r.d) q = a at hxp HASK ⊢
              have HPA := Lib.hid hpa
              clear hpa
              have hw2 : IntKind.i64.wrap ((a : Int) + (sp : Int)) = (a : Int) + (sp : Int) := IntWalk.i64_in _ (by omega)
              have hw3 : IntKind.i64.wrap ((a : Int) + (sp : Int) - 1) = (a : Int) + (sp : Int) - 1 := IntWalk.i64_in _ (by omega)
              have HAD := Lib.hid (ask_drop (f := (cols ((rs.map Rw.d).map cel) ss j).f) (j := j) (a := a) HCL.out)
              by_cases c1 : (j : Int) < (a : Int) + (sp : Int) - 1
              · have HNX := Lib.hid (show colM (cols ((rs.map Rw.d).map cel) ss j).f j none ((rs.map Rw.d).map cel) = colM (cols ((rs.map Rw.d).map cel) ss j).f j m2 (((rs.map Rw.d).map cel).drop (i + 1)) by
                  rw [HCM.out, colM_drop (r := cel r.d) (by rw [List.getElem?_map, List.getElem?_map, HRK.out]; rfl), HASK.out, HAD.out, if_pos (by rw [HSN.out]; show j < a + (sp : Int).toNat - 1; omega), mx_right])
                go_wp2_with fail
                go_roundw
                case rel => exact ⟨i + 1, m2, by omega, by go_num, rfl, rfl, HNX.out, andAlloc (andThen HBW.out HBQ.out) _⟩
                case measure => simp [intOf]; omega
              · by_cases c2 : (a : Int) + (sp : Int) - 1 = (j : Int)
                · have HAY := Lib.hid (show ask (cols ((rs.map Rw.d).map cel) ss j).f j a ((cel r.d).drop q) = some (less (cols ((rs.map Rw.d).map cel) ss j).f a (j - a) (wd x.l).2) by
                    rw [HAD.out, if_neg (by rw [HSN.out]; show ¬ j < a + (sp : Int).toNat - 1; omega), if_pos (by rw [HSN.out]; show a + (sp : Int).toNat - 1 = j; omega)])
                  have c3 : ((a : Int) + (sp : Int) - 1 == (j : Int)) = true := by rw [beq_iff_eq]; exact c2
                  obtain ⟨ir, hir⟩ : ∃ ir, irs[i]? = some ir ∧ ir.xs = wids r.d := by
                    have h1 : (irs.map Ir.xs)[i]? = some (wids r.d) := by rw [HIR.out.2, List.getElem?_map, List.getElem?_map, HRK.out]; rfl
                    rw [List.getElem?_map] at h1
                    obtain ⟨ir, h2, h3⟩ := Option.map_eq_some_iff.1 h1
                    exact ⟨ir, h2, h3⟩
                  have hxw : ir.xs[q]? = some (wd x.l).2 := by
                    rw [hir.2]
                    show (r.d.1.map _)[q]? = _
                    rw [List.getElem?_map]
                    show Option.map _ ((r.cs.map Cl.d)[q]?) = _
                    rw [List.getElem?_map, HXK.out]
                    rfl
                  have hxl : ir.xs.length = r.cs.length := by rw [hir.2]; show ((r.cs.map Cl.d).map _).length = _; simp
                  have hil : irs.length = m := by have := congrArg List.length HIR.out.2; simpa [HM.out] using this
                  obtain ⟨b6, off6, b7, off7, rfl, hA7, hb6, hb7, hy0, hy1⟩ := HIR.out.1.get hir.1 hxw
                  have hlow := andThen (andThen HJ.out.low HBW.out) HBQ.out
                  have hy2 : Wk.cell? ⟨b6, off6 + i, none⟩ = some (.slice (some ⟨b7, off7, none⟩) r.cs.length ir.c) := (hlow.cell (p := ⟨b6, off6 + i, none⟩) hb6).trans (by rw [hy0, hA7, hxl])
                  have hy3 : Wk.cell? ⟨b7, off7 + q, none⟩ = some (.int .i64 (wd x.l).2) := (hlow.cell (p := ⟨b7, off7 + q, none⟩) hb7).trans hy1
                  have hb6' : b6 < Wk.heap.size := Nat.lt_of_lt_of_le hb6 hlow.size
                  have hb7' : b7 < Wk.heap.size := Nat.lt_of_lt_of_le hb7 hlow.size
                  have hii2 : (i : Int) < (irs.length : Int) := by omega
                  have HJ3 := Lib.hid (HJ.out.below (andAlloc (andThen HBW.out HBQ.out) (.cells #[.slice x.A x.l.length x.c, .int .i64 (sp : Int)] 38)))
                  have HL3 := Lib.hid (andAlloc (andThen HBW.out HBQ.out) (.cells #[.slice x.A x.l.length x.c, .int .i64 (sp : Int)] 38))
                  have HL3q := Lib.hid (andAlloc HBQ.out (.cells #[.slice x.A x.l.length x.c, .int .i64 (sp : Int)] 38))
                  clear hir hxw hxl hil hy0 hy1 hlow hA7
                  generalize irs.length = il at *
                  generalize hwd : (wd x.l).2 = n0 at *
                  clear hwd
                  go_upto_region 20 with fail
                  clear hy2 hy3
                  generalize Wk.alloc (.cells #[.slice x.A x.l.length x.c, .int .i64 (sp : Int)] 38) = W3 at *
                  go_wp2_with fail
                  go_loopw [18, 19] (fun v18 v19 wr => ∃ (p : Nat) (z : Int), a ≤ p ∧ p ≤ j ∧ v19 = .int .i64 (p : Int) ∧ v18 = .int .i64 z ∧ less (cols ((rs.map Rw.d).map cel) ss j).f a (j - a) n0 = less (cols ((rs.map Rw.d).map cel) ss j).f p (j - p) z ∧ Below W3.heap.size W3 wr) (fun _ v19 _ => j - (intOf v19).toNat)
                  case atStart => exact ⟨a, n0, by omega, by omega, rfl, rfl, rfl, Below.refl _ _⟩
                  case round =>
                    obtain ⟨p, z, hap, hpj, rfl, rfl, hls, hbp⟩ := hrel
                    have HLS := Lib.hid hls
                    have HBP := Lib.hid hbp
                    clear hls
                    by_cases hlt4 : p < j
                    · have hpj2 : (p : Int) < (j : Int) := by omega
                      obtain ⟨wp, hwp⟩ := get_some (l := (cols ((rs.map Rw.d).map cel) ss j).w) (i := p) (by rw [(cols_len _ ss j).1]; exact hlt4)
                      obtain ⟨gp, hgp⟩ := get_some (l := (cols ((rs.map Rw.d).map cel) ss j).s) (i := p + 1) (by rw [(cols_len _ ss j).2.2, HN.out]; omega)
                      have hj3 := HJ3.out.below HBP.out
                      obtain ⟨bw, ow, cw, hvw, hcw, hxw⟩ := hj3.getW hwp
                      obtain ⟨bs, os, cs, hvs, hcs, hxs⟩ := hj3.getS hgp
                      have hs0 : wr.cell? ⟨gs, 0, none⟩ = some (.slice (some ⟨bs, os, none⟩) n cs) := (hj3.blk.cell 0).trans (by rw [hvs, (cols_len _ ss j).2.2, HN.out]; rfl)
                      have hs1 : wr.cell? ⟨gs, 1, none⟩ = some (.slice (some ⟨bw, ow, none⟩) j cw) := (hj3.blk.cell 1).trans (by rw [hvw, (cols_len _ ss j).1]; rfl)
                      have HF := Lib.hid (show (cols ((rs.map Rw.d).map cel) ss j).f p = wrap64 (wp + gp.n) by unfold Co.f; rw [List.getD_eq_getElem?_getD, List.getD_eq_getElem?_getD, hwp, hgp]; rfl)
                      have hw5 : IntKind.i64.wrap ((p : Int) + 1) = (p : Int) + 1 := IntWalk.i64_in _ (by omega)
                      have hpn : (p : Int) + 1 < (n : Int) := by omega
                      have htn : ((p : Int) + 1).toNat = p + 1 := by omega
                      clear hwp hgp hj3 hvw hvs
                      go_upto_region 23 with fail
                      go_quiet (fail)
                      go_wp2_with fail
                      go_roundw
                      case rel =>
                        refine ⟨p + 1, wrap64 (z - wrap64 (wp + gp.n)), by omega, by omega, by go_num, rfl, ?_, below_drewN HBP.out _⟩
                        rw [HLS.out, show j - p = (j - (p + 1)) + 1 by omega, less, HF.out]
                      case measure => simp [intOf]; omega
                    · obtain rfl : p = j := by omega
                      have HLZ := Lib.hid (show less (cols ((rs.map Rw.d).map cel) ss p).f a (p - a) n0 = z by rw [HLS.out, Nat.sub_self]; rfl)
                      have HPS := Lib.hid (show pos (cel r.d) (q + 1) = p + 1 by rw [pos_succ HCL.out, HPA.out, HSN.out]; show a + (sp : Int).toNat = p + 1; omega)
                      have HNX := Lib.hid (show mx mm (ask (cols ((rs.map Rw.d).map cel) ss p).f p 0 (cel r.d)) = mx (mx m2 (some z)) (ask (cols ((rs.map Rw.d).map cel) ss p).f p (pos (cel r.d) (q + 1)) ((cel r.d).drop (q + 1))) by
                        rw [HPS.out, ask_before (by omega) (fun c hc => HSP.out c (List.mem_of_mem_drop hc)), mx_right, HASK.out, HAY.out, HLZ.out])
                      have hw6 : IntKind.i64.wrap ((p : Int) + 1) = (p : Int) + 1 := IntWalk.i64_in _ (by omega)
                      rcases m2 with _ | y
                      · go_wp2_with fail
                        rw [← hA2]
                        go_roundg (r.cs.length - (q + 1))
                        case rel => exact ⟨q + 1, some z, by omega, by go_num, by rw [HPS.out]; go_num, by go_num, by go_num, HNX.out, andThen HL3q.out HBP.out⟩
                        case measure => omega
                      · by_cases hyz : y < z
                        · have HYZ := Lib.hid hyz
                          go_wp2_with fail
                          rw [← hA2]
                          go_roundg (r.cs.length - (q + 1))
                          case rel => exact ⟨q + 1, some z, by omega, by go_num, by rw [HPS.out]; go_num, by go_num, by go_num, by rw [HNX.out]; simp only [mx]; rw [if_pos (by have := HYZ.out; omega)], andThen HL3q.out HBP.out⟩
                          case measure => omega
                        · have HYZ := Lib.hid hyz
                          go_wp2_with fail
                          rw [← hA2]
                          go_roundg (r.cs.length - (q + 1))
                          case rel => exact ⟨q + 1, some y, by omega, by go_num, by rw [HPS.out]; go_num, by go_num, by go_num, by rw [HNX.out]; simp only [mx]; rw [if_neg (by have := HYZ.out; omega)], andThen HL3q.out HBP.out⟩
                          case measure => omega
                · have c3 : ((a : Int) + (sp : Int) - 1 == (j : Int)) = false := by rw [beq_eq_false_iff_ne]; exact c2
                  have hw4 : IntKind.i64.wrap ((a : Int) + (sp : Int) - 1 + 1) = (a : Int) + (sp : Int) := (IntWalk.i64_in _ (by omega)).trans (by omega)
                  have HPS := Lib.hid (show pos (cel r.d) (q + 1) = a + sp by rw [pos_succ HCL.out, HPA.out, HSN.out]; rfl)
                  have HNX := Lib.hid (show mx mm (ask (cols ((rs.map Rw.d).map cel) ss j).f j 0 (cel r.d)) = mx m2 (ask (cols ((rs.map Rw.d).map cel) ss j).f j (pos (cel r.d) (q + 1)) ((cel r.d).drop (q + 1))) by
                    rw [HASK.out, HAD.out, if_neg (by rw [HSN.out]; show ¬ j < a + (sp : Int).toNat - 1; omega), if_neg (by rw [HSN.out]; show ¬ a + (sp : Int).toNat - 1 = j; omega), HPS.out, HSN.out]
                    rfl)
                  go_wp2_with fail
                  rw [← hA2]
                  go_roundg (r.cs.length - (q + 1))
                  case rel => exact ⟨q + 1, m2, by omega, by go_num, by rw [HPS.out]; go_num, by go_num, by go_num, HNX.out, andAlloc HBQ.out _⟩
                  case measure => omega
            · obtain rfl : q = r.cs.length := by omega
              have HNX := Lib.hid (show colM (cols ((rs.map Rw.d).map cel) ss j).f j none ((rs.map Rw.d).map cel) = colM (cols ((rs.map Rw.d).map cel) ss j).f j m2 (((rs.map Rw.d).map cel).drop (i + 1)) by
                rw [HCM.out, colM_drop (r := cel r.d) (by rw [List.getElem?_map, List.getElem?_map, HRK.out]; rfl), HASK.out, List.drop_of_length_le (by unfold cel; show ((r.cs.map Cl.d).map _).length ≤ _; simp)]
                show _ = colM _ j m2 _
                rw [show ask (cols ((rs.map Rw.d).map cel) ss j).f j (pos (cel r.d) r.cs.length) [] = none from rfl, mx_right])
              go_wp2_with fail
              try rw [Exit.noGoto_normal]
              try simp only [go_sem]
              go_wp2_with fail
              go_roundw
              case rel => exact ⟨i + 1, m2, by omega, by go_num, rfl, rfl, HNX.out, andThen HBW.out HBQ.out⟩
              case measure => simp [intOf]; omega
        · obtain rfl : i = m := by omega
          have HCE := Lib.hid (show colM (cols ((rs.map Rw.d).map cel) ss j).f j none ((rs.map Rw.d).map cel) = mm by
            rw [HCM.out, List.drop_of_length_le (by simp [HM.out])]
            rfl)
          have HJ2 := Lib.hid (HJ.out.below HBW.out)
          obtain ⟨W1, rfl⟩ : ∃ W, W = wr := ⟨_, rfl⟩
          have hls := (cols_len ((rs.map Rw.d).map cel) ss j).2.2
          have hlw := (cols_len ((rs.map Rw.d).map cel) ss j).1
          have hld := (cols_len ((rs.map Rw.d).map cel) ss j).2.1
          rw [HN.out] at hls
          obtain ⟨gk, ck, rfl, hck⟩ := HJ2.out.s0 (by omega)
          have HLN := Lib.hid (And.intro hls (And.intro hlw hld))
          have hs0 : W1.cell? ⟨gs, 0, none⟩ = some (.slice (some ⟨gk, 0, none⟩) n ck) := (HJ2.out.blk.cell 0).trans (by rw [hls]; rfl)
          have hw7 : IntKind.i64.wrap ((j : Int) + 1) = (j : Int) + 1 := IntWalk.i64_in _ (by omega)
          clear hls hlw hld hcm hbw
          rcases mm with _ | y
          · try simp only [Option.getD_none, Option.isSome_none]
            have hjn2 : (j : Int) + 1 < (n : Int) := by omega
            have htn : ((j : Int) + 1).toNat = j + 1 := by omega
            have HT := Lib.hid (show W1.there gk ((j + 1) * 5) 5 from own_here HJ2.out.os (j + 1) (by rw [HLN.out.1]; omega))
            obtain ⟨u0, k0⟩ := Option.isSome_iff_exists.1 (HT.out 0 (by decide)).1
            obtain ⟨u1, k1⟩ := Option.isSome_iff_exists.1 (HT.out 1 (by decide)).1
            obtain ⟨u2, k2⟩ := Option.isSome_iff_exists.1 (HT.out 2 (by decide)).1
            obtain ⟨u3, k3⟩ := Option.isSome_iff_exists.1 (HT.out 3 (by decide)).1
            obtain ⟨u4, k4⟩ := Option.isSome_iff_exists.1 (HT.out 4 (by decide)).1
            have f0 := (HT.out 0 (by decide)).2
            have f1 := (HT.out 1 (by decide)).2
            have f2 := (HT.out 2 (by decide)).2
            have f3 := (HT.out 3 (by decide)).2
            have f4 := (HT.out 4 (by decide)).2
            rw [Nat.add_zero] at k0 f0
            go_upto_region 31 with fail
            clear k0 k1 k2 k3 k4 f0 f1 f2 f3 f4
            have HJ4 := Lib.hid (MJ.skip (k := j + 1) (x := gz) HJ2.out (by rw [HLN.out.1]; omega))
            have HNX := Lib.hid (cols_none HCE.out)
            clear hs0
            generalize hW3 : W1.setCells gk ((j + 1) * 5) gz.vals = W3 at HJ4
            have hW3' : ((((W1.setCell ⟨gk, (j + 1) * 5, none⟩ (.int .i64 0)).setCell ⟨gk, (j + 1) * 5 + 1, none⟩ (.int .i64 0)).setCell ⟨gk, (j + 1) * 5 + 2, none⟩ (.int .i64 0)).setCell ⟨gk, (j + 1) * 5 + 3, none⟩ (.int .i64 0)).setCell ⟨gk, (j + 1) * 5 + 4, none⟩ (.int .i64 0) = W3 := hW3
            try rw [hW3']
            clear hW3 hW3'
            have hq0 : W3.cell? ⟨gs, 1, none⟩ = some vw := (HJ4.out.blk.cell 1).trans rfl
            have hq1 := HJ4.out.blk.free 1
            have hq2 := HJ4.out.blk.lt
            have hsz := HJ4.out.low.size
            have hown1 := Lib.hid (show (W3.alloc (.cells #[.int .i64 0] 3)).ownsRow w1.heap.size 3 1 vw j ((cols ((rs.map Rw.d).map cel) ss j).w.map intV) by have := HJ4.out.ow.alloc (.cells #[.int .i64 0] 3); rw [HLN.out.2.1] at this; exact this)
            go_upto_region 32 with (at_builtin; refine wpList_push2 rfl (.tmp 125) (.tmp 127) 26 rfl w1.heap.size 3 (.int .i64 0) 1 8 Try.underlying26 info_i rfl (by decide) (by decide) vw j ((cols ((rs.map Rw.d).map cel) ss j).w.map intV) rfl hown1.out (by simp; omega) ⟨W3.heap.size, 0, none⟩ 1 [.int .i64 0] rfl rfl (new_cells (Blk.new _ _ _)) (by simp [Value.oneCell']) (by omega) ?_; intro v8 W8 hown8 hg8 _; obtain ⟨A8, c8, rfl, _⟩ := SegS.own (S := fun _ => True) hown8 (fun _ _ => trivial); have hb8 := HJ4.out.bW hg8; have y1 := (hb8.cell 1).trans rfl; have y2 := hb8.free 1; have y3 := hb8.lt)
            have HJ8 := Lib.hid (MJ.pushW (x := 0) HJ4.out (by rw [HLN.out.2.1]; exact hown8) hg8)
            clear hq0 hq1 hq2 hown8 hg8 hb8 y1 y2 y3
            generalize W8.setCell ⟨gs, 1, none⟩ (.slice A8 (j + 1) c8) = W9 at *
            have hq0 : W9.cell? ⟨gs, 2, none⟩ = some vd := (HJ8.out.blk.cell 2).trans rfl
            have hq1 := HJ8.out.blk.free 2
            have hq2 := HJ8.out.blk.lt
            have hsz9 := HJ8.out.low.size
            have hown2 := Lib.hid (show (W9.alloc (.cells #[.bool true] 4)).ownsRow w1.heap.size 4 1 vd j ((cols ((rs.map Rw.d).map cel) ss j).g.map boolV) by have := HJ8.out.od.alloc (.cells #[.bool true] 4); rw [HLN.out.2.2] at this; exact this)
            go_wp2_with (at_builtin; refine wpList_push2 rfl (.tmp 135) (.tmp 138) 27 rfl w1.heap.size 4 (.bool false) 1 1 Try.underlying27 info_b rfl (by decide) (by decide) vd j ((cols ((rs.map Rw.d).map cel) ss j).g.map boolV) rfl hown2.out (by simp; omega) ⟨W9.heap.size, 0, none⟩ 1 [.bool true] rfl rfl (new_cells (Blk.new _ _ _)) (by simp [Value.oneCell']) (by omega) ?_; intro vb Wb hownb hgb _; obtain ⟨Ab, cb, rfl, _⟩ := SegS.own (S := fun _ => True) hownb (fun _ _ => trivial); have hbb := HJ8.out.bD hgb; have y1 := (hbb.cell 2).trans rfl; have y2 := hbb.free 2; have y3 := hbb.lt)
            have HJb := Lib.hid (MJ.pushD (x := true) HJ8.out (by rw [HLN.out.2.2]; exact hownb) hgb)
            clear hq0 hq1 hq2 hownb hgb hbb y1 y2 y3
            go_roundw
            case rel => exact ⟨j + 1, _, _, _, by omega, by go_num, by rw [HNX.out]; exact HJb.out⟩
            case measure => simp [intOf]; omega
          · try simp only [Option.getD_some, Option.isSome_some]
            have HNX := Lib.hid (cols_some HCE.out)
            clear hs0
            go_upto_region 31 with fail
            have hq0 : W1.cell? ⟨gs, 1, none⟩ = some vw := (HJ2.out.blk.cell 1).trans rfl
            have hq1 := HJ2.out.blk.free 1
            have hq2 := HJ2.out.blk.lt
            have hsz := HJ2.out.low.size
            have hown1 := Lib.hid (show (W1.alloc (.cells #[.int .i64 y] 3)).ownsRow w1.heap.size 3 1 vw j ((cols ((rs.map Rw.d).map cel) ss j).w.map intV) by have := HJ2.out.ow.alloc (.cells #[.int .i64 y] 3); rw [HLN.out.2.1] at this; exact this)
            go_upto_region 32 with (at_builtin; refine wpList_push2 rfl (.tmp 125) (.tmp 127) 26 rfl w1.heap.size 3 (.int .i64 0) 1 8 Try.underlying26 info_i rfl (by decide) (by decide) vw j ((cols ((rs.map Rw.d).map cel) ss j).w.map intV) rfl hown1.out (by simp; omega) ⟨W1.heap.size, 0, none⟩ 1 [.int .i64 y] rfl rfl (new_cells (Blk.new _ _ _)) (by simp [Value.oneCell']) (by omega) ?_; intro v8 W8 hown8 hg8 _; obtain ⟨A8, c8, rfl, _⟩ := SegS.own (S := fun _ => True) hown8 (fun _ _ => trivial); have hb8 := HJ2.out.bW hg8; have y1 := (hb8.cell 1).trans rfl; have y2 := hb8.free 1; have y3 := hb8.lt)
            have HJ8 := Lib.hid (MJ.pushW (x := y) HJ2.out (by rw [HLN.out.2.1]; exact hown8) hg8)
            clear hq0 hq1 hq2 hown8 hg8 hb8 y1 y2 y3
            generalize W8.setCell ⟨gs, 1, none⟩ (.slice A8 (j + 1) c8) = W9 at *
            have hq0 : W9.cell? ⟨gs, 2, none⟩ = some vd := (HJ8.out.blk.cell 2).trans rfl
            have hq1 := HJ8.out.blk.free 2
            have hq2 := HJ8.out.blk.lt
            have hsz9 := HJ8.out.low.size
            have hown2 := Lib.hid (show (W9.alloc (.cells #[.bool false] 4)).ownsRow w1.heap.size 4 1 vd j ((cols ((rs.map Rw.d).map cel) ss j).g.map boolV) by have := HJ8.out.od.alloc (.cells #[.bool false] 4); rw [HLN.out.2.2] at this; exact this)
            go_wp2_with (at_builtin; refine wpList_push2 rfl (.tmp 135) (.tmp 138) 27 rfl w1.heap.size 4 (.bool false) 1 1 Try.underlying27 info_b rfl (by decide) (by decide) vd j ((cols ((rs.map Rw.d).map cel) ss j).g.map boolV) rfl hown2.out (by simp; omega) ⟨W9.heap.size, 0, none⟩ 1 [.bool false] rfl rfl (new_cells (Blk.new _ _ _)) (by simp [Value.oneCell']) (by omega) ?_; intro vb Wb hownb hgb _; obtain ⟨Ab, cb, rfl, _⟩ := SegS.own (S := fun _ => True) hownb (fun _ _ => trivial); have hbb := HJ8.out.bD hgb; have y1 := (hbb.cell 2).trans rfl; have y2 := hbb.free 2; have y3 := hbb.lt)
            have HJb := Lib.hid (MJ.pushD (x := false) HJ8.out (by rw [HLN.out.2.2]; exact hownb) hgb)
            clear hq0 hq1 hq2 hownb hgb hbb y1 y2 y3
            go_roundw
            case rel => exact ⟨j + 1, _, _, _, by omega, by go_num, by rw [HNX.out]; exact HJb.out⟩
            case measure => simp [intOf]; omega
    · obtain rfl : j = n - 1 := by omega
      have hC : cols ((rs.map Rw.d).map cel) ss (n - 1) = mdC ss (rs.map Rw.d) := by unfold mdC; rw [HN.out]
      rw [hC] at hJ
      have hlw : (mdC ss (rs.map Rw.d)).w.length = n - 1 := by rw [← hC]; exact (cols_len _ ss _).1
      have HMD := Lib.hid (show mdE ss (rs.map Rw.d) = if (mdC ss (rs.map Rw.d)).w.all dimB = true then 0 else 20 from if_pos HE.out)
      have HJ := Lib.hid hJ
      obtain ⟨W1, rfl⟩ : ∃ W, W = wr := ⟨_, rfl⟩
      clear hJ hC
      generalize hCC : mdC ss (rs.map Rw.d) = C at HMD HJ hlw
      have HCC := Lib.hid hCC
      clear hCC
      obtain ⟨gw, cw, rfl, hcw⟩ := own_some HJ.out.ow (by omega)
      have hs1 : W1.cell? ⟨gs, 1, none⟩ = some (.slice (some ⟨gw, 0, none⟩) (n - 1) cw) := (HJ.out.blk.cell 1).trans (by rw [hlw]; rfl)
      have hcells : ∀ i x, C.w[i]? = some x → W1.cell? ⟨gw, i, none⟩ = some (.int .i64 x) := fun i x hx => by
        have hi : i < C.w.length := by
          rcases Nat.lt_or_ge i C.w.length with h | h
          · exact h
          · rw [List.getElem?_eq_none h] at hx; cases hx
        rw [HJ.out.ow.cellAt i (by omega), List.getElem?_map, hx]
        rfl
      have HCE := Lib.hid hcells
      have HLW := Lib.hid hlw
      clear hcells hlw
      go_wp2_with fail
      clear hs1
      go_loopw [148] (fun v148 wr => ∃ i : Nat, i ≤ n - 1 ∧ v148 = .int .i64 (i : Int) ∧ (C.w.take i).all dimB = true ∧ Below W1.heap.size W1 wr) (fun v148 _ => n - 1 - (intOf v148).toNat)
      case atStart => exact ⟨0, by omega, rfl, by simp, Below.refl _ _⟩
      case round =>
        obtain ⟨i, hi, rfl, hall, hbw⟩ := hrel
        have HBW := Lib.hid hbw
        clear hbw
        have HAL := Lib.hid hall
        clear hall
        by_cases hlt2 : i < n - 1
        · obtain ⟨x, hx⟩ := get_some (l := C.w) (i := i) (by rw [HLW.out]; exact hlt2)
          have hcx : wr.cell? ⟨gw, i, none⟩ = some (.int .i64 x) := (HBW.out.cell (p := ⟨gw, i, none⟩) (HJ.out.ow.lt gw rfl).2).trans (HCE.out i x hx)
          have hii : (i : Int) < ((n - 1 : Nat) : Int) := by omega
          have HX := Lib.hid hx
          clear hx
          cases hd : dimB x
          · have HD := Lib.hid hd
            have HBAD := Lib.hid (show mdE ss (rs.map Rw.d) = 20 by
              rw [HMD.out, if_neg]
              intro h
              have h1 := List.all_eq_true.1 h x (List.mem_of_getElem? HX.out)
              rw [HD.out] at h1
              cases h1)
            clear hd
            go_wp2_with (go_at_call 69; refine (dimen_al _ _).mono ?_; rintro e w' ⟨rfl, rfl⟩; rw [HD.out])
            go_returns
            exact MdOut.no HBAD.out (by decide) (andThen (andThen HB1.out HJ.out.low) HBW.out)
          · have HD := Lib.hid hd
            clear hd
            go_wp2_with (go_at_call 69; refine (dimen_al _ _).mono ?_; rintro e w' ⟨rfl, rfl⟩; rw [HD.out])
            go_roundw
            case rel => exact ⟨i + 1, by omega, by go_num, by rw [List.take_add_one, HX.out, List.all_append, HAL.out]; simp [HD.out], HBW.out⟩
            case measure => simp [intOf]; omega
        · have HG := Lib.hid (show mdE ss (rs.map Rw.d) = 0 by
            rw [HMD.out, if_pos]
            have := HAL.out
            rwa [List.take_of_length_le (by rw [HLW.out]; omega)] at this)
          go_wp2_with fail
          go_returns
          show MdOutC (mdE ss (rs.map Rw.d)) (mdC ss (rs.map Rw.d)) w _ _
          rw [HCC.out]
          exact MdOut.yes HG.out (andThen (andThen HB1.out HJ.out.low) HBW.out) HB1.out.size (HJ.out.below HBW.out)
theorem made_al (A : Option Addr) (ss : List G) (c : Nat) (B : Option Addr) (rs : List Rw) (k : Nat) (w : World) (hS : Row w A ss) (hR : RsOk w (fun _ => True) B k rs) (h63 : ss.length ≤ maxLen) :
    Calls Try.prog 35 #[.slice A ss.length c, .slice B rs.length k] w (MdOut ss (rs.map Rw.d) w) := by
  by_cases hE : ckE ss (rs.map Rw.d) = 0
  · exact made_go A ss c B rs k w hS hR h63 hE
  · exact made_bad A ss c B rs k w hS hR h63 hE
end Go.Proofs.Ytoboecenlangmaa.Al
end
section
namespace Go.Proofs.Ytoboecenlangmaa.Al
open Go.ChangeShapes Go.WideShapes Go.ChangeAt Go.RowKit
open Me Np No Pk
open Gl (G Row)
set_option linter.unusedVariables false
set_option linter.unusedSimpArgs false

section
variable {w1 wr : World} {gs : Nat} {S : List G} {W : List Int} {D : List Bool} {vs vw vd : Value}
theorem MJ.glue (h : MJ w1 gs S W D vs vw vd wr) {i : Nat} {x : G} (hi : S[i]? = some x) : ∃ b c, vs = .slice (some ⟨b, 0, none⟩) S.length c ∧ b < wr.heap.size ∧
    wr.cell? ⟨b, i * 5, none⟩ = some (.int .i64 x.n) ∧ wr.cell? ⟨b, i * 5 + 1, none⟩ = some (.int .i64 x.s) ∧ wr.cell? ⟨b, i * 5 + 2, none⟩ = some (.int .i64 x.h) ∧ wr.cell? ⟨b, i * 5 + 3, none⟩ = some (.int .i64 x.a) ∧ wr.cell? ⟨b, i * 5 + 4, none⟩ = some (.int .i64 x.b) := by
  have hl : i < S.length := (List.getElem?_eq_some_iff.1 hi).1
  obtain ⟨g, c, rfl, hc⟩ := h.s0 (by omega)
  have hlt := (h.os.lt g rfl).2
  have hfl := flat_length Gl.G.vals_len S
  have hg : ∀ (j : Nat) (u : Value), x.vals[j]? = some u → j < 5 → wr.cell? ⟨g, i * 5 + j, none⟩ = some u := fun j u hu hj => by
    rw [h.os.cellAt _ (by omega), flat_get Gl.G.vals_len S i x j hi hj]
    exact hu
  exact ⟨g, c, rfl, hlt, by simpa using hg 0 _ rfl (by decide), hg 1 _ rfl (by decide), hg 2 _ rfl (by decide), hg 3 _ rfl (by decide), hg 4 _ rfl (by decide)⟩
theorem MJ.wid (h : MJ w1 gs S W D vs vw vd wr) {i : Nat} {x : Int} (hi : W[i]? = some x) : ∃ b c, vw = .slice (some ⟨b, 0, none⟩) W.length c ∧ W.length ≤ c ∧ b < wr.heap.size ∧ wr.cell? ⟨b, i, none⟩ = some (.int .i64 x) := by
  have hl : i < W.length := (List.getElem?_eq_some_iff.1 hi).1
  obtain ⟨g, c, rfl, hc⟩ := own_some h.ow (by omega)
  refine ⟨g, c, rfl, hc, (h.ow.lt g rfl).2, ?_⟩
  rw [h.ow.cellAt i (by simpa using hl), List.getElem?_map, hi]
  rfl
end
theorem step_ex {P : Program} {ops : Array Oper} {o : Oper} {a : Act} {w w' : World} {v : Value} {K : Act → World → Prop} {Q : Exit → Act → World → Prop} {E : Prop} (hgd : o.guard = none) (h : (execOp a.eval o).run P w = .ok (.value v) w') (k : K (a.put o.dst v) w') :
    if Region.wanted o (yielded ops a.tmps) = true then Oper.wp P o a w K Q else E := by
  have hw : Region.wanted o (yielded ops a.tmps) = true := by simp [Region.wanted, hgd]
  rw [if_pos hw]
  unfold Oper.wp
  rw [h]
  exact k
section
attribute [local go_sem ↓] bldN_eq
set_option maxHeartbeats 1000000 in
set_option maxRecDepth 100000 in
theorem skip_al {w1 wr : World} {gs : Nat} {S : List G} {W : List Int} {D : List Bool} {vs vw vd : Value} (hJ : MJ w1 gs S W D vs vw vd wr) (i : Nat) (hi : i < S.length) :
    Calls Try.prog 113 #[.pointer (some ⟨gs, 0, none⟩), .int .i64 (i : Int)] wr fun e w' => e = .returned (.agg (nc (skN (S.getD i gz)))) ∧ Below wr.heap.size wr w' := by
  obtain ⟨x, hx⟩ := get_some hi
  have hg : S.getD i gz = x := by rw [List.getD_eq_getElem?_getD, hx]; rfl
  rw [hg]
  have hb1 : ∀ w, (bldN #[(0, .int .i64 7), (7, .agg #[.int .i64 x.n, .int .i64 x.s, .int .i64 x.h, .int .i64 x.a, .int .i64 x.b]), (13, .int .i64 11)]).run Try.prog w = .ok (.agg (nc (skN x))) w := fun w => by rw [← bldN_eq]; exact run_build w 54 _ _ (by kernel_rfl)
  have hblk := hJ.blk
  have hgl := hblk.lt
  obtain ⟨b, c, rfl, hbl, c0, c1, c2, c3, c4⟩ := hJ.glue hx
  have hs0 : wr.cell? ⟨gs, 0, none⟩ = some (.slice (some ⟨b, 0, none⟩) S.length c) := (hblk.cell 0).trans rfl
  have hii : (i : Int) < (S.length : Int) := by omega
  clear hJ hblk hx hg
  generalize S.length = n at *
  go_enter Try.func113, Try.ntmps113
  go_wp2_with (first | (refine wpList_alloc_node rfl rfl ?_) | (refine wpList_store_node rfl _ _ rfl _ _ _ rfl rfl _ (by repeat (first | (apply Blk.new'; first | rfl | (simp; done)) | assumption | apply Blk.alloc)) ?_))
  exact bodyPost_ret (v := .agg (nc (skN x))) (results_node rfl _ _ _ _ rfl (by repeat (first | apply NodeAt.row | (apply Blk.new'; first | rfl | (simp; done)) | (apply Blk.node; apply Blk.new'; first | rfl | (simp; done)) | assumption | apply NodeAt.alloc))) rfl ⟨rfl, (by repeat (first | (refine below_setRow ?_ _ _ ?_; rotate_left; focus (simp; done)) | exact Below.refl _ _ | refine andAlloc ?_ _))⟩
/-- A column without contents, and the skip behind it. -/
def emL (W : List Int) (S : List G) (j : Nat) : List Nd := [hN (W.getD j 0) 0 0, nz 6, skN (S.getD (j + 1) gz)]
def EmP (L : List Nd) (w : World) (e : Ending) (w' : World) : Prop := ∃ g, e = .returned (.slice (some ⟨g, 0, none⟩) 3 3) ∧ w.heap.size ≤ g ∧ Blk w' g 54 (L.flatMap ncs).toArray ∧ Below w.heap.size w w'
set_option maxHeartbeats 1000000 in
set_option maxRecDepth 100000 in
theorem empty_al {w1 wr : World} {gs : Nat} {S : List G} {W : List Int} {D : List Bool} {vs vw vd : Value} (hJ : MJ w1 gs S W D vs vw vd wr) (j : Nat) (hj : j < W.length) (hs : j + 1 < S.length) (hl : S.length ≤ 1000) :
    Calls Try.prog 114 #[.pointer (some ⟨gs, 0, none⟩), .int .i64 (j : Int)] wr (EmP (emL W S j) wr) := by
  obtain ⟨x, hx⟩ := get_some hj
  have hg : W.getD j 0 = x := by rw [List.getD_eq_getElem?_getD, hx]; rfl
  unfold emL
  rw [hg]
  have hb1 : ∀ w, (bldN #[(0, .int .i64 4), (3, .int .i64 x)]).run Try.prog w = .ok (.agg (nc (hN x 0 0))) w := fun w => by rw [← bldN_eq]; exact run_build w 54 _ _ (by kernel_rfl)
  have hb2 : ∀ w, (bldN #[(0, .int .i64 6)]).run Try.prog w = .ok (.agg (nc (nz 6))) w := fun w => by rw [← bldN_eq]; exact run_build w 54 _ _ (by kernel_rfl)
  have HSK := Lib.hid (fun (w' : World) (hb : Below wr.heap.size wr w') => skip_al (hJ.below hb) (j + 1) hs)
  have hblk := hJ.blk
  have hgl := hblk.lt
  obtain ⟨b, c, rfl, hcl, hbl, hc0⟩ := hJ.wid hx
  have hs1 : wr.cell? ⟨gs, 1, none⟩ = some (.slice (some ⟨b, 0, none⟩) W.length c) := (hblk.cell 1).trans rfl
  have hii : (j : Int) < (W.length : Int) := by omega
  have hw1 : IntKind.i64.wrap ((j : Int) + 1) = ((j + 1 : Nat) : Int) := (IntWalk.i64_in _ (by omega)).trans (by omega)
  have HCS := Lib.hid (fun (w' : World) (hb : Below wr.heap.size wr w') => show w'.cell? ⟨gs, 1, none⟩ = some (.slice (some ⟨b, 0, none⟩) W.length c) ∧ w'.cell? ⟨b, j, none⟩ = some (.int .i64 x) ∧ Below wr.heap.size wr w' from
    ⟨(hb.cell (p := ⟨gs, 1, none⟩) hgl).trans hs1, (hb.cell (p := ⟨b, j, none⟩) hbl).trans hc0, hb⟩)
  clear hJ hblk hx hg hcl hs1 hc0
  generalize W.length = n at *
  generalize S.getD (j + 1) gz = sg at *
  go_enter Try.func114, Try.ntmps114
  go_wp2_with fail
  refine wp_region_held_drew (S := fun w' => w'.cell? ⟨gs, 1, none⟩ = some (.slice (some ⟨b, 0, none⟩) n c) ∧ w'.cell? ⟨b, j, none⟩ = some (.int .i64 x) ∧ Below wr.heap.size wr w') (by kernel_rfl) (HCS.out _ (below_drewN (Below.refl _ _) 1)) (fun hH => ?_)
  refine take_lit (i := 0) (v := (.pointer (some ⟨gs, 0, none⟩))) (by kernel_rfl) (by kernel_rfl) (by kernel_rfl) (by kernel_rfl) (fun _ _ _ _ h => h) hH (fun oi hoi => ?_)
  simp only [List.getElem?_toArray, List.getElem?_cons_succ, List.getElem?_cons_zero, Option.some.injEq] at hoi
  subst hoi
  refine ⟨.inl ⟨by rfl, fun w hSw => ?_⟩, ?_⟩
  · obtain ⟨s0, s1, s2⟩ := hSw
    first | (go_simp; done) | (go_simp; with_reducible rfl)
  simp only [Act.put, List.setIfInBounds_toArray, List.set_cons_zero, List.set_cons_succ]
  refine take_lit (i := 1) (v := (.pointer (some ⟨gs, 0, none⟩))) (by kernel_rfl) (by kernel_rfl) (by kernel_rfl) (by kernel_rfl) (fun _ _ _ _ h => h) hH (fun oi hoi => ?_)
  simp only [List.getElem?_toArray, List.getElem?_cons_succ, List.getElem?_cons_zero, Option.some.injEq] at hoi
  subst hoi
  refine ⟨.inl ⟨by rfl, fun w hSw => ?_⟩, ?_⟩
  · obtain ⟨s0, s1, s2⟩ := hSw
    first | (go_simp; done) | (go_simp; with_reducible rfl)
  simp only [Act.put, List.setIfInBounds_toArray, List.set_cons_zero, List.set_cons_succ]
  refine take_lit (i := 2) (v := (.pointer (some ⟨gs, 1, none⟩))) (by kernel_rfl) (by kernel_rfl) (by kernel_rfl) (by kernel_rfl) (fun _ _ _ _ h => h) hH (fun oi hoi => ?_)
  simp only [List.getElem?_toArray, List.getElem?_cons_succ, List.getElem?_cons_zero, Option.some.injEq] at hoi
  subst hoi
  refine ⟨.inl ⟨by rfl, fun w hSw => ?_⟩, ?_⟩
  · obtain ⟨s0, s1, s2⟩ := hSw
    first | (go_simp; done) | (go_simp; with_reducible rfl)
  simp only [Act.put, List.setIfInBounds_toArray, List.set_cons_zero, List.set_cons_succ]
  refine take_lit (i := 3) (v := (.slice (some ⟨b, 0, none⟩) n c)) (by kernel_rfl) (by kernel_rfl) (by kernel_rfl) (by kernel_rfl) (fun _ _ _ _ h => h) hH (fun oi hoi => ?_)
  simp only [List.getElem?_toArray, List.getElem?_cons_succ, List.getElem?_cons_zero, Option.some.injEq] at hoi
  subst hoi
  refine ⟨.inl ⟨by rfl, fun w hSw => ?_⟩, ?_⟩
  · obtain ⟨s0, s1, s2⟩ := hSw
    first | (go_simp; done) | (go_simp; with_reducible rfl)
  simp only [Act.put, List.setIfInBounds_toArray, List.set_cons_zero, List.set_cons_succ]
  refine take_lit (i := 4) (v := (.int .i64 (j : Int))) (by kernel_rfl) (by kernel_rfl) (by kernel_rfl) (by kernel_rfl) (fun _ _ _ _ h => h) hH (fun oi hoi => ?_)
  simp only [List.getElem?_toArray, List.getElem?_cons_succ, List.getElem?_cons_zero, Option.some.injEq] at hoi
  subst hoi
  refine ⟨.inl ⟨by rfl, fun w hSw => ?_⟩, ?_⟩
  · obtain ⟨s0, s1, s2⟩ := hSw
    first | (go_simp; done) | (go_simp; with_reducible rfl)
  simp only [Act.put, List.setIfInBounds_toArray, List.set_cons_zero, List.set_cons_succ]
  refine take_lit (i := 5) (v := (.pointer (some ⟨b, j, none⟩))) (by kernel_rfl) (by kernel_rfl) (by kernel_rfl) (by kernel_rfl) (fun _ _ _ _ h => h) hH (fun oi hoi => ?_)
  simp only [List.getElem?_toArray, List.getElem?_cons_succ, List.getElem?_cons_zero, Option.some.injEq] at hoi
  subst hoi
  refine ⟨.inl ⟨by rfl, fun w hSw => ?_⟩, ?_⟩
  · obtain ⟨s0, s1, s2⟩ := hSw
    first | (go_simp; done) | (go_simp; with_reducible rfl)
  simp only [Act.put, List.setIfInBounds_toArray, List.set_cons_zero, List.set_cons_succ]
  refine take_lit (i := 6) (v := (.int .i64 x)) (by kernel_rfl) (by kernel_rfl) (by kernel_rfl) (by kernel_rfl) (fun _ _ _ _ h => h) hH (fun oi hoi => ?_)
  simp only [List.getElem?_toArray, List.getElem?_cons_succ, List.getElem?_cons_zero, Option.some.injEq] at hoi
  subst hoi
  refine ⟨.inl ⟨by rfl, fun w hSw => ?_⟩, ?_⟩
  · obtain ⟨s0, s1, s2⟩ := hSw
    first | (go_simp; done) | (go_simp; with_reducible rfl)
  simp only [Act.put, List.setIfInBounds_toArray, List.set_cons_zero, List.set_cons_succ]
  refine take_lit (i := 7) (v := (.agg (nc (hN x 0 0)))) (by kernel_rfl) (by kernel_rfl) (by kernel_rfl) (by kernel_rfl) (fun _ _ _ _ h => h) hH (fun oi hoi => ?_)
  simp only [List.getElem?_toArray, List.getElem?_cons_succ, List.getElem?_cons_zero, Option.some.injEq] at hoi
  subst hoi
  refine ⟨.inl ⟨by rfl, fun w hSw => ?_⟩, ?_⟩
  · obtain ⟨s0, s1, s2⟩ := hSw
    first | (go_simp; done) | (go_simp; with_reducible rfl)
  simp only [Act.put, List.setIfInBounds_toArray, List.set_cons_zero, List.set_cons_succ]
  refine take_lit (i := 8) (v := (.agg (nc (nz 6)))) (by kernel_rfl) (by kernel_rfl) (by kernel_rfl) (by kernel_rfl) (fun _ _ _ _ h => h) hH (fun oi hoi => ?_)
  simp only [List.getElem?_toArray, List.getElem?_cons_succ, List.getElem?_cons_zero, Option.some.injEq] at hoi
  subst hoi
  refine ⟨.inl ⟨by rfl, fun w hSw => ?_⟩, ?_⟩
  · obtain ⟨s0, s1, s2⟩ := hSw
    first | (go_simp; done) | (go_simp; with_reducible rfl)
  simp only [Act.put, List.setIfInBounds_toArray, List.set_cons_zero, List.set_cons_succ]
  refine take_lit (i := 9) (v := (.pointer (some ⟨gs, 0, none⟩))) (by kernel_rfl) (by kernel_rfl) (by kernel_rfl) (by kernel_rfl) (fun _ _ _ _ h => h) hH (fun oi hoi => ?_)
  simp only [List.getElem?_toArray, List.getElem?_cons_succ, List.getElem?_cons_zero, Option.some.injEq] at hoi
  subst hoi
  refine ⟨.inl ⟨by rfl, fun w hSw => ?_⟩, ?_⟩
  · obtain ⟨s0, s1, s2⟩ := hSw
    first | (go_simp; done) | (go_simp; with_reducible rfl)
  simp only [Act.put, List.setIfInBounds_toArray, List.set_cons_zero, List.set_cons_succ]
  refine take_lit (i := 10) (v := (.int .i64 (j : Int))) (by kernel_rfl) (by kernel_rfl) (by kernel_rfl) (by kernel_rfl) (fun _ _ _ _ h => h) hH (fun oi hoi => ?_)
  simp only [List.getElem?_toArray, List.getElem?_cons_succ, List.getElem?_cons_zero, Option.some.injEq] at hoi
  subst hoi
  refine ⟨.inl ⟨by rfl, fun w hSw => ?_⟩, ?_⟩
  · obtain ⟨s0, s1, s2⟩ := hSw
    first | (go_simp; done) | (go_simp; with_reducible rfl)
  simp only [Act.put, List.setIfInBounds_toArray, List.set_cons_zero, List.set_cons_succ]
  refine take_lit (i := 11) (v := (.int .i64 ((j + 1 : Nat) : Int))) (by kernel_rfl) (by kernel_rfl) (by kernel_rfl) (by kernel_rfl) (fun _ _ _ _ h => h) hH (fun oi hoi => ?_)
  simp only [List.getElem?_toArray, List.getElem?_cons_succ, List.getElem?_cons_zero, Option.some.injEq] at hoi
  subst hoi
  refine ⟨.inl ⟨by rfl, fun w hSw => ?_⟩, ?_⟩
  · obtain ⟨s0, s1, s2⟩ := hSw
    first | (go_simp; done) | (go_simp; with_reducible rfl)
  simp only [Act.put, List.setIfInBounds_toArray, List.set_cons_zero, List.set_cons_succ]
  refine wpAnyH_ready (rs := [12]) (by kernel_rfl) (by simp) (AllReadyH.cons rfl (fun K hK => ?_) AllReadyH.nil)
  go_simp
  go_wp2_with fail
  refine (HSK.out _ hH.2.2).mono ?_
  rintro e w4 ⟨rfl, hb4⟩
  refine hK.out _ _ (HCS.out _ (andThen hH.2.2 hb4)) (fun hH1 => ?_)
  try simp only [Act.put, List.setIfInBounds_toArray, List.set_cons_zero, List.set_cons_succ]
  clear hK K
  refine wpAnyH_ready (rs := [13]) (by kernel_rfl) (by simp) (AllReadyH.cons rfl (fun K hK => ?_) AllReadyH.nil)
  refine step_ex (o := ⟨some 18, _, _, _, _, _⟩) (v := .slice (some ⟨w4.heap.size, 0, none⟩) 3 3) (w' := w4.alloc (.cells ([hN x 0 0, nz 6, skN sg].flatMap ncs).toArray 54)) rfl (by kernel_rfl) ?_
  refine hK.out _ _ (HCS.out _ (andAlloc hH1.2.2 _)) (fun hH2 => ?_)
  try simp only [Act.put, List.setIfInBounds_toArray, List.set_cons_zero, List.set_cons_succ]
  clear hK K
  refine take_lit (i := 14) (v := (.slice (some ⟨w4.heap.size, 0, none⟩) 3 3)) (by kernel_rfl) (by kernel_rfl) (by kernel_rfl) (by kernel_rfl) (fun _ _ _ _ h => h) hH2 (fun oi hoi => ?_)
  simp only [List.getElem?_toArray, List.getElem?_cons_succ, List.getElem?_cons_zero, Option.some.injEq] at hoi
  subst hoi
  refine ⟨.inl ⟨by rfl, fun w hSw => ?_⟩, ?_⟩
  · obtain ⟨s0, s1, s2⟩ := hSw
    first | (go_simp; done) | (go_simp; with_reducible rfl)
  simp only [Act.put, List.setIfInBounds_toArray, List.set_cons_zero, List.set_cons_succ]
  refine wpAnyH_done (by kernel_rfl) ?_ _
  go_wp2_with fail
  go_ret
  exact ⟨_, rfl, hH1.2.2.size, Blk.new _ _ _, andAlloc hH1.2.2 _⟩
end
end Go.Proofs.Ytoboecenlangmaa.Al
end
section
namespace Go.Proofs.Ytoboecenlangmaa.Al
open Go.ChangeShapes Go.WideShapes Go.ChangeAt Go.RowKit
open Me Np No Pk
open Gl (G Row)
set_option linter.unusedVariables false
set_option linter.unusedSimpArgs false

theorem rpL_len (S : List G) : ∀ (ws : List Int) (a : Nat), (rpL S a (ws.map fun w => (hN w 0 0, []))).length = 3 * ws.length
  | [], a => rfl
  | w :: ws, a => by
    rw [List.map_cons, rpL, List.length_append, List.length_cons, rpL_len S ws (a + 1), wrap_len]
    simp only [List.length_nil, List.length_cons]
    omega
theorem head_len (W : List Int) (S : List G) : (headL W S).length = 3 * W.length + 1 := by
  unfold headL rowOf
  rw [List.length_cons, rpL_len]
theorem em_len (W : List Int) (S : List G) (j : Nat) : (emL W S j).length = 3 := rfl
theorem head_next {W : List Int} {S : List G} {j : Nat} (h : j < W.length) : headL (W.take (j + 1)) S = headL (W.take j) S ++ emL W S j := by
  obtain ⟨w, hw⟩ := get_some h
  have hg : W.getD j 0 = w := by rw [List.getD_eq_getElem?_getD, hw]; rfl
  rw [head_step hw]
  unfold emL
  rw [hg]
/-- What a block of nodes is to an append. -/
theorem src_blk {w : World} {g : Nat} {l : List Nd} (h : Blk w g 54 (l.flatMap ncs).toArray) (c : Nat) : Src w (some ⟨g, 0, none⟩) c l :=
  .inl ⟨g, 0, rfl, .inr h.lt, fun j u hu => by rw [Nat.zero_add, h.cell j]; simpa using hu⟩
/-- What head tells of a packed row. -/
def HdOut (R : List Nd × List Nd × Int × Int × Int) (w : World) (e : Ending) (w' : World) : Prop :=
  ∃ v, e = .returned (.tuple #[v, .int .i64 R.2.2.1, .int .i64 R.2.2.2.1, .int .i64 R.2.2.2.2]) ∧ w'.ownsRow w.heap.size 54 19 v R.1.length (R.1.flatMap ncs) ∧ Below w.heap.size w w'
def HpkAt (l : List Nd) (tw : Int) (ex : Bool) (R : List Nd × List Nd × Int × Int × Int) : Prop :=
  ∀ (A : Option Addr) (k : Nat) (w : World), l.length ≤ k → Seg w w.heap.size A (l.flatMap ncs) → Calls Try.prog 20 #[.slice A l.length k, .int .i64 tw, .bool ex] w (HOut R w)

section
attribute [local go_sem ↓] bldN_eq
set_option maxHeartbeats 4000000 in
set_option maxRecDepth 100000 in
theorem head_al {w1 w : World} {gs : Nat} {S : List G} {W : List Int} {D : List Bool} {vs vw vd : Value} (hJ : MJ w1 gs S W D vs vw vd w) (hs : S.length = W.length + 1) (hl : S.length ≤ 257) (tw : Int) (ex : Bool) (R : List Nd × List Nd × Int × Int × Int) (hR : HpkAt (headL W S) tw ex R) :
    Calls Try.prog 65 #[.pointer (some ⟨gs, 0, none⟩), .int .i64 tw, .bool ex] w (HdOut R w) := by
  have HJ := Lib.hid hJ
  have HR := Lib.hid hR
  have hsk := skip_al hJ 0 (by omega)
  obtain ⟨g0, hg0⟩ : ∃ g, S.getD 0 gz = g := ⟨_, rfl⟩
  rw [hg0] at hsk
  have HG0 := Lib.hid hg0
  have HSK := Lib.hid hsk
  have hln : W.length ≤ 256 := by omega
  have HS := Lib.hid hs
  have HL := Lib.hid hl
  clear hJ hR hl hs hsk hg0
  obtain ⟨n, hn⟩ : ∃ n, W.length = n := ⟨_, rfl⟩
  rw [hn] at hln
  have HN := Lib.hid hn
  clear hn
  go_enter Try.func65, Try.ntmps65
  go_wp2_with fail
  refine HSK.out.mono ?_
  rintro e w2 ⟨rfl, hb2⟩
  have HB2 := Lib.hid hb2
  have hj2 := HJ.out.below (andAlloc hb2 (.cells (nc (skN g0)) 54))
  have HO0 := Lib.hid (own_base (own_one w2 (skN g0)) hb2.size)
  have HB0 := Lib.hid (andAlloc hb2 (.cells (nc (skN g0)) 54))
  have hgl := hj2.blk.lt
  obtain ⟨Aw, cw, hvw, _, _, _, _⟩ := SegS.own (S := fun _ => True) hj2.ow (fun _ _ => trivial)
  rw [HN.out] at hvw
  have hs1 : (w2.alloc (.cells (nc (skN g0)) 54)).cell? ⟨gs, 1, none⟩ = some (.slice Aw n cw) := (hj2.blk.cell 1).trans (by rw [hvw]; rfl)
  clear hj2 hvw hb2
  go_wp2_with (first | (refine wpList_ex (o := ⟨some 14, _, _, _, _, _⟩) (v := .slice (some ⟨w2.heap.size, 0, none⟩) 1 1) (w' := w2.alloc (.cells (nc (skN g0)) 54)) rfl (by kernel_rfl) ?_))
  clear hs1 hgl
  obtain ⟨W0, hW0⟩ : ∃ W0, w2.alloc (.cells (nc (skN g0)) 54) = W0 := ⟨_, rfl⟩
  rw [hW0] at HO0 HB0 ⊢
  clear hW0
  go_loopw [10, 20] (fun v10 v20 wr => ∃ j : Nat, j ≤ n ∧ v20 = .int .i64 (j : Int) ∧ wr.ownsRow w.heap.size 54 19 v10 (3 * j + 1) ((headL (W.take j) S).flatMap ncs) ∧ Below w.heap.size w wr) (fun _ v20 _ => n - (intOf v20).toNat)
  case atStart => exact ⟨0, by omega, rfl, by simp only [headL, rowOf, rpL, List.take_zero, List.map_nil, HG0.out]; simpa using HO0.out, HB0.out⟩
  case round =>
    obtain ⟨j, hj, rfl, hown, hb⟩ := hrel
    have HO := Lib.hid hown
    have HB := Lib.hid hb
    clear hown hb
    by_cases hlt : j < n
    · have hii : (j : Int) < (n : Int) := by omega
      have HEM := Lib.hid (empty_al (HJ.out.below HB.out) j (by rw [HN.out]; exact hlt) (by rw [HS.out, HN.out]; omega) (by have := HL.out; omega))
      have HNX := Lib.hid (head_next (S := S) (show j < W.length by rw [HN.out]; exact hlt))
      go_wp2_with fail
      refine HEM.out.mono ?_
      rintro e w3 ⟨g, rfl, hge, hbk, hb3⟩
      have HB3 := Lib.hid (andThen HB.out hb3)
      have HO3 := Lib.hid (own_below HO.out hb3)
      have HSR := Lib.hid (src_blk hbk 3)
      clear hge hbk hb3 HEM
      go_wp2_with (at_builtin; refine wpList_append_long rfl (.tmp 23) (.tmp 26) rfl w.heap.size HB3.out.size _ (3 * j + 1) _ rfl HO3.out (some ⟨g, 0, none⟩) 3 (emL W S j) rfl HSR.out (by rw [em_len]; omega) ?_; intro v4 w4 hown4 hg4)
      have HO4 := Lib.hid (show w4.ownsRow w.heap.size 54 19 v4 (3 * (j + 1) + 1) ((headL (W.take (j + 1)) S).flatMap ncs) by rw [HNX.out, List.flatMap_append]; exact hown4)
      have HB4 := Lib.hid (below_grown (Nat.le_refl _) HB3.out hg4 fun q hq => (HO3.out.lt q hq).1)
      clear hown4 hg4
      go_roundw
      case rel => exact ⟨j + 1, by omega, by go_num, HO4.out, HB4.out⟩
      case measure => simp [intOf]; omega
    · obtain rfl : j = n := by omega
      have ho := HO.out
      rw [List.take_of_length_le (by rw [HN.out]; omega)] at ho
      obtain ⟨A, c, rfl, hc, hcm, _, hseg⟩ := SegS.own (S := fun _ => True) ho (fun _ _ => trivial)
      have HH := HR.out A c wr (by rw [head_len, HN.out]; exact hc) hseg.seg
      rw [head_len, HN.out] at HH
      have HH := Lib.hid HH
      clear ho hseg
      go_wp2_with fail
      refine HH.out.mono ?_
      rintro e w3 ⟨v, u, rfl, hoo, hb3⟩
      have HO3 := Lib.hid (own_base hoo.one HB.out.size)
      have HB3 := Lib.hid (andThen HB.out hb3)
      clear hoo hb3 HH
      go_wp2_with fail
      go_returns
      exact ⟨_, rfl, HO3.out, HB3.out⟩
end
end Go.Proofs.Ytoboecenlangmaa.Al
end
section
namespace Go.Proofs.Ytoboecenlangmaa.Al
open Go.ChangeShapes Go.WideShapes Go.ChangeAt Go.RowKit
open Me Np No Pk
open Gl (G Row)
set_option linter.unusedVariables false
set_option linter.unusedSimpArgs false

/-- Extent of any list. -/
theorem ext_case (l : List Nd) : ∃ h d e : Int, (e = 0 → chk l = 0) ∧ ∀ (A : Option Addr) (c : Nat) (w : World), l.length ≤ c → l.length ≤ 9223372036854775806 → Seg w w.heap.size A (l.flatMap ncs) →
    Calls Try.prog 44 #[.slice A l.length c, .bool false] w fun e' w' => e' = .returned (.tuple #[.int .i64 h, .int .i64 d, .int .i64 e]) ∧ Below w.heap.size w w' := by
  by_cases hc : chk l = 0
  · obtain ⟨xs, hx⟩ := its_of_chk hc
    have h := fun A c w hk hs => extent_good A l c xs false w hc hk hs hx
    unfold extV at h
    exact ⟨_, _, _, fun _ => hc, fun A c w hk _ hs => h A c w hk hs⟩
  · exact ⟨0, 0, chk l, id, fun A c w _ hl hs => extent_bad A l c false w hl hs hc⟩
/-- What a row comes to: m columns and what comes behind. -/
def RoP (W : List Int) (S : List G) (m : Nat) (nd : Nd) (ex : List Nd) (w : World) (e : Ending) (w' : World) : Prop :=
  ∃ v L E, e = .returned (.tuple #[v, .int .i64 E]) ∧ w'.ownsRow w.heap.size 54 19 v L.length (L.flatMap ncs) ∧ Below w.heap.size w w' ∧ (¬ E = 0 → L = []) ∧
    (E = 0 → ∃ l h d, RP W S m l ∧ chk l = 0 ∧ L = wrapL { nd with ht := h, dp := d } l ++ ex)
theorem RoP.no {W : List Int} {S : List G} {m : Nat} {nd : Nd} {ex : List Nd} {w w' : World} {E : Int} (h : ¬ E = 0) (hb : Below w.heap.size w w') : RoP W S m nd ex w (.returned (.tuple #[.slice none 0 0, .int .i64 E])) w' :=
  ⟨_, [], E, rfl, World.ownsRow_nil _ _ _ _, hb, fun _ => rfl, fun h0 => absurd h0 h⟩
theorem set_wd (n : Nd) (r : List Nd) (x : Int) : ((n :: r).flatMap ncs).set 3 (.int .i64 x) = (({ n with wd := x } : Nd) :: r).flatMap ncs := rfl
theorem wrap_wd (n : Nd) (q : List Nd) (x : Int) : ((wrapL n q).flatMap ncs).set 3 (.int .i64 x) = (wrapL { n with wd := x } q).flatMap ncs := rfl

section
attribute [local go_sem ↓] bldN_eq
set_option maxHeartbeats 2000000 in
set_option maxRecDepth 100000 in
theorem row_al {w1 w : World} {gs : Nat} {S : List G} {W : List Int} {D : List Bool} {vs vw vd : Value} (hJ : MJ w1 gs S W D vs vw vd w) (hs : S.length = W.length + 1) (hl : S.length ≤ 257)
    {ss : List G} {ds : List RD} (hE : ckE ss ds = 0) (hsl : ss.length = W.length + 1) (r : Rw) (hr : r.d ∈ ds) (hO : r.Ok w (fun _ => True)) (nd : Nd) (AP : Option Addr) (cP : Nat) (P : List Int) (hP : Seg w w.heap.size AP (P.map (Value.int .i64))) (hPl : P.length = 2 * W.length + 1) (hcP : P.length ≤ cP) :
    Calls Try.prog 66 #[.pointer (some ⟨gs, 0, none⟩), .agg #[.slice r.A r.cs.length r.c, .slice r.E r.ex.length r.k], .agg (nc nd), .slice AP P.length cP] w (RoP W S (pos (cel r.d) r.cs.length) nd r.ex w) := by
  obtain ⟨n, hn⟩ : ∃ n, W.length = n := ⟨_, rfl⟩
  rw [hn] at hs hsl hPl
  have hln : n ≤ 256 := by omega
  have hrl := hO.len
  have hrc := hO.cap
  have hel := hO.extra.len
  have HJ := Lib.hid hJ
  have HO := Lib.hid hO
  have HP := Lib.hid hP
  have HE := Lib.hid hE
  have HS := Lib.hid hs
  have HSL := Lib.hid hsl
  have HR := Lib.hid hr
  have HN := Lib.hid hn
  have HPL := Lib.hid hPl
  obtain ⟨lp, hlp⟩ : ∃ lp, P.length = lp := ⟨_, rfl⟩
  rw [hlp] at hcP ⊢
  have hlp2 : (lp : Int) = 2 * (n : Int) + 1 := by omega
  have HLP := Lib.hid (And.intro hlp hlp2)
  have hlp0 : 0 < lp := by omega
  obtain ⟨bP, oP, rfl, hbP, hPc⟩ := hP.open_ (by intro h; have h2 := congrArg List.length h; rw [List.length_map] at h2; have h3 : P.length = 0 := h2; have := HPL.out; omega)
  have HPC := Lib.hid hPc
  obtain ⟨A, hA⟩ : ∃ A, r.A = A := ⟨_, rfl⟩
  rw [hA]
  have HA := Lib.hid hA
  obtain ⟨rc, hrc'⟩ : ∃ c, r.c = c := ⟨_, rfl⟩
  rw [hrc']
  clear hJ hO hP hE hs hsl hr hn hPl hlp hlp2 hPc hA
  -- the two variables that the call makes
  obtain ⟨W0, hW0⟩ : ∃ W0, (w.alloc (.cells #[.slice A r.cs.length rc, .slice r.E r.ex.length r.k] 36)).alloc (.cells (nc nd) 54) = W0 := ⟨_, rfl⟩
  have HB0 := Lib.hid (show Below w.heap.size w W0 by rw [← hW0]; exact andAlloc (andAlloc (Below.refl _ _) _) _)
  have HK5 := Lib.hid (show Blk W0 w.heap.size 36 #[.slice A r.cs.length rc, .slice r.E r.ex.length r.k] by rw [← hW0]; exact (Blk.new _ _ _).alloc _)
  have HK6 := Lib.hid (show Blk W0 (w.heap.size + 1) 54 (nc nd) by rw [← hW0]; exact Blk.new' (by simp))
  obtain ⟨g0, hg0⟩ : ∃ g, S.getD 0 gz = g := ⟨_, rfl⟩
  have hsk := skip_al (HJ.out.below HB0.out) 0 (by rw [HS.out]; omega)
  rw [hg0] at hsk
  have HG0 := Lib.hid hg0
  have HSK := Lib.hid hsk
  clear hsk hg0
  go_enter Try.func66, Try.ntmps66
  go_upto_region 2 with (first | (go_at_call 113; refine HSK.out.mono ?_; rintro e w2 ⟨rfl, hb2⟩; have HB2 := Lib.hid (andAlloc hb2 (.cells (nc (skN g0)) 54)); have HO1 := Lib.hid (own_base (own_one w2 (skN g0)) hb2.size); clear hb2) | (refine wpList_ex (o := ⟨some 29, _, _, _, _, _⟩) (v := .slice (some ⟨w2.heap.size, 0, none⟩) 1 1) (w' := w2.alloc (.cells (nc (skN g0)) 54)) rfl (by kernel_rfl) ?_))
  clear hW0 HSK
  obtain ⟨W2, hW2⟩ : ∃ W2, w2.alloc (.cells (nc (skN g0)) 54) = W2 := ⟨_, rfl⟩
  rw [hW2] at HB2 HO1 ⊢
  clear hW2
  have hk5 := HK5.out.below HB2.out HK5.out.lt
  have hg5 : W2.cell? ⟨w.heap.size, 0, none⟩ = some (.slice A r.cs.length rc) := (hk5.cell 0).trans rfl
  have hl5 := hk5.lt
  clear hk5
  obtain ⟨nc', hnc⟩ : ∃ k, r.cs.length = k := ⟨_, rfl⟩
  rw [hnc] at hrl hrc hg5 HK5 ⊢
  have HNC := Lib.hid hnc
  clear hnc
  go_wp2_with fail
  clear hg5 hl5
  go_loopw [10, 11, 33] (fun v10 v11 v33 wr => ∃ (q a : Nat) (L : List Nd), q ≤ nc' ∧ v33 = .int .i64 (q : Int) ∧ v11 = .int .i64 (a : Int) ∧ pos (cel r.d) q = a ∧ a ≤ n ∧ wr.ownsRow W0.heap.size 54 19 v10 L.length (L.flatMap ncs) ∧ RP W S a L ∧ L.length ≤ 2005 * a + 1 ∧ Below W0.heap.size W0 wr) (fun _ _ v33 _ => nc' - (intOf v33).toNat)
  case atStart => exact ⟨0, 0, [skN g0], by omega, rfl, rfl, pos_zero _, by omega, by simpa using HO1.out, by rw [← HG0.out]; exact RP.zero W S, by simp, HB2.out⟩
  case round =>
    obtain ⟨q, a, L, hq, rfl, rfl, hpa, han, hown, hrp, hll, hb⟩ := hrel
    have HOL := Lib.hid hown
    have HRP := Lib.hid hrp
    have HB := Lib.hid hb
    have HPA := Lib.hid hpa
    have hsz := hb.size
    clear hown hrp hpa
    by_cases hlt : q < nc'
    · obtain ⟨x, hx⟩ := get_some (l := r.cs) (i := q) (by rw [HNC.out]; exact hlt)
      obtain ⟨hcl, hsp, hx1, hxp⟩ := cel_good HE.out HR.out hx
      rw [HSL.out, HPA.out] at hxp
      have hro := HO.out.keep (Kp.below _ (andThen HB0.out hb))
      obtain ⟨b2, off2, hA2, hb2, hx0, hx2⟩ := hro.cell hx
      obtain rfl : A = some ⟨b2, off2, none⟩ := HA.out.symm.trans hA2
      have HXO := Lib.hid (hro.get hx)
      have hqi : (q : Int) < (nc' : Int) := by omega
      obtain ⟨sp, hspn⟩ : ∃ s : Nat, x.sp = (s : Int) := ⟨x.sp.toNat, by omega⟩
      have HSN := Lib.hid hspn
      rw [hspn] at hx2 hx1 hxp
      have HPS := Lib.hid (show pos (cel r.d) (q + 1) = a + sp by rw [pos_succ hcl, HPA.out, HSN.out]; rfl)
      obtain ⟨e, he⟩ : ∃ e : Nat, a + sp = e + 1 := ⟨a + sp - 1, by omega⟩
      have hen : e < n := by omega
      have hae : a ≤ e := by omega
      have HEE := Lib.hid he
      obtain ⟨z, hz⟩ : ∃ z : Int, z = (a : Int) + (sp : Int) := ⟨_, rfl⟩
      have hw2 : IntKind.i64.wrap ((a : Int) + (sp : Int)) = z := by rw [hz]; exact IntWalk.i64_in _ (by omega)
      have hw3 : IntKind.i64.wrap (z - 1) = (e : Int) := (IntWalk.i64_in _ (by omega)).trans (by omega)
      clear hA2 hcl hsp hx hro hz he hxp hb
      go_upto_region 7 with fail
      clear hx0 hx2
      have HKC := Lib.hid (Blk.new wr 38 #[.slice x.A x.l.length x.c, .int .i64 (sp : Int)])
      have HB5 := Lib.hid (andAlloc HB.out (.cells #[.slice x.A x.l.length x.c, .int .i64 (sp : Int)] 38))
      have HO5 := Lib.hid (own_below HOL.out (andAlloc (Below.refl wr.heap.size wr) (.cells #[.slice x.A x.l.length x.c, .int .i64 (sp : Int)] 38)))
      have HX5 := Lib.hid (HXO.out.keep (Kp.alloc _ wr (.cells #[.slice x.A x.l.length x.c, .int .i64 (sp : Int)] 38)))
      generalize wr.heap.size = g13 at *
      generalize wr.alloc (.cells #[.slice x.A x.l.length x.c, .int .i64 (sp : Int)] 38) = W5 at *
      have hj5 := HJ.out.below (andThen HB0.out HB5.out)
      obtain ⟨we, hwe⟩ := get_some (l := W) (i := e) (by rw [HN.out]; exact hen)
      obtain ⟨wa, hwa⟩ := get_some (l := W) (i := a) (by rw [HN.out]; omega)
      obtain ⟨bw, cw, rfl, hcw, hbw, hcwe⟩ := hj5.wid hwe
      have hcwa : W5.cell? ⟨bw, a, none⟩ = some (.int .i64 wa) := by
        rw [hj5.ow.cellAt a (by rw [HN.out]; omega), List.getElem?_map, hwa]
        rfl
      have HWA := Lib.hid (show W.getD a 0 = wa by rw [List.getD_eq_getElem?_getD, hwa]; rfl)
      have hs1 : W5.cell? ⟨gs, 1, none⟩ = some (.slice (some ⟨bw, 0, none⟩) n cw) := (hj5.blk.cell 1).trans (by rw [HN.out]; rfl)
      have hgs := hj5.blk.lt
      obtain ⟨pa, hpa⟩ : ∃ k : Nat, k = 2 * a + 1 := ⟨_, rfl⟩
      obtain ⟨pe, hpe⟩ : ∃ k : Nat, k = 2 * e + 1 := ⟨_, rfl⟩
      have hll1 := HLP.out.1
      have hll2 := HLP.out.2
      obtain ⟨p0, hp0⟩ := get_some (l := P) (i := pa) (by rw [hll1]; omega)
      obtain ⟨p1, hp1⟩ := get_some (l := P) (i := pe) (by rw [hll1]; omega)
      have hBw5 := andThen HB0.out HB5.out
      have hbP5 := Nat.lt_of_lt_of_le hbP hBw5.size
      have hcp0 : W5.cell? ⟨bP, oP + pa, none⟩ = some (.int .i64 p0) := (hBw5.cell (p := ⟨bP, oP + pa, none⟩) hbP).trans (HPC.out pa _ (by rw [List.getElem?_map, hp0]; rfl))
      have hcp1 : W5.cell? ⟨bP, oP + pe, none⟩ = some (.int .i64 p1) := (hBw5.cell (p := ⟨bP, oP + pe, none⟩) hbP).trans (HPC.out pe _ (by rw [List.getElem?_map, hp1]; rfl))
      obtain ⟨za, hza⟩ : ∃ k : Int, k = 2 * (a : Int) := ⟨_, rfl⟩
      obtain ⟨ze, hze⟩ : ∃ k : Int, k = 2 * (e : Int) := ⟨_, rfl⟩
      have hw4 : IntKind.i64.wrap (2 * (a : Int)) = za := by rw [hza]; exact IntWalk.i64_in _ (by omega)
      have hw5 : IntKind.i64.wrap (2 * (e : Int)) = ze := by rw [hze]; exact IntWalk.i64_in _ (by omega)
      have hw6 : IntKind.i64.wrap (za + 1) = (pa : Int) := (IntWalk.i64_in _ (by omega)).trans (by omega)
      have hw7 : IntKind.i64.wrap (ze + 1) = (pe : Int) := (IntWalk.i64_in _ (by omega)).trans (by omega)
      obtain ⟨q1, hq1⟩ : ∃ k : Int, IntKind.i64.wrap (p1 + we) = k := ⟨_, rfl⟩
      have hq1' : wrap64 (p1 + we) = q1 := by rw [← hq1, IntKind.wrap_i64, wrap64]
      obtain ⟨t, ht⟩ : ∃ k : Int, IntKind.i64.wrap (q1 - p0) = k := ⟨_, rfl⟩
      have ht' : wrap64 (q1 - p0) = t := by rw [← ht, IntKind.wrap_i64, wrap64]
      have hpal : (pa : Int) < (lp : Int) := by omega
      have hpel : (pe : Int) < (lp : Int) := by omega
      have hei : (e : Int) < (n : Int) := by omega
      have hai : (a : Int) < (n : Int) := by omega
      have HJ5 := Lib.hid hj5
      have HAE := Lib.hid (And.intro hae hen)
      clear hll1 hll2 hp0 hp1 hwe hwa hBw5 hza hze hpa hpe hj5 hae hen hx1 hcw
      go_quiet (fail)
      clear hcp0 hcp1 hcwe hw2 hw3 hw4 hw5 hw6 hw7 hq1 hq1' hpal hpel hei hs1
      -- where the cell begins and ends
      have hcw6 := hcwa
      clear hcwa
      obtain ⟨W6, hW6, hB6⟩ : ∃ W6, W5.drewN _ = W6 ∧ Below W5.heap.size W5 W6 := ⟨_, rfl, below_drewN (Below.refl _ _) _⟩
      rw [hW6]
      clear hW6
      have HB6 := Lib.hid (andThen HB5.out hB6)
      have HO6 := Lib.hid (own_below HO5.out hB6)
      have HX6 := Lib.hid (HX5.out.keep (Kp.below _ hB6))
      have hk6 := HKC.out.below hB6 HKC.out.lt
      have hg13 : W6.cell? ⟨g13, 0, none⟩ = some (.slice x.A x.l.length x.c) := (hk6.cell 0).trans rfl
      have hl13 := hk6.lt
      have hcwa6 : W6.cell? ⟨bw, a, none⟩ = some (.int .i64 wa) := (hB6.cell (p := ⟨bw, a, none⟩) hbw).trans hcw6
      have HJ6 := Lib.hid (HJ5.out.below hB6)
      clear hk6 hB6 hcw6 HKC HO5 HX5 HJ5 HB5 HPC HXO HOL HB
      cases hd1 : dimB p0
      · have HD1 := Lib.hid hd1
        clear hd1
        go_wp2_with (go_at_call 69; refine (dimen_al _ _).mono ?_; rintro e w' ⟨rfl, rfl⟩; rw [HD1.out])
        go_returns
        exact RoP.no (by decide) (andThen HB0.out HB6.out)
      · cases hd2 : dimB q1
        · have HD1 := Lib.hid hd1
          have HD2 := Lib.hid hd2
          clear hd1 hd2
          go_wp2_with (go_at_call 69; refine (dimen_al _ _).mono ?_; rintro e w' ⟨rfl, rfl⟩; first | rw [HD1.out] | rw [HD2.out])
          go_returns
          exact RoP.no (by decide) (andThen HB0.out HB6.out)
        · cases hd3 : dimB t
          · have HD1 := Lib.hid hd1
            have HD2 := Lib.hid hd2
            have HD3 := Lib.hid hd3
            clear hd1 hd2 hd3
            go_wp2_with (go_at_call 69; refine (dimen_al _ _).mono ?_; rintro e w' ⟨rfl, rfl⟩; first | rw [HD1.out] | rw [HD2.out] | rw [HD3.out])
            go_returns
            exact RoP.no (by decide) (andThen HB0.out HB6.out)
          · have HD1 := Lib.hid hd1
            have HD2 := Lib.hid hd2
            have HD3 := Lib.hid hd3
            clear hd1 hd2 hd3
            have hxl := HX6.out.len
            have hxc := HX6.out.cap
            obtain ⟨⟨RL, RO, rb, ro, RE⟩, hR1, hR2, hG, hcall⟩ := hpk1_case x.l t true (by omega)
            have hcall := hcall x.A x.c W6 hxc HX6.out.seg.seg
            unfold HOut at hcall
            simp only at hcall hR1
            have HC := Lib.hid hcall
            have HG := Lib.hid hG
            clear hcall hG hR2
            generalize x.l.length = xl at *
            by_cases hre : RE = 0
            · have qe : (RE != 0) = false := by simp [hre]
              have HRE := Lib.hid hre
              clear hre
              go_upto_region 13 with (first | (go_at_call 69; refine (dimen_al _ _).mono ?_; rintro e w' ⟨rfl, rfl⟩; first | rw [HD1.out] | rw [HD2.out] | rw [HD3.out]) | (go_at_call 20; refine HC.out.mono ?_; rintro e w7 ⟨v7, u7, rfl, ho7, hb7⟩; have HO7 := Lib.hid ho7.one; have HB7 := Lib.hid (andThen HB6.out hb7); have HB67 := Lib.hid hb7; clear ho7 hb7))
              clear hg13 hl13 hxl hxc qe ht ht'
              obtain ⟨n0, S0, rfl, hk0, hc0⟩ : ∃ n0 S0, RL = wrapL n0 S0 ∧ n0.kind = 4 ∧ chk S0 = 0 := by
                rcases HG.out with ⟨S1, O1, x1, a1, b1, c1, d1, p1, q1, r1, s1, h1, v1, W1, F1, hS, hch, _, _, _, _, _, hR⟩ | ⟨_, _, _, _, h⟩
                · simp only [Prod.mk.injEq] at hR
                  refine ⟨_, S1, hR.1, rfl, ?_⟩
                  have := (partD_chk hch).1
                  rw [hS] at this
                  exact this
                · exact absurd HRE.out h
              have ho7 := HO7.out
              obtain ⟨gb, cb, rfl, hcb⟩ := own_some ho7 (by rw [wrap_len]; omega)
              have hl7 := HB67.out.size
              have hbw6 : bw < W6.heap.size := block_lt_of_cell hcwa6
              have hbw7 : bw < w7.heap.size := by omega
              have hgs7 : gs < w7.heap.size := by have := HJ6.out.blk.lt; omega
              have hcw7 : w7.cell? ⟨bw, a, none⟩ = some (.int .i64 wa) := (HB67.out.cell (p := ⟨bw, a, none⟩) hbw6).trans hcwa6
              have hs7 : w7.cell? ⟨gs, 1, none⟩ = some (.slice (some ⟨bw, 0, none⟩) n cw) := ((HJ6.out.below HB67.out).blk.cell 1).trans (by rw [HN.out]; rfl)
              have hgb := (ho7.lt gb rfl).2
              have hgbge := (ho7.lt gb rfl).1
              have hc3 : w7.cell? ⟨gb, 3, none⟩ = some (.int .i64 n0.wd) := (ho7.cellAt 3 (by rw [wrap_len]; omega)).trans rfl
              have hf3 := ho7.frozenAt 3
              have HO8 := Lib.hid (show (w7.setCell ⟨gb, 3, none⟩ (.int .i64 wa)).ownsRow W6.heap.size 54 19 (.slice (some ⟨gb, 0, none⟩) (wrapL n0 S0).length cb) (wrapL n0 S0).length ((wrapL { n0 with wd := wa } S0).flatMap ncs) by rw [← wrap_wd]; exact (ho7.stored 3 (.int .i64 wa)).1)
              have HB8 := Lib.hid (HB67.out.setCell (p := ⟨gb, 3, none⟩) hgbge (.int .i64 wa))
              have hwl : 0 < (wrapL n0 S0).length := by rw [wrap_len]; omega
              have HQ0 := Lib.hid (And.intro hk0 hc0)
              have hqw := wrap_len n0 S0
              clear ho7 hcwa6 hk0 hc0 HC HG HRE HO7
              generalize hql : (wrapL n0 S0).length = ql at *
              have HQL := Lib.hid hql
              clear hql
              have hwl2 : (0 : Int) < (ql : Int) := by omega
              go_upto_region 14 with fail
              clear hc3 hf3 hcw7 hs7
              generalize hW8 : w7.setCell ⟨gb, 3, none⟩ (.int .i64 wa) = W8 at *
              clear hW8
              have HJ8 := Lib.hid (HJ6.out.below HB8.out)
              have HL8 := Lib.hid (andThen HB6.out HB8.out)
              have HOL8 := Lib.hid (own_below HO6.out HB8.out)
              obtain ⟨a1, ha1⟩ : ∃ k : Nat, k = a + 1 := ⟨_, rfl⟩
              have hw8 : IntKind.i64.wrap ((a : Int) + 1) = (a1 : Int) := (IntWalk.i64_in _ (by omega)).trans (by omega)
              obtain ⟨g1, hg1⟩ : ∃ g, S.getD a1 gz = g := ⟨_, rfl⟩
              have hl8 := HL8.out.size
              have hlL : (L.length + (wrapL { n0 with wd := wa } S0).length + 1) * 160 ≤ 140737488355328 := by
                have h1 := wrap_len { n0 with wd := wa } S0
                omega
              have hql2 : (wrapL { n0 with wd := wa } S0).length = ql := by rw [wrap_len, hqw]
              have HSRC := Lib.hid (show Src W8 (some ⟨gb, 0, none⟩) cb (wrapL { n0 with wd := wa } S0) from .inl ⟨gb, 0, rfl, .inr (HO8.out.lt gb rfl).2, fun j u hu => by
                have hjl := (List.getElem?_eq_some_iff.1 hu).1
                rw [flat_length ncs_length, hql2] at hjl
                rw [Nat.zero_add, HO8.out.cellAt j hjl]
                exact hu⟩)
              have HSKA := Lib.hid (fun (w' : World) (h : Below W0.heap.size W0 w') => show Calls Try.prog 113 #[.pointer (some ⟨gs, 0, none⟩), .int .i64 (a1 : Int)] w' fun e w'' => e = .returned (.agg (nc (skN g1))) ∧ Below w'.heap.size w' w'' from by
                have := skip_al (HJ.out.below (andThen HB0.out h)) a1 (by rw [HS.out]; have := HAE.out; omega)
                rw [hg1] at this
                exact this)
              have HG1 := Lib.hid hg1
              have HA1 := Lib.hid ha1
              have HLL := Lib.hid hlL
              have HQL2 := Lib.hid hql2
              have HR1 := Lib.hid hR1
              clear hg1 ha1 hlL hql2 hqw hwl hwl2 hbw6 hbw7 hgs7 hl7 hgb hgbge hR1 HO6 HJ6
              generalize hnb : wrapL { n0 with wd := wa } S0 = NB at *
              have HNB := Lib.hid hnb
              clear hnb
              go_wp2_with (first
                | (at_builtin; refine wpList_append_long rfl (.tmp 102) (.tmp 103) rfl W0.heap.size hl8 u10 L.length _ rfl HOL8.out (some ⟨gb, 0, none⟩) cb NB (by rw [HQL2.out]; rfl) HSRC.out (by have := HLL.out; omega) ?_; intro v9 w9 hown9 hg9; have HO9 := Lib.hid hown9; have HB9 := Lib.hid (below_grown (Nat.le_refl _) HL8.out hg9 fun q hq => (HOL8.out.lt q hq).1); clear hown9 hg9)
                | (go_at_call 113; refine (HSKA.out _ HB9.out).mono ?_; rintro e' w10 ⟨rfl, hb10⟩; have HB10 := Lib.hid (andThen HB9.out hb10); have HO10 := Lib.hid (own_below HO9.out hb10); clear hb10)
                | (refine wpList_ex (o := ⟨some 109, _, _, _, _, _⟩) (v := .slice (some ⟨w10.heap.size, 0, none⟩) 1 1) (w' := w10.alloc (.cells (nc (skN g1)) 54)) rfl (by kernel_rfl) ?_)
                | (at_builtin; refine wpList_push rfl (.tmp 104) (.tmp 109) 34 rfl W0.heap.size 54 _ 19 160 Try.underlying34 node_row rfl (by decide) (by decide) _ _ _ rfl HO10.out HB10.out.size _ rfl rfl rfl rfl HLL.out ?_; intro v11 w11 hown11 hg11 hnn11; have HB11 := Lib.hid (below_grown (Nat.le_refl _) (andAlloc HB10.out _) hg11 fun q hq => (HO10.out.lt q hq).1); have HO11 := Lib.hid hown11; clear hown11 hg11 hnn11))
              have HN11 := Lib.hid (show w11.ownsRow W0.heap.size 54 19 v11 (L ++ (NB ++ [skN g1])).length ((L ++ (NB ++ [skN g1])).flatMap ncs) by
                have h1 : L.length + NB.length + 1 = (L ++ (NB ++ [skN g1])).length := by simp [Nat.add_assoc]
                have h2 : List.flatMap ncs L ++ List.flatMap ncs NB ++ (nc (skN g1)).toList = (L ++ (NB ++ [skN g1])).flatMap ncs := by
                  rw [List.flatMap_append, List.flatMap_append, List.append_assoc]
                  rfl
                rw [← h1, ← h2]
                exact HO11.out)
              have HRP1 := Lib.hid (show RP W S a1 (L ++ (NB ++ [skN g1])) by
                rw [← HNB.out, HA1.out, ← HG1.out, HA1.out]
                exact RP.box HRP.out HQ0.out.1 HWA.out.symm HQ0.out.2)
              have hl11 : (L ++ (NB ++ [skN g1])).length ≤ 2005 * a1 + 1 := by
                have := HQL2.out
                have := HR1.out
                have := HA1.out
                simp only [List.length_append, List.length_cons, List.length_nil]
                omega
              have hae1 := HAE.out
              have ha1e : a1 ≤ e + 1 := by have := HA1.out; omega
              clear HO11 HO10 HO9 HOL8 HSRC HSKA HJ8 HL8 HB10 HB9 HB8 HO8
              generalize L ++ (NB ++ [skN g1]) = L1 at *
              have hw9 : IntKind.i64.wrap ((e : Int) + 1) = ((e + 1 : Nat) : Int) := (IntWalk.i64_in _ (by omega)).trans (by omega)
              go_loopw [10, 22] (fun v10 v22 wr2 => ∃ (j : Nat) (L2 : List Nd), j ≤ e + 1 ∧ v22 = .int .i64 (j : Int) ∧ wr2.ownsRow W0.heap.size 54 19 v10 L2.length (L2.flatMap ncs) ∧ RP W S j L2 ∧ L2.length ≤ 2005 * j + 1 ∧ Below W0.heap.size W0 wr2) (fun _ v22 _ => e + 1 - (intOf v22).toNat)
              case atStart => exact ⟨a1, L1, ha1e, rfl, HN11.out, HRP1.out, hl11, HB11.out⟩
              case round =>
                obtain ⟨j, L2, hj, rfl, hown, hrp, hll2, hb⟩ := hrel
                have HB := Lib.hid hb
                have HO2 := Lib.hid hown
                have HRP2 := Lib.hid hrp
                clear hown hrp hb
                by_cases hlt2 : j ≤ e
                · have hji : (j : Int) ≤ (e : Int) := by omega
                  have HEM := Lib.hid (empty_al (HJ.out.below (andThen HB0.out HB.out)) j (by rw [HN.out]; omega) (by rw [HS.out]; omega) (by have := HS.out; omega))
                  go_wp2_with fail
                  refine HEM.out.mono ?_
                  rintro e' w12 ⟨g, rfl, hge, hbk, hb3⟩
                  have HB3 := Lib.hid (andThen HB.out hb3)
                  have HO3 := Lib.hid (own_below HO2.out hb3)
                  have HSR := Lib.hid (src_blk hbk 3)
                  clear hge hbk hb3 HEM
                  go_wp2_with (at_builtin; refine wpList_append_long rfl (.tmp 118) (.tmp 121) rfl W0.heap.size HB3.out.size _ L2.length _ rfl HO3.out (some ⟨g, 0, none⟩) 3 (emL W S j) rfl HSR.out (by rw [em_len]; omega) ?_; intro v4 w4 hown4 hg4)
                  have HO4 := Lib.hid (show w4.ownsRow W0.heap.size 54 19 v4 (L2 ++ emL W S j).length ((L2 ++ emL W S j).flatMap ncs) by rw [List.flatMap_append, List.length_append]; exact hown4)
                  have HB4 := Lib.hid (below_grown (Nat.le_refl _) HB3.out hg4 fun q hq => (HO3.out.lt q hq).1)
                  have HR4 := Lib.hid (show RP W S (j + 1) (L2 ++ emL W S j) from RP.box (n := hN (W.getD j 0) 0 0) (q := []) HRP2.out rfl rfl rfl)
                  clear hown4 hg4
                  go_roundw
                  case rel => exact ⟨j + 1, L2 ++ emL W S j, by omega, by go_num, HO4.out, HR4.out, by rw [List.length_append, em_len]; omega, HB4.out⟩
                  case measure => simp [intOf]; omega
                · obtain rfl : j = e + 1 := by omega
                  have hji : ¬ ((e + 1 : Nat) : Int) ≤ (e : Int) := by omega
                  have HPE := Lib.hid (HPS.out.trans HEE.out)
                  go_wp2_with fail
                  go_roundw
                  case rel => exact ⟨q + 1, e + 1, L2, by omega, by go_num, by go_num, HPE.out, by omega, HO2.out, HRP2.out, hll2, HB.out⟩
                  case measure => simp [intOf]; omega
            · have qe : (RE != 0) = true := by simp [hre]
              go_wp2_with (first | (go_at_call 69; refine (dimen_al _ _).mono ?_; rintro e w' ⟨rfl, rfl⟩; first | rw [HD1.out] | rw [HD2.out] | rw [HD3.out]) | (go_at_call 20; refine HC.out.mono ?_; rintro e w7 ⟨v7, u7, rfl, ho7, hb7⟩; have HO7 := Lib.hid ho7.one; have HB7 := Lib.hid (andThen HB6.out hb7); have HB67 := Lib.hid hb7; clear ho7 hb7))
              go_returns
              exact RoP.no hre (andThen HB0.out HB7.out)
    · obtain rfl : q = nc' := by omega
      obtain ⟨h, d, E, hE0, hext⟩ := ext_case L
      have ho := HOL.out
      obtain ⟨AL, cL, rfl, hcL, hmL, _, hsL⟩ := SegS.own (S := fun _ => True) ho (fun _ _ => trivial)
      have HEX := Lib.hid (hext AL cL wr hcL (by omega) hsL.seg)
      have HE0 := Lib.hid hE0
      have HPM := Lib.hid (show pos (cel r.d) r.cs.length = a by rw [HNC.out]; exact HPA.out)
      clear hext hE0 ho hsL hmL hcL
      generalize hLL : L.length = ll at *
      have HLL := Lib.hid hLL
      clear hLL hb
      by_cases hE : E = 0
      · have qe : (E != 0) = false := by simp [hE]
        have HEZ := Lib.hid hE
        go_upto_region 24 with (go_at_call 44; refine HEX.out.mono ?_; rintro e' w5 ⟨rfl, hb5⟩; have HB5 := Lib.hid (andThen HB.out hb5); have HO5 := Lib.hid (own_below HOL.out hb5); clear hb5)
        have hcL := HE0.out HEZ.out
        have hL2 := (chk_run hcL).1
        rw [HLL.out] at hL2
        have hgood := (row_good HE.out HR.out).2.2
        have hx2 : r.ex.length ≤ 2000 := (chk_run hgood).1
        have HCL := Lib.hid hcL
        clear hgood hcL HEX qe hE
        have hB6 := HB0.out.size
        have hz0 : w.heap.size + 1 < W0.heap.size := HK6.out.lt
        have hk6 := HK6.out.below HB5.out HK6.out.lt
        have hk5 := HK5.out.below HB5.out HK5.out.lt
        have hge6 : w.heap.size ≤ w.heap.size + 1 := by omega
        have hne6 : w.heap.size ≠ w.heap.size + 1 := by omega
        have HBW5 := Lib.hid (andThen HB0.out HB5.out)
        generalize w.heap.size + 1 = g6 at *
        have c4 : w5.cell? ⟨g6, 4, none⟩ = some (.int .i64 nd.ht) := (hk6.cell 4).trans rfl
        have c5 : w5.cell? ⟨g6, 5, none⟩ = some (.int .i64 nd.dp) := (hk6.cell 5).trans rfl
        have f4 := hk6.free 4
        have f5 := hk6.free 5
        have hl6 := hk6.lt
        have HK7 := Lib.hid (show Blk ((w5.setCell ⟨g6, 4, none⟩ (.int .i64 h)).setCell ⟨g6, 5, none⟩ (.int .i64 d)) g6 54 (nc { nd with ht := h, dp := d }) from (hk6.set 4 (.int .i64 h)).set 5 (.int .i64 d))
        have HK5' := Lib.hid (show Blk ((w5.setCell ⟨g6, 4, none⟩ (.int .i64 h)).setCell ⟨g6, 5, none⟩ (.int .i64 d)) w.heap.size 36 _ from (hk5.far (p := ⟨g6, 4, none⟩) hne6 (.int .i64 h)).far (p := ⟨g6, 5, none⟩) hne6 (.int .i64 d))
        have HB7 := Lib.hid ((HBW5.out.setCell (p := ⟨g6, 4, none⟩) hge6 (.int .i64 h)).setCell (p := ⟨g6, 5, none⟩) hge6 (.int .i64 d))
        have HO7 := Lib.hid (ownsRow_setCell_below (ownsRow_setCell_below HO5.out (a := ⟨g6, 4, none⟩) hz0 (.int .i64 h)) (a := ⟨g6, 5, none⟩) hz0 (.int .i64 d))
        clear hk6 hk5
        go_upto_region 25 with fail
        clear c4 c5 f4 f5 hl6
        obtain ⟨nd', hnd'⟩ : ∃ m : Nd, { nd with ht := h, dp := d } = m := ⟨_, rfl⟩
        rw [hnd'] at HK7
        have HND := Lib.hid hnd'
        clear hnd'
        generalize (w5.setCell ⟨g6, 4, none⟩ (.int .i64 h)).setCell ⟨g6, 5, none⟩ (.int .i64 d) = W6 at *
        have hn6 : NodeAt W6 g6 0 nd' := HK7.out.node
        have hrow6 : W6.cell? ⟨w.heap.size, 1, none⟩ = some (.slice r.E r.ex.length r.k) := (HK5'.out.cell 1).trans rfl
        have hrl6 := HK5'.out.lt
        have HX6 := Lib.hid (HO.out.extra.keep (Kp.below _ HB7.out))
        have HA8 := Lib.hid (andAlloc (Below.refl W6.heap.size W6) (.cells (nc nd') 54))
        have HO8 := Lib.hid (own_one W6 nd')
        have HS8 := Lib.hid (fun (w' : World) (hb : Below W6.heap.size W6 w') => Src.below (show Src W6 AL cL L from by
          obtain ⟨A', c', hv, _, _, hz, hs⟩ := SegS.own (S := fun _ => True) HO7.out (fun _ _ => trivial)
          injection hv with e1 _ e2
          subst e1 e2
          exact src_in hs.seg hz) hb)
        have hb6' : ∀ W, (bldN #[(0, .int .i64 6)]).run Try.prog W = .ok (.agg (nc (nz 6))) W := run_bldN 6
        have HEXC := Lib.hid hx2
        clear HO7
        obtain ⟨exl, hexl⟩ : ∃ k, r.ex.length = k := ⟨_, rfl⟩
        rw [hexl] at hrow6
        have HXL := Lib.hid hexl
        rw [hexl] at hel hx2 HK5 HK5'
        go_upto_region 26 with (first
          | (refine wpList_load_node rfl _ rfl _ _ rfl _ hn6 ?_)
          | (refine wpList_ex (o := ⟨some 140, _, _, _, _, _⟩) (v := .slice (some ⟨W6.heap.size, 0, none⟩) 1 1) (w' := W6.alloc (.cells (nc nd') 54)) rfl (by kernel_rfl) ?_)
          | (at_builtin; refine wpList_append_long rfl (.tmp 140) (.tmp 141) rfl W6.heap.size HA8.out.size _ 1 _ rfl HO8.out AL cL L (by rw [HLL.out]; rfl) (HS8.out _ HA8.out) (by rw [HLL.out]; omega) ?_; rw [HLL.out]; intro v9 w9 hown9 hg9; have HO9 := Lib.hid hown9; have HB9 := Lib.hid (below_grown (Nat.le_refl _) HA8.out hg9 fun q hq => (HO8.out.lt q hq).1); clear hown9 hg9)
          | (refine wpList_build_eq (o := ⟨some 143, _, _, _, _, _⟩) rfl _ _ rfl (nc (nz 6)) (by kernel_rfl) ?_)
          | (refine wpList_ex (o := ⟨some 144, _, _, _, _, _⟩) (v := .slice (some ⟨w9.heap.size, 0, none⟩) 1 1) (w' := w9.alloc (.cells (nc (nz 6)) 54)) rfl (by kernel_rfl) ?_)
          | (at_builtin; refine wpList_push rfl (.tmp 142) (.tmp 144) 34 rfl W6.heap.size 54 _ 19 160 Try.underlying34 node_row rfl (by decide) (by decide) _ _ _ rfl HO9.out HB9.out.size _ rfl rfl rfl rfl (by omega) ?_; intro v11 w11 hown11 hg11 hnn11; have HB11 := Lib.hid (below_grown (Nat.le_refl _) (andAlloc HB9.out _) hg11 fun q hq => (HO9.out.lt q hq).1); have HO11 := Lib.hid hown11; clear hown11 hg11 hnn11))
        have hr11 : w11.cell? ⟨w.heap.size, 1, none⟩ = some (.slice r.E exl r.k) := (HB11.out.cell (p := ⟨w.heap.size, 1, none⟩) hrl6).trans hrow6
        have hl11 : w.heap.size < w11.heap.size := Nat.lt_of_lt_of_le hrl6 HB11.out.size
        have HX11 := Lib.hid (HX6.out.keep (Kp.below _ HB11.out))
        have HS11 := Lib.hid (src_in HX11.out.seg.seg HX11.out.nil)
        clear hrow6 hrl6 hn6
        go_wp2_with (first
          | (at_builtin; refine wpList_append_long rfl (.tmp 146) (.tmp 148) rfl W6.heap.size HB11.out.size _ _ _ rfl HO11.out r.E r.k r.ex (by rw [HXL.out]; rfl) HS11.out (by rw [HXL.out]; omega) ?_; rw [HXL.out]; intro v12 w12 hown12 hg12; have HO12 := Lib.hid hown12; have HB12 := Lib.hid (below_grown (Nat.le_refl _) HB11.out hg12 fun q hq => (HO11.out.lt q hq).1); clear hown12 hg12))
        go_returns
        refine ⟨v12, wrapL nd' L ++ r.ex, 0, rfl, ?_, andThen HB7.out HB12.out, fun h0 => absurd rfl h0, fun _ => ⟨L, h, d, by rw [HPM.out]; exact HRP.out, HCL.out, by rw [HND.out]⟩⟩
        have h1 : 1 + ll + 1 + exl = (wrapL nd' L ++ r.ex).length := by rw [List.length_append, wrap_len, HLL.out, HXL.out]; omega
        have h2 : ncs nd' ++ L.flatMap ncs ++ (nc (nz 6)).toList ++ r.ex.flatMap ncs = (wrapL nd' L ++ r.ex).flatMap ncs := by
          rw [List.flatMap_append]
          unfold wrapL
          rw [List.flatMap_cons, List.flatMap_append]
          simp only [List.flatMap_cons, List.flatMap_nil, List.append_nil, List.append_assoc]
          rfl
        rw [← h1, ← h2]
        exact own_base HO12.out HB7.out.size
      · have qe : (E != 0) = true := by simp [hE]
        go_wp2_with (go_at_call 44; refine HEX.out.mono ?_; rintro e' w5 ⟨rfl, hb5⟩; have HB5 := Lib.hid (andThen HB.out hb5); clear hb5)
        go_returns
        exact RoP.no hE (andThen HB0.out HB5.out)
end
end Go.Proofs.Ytoboecenlangmaa.Al
end
section
namespace Go.Proofs.Ytoboecenlangmaa.Si
open Go.ChangeShapes Go.WideShapes Go.ChangeAt Go.RowKit
open Me
set_option linter.unusedVariables false
set_option linter.unusedSimpArgs false

theorem ret_b {a b : Bool} (h : a = b) : Ending.returned (.bool a) = .returned (.bool b) := by rw [h]
theorem get_some {α : Type} {l : List α} {k : Nat} (h : k < l.length) : ∃ x, l[k]? = some x := ⟨l[k], List.getElem?_eq_getElem h⟩
theorem seg_get {w : World} {B : Nat} {A : Option Addr} {xs : List Value} (h : Seg w B A xs) {k : Nat} {u : Value} (hk : xs[k]? = some u) : ∃ b off : Nat, A = some ⟨b, off, none⟩ ∧ b < B ∧ w.cell? ⟨b, off + k, none⟩ = some u := by
  obtain ⟨b, off, hA, hb, hc⟩ := h.open_ (by intro e; rw [e] at hk; simp at hk)
  exact ⟨b, off, hA, hb, hc k u hk⟩
set_option maxRecDepth 100000 in
theorem same_ints (A1 A2 : Option Addr) (l1 l2 : List Int) (c1 c2 : Nat) (w : World) (h1 : l1.length ≤ 2097152) (h2 : l2.length ≤ 2097152) (hs1 : Seg w w.heap.size A1 (l1.map (Value.int .i64))) (hs2 : Seg w w.heap.size A2 (l2.map (Value.int .i64))) :
    Calls Try.prog 16 #[.slice A1 l1.length c1, .slice A2 l2.length c2] w fun e w' => e = .returned (.bool (decide (l1 = l2))) ∧ Below w.heap.size w w' := by
  by_cases hl : (l1.length : Int) = l2.length
  · have hl' : l1.length = l2.length := by omega
    have HS := Lib.hid (And.intro hs1 hs2)
    have HL := Lib.hid hl'
    rw [← hl']
    clear hs1 hs2 hl hl'
    go_enter Try.func16, Try.ntmps16
    go_wp2_with fail
    go_loopw [5] (fun v5 wr => ∃ k nq : Nat, k ≤ l1.length ∧ v5 = .int .i64 (k : Int) ∧ l1.take k = l2.take k ∧ wr = w.drewN nq) (fun v5 _ => l1.length - (intOf v5).toNat)
    case atStart => exact ⟨0, 0, by omega, rfl, by simp, rfl⟩
    case round =>
      obtain ⟨k, nq, hk, rfl, heq, hwr⟩ := hrel
      have HWR := Lib.hid hwr
      have HEQ := Lib.hid heq
      by_cases hlt : k < l1.length
      · obtain ⟨x, hx⟩ := get_some hlt
        obtain ⟨y, hy⟩ := get_some (l := l2) (k := k) (by rw [← HL.out]; exact hlt)
        obtain ⟨b1, o1, rfl, hb1, hc1⟩ := seg_get HS.out.1 (k := k) (u := Value.int .i64 x) (by rw [List.getElem?_map, hx]; rfl)
        obtain ⟨b2, o2, rfl, hb2, hc2⟩ := seg_get HS.out.2 (k := k) (u := Value.int .i64 y) (by rw [List.getElem?_map, hy]; rfl)
        have hc1' : wr.cell? ⟨b1, o1 + k, none⟩ = some (.int .i64 x) := by rw [hwr]; exact hc1
        have hc2' : wr.cell? ⟨b2, o2 + k, none⟩ = some (.int .i64 y) := by rw [hwr]; exact hc2
        have HXY := Lib.hid (And.intro hx hy)
        have hlti : (k : Int) < (l1.length : Int) := by omega
        clear hc1 hc2 hwr heq hx hy
        by_cases hxy : x = y
        · subst hxy
          go_wp2_with fail
          go_quiet (fail)
          go_wp2_with fail
          go_roundw
          case rel =>
            refine ⟨k + 1, _, by omega, by go_num, ?_, by rw [HWR.out, World.drewN_drewN]⟩
            rw [List.take_add_one, List.take_add_one, HEQ.out, HXY.out.1, HXY.out.2]
          case measure => simp [intOf]; omega
        · have HN := Lib.hid hxy
          go_wp2_with fail
          go_quiet (fail)
          go_wp2_with fail
          go_ret
          refine ⟨?_, by rw [HWR.out, World.drewN_drewN]; exact below_drewN (Below.refl _ _) _⟩
          refine ret_b (decide_eq_false fun e => HN.out ?_).symm
          have := HXY.out.1
          rw [e, HXY.out.2] at this
          injection this with this
          exact this.symm
      · obtain rfl : k = l1.length := by omega
        go_wp2_with fail
        go_ret
        refine ⟨?_, below_drewN (Below.refl _ _) _⟩
        refine ret_b (decide_eq_true ?_).symm
        have := HEQ.out
        rw [List.take_length, HL.out, List.take_length] at this
        exact this
  · have HL := Lib.hid hl
    clear hs1 hs2
    go_enter Try.func16, Try.ntmps16
    go_wp2_with fail
    go_ret
    refine ⟨ret_b (decide_eq_false fun e => HL.out (by rw [e])).symm, Below.refl _ _⟩
end Go.Proofs.Ytoboecenlangmaa.Si
end
section
namespace Go.Proofs.Ytoboecenlangmaa.Pk
open Go.ChangeShapes Go.WideShapes Go.ChangeAt Go.RowKit
open Me Np No
set_option linter.unusedVariables false
set_option linter.unusedSimpArgs false

/-- What the first loop of Places holds: the glue so far. -/
structure InvK (l : List Nd) (W : World) (R : List Gl.G) (a : Nat) (v : Value) (wr : World) : Prop where
  rest : ∃ ys s, Stand l a ys ∧ skF l ys s = R ∧ s.length ≤ a ∧ wr.ownsRow W.heap.size 40 5 v s.length (s.flatMap Gl.G.vals)
  low : Below W.heap.size W wr
/-- What the second one holds. -/
structure InvL (l : List Nd) (f : Nat → Int) (W : World) (gx : Nat) (R : Plc) (a : Nat) (v u : Value) (wr : World) : Prop where
  rest : ∃ ys s A c, v = .slice A s.sz.length c ∧ s.sz.length ≤ c ∧ Seg W W.heap.size A (s.sz.map (Value.int .i64)) ∧ Stand l a ys ∧ plF l f ys s = R ∧ PlIn l f s ys s.out.length ∧ s.out.length ≤ a ∧ MP W gx s.x u s.out wr
theorem cells5 {W wr : World} {b o : Nat} {y : Nd} (h : NodeAt W b o y) (hl : Below W.heap.size W wr) (hb : b < W.heap.size) : wr.cell? ⟨b, o, none⟩ = some (.int .i64 y.kind) ∧ wr.cell? ⟨b, o + 7, none⟩ = some (.int .i64 y.gn) ∧ wr.cell? ⟨b, o + 8, none⟩ = some (.int .i64 y.gs) ∧ wr.cell? ⟨b, o + 9, none⟩ = some (.int .i64 y.gh) ∧ wr.cell? ⟨b, o + 10, none⟩ = some (.int .i64 y.ga) ∧ wr.cell? ⟨b, o + 11, none⟩ = some (.int .i64 y.gb) :=
  ⟨(h.below hl hb) 0 _ rfl, (h.below hl hb) 7 _ rfl, (h.below hl hb) 8 _ rfl, (h.below hl hb) 9 _ rfl, (h.below hl hb) 10 _ rfl, (h.below hl hb) 11 _ rfl⟩
set_option maxHeartbeats 4000000 in
set_option maxRecDepth 100000 in
theorem places_ok (A : Option Addr) (ns l : List Nd) (c k : Nat) (x : Nd) (xs : List Nat) (f : Nat → Int) (w : World) (hcap : ns.length ≤ c) (hl0 : ns.length ≤ 2000) (hseg : Seg w w.heap.size A (ns.flatMap ncs)) (hx : ns[k]? = some x) (h45 : x.kind = 4 ∨ x.kind = 5)
    (hI : Calls Try.prog 24 #[.slice A ns.length c, .int .i64 (k : Int)] w fun e' w' => ∃ v, e' = .returned (.tuple #[v, .int .i64 0]) ∧ w'.ownsRow w.heap.size 54 19 v l.length (l.flatMap ncs) ∧ Below w.heap.size w w')
    (hc : chk l = 0) (hxs : Its xs l 0) (hf : ∀ k, -281474976710656 ≤ f k ∧ f k ≤ 281474976710656)
    (hsz : ∀ (k : Nat) (n : Nd), l[k]? = some n → ¬ n.kind = 6 → ¬ n.kind = 11 → ∀ (A : Option Addr) (c : Nat) (w : World), l.length ≤ c → Seg w w.heap.size A (l.flatMap ncs) → Calls Try.prog 51 #[.slice A l.length c, .int .i64 (k : Int), .bool (x.kind == 5)] w fun e w' => e = .returned (.int .i64 (f k)) ∧ Below w.heap.size w w') :
    Calls Try.prog 23 #[.slice A ns.length c, .int .i64 (k : Int)] w (PlOut (plcR x l f xs).1 (plcR x l f xs).2 w) := by
  have hl := (chk_run hc).1
  have HI := Lib.hid hI
  have HF := Lib.hid hf
  have HIT := Lib.hid (fun (A : Option Addr) (c a m : Nat) (w1 : World) (hs : Seg w1 w1.heap.size A (l.flatMap ncs)) hb hm => item_ok A l c a m w1 (by omega) hs hc hb hm)
  have HST := Lib.hid (stand0 hc hxs)
  have HSL : (skF l xs []).length ≤ 2000 := by
    have h1 := skF_len l xs []
    have h2 := hxs.len
    simp only [List.length_nil] at h1
    omega
  have HSS := Lib.hid (fun (A : Option Addr) (c : Nat) (w1 : World) (hr : Gl.Row w1 A (skF l xs [])) => Gl.sizes_any A (skF l xs []) c x.sign x.order x.num x.den w1 (by unfold maxLen; omega) hr)
  obtain ⟨G, hG⟩ : ∃ G, skF l xs [] = G := ⟨_, rfl⟩
  rw [hG] at HSS HSL
  have HG := Lib.hid hG
  obtain ⟨PR, hPR⟩ : ∃ PR, plcR x l f xs = PR := ⟨_, rfl⟩
  rw [hPR]
  have HPR := Lib.hid hPR
  obtain ⟨dn, hdn⟩ : ∃ dn, (x.kind == 5) = dn := ⟨_, rfl⟩
  rw [hdn] at hsz
  have HSZ := Lib.hid hsz
  have e4 : (x.kind != 4) = dn := by
    rw [← hdn]
    rcases h45 with h | h <;> simp [h]
  have e5 : (x.kind != 5) = !dn := by
    rw [← hdn]
    rcases h45 with h | h <;> simp [h]
  obtain ⟨b0, off0, rfl, hb0, hnode⟩ := seg_node hseg hx
  have hkl : k < ns.length := (List.getElem?_eq_some_iff.1 hx).1
  clear hseg hx hc hxs hsz hI hf hG hPR h45
  generalize hlen : l.length = len at *
  have HL := Lib.hid hlen
  clear hlen
  generalize ns.length = lns at *
  cases dn
  all_goals
    simp only [Bool.not_false, Bool.not_true] at e5
    go_enter Try.func23, Try.ntmps23
    go_wp2_with fail
    refine HI.out.mono ?_
    rintro e w1 ⟨v, rfl, ho, hb1⟩
    have hnode1 := hnode.below hb1 hb0
    have ho2 := ho
    rw [← HL.out] at ho2
    obtain ⟨Ai, ci, hvi, hci, _, hsi⟩ := Seg.of_own ho2
    rw [HL.out] at hvi hci
    subst hvi
    clear ho ho2
    go_wp2_with (first | (refine wpList_load_node rfl _ rfl _ _ rfl _ (by repeat (first | apply NodeAt.row | (apply Blk.new'; first | rfl | (simp; done)) | (apply Blk.node; apply Blk.new'; first | rfl | (simp; done)) | assumption | apply NodeAt.alloc)) ?_) | (refine wpList_alloc_node rfl rfl ?_) | (refine wpList_store_node rfl _ _ rfl _ _ _ rfl rfl _ (by repeat (first | (apply Blk.new'; first | rfl | (simp; done)) | assumption | apply Blk.alloc)) ?_))
    have hW0 : Below w.heap.size w (w1.alloc (.cells (nc x) 54)) := andAlloc hb1 _
    have hBL : Blk (w1.alloc (.cells (nc x) 54)) w1.heap.size 54 (nc x) := Blk.new' rfl
    have hSG : Seg (w1.alloc (.cells (nc x) 54)) (w1.alloc (.cells (nc x) 54)).heap.size Ai (l.flatMap ncs) := Seg.belowW hsi (andAlloc (Below.refl _ _) _)
    clear hb1 hnode1 hsi
    generalize w1.alloc (.cells (nc x) 54) = W at hW0 hBL hSG ⊢
    generalize w1.heap.size = g8 at hBL ⊢
    have HW0 := Lib.hid hW0
    have HBL := Lib.hid hBL
    have HSG := Lib.hid hSG
    clear hW0 hBL hSG
    go_loopw [9, 10] (fun v9 v10 wr => ∃ a : Nat, v10 = .int .i64 (a : Int) ∧ InvK l W G a v9 wr) (fun _ v10 _ => len - (intOf v10).toNat)
    case atStart => exact ⟨0, rfl, ⟨xs, [], HST.out, HG.out, by simp, World.ownsRow_nil _ _ _ _⟩, Below.refl _ _⟩
    case round =>
      obtain ⟨a, rfl, hK⟩ := hrel
      obtain ⟨ys, s, hst, hR, h1, hO⟩ := hK.rest
      have HLOW := Lib.hid hK.low
      have hal := hst.le
      rw [HL.out] at hal
      by_cases hlt : a < len
      · obtain ⟨m, zs, y, rfl, hm, hm1, ham, hst', _, hy, h6, h11⟩ := hst.step (by rw [HL.out]; exact hl) (by rw [HL.out]; exact hlt)
        rw [HL.out] at ham
        obtain ⟨b, off, rfl, hb, hnd⟩ := seg_node HSG.out hy
        obtain ⟨c0, c7, c8, c9, c10, c11⟩ := cells5 hnd HLOW.out hb
        have HS := Lib.hid (And.intro hst' (And.intro hR hO))
        have HX := Lib.hid (And.intro hy hm)
        have HB := Lib.hid (beg_of hy h6 h11)
        have HH := Lib.hid h1
        have hal1 : (a : Int) + m ≤ len := by omega
        clear hst' hR hO hy hm hnd hK hst h1 h6 h11
        by_cases k7 : y.kind = 7
        · have e7 : (y.kind == 7) = true := by simp [k7]
          have HK := Lib.hid (skstep_yes (s := s) HX.out.1 k7)
          clear k7
          go_wp2_with (first
            | (refine wpList_ex (o := ⟨some 53, _, _, _, _, _⟩) (v := .slice (some ⟨wr.heap.size, 0, none⟩) 1 1) (w' := wr.alloc (.cells #[.int .i64 y.gn, .int .i64 y.gs, .int .i64 y.gh, .int .i64 y.ga, .int .i64 y.gb] 40)) rfl (by kernel_rfl) ?_)
            | (at_builtin; refine wpList_push rfl (.tmp 47) (.tmp 53) 22 rfl W.heap.size 40 _ 5 40 Try.underlying22 info_glue rfl (by decide) (by decide) _ _ _ rfl HS.out.2.2 HLOW.out.size #[.int .i64 y.gn, .int .i64 y.gs, .int .i64 y.gh, .int .i64 y.ga, .int .i64 y.gb] rfl rfl rfl rfl (by have := HH.out; omega) ?_; intro v3 W3 hown3 hg3 hnn3; have HO3 := Lib.hid hown3; have HL3 := Lib.hid (below_grown (Nat.le_refl _) (andAlloc HLOW.out _) hg3 (fun q hq => (HS.out.2.2.lt q hq).1)); clear hown3 hg3 hnn3)
            | (go_at_call 48; refine (HIT.out _ ci a m _ (Seg.belowW HSG.out HL3.out) HB.out HX.out.2).mono ?_; rintro e w5 ⟨rfl, hb5⟩; have HB5 := Lib.hid hb5; clear hb5))
          go_roundw
          case rel =>
            refine ⟨a + m, by go_num, ⟨zs, _, HS.out.1, HS.out.2.1, ?_, ?_⟩, andThen HL3.out HB5.out⟩
            · rw [HK.out]; have := HH.out; simp only [List.length_append, List.length_cons, List.length_nil]; omega
            · rw [HK.out]
              have h := own_below HO3.out HB5.out
              simpa [List.flatMap_append, gOf, Gl.G.vals] using h
          case measure => simp [intOf]; omega
        · have e7 : (y.kind == 7) = false := by simp [k7]
          have HK := Lib.hid (skstep_no (s := s) HX.out.1 k7)
          clear k7
          go_wp2_with (go_at_call 48; refine (HIT.out _ ci a m _ (Seg.belowW HSG.out HLOW.out) HB.out HX.out.2).mono ?_; rintro e w5 ⟨rfl, hb5⟩; have HB5 := Lib.hid hb5; clear hb5)
          go_roundw
          case rel =>
            refine ⟨a + m, by go_num, ⟨zs, _, HS.out.1, HS.out.2.1, ?_, ?_⟩, andThen HLOW.out HB5.out⟩
            · rw [HK.out]; have := HH.out; omega
            · rw [HK.out]; exact own_below HS.out.2.2 HB5.out
          case measure => simp [intOf]; omega
      · obtain rfl : a = len := by omega
        have he : ys = [] := (show Stand l l.length ys from HL.out ▸ hst).done
        subst he
        have hsG : s = G := hR
        subst hsG
        obtain ⟨AG, cG, hvG, hcG, _, hsG⟩ := Seg.of_own hO
        subst hvG
        have HRW := Lib.hid (show Gl.Row wr AG s from hsG)
        have hnx : NodeAt wr g8 0 x := (Blk.node HBL.out).below HLOW.out HBL.out.lt
        clear hst hR hO hsG h1 hK hal
        have hlw1 := HLOW.out
        have c12 : wr.cell? ⟨g8, 12, none⟩ = some (.int .i64 x.sign) := Blk.cell (HBL.out.below hlw1 HBL.out.lt) 12
        have c13 : wr.cell? ⟨g8, 13, none⟩ = some (.int .i64 x.order) := Blk.cell (HBL.out.below hlw1 HBL.out.lt) 13
        have c14 : wr.cell? ⟨g8, 14, none⟩ = some (.int .i64 x.num) := Blk.cell (HBL.out.below hlw1 HBL.out.lt) 14
        have c15 : wr.cell? ⟨g8, 15, none⟩ = some (.int .i64 x.den) := Blk.cell (HBL.out.below hlw1 HBL.out.lt) 15
        clear hlw1
        have HSZO := Lib.hid (HSS.out AG cG wr HRW.out)
        by_cases hE : Gl.szE s x.sign x.order x.num x.den = 0
        · have hpr : PR = ((plF l f xs ⟨0, Gl.szL s x.sign x.order x.num x.den, []⟩).out, 0) := by
            rw [← HPR.out]
            unfold plcR
            rw [HG.out, if_pos hE]
          have HPP := Lib.hid hpr
          have hszi := Gl.szL_in hE
          have HSI := Lib.hid hszi
          have HE := Lib.hid hE
          clear hpr hszi hE HPR
          go_wp2_with fail
          refine HSZO.out.mono ?_
          rintro e w5 ⟨hs5, hb5⟩
          rw [if_pos HE.out] at hs5
          obtain ⟨v5, rfl, own5⟩ := hs5
          have own5' := own5
          rw [← HSI.out.1] at own5'
          obtain ⟨As, cs, hvs, hcs, _, hss⟩ := Seg.of_own own5'
          subst hvs
          have HB5 := Lib.hid (andThen HLOW.out hb5)
          have HSS5 := Lib.hid hss
          clear own5 own5' hb5 hss c12 c13 c14 c15 HSZO
          generalize hZ : Gl.szL s x.sign x.order x.num x.den = Z at *
          generalize hPF : plF l f xs ⟨0, Z, []⟩ = PF at *
          have HPF := Lib.hid hPF
          clear hPF hZ hnx hnode hb0 hkl
          obtain ⟨gx, hgx⟩ : ∃ gx, w5.heap.size = gx := ⟨_, rfl⟩
          go_wp2_with fail
          go_loopw [11, 14, 15] (fun v11 v14 v15 wr2 => ∃ j : Nat, v15 = .int .i64 (j : Int) ∧ InvL l f w5 w5.heap.size PF j v11 v14 wr2) (fun _ _ v15 _ => a - (intOf v15).toNat)
          case atStart => exact ⟨0, rfl, xs, ⟨0, Z, []⟩, As, cs, rfl, hcs, HSS5.out, HST.out, HPF.out, ⟨by rw [HG.out]; exact HSI.out.1, HSI.out.2, by simp, rfl⟩, Nat.zero_le _, Blk.new' rfl, World.ownsRow_nil _ _ _ _, andAlloc (Below.refl _ _) _, Nat.le_refl _⟩
          case round =>
            obtain ⟨j, rfl, hL⟩ := hrel
            obtain ⟨ys, ⟨x2, sz2, out2⟩, A2, c2, rfl, hc2, hsg2, hst, hR, hP, hlen2, hM⟩ := hL.rest
            rw [hgx] at hM ⊢
            simp only at hc2 hsg2 hR hP hlen2 hM ⊢
            have hx0 : wr.cell? ⟨gx, 0, none⟩ = some (.int .i64 x2) := Blk.cell hM.blk 0
            have HMP := Lib.hid hM
            have hxb := hP.x
            simp only at hxb
            have hal := hst.le
            rw [HL.out] at hal
            by_cases hlt2 : j < a
            · obtain ⟨m, zs, y, rfl, hm, hm1, ham, hst', _, hy, h6, h11⟩ := hst.step (by rw [HL.out]; exact hl) (by rw [HL.out]; exact hlt2)
              rw [HL.out] at ham
              obtain ⟨b, off, rfl, hb, hnd⟩ := seg_node HSG.out hy
              have HND := Lib.hid (fun w' (h : Below w5.heap.size w5 w') => show w'.cell? ⟨b, off + j * 19, none⟩ = some (.int .i64 y.kind) from (cells5 hnd (andThen HB5.out h) hb).1)
              have HS := Lib.hid (And.intro hst' hR)
              have HX := Lib.hid (And.intro hy hm)
              have HB := Lib.hid (beg_of hy h6 h11)
              have hal1 : (j : Int) + m ≤ a := by omega
              by_cases k7 : y.kind = 7
              · have e7 : (y.kind == 7) = true := by simp [k7]
                obtain ⟨z, r, hz, hzb, hst1, hin1⟩ := hP.skip hy k7
                simp only at hz
                subst hz
                obtain ⟨b2, off2, rfl, hb2, hz2⟩ := Si.seg_get hsg2 (k := 0) (u := .int .i64 z) rfl
                have HZ2 := Lib.hid (fun w' (h : Below w5.heap.size w5 w') => show w'.cell? ⟨b2, off2, none⟩ = some (.int .i64 z) from (h.cell (p := ⟨b2, off2, none⟩) hb2).trans hz2)
                have HST1 := Lib.hid (And.intro hst1 hin1)
                have HSG2 := Lib.hid (And.intro hb2 hsg2)
                have hx1 : -2305843009213693952 ≤ x2 := by omega
                have hx3 : x2 ≤ 2305843009213693952 := by omega
                have hz1 : -2305843009213693952 ≤ z := by omega
                have hz3 : z ≤ 2305843009213693952 := by omega
                simp only [List.length_cons] at hc2 ⊢
                have HLE := Lib.hid hlen2
                clear hM hst' hR hy hm hnd hL hst hP h6 h11 k7 hz2 hst1 hin1 hsg2 hlen2 hxb hzb hb2
                go_wp2_with (first
                  | (at_builtin; refine wpList_push rfl (.tmp 82) (.tmp 84) 26 rfl (gx + 1) 3 _ 1 8 Try.underlying26 info_int rfl (by decide) (by decide) _ _ _ rfl HMP.out.own HMP.out.blk.lt #[.int .i64 x2] rfl rfl rfl rfl (by have := HLE.out; omega) ?_; intro v3 W3 hown3 hg3 hnn3; have HM3 := Lib.hid ((HMP.out.below (andAlloc (Below.refl _ _) _)).push hown3 hg3); have cy3 := HND.out _ HM3.out.low; have cz3 := HZ2.out _ HM3.out.low; clear hown3 hg3 hnn3)
                  | (go_at_call 50; refine (grow_any gx x2 z _ HM3.out.blk hx1 hx3 hz1 hz3).mono ?_; rintro e w7 ⟨rfl, hb7, hg7⟩; have HM7 := Lib.hid (HM3.out.turn hb7 hg7); clear hb7 hg7)
                  | (go_at_call 48; refine (HIT.out _ ci j m _ (Seg.belowW HSG.out (andThen HB5.out HM7.out.low)) HB.out HX.out.2).mono ?_; rintro e w8 ⟨rfl, hb8⟩; have HB8 := Lib.hid hb8; clear hb8))
                go_roundw
                case rel =>
                  refine ⟨j + m, by go_num, ⟨zs, ⟨x2 + z, r, out2 ++ [x2]⟩, if c2 = 1 then some ⟨b2, off2, none⟩ else some ⟨b2, off2 + 1, none⟩, c2 - 1, ?_, by simp only; omega, ?_, HS.out.1, ?_, ?_, ?_, ?_⟩⟩
                  · rfl
                  · simp only
                    have h := HSG2.out.2
                    split
                    · have : r = [] := List.eq_nil_of_length_eq_zero (by omega)
                      subst this
                      exact .inl rfl
                    · have h2 := Seg.drop h 1
                      simpa using h2
                  · have h := HS.out.2
                    rw [plF_cons, HST1.out.1] at h
                    exact h
                  · have h := HST1.out.2
                    rw [HST1.out.1] at h
                    simpa using h
                  · have := HLE.out
                    simp only [List.length_append, List.length_cons, List.length_nil]
                    omega
                  · exact HM7.out.below HB8.out
                case measure => simp [intOf]; omega
              · have e7 : (y.kind == 7) = false := by simp [k7]
                obtain ⟨hst1, hin1⟩ := hP.other hy k7 (HF.out j)
                have HST1 := Lib.hid (And.intro hst1 hin1)
                have hfj := HF.out j
                have hx1 : -2305843009213693952 ≤ x2 := by omega
                have hx3 : x2 ≤ 2305843009213693952 := by omega
                have hz1 : -2305843009213693952 ≤ f j := by omega
                have hz3 : f j ≤ 2305843009213693952 := by omega
                have HK6 := Lib.hid (And.intro h6 h11)
                have HLE := Lib.hid hlen2
                have HSG2 := Lib.hid hsg2
                clear hM hst' hR hy hm hnd hL hst hP h6 h11 k7 hst1 hin1 hsg2 hlen2 hxb hfj
                go_wp2_with (first
                  | (at_builtin; refine wpList_push rfl (.tmp 82) (.tmp 84) 26 rfl (gx + 1) 3 _ 1 8 Try.underlying26 info_int rfl (by decide) (by decide) _ _ _ rfl HMP.out.own HMP.out.blk.lt #[.int .i64 x2] rfl rfl rfl rfl (by have := HLE.out; omega) ?_; intro v3 W3 hown3 hg3 hnn3; have HM3 := Lib.hid ((HMP.out.below (andAlloc (Below.refl _ _) _)).push hown3 hg3); have cy3 := HND.out _ HM3.out.low; have cg3 : W3.cell? ⟨g8, 0, none⟩ = some (.int .i64 x.kind) := Blk.cell (HBL.out.below (andThen HB5.out HM3.out.low) HBL.out.lt) 0; clear hown3 hg3 hnn3)
                  | (go_at_call 51; refine (HSZ.out j y HX.out.1 HK6.out.1 HK6.out.2 _ ci _ hci (Seg.belowW HSG.out (andThen HB5.out HM3.out.low))).mono ?_; rintro e w6 ⟨rfl, hb6⟩; have HM6 := Lib.hid (HM3.out.below hb6); clear hb6)
                  | (go_at_call 50; refine (grow_any gx x2 (f j) _ HM6.out.blk hx1 hx3 hz1 hz3).mono ?_; rintro e w7 ⟨rfl, hb7, hg7⟩; have HM7 := Lib.hid (HM6.out.turn hb7 hg7); clear hb7 hg7)
                  | (go_at_call 48; refine (HIT.out _ ci j m _ (Seg.belowW HSG.out (andThen HB5.out HM7.out.low)) HB.out HX.out.2).mono ?_; rintro e w8 ⟨rfl, hb8⟩; have HB8 := Lib.hid hb8; clear hb8))
                go_roundw
                case rel =>
                  refine ⟨j + m, by go_num, ⟨zs, ⟨x2 + f j, sz2, out2 ++ [x2]⟩, A2, c2, rfl, hc2, HSG2.out, HS.out.1, ?_, ?_, ?_, ?_⟩⟩
                  · have h := HS.out.2
                    rw [plF_cons, HST1.out.1] at h
                    exact h
                  · have h := HST1.out.2
                    rw [HST1.out.1] at h
                    simpa using h
                  · have := HLE.out
                    simp only [List.length_append, List.length_cons, List.length_nil]
                    omega
                  · exact HM7.out.below HB8.out
                case measure => simp [intOf]; omega
            · obtain rfl : j = a := by omega
              have he : ys = [] := (show Stand l l.length ys from HL.out ▸ hst).done
              subst he
              have hPo : PF.out = out2 := by
                have h : (⟨x2, sz2, out2⟩ : Plc) = PF := hR
                rw [← h]
              have HPO := Lib.hid hPo
              clear hst hR hP hM hL hPo hsg2
              go_wp2_with fail
              go_ret2
              rw [HPP.out]
              refine ⟨u14, rfl, ?_, andThen HW0.out (andThen HB5.out HMP.out.low)⟩
              simp only
              rw [HPO.out]
              exact own_base HMP.out.own (by have := HMP.out.gl; have := HW0.out.size; have := HB5.out.size; omega)
        · have hpr : PR = ([], Gl.szE s x.sign x.order x.num x.den) := by
            rw [← HPR.out]
            unfold plcR
            rw [HG.out, if_neg hE]
          have HPP := Lib.hid hpr
          have HE := Lib.hid hE
          clear hpr hE HPR
          go_wp2_with fail
          refine HSZO.out.mono ?_
          rintro e w5 ⟨hs5, hb5⟩
          rw [if_neg HE.out] at hs5
          subst hs5
          clear HSZO
          generalize Gl.szE s x.sign x.order x.num x.den = E at *
          have e0 : (E != 0) = true := by simp [HE.out]
          go_wp2_with fail
          go_ret2
          rw [HPP.out]
          exact PlOut.no (andThen HW0.out (andThen HLOW.out hb5)) _
end Go.Proofs.Ytoboecenlangmaa.Pk
end
section
namespace Go.Proofs.Ytoboecenlangmaa.Al
open Go.RowKit (wrap64)

theorem ask_early {f : Nat → Int} {j : Nat} : ∀ {r : List (Int × Nat)} {a : Nat}, j < a → (∀ x ∈ r, 1 ≤ x.2) → ask f j a r = none
  | [], _, _, _ => rfl
  | c :: r, a, h, h1 => by
    have := h1 c (by simp)
    rw [ask, if_pos (by omega)]
/-- A row's cells, one by one: which columns are just as wide as one asks. -/
def jrow (f W : Nat → Int) : Nat → List (Int × Nat) → List Bool → List Bool
  | _, [], J => J
  | a, c :: r, J => jrow f W (a + c.2) r (J.set (a + c.2 - 1) (J.getD (a + c.2 - 1) false || decide (less f a (c.2 - 1) c.1 = W (a + c.2 - 1))))
def jall (f W : Nat → Int) : List (List (Int × Nat)) → List Bool → List Bool
  | [], J => J
  | r :: rs, J => jall f W rs (jrow f W 0 r J)
theorem jrow_len (f W : Nat → Int) : ∀ (r : List (Int × Nat)) (a : Nat) (J : List Bool), (jrow f W a r J).length = J.length
  | [], _, _ => rfl
  | c :: r, a, J => by rw [jrow, jrow_len f W r]; simp
theorem jall_len (f W : Nat → Int) : ∀ (rs : List (List (Int × Nat))) (J : List Bool), (jall f W rs J).length = J.length
  | [], _ => rfl
  | r :: rs, J => by rw [jall, jall_len f W rs, jrow_len]
theorem jrow_get {f W : Nat → Int} {j : Nat} : ∀ {r : List (Int × Nat)} {a : Nat} {J : List Bool} {b : Bool}, (∀ x ∈ r, 1 ≤ x.2) → J[j]? = some b → (jrow f W a r J)[j]? = some (b || decide (ask f j a r = some (W j)))
  | [], a, J, b, _, h => by simp [jrow, ask, h]
  | c :: r, a, J, b, h1, h => by
    have h2 := h1 c (by simp)
    have h3 : ∀ x ∈ r, 1 ≤ x.2 := fun x hx => h1 x (by simp [hx])
    have hj : j < J.length := by
      rcases Nat.lt_or_ge j J.length with h4 | h4
      · exact h4
      · rw [List.getElem?_eq_none h4] at h; cases h
    rw [jrow]
    rcases Nat.lt_trichotomy j (a + c.2 - 1) with h4 | h4 | h4
    · rw [jrow_get (b := b) h3 (by rw [List.getElem?_set_ne (by omega)]; exact h), ask_early (by omega) h3, ask, if_pos h4]
    · rw [jrow_get (b := b || decide (less f a (c.2 - 1) c.1 = W j)) h3 (by rw [← h4, List.getElem?_set_self hj, List.getD_eq_getElem?_getD, h]; rfl), ask_early (by omega) h3, ask, if_neg (by omega), if_pos h4.symm]
      rw [show j - a = c.2 - 1 by omega]
      simp
    · rw [jrow_get (b := b) h3 (by rw [List.getElem?_set_ne (by omega)]; exact h), ask, if_neg (by omega), if_neg (by omega)]
theorem jall_get {f W : Nat → Int} {j : Nat} : ∀ {rs : List (List (Int × Nat))} {J : List Bool} {b : Bool}, (∀ r ∈ rs, ∀ x ∈ r, 1 ≤ x.2) → J[j]? = some b → (jall f W rs J)[j]? = some (b || rs.any fun r => decide (ask f j 0 r = some (W j)))
  | [], J, b, _, h => by simp [jall, h]
  | r :: rs, J, b, h1, h => by
    rw [jall, jall_get (fun q hq => h1 q (by simp [hq])) (jrow_get (h1 r (by simp)) h)]
    simp [Bool.or_assoc]
/-- In the end just those columns are met that are not gone. -/
theorem jall_end {f W : Nat → Int} {j n : Nat} {rs : List (List (Int × Nat))} (h1 : ∀ r ∈ rs, ∀ x ∈ r, 1 ≤ x.2) (hj : j < n) (hW : W j = (colM f j none rs).getD 0) : (jall f W rs (List.replicate n false))[j]? = some (!(colM f j none rs).isNone) := by
  rw [jall_get (b := false) h1 (by simp [hj])]
  congr 1
  cases h : colM f j none rs with
  | none =>
    rw [colM_none] at h
    simp only [Bool.false_or, Option.isNone_none, Bool.not_true, List.any_eq_false, decide_eq_true_eq]
    intro r hr he
    rw [h.2 r hr] at he
    cases he
  | some x =>
    rw [h] at hW
    simp only [Bool.false_or, Option.isNone_some, Bool.not_false, List.any_eq_true, decide_eq_true_eq]
    rcases colM_is h with h2 | ⟨r, h2, h3⟩
    · cases h2
    · exact ⟨r, h2, by rw [h3, hW]; rfl⟩
/-- No cell asks for more than its last column has; that one is not gone. -/
theorem ask_le {f : Nat → Int} {rs : List (List (Int × Nat))} {r : List (Int × Nat)} {k : Nat} {c : Int × Nat} (hr : r ∈ rs) (h1 : ∀ x ∈ r, 1 ≤ x.2) (hk : r[k]? = some c) :
    ∃ x, colM f (pos r k + c.2 - 1) none rs = some x ∧ less f (pos r k) (c.2 - 1) c.1 ≤ x := by
  have h2 := ask_get (f := f) (j := pos r k + c.2 - 1) 0 h1 hk (by omega)
  rw [Nat.zero_add] at h2
  cases h : colM f (pos r k + c.2 - 1) none rs with
  | none =>
    rw [colM_none] at h
    rw [h.2 r hr] at h2
    cases h2
  | some x => exact ⟨x, rfl, (colM_ge h).2 r hr _ h2⟩
end Go.Proofs.Ytoboecenlangmaa.Al
end
section
namespace Go.Proofs.Ytoboecenlangmaa.Al
open Np
open Gl (G)
open Go.RowKit (wrap64)
set_option linter.unusedVariables false

theorem dim_bd {x : Int} (h : dimB x = true) : -1073741823 ≤ x ∧ x ≤ 1073741823 := by simpa [dimB] using h
theorem glue_dim {g : G} (h : g.ok = true) : -1073741823 ≤ g.n ∧ g.n ≤ 1073741823 := by
  unfold G.ok Gl.glueB at h
  exact (of_decide_eq_true h).1
/-- What is known of the columns. -/
structure ColsOk (ss : List G) (R : List (List (Int × Nat))) (C : Co) : Prop where
  n2 : 2 ≤ ss.length
  n257 : ss.length ≤ 257
  lw : C.w.length = ss.length - 1
  lg : C.g.length = ss.length - 1
  w : ∀ j : Nat, j < ss.length - 1 → C.w[j]? = some ((colM C.f j none R).getD 0)
  g : ∀ j : Nat, j < ss.length - 1 → C.g[j]? = some (colM C.f j none R).isNone
  wd : ∀ (j : Nat) (x : Int), C.w[j]? = some x → -1073741823 ≤ x ∧ x ≤ 1073741823
  sd : ∀ (j : Nat) (x : G), ss[j]? = some x → -1073741823 ≤ x.n ∧ x.n ≤ 1073741823
  f : ∀ (j : Nat) (x : G), ss[j + 1]? = some x → C.f j = C.w.getD j 0 + (if (colM C.f j none R).isNone = true then 0 else x.n)
theorem cols_ok {ss : List G} {ds : List RD} (h : mdE ss ds = 0) : ColsOk ss (ds.map cel) (mdC ss ds) ∧ ckE ss ds = 0 := by
  have hck : ckE ss ds = 0 := by
    unfold mdE at h
    split at h
    · assumption
    · rename_i h1
      exact absurd h h1
  have hall : (mdC ss ds).w.all dimB = true := by
    unfold mdE at h
    rw [if_pos hck] at h
    split at h
    · assumption
    · cases h
  have hb : 2 ≤ ss.length ∧ ss.length ≤ 257 ∧ ss.all G.ok = true := by
    have h1 := hck
    unfold ckE at h1
    split at h1
    · cases h1
    · split at h1
      · exact ⟨by omega, by omega, by assumption⟩
      · cases h1
  obtain ⟨l1, l2, l3⟩ := cols_len (ds.map cel) ss (ss.length - 1)
  have hwd : ∀ (j : Nat) (x : Int), (mdC ss ds).w[j]? = some x → -1073741823 ≤ x ∧ x ≤ 1073741823 := fun j x hx => dim_bd (List.all_eq_true.1 hall x (List.mem_of_getElem? hx))
  have hsd : ∀ (j : Nat) (x : G), ss[j]? = some x → -1073741823 ≤ x.n ∧ x.n ≤ 1073741823 := fun j x hx => glue_dim (List.all_eq_true.1 hb.2.2 x (List.mem_of_getElem? hx))
  refine ⟨⟨hb.1, hb.2.1, l1, l2, fun j hj => (cols_at _ ss hj).1, fun j hj => (cols_at _ ss hj).2, hwd, hsd, fun j x hx => ?_⟩, hck⟩
  have hj : j < ss.length - 1 := by
    rcases Nat.lt_or_ge (j + 1) ss.length with h1 | h1
    · omega
    · rw [List.getElem?_eq_none h1] at hx; cases hx
  have h1 := (cols_at (ds.map cel) ss hj).1
  have h2 := cols_skip (ds.map cel) ss hj hx
  have h3 := hwd j _ h1
  have h4 := hsd _ _ hx
  show wrap64 ((mdC ss ds).w.getD j 0 + ((mdC ss ds).s.getD (j + 1) gz).n) = _
  have e1 : (mdC ss ds).w.getD j 0 = (colM (mdC ss ds).f j none (ds.map cel)).getD 0 := by rw [List.getD_eq_getElem?_getD]; show ((cols (ds.map cel) ss (ss.length - 1)).w[j]?).getD 0 = _; rw [h1]; rfl
  have e2 : ((mdC ss ds).s.getD (j + 1) gz).n = if (colM (mdC ss ds).f j none (ds.map cel)).isNone = true then 0 else x.n := by
    rw [List.getD_eq_getElem?_getD]
    show (((cols (ds.map cel) ss (ss.length - 1)).s[j + 1]?).getD gz).n = _
    rw [h2]
    show (if _ then gz else x).n = _
    unfold mdC
    split <;> rfl
  rw [e1, e2]
  have h3' : -1073741823 ≤ (colM (mdC ss ds).f j none (ds.map cel)).getD 0 ∧ (colM (mdC ss ds).f j none (ds.map cel)).getD 0 ≤ 1073741823 := h3
  generalize (colM (mdC ss ds).f j none (ds.map cel)).getD 0 = y at h3' ⊢
  unfold wrap64
  split <;> omega
/-- How wide the columns a .. a + s - 1 are, with the skips between. -/
def roomV (C : Co) (a s : Nat) : Int := sumF C.f a (s - 1) + C.w.getD (a + s - 1) 0
/-- No cell asks for more; one that asks for just as much meets its column. -/
theorem room_ok {ss : List G} {R : List (List (Int × Nat))} {C : Co} (h : ColsOk ss R C) {r : List (Int × Nat)} {k : Nat} {c : Int × Nat} (hr : r ∈ R) (h1 : ∀ x ∈ r, 1 ≤ x.2) (hk : r[k]? = some c) (hp : pos r k + c.2 ≤ ss.length - 1) (hc : -1073741823 ≤ c.1 ∧ c.1 ≤ 1073741823) :
    less C.f (pos r k) (c.2 - 1) c.1 = c.1 - sumF C.f (pos r k) (c.2 - 1) ∧ c.1 ≤ roomV C (pos r k) c.2 ∧ C.g[pos r k + c.2 - 1]? = some false ∧ (decide (less C.f (pos r k) (c.2 - 1) c.1 = C.w.getD (pos r k + c.2 - 1) 0) = decide (c.1 = roomV C (pos r k) c.2)) := by
  have hs := h1 c (List.mem_of_getElem? hk)
  have h257 := h.n257
  have hF : ∀ i, pos r k ≤ i → i < pos r k + (c.2 - 1) → -4294967296 ≤ C.f i ∧ C.f i ≤ 4294967296 := fun i _ hi => by
    obtain ⟨g, hg⟩ : ∃ g, ss[i + 1]? = some g := ⟨_, List.getElem?_eq_getElem (by omega)⟩
    obtain ⟨x, hx⟩ : ∃ x, C.w[i]? = some x := ⟨_, List.getElem?_eq_getElem (by rw [h.lw]; omega)⟩
    have e := h.f i g hg
    have e1 := h.wd i x hx
    have e2 := h.sd _ g hg
    rw [List.getD_eq_getElem?_getD, hx, Option.getD_some] at e
    rw [e]
    split <;> omega
  have hl := less_sum (f := C.f) (n := c.1) (by omega) (pos r k) (c.2 - 1) (by omega) hF
  obtain ⟨x, hx, hle⟩ := ask_le (f := C.f) hr h1 hk
  have hj : pos r k + c.2 - 1 < ss.length - 1 := by omega
  have hw := h.w _ hj
  have hg := h.g _ hj
  rw [hx] at hw hg
  have hwv : C.w.getD (pos r k + c.2 - 1) 0 = x := by rw [List.getD_eq_getElem?_getD, hw]; rfl
  refine ⟨hl, ?_, hg, ?_⟩
  · unfold roomV
    rw [hwv]
    omega
  · unfold roomV
    rw [hl, hwv]
    congr 1
    apply propext
    constructor <;> intro h <;> omega
end Go.Proofs.Ytoboecenlangmaa.Al
end
section
namespace Go.Proofs.Ytoboecenlangmaa.Al
open Go.ChangeShapes Go.WideShapes Go.ChangeAt Go.RowKit
open Me Np No Pk
open Gl (G Row)
set_option linter.unusedVariables false
set_option linter.unusedSimpArgs false

/-- Where the items of a box of columns stand. -/
theorem places_row {W : List Int} {S : List G} {m : Nat} {l : List Nd} (hrp : RP W S m l) (x : Nd) (hx4 : x.kind = 4) (hcl : chk l = 0) : ∃ (f : Nat → Int) (xs : List Nat), xs.map (itA l) = (ab W S m).map some ∧ (∀ x ∈ xs, ∀ y, l[x]? = some y → ¬ y.kind = 7 → f x = y.wd) ∧
    ∀ (ns : List Nd) (k : Nat) (A : Option Addr) (c : Nat) (w : World), chk ns = 0 → ns[k]? = some x → endc (ns.drop k) 0 = some (l.length + 2) → (ns.drop (k + 1)).take l.length = l → ns.length ≤ c → Seg w w.heap.size A (ns.flatMap ncs) →
      Calls Try.prog 23 #[.slice A ns.length c, .int .i64 (k : Int)] w (PlOut (plcR x l f xs).1 (plcR x l f xs).2 w) := by
  obtain ⟨xs, hxs, ha, hk⟩ := rp_its hrp
  obtain ⟨f, hf, hv, hz⟩ := size_case l false hcl
  refine ⟨f, xs, ha, fun a hax y hy h7 => ?_, fun ns k A c w hcn hkx hend hin hcap hseg => ?_⟩
  · have h4 : y.kind = 4 := (hk a hax y hy).resolve_left h7
    rw [hv a y hy (.inr (by omega))]
    unfold szP alongP
    rw [if_neg h7, if_neg h7, if_neg (by omega), if_pos (by omega), if_neg (by decide)]
  · have hI := inside_ok A ns c k (l.length + 2) x w hcap hseg hcn (beg_of hkx (by omega) (by omega)) hkx (by simp [opensB, hx4]) hend
    have hin' : innerL ns k (l.length + 2) = l := by
      unfold innerL
      rw [Nat.add_sub_cancel]
      exact hin
    rw [hin'] at hI
    have he : (x.kind == 5) = false := by simp [hx4]
    exact places_ok A ns l c k x xs f w hcap (chk_run hcn).1 hseg hkx (.inl hx4) hI hcl hxs hf (by rw [he]; exact hz)
/-- What a packed row of columns is. -/
structure HdOk (W : List Int) (S : List G) (tw : Int) (ex : Bool) (R : List Nd × List Nd × Int × Int × Int) (n : Nd) : Prop where
  box : R.1 = wrapL n (headL W S)
  kind : n.kind = 4
  chk : chk R.1 = 0
  inn : Np.chk (headL W S) = 0
  ok : R.2.2.2.2 = 0
  wd : ex = true → n.wd = tw
theorem hd_case {W : List Int} {S : List G} {tw : Int} {ex : Bool} {R : List Nd × List Nd × Int × Int × Int} (hG : HpkG (headL W S) tw ex R ∨ HpkN R) : (∃ n, HdOk W S tw ex R n) ∨ (R.1 = [] ∧ ¬ R.2.2.2.2 = 0) := by
  rcases hG with ⟨S1, O1, x, a, b, c, d, p, q, r, s, h, v, W1, F, hS, hc, M, hW, hd, hF, hw, hR⟩ | ⟨h1, _, _, _, h2⟩
  · rw [rp_part (head_rp W S)] at hS
    simp only [Prod.mk.injEq] at hS
    obtain ⟨rfl, rfl⟩ := hS
    refine .inl ⟨fitN (hN W1 h v) F, ?_, rfl, ?_, hc, ?_, fun he => ?_⟩
    · rw [hR]
    · rw [hR]; exact hw
    · rw [hR]
    · rw [if_pos he] at hW
      exact hW
  · exact .inr ⟨h1, h2⟩
end Go.Proofs.Ytoboecenlangmaa.Al
end
section
namespace Go.Proofs.Ytoboecenlangmaa.Al
open Go.ChangeShapes Go.WideShapes Go.ChangeAt Go.RowKit
open Me Np No
open Gl (G Row)
set_option linter.unusedVariables false
set_option linter.unusedSimpArgs false

def WdOut (E : Int) (C : Co) (w : World) (e : Ending) (w' : World) : Prop :=
  ∃ A1 n1 c1 A2 n2 c2, e = .returned (.tuple #[.slice A1 n1 c1, .slice A2 n2 c2, .int .i64 E]) ∧ Below w.heap.size w w' ∧
    ((E = 0 ∧ w'.ownsRow w.heap.size 3 1 (.slice A1 n1 c1) n1 (C.w.map intV) ∧ n1 = C.w.length ∧ w'.ownsRow w.heap.size 4 1 (.slice A2 n2 c2) n2 (C.g.map boolV) ∧ n2 = C.g.length) ∨ (¬ E = 0 ∧ A1 = none ∧ n1 = 0 ∧ c1 = 0 ∧ A2 = none ∧ n2 = 0 ∧ c2 = 0))
theorem base_of {w : World} {base base' : Nat} {e : TypeId} {size n : Nat} {v : Value} {xs : List Value} (h : w.ownsRow base e size v n xs) (hb : base' ≤ base) : w.ownsRow base' e size v n xs := by
  rcases h with ⟨h1, h2⟩
  refine ⟨h1, ?_⟩
  rcases h2 with h2 | ⟨g, cap, cur, h3, h4, h5⟩
  · exact .inl h2
  · exact .inr ⟨g, cap, cur, h3, by omega, h5⟩
theorem widths_of (A : Option Addr) (n c : Nat) (B : Option Addr) (m k : Nat) (w : World) (E : Int) (C : Co) (h : Calls Try.prog 35 #[.slice A n c, .slice B m k] w (MdOutC E C w)) :
    Calls Try.prog 12 #[.slice A n c, .slice B m k] w (WdOut E C w) := by
  have H := Lib.hid h
  clear h
  by_cases hE : E = 0
  · have q : (E != 0) = false := by simp [hE]
    have HE := Lib.hid hE
    clear hE
    go_enter Try.func12, Try.ntmps12
    go_wp2_with fail
    refine H.out.mono ?_
    rintro e w1 ⟨v, rfl, hb1, hj0⟩
    obtain ⟨w0, g, vs, vw, vd, hw0, rfl, hj⟩ := hj0 HE.out
    clear hj0
    obtain ⟨A1, c1, rfl, _⟩ := SegS.own (S := fun _ => True) hj.ow (fun _ _ => trivial)
    obtain ⟨A2, c2, rfl, _⟩ := SegS.own (S := fun _ => True) hj.od (fun _ _ => trivial)
    have HJ := Lib.hid (And.intro (base_of hj.ow hw0) (base_of hj.od hw0))
    have HB := Lib.hid hb1
    have k1 : w1.cell? ⟨g, 1, none⟩ = some (.slice A1 C.w.length c1) := (hj.blk.cell 1).trans rfl
    have k2 : w1.cell? ⟨g, 2, none⟩ = some (.slice A2 C.g.length c2) := (hj.blk.cell 2).trans rfl
    clear hj hb1
    go_upto_region 4 with fail
    go_quiet (fail)
    go_wp2_with fail
    go_returns
    exact ⟨A1, _, c1, A2, _, c2, by rw [HE.out]; rfl, below_drewN HB.out _, .inl ⟨HE.out, HJ.out.1, rfl, HJ.out.2, rfl⟩⟩
  · have q : (E != 0) = true := by simp [hE]
    have HE := Lib.hid hE
    clear hE
    go_enter Try.func12, Try.ntmps12
    go_wp2_with fail
    refine H.out.mono ?_
    rintro e w1 ⟨v, rfl, hb1, _⟩
    go_wp2_with fail
    go_returns
    exact ⟨none, 0, 0, none, 0, 0, rfl, hb1, .inr ⟨HE.out, rfl, rfl, rfl, rfl, rfl, rfl⟩⟩
theorem widths_al (A : Option Addr) (ss : List G) (c : Nat) (B : Option Addr) (rs : List Rw) (k : Nat) (w : World) (hS : Row w A ss) (hR : RsOk w (fun _ => True) B k rs) (h63 : ss.length ≤ maxLen) :
    Calls Try.prog 12 #[.slice A ss.length c, .slice B rs.length k] w (WdOut (mdE ss (rs.map Rw.d)) (mdC ss (rs.map Rw.d)) w) :=
  widths_of A ss.length c B rs.length k w _ _ (made_al A ss c B rs k w hS hR h63)
theorem num21 (x : Int) (w : World) : Calls Try.prog 13 #[.int .i64 x] w fun e w' => e = .returned (.int .i64 x) ∧ w = w' := by
  go_enter Try.func13, Try.ntmps13
  go_wp2
  go_ret
  exact ⟨rfl, rfl⟩
def KnP (x : Int) (w : World) (e : Ending) (w' : World) : Prop := ∃ g, e = .returned (.slice (some ⟨g, 0, none⟩) 1 1) ∧ LsOk w' (fun _ => True) (some ⟨g, 0, none⟩) 1 [kernN x] ∧ Below w.heap.size w w'
section
attribute [local go_sem ↓] bldN_eq
theorem kern_ok (w : World) (x : Int) : LsOk (w.alloc (.cells (ncs (kernN x)).toArray 54)) (fun _ => True) (some ⟨w.heap.size, 0, none⟩) 1 [kernN x] :=
  ⟨by simp, by simp, (by intro h; cases h), .inr ⟨w.heap.size, 0, rfl, by simp, trivial, fun j u hu => by rw [Nat.zero_add, (Blk.new w _ _).cell j]; simpa using hu⟩⟩
set_option maxHeartbeats 1000000 in
set_option maxRecDepth 100000 in
theorem kern5 (w : World) : Calls Try.prog 36 #[.int .i64 5] w (KnP 327680 w) := by
  have hb1 : ∀ w, (bldN #[(0, .int .i64 8), (3, .int .i64 327680)]).run Try.prog w = .ok (.agg (nc (kernN 327680))) w := fun w => by rw [← bldN_eq]; exact run_build w 54 _ _ (by kernel_rfl)
  go_enter Try.func36, Try.ntmps36
  go_wp2_with (first | (refine wpList_ex (o := ⟨some 6, _, _, _, _, _⟩) (v := .slice (some ⟨w.heap.size, 0, none⟩) 1 1) (w' := w.alloc (.cells ([kernN 327680].flatMap ncs).toArray 54)) rfl (by kernel_rfl) ?_))
  go_ret
  exact ⟨_, rfl, kern_ok w 327680, andAlloc (Below.refl _ _) _⟩
set_option maxHeartbeats 1000000 in
set_option maxRecDepth 100000 in
theorem kern3 (w : World) : Calls Try.prog 36 #[.int .i64 3] w (KnP 196608 w) := by
  have hb1 : ∀ w, (bldN #[(0, .int .i64 8), (3, .int .i64 196608)]).run Try.prog w = .ok (.agg (nc (kernN 196608))) w := fun w => by rw [← bldN_eq]; exact run_build w 54 _ _ (by kernel_rfl)
  go_enter Try.func36, Try.ntmps36
  go_wp2_with (first | (refine wpList_ex (o := ⟨some 6, _, _, _, _, _⟩) (v := .slice (some ⟨w.heap.size, 0, none⟩) 1 1) (w' := w.alloc (.cells ([kernN 196608].flatMap ncs).toArray 54)) rfl (by kernel_rfl) ?_))
  go_ret
  exact ⟨_, rfl, kern_ok w 196608, andAlloc (Below.refl _ _) _⟩
set_option maxHeartbeats 1000000 in
set_option maxRecDepth 100000 in
theorem kern2 (w : World) : Calls Try.prog 36 #[.int .i64 2] w (KnP 131072 w) := by
  have hb1 : ∀ w, (bldN #[(0, .int .i64 8), (3, .int .i64 131072)]).run Try.prog w = .ok (.agg (nc (kernN 131072))) w := fun w => by rw [← bldN_eq]; exact run_build w 54 _ _ (by kernel_rfl)
  go_enter Try.func36, Try.ntmps36
  go_wp2_with (first | (refine wpList_ex (o := ⟨some 6, _, _, _, _, _⟩) (v := .slice (some ⟨w.heap.size, 0, none⟩) 1 1) (w' := w.alloc (.cells ([kernN 131072].flatMap ncs).toArray 54)) rfl (by kernel_rfl) ?_))
  go_ret
  exact ⟨_, rfl, kern_ok w 131072, andAlloc (Below.refl _ _) _⟩
set_option maxHeartbeats 1000000 in
set_option maxRecDepth 100000 in
theorem kern7 (w : World) : Calls Try.prog 36 #[.int .i64 7] w (KnP 458752 w) := by
  have hb1 : ∀ w, (bldN #[(0, .int .i64 8), (3, .int .i64 458752)]).run Try.prog w = .ok (.agg (nc (kernN 458752))) w := fun w => by rw [← bldN_eq]; exact run_build w 54 _ _ (by kernel_rfl)
  go_enter Try.func36, Try.ntmps36
  go_wp2_with (first | (refine wpList_ex (o := ⟨some 6, _, _, _, _, _⟩) (v := .slice (some ⟨w.heap.size, 0, none⟩) 1 1) (w' := w.alloc (.cells ([kernN 458752].flatMap ncs).toArray 54)) rfl (by kernel_rfl) ?_))
  go_ret
  exact ⟨_, rfl, kern_ok w 458752, andAlloc (Below.refl _ _) _⟩
end
/-- The law's own rows. -/
def kRow (g a b : Nat) (x y : Int) : Rw := ⟨some ⟨g, 0, none⟩, 2, [⟨some ⟨a, 0, none⟩, 1, [kernN x], 1⟩, ⟨some ⟨b, 0, none⟩, 1, [kernN y], 1⟩], none, 0, []⟩
def kSk : List G := [gz, ⟨65536, 0, 0, 0, 0⟩, gz]
theorem kRow_ok {w : World} {g a b : Nat} {x y : Int} (h : Blk w g 38 #[.slice (some ⟨a, 0, none⟩) 1 1, .int .i64 1, .slice (some ⟨b, 0, none⟩) 1 1, .int .i64 1]) (ha : LsOk w (fun _ => True) (some ⟨a, 0, none⟩) 1 [kernN x]) (hb : LsOk w (fun _ => True) (some ⟨b, 0, none⟩) 1 [kernN y]) : (kRow g a b x y).Ok w (fun _ => True) := by
  refine ⟨by simp [kRow], by simp [kRow], .inr ⟨g, 0, rfl, h.lt, trivial, fun j u hu => ?_⟩, ?_, ⟨by simp [kRow], by simp [kRow], fun _ => rfl, .inl rfl⟩⟩
  · rw [Nat.zero_add, h.cell j]
    simpa [kRow, Cl.vals] using hu
  · intro z hz
    rcases List.mem_cons.1 hz with rfl | hz
    · exact ha
    · obtain rfl := List.mem_singleton.1 hz
      exact hb
theorem k_data (w : World) (g1 a b g2 c d : Nat) : mdE kSk ([kRow g1 a b 327680 196608, kRow g2 c d 131072 458752].map Rw.d) = 0 ∧ (mdC kSk ([kRow g1 a b 327680 196608, kRow g2 c d 131072 458752].map Rw.d)).w = [327680, 458752] ∧ (mdC kSk ([kRow g1 a b 327680 196608, kRow g2 c d 131072 458752].map Rw.d)).g = [false, false] := by
  obtain ⟨e1, e2, e3, e4⟩ := kern_four w
  have hd : [kRow g1 a b 327680 196608, kRow g2 c d 131072 458752].map Rw.d = [([([kernN 327680], 1), ([kernN 196608], 1)], []), ([([kernN 131072], 1), ([kernN 458752], 1)], [])] := rfl
  rw [hd]
  have hc0 : chk [] = 0 := by decide
  have hck : ckE kSk [([([kernN 327680], 1), ([kernN 196608], 1)], []), ([([kernN 131072], 1), ([kernN 458752], 1)], [])] = 0 := by
    have hg : kSk.all G.ok = true := by decide
    unfold ckE
    rw [if_neg (by decide), if_pos hg]
    simp only [rowsE, rowErr, celE, e1, e2, e3, e4, hc0]
    simp [kSk]
  have hcc : ([([([kernN 327680], 1), ([kernN 196608], 1)], []), ([([kernN 131072], 1), ([kernN 458752], 1)], [])] : List RD).map cel = [[(327680, 1), (196608, 1)], [(131072, 1), (458752, 1)]] := by
    simp [cel, e1, e2, e3, e4]
  have hco : mdC kSk [([([kernN 327680], 1), ([kernN 196608], 1)], []), ([([kernN 131072], 1), ([kernN 458752], 1)], [])] = ⟨[327680, 458752], [false, false], kSk⟩ := by
    unfold mdC
    rw [hcc]
    rfl
  refine ⟨?_, by rw [hco], by rw [hco]⟩
  unfold mdE
  rw [if_pos hck, hco]
  rfl
end Go.Proofs.Ytoboecenlangmaa.Al
end
