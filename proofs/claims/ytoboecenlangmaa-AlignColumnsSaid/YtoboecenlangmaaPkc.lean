import Derived.Test.YtoboecenlangmaaPkb
import Derived.Test.YtoboecenlangmaaFitA
import Derived.Test.YtoboecenlangmaaNodeRt
/- The contracts of the maker's set and wrap. Conditions: those that each theorem names. -/
namespace Go.Proofs.Ytoboecenlangmaa.Pk
open Go.ChangeShapes Go.WideShapes Go.ChangeAt Go.RowKit
open Me Np No
set_option linter.unusedVariables false
set_option linter.unusedSimpArgs false

theorem mkc_node (n : Nd) (x a b c d p q r s : Int) (em : Bool) (bad ov wr : Int) (j : Nat) (u : Value) (h : (nc n).toList[j]? = some u) : (mkc n x a b c d p q r s em bad ov wr)[j]? = some u := by
  match j, h with
  | 0, h => exact h
  | 1, h => exact h
  | 2, h => exact h
  | 3, h => exact h
  | 4, h => exact h
  | 5, h => exact h
  | 6, h => exact h
  | 7, h => exact h
  | 8, h => exact h
  | 9, h => exact h
  | 10, h => exact h
  | 11, h => exact h
  | 12, h => exact h
  | 13, h => exact h
  | 14, h => exact h
  | 15, h => exact h
  | 16, h => exact h
  | 17, h => exact h
  | 18, h => exact h
  | j + 19, h => rw [List.getElem?_eq_none (by rw [nc_list]; omega)] at h; cases h
theorem Mk.node {w : World} {g : Nat} {n : Nd} {x a b c d p q r s : Int} {em : Bool} {bad ov wr : Int} (h : Mk w g n x a b c d p q r s em bad ov wr) : NodeAt w g 0 n := fun j u hu => by
  rw [Nat.zero_add, Blk.cell h]
  exact mkc_node n x a b c d p q r s em bad ov wr j u hu
theorem Mk.fits {w : World} {g : Nat} {n : Nd} {x a b c d p q r s : Int} {em : Bool} {bad ov wr : Int} (h : Mk w g n x a b c d p q r s em bad ov wr) (sg od nu de : Int) :
    Mk ((((w.setCell ⟨g, 12, none⟩ (.int .i64 sg)).setCell ⟨g, 13, none⟩ (.int .i64 od)).setCell ⟨g, 14, none⟩ (.int .i64 nu)).setCell ⟨g, 15, none⟩ (.int .i64 de)) g { n with sign := sg, order := od, num := nu, den := de } x a b c d p q r s em bad ov wr :=
  Blk.set (Blk.set (Blk.set (Blk.set h 12 (.int .i64 sg)) 13 (.int .i64 od)) 14 (.int .i64 nu)) 15 (.int .i64 de)
/-- A node that is set. -/
def fitN (n : Nd) (f : Int × Int × Int × Int) : Nd := { n with sign := f.1, order := f.2.1, num := f.2.2.1, den := f.2.2.2 }
def setV (n : Nd) (a p : Int) (em : Bool) (ex : Int) (z : Int × Int) : Int × Int := if em = true ∨ ex = 0 then z else if 0 < ex then (looseV n a ex z.1, z.2) else tightV n p (-ex) z
set_option maxRecDepth 100000 in
set_option maxHeartbeats 2000000 in
theorem set_any (g : Nat) (n : Nd) (x a b c d p q r s : Int) (em : Bool) (bad ov ex : Int) (w : World) (hg : Mk w g n x a b c d p q r s em bad ov 0) (e0 : Gl.nearB ex = true) (e1 : Gl.nearB a = true) (e2 : Gl.nearB p = true) (e3 : Gl.nearB b = true) (e4 : Gl.nearB q = true) (e5 : Gl.nearB c = true) (e6 : Gl.nearB r = true) (e7 : Gl.nearB d = true) (e8 : Gl.nearB s = true) :
    Calls Try.prog 43 #[.pointer (some ⟨g, 0, none⟩), .int .i64 ex] w fun e w' => e = .returned (.tuple #[]) ∧
      Mk w' g (fitN n (Gl.fit a b c d p q r s ex)) x a b c d p q r s em (setV (fitN n (Gl.fit a b c d p q r s ex)) a p em ex (bad, ov)).1 (setV (fitN n (Gl.fit a b c d p q r s ex)) a p em ex (bad, ov)).2 0 ∧ w.grownBy w' (some g) := by
  have HF := Lib.hid (fun w => Gl.fit_all x a b c d p q r s ex w e0 e1 e2 e3 e4 e5 e6 e7 e8)
  have hex : -70368744177664 ≤ ex ∧ ex ≤ 70368744177664 := by simp [Gl.nearB] at e0; omega
  have HEX := Lib.hid hex
  generalize Gl.fit a b c d p q r s ex = F at HF ⊢
  obtain ⟨sg, od, nu, de⟩ := F
  simp only at HF
  clear e0 e1 e2 e3 e4 e5 e6 e7 e8
  have HG := Lib.hid hg
  have hc19 : w.cell? ⟨g, 19, none⟩ = some (.int .i64 x) := Blk.cell hg 19
  have hc20 : w.cell? ⟨g, 20, none⟩ = some (.int .i64 a) := Blk.cell hg 20
  have hc21 : w.cell? ⟨g, 21, none⟩ = some (.int .i64 b) := Blk.cell hg 21
  have hc22 : w.cell? ⟨g, 22, none⟩ = some (.int .i64 c) := Blk.cell hg 22
  have hc23 : w.cell? ⟨g, 23, none⟩ = some (.int .i64 d) := Blk.cell hg 23
  have hc24 : w.cell? ⟨g, 24, none⟩ = some (.int .i64 p) := Blk.cell hg 24
  have hc25 : w.cell? ⟨g, 25, none⟩ = some (.int .i64 q) := Blk.cell hg 25
  have hc26 : w.cell? ⟨g, 26, none⟩ = some (.int .i64 r) := Blk.cell hg 26
  have hc27 : w.cell? ⟨g, 27, none⟩ = some (.int .i64 s) := Blk.cell hg 27
  clear hg
  cases em with
  | true =>
    have HV := Lib.hid (show setV (fitN n (sg, od, nu, de)) a p true ex (bad, ov) = (bad, ov) from if_pos (.inl rfl))
    go_enter Try.func43, Try.ntmps43
    go_wp2_with (first | (go_at_call 74; go_loud (refine (HF.out _).mono ?_; rintro e w2 ⟨rfl, hb2⟩; have HB2 := Lib.hid hb2; have hm2 := HG.out.below hb2; have hd12 : w2.cell? ⟨g, 12, none⟩ = some (.int .i64 n.sign) := Blk.cell hm2 12; have hf12 := Blk.free hm2 12; have hd13 : w2.cell? ⟨g, 13, none⟩ = some (.int .i64 n.order) := Blk.cell hm2 13; have hf13 := Blk.free hm2 13; have hd14 : w2.cell? ⟨g, 14, none⟩ = some (.int .i64 n.num) := Blk.cell hm2 14; have hf14 := Blk.free hm2 14; have hd15 : w2.cell? ⟨g, 15, none⟩ = some (.int .i64 n.den) := Blk.cell hm2 15; have hf15 := Blk.free hm2 15; have hd28 : w2.cell? ⟨g, 28, none⟩ = some (.bool true) := Blk.cell hm2 28; have HM2 := Lib.hid hm2; clear hm2 hb2)))
    first | go_end0 | go_returns
    exact ⟨rfl, by rw [HV.out]; exact HM2.out.fits sg od nu de, grown_trans (grown_blk (g := g) HB2.out) (grown_trans (grown_trans (grown_trans (grown_set _ _ _ _) (grown_set _ _ _ _)) (grown_set _ _ _ _)) (grown_set _ _ _ _))⟩
  | false =>
    rcases Int.lt_trichotomy 0 ex with hx | hx | hx
    · have HV := Lib.hid (show setV (fitN n (sg, od, nu, de)) a p false ex (bad, ov) = (looseV (fitN n (sg, od, nu, de)) a ex bad, ov) by unfold setV; rw [if_neg (by simp; omega), if_pos hx])
      have hx1 : ¬ ex = 0 := by omega
      have hx2 : 0 ≤ ex := by omega
      go_enter Try.func43, Try.ntmps43
      go_wp2_with (first | (go_at_call 74; go_loud (refine (HF.out _).mono ?_; rintro e w2 ⟨rfl, hb2⟩; have HB2 := Lib.hid hb2; have hm2 := HG.out.below hb2; have hd12 : w2.cell? ⟨g, 12, none⟩ = some (.int .i64 n.sign) := Blk.cell hm2 12; have hf12 := Blk.free hm2 12; have hd13 : w2.cell? ⟨g, 13, none⟩ = some (.int .i64 n.order) := Blk.cell hm2 13; have hf13 := Blk.free hm2 13; have hd14 : w2.cell? ⟨g, 14, none⟩ = some (.int .i64 n.num) := Blk.cell hm2 14; have hf14 := Blk.free hm2 14; have hd15 : w2.cell? ⟨g, 15, none⟩ = some (.int .i64 n.den) := Blk.cell hm2 15; have hf15 := Blk.free hm2 15; have hd28 : w2.cell? ⟨g, 28, none⟩ = some (.bool false) := Blk.cell hm2 28; have HM2 := Lib.hid hm2; clear hm2 hb2)) | (go_at_call 75; go_loud (refine (loose_any g _ x a b c d p q r s false bad ov 0 ex _ (HM2.out.fits sg od nu de) hx2).mono ?_; rintro e w3 ⟨rfl, hm3, hg3⟩; have HM3 := Lib.hid hm3; have HG3 := Lib.hid hg3; clear hm3 hg3)))
      first | go_end0 | go_returns
      exact ⟨rfl, by rw [HV.out]; exact HM3.out, grown_trans (grown_blk (g := g) HB2.out) (grown_trans (grown_trans (grown_trans (grown_trans (grown_set _ _ _ _) (grown_set _ _ _ _)) (grown_set _ _ _ _)) (grown_set _ _ _ _)) HG3.out)⟩
    · subst hx
      have HV := Lib.hid (show setV (fitN n (sg, od, nu, de)) a p false 0 (bad, ov) = (bad, ov) from if_pos (.inr rfl))
      go_enter Try.func43, Try.ntmps43
      go_wp2_with (first | (go_at_call 74; go_loud (refine (HF.out _).mono ?_; rintro e w2 ⟨rfl, hb2⟩; have HB2 := Lib.hid hb2; have hm2 := HG.out.below hb2; have hd12 : w2.cell? ⟨g, 12, none⟩ = some (.int .i64 n.sign) := Blk.cell hm2 12; have hf12 := Blk.free hm2 12; have hd13 : w2.cell? ⟨g, 13, none⟩ = some (.int .i64 n.order) := Blk.cell hm2 13; have hf13 := Blk.free hm2 13; have hd14 : w2.cell? ⟨g, 14, none⟩ = some (.int .i64 n.num) := Blk.cell hm2 14; have hf14 := Blk.free hm2 14; have hd15 : w2.cell? ⟨g, 15, none⟩ = some (.int .i64 n.den) := Blk.cell hm2 15; have hf15 := Blk.free hm2 15; have hd28 : w2.cell? ⟨g, 28, none⟩ = some (.bool false) := Blk.cell hm2 28; have HM2 := Lib.hid hm2; clear hm2 hb2)))
      first | go_end0 | go_returns
      exact ⟨rfl, by rw [HV.out]; exact HM2.out.fits sg od nu de, grown_trans (grown_blk (g := g) HB2.out) (grown_trans (grown_trans (grown_trans (grown_set _ _ _ _) (grown_set _ _ _ _)) (grown_set _ _ _ _)) (grown_set _ _ _ _))⟩
    · have HV := Lib.hid (show setV (fitN n (sg, od, nu, de)) a p false ex (bad, ov) = tightV (fitN n (sg, od, nu, de)) p (-ex) (bad, ov) by unfold setV; rw [if_neg (by simp; omega), if_neg (by omega)])
      have hx1 : ¬ ex = 0 := by omega
      have hx2 : 0 ≤ -ex := by omega
      have hx3 : ¬ 0 < ex := by omega
      go_enter Try.func43, Try.ntmps43
      go_wp2_with (first | (go_at_call 74; go_loud (refine (HF.out _).mono ?_; rintro e w2 ⟨rfl, hb2⟩; have HB2 := Lib.hid hb2; have hm2 := HG.out.below hb2; have hd12 : w2.cell? ⟨g, 12, none⟩ = some (.int .i64 n.sign) := Blk.cell hm2 12; have hf12 := Blk.free hm2 12; have hd13 : w2.cell? ⟨g, 13, none⟩ = some (.int .i64 n.order) := Blk.cell hm2 13; have hf13 := Blk.free hm2 13; have hd14 : w2.cell? ⟨g, 14, none⟩ = some (.int .i64 n.num) := Blk.cell hm2 14; have hf14 := Blk.free hm2 14; have hd15 : w2.cell? ⟨g, 15, none⟩ = some (.int .i64 n.den) := Blk.cell hm2 15; have hf15 := Blk.free hm2 15; have hd28 : w2.cell? ⟨g, 28, none⟩ = some (.bool false) := Blk.cell hm2 28; have HM2 := Lib.hid hm2; clear hm2 hb2)) | (go_at_call 76; go_loud (refine (tight_any g _ x a b c d p q r s false bad ov 0 (-ex) _ (HM2.out.fits sg od nu de) hx2 (by omega)).mono ?_; rintro e w3 ⟨rfl, hm3, hg3⟩; have HM3 := Lib.hid hm3; have HG3 := Lib.hid hg3; clear hm3 hg3)))
      first | go_end0 | go_returns
      exact ⟨rfl, by rw [HV.out]; exact HM3.out, grown_trans (grown_blk (g := g) HB2.out) (grown_trans (grown_trans (grown_trans (grown_trans (grown_set _ _ _ _) (grown_set _ _ _ _)) (grown_set _ _ _ _)) (grown_set _ _ _ _)) HG3.out)⟩
end Go.Proofs.Ytoboecenlangmaa.Pk
