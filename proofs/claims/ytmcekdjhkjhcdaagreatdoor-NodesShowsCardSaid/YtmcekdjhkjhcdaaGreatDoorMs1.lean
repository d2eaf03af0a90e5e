import Derived.Test.YtmcekdjhkjhcdaaGreatDoorChk
import Derived.Test.YtmcekdjhkjhcdaaGreatDoorGlueD
import Derived.Test.YtmcekdjhkjhcdaaGreatDoorBlk
import Derived.Test.YtmcekdjhkjhcdaaGreatDoorScR3
import Derived.Deep.RegionHeld3
import Derived.Test.YtmcekdjhkjhcdaaGreatDoorNr
import Derived.Test.YtmcekdjhkjhcdaaGreatDoorNv
import Derived.Test.YtmcekdjhkjhcdaaGreatDoorNw
import Derived.IntWalk
import Derived.Test.YtmcekdjhkjhcdaaGreatDoorNodeG
import Derived.BigQuiet
import Derived.Deep.LoopGhost
import Derived.Test.YtmcekdjhkjhcdaaGreatDoorNodeTr
import Derived.Test.YtmcekdjhkjhcdaaGreatDoorNodeH
import Derived.Test.YtmcekdjhkjhcdaaGreatDoorNodeRt
/- Merged texts. Conditions: those that each theorem names. -/
section
namespace Go.Proofs.YtmcekdjhkjhcdaaGreatDoor.Gl
open Go.ChangeShapes Go.WideShapes Go.ChangeAt Go.RowKit
open Me Ss
set_option linter.unusedVariables false
set_option linter.unusedSimpArgs false

/-- The unit of an order. -/
def unL (o : Int) : List UInt8 := if o = 1 then [102, 105, 108] else if o = 2 then [102, 105, 108, 108] else if o = 3 then [102, 105, 108, 108, 108] else []
def amT (t : ByteArray) (x o : Int) : ByteArray := if x = 0 then ⟨#[]⟩ else t ++ prS x ++ S (unL o)
theorem prS_size (s : Int) : (prS s).size ≤ 40 := by
  cases hf : Sc.farB s
  · obtain ⟨s0, s1⟩ := Sc.farB_no hf
    by_cases hn : s < 0
    · obtain ⟨n, rfl⟩ : ∃ n : Nat, s = -(n : Int) := ⟨s.natAbs, by omega⟩
      rw [prS_neg hf (by omega), S_size]
      have h1 := dec_len (q := n / 65536) (by omega)
      have h2 := frac_len 5 (10 * (n % 65536) + 5) 10
      unfold Sc.prA
      rw [List.length_cons, List.length_append, List.length_cons]
      omega
    · obtain ⟨n, rfl⟩ : ∃ n : Nat, s = (n : Int) := ⟨s.natAbs, by omega⟩
      rw [prS_pos hf, S_size]
      have h1 := dec_len (q := n / 65536) (by omega)
      have h2 := frac_len 5 (10 * (n % 65536) + 5) 10
      unfold Sc.prA
      rw [List.length_append, List.length_cons]
      omega
  · rw [prS_far hf]
    exact Nat.zero_le _
theorem amT_size {t : ByteArray} (x o : Int) (h : t.size ≤ 10) : (amT t x o).size ≤ 60 := by
  unfold amT
  split
  · exact Nat.zero_le _
  · rw [ByteArray.size_append, ByteArray.size_append]
    have h1 := prS_size x
    have h3 := S_size (unL o)
    have h2 : (unL o).length ≤ 5 := by
      unfold unL
      repeat' split
      all_goals decide
    omega
theorem ret_strG {a b : ByteArray} (h : a = b) : Ending.returned (.string a) = .returned (.string b) := by rw [h]
theorem am_step (t p : ByteArray) (l m : List UInt8) : t ++ p ++ S l ++ S m = t ++ p ++ S (l ++ m) := by rw [ByteArray.append_assoc, S_app l m]
set_option maxHeartbeats 2000000 in
set_option maxRecDepth 100000 in
theorem amount_any (t : ByteArray) (x o : Int) (w : World) (htab : Tab w) (ht : t.size ≤ 10) (o0 : 0 ≤ o) (o1 : o ≤ 3) : Calls Tryz.prog 105 #[.string t, .int .i64 x, .int .i64 o] w fun e w' => e = .returned (.string (amT t x o)) ∧ Below w.heap.size w w' := by
  have HTAB := Lib.hid htab
  clear htab
  by_cases hx : x = 0
  · have hx' : (x == 0) = true := by simp [hx]
    have HA := Lib.hid (show amT t x o = ⟨#[]⟩ by unfold amT; rw [if_pos hx])
    clear hx
    go_enter Tryz.func105, Tryz.ntmps105
    go_wp2_with fail
    go_ret
    exact ⟨ret_strG HA.out.symm, Below.refl _ _⟩
  · have hx' : (x == 0) = false := by simp [hx]
    have HA := Lib.hid (show amT t x o = t ++ prS x ++ S (unL o) by unfold amT; rw [if_neg hx])
    have hz := prS_size x
    clear hx
    rcases (show o = 0 ∨ o = 1 ∨ o = 2 ∨ o = 3 by omega) with rfl | rfl | rfl | rfl
    · go_enter Tryz.func105, Tryz.ntmps105
      go_wp2_with fail
      refine (print_any x _ HTAB.out).mono ?_
      rintro e w1 ⟨rfl, hl1⟩
      go_wp2_with fail
      go_ret
      exact ⟨ret_strG (by rw [HA.out]; exact (ByteArray.append_empty (b := t ++ prS x)).symm), hl1⟩
    · go_enter Tryz.func105, Tryz.ntmps105
      go_wp2_with fail
      refine (print_any x _ HTAB.out).mono ?_
      rintro e w1 ⟨rfl, hl1⟩
      go_wp2_with fail
      go_rounds 2
      go_ret
      exact ⟨ret_strG (by rw [HA.out]; exact (am_step t (prS x) [102, 105] [108])), hl1⟩
    · go_enter Tryz.func105, Tryz.ntmps105
      go_wp2_with fail
      refine (print_any x _ HTAB.out).mono ?_
      rintro e w1 ⟨rfl, hl1⟩
      go_wp2_with fail
      go_rounds 3
      go_ret
      exact ⟨ret_strG (by rw [HA.out]; exact (congrArg (· ++ S [108]) (am_step t (prS x) [102, 105] [108])).trans (am_step t (prS x) [102, 105, 108] [108])), hl1⟩
    · go_enter Tryz.func105, Tryz.ntmps105
      go_wp2_with fail
      refine (print_any x _ HTAB.out).mono ?_
      rintro e w1 ⟨rfl, hl1⟩
      go_wp2_with fail
      go_rounds 4
      go_ret
      exact ⟨ret_strG (by rw [HA.out]; exact (congrArg (· ++ S [108]) ((congrArg (· ++ S [108]) (am_step t (prS x) [102, 105] [108])).trans (am_step t (prS x) [102, 105, 108] [108]))).trans (am_step t (prS x) [102, 105, 108, 108] [108])), hl1⟩
def plusT : ByteArray := ⟨#[32, 112, 108, 117, 115, 32]⟩
def minusT : ByteArray := ⟨#[32, 109, 105, 110, 117, 115, 32]⟩
def shT (n s h a b : Int) : ByteArray := if glueB n s h a b = true then prS n ++ amT plusT s a ++ amT minusT h b else ⟨#[]⟩
/-- What is held while the region runs. -/
theorem keepS {w W W' : World} {g : Nat} {n s h a b : Value} (hb : Below W.heap.size W W')
    (hS : W.cell? ⟨g, 0, none⟩ = some n ∧ W.cell? ⟨g, 1, none⟩ = some s ∧ W.cell? ⟨g, 2, none⟩ = some h ∧ W.cell? ⟨g, 3, none⟩ = some a ∧ W.cell? ⟨g, 4, none⟩ = some b ∧ g < W.heap.size ∧ Below w.heap.size w W) :
    W'.cell? ⟨g, 0, none⟩ = some n ∧ W'.cell? ⟨g, 1, none⟩ = some s ∧ W'.cell? ⟨g, 2, none⟩ = some h ∧ W'.cell? ⟨g, 3, none⟩ = some a ∧ W'.cell? ⟨g, 4, none⟩ = some b ∧ g < W'.heap.size ∧ Below w.heap.size w W' := by
  obtain ⟨c0, c1, c2, c3, c4, hg, hB⟩ := hS
  obtain ⟨hc, _⟩ := old_cells hb
  exact ⟨(hc g 0 hg).trans c0, (hc g 1 hg).trans c1, (hc g 2 hg).trans c2, (hc g 3 hg).trans c3, (hc g 4 hg).trans c4, Nat.lt_of_lt_of_le hg hb.size, andThen hB hb⟩
theorem keepB {w W : World} {g : Nat} {n s h a b : Value}
    (hS : W.cell? ⟨g, 0, none⟩ = some n ∧ W.cell? ⟨g, 1, none⟩ = some s ∧ W.cell? ⟨g, 2, none⟩ = some h ∧ W.cell? ⟨g, 3, none⟩ = some a ∧ W.cell? ⟨g, 4, none⟩ = some b ∧ g < W.heap.size ∧ Below w.heap.size w W) :
    Below w.heap.size w W := hS.2.2.2.2.2.2
set_option maxHeartbeats 4000000 in
set_option maxRecDepth 100000 in
theorem show_any (n s h a b : Int) (w : World) (htab : Tab w) :
    Calls Tryz.prog 96 #[.agg #[.int .i64 n, .int .i64 s, .int .i64 h, .int .i64 a, .int .i64 b]] w fun e w' => e = .returned (.string (shT n s h a b)) ∧ Below w.heap.size w w' := by
  have HTAB := Lib.hid htab
  clear htab
  cases g1 : glueB n s h a b
  · have hc1 : (chk n s h a b != 0) = true := by rw [chk_no g1]; rfl
    have HS := Lib.hid (show shT n s h a b = ⟨#[]⟩ by unfold shT; rw [if_neg (by simp [g1])])
    clear g1
    go_enter Tryz.func96, Tryz.ntmps96
    go_wp2_with (go_at_call 54; refine (Ck.check_any _ _ _ _ _ _).mono ?_; rintro e w' ⟨rfl, rfl⟩)
    go_ret
    exact ⟨ret_strG HS.out.symm, by repeat (first | exact Below.refl _ _ | refine andAlloc ?_ _)⟩
  · have hc1 : (chk n s h a b != 0) = false := by rw [chk_yes g1]; rfl
    have HS := Lib.hid (show shT n s h a b = prS n ++ amT plusT s a ++ amT minusT h b by unfold shT; rw [if_pos g1])
    obtain ⟨-, -, -, ⟨a0, a1⟩, b0, b1⟩ := glueB_iff.1 g1
    have z1 := prS_size n
    have z2 := amT_size s a (show plusT.size ≤ 10 by decide)
    have z3 := amT_size h b (show minusT.size ≤ 10 by decide)
    have HP := Lib.hid (fun w hb => print_any n w (HTAB.out.below (w' := w) hb))
    have HA := Lib.hid (fun w hb => amount_any plusT s a w (HTAB.out.below (w' := w) hb) (by decide) a0 a1)
    have HB := Lib.hid (fun w hb => amount_any minusT h b w (HTAB.out.below (w' := w) hb) (by decide) b0 b1)
    generalize prS n = t1 at *
    generalize amT plusT s a = t2 at *
    generalize amT minusT h b = t3 at *
    have n1 : ¬ 9223372036854775807 < t1.size + t2.size := by omega
    have n2 : ¬ 9223372036854775807 < t1.size + t2.size + t3.size := by omega
    clear g1
    go_enter Tryz.func96, Tryz.ntmps96
    go_wp2_with (go_at_call 54; refine (Ck.check_any _ _ _ _ _ _).mono ?_; rintro e w' ⟨rfl, rfl⟩)
    generalize hW : (World.alloc (World.alloc w _) _) = W
    have hk : W.cell? ⟨w.heap.size, 0, none⟩ = some (.int .i64 n) ∧ W.cell? ⟨w.heap.size, 1, none⟩ = some (.int .i64 s) ∧ W.cell? ⟨w.heap.size, 2, none⟩ = some (.int .i64 h) ∧ W.cell? ⟨w.heap.size, 3, none⟩ = some (.int .i64 a) ∧ W.cell? ⟨w.heap.size, 4, none⟩ = some (.int .i64 b) ∧ w.heap.size < W.heap.size ∧ Below w.heap.size w W := by
      have hB : Blk W w.heap.size 34 #[.int .i64 n, .int .i64 s, .int .i64 h, .int .i64 a, .int .i64 b] := by rw [← hW]; exact (Blk.new' rfl).alloc _
      exact ⟨hB.cell 0, hB.cell 1, hB.cell 2, hB.cell 3, hB.cell 4, hB.lt, by rw [← hW]; exact andAlloc (andAlloc (Below.refl _ _) _) _⟩
    clear hW
    obtain ⟨c0, c1, c2, c3, c4, hg, hB⟩ := hk
    go_region_held3 (fun w' => w'.cell? ⟨w.heap.size, 0, none⟩ = some (.int .i64 n) ∧ w'.cell? ⟨w.heap.size, 1, none⟩ = some (.int .i64 s) ∧ w'.cell? ⟨w.heap.size, 2, none⟩ = some (.int .i64 h) ∧ w'.cell? ⟨w.heap.size, 3, none⟩ = some (.int .i64 a) ∧ w'.cell? ⟨w.heap.size, 4, none⟩ = some (.int .i64 b) ∧ w.heap.size < w'.heap.size ∧ Below w.heap.size w w')
      (first
        | exact ⟨by assumption, by assumption, by assumption, by assumption, by assumption, by assumption, by assumption⟩
        | exact ⟨by assumption, by assumption, by assumption, by assumption, by assumption, by assumption, Below.drew (by assumption)⟩
        | go_keep)
      (first
        | (go_at_call 104; refine (HP.out _ ?_).mono ?_; (refine keepB (w := w) (g := w.heap.size) (n := Value.int .i64 n) (s := Value.int .i64 s) (h := Value.int .i64 h) (a := Value.int .i64 a) (b := Value.int .i64 b) ?_; assumption); rintro e wz ⟨rfl, hbz⟩; have hkz := keepS (w := w) (g := w.heap.size) (n := Value.int .i64 n) (s := Value.int .i64 s) (h := Value.int .i64 h) (a := Value.int .i64 a) (b := Value.int .i64 b) hbz (by assumption); obtain ⟨k0, k1, k2, k3, k4, k5, k6⟩ := hkz)
        | (go_at_call_of 105 (Value.int .i64 s); refine (HA.out _ ?_).mono ?_; (refine keepB (w := w) (g := w.heap.size) (n := Value.int .i64 n) (s := Value.int .i64 s) (h := Value.int .i64 h) (a := Value.int .i64 a) (b := Value.int .i64 b) ?_; assumption); rintro e wz ⟨rfl, hbz⟩; have hkz := keepS (w := w) (g := w.heap.size) (n := Value.int .i64 n) (s := Value.int .i64 s) (h := Value.int .i64 h) (a := Value.int .i64 a) (b := Value.int .i64 b) hbz (by assumption); obtain ⟨k0, k1, k2, k3, k4, k5, k6⟩ := hkz)
        | (go_at_call_of 105 (Value.int .i64 h); refine (HB.out _ ?_).mono ?_; (refine keepB (w := w) (g := w.heap.size) (n := Value.int .i64 n) (s := Value.int .i64 s) (h := Value.int .i64 h) (a := Value.int .i64 a) (b := Value.int .i64 b) ?_; assumption); rintro e wz ⟨rfl, hbz⟩; have hkz := keepS (w := w) (g := w.heap.size) (n := Value.int .i64 n) (s := Value.int .i64 s) (h := Value.int .i64 h) (a := Value.int .i64 a) (b := Value.int .i64 b) hbz (by assumption); obtain ⟨k0, k1, k2, k3, k4, k5, k6⟩ := hkz))
    all_goals
      go_wp2_with fail
      go_ret
      exact ⟨ret_strG HS.out.symm, by assumption⟩
end Go.Proofs.YtmcekdjhkjhcdaaGreatDoor.Gl
end
section
namespace Go.Proofs.YtmcekdjhkjhcdaaGreatDoor.Pk
open Np
/-- Where a list's items begin. -/
noncomputable def itsD (ns : List Nd) : List Nat := Classical.epsilon (fun xs => Its xs ns 0)
theorem itsD_of {ns : List Nd} {xs : List Nat} (h : Its xs ns 0) : itsD ns = xs := Its.unique (Classical.epsilon_spec (p := fun xs => Its xs ns 0) ⟨xs, h⟩) h
theorem itsD_is {ns : List Nd} (h : chk ns = 0) : Its (itsD ns) ns 0 := by
  obtain ⟨xs, hx⟩ := its_of_chk h
  rw [itsD_of hx]; exact hx
end Go.Proofs.YtmcekdjhkjhcdaaGreatDoor.Pk
end
section
namespace Go.Proofs.YtmcekdjhkjhcdaaGreatDoor.Sw
open Np Pk Ss
set_option linter.unusedVariables false
set_option linter.unusedSimpArgs false

def spK : ByteArray := ⟨#[32]⟩
def ligK : ByteArray := ⟨#[32, 40, 108, 105, 103, 97, 116, 117, 114, 101, 32]⟩
def clK : ByteArray := ⟨#[41]⟩
def starK : ByteArray := ⟨#[42]⟩
def rulK : ByteArray := ⟨#[114, 117, 108, 101, 40]⟩
def pluK : ByteArray := ⟨#[43]⟩
def cxK : ByteArray := ⟨#[41, 120]⟩
def hbK : ByteArray := ⟨#[104, 98, 111, 120]⟩
def vbK : ByteArray := ⟨#[118, 98, 111, 120]⟩
def opK : ByteArray := ⟨#[40]⟩
def gsetK : ByteArray := ⟨#[44, 32, 103, 108, 117, 101, 32, 115, 101, 116, 32]⟩
def gspK : ByteArray := ⟨#[44, 32, 103, 108, 117, 101, 32, 115, 101, 116, 32, 43, 32]⟩
def gsmK : ByteArray := ⟨#[44, 32, 103, 108, 117, 101, 32, 115, 101, 116, 32, 45, 32]⟩
def miK : ByteArray := ⟨#[45]⟩
def slK : ByteArray := ⟨#[47]⟩
def shfK : ByteArray := ⟨#[44, 32, 115, 104, 105, 102, 116, 101, 100, 32]⟩
def gluK : ByteArray := ⟨#[103, 108, 117, 101, 32]⟩
def krnK : ByteArray := ⟨#[107, 101, 114, 110, 32]⟩
def accK : ByteArray := ⟨#[32, 40, 102, 111, 114, 32, 97, 99, 99, 101, 110, 116, 41]⟩
def penK : ByteArray := ⟨#[112, 101, 110, 97, 108, 116, 121, 32]⟩
def dscK : ByteArray := ⟨#[100, 105, 115, 99, 114, 101, 116, 105, 111, 110, 97, 114, 121, 32, 114, 101, 112, 108, 97, 99, 105, 110, 103, 32]⟩
def mrkK : ByteArray := ⟨#[109, 97, 114, 107, 123]⟩
def spcK : ByteArray := ⟨#[115, 112, 101, 99, 105, 97, 108, 123]⟩
def cbK : ByteArray := ⟨#[125]⟩
def insK : ByteArray := ⟨#[105, 110, 115, 101, 114, 116, 32]⟩
def natK : ByteArray := ⟨#[44, 32, 110, 97, 116, 117, 114, 97, 108, 32, 115, 105, 122, 101, 32]⟩
def splK : ByteArray := ⟨#[59, 32, 115, 112, 108, 105, 116, 40]⟩
def comK : ByteArray := ⟨#[44]⟩
def floK : ByteArray := ⟨#[41, 59, 32, 102, 108, 111, 97, 116, 32, 99, 111, 115, 116, 32]⟩
def monK : ByteArray := ⟨#[109, 97, 116, 104, 111, 110]⟩
def mofK : ByteArray := ⟨#[109, 97, 116, 104, 111, 102, 102]⟩
def surK : ByteArray := ⟨#[44, 32, 115, 117, 114, 114, 111, 117, 110, 100, 101, 100, 32]⟩
def adjK : ByteArray := ⟨#[97, 100, 106, 117, 115, 116]⟩
def etcK : ByteArray := ⟨#[101, 116, 99, 46, 10]⟩
def nlK : ByteArray := ⟨#[10]⟩
def brK : ByteArray := ⟨#[32, 91, 93]⟩
def dotK : ByteArray := ⟨#[46]⟩
def barK : ByteArray := ⟨#[124]⟩
def hatK : ByteArray := ⟨#[94, 94]⟩
def filK : ByteArray := ⟨#[102, 105, 108]⟩
def fillK : ByteArray := ⟨#[102, 105, 108, 108]⟩
def filllK : ByteArray := ⟨#[102, 105, 108, 108, 108]⟩
def plusK : ByteArray := ⟨#[32, 112, 108, 117, 115, 32]⟩
def minusK : ByteArray := ⟨#[32, 109, 105, 110, 117, 115, 32]⟩
def brnlK : ByteArray := ⟨#[32, 91, 93, 10]⟩

/-- A byte, as it is shown. -/
def hx (k : Nat) : UInt8 := if k < 10 then UInt8.ofNat (48 + k) else UInt8.ofNat (87 + k)
def byT (c : Nat) : ByteArray := if 32 ≤ c ∧ c ≤ 126 then ⟨#[UInt8.ofNat c]⟩ else ⟨#[94, 94, hx (c / 16), hx (c % 16)]⟩
def byA : List UInt8 → ByteArray
  | [] => ⟨#[]⟩
  | c :: l => byT c.toNat ++ byA l
/-- A whole number. -/
def itT (n : Int) : ByteArray := if n < 0 then miK ++ numT (-n).toNat else numT n.toNat
def starT (x : Int) (b : Bool) : ByteArray := if b = true then starK else prS x
def ordT (o : Int) : ByteArray := S (Gl.unL o)
def boxT (name : ByteArray) (n : Nd) : ByteArray :=
  let a := name ++ (opK ++ prS n.ht ++ pluK ++ prS n.dp ++ cxK ++ prS n.wd)
  let b := if n.sign = 0 then a else a ++ (gsetK ++ (if n.sign = 1 then pluK else miK) ++ spK ++ itT n.num ++ slK ++ itT n.den ++ ordT n.order)
  if n.shift = 0 then b else b ++ (shfK ++ prS n.shift)
/-- The line of a node; k: how many items its third list has, if it is a Disc. -/
def lineT (n : Nd) (k : Nat) : ByteArray :=
  if n.kind = 1 then itT n.font ++ spK ++ byT n.char.toNat
  else if n.kind = 2 then itT n.font ++ spK ++ byT n.char.toNat ++ ligK ++ byA n.text.data.toList ++ clK
  else if n.kind = 3 then rulK ++ starT n.ht (decide (2 ≤ n.sub)) ++ pluK ++ starT n.dp (decide (2 ≤ n.sub)) ++ cxK ++ starT n.wd (decide (n.sub % 2 = 1))
  else if n.kind = 4 then boxT hbK n
  else if n.kind = 5 then boxT vbK n
  else if n.kind = 7 then gluK ++ Gl.shT n.gn n.gs n.gh n.ga n.gb
  else if n.kind = 8 then (if n.sub = 2 then krnK ++ prS n.wd ++ accK else krnK ++ prS n.wd)
  else if n.kind = 9 then penK ++ itT n.pen
  else if n.kind = 10 then dscK ++ numT k
  else if n.kind = 12 then mrkK ++ byA n.text.data.toList ++ cbK
  else if n.kind = 14 then spcK ++ byA n.text.data.toList ++ cbK
  else if n.kind = 13 then insK ++ itT n.sub ++ natK ++ prS n.ht ++ splK ++ Gl.shT n.gn n.gs n.gh n.ga n.gb ++ comK ++ prS n.dp ++ floK ++ itT n.pen
  else if n.kind = 17 then adjK
  else if n.wd = 0 then (if n.kind = 16 then mofK else monK) else (if n.kind = 16 then mofK else monK) ++ (surK ++ prS n.wd)
/-- What stands within an item, and behind it. -/
noncomputable def ssD (l : List Nd) (m : Nat) : List Nat := Classical.epsilon (fun ss => D3 ss l 0 (m - 2))
theorem ssD_is {ns : List Nd} {a m : Nat} {n : Nd} (h : chk ns = 0) (hn : ns[a]? = some n) (h10 : n.kind = 10) (hm : endc (ns.drop a) 0 = some m) : 2 ≤ m ∧ D3 (ssD (ns.drop (a + 1)) m) (ns.drop (a + 1)) 0 (m - 2) := by
  obtain ⟨h2, ss, hs⟩ := disc_steps h hn h10 hm
  exact ⟨h2, Classical.epsilon_spec (p := fun ss => D3 ss (ns.drop (a + 1)) 0 (m - 2)) ⟨ss, hs⟩⟩
noncomputable def inL (l : List Nd) (a m : Nat) (x : Nd) : List Nd := if x.kind = 10 then thr (ssD (l.drop (a + 1)) m) (l.drop (a + 1)) 0 0 else if opensB x = true then (l.drop (a + 1)).take (m - 2) else []
noncomputable def beL (l : List Nd) (a m : Nat) (x : Nd) : List Nd := if x.kind = 10 then thr (ssD (l.drop (a + 1)) m) (l.drop (a + 1)) 0 1 else []
noncomputable def thK (l : List Nd) (a m : Nat) (x : Nd) : Nat := if x.kind = 10 then (itsD (thr (ssD (l.drop (a + 1)) m) (l.drop (a + 1)) 0 2)).length else 0
noncomputable def nodeAt (l : List Nd) (a : Nat) : Nd := l.getD a (nz 0)
noncomputable def lenAt (l : List Nd) (a : Nat) : Nat := (endc (l.drop a) 0).getD 0
/-- An item's text; f: of a list. -/
noncomputable def itemT (f : List Nd → ByteArray → ByteArray → Int → ByteArray) (l : List Nd) (ahead bar : ByteArray) (deep : Int) (a : Nat) : ByteArray :=
  let x := nodeAt l a
  let m := lenAt l a
  let line := ahead ++ bar ++ lineT x (thK l a m x)
  if (inL l a m x).length + (beL l a m x).length = 0 then line ++ nlK
  else if deep ≤ 1 then line ++ brK ++ nlK
  else line ++ nlK ++ f (inL l a m x) (ahead ++ dotK) bar (deep - 1) ++ f (beL l a m x) (ahead ++ dotK) (bar ++ barK) (deep - 1)
noncomputable def itemsT (many : Int) (f : List Nd → ByteArray → ByteArray → Int → ByteArray) (l : List Nd) (ahead bar : ByteArray) (deep : Int) : List Nat → Nat → ByteArray
  | [], _ => ⟨#[]⟩
  | a :: xs, i => if (i : Int) = many then ahead ++ bar ++ etcK else itemT f l ahead bar deep a ++ itemsT many f l ahead bar deep xs (i + 1)
noncomputable def shw (many : Int) : Nat → List Nd → ByteArray → ByteArray → Int → ByteArray
  | 0, _, _, _, _ => ⟨#[]⟩
  | f + 1, l, ahead, bar, deep => itemsT many (shw many f) l ahead bar deep (itsD l) 0

/-! ### sizes -/
theorem byT_size (c : Nat) : (byT c).size ≤ 4 := by
  unfold byT
  split
  · show 1 ≤ 4; omega
  · show 4 ≤ 4; omega
theorem byA_size : ∀ l : List UInt8, (byA l).size ≤ 4 * l.length
  | [] => Nat.le_refl _
  | c :: l => by
    rw [byA, ByteArray.size_append]
    have h1 := byT_size c.toNat
    have h2 := byA_size l
    rw [List.length_cons]
    omega
theorem itT_size {n : Int} (h0 : -9223372036854775807 ≤ n) (h1 : n ≤ 9223372036854775807) : (itT n).size ≤ 21 := by
  unfold itT
  split
  · rw [ByteArray.size_append]
    have := numT_size (n := (-n).toNat) (by omega)
    have h2 : miK.size = 1 := rfl
    omega
  · have := numT_size (n := n.toNat) (by omega)
    omega
theorem starT_size (x : Int) (b : Bool) : (starT x b).size ≤ 40 := by
  unfold starT
  split
  · show 1 ≤ 40; omega
  · exact Gl.prS_size x
theorem ordT_size (o : Int) : (ordT o).size ≤ 5 := by
  unfold ordT Gl.unL
  split
  · show 3 ≤ 5; omega
  · split
    · show 4 ≤ 5; omega
    · split
      · show 5 ≤ 5; omega
      · show 0 ≤ 5; omega
theorem shT_size (n s h a b : Int) : (Gl.shT n s h a b).size ≤ 160 := by
  unfold Gl.shT
  split
  · rw [ByteArray.size_append, ByteArray.size_append]
    have h1 := Gl.prS_size n
    have h2 := Gl.amT_size (t := Gl.plusT) s a (by decide)
    have h3 := Gl.amT_size (t := Gl.minusT) h b (by decide)
    omega
  · show 0 ≤ 160; omega
theorem cst_sizes : (spK.size, ligK.size, clK.size, starK.size, rulK.size, pluK.size, cxK.size, hbK.size, vbK.size, opK.size, gsetK.size, miK.size, slK.size, shfK.size, gluK.size, krnK.size, accK.size, penK.size, dscK.size, mrkK.size, spcK.size, cbK.size, insK.size, natK.size, splK.size, comK.size, floK.size, monK.size, mofK.size, surK.size, adjK.size, etcK.size, nlK.size, brK.size, dotK.size, barK.size) = (1, 11, 1, 1, 5, 1, 2, 4, 4, 1, 11, 1, 1, 10, 5, 5, 13, 8, 24, 5, 8, 1, 7, 15, 8, 1, 14, 6, 7, 13, 6, 5, 1, 3, 1, 1) := rfl
theorem box_size {name : ByteArray} {n : Nd} (hn : name.size = 4) (h : gBox n = true) : (boxT name n).size ≤ 300 := by
  have hc := cst_sizes
  simp only [Prod.mk.injEq] at hc
  obtain ⟨c1, _, _, _, _, c6, c7, _, _, c10, c11, c12, c13, c14, _⟩ := hc
  have h1 := Gl.prS_size n.ht
  have h2 := Gl.prS_size n.dp
  have h3 := Gl.prS_size n.wd
  have h4 := Gl.prS_size n.shift
  have h5 := ordT_size n.order
  have hb : (if n.sign = 0 then name ++ (opK ++ prS n.ht ++ pluK ++ prS n.dp ++ cxK ++ prS n.wd) else name ++ (opK ++ prS n.ht ++ pluK ++ prS n.dp ++ cxK ++ prS n.wd) ++ (gsetK ++ (if n.sign = 1 then pluK else miK) ++ spK ++ itT n.num ++ slK ++ itT n.den ++ ordT n.order)).size ≤ 240 := by
    by_cases hs : n.sign = 0
    · rw [if_pos hs]
      simp only [ByteArray.size_append]
      omega
    · rw [if_neg hs]
      unfold gBox at h
      rw [if_neg hs] at h
      simp only [Bool.and_eq_true, winB, decide_eq_true_eq] at h
      obtain ⟨_, ⟨⟨⟨⟨_, _⟩, hn1⟩, hd1⟩, _⟩⟩ := h
      have h6 := itT_size (n := n.num) (by omega) (by omega)
      have h7 := itT_size (n := n.den) (by omega) (by omega)
      have h8 : (if n.sign = 1 then pluK else miK).size = 1 := by split <;> rfl
      simp only [ByteArray.size_append]
      omega
  unfold boxT
  simp only
  by_cases hs : n.shift = 0
  · rw [if_pos hs]; omega
  · rw [if_neg hs, ByteArray.size_append, ByteArray.size_append]; omega
set_option maxRecDepth 100000 in
theorem line_size {n : Nd} (hr : right n = true) {k : Nat} (hk : k ≤ 2000) : (lineT n k).size ≤ 4600 := by
  have hc := cst_sizes
  simp only [Prod.mk.injEq] at hc
  obtain ⟨c1, c2, c3, c4, c5, c6, c7, c8, c9, c10, c11, c12, c13, c14, c15, c16, c17, c18, c19, c20, c21, c22, c23, c24, c25, c26, c27, c28, c29, c30, c31, _⟩ := hc
  have hkk : 1 ≤ n.kind ∧ n.kind ≤ 17 := by
    unfold right at hr
    simp only [Bool.and_eq_true, winB, decide_eq_true_eq] at hr
    exact hr.1
  have h1 := Gl.prS_size n.ht
  have h2 := Gl.prS_size n.dp
  have h3 := Gl.prS_size n.wd
  have h4 := byT_size n.char.toNat
  have h5 := byA_size n.text.data.toList
  have h6 := shT_size n.gn n.gs n.gh n.ga n.gb
  have h7 := starT_size n.ht (decide (2 ≤ n.sub))
  have h8 := starT_size n.dp (decide (2 ≤ n.sub))
  have h9 := starT_size n.wd (decide (n.sub % 2 = 1))
  have hts : n.text.data.toList.length = n.text.size := by rw [Array.length_toList]; rfl
  rw [hts] at h5
  have hx := numT_size (n := k) (by omega)
  have gk : ∀ j : Nat, n.kind = (j : Int) → goodK j n = true := fun j hj => right_kind hr hj
  unfold lineT
  by_cases k1 : n.kind = 1
  · rw [if_pos k1]
    have g := gk 1 k1
    simp only [goodK, gGlyph, Bool.and_eq_true, winB, decide_eq_true_eq] at g
    have := itT_size (n := n.font) (by omega) (by omega)
    simp only [ByteArray.size_append]; omega
  rw [if_neg k1]
  by_cases k2 : n.kind = 2
  · rw [if_pos k2]
    have g := gk 2 k2
    simp only [goodK, gGlyph, Bool.and_eq_true, winB, decide_eq_true_eq] at g
    have := itT_size (n := n.font) (by omega) (by omega)
    simp only [ByteArray.size_append]; omega
  rw [if_neg k2]
  by_cases k3 : n.kind = 3
  · rw [if_pos k3]; simp only [ByteArray.size_append]; omega
  rw [if_neg k3]
  by_cases k4 : n.kind = 4
  · rw [if_pos k4]
    have := box_size (name := hbK) rfl (gk 4 k4)
    omega
  rw [if_neg k4]
  by_cases k5 : n.kind = 5
  · rw [if_pos k5]
    have := box_size (name := vbK) rfl (gk 5 k5)
    omega
  rw [if_neg k5]
  by_cases k7 : n.kind = 7
  · rw [if_pos k7]; simp only [ByteArray.size_append]; omega
  rw [if_neg k7]
  by_cases k8 : n.kind = 8
  · rw [if_pos k8]
    split
    · simp only [ByteArray.size_append]; omega
    · simp only [ByteArray.size_append]; omega
  rw [if_neg k8]
  by_cases k9 : n.kind = 9
  · rw [if_pos k9]
    have g := gk 9 k9
    simp only [goodK, winB, decide_eq_true_eq] at g
    have := itT_size (n := n.pen) (by omega) (by omega)
    simp only [ByteArray.size_append]; omega
  rw [if_neg k9]
  by_cases k10 : n.kind = 10
  · rw [if_pos k10]; simp only [ByteArray.size_append]; omega
  rw [if_neg k10]
  by_cases k12 : n.kind = 12
  · rw [if_pos k12]
    have g := gk 12 k12
    simp only [goodK, decide_eq_true_eq] at g
    simp only [ByteArray.size_append]; omega
  rw [if_neg k12]
  by_cases k14 : n.kind = 14
  · rw [if_pos k14]
    have g := gk 14 k14
    simp only [goodK, decide_eq_true_eq] at g
    simp only [ByteArray.size_append]; omega
  rw [if_neg k14]
  by_cases k13 : n.kind = 13
  · rw [if_pos k13]
    have g := gk 13 k13
    simp only [goodK, gIns, Bool.and_eq_true, winB, decide_eq_true_eq] at g
    have e1 := itT_size (n := n.sub) (by omega) (by omega)
    have e2 := itT_size (n := n.pen) (by omega) (by omega)
    simp only [ByteArray.size_append]; omega
  rw [if_neg k13]
  by_cases k17 : n.kind = 17
  · rw [if_pos k17]; omega
  rw [if_neg k17]
  have hm : (if n.kind = 16 then mofK else monK).size ≤ 7 := by split <;> omega
  split
  · omega
  · simp only [ByteArray.size_append]; omega
end Go.Proofs.YtmcekdjhkjhcdaaGreatDoor.Sw
end
section
namespace Go.Proofs.YtmcekdjhkjhcdaaGreatDoor.Np
theorem TB.mono {k m : Nat} {T : Tot} (h : TB k T) (hk : k ≤ m) : TB m T := by
  obtain ⟨h1, h2, h3, h4, h5⟩ := h
  exact ⟨by omega, h2, h3, fun i => by have := h4 i; omega, fun i => by have := h5 i; omega⟩
theorem tsum_tb (ns : List Nd) (al : Nat → Int) (hr : ∀ x ∈ ns, right x = true) : ∀ (xs : List Nat) (T : Tot) (k : Nat), (∀ x ∈ xs, -4294967292000 ≤ al x ∧ al x ≤ 4294967292000) → TB k T → TB (k + xs.length) (tsum ns al xs T)
  | [], T, k, h, hT => by simpa [tsum] using hT
  | x :: xs, T, k, h, hT => by
    have hx := h x (by simp)
    have hxs : ∀ y ∈ xs, -4294967292000 ≤ al y ∧ al y ≤ 4294967292000 := fun y hy => h y (by simp [hy])
    simp only [tsum, List.length_cons]
    have e : k + (xs.length + 1) = (k + 1) + xs.length := by omega
    rw [e]
    split
    · exact tsum_tb ns al hr xs T (k + 1) hxs (hT.mono (by omega))
    · rename_i n hn
      exact tsum_tb ns al hr xs _ (k + 1) hxs (hT.step (hr n (List.mem_of_getElem? hn)) hx)
theorem totD_tb {l : List Nd} {xs : List Nat} (down : Bool) (h : chk l = 0) (hx : Its xs l 0) : TB 2000 (totD l down xs) := by
  have h1 := tsum_tb l (alD l down) (chk_right h) xs tz 0 (fun x hm => alV_bd h (alD_spec down h hx x hm)) TB.zero
  have h2 := hx.len
  have h3 : l.length ≤ 2000 := by
    unfold chk at h
    split at h
    · cases h
    · omega
  exact TB.mono h1 (by omega)
/-- What the law of joined lists asks of the three totals. -/
structure J3 (T U V : Tot) : Prop where
  nat : V.nat = IntKind.i64.wrap (T.nat + U.nat)
  st : ∀ i : Nat, V.st.getD i 0 = IntKind.i64.wrap (T.st.getD i 0 + U.st.getD i 0)
  sh : ∀ i : Nat, V.sh.getD i 0 = IntKind.i64.wrap (T.sh.getD i 0 + U.sh.getD i 0)
theorem j3_of {a b : List Nd} {xs ys : List Nat} (down : Bool) (ha : chk a = 0) (hb : chk b = 0) (hx : Its xs a 0) (hy : Its ys b 0) :
    J3 (totD a down xs) (totD b down ys) (totD (a ++ b) down (xs ++ ys.map (a.length + ·))) := by
  have h := tot_join down ha hb hx hy
  have b1 := totD_tb down ha hx
  have b2 := totD_tb down hb hy
  refine ⟨?_, fun i => ?_, fun i => ?_⟩
  · have h1 := b1.nat
    have h2 := b2.nat
    rw [IntWalk.i64_in _ (by omega), h.nat]
    omega
  · have h1 := b1.st i
    have h2 := b2.st i
    rw [IntWalk.i64_in _ (by omega), h.st i]
    omega
  · have h1 := b1.sh i
    have h2 := b2.sh i
    rw [IntWalk.i64_in _ (by omega), h.sh i]
    omega
end Go.Proofs.YtmcekdjhkjhcdaaGreatDoor.Np
end
section
namespace Go.Proofs.YtmcekdjhkjhcdaaGreatDoor.Np
set_option linter.unusedVariables false
set_option linter.unusedSimpArgs false

/-- One node more, from less deep. -/
theorem stp_free {st st1 : List Int} {d d1 : Int} {x : Nd} (h : stp (st, d) x = some (st1, d1)) : d ≤ d1 ∧ ∀ e, e ≤ d → ∃ e1, stp (st, e) x = some (st1, e1) ∧ e1 ≤ d1 := by
  by_cases hR : right x = true
  · by_cases k6 : x.kind = 6
    · cases st with
      | nil => simp [stp, hR, k6] at h
      | cons t r =>
        by_cases ht : 0 < t
        · simp [stp, hR, k6, ht] at h
        · simp [stp, hR, k6, ht] at h
          obtain ⟨rfl, rfl⟩ := h
          exact ⟨Int.le_refl _, fun e he => ⟨e, by simp [stp, hR, k6, ht], he⟩⟩
    · by_cases k11 : x.kind = 11
      · cases st with
        | nil => simp [stp, hR, k6, k11] at h
        | cons t r =>
          by_cases ht : t < 1
          · simp [stp, hR, k6, k11, ht] at h
          · simp [stp, hR, k6, k11, ht] at h
            obtain ⟨rfl, rfl⟩ := h
            exact ⟨Int.le_refl _, fun e he => ⟨e, by simp [stp, hR, k6, k11, ht], he⟩⟩
      · cases hb : blocked st x
        · rw [stp_other hR k6 k11 hb] at h
          simp only [Option.some.injEq, Prod.mk.injEq] at h
          obtain ⟨h1, h2⟩ := h
          refine ⟨by omega, fun e he => ⟨max e (st.length + 1), ?_, by omega⟩⟩
          rw [stp_other hR k6 k11 hb]
          simp [h1]
        · rw [stp_blocked hR k6 k11 hb] at h
          cases h
  · simp [stp, hR] at h
theorem run_free : ∀ {l : List Nd} {st st1 : List Int} {d d1 : Int}, run l (st, d) = some (st1, d1) → d ≤ d1 ∧ ∀ e, e ≤ d → ∃ e1, run l (st, e) = some (st1, e1) ∧ e1 ≤ d1
  | [], st, st1, d, d1, h => by
    simp only [run, Option.some.injEq, Prod.mk.injEq] at h
    obtain ⟨rfl, rfl⟩ := h
    exact ⟨Int.le_refl _, fun e he => ⟨e, rfl, he⟩⟩
  | x :: l, st, st1, d, d1, h => by
    simp only [run] at h
    cases hs : stp (st, d) x with
    | none => rw [hs] at h; cases h
    | some s2 =>
      obtain ⟨st2, d2⟩ := s2
      rw [hs] at h
      simp only at h
      obtain ⟨g1, g2⟩ := stp_free hs
      obtain ⟨g3, g4⟩ := run_free h
      refine ⟨by omega, fun e he => ?_⟩
      obtain ⟨e1, h1, h2⟩ := g2 e he
      obtain ⟨e3, h3, h4⟩ := g4 e1 h2
      exact ⟨e3, by simp only [run, h1]; exact h3, h4⟩
/-- One node more, within a box. -/
theorem stp_boxd {st s1 : List Int} {d d1 e : Int} {x : Nd} (h : stp (st ++ [-1], d) x = some (s1, d1)) (hc : ¬ s1.length = 0) (he : e + 1 ≤ d) : ∃ st1 e1, s1 = st1 ++ [-1] ∧ stp (st, e) x = some (st1, e1) ∧ e1 + 1 ≤ d1 := by
  by_cases hR : right x = true
  · by_cases k6 : x.kind = 6
    · cases st with
      | nil =>
        simp [stp, hR, k6] at h
        obtain ⟨h1, _⟩ := h
        exact absurd (by rw [h1]; rfl) hc
      | cons t r =>
        simp only [List.cons_append] at h
        by_cases ht : 0 < t
        · simp [stp, hR, k6, ht] at h
        · simp [stp, hR, k6, ht] at h
          obtain ⟨rfl, rfl⟩ := h
          exact ⟨r, e, rfl, by simp [stp, hR, k6, ht], he⟩
    · by_cases k11 : x.kind = 11
      · cases st with
        | nil => simp [stp, hR, k6, k11] at h
        | cons t r =>
          simp only [List.cons_append] at h
          by_cases ht : t < 1
          · simp [stp, hR, k6, k11, ht] at h
          · simp [stp, hR, k6, k11, ht] at h
            obtain ⟨rfl, rfl⟩ := h
            exact ⟨(t - 1) :: r, e, rfl, by simp [stp, hR, k6, k11, ht], he⟩
      · have hbb : blocked (st ++ [-1]) x = blocked st x := by cases st <;> simp [blocked]
        cases hb : blocked st x
        · rw [stp_other hR k6 k11 (by rw [hbb, hb])] at h
          simp only [Option.some.injEq, Prod.mk.injEq] at h
          obtain ⟨h1, h2⟩ := h
          refine ⟨if opensB x = true then (if x.kind = 10 then 2 else -1) :: st else st, max e (st.length + 1), ?_, ?_, ?_⟩
          · rw [← h1]
            split <;> simp
          · rw [stp_other hR k6 k11 hb]
          · rw [← h2]
            simp only [List.length_append, List.length_cons, List.length_nil]
            omega
        · rw [stp_blocked hR k6 k11 (by rw [hbb, hb])] at h
          cases h
  · simp [stp, hR] at h
theorem run_base : ∀ {l : List Nd} {st s1 : List Int} {d d1 e : Int}, run l (st ++ [-1], d) = some (s1, d1) → endc l (st.length + 1) = none → e + 1 ≤ d → ∃ st1 e1, s1 = st1 ++ [-1] ∧ run l (st, e) = some (st1, e1) ∧ e1 + 1 ≤ d1
  | [], st, s1, d, d1, e, h, hc, he => by
    simp only [run, Option.some.injEq, Prod.mk.injEq] at h
    obtain ⟨rfl, rfl⟩ := h
    exact ⟨st, e, rfl, rfl, he⟩
  | x :: l, st, s1, d, d1, e, h, hc, he => by
    simp only [run] at h
    cases hs : stp (st ++ [-1], d) x with
    | none => rw [hs] at h; cases h
    | some s2 =>
      obtain ⟨st2, d2⟩ := s2
      rw [hs] at h
      simp only at h
      have hcn := stp_cnt hs
      simp only [List.length_append, List.length_cons, List.length_nil, Int.natCast_add, Int.natCast_zero] at hcn
      have e1 : ((st.length : Int) + ((0 : Int) + 1)) = st.length + 1 := by omega
      have hcn' : (st2.length : Int) = cnt x (st.length + 1) := by
        rw [hcn]
        congr 1
      simp only [endc] at hc
      split at hc
      · cases hc
      · rename_i hne
        have hc2 : endc l (cnt x (st.length + 1)) = none := by
          cases hh : endc l (cnt x (st.length + 1)) with
          | none => rfl
          | some v => rw [hh] at hc; cases hc
        obtain ⟨st3, e3, rfl, h3, h4⟩ := stp_boxd hs (by omega) he
        obtain ⟨st4, e4, rfl, h5, h6⟩ := run_base h (by
          rw [← hcn'] at hc2
          simpa using hc2) h4
        exact ⟨st4, e4, rfl, by simp only [run, h3]; exact h5, h6⟩
/-- Contents within a node. -/
def wrapL (n : Nd) (l : List Nd) : List Nd := n :: (l ++ [nz 6])
theorem right_end {z : Nd} (h : right z = true) (k : z.kind = 6) : z = nz 6 := by
  simp only [right, k] at h
  simp only [Bool.and_eq_true] at h
  have := (eqB_iff _ _).1 h.2.2
  exact this
/-- An item that opens, Discs apart: its contents are a list, and it is they, wrapped. -/
theorem item_wrap {p : List Nd} {x : Nd} {m : Nat} (hc : chk p = 0) (hm : endc p 0 = some m) (hl : p.length = m) (hx : p[0]? = some x) (h1 : 2 ≤ m) (h10 : ¬ x.kind = 10) :
    right x = true ∧ opensB x = true ∧ p = wrapL x ((p.drop 1).take (m - 2)) ∧ chk ((p.drop 1).take (m - 2)) = 0 := by
  obtain ⟨hl2, d, hrun, hd⟩ := chk_run hc
  have hrr := run_right hrun
  cases p with
  | nil => simp at hx
  | cons y q =>
    simp at hx
    subst hx
    have hR := hrr y (by simp)
    simp only [run] at hrun
    have hol : opensB y = true ∧ stp ([], 0) y = some ([-1], 1) := by
      cases hs : stp ([], 0) y with
      | none => rw [hs] at hrun; cases hrun
      | some s2 =>
        have k6 : ¬ y.kind = 6 := fun k6 => by simp [stp, hR, k6] at hs
        have k11 : ¬ y.kind = 11 := fun k11 => by simp [stp, hR, k6, k11] at hs
        have ho : opensB y = true := by
          rcases (show m = 1 ∨ ¬ cnt y 0 = 0 by
            simp only [endc] at hm
            split at hm
            · left; simpa using hm.symm
            · right; assumption) with h | h
          · omega
          · by_cases ho : opensB y = true
            · exact ho
            · simp [cnt, ho, k6] at h
        rw [stp_other hR k6 k11 rfl] at hs
        refine ⟨ho, ?_⟩
        rw [← hs]
        simp [ho, h10]
        rfl
    obtain ⟨ho, hs⟩ := hol
    rw [hs] at hrun
    simp only at hrun
    have hq : q.length = m - 1 := by simp at hl; omega
    obtain ⟨inner, z, rfl⟩ : ∃ inner z, q = inner ++ [z] := by
      have : q ≠ [] := by rintro rfl; simp at hq; omega
      exact ⟨q.dropLast, q.getLast this, (List.dropLast_concat_getLast this).symm⟩
    have hil : inner.length = m - 2 := by simp at hq; omega
    have hin : ((y :: (inner ++ [z])).drop 1).take (m - 2) = inner := by
      simp only [List.drop_succ_cons, List.drop_zero]
      rw [← hil, List.take_left]
    rw [hin]
    have he : endc (inner ++ [z]) 1 = some (m - 1) := by
      simp only [endc] at hm
      have hcy : cnt y 0 = 1 := by simp [cnt, ho]
      rw [hcy] at hm
      simp at hm
      obtain ⟨v, hv, hv2⟩ := hm
      rw [hv]
      congr 1
      omega
    have hen : endc inner 1 = none := by
      cases hh : endc inner 1 with
      | none => rfl
      | some v =>
        have h5 := endc_more [z] hh
        rw [he] at h5
        have h6 := (endc_bd hh).2
        simp at h5
        omega
    rw [run_append] at hrun
    cases hri : run inner ([-1], 1) with
    | none => rw [hri] at hrun; cases hrun
    | some s2 =>
      obtain ⟨st2, d2⟩ := s2
      rw [hri] at hrun
      simp only [Option.bind_some, run] at hrun
      obtain ⟨st1, e1, rfl, h5, h6⟩ := run_base (st := []) (e := 0) hri (by simpa using hen) (by omega)
      cases hz : stp (st1 ++ [-1], d2) z with
      | none => rw [hz] at hrun; cases hrun
      | some s3 =>
        rw [hz] at hrun
        simp only [Option.some.injEq] at hrun
        subst hrun
        have hcn := stp_cnt hz
        have hzr := hrr z (by simp)
        have hle := cnt_least z ((st1 ++ [-1]).length : Int)
        simp only [List.length_append, List.length_cons, List.length_nil] at hcn hle
        have hs0 : st1 = [] := List.eq_nil_of_length_eq_zero (by omega)
        subst hs0
        have hz6 : z.kind = 6 := by
          unfold cnt at hcn
          simp at hcn
          split at hcn
          · omega
          · split at hcn
            · assumption
            · omega
        have hd2 := (stp_free hz).1
        refine ⟨hR, ho, by rw [right_end hzr hz6]; rfl, chk_of (by simp at hl2; omega) h5 (by omega)⟩
/-- Where a walk over the items stands. -/
structure Stand (l : List Nd) (a : Nat) (ys : List Nat) : Prop where
  its : Its ys (l.drop a) a
  run : ∃ da dl, 0 ≤ da ∧ dl ≤ 40 ∧ run (l.drop a) ([], da) = some ([], dl)
  le : a ≤ l.length
theorem stand0 {l : List Nd} {xs : List Nat} (h : chk l = 0) (hx : Its xs l 0) : Stand l 0 xs := by
  obtain ⟨_, d, h1, h2⟩ := chk_run h
  exact ⟨hx, ⟨0, d, Int.le_refl _, h2, h1⟩, Nat.zero_le _⟩
theorem Stand.step {l : List Nd} {a : Nat} {ys : List Nat} (h : Stand l a ys) (hl : l.length ≤ 2000) (ha : a < l.length) : ∃ (m : Nat) (zs : List Nat) (x : Nd), ys = a :: zs ∧ endc (l.drop a) 0 = some m ∧ 1 ≤ m ∧ a + m ≤ l.length ∧ Stand l (a + m) zs ∧ chk ((l.drop a).take m) = 0 ∧
    l[a]? = some x ∧ ¬ x.kind = 6 ∧ ¬ x.kind = 11 := by
  obtain ⟨hi, ⟨da, dl, h0, h40, hr⟩, hle⟩ := h
  have hne : l.drop a ≠ [] := by
    intro hh
    have := congrArg List.length hh
    simp at this
    omega
  cases ys with
  | nil => exact absurd hi hne
  | cons y zs =>
    obtain ⟨rfl, m, hm, hz⟩ := hi
    obtain ⟨m', d1, hm', hr1, hr2⟩ := run_item hr hne
    have : m' = m := by
      have e : endc (l.drop y) 0 = some m' := by simpa using hm'
      rw [hm] at e
      simpa using e.symm
    subst this
    have hb := endc_bd hm
    rw [List.length_drop] at hb
    obtain ⟨g1, _⟩ := run_free hr2
    obtain ⟨g2, g3⟩ := run_free hr1
    obtain ⟨e1, g4, g5⟩ := g3 0 h0
    obtain ⟨x, hx⟩ : ∃ x, l[y]? = some x := ⟨_, List.getElem?_eq_getElem ha⟩
    have hcons : l.drop y = x :: l.drop (y + 1) := by
      rw [List.drop_eq_getElem_cons ha]
      have : l[y] = x := by
        have := List.getElem?_eq_getElem ha
        rw [hx] at this
        simpa using this.symm
      rw [this]
    refine ⟨m', zs, x, rfl, hm, hb.1, by omega, ⟨?_, ⟨d1, dl, by omega, h40, ?_⟩, by omega⟩, chk_of (by simp only [List.length_take, List.length_drop]; omega) g4 (by omega), hx, ?_, ?_⟩
    · rw [List.drop_drop] at hz
      exact hz
    · rw [List.drop_drop] at hr2
      exact hr2
    · intro k6
      rw [hcons] at hr
      simp only [Np.run] at hr
      by_cases hR : right x = true
      · simp [stp, hR, k6] at hr
      · simp [stp, hR] at hr
    · intro k11
      rw [hcons] at hr
      simp only [Np.run] at hr
      by_cases hR : right x = true
      · simp [stp, hR, k11] at hr
      · simp [stp, hR] at hr
theorem Stand.done {l : List Nd} {ys : List Nat} (h : Stand l l.length ys) : ys = [] := by
  have hi := h.its
  rw [List.drop_length] at hi
  cases ys with
  | nil => rfl
  | cons y zs =>
    obtain ⟨_, m, hm, _⟩ := hi
    simp [endc] at hm
end Go.Proofs.YtmcekdjhkjhcdaaGreatDoor.Np
end
section
namespace Go.Proofs.YtmcekdjhkjhcdaaGreatDoor.Np
set_option linter.unusedVariables false
set_option linter.unusedSimpArgs false

theorem stp_off {st B s1 : List Int} {d d1 e : Int} {x : Nd} (h : stp (st ++ B, d) x = some (s1, d1)) (hx : st ≠ [] ∨ (¬ x.kind = 6 ∧ ¬ x.kind = 11)) (he : e ≤ d) : ∃ st1 e1, s1 = st1 ++ B ∧ stp (st, e) x = some (st1, e1) ∧ e1 ≤ d1 := by
  by_cases hR : right x = true
  · by_cases k6 : x.kind = 6
    · cases st with
      | nil => rcases hx with hx | hx; exact absurd rfl hx; exact absurd k6 hx.1
      | cons t r =>
        by_cases ht : 0 < t
        · simp [stp, hR, k6, ht] at h
        · simp [stp, hR, k6, ht] at h
          obtain ⟨rfl, rfl⟩ := h
          exact ⟨r, e, rfl, by simp [stp, hR, k6, ht], he⟩
    · by_cases k11 : x.kind = 11
      · cases st with
        | nil => rcases hx with hx | hx; exact absurd rfl hx; exact absurd k11 hx.2
        | cons t r =>
          by_cases ht : t < 1
          · simp [stp, hR, k6, k11, ht] at h
          · simp [stp, hR, k6, k11, ht] at h
            obtain ⟨rfl, rfl⟩ := h
            exact ⟨(t - 1) :: r, e, rfl, by simp [stp, hR, k6, k11, ht], he⟩
      · cases hb : blocked (st ++ B) x
        · have hb' : blocked st x = false := by
            cases st with
            | nil => rfl
            | cons t r => exact hb
          rw [stp_other hR k6 k11 hb] at h
          simp only [Option.some.injEq, Prod.mk.injEq] at h
          obtain ⟨h1, h2⟩ := h
          refine ⟨if opensB x = true then (if x.kind = 10 then 2 else -1) :: st else st, max e (st.length + 1), ?_, ?_, ?_⟩
          · rw [← h1]; split <;> rfl
          · rw [stp_other hR k6 k11 hb']
          · rw [List.length_append] at h2; push_cast at h2; omega
        · rw [stp_blocked hR k6 k11 hb] at h
          cases h
  · simp [stp, hR] at h
/-- An item, run by itself. -/
theorem run_off : ∀ {l : List Nd} {st B s1 : List Int} {d d1 e : Int}, run l (st ++ B, d) = some (s1, d1) → endc l st.length = some l.length → (st ≠ [] ∨ ∃ x, l.head? = some x ∧ ¬ x.kind = 6 ∧ ¬ x.kind = 11) → e ≤ d → ∃ e1, s1 = B ∧ run l (st, e) = some ([], e1) ∧ e1 ≤ d1
  | [], st, B, s1, d, d1, e, h, hm, hx, he => by simp [endc] at hm
  | x :: l, st, B, s1, d, d1, e, h, hm, hx, he => by
    simp only [run] at h
    cases hs : stp (st ++ B, d) x with
    | none => rw [hs] at h; cases h
    | some s2 =>
      obtain ⟨sa, d2⟩ := s2
      rw [hs] at h
      simp only at h
      have hx' : st ≠ [] ∨ (¬ x.kind = 6 ∧ ¬ x.kind = 11) := by
        rcases hx with hx | ⟨y, hy, h1, h2⟩
        · exact .inl hx
        · simp only [List.head?_cons, Option.some.injEq] at hy
          subst hy
          exact .inr ⟨h1, h2⟩
      obtain ⟨st2, e2, rfl, hs2, hle⟩ := stp_off hs hx' he
      have hc := stp_cnt hs2
      simp only [endc] at hm
      rw [← hc] at hm
      by_cases h0 : (st2.length : Int) = 0
      · rw [if_pos h0] at hm
        injection hm with hm
        have hl : l = [] := List.eq_nil_of_length_eq_zero (by simp only [List.length_cons] at hm; omega)
        have hst : st2 = [] := List.eq_nil_of_length_eq_zero (by omega)
        subst hl hst
        simp only [run, Option.some.injEq, Prod.mk.injEq] at h
        obtain ⟨rfl, rfl⟩ := h
        exact ⟨e2, rfl, by simp only [run, hs2], hle⟩
      · rw [if_neg h0] at hm
        rw [Option.map_eq_some_iff] at hm
        obtain ⟨k, hk, hkl⟩ := hm
        have hkl' : k = l.length := by simp only [List.length_cons] at hkl; omega
        subst hkl'
        obtain ⟨e1, h1, h2, h3⟩ := run_off h hk (.inl (fun e => h0 (by rw [e]; rfl))) hle
        exact ⟨e1, h1, by simp only [run, hs2]; exact h2, h3⟩
theorem chk_of_run {l : List Nd} {d : Int} (hl : l.length ≤ 2000) (h : run l ([], 0) = some ([], d)) (hd : d ≤ 40) : chk l = 0 := by
  unfold chk
  rw [if_neg (by omega), h]
  simp only [if_true]
  rw [if_neg (by omega)]
theorem thr_chk : ∀ {ss : List Nat} {l : List Nd} {t : Int} {st0 : List Int} {d : Int} {s' : St} {k r : Nat} (j : Nat), D3 ss l k r → run l (t :: st0, d) = some s' → s'.1.length ≤ st0.length → s'.2 ≤ 40 → 0 ≤ d → t = 2 - (k : Int) → r ≤ 2000 → chk (thr ss l k j) = 0
  | [], l, t, st0, d, s', k, r, j, h, hr, hs, h40, h0, ht, h2 => rfl
  | m :: ss, l, t, st0, d, s', k, r, j, h, hr, hs, h40, h0, ht, h2 => by
    obtain ⟨x, l', r', rfl, h6, h | h⟩ := h
    · obtain ⟨rfl, h11, hk, rfl, h3⟩ := h
      simp only [run] at hr
      cases h1 : stp (t :: st0, d) x with
      | none => rw [h1] at hr; cases hr
      | some s1 =>
        rw [h1] at hr
        simp only at hr
        unfold stp at h1
        split at h1
        · try rw [if_neg h6, if_pos h11] at h1
          simp only at h1
          split at h1
          · cases h1
          · simp only [Option.some.injEq] at h1
            subst h1
            show chk (thr ss l' (k + 1) j) = 0
            exact thr_chk (t := t - 1) j h3 hr hs h40 h0 (by push_cast; omega) (by omega)
        · cases h1
    · obtain ⟨hm0, h11, hsm, hk, rfl, hm, h3⟩ := h
      obtain ⟨m', d1, h4, h5, h7⟩ := run_inner (st := []) (st0 := t :: st0) (l := x :: l') hr (by simp; omega) (.inr ⟨x, rfl, h6, h11⟩)
      have h4' : endc (x :: l') 0 = some m' := h4
      rw [hm] at h4'
      injection h4' with h4'
      subst h4'
      have hf := (run_free h5).1
      have htl := thr_chk (t := t) j h3 h7 hs h40 (by omega) ht (by omega)
      have hln := thr_len (j := j) h3
      have hb := endc_bd hm
      obtain ⟨m1, rfl⟩ : ∃ m1, m = m1 + 1 := ⟨m - 1, by omega⟩
      simp only [thr]
      by_cases hjk : j = k
      · rw [if_pos hjk]
        have hf2 := (run_free h7).1
        obtain ⟨e1, _, h8, h9⟩ := run_off (st := []) (B := t :: st0) (e := 0) h5 (by have := endc_just hm; rw [List.length_take, Nat.min_eq_left hb.2]; exact this) (.inr ⟨x, by simp, h6, h11⟩) h0
        refine chk_join (chk_of_run ?_ h8 (by omega)) htl ?_
        · rw [List.length_take]; omega
        · rw [List.length_take]; omega
      · rw [if_neg hjk, List.nil_append]
        exact htl
/-- A Disc's lists are lists. -/
theorem disc_chk {it : List Nd} {n : Nd} {ss : List Nat} {m : Nat} (j : Nat) (hc : chk it = 0) (hn : it[0]? = some n) (h10 : n.kind = 10) (hd : D3 ss (it.drop 1) 0 m) (hm : m ≤ 2000) : chk (thr ss (it.drop 1) 0 j) = 0 := by
  obtain ⟨hl, d, hr, h40⟩ := chk_run hc
  cases it with
  | nil => simp at hn
  | cons x r =>
    simp only [List.getElem?_cons_zero, Option.some.injEq] at hn
    subst hn
    simp only [run] at hr
    cases h1 : stp ([], 0) x with
    | none => rw [h1] at hr; cases hr
    | some s1 =>
      rw [h1] at hr
      simp only at hr
      have ho : opensB x = true := by simp [opensB, h10]
      unfold stp at h1
      split at h1
      · rw [if_neg (by omega), if_neg (by omega)] at h1
        split at h1
        · cases h1
        · simp only [Option.some.injEq] at h1
          try rw [if_pos ho, if_pos h10] at h1
          subst h1
          exact thr_chk (t := 2) (st0 := []) j hd hr (by simp) h40 (by simp; omega) (by simp) hm
      · cases h1
end Go.Proofs.YtmcekdjhkjhcdaaGreatDoor.Np
end
section
namespace Go.Proofs.YtmcekdjhkjhcdaaGreatDoor.Sw
open Np Pk Ss No
set_option linter.unusedVariables false
set_option linter.unusedSimpArgs false

theorem thr_two : ∀ {ss : List Nat} {l : List Nd} {k r : Nat} {i j : Nat}, D3 ss l k r → i ≠ j → (thr ss l k i).length + (thr ss l k j).length ≤ r
  | [], l, k, r, i, j, h, _ => by simp [thr]
  | m :: ss, l, k, r, i, j, h, hij => by
    obtain ⟨x, l', r', rfl, h6, h | h⟩ := h
    · obtain ⟨rfl, h2, h3, h4, h5⟩ := h
      simp only [thr, List.drop_succ_cons, List.drop_zero]
      have := thr_two h5 hij
      omega
    · obtain ⟨h1, h2, h3, h4, h5, h7, h8⟩ := h
      have hb := endc_bd h7
      obtain ⟨m, rfl⟩ : ∃ q, m = q + 1 := ⟨m - 1, by omega⟩
      have := thr_two h8 hij
      simp only [thr, List.length_append]
      have hl : ((x :: l').take (m + 1)).length ≤ m + 1 := by rw [List.length_take]; omega
      by_cases hi : i = k
      · rw [if_pos hi, if_neg (by omega)]
        simp only [List.length_nil]
        omega
      · rw [if_neg hi]
        split
        · simp only [List.length_nil]
          omega
        · simp only [List.length_nil]
          omega
theorem endc_two2 {ns : List Nd} {a m : Nat} {x : Nd} (hx : ns[a]? = some x) (ho : opensB x = true) (hm : endc (ns.drop a) 0 = some m) : 2 ≤ m := by
  obtain ⟨y, hy, hd⟩ := get_drop (List.getElem?_eq_some_iff.1 hx).1
  rw [hx] at hy
  injection hy with hy
  subst hy
  rw [hd] at hm
  rcases endc_cons hm with ⟨h, _⟩ | ⟨_, h, _⟩
  · simp [cnt, ho] at h
  · exact h
/-- The parts of an item. -/
structure Parts (l : List Nd) (a m : Nat) (x : Nd) : Prop where
  one : chk (inL l a m x) = 0
  two : chk (beL l a m x) = 0
  len : (inL l a m x).length + (beL l a m x).length + 1 ≤ m
  three : thK l a m x ≤ 2000
theorem parts_of {l : List Nd} {a m : Nat} {x : Nd} (hc : chk l = 0) (hx : l[a]? = some x) (hm : endc (l.drop a) 0 = some m) (hci : chk ((l.drop a).take m) = 0) (hle : a + m ≤ l.length) : Parts l a m x := by
  have hl := (chk_run hc).1
  have hm1 := (endc_bd hm).1
  have h0 : ((l.drop a).take m)[0]? = some x := by
    rw [List.getElem?_take, if_pos (by omega), List.getElem?_drop]
    exact hx
  by_cases h10 : x.kind = 10
  · obtain ⟨h2, hd⟩ := ssD_is hc hx h10 hm
    obtain ⟨_, ss, hs⟩ := disc_steps hci h0 h10 (by rw [List.drop_zero]; exact endc_just hm)
    have happ : ((l.drop a).take m).drop 1 ++ (l.drop (a + 1)).drop (m - 1) = l.drop (a + 1) := by
      rw [List.drop_take, List.drop_drop, List.take_append_drop]
    have hs2 := D3.append ((l.drop (a + 1)).drop (m - 1)) hs
    rw [Nat.zero_add, happ] at hs2
    have he := D3.unique hd hs2
    have ht : ∀ j, chk (thr (ssD (l.drop (a + 1)) m) (l.drop (a + 1)) 0 j) = 0 := fun j => by
      have h1 := thr_append ((l.drop (a + 1)).drop (m - 1)) j hs
      rw [Nat.zero_add, happ] at h1
      rw [he, h1]
      have := disc_chk j hci h0 h10 hs (by omega)
      exact this
    refine ⟨by unfold inL; rw [if_pos h10]; exact ht 0, by unfold beL; rw [if_pos h10]; exact ht 1, ?_, ?_⟩
    · unfold inL beL
      rw [if_pos h10, if_pos h10]
      have := thr_two (i := 0) (j := 1) hd (by decide)
      omega
    · unfold thK
      rw [if_pos h10]
      have h3 := Its.len (itsD_is (ht 2))
      have h4 := (chk_run (ht 2)).1
      omega
  · have hb : beL l a m x = [] := by unfold beL; rw [if_neg h10]
    have hk : thK l a m x = 0 := by unfold thK; rw [if_neg h10]
    rw [show Parts l a m x = Parts l a m x from rfl]
    by_cases ho : opensB x = true
    · have h2 := endc_two2 hx ho hm
      have h := (item_wrap hci (endc_just hm) (by rw [List.length_take, List.length_drop]; omega) h0 h2 h10).2.2.2
      have e : (((l.drop a).take m).drop 1).take (m - 2) = (l.drop (a + 1)).take (m - 2) := by
        rw [List.drop_take, List.take_take, List.drop_drop, Nat.min_eq_left (by omega)]
      rw [e] at h
      have hi : inL l a m x = (l.drop (a + 1)).take (m - 2) := by unfold inL; rw [if_neg h10, if_pos ho]
      refine ⟨by rw [hi]; exact h, by rw [hb]; rfl, ?_, by omega⟩
      rw [hi, hb, List.length_take, List.length_nil]
      omega
    · have hi : inL l a m x = [] := by unfold inL; rw [if_neg h10, if_neg ho]
      exact ⟨by rw [hi]; rfl, by rw [hb]; rfl, by rw [hi, hb]; simp; omega, by omega⟩
theorem nodeAt_of {l : List Nd} {a : Nat} {x : Nd} (h : l[a]? = some x) : nodeAt l a = x := by unfold nodeAt; rw [List.getD_eq_getElem?_getD, h]; rfl
theorem lenAt_of {l : List Nd} {a m : Nat} (h : endc (l.drop a) 0 = some m) : lenAt l a = m := by unfold lenAt; rw [h]; rfl
theorem nl_size : nlK.size = 1 := rfl
theorem item_size {F : List Nd → ByteArray → ByteArray → Int → ByteArray} {l : List Nd} {a m : Nat} {x : Nd} {ahead bar : ByteArray} {deep : Int} (hc : chk l = 0) (hx : l[a]? = some x) (hm : endc (l.drop a) 0 = some m) (hP : Parts l a m x) (hs : ahead.size + bar.size ≤ 5000)
    (hF : ∀ q ba d, chk q = 0 → q.length < m → ba.size ≤ bar.size + 1 → (F q (ahead ++ dotK) ba d).size ≤ 40000 * q.length) : 1 ≤ (itemT F l ahead bar deep a).size ∧ (itemT F l ahead bar deep a).size ≤ 40000 * m := by
  have hr : right x = true := chk_right hc x (List.mem_of_getElem? hx)
  have h1 := line_size hr hP.three
  have h2 := hP.len
  have h3 := hF (inL l a m x) bar (deep - 1) hP.one (by omega) (by omega)
  have h4 := hF (beL l a m x) (bar ++ barK) (deep - 1) hP.two (by omega) (by rw [ByteArray.size_append]; exact Nat.le_refl _)
  have hn := nl_size
  have hbr : brK.size = 3 := rfl
  unfold itemT
  simp only [nodeAt_of hx, lenAt_of hm]
  by_cases q : (inL l a m x).length + (beL l a m x).length = 0
  · rw [if_pos q]
    simp only [ByteArray.size_append]
    omega
  · rw [if_neg q]
    by_cases q2 : deep ≤ 1
    · rw [if_pos q2]
      simp only [ByteArray.size_append]
      omega
    · rw [if_neg q2]
      simp only [ByteArray.size_append]
      omega
theorem items_size {many : Int} {F : List Nd → ByteArray → ByteArray → Int → ByteArray} {l : List Nd} {ahead bar : ByteArray} {deep : Int} (hc : chk l = 0) (hs : ahead.size + bar.size ≤ 5000)
    (hF : ∀ q ba d, chk q = 0 → q.length < l.length → ba.size ≤ bar.size + 1 → (F q (ahead ++ dotK) ba d).size ≤ 40000 * q.length) : ∀ (ys : List Nat) (a i : Nat), Stand l a ys → (itemsT many F l ahead bar deep ys i).size ≤ 40000 * (l.length - a)
  | [], a, i, h => by
    show (0 : Nat) ≤ _
    omega
  | y :: ys, a, i, h => by
    have hl := (chk_run hc).1
    have hi := h.its
    obtain ⟨rfl, m0, hm0, _⟩ := hi
    have hb := endc_bd hm0
    rw [List.length_drop] at hb
    obtain ⟨m, zs, x, he, hm, hm1, ham, hst, hci, hx, h6, h11⟩ := h.step hl (by omega)
    injection he with _ he
    subst he
    unfold itemsT
    by_cases hq : (i : Int) = many
    · rw [if_pos hq]
      simp only [ByteArray.size_append]
      have : etcK.size = 5 := rfl
      omega
    · rw [if_neg hq, ByteArray.size_append]
      have h1 := (item_size (deep := deep) hc hx hm (parts_of hc hx hm hci ham) hs fun q ba d hq hl hb => hF q ba d hq (by omega) hb).2
      have h2 := items_size (many := many) (deep := deep) hc hs hF ys (y + m) (i + 1) hst
      omega
theorem shw_size (many : Int) : ∀ (f : Nat) (l : List Nd) (ahead bar : ByteArray) (deep : Int), chk l = 0 → l.length ≤ f → ahead.size + bar.size + 2 * f ≤ 5000 → (shw many f l ahead bar deep).size ≤ 40000 * l.length
  | 0, l, ahead, bar, deep, hc, hl, hs => by show (0 : Nat) ≤ _; omega
  | f + 1, l, ahead, bar, deep, hc, hl, hs => by
    have h := items_size (many := many) (F := shw many f) (deep := deep) (ahead := ahead) (bar := bar) hc (by omega) (fun q ba d hq hlt hb => shw_size many f q _ _ d hq (by omega) (by
      rw [ByteArray.size_append]
      have : dotK.size = 1 := rfl
      omega)) (itsD l) 0 0 (stand0 hc (itsD_is hc))
    rw [Nat.sub_zero] at h
    exact h
theorem shw_nil (many : Int) (f : Nat) (ahead bar : ByteArray) (deep : Int) : shw many f [] ahead bar deep = ⟨#[]⟩ := by
  cases f with
  | zero => rfl
  | succ f =>
    unfold shw
    rw [itsD_of (show Its [] [] 0 from rfl)]
    rfl
/-- A list that is not empty has a text. -/
theorem shw_ne {many : Int} {f : Nat} {l : List Nd} {ahead bar : ByteArray} {deep : Int} (hc : chk l = 0) (hl : l.length ≤ f) (h0 : l ≠ []) (hs : ahead.size + bar.size + 2 * f ≤ 5000) : 1 ≤ (shw many f l ahead bar deep).size := by
  cases f with
  | zero => exact absurd (List.eq_nil_of_length_eq_zero (by omega)) h0
  | succ f =>
    have hpos : 0 < l.length := List.length_pos_iff.2 h0
    obtain ⟨m, zs, x, he, hm, hm1, ham, hst, hci, hx, h6, h11⟩ := (stand0 hc (itsD_is hc)).step (chk_run hc).1 hpos
    unfold shw
    rw [he]
    unfold itemsT
    split
    · simp only [ByteArray.size_append]
      have : etcK.size = 5 := rfl
      omega
    · rw [ByteArray.size_append]
      have h1 := (item_size (F := shw many f) (deep := deep) (ahead := ahead) (bar := bar) hc hx hm (parts_of hc hx hm hci ham) (by omega) fun q ba d hq hlt hb => shw_size many f q _ _ d hq (by omega) (by
        rw [ByteArray.size_append]
        have : dotK.size = 1 := rfl
        omega)).1
      omega
end Go.Proofs.YtmcekdjhkjhcdaaGreatDoor.Sw
end
section
namespace Go.Proofs.YtmcekdjhkjhcdaaGreatDoor.Sw
open Go.ChangeShapes Go.WideShapes Go.ChangeAt Go.RowKit
open Me Np Ss No
set_option linter.unusedVariables false
set_option linter.unusedSimpArgs false

theorem ret_t {a b : ByteArray} (h : a = b) : Ending.returned (.string a) = .returned (.string b) := by rw [h]
def hxV (k : Nat) : Value := if k < 10 then .int .u8 (48 + (k : Int)) else .int .u8 (87 + (k : Int))
theorem hex_idx (k : Nat) (hk : k < 16) (w : World) : (Instr.index 9 (.string ⟨#[48, 49, 50, 51, 52, 53, 54, 55, 56, 57, 97, 98, 99, 100, 101, 102]⟩) (.int .u8 (k : Int))).run Tryz.prog w = .ok (hxV k) w := by
  rcases (show k = 0 ∨ k = 1 ∨ k = 2 ∨ k = 3 ∨ k = 4 ∨ k = 5 ∨ k = 6 ∨ k = 7 ∨ k = 8 ∨ k = 9 ∨ k = 10 ∨ k = 11 ∨ k = 12 ∨ k = 13 ∨ k = 14 ∨ k = 15 by omega) with rfl | rfl | rfl | rfl | rfl | rfl | rfl | rfl | rfl | rfl | rfl | rfl | rfl | rfl | rfl | rfl <;> kernel_rfl
theorem hex_str (k : Nat) (hk : k < 16) (w : World) : (convert 5 9 (hxV k)).run Tryz.prog w = .ok (.string ⟨#[hx k]⟩) w := by
  rcases (show k = 0 ∨ k = 1 ∨ k = 2 ∨ k = 3 ∨ k = 4 ∨ k = 5 ∨ k = 6 ∨ k = 7 ∨ k = 8 ∨ k = 9 ∨ k = 10 ∨ k = 11 ∨ k = 12 ∨ k = 13 ∨ k = 14 ∨ k = 15 by omega) with rfl | rfl | rfl | rfl | rfl | rfl | rfl | rfl | rfl | rfl | rfl | rfl | rfl | rfl | rfl | rfl <;> kernel_rfl
theorem byte_enc (c : Nat) (h2 : 32 ≤ c) (h3 : c ≤ 126) : Utf8.encode (c : Int) = ⟨#[UInt8.ofNat c]⟩ := by
  have h := List.all_eq_true.1 (show ((List.range 127).all fun c => decide (c < 32) || ((Utf8.encode (c : Int)).data.toList == [UInt8.ofNat c])) = true by kernel_rfl) c (List.mem_range.2 (Nat.lt_succ_of_le h3))
  rw [Bool.or_eq_true] at h
  have h4 : (Utf8.encode (c : Int)).data.toList = [UInt8.ofNat c] := by
    rcases h with h | h
    · have := of_decide_eq_true h
      exact absurd h2 (Nat.not_le_of_lt this)
    · exact eq_of_beq h
  have e : ∀ b : ByteArray, b = ⟨b.data.toList.toArray⟩ := fun b => by cases b; simp
  have e2 := e (Utf8.encode (c : Int))
  rw [h4] at e2
  exact e2
theorem two_bytes (a b : UInt8) : (⟨#[94, 94]⟩ : ByteArray) ++ ⟨#[a]⟩ ++ ⟨#[b]⟩ = ⟨#[94, 94, a, b]⟩ := by
  rw [ByteArray.mk_append_mk, ByteArray.mk_append_mk]
  rfl
set_option maxHeartbeats 2000000 in
set_option maxRecDepth 100000 in
theorem byte_any (c : Nat) (hc : c < 256) (w : World) : Calls Tryz.prog 92 #[.int .u8 (c : Int)] w fun e w' => e = .returned (.string (byT c)) ∧ Below w.heap.size w w' := by
  by_cases h1 : 32 ≤ c ∧ c ≤ 126
  · have hb : byT c = ⟨#[UInt8.ofNat c]⟩ := if_pos h1
    obtain ⟨h2, h3⟩ := h1
    have h4 : (32 : Int) ≤ (c : Int) := by omega
    have h5 : (c : Int) ≤ 126 := by omega
    go_enter Tryz.func92, Tryz.ntmps92
    go_wp2_with fail
    go_ret
    exact ⟨ret_t ((byte_enc c h2 h3).trans hb.symm), Below.refl _ _⟩
  · have HB := Lib.hid (show byT c = ⟨#[94, 94, hx (c / 16), hx (c % 16)]⟩ from if_neg h1)
    have HI1 := hex_idx (c / 16) (by omega)
    have HI2 := hex_idx (c % 16) (by omega)
    have HC1 := hex_str (c / 16) (by omega)
    have HC2 := hex_str (c % 16) (by omega)
    obtain ⟨q, hq⟩ : ∃ q, c / 16 = q := ⟨_, rfl⟩
    obtain ⟨r, hr⟩ : ∃ r, c % 16 = r := ⟨_, rfl⟩
    rw [hq, hr] at HB
    rw [hq] at HI1 HC1
    rw [hr] at HI2 HC2
    have hq2 : (c : Int) / 16 = (q : Int) := by omega
    have hr2 : (c : Int) % 16 = (r : Int) := by omega
    have hcc : 0 ≤ (c : Int) := by omega
    have hz1 : ¬ 9223372036854775807 < (⟨#[94, 94]⟩ : ByteArray).size + (⟨#[hx q]⟩ : ByteArray).size := by show ¬ 9223372036854775807 < 2 + 1; omega
    have hz2 : ¬ 9223372036854775807 < ((⟨#[94, 94]⟩ : ByteArray) ++ ⟨#[hx q]⟩).size + (⟨#[hx r]⟩ : ByteArray).size := by rw [ByteArray.size_append]; show ¬ 9223372036854775807 < 2 + 1 + 1; omega
    generalize hxV q = vq at *
    generalize hxV r = vr at *
    clear hq hr
    by_cases h2 : c < 32
    · have h4 : ¬ (32 : Int) ≤ (c : Int) := by omega
      clear h1
      go_enter Tryz.func92, Tryz.ntmps92
      go_wp2_with fail
      go_quiet (fail)
      go_wp2_with fail
      go_ret
      exact ⟨ret_t ((two_bytes _ _).trans HB.out.symm), below_drewN (Below.refl _ _) _⟩
    · have h4 : (32 : Int) ≤ (c : Int) := by omega
      have h5 : ¬ (c : Int) ≤ 126 := by omega
      clear h1
      go_enter Tryz.func92, Tryz.ntmps92
      go_wp2_with fail
      go_quiet (fail)
      go_wp2_with fail
      go_ret
      exact ⟨ret_t ((two_bytes _ _).trans HB.out.symm), below_drewN (Below.refl _ _) _⟩
theorem itoa_any (n : Int) (h0 : -9223372036854775807 ≤ n) (h1 : n ≤ 9223372036854775807) (w : World) (htab : Tab w) : Calls Tryz.prog 91 #[.int .i64 n] w fun e w' => e = .returned (.string (itT n)) ∧ Below w.heap.size w w' := by
  refine (Tryz.strconv_Itoa n (by omega) h1 w htab).mono ?_
  rintro e w' ⟨rfl, k, os, rfl⟩
  refine ⟨ret_t ?_, Lib.below_grow _ _ (Nat.le_refl _) k os⟩
  unfold itT Lib.itoa
  by_cases hn : n < 0
  · rw [if_pos hn, if_pos hn]
    have e1 : n.natAbs = (-n).toNat := by omega
    rw [e1]
    exact (ByteArray.mk_append_mk [45] (Lib.decDigits (-n).toNat)).symm
  · rw [if_neg hn, if_neg hn]
    rfl
end Go.Proofs.YtmcekdjhkjhcdaaGreatDoor.Sw
end
section
namespace Go.Proofs.YtmcekdjhkjhcdaaGreatDoor.Sw
open Go.ChangeShapes Go.WideShapes Go.ChangeAt Go.RowKit
open Me Np Ss No
set_option linter.unusedVariables false
set_option linter.unusedSimpArgs false

theorem byA_append : ∀ (a b : List UInt8), byA (a ++ b) = byA a ++ byA b
  | [], b => by rw [List.nil_append, byA]; exact ByteArray.empty_append.symm
  | c :: a, b => by rw [List.cons_append, byA, byA, byA_append a b, ByteArray.append_assoc]
set_option maxHeartbeats 2000000 in
set_option maxRecDepth 100000 in
theorem bytes_any (s : ByteArray) (hs : s.size ≤ 100000) (w : World) : Calls Tryz.prog 93 #[.string s] w fun e w' => e = .returned (.string (byA s.data.toList)) ∧ Below w.heap.size w w' := by
  obtain ⟨n, hn⟩ : ∃ n, s.size = n := ⟨_, rfl⟩
  go_enter Tryz.func93, Tryz.ntmps93
  go_wp2_with fail
  go_loopw [3, 7] (fun v3 v7 wr => ∃ i : Nat, i ≤ s.size ∧ v7 = .int .i64 (i : Int) ∧ v3 = .string (byA (s.data.toList.take i)) ∧ Below w.heap.size w wr) (fun _ v7 _ => s.size - (intOf v7).toNat)
  case atStart => exact ⟨0, by omega, rfl, rfl, Below.refl _ _⟩
  case round =>
    obtain ⟨i, hi, rfl, rfl, hb⟩ := hrel
    have HB := Lib.hid hb
    clear hb
    by_cases hlt : i < s.size
    · have hii : (i : Int) < (s.size : Int) := by omega
      have HBY := Lib.hid (fun w => byte_any s[i].toNat (UInt8.toNat_lt _) w)
      have hi3 : i < s.data.toList.length := by rw [Array.length_toList]; exact hlt
      have HNX := Lib.hid (show byA (s.data.toList.take i) ++ byT s[i].toNat = byA (s.data.toList.take (i + 1)) by
        rw [List.take_add_one, List.getElem?_eq_getElem hi3, byA_append]
        show _ = _ ++ (byT s[i].toNat ++ ⟨#[]⟩)
        rw [show (byT s[i].toNat ++ ⟨#[]⟩ : ByteArray) = byT s[i].toNat from ByteArray.append_empty])
      have h1 := byA_size (s.data.toList.take i)
      have h2 := byT_size s[i].toNat
      have h3 : (s.data.toList.take i).length ≤ i := by rw [List.length_take]; omega
      generalize byA (s.data.toList.take i) = T at *
      generalize byT s[i].toNat = U at *
      have hz : ¬ 9223372036854775807 < T.size + U.size := by omega
      go_wp2_with fail
      refine (HBY.out _).mono ?_
      rintro e w2 ⟨rfl, hb2⟩
      have HB2 := Lib.hid (andThen HB.out hb2)
      clear hb2
      go_wp2_with fail
      go_roundw
      case rel => exact ⟨i + 1, by omega, by go_num, by rw [HNX.out], HB2.out⟩
      case measure => simp [intOf]; omega
    · obtain rfl : i = s.size := by omega
      go_wp2_with fail
      go_ret
      exact ⟨ret_t (by rw [List.take_of_length_le (by rw [Array.length_toList]; exact Nat.le_refl _)]), HB.out⟩
theorem pt_any (x : Int) (w : World) (htab : Tab w) : Calls Tryz.prog 95 #[.int .i64 x] w fun e w' => e = .returned (.string (prS x)) ∧ Below w.heap.size w w' := by
  have HP := Lib.hid (print_any x w htab)
  go_enter Tryz.func95, Tryz.ntmps95
  go_wp2_with fail
  refine HP.out.mono ?_
  rintro e w1 ⟨rfl, hb⟩
  go_wp2_with fail
  go_ret
  exact ⟨rfl, hb⟩
theorem star_any (x : Int) (b : Bool) (w : World) (htab : Tab w) : Calls Tryz.prog 94 #[.int .i64 x, .bool b] w fun e w' => e = .returned (.string (starT x b)) ∧ Below w.heap.size w w' := by
  have HP := Lib.hid (pt_any x w htab)
  cases b
  · go_enter Tryz.func94, Tryz.ntmps94
    go_wp2_with fail
    refine HP.out.mono ?_
    rintro e w1 ⟨rfl, hb⟩
    go_wp2_with fail
    go_ret
    exact ⟨ret_t (if_neg (by decide)).symm, hb⟩
  · go_enter Tryz.func94, Tryz.ntmps94
    go_wp2_with fail
    go_ret
    exact ⟨ret_t (if_pos rfl).symm, Below.refl _ _⟩
end Go.Proofs.YtmcekdjhkjhcdaaGreatDoor.Sw
end
section
namespace Go.Proofs.YtmcekdjhkjhcdaaGreatDoor.Sw
open Go.ChangeShapes Go.WideShapes Go.ChangeAt Go.RowKit
open Me Np Ss No
set_option linter.unusedVariables false
set_option linter.unusedSimpArgs false
theorem rord_any (o : Int) (w : World) : Calls Tryz.prog 102 #[.int .i64 o] w fun e w' => e = .returned (.string (ordT o)) ∧ Below w.heap.size w w' := by
  by_cases h1 : o = 1
  · subst h1
    go_enter Tryz.func102, Tryz.ntmps102
    go_wp2_with fail
    go_ret
    exact ⟨rfl, Below.refl _ _⟩
  by_cases h2 : o = 2
  · subst h2
    go_enter Tryz.func102, Tryz.ntmps102
    go_wp2_with fail
    go_ret
    exact ⟨rfl, Below.refl _ _⟩
  by_cases h3 : o = 3
  · subst h3
    go_enter Tryz.func102, Tryz.ntmps102
    go_wp2_with fail
    go_ret
    exact ⟨rfl, Below.refl _ _⟩
  have HT := Lib.hid (show (⟨#[]⟩ : ByteArray) = ordT o by unfold ordT Gl.unL; rw [if_neg h1, if_neg h2, if_neg h3] <;> rfl)
  have e1 : (o == 1) = false := by simp [h1]
  have e2 : (o == 2) = false := by simp [h2]
  have e3 : (o == 3) = false := by simp [h3]
  clear h1 h2 h3
  go_enter Tryz.func102, Tryz.ntmps102
  go_wp2_with fail
  go_ret
  exact ⟨ret_t HT.out, Below.refl _ _⟩
theorem rwhole_any (n : Int) (h0 : -9223372036854775807 ≤ n) (h1 : n ≤ 9223372036854775807) (w : World) : Calls Tryz.prog 82 #[.int .i64 n] w fun e w' => e = .returned (.string (itT n)) ∧ Below w.heap.size w w' := by
  by_cases hn : n < 0
  · obtain ⟨k, rfl⟩ : ∃ k : Nat, n = -(k : Int) := ⟨n.natAbs, by omega⟩
    have HT := Lib.hid (show miK ++ numT k = itT (-(k : Int)) by
      unfold itT
      rw [if_pos hn, show (-(-(k : Int))).toNat = k by omega])
    have HN := Lib.hid (refNumber k w (by omega))
    have hw : IntKind.i64.wrap (- -(k : Int)) = k := by rw [Int.neg_neg]; exact IntWalk.i64_in _ (by omega)
    have hz := numT_size (n := k) (by omega)
    generalize numT k = T at *
    have hz2 : ¬ 9223372036854775807 < (⟨#[45]⟩ : ByteArray).size + T.size := by show ¬ 9223372036854775807 < 1 + _; omega
    go_enter Tryz.func82, Tryz.ntmps82
    go_wp2_with fail
    refine HN.out.mono ?_
    rintro e w1 ⟨rfl, hb1⟩
    go_wp2_with fail
    go_ret
    exact ⟨ret_t HT.out, hb1⟩
  · obtain ⟨k, rfl⟩ : ∃ k : Nat, n = (k : Int) := ⟨n.natAbs, by omega⟩
    have HT := Lib.hid (show numT k = itT (k : Int) by
      unfold itT
      rw [if_neg hn, show ((k : Int)).toNat = k by omega])
    have HN := Lib.hid (refNumber k w (by omega))
    generalize numT k = T at *
    go_enter Tryz.func82, Tryz.ntmps82
    go_wp2_with fail
    refine HN.out.mono ?_
    rintro e w1 ⟨rfl, hb1⟩
    go_wp2_with fail
    go_ret
    exact ⟨ret_t HT.out, hb1⟩
theorem rstar_any (x : Int) (b : Bool) (w : World) : Calls Tryz.prog 84 #[.int .i64 x, .bool b] w fun e w' => e = .returned (.string (starT x b)) ∧ Below w.heap.size w w' := by
  have HP := Lib.hid (refPrint x w)
  cases b
  · go_enter Tryz.func84, Tryz.ntmps84
    go_wp2_with fail
    refine HP.out.mono ?_
    rintro e w1 ⟨rfl, hb⟩
    go_wp2_with fail
    go_ret
    exact ⟨ret_t (if_neg (by decide)).symm, hb⟩
  · go_enter Tryz.func84, Tryz.ntmps84
    go_wp2_with fail
    go_ret
    exact ⟨ret_t (if_pos rfl).symm, Below.refl _ _⟩
theorem hex_slice (k : Nat) (hk : k < 16) (w : World) : (Instr.slice 9 (.string ⟨#[48, 49, 50, 51, 52, 53, 54, 55, 56, 57, 97, 98, 99, 100, 101, 102]⟩) (some (.int .u8 (k : Int))) (some (.int .u8 ((k : Int) + 1))) none).run Tryz.prog w = .ok (.string ⟨#[hx k]⟩) w := by
  rcases (show k = 0 ∨ k = 1 ∨ k = 2 ∨ k = 3 ∨ k = 4 ∨ k = 5 ∨ k = 6 ∨ k = 7 ∨ k = 8 ∨ k = 9 ∨ k = 10 ∨ k = 11 ∨ k = 12 ∨ k = 13 ∨ k = 14 ∨ k = 15 by omega) with rfl | rfl | rfl | rfl | rfl | rfl | rfl | rfl | rfl | rfl | rfl | rfl | rfl | rfl | rfl | rfl <;> kernel_rfl
set_option maxHeartbeats 2000000 in
set_option maxRecDepth 100000 in
theorem rshown_any (c : Nat) (hc : c < 256) (w : World) : Calls Tryz.prog 83 #[.int .u8 (c : Int)] w fun e w' => e = .returned (.string (byT c)) ∧ Below w.heap.size w w' := by
  by_cases h1 : 32 ≤ c ∧ c ≤ 126
  · have hb : byT c = ⟨#[UInt8.ofNat c]⟩ := if_pos h1
    obtain ⟨h2, h3⟩ := h1
    have h4 : (32 : Int) ≤ (c : Int) := by omega
    have h5 : (c : Int) ≤ 126 := by omega
    have hcv : (convert 41 9 (.slice (some ⟨w.heap.size, 0, none⟩) 1 1)).run Tryz.prog (w.alloc (.cells #[.int .u8 (c : Int)] 5)) = .ok (.string ⟨#[UInt8.ofNat c]⟩) (w.alloc (.cells #[.int .u8 (c : Int)] 5)) := conv1 _ _ c hc (by rw [(Blk.new' rfl).cell 0]; simp)
    go_enter Tryz.func83, Tryz.ntmps83
    go_wp2_with fail
    go_ret
    exact ⟨ret_t hb.symm, andAlloc (Below.refl _ _) _⟩
  · have HB := Lib.hid (show byT c = ⟨#[94, 94, hx (c / 16), hx (c % 16)]⟩ from if_neg h1)
    have HI1 := hex_slice (c / 16) (by omega)
    have HI2 := hex_slice (c % 16) (by omega)
    obtain ⟨q, hq⟩ : ∃ q, c / 16 = q := ⟨_, rfl⟩
    obtain ⟨r, hr⟩ : ∃ r, c % 16 = r := ⟨_, rfl⟩
    rw [hq, hr] at HB
    rw [hq] at HI1
    rw [hr] at HI2
    have hq2 : (c : Int) / 16 = (q : Int) := by omega
    have hr2 : (c : Int) % 16 = (r : Int) := by omega
    have hq3 : q < 16 := by omega
    have hr3 : r < 16 := by omega
    have hw1 : IntKind.u8.wrap ((q : Int) + 1) = q + 1 := IntWalk.u8_in _ (by omega)
    have hw2 : IntKind.u8.wrap ((r : Int) + 1) = r + 1 := IntWalk.u8_in _ (by omega)
    have hcc : 0 ≤ (c : Int) := by omega
    have hz1 : ¬ 9223372036854775807 < (⟨#[94, 94]⟩ : ByteArray).size + (⟨#[hx q]⟩ : ByteArray).size := by show ¬ 9223372036854775807 < 2 + 1; omega
    have hz2 : ¬ 9223372036854775807 < ((⟨#[94, 94]⟩ : ByteArray) ++ ⟨#[hx q]⟩).size + (⟨#[hx r]⟩ : ByteArray).size := by rw [ByteArray.size_append]; show ¬ 9223372036854775807 < 2 + 1 + 1; omega
    clear hq hr
    by_cases h2 : c < 32
    · have h4 : ¬ (32 : Int) ≤ (c : Int) := by omega
      clear h1
      go_enter Tryz.func83, Tryz.ntmps83
      go_wp2_with fail
      go_quiet (fail)
      go_wp2_with fail
      go_ret
      exact ⟨ret_t ((two_bytes _ _).trans HB.out.symm), below_drewN (Below.refl _ _) _⟩
    · have h4 : (32 : Int) ≤ (c : Int) := by omega
      have h5 : ¬ (c : Int) ≤ 126 := by omega
      clear h1
      go_enter Tryz.func83, Tryz.ntmps83
      go_wp2_with fail
      go_quiet (fail)
      go_wp2_with fail
      go_ret
      exact ⟨ret_t ((two_bytes _ _).trans HB.out.symm), below_drewN (Below.refl _ _) _⟩
end Go.Proofs.YtmcekdjhkjhcdaaGreatDoor.Sw
end
section
namespace Go.Proofs.YtmcekdjhkjhcdaaGreatDoor.Sw
open Go.ChangeShapes Go.WideShapes Go.ChangeAt Go.RowKit
open Me Np Ss No
set_option linter.unusedVariables false
set_option linter.unusedSimpArgs false

set_option maxHeartbeats 2000000 in
set_option maxRecDepth 100000 in
theorem skip_m (p : Value) (A : Option Addr) (ns : List Nd) (c a : Nat) (x : Nd) (w : World) (hseg : Seg w w.heap.size A (ns.flatMap ncs)) (hx : ns[a]? = some x) (htab : Tab w) :
    Calls Tryz.prog 66 #[p, .slice A ns.length c, .int .i64 (a : Int)] w fun e w' => e = .returned (.string (gluK ++ Gl.shT x.gn x.gs x.gh x.ga x.gb)) ∧ Below w.heap.size w w' := by
  obtain ⟨b, off, rfl, hb, hn⟩ := seg_node hseg hx
  have hal : (a : Int) < (ns.length : Int) := by have := (List.getElem?_eq_some_iff.1 hx).1; omega
  clear hseg hx
  generalize ns.length = ln at *
  have c_gn : w.cell? ⟨b, off + a * 19 + 7, none⟩ = some (.int .i64 x.gn) := hn 7 _ rfl
  have c_gs : w.cell? ⟨b, off + a * 19 + 8, none⟩ = some (.int .i64 x.gs) := hn 8 _ rfl
  have c_gh : w.cell? ⟨b, off + a * 19 + 9, none⟩ = some (.int .i64 x.gh) := hn 9 _ rfl
  have c_ga : w.cell? ⟨b, off + a * 19 + 10, none⟩ = some (.int .i64 x.ga) := hn 10 _ rfl
  have c_gb : w.cell? ⟨b, off + a * 19 + 11, none⟩ = some (.int .i64 x.gb) := hn 11 _ rfl
  clear hn
  have HS := Lib.hid (Gl.show_any x.gn x.gs x.gh x.ga x.gb w htab)
  have hz0 := shT_size x.gn x.gs x.gh x.ga x.gb
  generalize Gl.shT x.gn x.gs x.gh x.ga x.gb = T at *
  have hz : ¬ 9223372036854775807 < (⟨#[103, 108, 117, 101, 32]⟩ : ByteArray).size + T.size := by show ¬ 9223372036854775807 < 5 + _; omega
  go_enter Tryz.func66, Tryz.ntmps66
  go_wp2_with fail
  refine HS.out.mono ?_
  rintro e w1 ⟨rfl, hb1⟩
  go_wp2_with fail
  go_ret
  exact ⟨rfl, hb1⟩
set_option maxHeartbeats 2000000 in
set_option maxRecDepth 100000 in
theorem kern_m (p : Value) (A : Option Addr) (ns : List Nd) (c a : Nat) (x : Nd) (w : World) (hseg : Seg w w.heap.size A (ns.flatMap ncs)) (hx : ns[a]? = some x) (htab : Tab w) :
    Calls Tryz.prog 67 #[p, .slice A ns.length c, .int .i64 (a : Int)] w fun e w' => e = .returned (.string (if x.sub = 2 then krnK ++ prS x.wd ++ accK else krnK ++ prS x.wd)) ∧ Below w.heap.size w w' := by
  obtain ⟨b, off, rfl, hb, hn⟩ := seg_node hseg hx
  have hal : (a : Int) < (ns.length : Int) := by have := (List.getElem?_eq_some_iff.1 hx).1; omega
  clear hseg hx
  generalize ns.length = ln at *
  have c_wd : w.cell? ⟨b, off + a * 19 + 3, none⟩ = some (.int .i64 x.wd) := hn 3 _ rfl
  have c_sub : w.cell? ⟨b, off + a * 19 + 17, none⟩ = some (.int .i64 x.sub) := hn 17 _ rfl
  clear hn
  have HS := Lib.hid (pt_any x.wd w htab)
  have hz0 := Gl.prS_size x.wd
  generalize prS x.wd = T at *
  have hz : ¬ 9223372036854775807 < (⟨#[107, 101, 114, 110, 32]⟩ : ByteArray).size + T.size := by show ¬ 9223372036854775807 < 5 + _; omega
  have hz2 : ¬ 9223372036854775807 < ((⟨#[107, 101, 114, 110, 32]⟩ : ByteArray) ++ T).size + (⟨#[32, 40, 102, 111, 114, 32, 97, 99, 99, 101, 110, 116, 41]⟩ : ByteArray).size := by rw [ByteArray.size_append]; show ¬ 9223372036854775807 < 5 + _ + 13; omega
  have hsz : ∀ w' : World, Below w.heap.size w w' → w'.cell? ⟨b, off + a * 19 + 17, none⟩ = some (.int .i64 x.sub) ∧ b < w'.heap.size := fun w' h => ⟨(h.cell (p := ⟨b, off + a * 19 + 17, none⟩) hb).trans c_sub, Nat.lt_of_lt_of_le hb h.size⟩
  have HSZ := Lib.hid hsz
  clear hsz c_sub
  generalize hres : (if x.sub = 2 then krnK ++ T ++ accK else krnK ++ T) = RES
  have HRES := Lib.hid hres
  clear hres
  by_cases h2 : x.sub = 2
  · have e2 : (x.sub == 2) = true := by simp [h2]
    have HR := Lib.hid (show RES = krnK ++ T ++ accK by rw [← HRES.out, if_pos h2])
    clear h2
    go_enter Tryz.func67, Tryz.ntmps67
    go_wp2_with fail
    refine HS.out.mono ?_
    rintro e w1 ⟨rfl, hb1⟩
    obtain ⟨y1, y2⟩ := HSZ.out w1 hb1
    have HB1 := Lib.hid hb1
    clear hb1
    go_wp2_with fail
    go_ret
    exact ⟨ret_t HR.out.symm, HB1.out⟩
  · have e2 : (x.sub == 2) = false := by simp [h2]
    have HR := Lib.hid (show RES = krnK ++ T by rw [← HRES.out, if_neg h2])
    clear h2
    go_enter Tryz.func67, Tryz.ntmps67
    go_wp2_with fail
    refine HS.out.mono ?_
    rintro e w1 ⟨rfl, hb1⟩
    obtain ⟨y1, y2⟩ := HSZ.out w1 hb1
    have HB1 := Lib.hid hb1
    clear hb1
    go_wp2_with fail
    go_ret
    exact ⟨ret_t HR.out.symm, HB1.out⟩
set_option maxHeartbeats 2000000 in
set_option maxRecDepth 100000 in
theorem pen_m (p : Value) (A : Option Addr) (ns : List Nd) (c a : Nat) (x : Nd) (w : World) (hseg : Seg w w.heap.size A (ns.flatMap ncs)) (hx : ns[a]? = some x) (htab : Tab w) (h0 : -9223372036854775807 ≤ x.pen) (h1 : x.pen ≤ 9223372036854775807) :
    Calls Tryz.prog 68 #[p, .slice A ns.length c, .int .i64 (a : Int)] w fun e w' => e = .returned (.string (penK ++ itT x.pen)) ∧ Below w.heap.size w w' := by
  obtain ⟨b, off, rfl, hb, hn⟩ := seg_node hseg hx
  have hal : (a : Int) < (ns.length : Int) := by have := (List.getElem?_eq_some_iff.1 hx).1; omega
  clear hseg hx
  generalize ns.length = ln at *
  have c_pen : w.cell? ⟨b, off + a * 19 + 16, none⟩ = some (.int .i64 x.pen) := hn 16 _ rfl
  clear hn
  have HS := Lib.hid (itoa_any x.pen h0 h1 w htab)
  have hz0 := itT_size h0 h1
  generalize itT x.pen = T at *
  have hz : ¬ 9223372036854775807 < (⟨#[112, 101, 110, 97, 108, 116, 121, 32]⟩ : ByteArray).size + T.size := by show ¬ 9223372036854775807 < 8 + _; omega
  go_enter Tryz.func68, Tryz.ntmps68
  go_wp2_with fail
  refine HS.out.mono ?_
  rintro e w1 ⟨rfl, hb1⟩
  go_wp2_with fail
  go_ret
  exact ⟨rfl, hb1⟩
set_option maxHeartbeats 2000000 in
set_option maxRecDepth 100000 in
theorem mark_m (p : Value) (A : Option Addr) (ns : List Nd) (c a : Nat) (x : Nd) (w : World) (hseg : Seg w w.heap.size A (ns.flatMap ncs)) (hx : ns[a]? = some x) (hk : x.kind = 12) (hs : x.text.size ≤ 1000) :
    Calls Tryz.prog 70 #[p, .slice A ns.length c, .int .i64 (a : Int)] w fun e w' => e = .returned (.string (mrkK ++ byA x.text.data.toList ++ cbK)) ∧ Below w.heap.size w w' := by
  obtain ⟨b, off, rfl, hb, hn⟩ := seg_node hseg hx
  have hal : (a : Int) < (ns.length : Int) := by have := (List.getElem?_eq_some_iff.1 hx).1; omega
  clear hseg hx
  generalize ns.length = ln at *
  have c_kind : w.cell? ⟨b, off + a * 19, none⟩ = some (.int .i64 x.kind) := hn 0 _ rfl
  have c_text : w.cell? ⟨b, off + a * 19 + 18, none⟩ = some (.string x.text) := hn 18 _ rfl
  clear hn
  have e1 : (x.kind == 14) = false := by simp [hk]
  have HS := Lib.hid (bytes_any x.text (by omega))
  have hz0 := byA_size x.text.data.toList
  rw [Array.length_toList] at hz0
  have hz1 : x.text.data.size ≤ 1000 := hs
  generalize byA x.text.data.toList = T at *
  have hz : ¬ 9223372036854775807 < (⟨#[109, 97, 114, 107, 123]⟩ : ByteArray).size + T.size := by show ¬ 9223372036854775807 < 5 + _; omega
  have hz2 : ¬ 9223372036854775807 < ((⟨#[109, 97, 114, 107, 123]⟩ : ByteArray) ++ T).size + (⟨#[125]⟩ : ByteArray).size := by rw [ByteArray.size_append]; show ¬ 9223372036854775807 < 5 + _ + 1; omega
  clear hz0 hz1 hs
  go_enter Tryz.func70, Tryz.ntmps70
  go_wp2_with fail
  refine (HS.out _).mono ?_
  rintro e w1 ⟨rfl, hb1⟩
  go_wp2_with fail
  go_ret
  exact ⟨rfl, hb1⟩
set_option maxHeartbeats 2000000 in
set_option maxRecDepth 100000 in
theorem spec_m (p : Value) (A : Option Addr) (ns : List Nd) (c a : Nat) (x : Nd) (w : World) (hseg : Seg w w.heap.size A (ns.flatMap ncs)) (hx : ns[a]? = some x) (hk : x.kind = 14) (hs : x.text.size ≤ 1000) :
    Calls Tryz.prog 70 #[p, .slice A ns.length c, .int .i64 (a : Int)] w fun e w' => e = .returned (.string (spcK ++ byA x.text.data.toList ++ cbK)) ∧ Below w.heap.size w w' := by
  obtain ⟨b, off, rfl, hb, hn⟩ := seg_node hseg hx
  have hal : (a : Int) < (ns.length : Int) := by have := (List.getElem?_eq_some_iff.1 hx).1; omega
  clear hseg hx
  generalize ns.length = ln at *
  have c_kind : w.cell? ⟨b, off + a * 19, none⟩ = some (.int .i64 x.kind) := hn 0 _ rfl
  have c_text : w.cell? ⟨b, off + a * 19 + 18, none⟩ = some (.string x.text) := hn 18 _ rfl
  clear hn
  have e1 : (x.kind == 14) = true := by simp [hk]
  have HS := Lib.hid (bytes_any x.text (by omega))
  have hz0 := byA_size x.text.data.toList
  rw [Array.length_toList] at hz0
  have hz1 : x.text.data.size ≤ 1000 := hs
  generalize byA x.text.data.toList = T at *
  have hz : ¬ 9223372036854775807 < (⟨#[115, 112, 101, 99, 105, 97, 108, 123]⟩ : ByteArray).size + T.size := by show ¬ 9223372036854775807 < 8 + _; omega
  have hz2 : ¬ 9223372036854775807 < ((⟨#[115, 112, 101, 99, 105, 97, 108, 123]⟩ : ByteArray) ++ T).size + (⟨#[125]⟩ : ByteArray).size := by rw [ByteArray.size_append]; show ¬ 9223372036854775807 < 8 + _ + 1; omega
  clear hz0 hz1 hs
  go_enter Tryz.func70, Tryz.ntmps70
  go_wp2_with fail
  refine (HS.out _).mono ?_
  rintro e w1 ⟨rfl, hb1⟩
  go_wp2_with fail
  go_ret
  exact ⟨rfl, hb1⟩
set_option maxHeartbeats 2000000 in
set_option maxRecDepth 100000 in
theorem math_m (p : Value) (A : Option Addr) (ns : List Nd) (c a : Nat) (x : Nd) (w : World) (hseg : Seg w w.heap.size A (ns.flatMap ncs)) (hx : ns[a]? = some x) (htab : Tab w) :
    Calls Tryz.prog 72 #[p, .slice A ns.length c, .int .i64 (a : Int)] w fun e w' => e = .returned (.string (if x.wd = 0 then (if x.kind = 16 then mofK else monK) else (if x.kind = 16 then mofK else monK) ++ (surK ++ prS x.wd))) ∧ Below w.heap.size w w' := by
  obtain ⟨b, off, rfl, hb, hn⟩ := seg_node hseg hx
  have hal : (a : Int) < (ns.length : Int) := by have := (List.getElem?_eq_some_iff.1 hx).1; omega
  clear hseg hx
  generalize ns.length = ln at *
  have c_kind : w.cell? ⟨b, off + a * 19, none⟩ = some (.int .i64 x.kind) := hn 0 _ rfl
  have c_wd : w.cell? ⟨b, off + a * 19 + 3, none⟩ = some (.int .i64 x.wd) := hn 3 _ rfl
  clear hn
  have HS := Lib.hid (pt_any x.wd w htab)
  have hz0 := Gl.prS_size x.wd
  generalize prS x.wd = T at *
  have hz : ¬ 9223372036854775807 < (⟨#[44, 32, 115, 117, 114, 114, 111, 117, 110, 100, 101, 100, 32]⟩ : ByteArray).size + T.size := by show ¬ 9223372036854775807 < 13 + _; omega
  have hz1 : ¬ 9223372036854775807 < (⟨#[109, 97, 116, 104, 111, 110]⟩ : ByteArray).size + ((⟨#[44, 32, 115, 117, 114, 114, 111, 117, 110, 100, 101, 100, 32]⟩ : ByteArray) ++ T).size := by rw [ByteArray.size_append]; show ¬ 9223372036854775807 < 6 + (13 + _); omega
  have hz2 : ¬ 9223372036854775807 < (⟨#[109, 97, 116, 104, 111, 102, 102]⟩ : ByteArray).size + ((⟨#[44, 32, 115, 117, 114, 114, 111, 117, 110, 100, 101, 100, 32]⟩ : ByteArray) ++ T).size := by rw [ByteArray.size_append]; show ¬ 9223372036854775807 < 7 + (13 + _); omega
  generalize hres : (if x.wd = 0 then (if x.kind = 16 then mofK else monK) else (if x.kind = 16 then mofK else monK) ++ (surK ++ T)) = RES
  have HRES := Lib.hid hres
  clear hres
  by_cases k16 : x.kind = 16
  · have e1 : (x.kind == 16) = true := by simp [k16]
    by_cases w0 : x.wd = 0
    · have e2 : (x.wd != 0) = false := by simp [w0]
      have HR := Lib.hid (HRES.out.symm.trans ((if_pos w0).trans (if_pos k16)))
      clear k16 w0
      go_enter Tryz.func72, Tryz.ntmps72
      go_wp2_with fail
      go_ret
      exact ⟨ret_t HR.out.symm, Below.refl _ _⟩
    · have e2 : (x.wd != 0) = true := by simp [w0]
      have HR := Lib.hid (show RES = mofK ++ (surK ++ T) by rw [← HRES.out, if_neg w0, if_pos k16])
      clear k16 w0
      go_enter Tryz.func72, Tryz.ntmps72
      go_wp2_with fail
      refine HS.out.mono ?_
      rintro e w1 ⟨rfl, hb1⟩
      go_wp2_with fail
      go_ret
      exact ⟨ret_t HR.out.symm, hb1⟩
  · have e1 : (x.kind == 16) = false := by simp [k16]
    by_cases w0 : x.wd = 0
    · have e2 : (x.wd != 0) = false := by simp [w0]
      have HR := Lib.hid (HRES.out.symm.trans ((if_pos w0).trans (if_neg k16)))
      clear k16 w0
      go_enter Tryz.func72, Tryz.ntmps72
      go_wp2_with fail
      go_ret
      exact ⟨ret_t HR.out.symm, Below.refl _ _⟩
    · have e2 : (x.wd != 0) = true := by simp [w0]
      have HR := Lib.hid (show RES = monK ++ (surK ++ T) by rw [← HRES.out, if_neg w0, if_neg k16])
      clear k16 w0
      go_enter Tryz.func72, Tryz.ntmps72
      go_wp2_with fail
      refine HS.out.mono ?_
      rintro e w1 ⟨rfl, hb1⟩
      go_wp2_with fail
      go_ret
      exact ⟨ret_t HR.out.symm, hb1⟩
theorem adj_m (p q : Value) (a : Int) (w : World) : Calls Tryz.prog 73 #[p, q, .int .i64 a] w fun e w' => e = .returned (.string adjK) ∧ Below w.heap.size w w' := by
  go_enter Tryz.func73, Tryz.ntmps73
  go_wp2_with fail
  go_ret
  exact ⟨rfl, Below.refl _ _⟩
theorem tc3_idx (vs : Nat → Value) (w : World) : (Instr.index 75 (.agg (tc3 vs)) (.int .i64 2)).run Tryz.prog w = .ok (vs 2) w := by kernel_rfl
set_option maxHeartbeats 2000000 in
set_option maxRecDepth 100000 in
theorem disc_m (p : Value) (A : Option Addr) (ns : List Nd) (c a m : Nat) (x : Nd) (w : World) (hc : chk ns = 0) (hcap : ns.length ≤ c) (hseg : Seg w w.heap.size A (ns.flatMap ncs)) (hx : ns[a]? = some x) (hm : endc (ns.drop a) 0 = some m) (hci : chk ((ns.drop a).take m) = 0) (ham : a + m ≤ ns.length) (h10 : x.kind = 10) (htab : Tab w) :
    Calls Tryz.prog 69 #[p, .slice A ns.length c, .int .i64 (a : Int)] w fun e w' => e = .returned (.string (dscK ++ numT (thK ns a m x))) ∧ Below w.heap.size w w' := by
  have hP := parts_of hc hx hm hci ham
  obtain ⟨h2, hd⟩ := ssD_is hc hx h10 hm
  have hk : thK ns a m x = (Pk.itsD (thr (ssD (ns.drop (a + 1)) m) (ns.drop (a + 1)) 0 2)).length := by unfold thK; rw [if_pos h10]
  obtain ⟨xs, hxs, _⟩ := thr_its (ss := ssD (ns.drop (a + 1)) m) 2 0 hd
  have hl3 := thr_len (j := 2) hd
  have hl := (chk_run hc).1
  rw [Pk.itsD_of hxs] at hk
  have HT := Lib.hid (three_any A ns c a m _ x w hc hcap hseg hx hm hd h2)
  have HI := Lib.hid (fun A2 c2 w2 (hs : Seg w2 w2.heap.size A2 ((thr (ssD (ns.drop (a + 1)) m) (ns.drop (a + 1)) 0 2).flatMap ncs)) => items_any A2 (thr (ssD (ns.drop (a + 1)) m) (ns.drop (a + 1)) 0 2) c2 xs w2 (by omega) hs hxs)
  have hx3 := hP.three
  rw [hk] at hx3 ⊢
  have hit : itT (xs.length : Int) = numT xs.length := by unfold itT; rw [if_neg (by omega)]; rfl
  have HIT := Lib.hid (fun (w' : World) (h : Below w.heap.size w w') => show Calls Tryz.prog 91 #[.int .i64 (xs.length : Int)] w' fun e w'' => e = .returned (.string (numT xs.length)) ∧ Below w'.heap.size w' w'' from by rw [← hit]; exact itoa_any _ (by omega) (by omega) w' (htab.below h))
  have hz0 := numT_size (n := xs.length) (by omega)
  generalize numT xs.length = T at *
  have hz : ¬ 9223372036854775807 < (⟨#[100, 105, 115, 99, 114, 101, 116, 105, 111, 110, 97, 114, 121, 32, 114, 101, 112, 108, 97, 99, 105, 110, 103, 32]⟩ : ByteArray).size + T.size := by show ¬ 9223372036854775807 < 24 + _; omega
  clear hseg hx hm hci ham hd hxs htab hP hk hit hc
  generalize thr (ssD (ns.drop (a + 1)) m) (ns.drop (a + 1)) 0 = F at *
  generalize ns.length = ln at *
  go_enter Tryz.func69, Tryz.ntmps69
  go_wp2_with fail
  refine HT.out.mono ?_
  rintro e w1 ⟨vs, rfl, ho, hb1⟩
  obtain ⟨A2, c2, h2, hc2, _, hs2⟩ := Seg.of_own (ho.own 2 (by omega))
  have hix : ∀ w, (Instr.index 75 (.agg (tc3 vs)) (.int .i64 2)).run Tryz.prog w = .ok (vs 2) w := fun w => tc3_idx vs w
  rw [h2] at hix
  generalize tc3 vs = cs at hix ⊢
  have HB1 := Lib.hid hb1
  have HI2 := Lib.hid (HI.out A2 c2 w1 hs2)
  clear ho hs2 hb1 h2
  go_wp2_with fail
  refine HI2.out.mono ?_
  rintro e w2 ⟨v2, rfl, ho2, hb2⟩
  obtain ⟨A3, c3, rfl, _, _, _⟩ := Seg.of_own ho2
  have HB2 := Lib.hid (andThen HB1.out hb2)
  clear ho2 hb2
  generalize xs.length = xl at *
  go_wp2_with fail
  refine (HIT.out _ HB2.out).mono ?_
  rintro e w3 ⟨rfl, hb3⟩
  have HB3 := Lib.hid (andThen HB2.out hb3)
  clear hb3
  go_wp2_with fail
  go_ret
  exact ⟨rfl, HB3.out⟩
end Go.Proofs.YtmcekdjhkjhcdaaGreatDoor.Sw
end
section
namespace Go.Proofs.YtmcekdjhkjhcdaaGreatDoor.Sw
open Go.ChangeShapes Go.WideShapes Go.ChangeAt Go.RowKit
open Me Np Ss No
set_option linter.unusedVariables false
set_option linter.unusedSimpArgs false
/-- What is held while a region runs: the node's own copy. -/
def Hd (w : World) (g : Nat) (x : Nd) (w' : World) : Prop := NodeAt w' g 0 x ∧ g < w'.heap.size ∧ Below w.heap.size w w'
theorem Hd.drew {w W : World} {g : Nat} {x : Nd} (h : Hd w g x W) : Hd w g x W.drew := ⟨h.1, h.2.1, Below.drew h.2.2⟩
theorem Hd.keep {w W W' : World} {g : Nat} {x : Nd} (h : Hd w g x W) (hb : Below W.heap.size W W') : Hd w g x W' := ⟨h.1.below hb h.2.1, Nat.lt_of_lt_of_le h.2.1 hb.size, andThen h.2.2 hb⟩
theorem Hd.at {w W : World} {g : Nat} {x : Nd} (h : Hd w g x W) {j : Nat} {u : Value} (hj : (nc x).toList[j]? = some u) : W.cell? ⟨g, j, none⟩ = some u := by have := h.1 j u hj; rwa [Nat.zero_add] at this

set_option maxHeartbeats 8000000 in
set_option maxRecDepth 100000 in
theorem char_m (p : Value) (A : Option Addr) (ns : List Nd) (c a : Nat) (x : Nd) (w : World) (hseg : Seg w w.heap.size A (ns.flatMap ncs)) (hx : ns[a]? = some x) (htab : Tab w) (hf0 : -9223372036854775807 ≤ x.font) (hf1 : x.font ≤ 9223372036854775807) (hc0 : 0 ≤ x.char) (hc1 : x.char < 256) :
    Calls Tryz.prog 62 #[p, .slice A ns.length c, .int .i64 (a : Int)] w fun e w' => e = .returned (.string (itT x.font ++ spK ++ byT x.char.toNat)) ∧ Below w.heap.size w w' := by
  obtain ⟨b, off, rfl, hb, hn⟩ := seg_node hseg hx
  have hal : (a : Int) < (ns.length : Int) := by have := (List.getElem?_eq_some_iff.1 hx).1; omega
  have HC1 := Lib.hid (fun (W : World) (hB : Below w.heap.size w W) => itoa_any x.font hf0 hf1 W (htab.below hB))
  have hz1 := itT_size hf0 hf1
  generalize itT x.font = T1 at *
  obtain ⟨kc, hkc⟩ : ∃ kc : Nat, x.char = (kc : Int) := ⟨x.char.toNat, by omega⟩
  have HC2 := Lib.hid (fun (W : World) => byte_any kc (by omega) W)
  rw [show x.char.toNat = kc by omega]
  have hz2 := byT_size kc
  generalize byT kc = T2 at *
  clear hc0 hc1 hf0 hf1 htab
  clear hx
  generalize ns.length = ln at *
  have HSG := Lib.hid hseg
  clear hseg
  go_enter Tryz.func62, Tryz.ntmps62
  go_upto_region 2 with (first | (refine wpList_load_node rfl _ rfl _ _ rfl _ hn ?_) | (refine wpList_alloc_node rfl rfl ?_) | (refine wpList_store_node rfl _ _ rfl _ _ _ rfl rfl _ (by repeat (first | (apply Blk.new'; first | rfl | (simp; done)) | assumption | apply Blk.alloc)) ?_))
  rw [setRow_new _ _ _ _ _ rfl]
  have hH0 : Hd w w.heap.size x (w.alloc (.cells (nc x) 36)) := ⟨(Blk.new w 36 (nc x)).node, by simp, andAlloc (Below.refl w.heap.size w) _⟩
  generalize w.alloc (.cells (nc x) 36) = W at hH0 ⊢
  clear hn
  refine wp_region_held_drew (S := Hd w w.heap.size x) (by kernel_rfl) (hH0.drew) (fun hH => ?_)
  refine take_lit (i := 0) (v := (.pointer (some ⟨w.heap.size, 1, none⟩))) (by kernel_rfl) (by kernel_rfl) (by kernel_rfl) (by kernel_rfl) (fun _ _ _ _ h => h) hH (fun oi hoi => ?_)
  simp only [List.getElem?_toArray, List.getElem?_cons_succ, List.getElem?_cons_zero, Option.some.injEq] at hoi
  subst hoi
  refine ⟨.inl ⟨by rfl, fun w hSw => ?_⟩, ?_⟩
  · skip
    first | (go_simp; done) | (go_simp; omega) | (go_simp; with_reducible rfl) | (go_simp; kernel_rfl)
  simp only [Act.put, List.setIfInBounds_toArray, List.set_cons_zero, List.set_cons_succ]
  refine take_lit (i := 1) (v := (.int .i64 (x.font))) (by kernel_rfl) (by kernel_rfl) (by kernel_rfl) (by kernel_rfl) (fun _ _ _ _ h => h) hH (fun oi hoi => ?_)
  simp only [List.getElem?_toArray, List.getElem?_cons_succ, List.getElem?_cons_zero, Option.some.injEq] at hoi
  subst hoi
  refine ⟨.inl ⟨by rfl, fun w hSw => ?_⟩, ?_⟩
  · skip
    have z := hSw.at (j := 1) rfl
    first | (go_simp; done) | (go_simp; omega) | (go_simp; with_reducible rfl) | (go_simp; kernel_rfl)
  simp only [Act.put, List.setIfInBounds_toArray, List.set_cons_zero, List.set_cons_succ]
  refine take_lit (i := 4) (v := (.pointer (some ⟨w.heap.size, 2, none⟩))) (by kernel_rfl) (by kernel_rfl) (by kernel_rfl) (by kernel_rfl) (fun _ _ _ _ h => h) hH (fun oi hoi => ?_)
  simp only [List.getElem?_toArray, List.getElem?_cons_succ, List.getElem?_cons_zero, Option.some.injEq] at hoi
  subst hoi
  refine ⟨.inl ⟨by rfl, fun w hSw => ?_⟩, ?_⟩
  · skip
    first | (go_simp; done) | (go_simp; omega) | (go_simp; with_reducible rfl) | (go_simp; kernel_rfl)
  simp only [Act.put, List.setIfInBounds_toArray, List.set_cons_zero, List.set_cons_succ]
  refine take_lit (i := 5) (v := (.int .u8 ((kc : Int)))) (by kernel_rfl) (by kernel_rfl) (by kernel_rfl) (by kernel_rfl) (fun _ _ _ _ h => h) hH (fun oi hoi => ?_)
  simp only [List.getElem?_toArray, List.getElem?_cons_succ, List.getElem?_cons_zero, Option.some.injEq] at hoi
  subst hoi
  refine ⟨.inl ⟨by rfl, fun w hSw => ?_⟩, ?_⟩
  · skip
    have z := hSw.at (j := 2) (u := .int .u8 (kc : Int)) (by rw [← hkc]; rfl)
    first | (go_simp; done) | (go_simp; omega) | (go_simp; with_reducible rfl) | (go_simp; kernel_rfl)
  simp only [Act.put, List.setIfInBounds_toArray, List.set_cons_zero, List.set_cons_succ]
  refine wpAnyH_ready (rs := [2]) (by kernel_rfl) (by simp) (AllReadyH.cons rfl (fun K hK => ?_) AllReadyH.nil)
  go_simp
  go_wp2_with fail
  refine (HC1.out _ hH.2.2).mono ?_
  rintro e w_1 ⟨rfl, hb_1⟩
  refine hK.out _ _ (hH.keep hb_1) (fun hH1 => ?_)
  try simp only [Act.put, List.setIfInBounds_toArray, List.set_cons_zero, List.set_cons_succ]
  clear hK K
  refine take_lit (i := 3) (v := (.string (T1 ++ ⟨#[32]⟩))) (by kernel_rfl) (by kernel_rfl) (by kernel_rfl) (by kernel_rfl) (fun _ _ _ _ h => h) hH1 (fun oi hoi => ?_)
  simp only [List.getElem?_toArray, List.getElem?_cons_succ, List.getElem?_cons_zero, Option.some.injEq] at hoi
  subst hoi
  refine ⟨.inl ⟨by rfl, fun w hSw => ?_⟩, ?_⟩
  · skip
    have hz : ¬ 9223372036854775807 < (T1 : ByteArray).size + (⟨#[32]⟩ : ByteArray).size := by (try simp only [ByteArray.size_append]); have q0 : (⟨#[32]⟩ : ByteArray).size = 1 := rfl; omega
    first | (go_simp; done) | (go_simp; omega) | (go_simp; with_reducible rfl) | (go_simp; kernel_rfl)
  simp only [Act.put, List.setIfInBounds_toArray, List.set_cons_zero, List.set_cons_succ]
  refine wpAnyH_ready (rs := [6]) (by kernel_rfl) (by simp) (AllReadyH.cons rfl (fun K hK => ?_) AllReadyH.nil)
  go_simp
  go_wp2_with fail
  refine (HC2.out _).mono ?_
  rintro e w_2 ⟨rfl, hb_2⟩
  refine hK.out _ _ (hH1.keep hb_2) (fun hH2 => ?_)
  try simp only [Act.put, List.setIfInBounds_toArray, List.set_cons_zero, List.set_cons_succ]
  clear hK K
  refine take_lit (i := 7) (v := (.string ((T1 ++ ⟨#[32]⟩) ++ T2))) (by kernel_rfl) (by kernel_rfl) (by kernel_rfl) (by kernel_rfl) (fun _ _ _ _ h => h) hH2 (fun oi hoi => ?_)
  simp only [List.getElem?_toArray, List.getElem?_cons_succ, List.getElem?_cons_zero, Option.some.injEq] at hoi
  subst hoi
  refine ⟨.inl ⟨by rfl, fun w hSw => ?_⟩, ?_⟩
  · skip
    have hz : ¬ 9223372036854775807 < (T1 ++ ⟨#[32]⟩ : ByteArray).size + (T2 : ByteArray).size := by (try simp only [ByteArray.size_append]); have q0 : (⟨#[32]⟩ : ByteArray).size = 1 := rfl; omega
    first | (go_simp; done) | (go_simp; omega) | (go_simp; with_reducible rfl) | (go_simp; kernel_rfl)
  simp only [Act.put, List.setIfInBounds_toArray, List.set_cons_zero, List.set_cons_succ]
  refine take_lit (i := 8) (v := (.string ((T1 ++ ⟨#[32]⟩) ++ T2))) (by kernel_rfl) (by kernel_rfl) (by kernel_rfl) (by kernel_rfl) (fun _ _ _ _ h => h) hH2 (fun oi hoi => ?_)
  simp only [List.getElem?_toArray, List.getElem?_cons_succ, List.getElem?_cons_zero, Option.some.injEq] at hoi
  subst hoi
  refine ⟨.inl ⟨by rfl, fun w hSw => ?_⟩, ?_⟩
  · skip
    first | (go_simp; done) | (go_simp; omega) | (go_simp; with_reducible rfl) | (go_simp; kernel_rfl)
  simp only [Act.put, List.setIfInBounds_toArray, List.set_cons_zero, List.set_cons_succ]
  refine wpAnyH_done (by kernel_rfl) ?_ _
  go_wp2_with fail
  go_ret
  exact ⟨rfl, hH2.2.2⟩
set_option maxHeartbeats 8000000 in
set_option maxRecDepth 100000 in
theorem lig_m (p : Value) (A : Option Addr) (ns : List Nd) (c a : Nat) (x : Nd) (w : World) (hseg : Seg w w.heap.size A (ns.flatMap ncs)) (hx : ns[a]? = some x) (htab : Tab w) (hf0 : -9223372036854775807 ≤ x.font) (hf1 : x.font ≤ 9223372036854775807) (hc0 : 0 ≤ x.char) (hc1 : x.char < 256) (hs : x.text.size ≤ 1000) :
    Calls Tryz.prog 63 #[p, .slice A ns.length c, .int .i64 (a : Int)] w fun e w' => e = .returned (.string (itT x.font ++ spK ++ byT x.char.toNat ++ ligK ++ byA x.text.data.toList ++ clK)) ∧ Below w.heap.size w w' := by
  obtain ⟨b, off, rfl, hb, hn⟩ := seg_node hseg hx
  have hal : (a : Int) < (ns.length : Int) := by have := (List.getElem?_eq_some_iff.1 hx).1; omega
  have HC1 := Lib.hid (fun (W : World) (hB : Below w.heap.size w W) => char_m p (some ⟨b, off, none⟩) ns c a x W (Seg.belowW hseg hB) hx (htab.below hB) hf0 hf1 hc0 hc1)
  have hz1 : (itT x.font ++ spK ++ byT x.char.toNat).size ≤ 30 := by
    have h1 := itT_size hf0 hf1
    have h2 := byT_size x.char.toNat
    rw [ByteArray.size_append, ByteArray.size_append]
    show _ + 1 + _ ≤ _
    omega
  generalize itT x.font ++ spK ++ byT x.char.toNat = T1 at *
  have HC2 := Lib.hid (fun (W : World) => bytes_any x.text (by omega) W)
  have hz2 := byA_size x.text.data.toList
  rw [Array.length_toList] at hz2
  have hz3 : x.text.data.size ≤ 1000 := hs
  generalize byA x.text.data.toList = T2 at *
  have HT := Lib.hid (fun (W : World) (hB : Below w.heap.size w W) => ((hB.cell (p := ⟨b, off + a * 19 + 18, none⟩) hb).trans (hn 18 _ rfl) : W.cell? ⟨b, off + a * 19 + 18, none⟩ = some (.string x.text)))
  clear hc0 hc1 hf0 hf1 htab
  clear hx
  generalize ns.length = ln at *
  have HSG := Lib.hid hseg
  clear hseg
  go_enter Tryz.func63, Tryz.ntmps63
  clear hn
  go_upto_region 1 with fail
  have hH0 := Below.refl w.heap.size w
  refine wp_region_held_drew (S := fun w1 => Below w.heap.size w w1) (by kernel_rfl) (Below.drew hH0) (fun hH => ?_)
  refine take_lit (i := 0) (v := p) (by kernel_rfl) (by kernel_rfl) (by kernel_rfl) (by kernel_rfl) (fun _ _ _ _ h => h) hH (fun oi hoi => ?_)
  simp only [List.getElem?_toArray, List.getElem?_cons_succ, List.getElem?_cons_zero, Option.some.injEq] at hoi
  subst hoi
  refine ⟨.inl ⟨by rfl, fun w hSw => ?_⟩, ?_⟩
  · skip
    first | (go_simp; done) | (go_simp; omega) | (go_simp; with_reducible rfl) | (go_simp; kernel_rfl)
  simp only [Act.put, List.setIfInBounds_toArray, List.set_cons_zero, List.set_cons_succ]
  refine take_lit (i := 1) (v := (.slice (some ⟨b, off, none⟩) ln c)) (by kernel_rfl) (by kernel_rfl) (by kernel_rfl) (by kernel_rfl) (fun _ _ _ _ h => h) hH (fun oi hoi => ?_)
  simp only [List.getElem?_toArray, List.getElem?_cons_succ, List.getElem?_cons_zero, Option.some.injEq] at hoi
  subst hoi
  refine ⟨.inl ⟨by rfl, fun w hSw => ?_⟩, ?_⟩
  · skip
    first | (go_simp; done) | (go_simp; omega) | (go_simp; with_reducible rfl) | (go_simp; kernel_rfl)
  simp only [Act.put, List.setIfInBounds_toArray, List.set_cons_zero, List.set_cons_succ]
  refine take_lit (i := 2) (v := (.int .i64 ((a : Int)))) (by kernel_rfl) (by kernel_rfl) (by kernel_rfl) (by kernel_rfl) (fun _ _ _ _ h => h) hH (fun oi hoi => ?_)
  simp only [List.getElem?_toArray, List.getElem?_cons_succ, List.getElem?_cons_zero, Option.some.injEq] at hoi
  subst hoi
  refine ⟨.inl ⟨by rfl, fun w hSw => ?_⟩, ?_⟩
  · skip
    first | (go_simp; done) | (go_simp; omega) | (go_simp; with_reducible rfl) | (go_simp; kernel_rfl)
  simp only [Act.put, List.setIfInBounds_toArray, List.set_cons_zero, List.set_cons_succ]
  refine take_lit (i := 5) (v := (.slice (some ⟨b, off, none⟩) ln c)) (by kernel_rfl) (by kernel_rfl) (by kernel_rfl) (by kernel_rfl) (fun _ _ _ _ h => h) hH (fun oi hoi => ?_)
  simp only [List.getElem?_toArray, List.getElem?_cons_succ, List.getElem?_cons_zero, Option.some.injEq] at hoi
  subst hoi
  refine ⟨.inl ⟨by rfl, fun w hSw => ?_⟩, ?_⟩
  · skip
    first | (go_simp; done) | (go_simp; omega) | (go_simp; with_reducible rfl) | (go_simp; kernel_rfl)
  simp only [Act.put, List.setIfInBounds_toArray, List.set_cons_zero, List.set_cons_succ]
  refine take_lit (i := 6) (v := (.int .i64 ((a : Int)))) (by kernel_rfl) (by kernel_rfl) (by kernel_rfl) (by kernel_rfl) (fun _ _ _ _ h => h) hH (fun oi hoi => ?_)
  simp only [List.getElem?_toArray, List.getElem?_cons_succ, List.getElem?_cons_zero, Option.some.injEq] at hoi
  subst hoi
  refine ⟨.inl ⟨by rfl, fun w hSw => ?_⟩, ?_⟩
  · skip
    first | (go_simp; done) | (go_simp; omega) | (go_simp; with_reducible rfl) | (go_simp; kernel_rfl)
  simp only [Act.put, List.setIfInBounds_toArray, List.set_cons_zero, List.set_cons_succ]
  refine take_lit (i := 7) (v := (.pointer (some ⟨b, off + a * 19, none⟩))) (by kernel_rfl) (by kernel_rfl) (by kernel_rfl) (by kernel_rfl) (fun _ _ _ _ h => h) hH (fun oi hoi => ?_)
  simp only [List.getElem?_toArray, List.getElem?_cons_succ, List.getElem?_cons_zero, Option.some.injEq] at hoi
  subst hoi
  refine ⟨.inl ⟨by rfl, fun w hSw => ?_⟩, ?_⟩
  · skip
    first | (go_simp; done) | (go_simp; omega) | (go_simp; with_reducible rfl) | (go_simp; kernel_rfl)
  simp only [Act.put, List.setIfInBounds_toArray, List.set_cons_zero, List.set_cons_succ]
  refine take_lit (i := 8) (v := (.pointer (some ⟨b, off + a * 19 + 18, none⟩))) (by kernel_rfl) (by kernel_rfl) (by kernel_rfl) (by kernel_rfl) (fun _ _ _ _ h => h) hH (fun oi hoi => ?_)
  simp only [List.getElem?_toArray, List.getElem?_cons_succ, List.getElem?_cons_zero, Option.some.injEq] at hoi
  subst hoi
  refine ⟨.inl ⟨by rfl, fun w hSw => ?_⟩, ?_⟩
  · skip
    first | (go_simp; done) | (go_simp; omega) | (go_simp; with_reducible rfl) | (go_simp; kernel_rfl)
  simp only [Act.put, List.setIfInBounds_toArray, List.set_cons_zero, List.set_cons_succ]
  refine take_lit (i := 9) (v := (.string (x.text))) (by kernel_rfl) (by kernel_rfl) (by kernel_rfl) (by kernel_rfl) (fun _ _ _ _ h => h) hH (fun oi hoi => ?_)
  simp only [List.getElem?_toArray, List.getElem?_cons_succ, List.getElem?_cons_zero, Option.some.injEq] at hoi
  subst hoi
  refine ⟨.inl ⟨by rfl, fun w hSw => ?_⟩, ?_⟩
  · skip
    have z := HT.out _ hSw
    first | (go_simp; done) | (go_simp; omega) | (go_simp; with_reducible rfl) | (go_simp; kernel_rfl)
  simp only [Act.put, List.setIfInBounds_toArray, List.set_cons_zero, List.set_cons_succ]
  refine wpAnyH_ready (rs := [3]) (by kernel_rfl) (by simp) (AllReadyH.cons rfl (fun K hK => ?_) AllReadyH.nil)
  go_simp
  go_wp2_with fail
  refine (HC1.out _ hH).mono ?_
  rintro e w_1 ⟨rfl, hb_1⟩
  refine hK.out _ _ (andThen hH hb_1) (fun hH1 => ?_)
  try simp only [Act.put, List.setIfInBounds_toArray, List.set_cons_zero, List.set_cons_succ]
  clear hK K
  refine take_lit (i := 4) (v := (.string (T1 ++ ⟨#[32, 40, 108, 105, 103, 97, 116, 117, 114, 101, 32]⟩))) (by kernel_rfl) (by kernel_rfl) (by kernel_rfl) (by kernel_rfl) (fun _ _ _ _ h => h) hH1 (fun oi hoi => ?_)
  simp only [List.getElem?_toArray, List.getElem?_cons_succ, List.getElem?_cons_zero, Option.some.injEq] at hoi
  subst hoi
  refine ⟨.inl ⟨by rfl, fun w hSw => ?_⟩, ?_⟩
  · skip
    have hz : ¬ 9223372036854775807 < (T1 : ByteArray).size + (⟨#[32, 40, 108, 105, 103, 97, 116, 117, 114, 101, 32]⟩ : ByteArray).size := by (try simp only [ByteArray.size_append]); have q0 : (⟨#[32, 40, 108, 105, 103, 97, 116, 117, 114, 101, 32]⟩ : ByteArray).size = 11 := rfl; omega
    first | (go_simp; done) | (go_simp; omega) | (go_simp; with_reducible rfl) | (go_simp; kernel_rfl)
  simp only [Act.put, List.setIfInBounds_toArray, List.set_cons_zero, List.set_cons_succ]
  refine wpAnyH_ready (rs := [10]) (by kernel_rfl) (by simp) (AllReadyH.cons rfl (fun K hK => ?_) AllReadyH.nil)
  go_simp
  go_wp2_with fail
  refine (HC2.out _).mono ?_
  rintro e w_2 ⟨rfl, hb_2⟩
  refine hK.out _ _ (andThen hH1 hb_2) (fun hH2 => ?_)
  try simp only [Act.put, List.setIfInBounds_toArray, List.set_cons_zero, List.set_cons_succ]
  clear hK K
  refine take_lit (i := 11) (v := (.string ((T1 ++ ⟨#[32, 40, 108, 105, 103, 97, 116, 117, 114, 101, 32]⟩) ++ T2))) (by kernel_rfl) (by kernel_rfl) (by kernel_rfl) (by kernel_rfl) (fun _ _ _ _ h => h) hH2 (fun oi hoi => ?_)
  simp only [List.getElem?_toArray, List.getElem?_cons_succ, List.getElem?_cons_zero, Option.some.injEq] at hoi
  subst hoi
  refine ⟨.inl ⟨by rfl, fun w hSw => ?_⟩, ?_⟩
  · skip
    have hz : ¬ 9223372036854775807 < (T1 ++ ⟨#[32, 40, 108, 105, 103, 97, 116, 117, 114, 101, 32]⟩ : ByteArray).size + (T2 : ByteArray).size := by (try simp only [ByteArray.size_append]); have q0 : (⟨#[32, 40, 108, 105, 103, 97, 116, 117, 114, 101, 32]⟩ : ByteArray).size = 11 := rfl; omega
    first | (go_simp; done) | (go_simp; omega) | (go_simp; with_reducible rfl) | (go_simp; kernel_rfl)
  simp only [Act.put, List.setIfInBounds_toArray, List.set_cons_zero, List.set_cons_succ]
  refine take_lit (i := 12) (v := (.string (((T1 ++ ⟨#[32, 40, 108, 105, 103, 97, 116, 117, 114, 101, 32]⟩) ++ T2) ++ ⟨#[41]⟩))) (by kernel_rfl) (by kernel_rfl) (by kernel_rfl) (by kernel_rfl) (fun _ _ _ _ h => h) hH2 (fun oi hoi => ?_)
  simp only [List.getElem?_toArray, List.getElem?_cons_succ, List.getElem?_cons_zero, Option.some.injEq] at hoi
  subst hoi
  refine ⟨.inl ⟨by rfl, fun w hSw => ?_⟩, ?_⟩
  · skip
    have hz : ¬ 9223372036854775807 < ((T1 ++ ⟨#[32, 40, 108, 105, 103, 97, 116, 117, 114, 101, 32]⟩) ++ T2 : ByteArray).size + (⟨#[41]⟩ : ByteArray).size := by (try simp only [ByteArray.size_append]); have q0 : (⟨#[32, 40, 108, 105, 103, 97, 116, 117, 114, 101, 32]⟩ : ByteArray).size = 11 := rfl; have q1 : (⟨#[41]⟩ : ByteArray).size = 1 := rfl; omega
    first | (go_simp; done) | (go_simp; omega) | (go_simp; with_reducible rfl) | (go_simp; kernel_rfl)
  simp only [Act.put, List.setIfInBounds_toArray, List.set_cons_zero, List.set_cons_succ]
  refine take_lit (i := 13) (v := (.string (((T1 ++ ⟨#[32, 40, 108, 105, 103, 97, 116, 117, 114, 101, 32]⟩) ++ T2) ++ ⟨#[41]⟩))) (by kernel_rfl) (by kernel_rfl) (by kernel_rfl) (by kernel_rfl) (fun _ _ _ _ h => h) hH2 (fun oi hoi => ?_)
  simp only [List.getElem?_toArray, List.getElem?_cons_succ, List.getElem?_cons_zero, Option.some.injEq] at hoi
  subst hoi
  refine ⟨.inl ⟨by rfl, fun w hSw => ?_⟩, ?_⟩
  · skip
    first | (go_simp; done) | (go_simp; omega) | (go_simp; with_reducible rfl) | (go_simp; kernel_rfl)
  simp only [Act.put, List.setIfInBounds_toArray, List.set_cons_zero, List.set_cons_succ]
  refine wpAnyH_done (by kernel_rfl) ?_ _
  go_wp2_with fail
  go_ret
  exact ⟨rfl, hH2⟩
set_option maxHeartbeats 8000000 in
set_option maxRecDepth 100000 in
theorem rule_0 (p : Value) (A : Option Addr) (ns : List Nd) (c a : Nat) (x : Nd) (w : World) (hseg : Seg w w.heap.size A (ns.flatMap ncs)) (hx : ns[a]? = some x) (htab : Tab w) (hk : x.sub = 0) :
    Calls Tryz.prog 64 #[p, .slice A ns.length c, .int .i64 (a : Int)] w fun e w' => e = .returned (.string (rulK ++ starT x.ht false ++ pluK ++ starT x.dp false ++ cxK ++ starT x.wd false)) ∧ Below w.heap.size w w' := by
  obtain ⟨b, off, rfl, hb, hn⟩ := seg_node hseg hx
  have hal : (a : Int) < (ns.length : Int) := by have := (List.getElem?_eq_some_iff.1 hx).1; omega
  have HC1 := Lib.hid (fun (W : World) (hB : Below w.heap.size w W) => star_any x.ht false W (htab.below hB))
  have hz1 := starT_size x.ht false
  generalize starT x.ht false = T1 at *
  have HC2 := Lib.hid (fun (W : World) (hB : Below w.heap.size w W) => star_any x.dp false W (htab.below hB))
  have hz2 := starT_size x.dp false
  generalize starT x.dp false = T2 at *
  have HC3 := Lib.hid (fun (W : World) (hB : Below w.heap.size w W) => star_any x.wd false W (htab.below hB))
  have hz3 := starT_size x.wd false
  generalize starT x.wd false = T3 at *
  clear htab
  clear hx
  generalize ns.length = ln at *
  have HSG := Lib.hid hseg
  clear hseg
  go_enter Tryz.func64, Tryz.ntmps64
  go_upto_region 2 with (first | (refine wpList_load_node rfl _ rfl _ _ rfl _ hn ?_) | (refine wpList_alloc_node rfl rfl ?_) | (refine wpList_store_node rfl _ _ rfl _ _ _ rfl rfl _ (by repeat (first | (apply Blk.new'; first | rfl | (simp; done)) | assumption | apply Blk.alloc)) ?_))
  rw [setRow_new _ _ _ _ _ rfl]
  have hH0 : Hd w w.heap.size x (w.alloc (.cells (nc x) 36)) := ⟨(Blk.new w 36 (nc x)).node, by simp, andAlloc (Below.refl w.heap.size w) _⟩
  generalize w.alloc (.cells (nc x) 36) = W at hH0 ⊢
  clear hn
  refine wp_region_held_drew (S := Hd w w.heap.size x) (by kernel_rfl) (hH0.drew) (fun hH => ?_)
  refine take_lit (i := 0) (v := (.pointer (some ⟨w.heap.size, 4, none⟩))) (by kernel_rfl) (by kernel_rfl) (by kernel_rfl) (by kernel_rfl) (fun _ _ _ _ h => h) hH (fun oi hoi => ?_)
  simp only [List.getElem?_toArray, List.getElem?_cons_succ, List.getElem?_cons_zero, Option.some.injEq] at hoi
  subst hoi
  refine ⟨.inl ⟨by rfl, fun w hSw => ?_⟩, ?_⟩
  · skip
    first | (go_simp; done) | (go_simp; omega) | (go_simp; with_reducible rfl) | (go_simp; kernel_rfl)
  simp only [Act.put, List.setIfInBounds_toArray, List.set_cons_zero, List.set_cons_succ]
  refine take_lit (i := 1) (v := (.int .i64 (x.ht))) (by kernel_rfl) (by kernel_rfl) (by kernel_rfl) (by kernel_rfl) (fun _ _ _ _ h => h) hH (fun oi hoi => ?_)
  simp only [List.getElem?_toArray, List.getElem?_cons_succ, List.getElem?_cons_zero, Option.some.injEq] at hoi
  subst hoi
  refine ⟨.inl ⟨by rfl, fun w hSw => ?_⟩, ?_⟩
  · skip
    have z := hSw.at (j := 4) rfl
    first | (go_simp; done) | (go_simp; omega) | (go_simp; with_reducible rfl) | (go_simp; kernel_rfl)
  simp only [Act.put, List.setIfInBounds_toArray, List.set_cons_zero, List.set_cons_succ]
  refine take_lit (i := 2) (v := (.pointer (some ⟨w.heap.size, 17, none⟩))) (by kernel_rfl) (by kernel_rfl) (by kernel_rfl) (by kernel_rfl) (fun _ _ _ _ h => h) hH (fun oi hoi => ?_)
  simp only [List.getElem?_toArray, List.getElem?_cons_succ, List.getElem?_cons_zero, Option.some.injEq] at hoi
  subst hoi
  refine ⟨.inl ⟨by rfl, fun w hSw => ?_⟩, ?_⟩
  · skip
    first | (go_simp; done) | (go_simp; omega) | (go_simp; with_reducible rfl) | (go_simp; kernel_rfl)
  simp only [Act.put, List.setIfInBounds_toArray, List.set_cons_zero, List.set_cons_succ]
  refine take_lit (i := 3) (v := (.int .i64 (0))) (by kernel_rfl) (by kernel_rfl) (by kernel_rfl) (by kernel_rfl) (fun _ _ _ _ h => h) hH (fun oi hoi => ?_)
  simp only [List.getElem?_toArray, List.getElem?_cons_succ, List.getElem?_cons_zero, Option.some.injEq] at hoi
  subst hoi
  refine ⟨.inl ⟨by rfl, fun w hSw => ?_⟩, ?_⟩
  · skip
    have z := hSw.at (j := 17) (u := .int .i64 0) (by rw [← hk]; rfl)
    first | (go_simp; done) | (go_simp; omega) | (go_simp; with_reducible rfl) | (go_simp; kernel_rfl)
  simp only [Act.put, List.setIfInBounds_toArray, List.set_cons_zero, List.set_cons_succ]
  refine take_lit (i := 4) (v := (.int .i64 (0))) (by kernel_rfl) (by kernel_rfl) (by kernel_rfl) (by kernel_rfl) (fun _ _ _ _ h => h) hH (fun oi hoi => ?_)
  simp only [List.getElem?_toArray, List.getElem?_cons_succ, List.getElem?_cons_zero, Option.some.injEq] at hoi
  subst hoi
  refine ⟨.inl ⟨by rfl, fun w hSw => ?_⟩, ?_⟩
  · skip
    first | (go_simp; done) | (go_simp; omega) | (go_simp; with_reducible rfl) | (go_simp; kernel_rfl)
  simp only [Act.put, List.setIfInBounds_toArray, List.set_cons_zero, List.set_cons_succ]
  refine take_lit (i := 5) (v := (.bool false)) (by kernel_rfl) (by kernel_rfl) (by kernel_rfl) (by kernel_rfl) (fun _ _ _ _ h => h) hH (fun oi hoi => ?_)
  simp only [List.getElem?_toArray, List.getElem?_cons_succ, List.getElem?_cons_zero, Option.some.injEq] at hoi
  subst hoi
  refine ⟨.inl ⟨by rfl, fun w hSw => ?_⟩, ?_⟩
  · skip
    first | (go_simp; done) | (go_simp; omega) | (go_simp; with_reducible rfl) | (go_simp; kernel_rfl)
  simp only [Act.put, List.setIfInBounds_toArray, List.set_cons_zero, List.set_cons_succ]
  refine take_lit (i := 9) (v := (.pointer (some ⟨w.heap.size, 5, none⟩))) (by kernel_rfl) (by kernel_rfl) (by kernel_rfl) (by kernel_rfl) (fun _ _ _ _ h => h) hH (fun oi hoi => ?_)
  simp only [List.getElem?_toArray, List.getElem?_cons_succ, List.getElem?_cons_zero, Option.some.injEq] at hoi
  subst hoi
  refine ⟨.inl ⟨by rfl, fun w hSw => ?_⟩, ?_⟩
  · skip
    first | (go_simp; done) | (go_simp; omega) | (go_simp; with_reducible rfl) | (go_simp; kernel_rfl)
  simp only [Act.put, List.setIfInBounds_toArray, List.set_cons_zero, List.set_cons_succ]
  refine take_lit (i := 10) (v := (.int .i64 (x.dp))) (by kernel_rfl) (by kernel_rfl) (by kernel_rfl) (by kernel_rfl) (fun _ _ _ _ h => h) hH (fun oi hoi => ?_)
  simp only [List.getElem?_toArray, List.getElem?_cons_succ, List.getElem?_cons_zero, Option.some.injEq] at hoi
  subst hoi
  refine ⟨.inl ⟨by rfl, fun w hSw => ?_⟩, ?_⟩
  · skip
    have z := hSw.at (j := 5) rfl
    first | (go_simp; done) | (go_simp; omega) | (go_simp; with_reducible rfl) | (go_simp; kernel_rfl)
  simp only [Act.put, List.setIfInBounds_toArray, List.set_cons_zero, List.set_cons_succ]
  refine take_lit (i := 11) (v := (.pointer (some ⟨w.heap.size, 17, none⟩))) (by kernel_rfl) (by kernel_rfl) (by kernel_rfl) (by kernel_rfl) (fun _ _ _ _ h => h) hH (fun oi hoi => ?_)
  simp only [List.getElem?_toArray, List.getElem?_cons_succ, List.getElem?_cons_zero, Option.some.injEq] at hoi
  subst hoi
  refine ⟨.inl ⟨by rfl, fun w hSw => ?_⟩, ?_⟩
  · skip
    first | (go_simp; done) | (go_simp; omega) | (go_simp; with_reducible rfl) | (go_simp; kernel_rfl)
  simp only [Act.put, List.setIfInBounds_toArray, List.set_cons_zero, List.set_cons_succ]
  refine take_lit (i := 12) (v := (.int .i64 (0))) (by kernel_rfl) (by kernel_rfl) (by kernel_rfl) (by kernel_rfl) (fun _ _ _ _ h => h) hH (fun oi hoi => ?_)
  simp only [List.getElem?_toArray, List.getElem?_cons_succ, List.getElem?_cons_zero, Option.some.injEq] at hoi
  subst hoi
  refine ⟨.inl ⟨by rfl, fun w hSw => ?_⟩, ?_⟩
  · skip
    have z := hSw.at (j := 17) (u := .int .i64 0) (by rw [← hk]; rfl)
    first | (go_simp; done) | (go_simp; omega) | (go_simp; with_reducible rfl) | (go_simp; kernel_rfl)
  simp only [Act.put, List.setIfInBounds_toArray, List.set_cons_zero, List.set_cons_succ]
  refine take_lit (i := 13) (v := (.int .i64 (0))) (by kernel_rfl) (by kernel_rfl) (by kernel_rfl) (by kernel_rfl) (fun _ _ _ _ h => h) hH (fun oi hoi => ?_)
  simp only [List.getElem?_toArray, List.getElem?_cons_succ, List.getElem?_cons_zero, Option.some.injEq] at hoi
  subst hoi
  refine ⟨.inl ⟨by rfl, fun w hSw => ?_⟩, ?_⟩
  · skip
    first | (go_simp; done) | (go_simp; omega) | (go_simp; with_reducible rfl) | (go_simp; kernel_rfl)
  simp only [Act.put, List.setIfInBounds_toArray, List.set_cons_zero, List.set_cons_succ]
  refine take_lit (i := 14) (v := (.bool false)) (by kernel_rfl) (by kernel_rfl) (by kernel_rfl) (by kernel_rfl) (fun _ _ _ _ h => h) hH (fun oi hoi => ?_)
  simp only [List.getElem?_toArray, List.getElem?_cons_succ, List.getElem?_cons_zero, Option.some.injEq] at hoi
  subst hoi
  refine ⟨.inl ⟨by rfl, fun w hSw => ?_⟩, ?_⟩
  · skip
    first | (go_simp; done) | (go_simp; omega) | (go_simp; with_reducible rfl) | (go_simp; kernel_rfl)
  simp only [Act.put, List.setIfInBounds_toArray, List.set_cons_zero, List.set_cons_succ]
  refine take_lit (i := 18) (v := (.pointer (some ⟨w.heap.size, 3, none⟩))) (by kernel_rfl) (by kernel_rfl) (by kernel_rfl) (by kernel_rfl) (fun _ _ _ _ h => h) hH (fun oi hoi => ?_)
  simp only [List.getElem?_toArray, List.getElem?_cons_succ, List.getElem?_cons_zero, Option.some.injEq] at hoi
  subst hoi
  refine ⟨.inl ⟨by rfl, fun w hSw => ?_⟩, ?_⟩
  · skip
    first | (go_simp; done) | (go_simp; omega) | (go_simp; with_reducible rfl) | (go_simp; kernel_rfl)
  simp only [Act.put, List.setIfInBounds_toArray, List.set_cons_zero, List.set_cons_succ]
  refine take_lit (i := 19) (v := (.int .i64 (x.wd))) (by kernel_rfl) (by kernel_rfl) (by kernel_rfl) (by kernel_rfl) (fun _ _ _ _ h => h) hH (fun oi hoi => ?_)
  simp only [List.getElem?_toArray, List.getElem?_cons_succ, List.getElem?_cons_zero, Option.some.injEq] at hoi
  subst hoi
  refine ⟨.inl ⟨by rfl, fun w hSw => ?_⟩, ?_⟩
  · skip
    have z := hSw.at (j := 3) rfl
    first | (go_simp; done) | (go_simp; omega) | (go_simp; with_reducible rfl) | (go_simp; kernel_rfl)
  simp only [Act.put, List.setIfInBounds_toArray, List.set_cons_zero, List.set_cons_succ]
  refine take_lit (i := 20) (v := (.pointer (some ⟨w.heap.size, 17, none⟩))) (by kernel_rfl) (by kernel_rfl) (by kernel_rfl) (by kernel_rfl) (fun _ _ _ _ h => h) hH (fun oi hoi => ?_)
  simp only [List.getElem?_toArray, List.getElem?_cons_succ, List.getElem?_cons_zero, Option.some.injEq] at hoi
  subst hoi
  refine ⟨.inl ⟨by rfl, fun w hSw => ?_⟩, ?_⟩
  · skip
    first | (go_simp; done) | (go_simp; omega) | (go_simp; with_reducible rfl) | (go_simp; kernel_rfl)
  simp only [Act.put, List.setIfInBounds_toArray, List.set_cons_zero, List.set_cons_succ]
  refine take_lit (i := 21) (v := (.int .i64 (0))) (by kernel_rfl) (by kernel_rfl) (by kernel_rfl) (by kernel_rfl) (fun _ _ _ _ h => h) hH (fun oi hoi => ?_)
  simp only [List.getElem?_toArray, List.getElem?_cons_succ, List.getElem?_cons_zero, Option.some.injEq] at hoi
  subst hoi
  refine ⟨.inl ⟨by rfl, fun w hSw => ?_⟩, ?_⟩
  · skip
    have z := hSw.at (j := 17) (u := .int .i64 0) (by rw [← hk]; rfl)
    first | (go_simp; done) | (go_simp; omega) | (go_simp; with_reducible rfl) | (go_simp; kernel_rfl)
  simp only [Act.put, List.setIfInBounds_toArray, List.set_cons_zero, List.set_cons_succ]
  refine take_lit (i := 22) (v := (.int .i64 (0))) (by kernel_rfl) (by kernel_rfl) (by kernel_rfl) (by kernel_rfl) (fun _ _ _ _ h => h) hH (fun oi hoi => ?_)
  simp only [List.getElem?_toArray, List.getElem?_cons_succ, List.getElem?_cons_zero, Option.some.injEq] at hoi
  subst hoi
  refine ⟨.inl ⟨by rfl, fun w hSw => ?_⟩, ?_⟩
  · skip
    first | (go_simp; done) | (go_simp; omega) | (go_simp; with_reducible rfl) | (go_simp; kernel_rfl)
  simp only [Act.put, List.setIfInBounds_toArray, List.set_cons_zero, List.set_cons_succ]
  refine take_lit (i := 23) (v := (.bool false)) (by kernel_rfl) (by kernel_rfl) (by kernel_rfl) (by kernel_rfl) (fun _ _ _ _ h => h) hH (fun oi hoi => ?_)
  simp only [List.getElem?_toArray, List.getElem?_cons_succ, List.getElem?_cons_zero, Option.some.injEq] at hoi
  subst hoi
  refine ⟨.inl ⟨by rfl, fun w hSw => ?_⟩, ?_⟩
  · skip
    first | (go_simp; done) | (go_simp; omega) | (go_simp; with_reducible rfl) | (go_simp; kernel_rfl)
  simp only [Act.put, List.setIfInBounds_toArray, List.set_cons_zero, List.set_cons_succ]
  refine wpAnyH_ready (rs := [6]) (by kernel_rfl) (by simp) (AllReadyH.cons rfl (fun K hK => ?_) AllReadyH.nil)
  go_simp
  go_wp2_with fail
  refine (HC1.out _ hH.2.2).mono ?_
  rintro e w_1 ⟨rfl, hb_1⟩
  refine hK.out _ _ (hH.keep hb_1) (fun hH1 => ?_)
  try simp only [Act.put, List.setIfInBounds_toArray, List.set_cons_zero, List.set_cons_succ]
  clear hK K
  refine take_lit (i := 7) (v := (.string (⟨#[114, 117, 108, 101, 40]⟩ ++ T1))) (by kernel_rfl) (by kernel_rfl) (by kernel_rfl) (by kernel_rfl) (fun _ _ _ _ h => h) hH1 (fun oi hoi => ?_)
  simp only [List.getElem?_toArray, List.getElem?_cons_succ, List.getElem?_cons_zero, Option.some.injEq] at hoi
  subst hoi
  refine ⟨.inl ⟨by rfl, fun w hSw => ?_⟩, ?_⟩
  · skip
    have hz : ¬ 9223372036854775807 < (⟨#[114, 117, 108, 101, 40]⟩ : ByteArray).size + (T1 : ByteArray).size := by (try simp only [ByteArray.size_append]); have q0 : (⟨#[114, 117, 108, 101, 40]⟩ : ByteArray).size = 5 := rfl; omega
    first | (go_simp; done) | (go_simp; omega) | (go_simp; with_reducible rfl) | (go_simp; kernel_rfl)
  simp only [Act.put, List.setIfInBounds_toArray, List.set_cons_zero, List.set_cons_succ]
  refine take_lit (i := 8) (v := (.string (⟨#[114, 117, 108, 101, 40]⟩ ++ T1 ++ ⟨#[43]⟩))) (by kernel_rfl) (by kernel_rfl) (by kernel_rfl) (by kernel_rfl) (fun _ _ _ _ h => h) hH1 (fun oi hoi => ?_)
  simp only [List.getElem?_toArray, List.getElem?_cons_succ, List.getElem?_cons_zero, Option.some.injEq] at hoi
  subst hoi
  refine ⟨.inl ⟨by rfl, fun w hSw => ?_⟩, ?_⟩
  · skip
    have hz : ¬ 9223372036854775807 < (⟨#[114, 117, 108, 101, 40]⟩ ++ T1 : ByteArray).size + (⟨#[43]⟩ : ByteArray).size := by (try simp only [ByteArray.size_append]); have q0 : (⟨#[114, 117, 108, 101, 40]⟩ : ByteArray).size = 5 := rfl; have q1 : (⟨#[43]⟩ : ByteArray).size = 1 := rfl; omega
    first | (go_simp; done) | (go_simp; omega) | (go_simp; with_reducible rfl) | (go_simp; kernel_rfl)
  simp only [Act.put, List.setIfInBounds_toArray, List.set_cons_zero, List.set_cons_succ]
  refine wpAnyH_ready (rs := [15]) (by kernel_rfl) (by simp) (AllReadyH.cons rfl (fun K hK => ?_) AllReadyH.nil)
  go_simp
  go_wp2_with fail
  refine (HC2.out _ hH1.2.2).mono ?_
  rintro e w_2 ⟨rfl, hb_2⟩
  refine hK.out _ _ (hH1.keep hb_2) (fun hH2 => ?_)
  try simp only [Act.put, List.setIfInBounds_toArray, List.set_cons_zero, List.set_cons_succ]
  clear hK K
  refine take_lit (i := 16) (v := (.string (⟨#[114, 117, 108, 101, 40]⟩ ++ T1 ++ ⟨#[43]⟩ ++ T2))) (by kernel_rfl) (by kernel_rfl) (by kernel_rfl) (by kernel_rfl) (fun _ _ _ _ h => h) hH2 (fun oi hoi => ?_)
  simp only [List.getElem?_toArray, List.getElem?_cons_succ, List.getElem?_cons_zero, Option.some.injEq] at hoi
  subst hoi
  refine ⟨.inl ⟨by rfl, fun w hSw => ?_⟩, ?_⟩
  · skip
    have hz : ¬ 9223372036854775807 < (⟨#[114, 117, 108, 101, 40]⟩ ++ T1 ++ ⟨#[43]⟩ : ByteArray).size + (T2 : ByteArray).size := by (try simp only [ByteArray.size_append]); have q0 : (⟨#[114, 117, 108, 101, 40]⟩ : ByteArray).size = 5 := rfl; have q1 : (⟨#[43]⟩ : ByteArray).size = 1 := rfl; omega
    first | (go_simp; done) | (go_simp; omega) | (go_simp; with_reducible rfl) | (go_simp; kernel_rfl)
  simp only [Act.put, List.setIfInBounds_toArray, List.set_cons_zero, List.set_cons_succ]
  refine take_lit (i := 17) (v := (.string (⟨#[114, 117, 108, 101, 40]⟩ ++ T1 ++ ⟨#[43]⟩ ++ T2 ++ ⟨#[41, 120]⟩))) (by kernel_rfl) (by kernel_rfl) (by kernel_rfl) (by kernel_rfl) (fun _ _ _ _ h => h) hH2 (fun oi hoi => ?_)
  simp only [List.getElem?_toArray, List.getElem?_cons_succ, List.getElem?_cons_zero, Option.some.injEq] at hoi
  subst hoi
  refine ⟨.inl ⟨by rfl, fun w hSw => ?_⟩, ?_⟩
  · skip
    have hz : ¬ 9223372036854775807 < (⟨#[114, 117, 108, 101, 40]⟩ ++ T1 ++ ⟨#[43]⟩ ++ T2 : ByteArray).size + (⟨#[41, 120]⟩ : ByteArray).size := by (try simp only [ByteArray.size_append]); have q0 : (⟨#[114, 117, 108, 101, 40]⟩ : ByteArray).size = 5 := rfl; have q1 : (⟨#[41, 120]⟩ : ByteArray).size = 2 := rfl; have q2 : (⟨#[43]⟩ : ByteArray).size = 1 := rfl; omega
    first | (go_simp; done) | (go_simp; omega) | (go_simp; with_reducible rfl) | (go_simp; kernel_rfl)
  simp only [Act.put, List.setIfInBounds_toArray, List.set_cons_zero, List.set_cons_succ]
  refine wpAnyH_ready (rs := [24]) (by kernel_rfl) (by simp) (AllReadyH.cons rfl (fun K hK => ?_) AllReadyH.nil)
  go_simp
  go_wp2_with fail
  refine (HC3.out _ hH2.2.2).mono ?_
  rintro e w_3 ⟨rfl, hb_3⟩
  refine hK.out _ _ (hH2.keep hb_3) (fun hH3 => ?_)
  try simp only [Act.put, List.setIfInBounds_toArray, List.set_cons_zero, List.set_cons_succ]
  clear hK K
  refine take_lit (i := 25) (v := (.string (⟨#[114, 117, 108, 101, 40]⟩ ++ T1 ++ ⟨#[43]⟩ ++ T2 ++ ⟨#[41, 120]⟩ ++ T3))) (by kernel_rfl) (by kernel_rfl) (by kernel_rfl) (by kernel_rfl) (fun _ _ _ _ h => h) hH3 (fun oi hoi => ?_)
  simp only [List.getElem?_toArray, List.getElem?_cons_succ, List.getElem?_cons_zero, Option.some.injEq] at hoi
  subst hoi
  refine ⟨.inl ⟨by rfl, fun w hSw => ?_⟩, ?_⟩
  · skip
    have hz : ¬ 9223372036854775807 < (⟨#[114, 117, 108, 101, 40]⟩ ++ T1 ++ ⟨#[43]⟩ ++ T2 ++ ⟨#[41, 120]⟩ : ByteArray).size + (T3 : ByteArray).size := by (try simp only [ByteArray.size_append]); have q0 : (⟨#[114, 117, 108, 101, 40]⟩ : ByteArray).size = 5 := rfl; have q1 : (⟨#[41, 120]⟩ : ByteArray).size = 2 := rfl; have q2 : (⟨#[43]⟩ : ByteArray).size = 1 := rfl; omega
    first | (go_simp; done) | (go_simp; omega) | (go_simp; with_reducible rfl) | (go_simp; kernel_rfl)
  simp only [Act.put, List.setIfInBounds_toArray, List.set_cons_zero, List.set_cons_succ]
  refine take_lit (i := 26) (v := (.string (⟨#[114, 117, 108, 101, 40]⟩ ++ T1 ++ ⟨#[43]⟩ ++ T2 ++ ⟨#[41, 120]⟩ ++ T3))) (by kernel_rfl) (by kernel_rfl) (by kernel_rfl) (by kernel_rfl) (fun _ _ _ _ h => h) hH3 (fun oi hoi => ?_)
  simp only [List.getElem?_toArray, List.getElem?_cons_succ, List.getElem?_cons_zero, Option.some.injEq] at hoi
  subst hoi
  refine ⟨.inl ⟨by rfl, fun w hSw => ?_⟩, ?_⟩
  · skip
    first | (go_simp; done) | (go_simp; omega) | (go_simp; with_reducible rfl) | (go_simp; kernel_rfl)
  simp only [Act.put, List.setIfInBounds_toArray, List.set_cons_zero, List.set_cons_succ]
  refine wpAnyH_done (by kernel_rfl) ?_ _
  go_wp2_with fail
  go_ret
  exact ⟨rfl, hH3.2.2⟩
set_option maxHeartbeats 8000000 in
set_option maxRecDepth 100000 in
theorem rule_1 (p : Value) (A : Option Addr) (ns : List Nd) (c a : Nat) (x : Nd) (w : World) (hseg : Seg w w.heap.size A (ns.flatMap ncs)) (hx : ns[a]? = some x) (htab : Tab w) (hk : x.sub = 1) :
    Calls Tryz.prog 64 #[p, .slice A ns.length c, .int .i64 (a : Int)] w fun e w' => e = .returned (.string (rulK ++ starT x.ht false ++ pluK ++ starT x.dp false ++ cxK ++ starT x.wd true)) ∧ Below w.heap.size w w' := by
  obtain ⟨b, off, rfl, hb, hn⟩ := seg_node hseg hx
  have hal : (a : Int) < (ns.length : Int) := by have := (List.getElem?_eq_some_iff.1 hx).1; omega
  have HC1 := Lib.hid (fun (W : World) (hB : Below w.heap.size w W) => star_any x.ht false W (htab.below hB))
  have hz1 := starT_size x.ht false
  generalize starT x.ht false = T1 at *
  have HC2 := Lib.hid (fun (W : World) (hB : Below w.heap.size w W) => star_any x.dp false W (htab.below hB))
  have hz2 := starT_size x.dp false
  generalize starT x.dp false = T2 at *
  have HC3 := Lib.hid (fun (W : World) (hB : Below w.heap.size w W) => star_any x.wd true W (htab.below hB))
  have hz3 := starT_size x.wd true
  generalize starT x.wd true = T3 at *
  clear htab
  clear hx
  generalize ns.length = ln at *
  have HSG := Lib.hid hseg
  clear hseg
  go_enter Tryz.func64, Tryz.ntmps64
  go_upto_region 2 with (first | (refine wpList_load_node rfl _ rfl _ _ rfl _ hn ?_) | (refine wpList_alloc_node rfl rfl ?_) | (refine wpList_store_node rfl _ _ rfl _ _ _ rfl rfl _ (by repeat (first | (apply Blk.new'; first | rfl | (simp; done)) | assumption | apply Blk.alloc)) ?_))
  rw [setRow_new _ _ _ _ _ rfl]
  have hH0 : Hd w w.heap.size x (w.alloc (.cells (nc x) 36)) := ⟨(Blk.new w 36 (nc x)).node, by simp, andAlloc (Below.refl w.heap.size w) _⟩
  generalize w.alloc (.cells (nc x) 36) = W at hH0 ⊢
  clear hn
  refine wp_region_held_drew (S := Hd w w.heap.size x) (by kernel_rfl) (hH0.drew) (fun hH => ?_)
  refine take_lit (i := 0) (v := (.pointer (some ⟨w.heap.size, 4, none⟩))) (by kernel_rfl) (by kernel_rfl) (by kernel_rfl) (by kernel_rfl) (fun _ _ _ _ h => h) hH (fun oi hoi => ?_)
  simp only [List.getElem?_toArray, List.getElem?_cons_succ, List.getElem?_cons_zero, Option.some.injEq] at hoi
  subst hoi
  refine ⟨.inl ⟨by rfl, fun w hSw => ?_⟩, ?_⟩
  · skip
    first | (go_simp; done) | (go_simp; omega) | (go_simp; with_reducible rfl) | (go_simp; kernel_rfl)
  simp only [Act.put, List.setIfInBounds_toArray, List.set_cons_zero, List.set_cons_succ]
  refine take_lit (i := 1) (v := (.int .i64 (x.ht))) (by kernel_rfl) (by kernel_rfl) (by kernel_rfl) (by kernel_rfl) (fun _ _ _ _ h => h) hH (fun oi hoi => ?_)
  simp only [List.getElem?_toArray, List.getElem?_cons_succ, List.getElem?_cons_zero, Option.some.injEq] at hoi
  subst hoi
  refine ⟨.inl ⟨by rfl, fun w hSw => ?_⟩, ?_⟩
  · skip
    have z := hSw.at (j := 4) rfl
    first | (go_simp; done) | (go_simp; omega) | (go_simp; with_reducible rfl) | (go_simp; kernel_rfl)
  simp only [Act.put, List.setIfInBounds_toArray, List.set_cons_zero, List.set_cons_succ]
  refine take_lit (i := 2) (v := (.pointer (some ⟨w.heap.size, 17, none⟩))) (by kernel_rfl) (by kernel_rfl) (by kernel_rfl) (by kernel_rfl) (fun _ _ _ _ h => h) hH (fun oi hoi => ?_)
  simp only [List.getElem?_toArray, List.getElem?_cons_succ, List.getElem?_cons_zero, Option.some.injEq] at hoi
  subst hoi
  refine ⟨.inl ⟨by rfl, fun w hSw => ?_⟩, ?_⟩
  · skip
    first | (go_simp; done) | (go_simp; omega) | (go_simp; with_reducible rfl) | (go_simp; kernel_rfl)
  simp only [Act.put, List.setIfInBounds_toArray, List.set_cons_zero, List.set_cons_succ]
  refine take_lit (i := 3) (v := (.int .i64 (1))) (by kernel_rfl) (by kernel_rfl) (by kernel_rfl) (by kernel_rfl) (fun _ _ _ _ h => h) hH (fun oi hoi => ?_)
  simp only [List.getElem?_toArray, List.getElem?_cons_succ, List.getElem?_cons_zero, Option.some.injEq] at hoi
  subst hoi
  refine ⟨.inl ⟨by rfl, fun w hSw => ?_⟩, ?_⟩
  · skip
    have z := hSw.at (j := 17) (u := .int .i64 1) (by rw [← hk]; rfl)
    first | (go_simp; done) | (go_simp; omega) | (go_simp; with_reducible rfl) | (go_simp; kernel_rfl)
  simp only [Act.put, List.setIfInBounds_toArray, List.set_cons_zero, List.set_cons_succ]
  refine take_lit (i := 4) (v := (.int .i64 (0))) (by kernel_rfl) (by kernel_rfl) (by kernel_rfl) (by kernel_rfl) (fun _ _ _ _ h => h) hH (fun oi hoi => ?_)
  simp only [List.getElem?_toArray, List.getElem?_cons_succ, List.getElem?_cons_zero, Option.some.injEq] at hoi
  subst hoi
  refine ⟨.inl ⟨by rfl, fun w hSw => ?_⟩, ?_⟩
  · skip
    first | (go_simp; done) | (go_simp; omega) | (go_simp; with_reducible rfl) | (go_simp; kernel_rfl)
  simp only [Act.put, List.setIfInBounds_toArray, List.set_cons_zero, List.set_cons_succ]
  refine take_lit (i := 5) (v := (.bool false)) (by kernel_rfl) (by kernel_rfl) (by kernel_rfl) (by kernel_rfl) (fun _ _ _ _ h => h) hH (fun oi hoi => ?_)
  simp only [List.getElem?_toArray, List.getElem?_cons_succ, List.getElem?_cons_zero, Option.some.injEq] at hoi
  subst hoi
  refine ⟨.inl ⟨by rfl, fun w hSw => ?_⟩, ?_⟩
  · skip
    first | (go_simp; done) | (go_simp; omega) | (go_simp; with_reducible rfl) | (go_simp; kernel_rfl)
  simp only [Act.put, List.setIfInBounds_toArray, List.set_cons_zero, List.set_cons_succ]
  refine take_lit (i := 9) (v := (.pointer (some ⟨w.heap.size, 5, none⟩))) (by kernel_rfl) (by kernel_rfl) (by kernel_rfl) (by kernel_rfl) (fun _ _ _ _ h => h) hH (fun oi hoi => ?_)
  simp only [List.getElem?_toArray, List.getElem?_cons_succ, List.getElem?_cons_zero, Option.some.injEq] at hoi
  subst hoi
  refine ⟨.inl ⟨by rfl, fun w hSw => ?_⟩, ?_⟩
  · skip
    first | (go_simp; done) | (go_simp; omega) | (go_simp; with_reducible rfl) | (go_simp; kernel_rfl)
  simp only [Act.put, List.setIfInBounds_toArray, List.set_cons_zero, List.set_cons_succ]
  refine take_lit (i := 10) (v := (.int .i64 (x.dp))) (by kernel_rfl) (by kernel_rfl) (by kernel_rfl) (by kernel_rfl) (fun _ _ _ _ h => h) hH (fun oi hoi => ?_)
  simp only [List.getElem?_toArray, List.getElem?_cons_succ, List.getElem?_cons_zero, Option.some.injEq] at hoi
  subst hoi
  refine ⟨.inl ⟨by rfl, fun w hSw => ?_⟩, ?_⟩
  · skip
    have z := hSw.at (j := 5) rfl
    first | (go_simp; done) | (go_simp; omega) | (go_simp; with_reducible rfl) | (go_simp; kernel_rfl)
  simp only [Act.put, List.setIfInBounds_toArray, List.set_cons_zero, List.set_cons_succ]
  refine take_lit (i := 11) (v := (.pointer (some ⟨w.heap.size, 17, none⟩))) (by kernel_rfl) (by kernel_rfl) (by kernel_rfl) (by kernel_rfl) (fun _ _ _ _ h => h) hH (fun oi hoi => ?_)
  simp only [List.getElem?_toArray, List.getElem?_cons_succ, List.getElem?_cons_zero, Option.some.injEq] at hoi
  subst hoi
  refine ⟨.inl ⟨by rfl, fun w hSw => ?_⟩, ?_⟩
  · skip
    first | (go_simp; done) | (go_simp; omega) | (go_simp; with_reducible rfl) | (go_simp; kernel_rfl)
  simp only [Act.put, List.setIfInBounds_toArray, List.set_cons_zero, List.set_cons_succ]
  refine take_lit (i := 12) (v := (.int .i64 (1))) (by kernel_rfl) (by kernel_rfl) (by kernel_rfl) (by kernel_rfl) (fun _ _ _ _ h => h) hH (fun oi hoi => ?_)
  simp only [List.getElem?_toArray, List.getElem?_cons_succ, List.getElem?_cons_zero, Option.some.injEq] at hoi
  subst hoi
  refine ⟨.inl ⟨by rfl, fun w hSw => ?_⟩, ?_⟩
  · skip
    have z := hSw.at (j := 17) (u := .int .i64 1) (by rw [← hk]; rfl)
    first | (go_simp; done) | (go_simp; omega) | (go_simp; with_reducible rfl) | (go_simp; kernel_rfl)
  simp only [Act.put, List.setIfInBounds_toArray, List.set_cons_zero, List.set_cons_succ]
  refine take_lit (i := 13) (v := (.int .i64 (0))) (by kernel_rfl) (by kernel_rfl) (by kernel_rfl) (by kernel_rfl) (fun _ _ _ _ h => h) hH (fun oi hoi => ?_)
  simp only [List.getElem?_toArray, List.getElem?_cons_succ, List.getElem?_cons_zero, Option.some.injEq] at hoi
  subst hoi
  refine ⟨.inl ⟨by rfl, fun w hSw => ?_⟩, ?_⟩
  · skip
    first | (go_simp; done) | (go_simp; omega) | (go_simp; with_reducible rfl) | (go_simp; kernel_rfl)
  simp only [Act.put, List.setIfInBounds_toArray, List.set_cons_zero, List.set_cons_succ]
  refine take_lit (i := 14) (v := (.bool false)) (by kernel_rfl) (by kernel_rfl) (by kernel_rfl) (by kernel_rfl) (fun _ _ _ _ h => h) hH (fun oi hoi => ?_)
  simp only [List.getElem?_toArray, List.getElem?_cons_succ, List.getElem?_cons_zero, Option.some.injEq] at hoi
  subst hoi
  refine ⟨.inl ⟨by rfl, fun w hSw => ?_⟩, ?_⟩
  · skip
    first | (go_simp; done) | (go_simp; omega) | (go_simp; with_reducible rfl) | (go_simp; kernel_rfl)
  simp only [Act.put, List.setIfInBounds_toArray, List.set_cons_zero, List.set_cons_succ]
  refine take_lit (i := 18) (v := (.pointer (some ⟨w.heap.size, 3, none⟩))) (by kernel_rfl) (by kernel_rfl) (by kernel_rfl) (by kernel_rfl) (fun _ _ _ _ h => h) hH (fun oi hoi => ?_)
  simp only [List.getElem?_toArray, List.getElem?_cons_succ, List.getElem?_cons_zero, Option.some.injEq] at hoi
  subst hoi
  refine ⟨.inl ⟨by rfl, fun w hSw => ?_⟩, ?_⟩
  · skip
    first | (go_simp; done) | (go_simp; omega) | (go_simp; with_reducible rfl) | (go_simp; kernel_rfl)
  simp only [Act.put, List.setIfInBounds_toArray, List.set_cons_zero, List.set_cons_succ]
  refine take_lit (i := 19) (v := (.int .i64 (x.wd))) (by kernel_rfl) (by kernel_rfl) (by kernel_rfl) (by kernel_rfl) (fun _ _ _ _ h => h) hH (fun oi hoi => ?_)
  simp only [List.getElem?_toArray, List.getElem?_cons_succ, List.getElem?_cons_zero, Option.some.injEq] at hoi
  subst hoi
  refine ⟨.inl ⟨by rfl, fun w hSw => ?_⟩, ?_⟩
  · skip
    have z := hSw.at (j := 3) rfl
    first | (go_simp; done) | (go_simp; omega) | (go_simp; with_reducible rfl) | (go_simp; kernel_rfl)
  simp only [Act.put, List.setIfInBounds_toArray, List.set_cons_zero, List.set_cons_succ]
  refine take_lit (i := 20) (v := (.pointer (some ⟨w.heap.size, 17, none⟩))) (by kernel_rfl) (by kernel_rfl) (by kernel_rfl) (by kernel_rfl) (fun _ _ _ _ h => h) hH (fun oi hoi => ?_)
  simp only [List.getElem?_toArray, List.getElem?_cons_succ, List.getElem?_cons_zero, Option.some.injEq] at hoi
  subst hoi
  refine ⟨.inl ⟨by rfl, fun w hSw => ?_⟩, ?_⟩
  · skip
    first | (go_simp; done) | (go_simp; omega) | (go_simp; with_reducible rfl) | (go_simp; kernel_rfl)
  simp only [Act.put, List.setIfInBounds_toArray, List.set_cons_zero, List.set_cons_succ]
  refine take_lit (i := 21) (v := (.int .i64 (1))) (by kernel_rfl) (by kernel_rfl) (by kernel_rfl) (by kernel_rfl) (fun _ _ _ _ h => h) hH (fun oi hoi => ?_)
  simp only [List.getElem?_toArray, List.getElem?_cons_succ, List.getElem?_cons_zero, Option.some.injEq] at hoi
  subst hoi
  refine ⟨.inl ⟨by rfl, fun w hSw => ?_⟩, ?_⟩
  · skip
    have z := hSw.at (j := 17) (u := .int .i64 1) (by rw [← hk]; rfl)
    first | (go_simp; done) | (go_simp; omega) | (go_simp; with_reducible rfl) | (go_simp; kernel_rfl)
  simp only [Act.put, List.setIfInBounds_toArray, List.set_cons_zero, List.set_cons_succ]
  refine take_lit (i := 22) (v := (.int .i64 (1))) (by kernel_rfl) (by kernel_rfl) (by kernel_rfl) (by kernel_rfl) (fun _ _ _ _ h => h) hH (fun oi hoi => ?_)
  simp only [List.getElem?_toArray, List.getElem?_cons_succ, List.getElem?_cons_zero, Option.some.injEq] at hoi
  subst hoi
  refine ⟨.inl ⟨by rfl, fun w hSw => ?_⟩, ?_⟩
  · skip
    first | (go_simp; done) | (go_simp; omega) | (go_simp; with_reducible rfl) | (go_simp; kernel_rfl)
  simp only [Act.put, List.setIfInBounds_toArray, List.set_cons_zero, List.set_cons_succ]
  refine take_lit (i := 23) (v := (.bool true)) (by kernel_rfl) (by kernel_rfl) (by kernel_rfl) (by kernel_rfl) (fun _ _ _ _ h => h) hH (fun oi hoi => ?_)
  simp only [List.getElem?_toArray, List.getElem?_cons_succ, List.getElem?_cons_zero, Option.some.injEq] at hoi
  subst hoi
  refine ⟨.inl ⟨by rfl, fun w hSw => ?_⟩, ?_⟩
  · skip
    first | (go_simp; done) | (go_simp; omega) | (go_simp; with_reducible rfl) | (go_simp; kernel_rfl)
  simp only [Act.put, List.setIfInBounds_toArray, List.set_cons_zero, List.set_cons_succ]
  refine wpAnyH_ready (rs := [6]) (by kernel_rfl) (by simp) (AllReadyH.cons rfl (fun K hK => ?_) AllReadyH.nil)
  go_simp
  go_wp2_with fail
  refine (HC1.out _ hH.2.2).mono ?_
  rintro e w_1 ⟨rfl, hb_1⟩
  refine hK.out _ _ (hH.keep hb_1) (fun hH1 => ?_)
  try simp only [Act.put, List.setIfInBounds_toArray, List.set_cons_zero, List.set_cons_succ]
  clear hK K
  refine take_lit (i := 7) (v := (.string (⟨#[114, 117, 108, 101, 40]⟩ ++ T1))) (by kernel_rfl) (by kernel_rfl) (by kernel_rfl) (by kernel_rfl) (fun _ _ _ _ h => h) hH1 (fun oi hoi => ?_)
  simp only [List.getElem?_toArray, List.getElem?_cons_succ, List.getElem?_cons_zero, Option.some.injEq] at hoi
  subst hoi
  refine ⟨.inl ⟨by rfl, fun w hSw => ?_⟩, ?_⟩
  · skip
    have hz : ¬ 9223372036854775807 < (⟨#[114, 117, 108, 101, 40]⟩ : ByteArray).size + (T1 : ByteArray).size := by (try simp only [ByteArray.size_append]); have q0 : (⟨#[114, 117, 108, 101, 40]⟩ : ByteArray).size = 5 := rfl; omega
    first | (go_simp; done) | (go_simp; omega) | (go_simp; with_reducible rfl) | (go_simp; kernel_rfl)
  simp only [Act.put, List.setIfInBounds_toArray, List.set_cons_zero, List.set_cons_succ]
  refine take_lit (i := 8) (v := (.string (⟨#[114, 117, 108, 101, 40]⟩ ++ T1 ++ ⟨#[43]⟩))) (by kernel_rfl) (by kernel_rfl) (by kernel_rfl) (by kernel_rfl) (fun _ _ _ _ h => h) hH1 (fun oi hoi => ?_)
  simp only [List.getElem?_toArray, List.getElem?_cons_succ, List.getElem?_cons_zero, Option.some.injEq] at hoi
  subst hoi
  refine ⟨.inl ⟨by rfl, fun w hSw => ?_⟩, ?_⟩
  · skip
    have hz : ¬ 9223372036854775807 < (⟨#[114, 117, 108, 101, 40]⟩ ++ T1 : ByteArray).size + (⟨#[43]⟩ : ByteArray).size := by (try simp only [ByteArray.size_append]); have q0 : (⟨#[114, 117, 108, 101, 40]⟩ : ByteArray).size = 5 := rfl; have q1 : (⟨#[43]⟩ : ByteArray).size = 1 := rfl; omega
    first | (go_simp; done) | (go_simp; omega) | (go_simp; with_reducible rfl) | (go_simp; kernel_rfl)
  simp only [Act.put, List.setIfInBounds_toArray, List.set_cons_zero, List.set_cons_succ]
  refine wpAnyH_ready (rs := [15]) (by kernel_rfl) (by simp) (AllReadyH.cons rfl (fun K hK => ?_) AllReadyH.nil)
  go_simp
  go_wp2_with fail
  refine (HC2.out _ hH1.2.2).mono ?_
  rintro e w_2 ⟨rfl, hb_2⟩
  refine hK.out _ _ (hH1.keep hb_2) (fun hH2 => ?_)
  try simp only [Act.put, List.setIfInBounds_toArray, List.set_cons_zero, List.set_cons_succ]
  clear hK K
  refine take_lit (i := 16) (v := (.string (⟨#[114, 117, 108, 101, 40]⟩ ++ T1 ++ ⟨#[43]⟩ ++ T2))) (by kernel_rfl) (by kernel_rfl) (by kernel_rfl) (by kernel_rfl) (fun _ _ _ _ h => h) hH2 (fun oi hoi => ?_)
  simp only [List.getElem?_toArray, List.getElem?_cons_succ, List.getElem?_cons_zero, Option.some.injEq] at hoi
  subst hoi
  refine ⟨.inl ⟨by rfl, fun w hSw => ?_⟩, ?_⟩
  · skip
    have hz : ¬ 9223372036854775807 < (⟨#[114, 117, 108, 101, 40]⟩ ++ T1 ++ ⟨#[43]⟩ : ByteArray).size + (T2 : ByteArray).size := by (try simp only [ByteArray.size_append]); have q0 : (⟨#[114, 117, 108, 101, 40]⟩ : ByteArray).size = 5 := rfl; have q1 : (⟨#[43]⟩ : ByteArray).size = 1 := rfl; omega
    first | (go_simp; done) | (go_simp; omega) | (go_simp; with_reducible rfl) | (go_simp; kernel_rfl)
  simp only [Act.put, List.setIfInBounds_toArray, List.set_cons_zero, List.set_cons_succ]
  refine take_lit (i := 17) (v := (.string (⟨#[114, 117, 108, 101, 40]⟩ ++ T1 ++ ⟨#[43]⟩ ++ T2 ++ ⟨#[41, 120]⟩))) (by kernel_rfl) (by kernel_rfl) (by kernel_rfl) (by kernel_rfl) (fun _ _ _ _ h => h) hH2 (fun oi hoi => ?_)
  simp only [List.getElem?_toArray, List.getElem?_cons_succ, List.getElem?_cons_zero, Option.some.injEq] at hoi
  subst hoi
  refine ⟨.inl ⟨by rfl, fun w hSw => ?_⟩, ?_⟩
  · skip
    have hz : ¬ 9223372036854775807 < (⟨#[114, 117, 108, 101, 40]⟩ ++ T1 ++ ⟨#[43]⟩ ++ T2 : ByteArray).size + (⟨#[41, 120]⟩ : ByteArray).size := by (try simp only [ByteArray.size_append]); have q0 : (⟨#[114, 117, 108, 101, 40]⟩ : ByteArray).size = 5 := rfl; have q1 : (⟨#[41, 120]⟩ : ByteArray).size = 2 := rfl; have q2 : (⟨#[43]⟩ : ByteArray).size = 1 := rfl; omega
    first | (go_simp; done) | (go_simp; omega) | (go_simp; with_reducible rfl) | (go_simp; kernel_rfl)
  simp only [Act.put, List.setIfInBounds_toArray, List.set_cons_zero, List.set_cons_succ]
  refine wpAnyH_ready (rs := [24]) (by kernel_rfl) (by simp) (AllReadyH.cons rfl (fun K hK => ?_) AllReadyH.nil)
  go_simp
  go_wp2_with fail
  refine (HC3.out _ hH2.2.2).mono ?_
  rintro e w_3 ⟨rfl, hb_3⟩
  refine hK.out _ _ (hH2.keep hb_3) (fun hH3 => ?_)
  try simp only [Act.put, List.setIfInBounds_toArray, List.set_cons_zero, List.set_cons_succ]
  clear hK K
  refine take_lit (i := 25) (v := (.string (⟨#[114, 117, 108, 101, 40]⟩ ++ T1 ++ ⟨#[43]⟩ ++ T2 ++ ⟨#[41, 120]⟩ ++ T3))) (by kernel_rfl) (by kernel_rfl) (by kernel_rfl) (by kernel_rfl) (fun _ _ _ _ h => h) hH3 (fun oi hoi => ?_)
  simp only [List.getElem?_toArray, List.getElem?_cons_succ, List.getElem?_cons_zero, Option.some.injEq] at hoi
  subst hoi
  refine ⟨.inl ⟨by rfl, fun w hSw => ?_⟩, ?_⟩
  · skip
    have hz : ¬ 9223372036854775807 < (⟨#[114, 117, 108, 101, 40]⟩ ++ T1 ++ ⟨#[43]⟩ ++ T2 ++ ⟨#[41, 120]⟩ : ByteArray).size + (T3 : ByteArray).size := by (try simp only [ByteArray.size_append]); have q0 : (⟨#[114, 117, 108, 101, 40]⟩ : ByteArray).size = 5 := rfl; have q1 : (⟨#[41, 120]⟩ : ByteArray).size = 2 := rfl; have q2 : (⟨#[43]⟩ : ByteArray).size = 1 := rfl; omega
    first | (go_simp; done) | (go_simp; omega) | (go_simp; with_reducible rfl) | (go_simp; kernel_rfl)
  simp only [Act.put, List.setIfInBounds_toArray, List.set_cons_zero, List.set_cons_succ]
  refine take_lit (i := 26) (v := (.string (⟨#[114, 117, 108, 101, 40]⟩ ++ T1 ++ ⟨#[43]⟩ ++ T2 ++ ⟨#[41, 120]⟩ ++ T3))) (by kernel_rfl) (by kernel_rfl) (by kernel_rfl) (by kernel_rfl) (fun _ _ _ _ h => h) hH3 (fun oi hoi => ?_)
  simp only [List.getElem?_toArray, List.getElem?_cons_succ, List.getElem?_cons_zero, Option.some.injEq] at hoi
  subst hoi
  refine ⟨.inl ⟨by rfl, fun w hSw => ?_⟩, ?_⟩
  · skip
    first | (go_simp; done) | (go_simp; omega) | (go_simp; with_reducible rfl) | (go_simp; kernel_rfl)
  simp only [Act.put, List.setIfInBounds_toArray, List.set_cons_zero, List.set_cons_succ]
  refine wpAnyH_done (by kernel_rfl) ?_ _
  go_wp2_with fail
  go_ret
  exact ⟨rfl, hH3.2.2⟩
set_option maxHeartbeats 8000000 in
set_option maxRecDepth 100000 in
theorem rule_2 (p : Value) (A : Option Addr) (ns : List Nd) (c a : Nat) (x : Nd) (w : World) (hseg : Seg w w.heap.size A (ns.flatMap ncs)) (hx : ns[a]? = some x) (htab : Tab w) (hk : x.sub = 2) :
    Calls Tryz.prog 64 #[p, .slice A ns.length c, .int .i64 (a : Int)] w fun e w' => e = .returned (.string (rulK ++ starT x.ht true ++ pluK ++ starT x.dp true ++ cxK ++ starT x.wd false)) ∧ Below w.heap.size w w' := by
  obtain ⟨b, off, rfl, hb, hn⟩ := seg_node hseg hx
  have hal : (a : Int) < (ns.length : Int) := by have := (List.getElem?_eq_some_iff.1 hx).1; omega
  have HC1 := Lib.hid (fun (W : World) (hB : Below w.heap.size w W) => star_any x.ht true W (htab.below hB))
  have hz1 := starT_size x.ht true
  generalize starT x.ht true = T1 at *
  have HC2 := Lib.hid (fun (W : World) (hB : Below w.heap.size w W) => star_any x.dp true W (htab.below hB))
  have hz2 := starT_size x.dp true
  generalize starT x.dp true = T2 at *
  have HC3 := Lib.hid (fun (W : World) (hB : Below w.heap.size w W) => star_any x.wd false W (htab.below hB))
  have hz3 := starT_size x.wd false
  generalize starT x.wd false = T3 at *
  clear htab
  clear hx
  generalize ns.length = ln at *
  have HSG := Lib.hid hseg
  clear hseg
  go_enter Tryz.func64, Tryz.ntmps64
  go_upto_region 2 with (first | (refine wpList_load_node rfl _ rfl _ _ rfl _ hn ?_) | (refine wpList_alloc_node rfl rfl ?_) | (refine wpList_store_node rfl _ _ rfl _ _ _ rfl rfl _ (by repeat (first | (apply Blk.new'; first | rfl | (simp; done)) | assumption | apply Blk.alloc)) ?_))
  rw [setRow_new _ _ _ _ _ rfl]
  have hH0 : Hd w w.heap.size x (w.alloc (.cells (nc x) 36)) := ⟨(Blk.new w 36 (nc x)).node, by simp, andAlloc (Below.refl w.heap.size w) _⟩
  generalize w.alloc (.cells (nc x) 36) = W at hH0 ⊢
  clear hn
  refine wp_region_held_drew (S := Hd w w.heap.size x) (by kernel_rfl) (hH0.drew) (fun hH => ?_)
  refine take_lit (i := 0) (v := (.pointer (some ⟨w.heap.size, 4, none⟩))) (by kernel_rfl) (by kernel_rfl) (by kernel_rfl) (by kernel_rfl) (fun _ _ _ _ h => h) hH (fun oi hoi => ?_)
  simp only [List.getElem?_toArray, List.getElem?_cons_succ, List.getElem?_cons_zero, Option.some.injEq] at hoi
  subst hoi
  refine ⟨.inl ⟨by rfl, fun w hSw => ?_⟩, ?_⟩
  · skip
    first | (go_simp; done) | (go_simp; omega) | (go_simp; with_reducible rfl) | (go_simp; kernel_rfl)
  simp only [Act.put, List.setIfInBounds_toArray, List.set_cons_zero, List.set_cons_succ]
  refine take_lit (i := 1) (v := (.int .i64 (x.ht))) (by kernel_rfl) (by kernel_rfl) (by kernel_rfl) (by kernel_rfl) (fun _ _ _ _ h => h) hH (fun oi hoi => ?_)
  simp only [List.getElem?_toArray, List.getElem?_cons_succ, List.getElem?_cons_zero, Option.some.injEq] at hoi
  subst hoi
  refine ⟨.inl ⟨by rfl, fun w hSw => ?_⟩, ?_⟩
  · skip
    have z := hSw.at (j := 4) rfl
    first | (go_simp; done) | (go_simp; omega) | (go_simp; with_reducible rfl) | (go_simp; kernel_rfl)
  simp only [Act.put, List.setIfInBounds_toArray, List.set_cons_zero, List.set_cons_succ]
  refine take_lit (i := 2) (v := (.pointer (some ⟨w.heap.size, 17, none⟩))) (by kernel_rfl) (by kernel_rfl) (by kernel_rfl) (by kernel_rfl) (fun _ _ _ _ h => h) hH (fun oi hoi => ?_)
  simp only [List.getElem?_toArray, List.getElem?_cons_succ, List.getElem?_cons_zero, Option.some.injEq] at hoi
  subst hoi
  refine ⟨.inl ⟨by rfl, fun w hSw => ?_⟩, ?_⟩
  · skip
    first | (go_simp; done) | (go_simp; omega) | (go_simp; with_reducible rfl) | (go_simp; kernel_rfl)
  simp only [Act.put, List.setIfInBounds_toArray, List.set_cons_zero, List.set_cons_succ]
  refine take_lit (i := 3) (v := (.int .i64 (2))) (by kernel_rfl) (by kernel_rfl) (by kernel_rfl) (by kernel_rfl) (fun _ _ _ _ h => h) hH (fun oi hoi => ?_)
  simp only [List.getElem?_toArray, List.getElem?_cons_succ, List.getElem?_cons_zero, Option.some.injEq] at hoi
  subst hoi
  refine ⟨.inl ⟨by rfl, fun w hSw => ?_⟩, ?_⟩
  · skip
    have z := hSw.at (j := 17) (u := .int .i64 2) (by rw [← hk]; rfl)
    first | (go_simp; done) | (go_simp; omega) | (go_simp; with_reducible rfl) | (go_simp; kernel_rfl)
  simp only [Act.put, List.setIfInBounds_toArray, List.set_cons_zero, List.set_cons_succ]
  refine take_lit (i := 4) (v := (.int .i64 (2))) (by kernel_rfl) (by kernel_rfl) (by kernel_rfl) (by kernel_rfl) (fun _ _ _ _ h => h) hH (fun oi hoi => ?_)
  simp only [List.getElem?_toArray, List.getElem?_cons_succ, List.getElem?_cons_zero, Option.some.injEq] at hoi
  subst hoi
  refine ⟨.inl ⟨by rfl, fun w hSw => ?_⟩, ?_⟩
  · skip
    first | (go_simp; done) | (go_simp; omega) | (go_simp; with_reducible rfl) | (go_simp; kernel_rfl)
  simp only [Act.put, List.setIfInBounds_toArray, List.set_cons_zero, List.set_cons_succ]
  refine take_lit (i := 5) (v := (.bool true)) (by kernel_rfl) (by kernel_rfl) (by kernel_rfl) (by kernel_rfl) (fun _ _ _ _ h => h) hH (fun oi hoi => ?_)
  simp only [List.getElem?_toArray, List.getElem?_cons_succ, List.getElem?_cons_zero, Option.some.injEq] at hoi
  subst hoi
  refine ⟨.inl ⟨by rfl, fun w hSw => ?_⟩, ?_⟩
  · skip
    first | (go_simp; done) | (go_simp; omega) | (go_simp; with_reducible rfl) | (go_simp; kernel_rfl)
  simp only [Act.put, List.setIfInBounds_toArray, List.set_cons_zero, List.set_cons_succ]
  refine take_lit (i := 9) (v := (.pointer (some ⟨w.heap.size, 5, none⟩))) (by kernel_rfl) (by kernel_rfl) (by kernel_rfl) (by kernel_rfl) (fun _ _ _ _ h => h) hH (fun oi hoi => ?_)
  simp only [List.getElem?_toArray, List.getElem?_cons_succ, List.getElem?_cons_zero, Option.some.injEq] at hoi
  subst hoi
  refine ⟨.inl ⟨by rfl, fun w hSw => ?_⟩, ?_⟩
  · skip
    first | (go_simp; done) | (go_simp; omega) | (go_simp; with_reducible rfl) | (go_simp; kernel_rfl)
  simp only [Act.put, List.setIfInBounds_toArray, List.set_cons_zero, List.set_cons_succ]
  refine take_lit (i := 10) (v := (.int .i64 (x.dp))) (by kernel_rfl) (by kernel_rfl) (by kernel_rfl) (by kernel_rfl) (fun _ _ _ _ h => h) hH (fun oi hoi => ?_)
  simp only [List.getElem?_toArray, List.getElem?_cons_succ, List.getElem?_cons_zero, Option.some.injEq] at hoi
  subst hoi
  refine ⟨.inl ⟨by rfl, fun w hSw => ?_⟩, ?_⟩
  · skip
    have z := hSw.at (j := 5) rfl
    first | (go_simp; done) | (go_simp; omega) | (go_simp; with_reducible rfl) | (go_simp; kernel_rfl)
  simp only [Act.put, List.setIfInBounds_toArray, List.set_cons_zero, List.set_cons_succ]
  refine take_lit (i := 11) (v := (.pointer (some ⟨w.heap.size, 17, none⟩))) (by kernel_rfl) (by kernel_rfl) (by kernel_rfl) (by kernel_rfl) (fun _ _ _ _ h => h) hH (fun oi hoi => ?_)
  simp only [List.getElem?_toArray, List.getElem?_cons_succ, List.getElem?_cons_zero, Option.some.injEq] at hoi
  subst hoi
  refine ⟨.inl ⟨by rfl, fun w hSw => ?_⟩, ?_⟩
  · skip
    first | (go_simp; done) | (go_simp; omega) | (go_simp; with_reducible rfl) | (go_simp; kernel_rfl)
  simp only [Act.put, List.setIfInBounds_toArray, List.set_cons_zero, List.set_cons_succ]
  refine take_lit (i := 12) (v := (.int .i64 (2))) (by kernel_rfl) (by kernel_rfl) (by kernel_rfl) (by kernel_rfl) (fun _ _ _ _ h => h) hH (fun oi hoi => ?_)
  simp only [List.getElem?_toArray, List.getElem?_cons_succ, List.getElem?_cons_zero, Option.some.injEq] at hoi
  subst hoi
  refine ⟨.inl ⟨by rfl, fun w hSw => ?_⟩, ?_⟩
  · skip
    have z := hSw.at (j := 17) (u := .int .i64 2) (by rw [← hk]; rfl)
    first | (go_simp; done) | (go_simp; omega) | (go_simp; with_reducible rfl) | (go_simp; kernel_rfl)
  simp only [Act.put, List.setIfInBounds_toArray, List.set_cons_zero, List.set_cons_succ]
  refine take_lit (i := 13) (v := (.int .i64 (2))) (by kernel_rfl) (by kernel_rfl) (by kernel_rfl) (by kernel_rfl) (fun _ _ _ _ h => h) hH (fun oi hoi => ?_)
  simp only [List.getElem?_toArray, List.getElem?_cons_succ, List.getElem?_cons_zero, Option.some.injEq] at hoi
  subst hoi
  refine ⟨.inl ⟨by rfl, fun w hSw => ?_⟩, ?_⟩
  · skip
    first | (go_simp; done) | (go_simp; omega) | (go_simp; with_reducible rfl) | (go_simp; kernel_rfl)
  simp only [Act.put, List.setIfInBounds_toArray, List.set_cons_zero, List.set_cons_succ]
  refine take_lit (i := 14) (v := (.bool true)) (by kernel_rfl) (by kernel_rfl) (by kernel_rfl) (by kernel_rfl) (fun _ _ _ _ h => h) hH (fun oi hoi => ?_)
  simp only [List.getElem?_toArray, List.getElem?_cons_succ, List.getElem?_cons_zero, Option.some.injEq] at hoi
  subst hoi
  refine ⟨.inl ⟨by rfl, fun w hSw => ?_⟩, ?_⟩
  · skip
    first | (go_simp; done) | (go_simp; omega) | (go_simp; with_reducible rfl) | (go_simp; kernel_rfl)
  simp only [Act.put, List.setIfInBounds_toArray, List.set_cons_zero, List.set_cons_succ]
  refine take_lit (i := 18) (v := (.pointer (some ⟨w.heap.size, 3, none⟩))) (by kernel_rfl) (by kernel_rfl) (by kernel_rfl) (by kernel_rfl) (fun _ _ _ _ h => h) hH (fun oi hoi => ?_)
  simp only [List.getElem?_toArray, List.getElem?_cons_succ, List.getElem?_cons_zero, Option.some.injEq] at hoi
  subst hoi
  refine ⟨.inl ⟨by rfl, fun w hSw => ?_⟩, ?_⟩
  · skip
    first | (go_simp; done) | (go_simp; omega) | (go_simp; with_reducible rfl) | (go_simp; kernel_rfl)
  simp only [Act.put, List.setIfInBounds_toArray, List.set_cons_zero, List.set_cons_succ]
  refine take_lit (i := 19) (v := (.int .i64 (x.wd))) (by kernel_rfl) (by kernel_rfl) (by kernel_rfl) (by kernel_rfl) (fun _ _ _ _ h => h) hH (fun oi hoi => ?_)
  simp only [List.getElem?_toArray, List.getElem?_cons_succ, List.getElem?_cons_zero, Option.some.injEq] at hoi
  subst hoi
  refine ⟨.inl ⟨by rfl, fun w hSw => ?_⟩, ?_⟩
  · skip
    have z := hSw.at (j := 3) rfl
    first | (go_simp; done) | (go_simp; omega) | (go_simp; with_reducible rfl) | (go_simp; kernel_rfl)
  simp only [Act.put, List.setIfInBounds_toArray, List.set_cons_zero, List.set_cons_succ]
  refine take_lit (i := 20) (v := (.pointer (some ⟨w.heap.size, 17, none⟩))) (by kernel_rfl) (by kernel_rfl) (by kernel_rfl) (by kernel_rfl) (fun _ _ _ _ h => h) hH (fun oi hoi => ?_)
  simp only [List.getElem?_toArray, List.getElem?_cons_succ, List.getElem?_cons_zero, Option.some.injEq] at hoi
  subst hoi
  refine ⟨.inl ⟨by rfl, fun w hSw => ?_⟩, ?_⟩
  · skip
    first | (go_simp; done) | (go_simp; omega) | (go_simp; with_reducible rfl) | (go_simp; kernel_rfl)
  simp only [Act.put, List.setIfInBounds_toArray, List.set_cons_zero, List.set_cons_succ]
  refine take_lit (i := 21) (v := (.int .i64 (2))) (by kernel_rfl) (by kernel_rfl) (by kernel_rfl) (by kernel_rfl) (fun _ _ _ _ h => h) hH (fun oi hoi => ?_)
  simp only [List.getElem?_toArray, List.getElem?_cons_succ, List.getElem?_cons_zero, Option.some.injEq] at hoi
  subst hoi
  refine ⟨.inl ⟨by rfl, fun w hSw => ?_⟩, ?_⟩
  · skip
    have z := hSw.at (j := 17) (u := .int .i64 2) (by rw [← hk]; rfl)
    first | (go_simp; done) | (go_simp; omega) | (go_simp; with_reducible rfl) | (go_simp; kernel_rfl)
  simp only [Act.put, List.setIfInBounds_toArray, List.set_cons_zero, List.set_cons_succ]
  refine take_lit (i := 22) (v := (.int .i64 (0))) (by kernel_rfl) (by kernel_rfl) (by kernel_rfl) (by kernel_rfl) (fun _ _ _ _ h => h) hH (fun oi hoi => ?_)
  simp only [List.getElem?_toArray, List.getElem?_cons_succ, List.getElem?_cons_zero, Option.some.injEq] at hoi
  subst hoi
  refine ⟨.inl ⟨by rfl, fun w hSw => ?_⟩, ?_⟩
  · skip
    first | (go_simp; done) | (go_simp; omega) | (go_simp; with_reducible rfl) | (go_simp; kernel_rfl)
  simp only [Act.put, List.setIfInBounds_toArray, List.set_cons_zero, List.set_cons_succ]
  refine take_lit (i := 23) (v := (.bool false)) (by kernel_rfl) (by kernel_rfl) (by kernel_rfl) (by kernel_rfl) (fun _ _ _ _ h => h) hH (fun oi hoi => ?_)
  simp only [List.getElem?_toArray, List.getElem?_cons_succ, List.getElem?_cons_zero, Option.some.injEq] at hoi
  subst hoi
  refine ⟨.inl ⟨by rfl, fun w hSw => ?_⟩, ?_⟩
  · skip
    first | (go_simp; done) | (go_simp; omega) | (go_simp; with_reducible rfl) | (go_simp; kernel_rfl)
  simp only [Act.put, List.setIfInBounds_toArray, List.set_cons_zero, List.set_cons_succ]
  refine wpAnyH_ready (rs := [6]) (by kernel_rfl) (by simp) (AllReadyH.cons rfl (fun K hK => ?_) AllReadyH.nil)
  go_simp
  go_wp2_with fail
  refine (HC1.out _ hH.2.2).mono ?_
  rintro e w_1 ⟨rfl, hb_1⟩
  refine hK.out _ _ (hH.keep hb_1) (fun hH1 => ?_)
  try simp only [Act.put, List.setIfInBounds_toArray, List.set_cons_zero, List.set_cons_succ]
  clear hK K
  refine take_lit (i := 7) (v := (.string (⟨#[114, 117, 108, 101, 40]⟩ ++ T1))) (by kernel_rfl) (by kernel_rfl) (by kernel_rfl) (by kernel_rfl) (fun _ _ _ _ h => h) hH1 (fun oi hoi => ?_)
  simp only [List.getElem?_toArray, List.getElem?_cons_succ, List.getElem?_cons_zero, Option.some.injEq] at hoi
  subst hoi
  refine ⟨.inl ⟨by rfl, fun w hSw => ?_⟩, ?_⟩
  · skip
    have hz : ¬ 9223372036854775807 < (⟨#[114, 117, 108, 101, 40]⟩ : ByteArray).size + (T1 : ByteArray).size := by (try simp only [ByteArray.size_append]); have q0 : (⟨#[114, 117, 108, 101, 40]⟩ : ByteArray).size = 5 := rfl; omega
    first | (go_simp; done) | (go_simp; omega) | (go_simp; with_reducible rfl) | (go_simp; kernel_rfl)
  simp only [Act.put, List.setIfInBounds_toArray, List.set_cons_zero, List.set_cons_succ]
  refine take_lit (i := 8) (v := (.string (⟨#[114, 117, 108, 101, 40]⟩ ++ T1 ++ ⟨#[43]⟩))) (by kernel_rfl) (by kernel_rfl) (by kernel_rfl) (by kernel_rfl) (fun _ _ _ _ h => h) hH1 (fun oi hoi => ?_)
  simp only [List.getElem?_toArray, List.getElem?_cons_succ, List.getElem?_cons_zero, Option.some.injEq] at hoi
  subst hoi
  refine ⟨.inl ⟨by rfl, fun w hSw => ?_⟩, ?_⟩
  · skip
    have hz : ¬ 9223372036854775807 < (⟨#[114, 117, 108, 101, 40]⟩ ++ T1 : ByteArray).size + (⟨#[43]⟩ : ByteArray).size := by (try simp only [ByteArray.size_append]); have q0 : (⟨#[114, 117, 108, 101, 40]⟩ : ByteArray).size = 5 := rfl; have q1 : (⟨#[43]⟩ : ByteArray).size = 1 := rfl; omega
    first | (go_simp; done) | (go_simp; omega) | (go_simp; with_reducible rfl) | (go_simp; kernel_rfl)
  simp only [Act.put, List.setIfInBounds_toArray, List.set_cons_zero, List.set_cons_succ]
  refine wpAnyH_ready (rs := [15]) (by kernel_rfl) (by simp) (AllReadyH.cons rfl (fun K hK => ?_) AllReadyH.nil)
  go_simp
  go_wp2_with fail
  refine (HC2.out _ hH1.2.2).mono ?_
  rintro e w_2 ⟨rfl, hb_2⟩
  refine hK.out _ _ (hH1.keep hb_2) (fun hH2 => ?_)
  try simp only [Act.put, List.setIfInBounds_toArray, List.set_cons_zero, List.set_cons_succ]
  clear hK K
  refine take_lit (i := 16) (v := (.string (⟨#[114, 117, 108, 101, 40]⟩ ++ T1 ++ ⟨#[43]⟩ ++ T2))) (by kernel_rfl) (by kernel_rfl) (by kernel_rfl) (by kernel_rfl) (fun _ _ _ _ h => h) hH2 (fun oi hoi => ?_)
  simp only [List.getElem?_toArray, List.getElem?_cons_succ, List.getElem?_cons_zero, Option.some.injEq] at hoi
  subst hoi
  refine ⟨.inl ⟨by rfl, fun w hSw => ?_⟩, ?_⟩
  · skip
    have hz : ¬ 9223372036854775807 < (⟨#[114, 117, 108, 101, 40]⟩ ++ T1 ++ ⟨#[43]⟩ : ByteArray).size + (T2 : ByteArray).size := by (try simp only [ByteArray.size_append]); have q0 : (⟨#[114, 117, 108, 101, 40]⟩ : ByteArray).size = 5 := rfl; have q1 : (⟨#[43]⟩ : ByteArray).size = 1 := rfl; omega
    first | (go_simp; done) | (go_simp; omega) | (go_simp; with_reducible rfl) | (go_simp; kernel_rfl)
  simp only [Act.put, List.setIfInBounds_toArray, List.set_cons_zero, List.set_cons_succ]
  refine take_lit (i := 17) (v := (.string (⟨#[114, 117, 108, 101, 40]⟩ ++ T1 ++ ⟨#[43]⟩ ++ T2 ++ ⟨#[41, 120]⟩))) (by kernel_rfl) (by kernel_rfl) (by kernel_rfl) (by kernel_rfl) (fun _ _ _ _ h => h) hH2 (fun oi hoi => ?_)
  simp only [List.getElem?_toArray, List.getElem?_cons_succ, List.getElem?_cons_zero, Option.some.injEq] at hoi
  subst hoi
  refine ⟨.inl ⟨by rfl, fun w hSw => ?_⟩, ?_⟩
  · skip
    have hz : ¬ 9223372036854775807 < (⟨#[114, 117, 108, 101, 40]⟩ ++ T1 ++ ⟨#[43]⟩ ++ T2 : ByteArray).size + (⟨#[41, 120]⟩ : ByteArray).size := by (try simp only [ByteArray.size_append]); have q0 : (⟨#[114, 117, 108, 101, 40]⟩ : ByteArray).size = 5 := rfl; have q1 : (⟨#[41, 120]⟩ : ByteArray).size = 2 := rfl; have q2 : (⟨#[43]⟩ : ByteArray).size = 1 := rfl; omega
    first | (go_simp; done) | (go_simp; omega) | (go_simp; with_reducible rfl) | (go_simp; kernel_rfl)
  simp only [Act.put, List.setIfInBounds_toArray, List.set_cons_zero, List.set_cons_succ]
  refine wpAnyH_ready (rs := [24]) (by kernel_rfl) (by simp) (AllReadyH.cons rfl (fun K hK => ?_) AllReadyH.nil)
  go_simp
  go_wp2_with fail
  refine (HC3.out _ hH2.2.2).mono ?_
  rintro e w_3 ⟨rfl, hb_3⟩
  refine hK.out _ _ (hH2.keep hb_3) (fun hH3 => ?_)
  try simp only [Act.put, List.setIfInBounds_toArray, List.set_cons_zero, List.set_cons_succ]
  clear hK K
  refine take_lit (i := 25) (v := (.string (⟨#[114, 117, 108, 101, 40]⟩ ++ T1 ++ ⟨#[43]⟩ ++ T2 ++ ⟨#[41, 120]⟩ ++ T3))) (by kernel_rfl) (by kernel_rfl) (by kernel_rfl) (by kernel_rfl) (fun _ _ _ _ h => h) hH3 (fun oi hoi => ?_)
  simp only [List.getElem?_toArray, List.getElem?_cons_succ, List.getElem?_cons_zero, Option.some.injEq] at hoi
  subst hoi
  refine ⟨.inl ⟨by rfl, fun w hSw => ?_⟩, ?_⟩
  · skip
    have hz : ¬ 9223372036854775807 < (⟨#[114, 117, 108, 101, 40]⟩ ++ T1 ++ ⟨#[43]⟩ ++ T2 ++ ⟨#[41, 120]⟩ : ByteArray).size + (T3 : ByteArray).size := by (try simp only [ByteArray.size_append]); have q0 : (⟨#[114, 117, 108, 101, 40]⟩ : ByteArray).size = 5 := rfl; have q1 : (⟨#[41, 120]⟩ : ByteArray).size = 2 := rfl; have q2 : (⟨#[43]⟩ : ByteArray).size = 1 := rfl; omega
    first | (go_simp; done) | (go_simp; omega) | (go_simp; with_reducible rfl) | (go_simp; kernel_rfl)
  simp only [Act.put, List.setIfInBounds_toArray, List.set_cons_zero, List.set_cons_succ]
  refine take_lit (i := 26) (v := (.string (⟨#[114, 117, 108, 101, 40]⟩ ++ T1 ++ ⟨#[43]⟩ ++ T2 ++ ⟨#[41, 120]⟩ ++ T3))) (by kernel_rfl) (by kernel_rfl) (by kernel_rfl) (by kernel_rfl) (fun _ _ _ _ h => h) hH3 (fun oi hoi => ?_)
  simp only [List.getElem?_toArray, List.getElem?_cons_succ, List.getElem?_cons_zero, Option.some.injEq] at hoi
  subst hoi
  refine ⟨.inl ⟨by rfl, fun w hSw => ?_⟩, ?_⟩
  · skip
    first | (go_simp; done) | (go_simp; omega) | (go_simp; with_reducible rfl) | (go_simp; kernel_rfl)
  simp only [Act.put, List.setIfInBounds_toArray, List.set_cons_zero, List.set_cons_succ]
  refine wpAnyH_done (by kernel_rfl) ?_ _
  go_wp2_with fail
  go_ret
  exact ⟨rfl, hH3.2.2⟩
set_option maxHeartbeats 8000000 in
set_option maxRecDepth 100000 in
theorem rule_3 (p : Value) (A : Option Addr) (ns : List Nd) (c a : Nat) (x : Nd) (w : World) (hseg : Seg w w.heap.size A (ns.flatMap ncs)) (hx : ns[a]? = some x) (htab : Tab w) (hk : x.sub = 3) :
    Calls Tryz.prog 64 #[p, .slice A ns.length c, .int .i64 (a : Int)] w fun e w' => e = .returned (.string (rulK ++ starT x.ht true ++ pluK ++ starT x.dp true ++ cxK ++ starT x.wd true)) ∧ Below w.heap.size w w' := by
  obtain ⟨b, off, rfl, hb, hn⟩ := seg_node hseg hx
  have hal : (a : Int) < (ns.length : Int) := by have := (List.getElem?_eq_some_iff.1 hx).1; omega
  have HC1 := Lib.hid (fun (W : World) (hB : Below w.heap.size w W) => star_any x.ht true W (htab.below hB))
  have hz1 := starT_size x.ht true
  generalize starT x.ht true = T1 at *
  have HC2 := Lib.hid (fun (W : World) (hB : Below w.heap.size w W) => star_any x.dp true W (htab.below hB))
  have hz2 := starT_size x.dp true
  generalize starT x.dp true = T2 at *
  have HC3 := Lib.hid (fun (W : World) (hB : Below w.heap.size w W) => star_any x.wd true W (htab.below hB))
  have hz3 := starT_size x.wd true
  generalize starT x.wd true = T3 at *
  clear htab
  clear hx
  generalize ns.length = ln at *
  have HSG := Lib.hid hseg
  clear hseg
  go_enter Tryz.func64, Tryz.ntmps64
  go_upto_region 2 with (first | (refine wpList_load_node rfl _ rfl _ _ rfl _ hn ?_) | (refine wpList_alloc_node rfl rfl ?_) | (refine wpList_store_node rfl _ _ rfl _ _ _ rfl rfl _ (by repeat (first | (apply Blk.new'; first | rfl | (simp; done)) | assumption | apply Blk.alloc)) ?_))
  rw [setRow_new _ _ _ _ _ rfl]
  have hH0 : Hd w w.heap.size x (w.alloc (.cells (nc x) 36)) := ⟨(Blk.new w 36 (nc x)).node, by simp, andAlloc (Below.refl w.heap.size w) _⟩
  generalize w.alloc (.cells (nc x) 36) = W at hH0 ⊢
  clear hn
  refine wp_region_held_drew (S := Hd w w.heap.size x) (by kernel_rfl) (hH0.drew) (fun hH => ?_)
  refine take_lit (i := 0) (v := (.pointer (some ⟨w.heap.size, 4, none⟩))) (by kernel_rfl) (by kernel_rfl) (by kernel_rfl) (by kernel_rfl) (fun _ _ _ _ h => h) hH (fun oi hoi => ?_)
  simp only [List.getElem?_toArray, List.getElem?_cons_succ, List.getElem?_cons_zero, Option.some.injEq] at hoi
  subst hoi
  refine ⟨.inl ⟨by rfl, fun w hSw => ?_⟩, ?_⟩
  · skip
    first | (go_simp; done) | (go_simp; omega) | (go_simp; with_reducible rfl) | (go_simp; kernel_rfl)
  simp only [Act.put, List.setIfInBounds_toArray, List.set_cons_zero, List.set_cons_succ]
  refine take_lit (i := 1) (v := (.int .i64 (x.ht))) (by kernel_rfl) (by kernel_rfl) (by kernel_rfl) (by kernel_rfl) (fun _ _ _ _ h => h) hH (fun oi hoi => ?_)
  simp only [List.getElem?_toArray, List.getElem?_cons_succ, List.getElem?_cons_zero, Option.some.injEq] at hoi
  subst hoi
  refine ⟨.inl ⟨by rfl, fun w hSw => ?_⟩, ?_⟩
  · skip
    have z := hSw.at (j := 4) rfl
    first | (go_simp; done) | (go_simp; omega) | (go_simp; with_reducible rfl) | (go_simp; kernel_rfl)
  simp only [Act.put, List.setIfInBounds_toArray, List.set_cons_zero, List.set_cons_succ]
  refine take_lit (i := 2) (v := (.pointer (some ⟨w.heap.size, 17, none⟩))) (by kernel_rfl) (by kernel_rfl) (by kernel_rfl) (by kernel_rfl) (fun _ _ _ _ h => h) hH (fun oi hoi => ?_)
  simp only [List.getElem?_toArray, List.getElem?_cons_succ, List.getElem?_cons_zero, Option.some.injEq] at hoi
  subst hoi
  refine ⟨.inl ⟨by rfl, fun w hSw => ?_⟩, ?_⟩
  · skip
    first | (go_simp; done) | (go_simp; omega) | (go_simp; with_reducible rfl) | (go_simp; kernel_rfl)
  simp only [Act.put, List.setIfInBounds_toArray, List.set_cons_zero, List.set_cons_succ]
  refine take_lit (i := 3) (v := (.int .i64 (3))) (by kernel_rfl) (by kernel_rfl) (by kernel_rfl) (by kernel_rfl) (fun _ _ _ _ h => h) hH (fun oi hoi => ?_)
  simp only [List.getElem?_toArray, List.getElem?_cons_succ, List.getElem?_cons_zero, Option.some.injEq] at hoi
  subst hoi
  refine ⟨.inl ⟨by rfl, fun w hSw => ?_⟩, ?_⟩
  · skip
    have z := hSw.at (j := 17) (u := .int .i64 3) (by rw [← hk]; rfl)
    first | (go_simp; done) | (go_simp; omega) | (go_simp; with_reducible rfl) | (go_simp; kernel_rfl)
  simp only [Act.put, List.setIfInBounds_toArray, List.set_cons_zero, List.set_cons_succ]
  refine take_lit (i := 4) (v := (.int .i64 (2))) (by kernel_rfl) (by kernel_rfl) (by kernel_rfl) (by kernel_rfl) (fun _ _ _ _ h => h) hH (fun oi hoi => ?_)
  simp only [List.getElem?_toArray, List.getElem?_cons_succ, List.getElem?_cons_zero, Option.some.injEq] at hoi
  subst hoi
  refine ⟨.inl ⟨by rfl, fun w hSw => ?_⟩, ?_⟩
  · skip
    first | (go_simp; done) | (go_simp; omega) | (go_simp; with_reducible rfl) | (go_simp; kernel_rfl)
  simp only [Act.put, List.setIfInBounds_toArray, List.set_cons_zero, List.set_cons_succ]
  refine take_lit (i := 5) (v := (.bool true)) (by kernel_rfl) (by kernel_rfl) (by kernel_rfl) (by kernel_rfl) (fun _ _ _ _ h => h) hH (fun oi hoi => ?_)
  simp only [List.getElem?_toArray, List.getElem?_cons_succ, List.getElem?_cons_zero, Option.some.injEq] at hoi
  subst hoi
  refine ⟨.inl ⟨by rfl, fun w hSw => ?_⟩, ?_⟩
  · skip
    first | (go_simp; done) | (go_simp; omega) | (go_simp; with_reducible rfl) | (go_simp; kernel_rfl)
  simp only [Act.put, List.setIfInBounds_toArray, List.set_cons_zero, List.set_cons_succ]
  refine take_lit (i := 9) (v := (.pointer (some ⟨w.heap.size, 5, none⟩))) (by kernel_rfl) (by kernel_rfl) (by kernel_rfl) (by kernel_rfl) (fun _ _ _ _ h => h) hH (fun oi hoi => ?_)
  simp only [List.getElem?_toArray, List.getElem?_cons_succ, List.getElem?_cons_zero, Option.some.injEq] at hoi
  subst hoi
  refine ⟨.inl ⟨by rfl, fun w hSw => ?_⟩, ?_⟩
  · skip
    first | (go_simp; done) | (go_simp; omega) | (go_simp; with_reducible rfl) | (go_simp; kernel_rfl)
  simp only [Act.put, List.setIfInBounds_toArray, List.set_cons_zero, List.set_cons_succ]
  refine take_lit (i := 10) (v := (.int .i64 (x.dp))) (by kernel_rfl) (by kernel_rfl) (by kernel_rfl) (by kernel_rfl) (fun _ _ _ _ h => h) hH (fun oi hoi => ?_)
  simp only [List.getElem?_toArray, List.getElem?_cons_succ, List.getElem?_cons_zero, Option.some.injEq] at hoi
  subst hoi
  refine ⟨.inl ⟨by rfl, fun w hSw => ?_⟩, ?_⟩
  · skip
    have z := hSw.at (j := 5) rfl
    first | (go_simp; done) | (go_simp; omega) | (go_simp; with_reducible rfl) | (go_simp; kernel_rfl)
  simp only [Act.put, List.setIfInBounds_toArray, List.set_cons_zero, List.set_cons_succ]
  refine take_lit (i := 11) (v := (.pointer (some ⟨w.heap.size, 17, none⟩))) (by kernel_rfl) (by kernel_rfl) (by kernel_rfl) (by kernel_rfl) (fun _ _ _ _ h => h) hH (fun oi hoi => ?_)
  simp only [List.getElem?_toArray, List.getElem?_cons_succ, List.getElem?_cons_zero, Option.some.injEq] at hoi
  subst hoi
  refine ⟨.inl ⟨by rfl, fun w hSw => ?_⟩, ?_⟩
  · skip
    first | (go_simp; done) | (go_simp; omega) | (go_simp; with_reducible rfl) | (go_simp; kernel_rfl)
  simp only [Act.put, List.setIfInBounds_toArray, List.set_cons_zero, List.set_cons_succ]
  refine take_lit (i := 12) (v := (.int .i64 (3))) (by kernel_rfl) (by kernel_rfl) (by kernel_rfl) (by kernel_rfl) (fun _ _ _ _ h => h) hH (fun oi hoi => ?_)
  simp only [List.getElem?_toArray, List.getElem?_cons_succ, List.getElem?_cons_zero, Option.some.injEq] at hoi
  subst hoi
  refine ⟨.inl ⟨by rfl, fun w hSw => ?_⟩, ?_⟩
  · skip
    have z := hSw.at (j := 17) (u := .int .i64 3) (by rw [← hk]; rfl)
    first | (go_simp; done) | (go_simp; omega) | (go_simp; with_reducible rfl) | (go_simp; kernel_rfl)
  simp only [Act.put, List.setIfInBounds_toArray, List.set_cons_zero, List.set_cons_succ]
  refine take_lit (i := 13) (v := (.int .i64 (2))) (by kernel_rfl) (by kernel_rfl) (by kernel_rfl) (by kernel_rfl) (fun _ _ _ _ h => h) hH (fun oi hoi => ?_)
  simp only [List.getElem?_toArray, List.getElem?_cons_succ, List.getElem?_cons_zero, Option.some.injEq] at hoi
  subst hoi
  refine ⟨.inl ⟨by rfl, fun w hSw => ?_⟩, ?_⟩
  · skip
    first | (go_simp; done) | (go_simp; omega) | (go_simp; with_reducible rfl) | (go_simp; kernel_rfl)
  simp only [Act.put, List.setIfInBounds_toArray, List.set_cons_zero, List.set_cons_succ]
  refine take_lit (i := 14) (v := (.bool true)) (by kernel_rfl) (by kernel_rfl) (by kernel_rfl) (by kernel_rfl) (fun _ _ _ _ h => h) hH (fun oi hoi => ?_)
  simp only [List.getElem?_toArray, List.getElem?_cons_succ, List.getElem?_cons_zero, Option.some.injEq] at hoi
  subst hoi
  refine ⟨.inl ⟨by rfl, fun w hSw => ?_⟩, ?_⟩
  · skip
    first | (go_simp; done) | (go_simp; omega) | (go_simp; with_reducible rfl) | (go_simp; kernel_rfl)
  simp only [Act.put, List.setIfInBounds_toArray, List.set_cons_zero, List.set_cons_succ]
  refine take_lit (i := 18) (v := (.pointer (some ⟨w.heap.size, 3, none⟩))) (by kernel_rfl) (by kernel_rfl) (by kernel_rfl) (by kernel_rfl) (fun _ _ _ _ h => h) hH (fun oi hoi => ?_)
  simp only [List.getElem?_toArray, List.getElem?_cons_succ, List.getElem?_cons_zero, Option.some.injEq] at hoi
  subst hoi
  refine ⟨.inl ⟨by rfl, fun w hSw => ?_⟩, ?_⟩
  · skip
    first | (go_simp; done) | (go_simp; omega) | (go_simp; with_reducible rfl) | (go_simp; kernel_rfl)
  simp only [Act.put, List.setIfInBounds_toArray, List.set_cons_zero, List.set_cons_succ]
  refine take_lit (i := 19) (v := (.int .i64 (x.wd))) (by kernel_rfl) (by kernel_rfl) (by kernel_rfl) (by kernel_rfl) (fun _ _ _ _ h => h) hH (fun oi hoi => ?_)
  simp only [List.getElem?_toArray, List.getElem?_cons_succ, List.getElem?_cons_zero, Option.some.injEq] at hoi
  subst hoi
  refine ⟨.inl ⟨by rfl, fun w hSw => ?_⟩, ?_⟩
  · skip
    have z := hSw.at (j := 3) rfl
    first | (go_simp; done) | (go_simp; omega) | (go_simp; with_reducible rfl) | (go_simp; kernel_rfl)
  simp only [Act.put, List.setIfInBounds_toArray, List.set_cons_zero, List.set_cons_succ]
  refine take_lit (i := 20) (v := (.pointer (some ⟨w.heap.size, 17, none⟩))) (by kernel_rfl) (by kernel_rfl) (by kernel_rfl) (by kernel_rfl) (fun _ _ _ _ h => h) hH (fun oi hoi => ?_)
  simp only [List.getElem?_toArray, List.getElem?_cons_succ, List.getElem?_cons_zero, Option.some.injEq] at hoi
  subst hoi
  refine ⟨.inl ⟨by rfl, fun w hSw => ?_⟩, ?_⟩
  · skip
    first | (go_simp; done) | (go_simp; omega) | (go_simp; with_reducible rfl) | (go_simp; kernel_rfl)
  simp only [Act.put, List.setIfInBounds_toArray, List.set_cons_zero, List.set_cons_succ]
  refine take_lit (i := 21) (v := (.int .i64 (3))) (by kernel_rfl) (by kernel_rfl) (by kernel_rfl) (by kernel_rfl) (fun _ _ _ _ h => h) hH (fun oi hoi => ?_)
  simp only [List.getElem?_toArray, List.getElem?_cons_succ, List.getElem?_cons_zero, Option.some.injEq] at hoi
  subst hoi
  refine ⟨.inl ⟨by rfl, fun w hSw => ?_⟩, ?_⟩
  · skip
    have z := hSw.at (j := 17) (u := .int .i64 3) (by rw [← hk]; rfl)
    first | (go_simp; done) | (go_simp; omega) | (go_simp; with_reducible rfl) | (go_simp; kernel_rfl)
  simp only [Act.put, List.setIfInBounds_toArray, List.set_cons_zero, List.set_cons_succ]
  refine take_lit (i := 22) (v := (.int .i64 (1))) (by kernel_rfl) (by kernel_rfl) (by kernel_rfl) (by kernel_rfl) (fun _ _ _ _ h => h) hH (fun oi hoi => ?_)
  simp only [List.getElem?_toArray, List.getElem?_cons_succ, List.getElem?_cons_zero, Option.some.injEq] at hoi
  subst hoi
  refine ⟨.inl ⟨by rfl, fun w hSw => ?_⟩, ?_⟩
  · skip
    first | (go_simp; done) | (go_simp; omega) | (go_simp; with_reducible rfl) | (go_simp; kernel_rfl)
  simp only [Act.put, List.setIfInBounds_toArray, List.set_cons_zero, List.set_cons_succ]
  refine take_lit (i := 23) (v := (.bool true)) (by kernel_rfl) (by kernel_rfl) (by kernel_rfl) (by kernel_rfl) (fun _ _ _ _ h => h) hH (fun oi hoi => ?_)
  simp only [List.getElem?_toArray, List.getElem?_cons_succ, List.getElem?_cons_zero, Option.some.injEq] at hoi
  subst hoi
  refine ⟨.inl ⟨by rfl, fun w hSw => ?_⟩, ?_⟩
  · skip
    first | (go_simp; done) | (go_simp; omega) | (go_simp; with_reducible rfl) | (go_simp; kernel_rfl)
  simp only [Act.put, List.setIfInBounds_toArray, List.set_cons_zero, List.set_cons_succ]
  refine wpAnyH_ready (rs := [6]) (by kernel_rfl) (by simp) (AllReadyH.cons rfl (fun K hK => ?_) AllReadyH.nil)
  go_simp
  go_wp2_with fail
  refine (HC1.out _ hH.2.2).mono ?_
  rintro e w_1 ⟨rfl, hb_1⟩
  refine hK.out _ _ (hH.keep hb_1) (fun hH1 => ?_)
  try simp only [Act.put, List.setIfInBounds_toArray, List.set_cons_zero, List.set_cons_succ]
  clear hK K
  refine take_lit (i := 7) (v := (.string (⟨#[114, 117, 108, 101, 40]⟩ ++ T1))) (by kernel_rfl) (by kernel_rfl) (by kernel_rfl) (by kernel_rfl) (fun _ _ _ _ h => h) hH1 (fun oi hoi => ?_)
  simp only [List.getElem?_toArray, List.getElem?_cons_succ, List.getElem?_cons_zero, Option.some.injEq] at hoi
  subst hoi
  refine ⟨.inl ⟨by rfl, fun w hSw => ?_⟩, ?_⟩
  · skip
    have hz : ¬ 9223372036854775807 < (⟨#[114, 117, 108, 101, 40]⟩ : ByteArray).size + (T1 : ByteArray).size := by (try simp only [ByteArray.size_append]); have q0 : (⟨#[114, 117, 108, 101, 40]⟩ : ByteArray).size = 5 := rfl; omega
    first | (go_simp; done) | (go_simp; omega) | (go_simp; with_reducible rfl) | (go_simp; kernel_rfl)
  simp only [Act.put, List.setIfInBounds_toArray, List.set_cons_zero, List.set_cons_succ]
  refine take_lit (i := 8) (v := (.string (⟨#[114, 117, 108, 101, 40]⟩ ++ T1 ++ ⟨#[43]⟩))) (by kernel_rfl) (by kernel_rfl) (by kernel_rfl) (by kernel_rfl) (fun _ _ _ _ h => h) hH1 (fun oi hoi => ?_)
  simp only [List.getElem?_toArray, List.getElem?_cons_succ, List.getElem?_cons_zero, Option.some.injEq] at hoi
  subst hoi
  refine ⟨.inl ⟨by rfl, fun w hSw => ?_⟩, ?_⟩
  · skip
    have hz : ¬ 9223372036854775807 < (⟨#[114, 117, 108, 101, 40]⟩ ++ T1 : ByteArray).size + (⟨#[43]⟩ : ByteArray).size := by (try simp only [ByteArray.size_append]); have q0 : (⟨#[114, 117, 108, 101, 40]⟩ : ByteArray).size = 5 := rfl; have q1 : (⟨#[43]⟩ : ByteArray).size = 1 := rfl; omega
    first | (go_simp; done) | (go_simp; omega) | (go_simp; with_reducible rfl) | (go_simp; kernel_rfl)
  simp only [Act.put, List.setIfInBounds_toArray, List.set_cons_zero, List.set_cons_succ]
  refine wpAnyH_ready (rs := [15]) (by kernel_rfl) (by simp) (AllReadyH.cons rfl (fun K hK => ?_) AllReadyH.nil)
  go_simp
  go_wp2_with fail
  refine (HC2.out _ hH1.2.2).mono ?_
  rintro e w_2 ⟨rfl, hb_2⟩
  refine hK.out _ _ (hH1.keep hb_2) (fun hH2 => ?_)
  try simp only [Act.put, List.setIfInBounds_toArray, List.set_cons_zero, List.set_cons_succ]
  clear hK K
  refine take_lit (i := 16) (v := (.string (⟨#[114, 117, 108, 101, 40]⟩ ++ T1 ++ ⟨#[43]⟩ ++ T2))) (by kernel_rfl) (by kernel_rfl) (by kernel_rfl) (by kernel_rfl) (fun _ _ _ _ h => h) hH2 (fun oi hoi => ?_)
  simp only [List.getElem?_toArray, List.getElem?_cons_succ, List.getElem?_cons_zero, Option.some.injEq] at hoi
  subst hoi
  refine ⟨.inl ⟨by rfl, fun w hSw => ?_⟩, ?_⟩
  · skip
    have hz : ¬ 9223372036854775807 < (⟨#[114, 117, 108, 101, 40]⟩ ++ T1 ++ ⟨#[43]⟩ : ByteArray).size + (T2 : ByteArray).size := by (try simp only [ByteArray.size_append]); have q0 : (⟨#[114, 117, 108, 101, 40]⟩ : ByteArray).size = 5 := rfl; have q1 : (⟨#[43]⟩ : ByteArray).size = 1 := rfl; omega
    first | (go_simp; done) | (go_simp; omega) | (go_simp; with_reducible rfl) | (go_simp; kernel_rfl)
  simp only [Act.put, List.setIfInBounds_toArray, List.set_cons_zero, List.set_cons_succ]
  refine take_lit (i := 17) (v := (.string (⟨#[114, 117, 108, 101, 40]⟩ ++ T1 ++ ⟨#[43]⟩ ++ T2 ++ ⟨#[41, 120]⟩))) (by kernel_rfl) (by kernel_rfl) (by kernel_rfl) (by kernel_rfl) (fun _ _ _ _ h => h) hH2 (fun oi hoi => ?_)
  simp only [List.getElem?_toArray, List.getElem?_cons_succ, List.getElem?_cons_zero, Option.some.injEq] at hoi
  subst hoi
  refine ⟨.inl ⟨by rfl, fun w hSw => ?_⟩, ?_⟩
  · skip
    have hz : ¬ 9223372036854775807 < (⟨#[114, 117, 108, 101, 40]⟩ ++ T1 ++ ⟨#[43]⟩ ++ T2 : ByteArray).size + (⟨#[41, 120]⟩ : ByteArray).size := by (try simp only [ByteArray.size_append]); have q0 : (⟨#[114, 117, 108, 101, 40]⟩ : ByteArray).size = 5 := rfl; have q1 : (⟨#[41, 120]⟩ : ByteArray).size = 2 := rfl; have q2 : (⟨#[43]⟩ : ByteArray).size = 1 := rfl; omega
    first | (go_simp; done) | (go_simp; omega) | (go_simp; with_reducible rfl) | (go_simp; kernel_rfl)
  simp only [Act.put, List.setIfInBounds_toArray, List.set_cons_zero, List.set_cons_succ]
  refine wpAnyH_ready (rs := [24]) (by kernel_rfl) (by simp) (AllReadyH.cons rfl (fun K hK => ?_) AllReadyH.nil)
  go_simp
  go_wp2_with fail
  refine (HC3.out _ hH2.2.2).mono ?_
  rintro e w_3 ⟨rfl, hb_3⟩
  refine hK.out _ _ (hH2.keep hb_3) (fun hH3 => ?_)
  try simp only [Act.put, List.setIfInBounds_toArray, List.set_cons_zero, List.set_cons_succ]
  clear hK K
  refine take_lit (i := 25) (v := (.string (⟨#[114, 117, 108, 101, 40]⟩ ++ T1 ++ ⟨#[43]⟩ ++ T2 ++ ⟨#[41, 120]⟩ ++ T3))) (by kernel_rfl) (by kernel_rfl) (by kernel_rfl) (by kernel_rfl) (fun _ _ _ _ h => h) hH3 (fun oi hoi => ?_)
  simp only [List.getElem?_toArray, List.getElem?_cons_succ, List.getElem?_cons_zero, Option.some.injEq] at hoi
  subst hoi
  refine ⟨.inl ⟨by rfl, fun w hSw => ?_⟩, ?_⟩
  · skip
    have hz : ¬ 9223372036854775807 < (⟨#[114, 117, 108, 101, 40]⟩ ++ T1 ++ ⟨#[43]⟩ ++ T2 ++ ⟨#[41, 120]⟩ : ByteArray).size + (T3 : ByteArray).size := by (try simp only [ByteArray.size_append]); have q0 : (⟨#[114, 117, 108, 101, 40]⟩ : ByteArray).size = 5 := rfl; have q1 : (⟨#[41, 120]⟩ : ByteArray).size = 2 := rfl; have q2 : (⟨#[43]⟩ : ByteArray).size = 1 := rfl; omega
    first | (go_simp; done) | (go_simp; omega) | (go_simp; with_reducible rfl) | (go_simp; kernel_rfl)
  simp only [Act.put, List.setIfInBounds_toArray, List.set_cons_zero, List.set_cons_succ]
  refine take_lit (i := 26) (v := (.string (⟨#[114, 117, 108, 101, 40]⟩ ++ T1 ++ ⟨#[43]⟩ ++ T2 ++ ⟨#[41, 120]⟩ ++ T3))) (by kernel_rfl) (by kernel_rfl) (by kernel_rfl) (by kernel_rfl) (fun _ _ _ _ h => h) hH3 (fun oi hoi => ?_)
  simp only [List.getElem?_toArray, List.getElem?_cons_succ, List.getElem?_cons_zero, Option.some.injEq] at hoi
  subst hoi
  refine ⟨.inl ⟨by rfl, fun w hSw => ?_⟩, ?_⟩
  · skip
    first | (go_simp; done) | (go_simp; omega) | (go_simp; with_reducible rfl) | (go_simp; kernel_rfl)
  simp only [Act.put, List.setIfInBounds_toArray, List.set_cons_zero, List.set_cons_succ]
  refine wpAnyH_done (by kernel_rfl) ?_ _
  go_wp2_with fail
  go_ret
  exact ⟨rfl, hH3.2.2⟩
set_option maxHeartbeats 8000000 in
set_option maxRecDepth 100000 in
theorem ins_m (p : Value) (A : Option Addr) (ns : List Nd) (c a : Nat) (x : Nd) (w : World) (hseg : Seg w w.heap.size A (ns.flatMap ncs)) (hx : ns[a]? = some x) (htab : Tab w) (hs0 : -9223372036854775807 ≤ x.sub) (hs1 : x.sub ≤ 9223372036854775807) (hp0 : -9223372036854775807 ≤ x.pen) (hp1 : x.pen ≤ 9223372036854775807) :
    Calls Tryz.prog 71 #[p, .slice A ns.length c, .int .i64 (a : Int)] w fun e w' => e = .returned (.string (insK ++ itT x.sub ++ natK ++ prS x.ht ++ splK ++ Gl.shT x.gn x.gs x.gh x.ga x.gb ++ comK ++ prS x.dp ++ floK ++ itT x.pen)) ∧ Below w.heap.size w w' := by
  obtain ⟨b, off, rfl, hb, hn⟩ := seg_node hseg hx
  have hal : (a : Int) < (ns.length : Int) := by have := (List.getElem?_eq_some_iff.1 hx).1; omega
  have HC1 := Lib.hid (fun (W : World) (hB : Below w.heap.size w W) => itoa_any x.sub hs0 hs1 W (htab.below hB))
  have HC2 := Lib.hid (fun (W : World) (hB : Below w.heap.size w W) => pt_any x.ht W (htab.below hB))
  have HC3 := Lib.hid (fun (W : World) (hB : Below w.heap.size w W) => Gl.show_any x.gn x.gs x.gh x.ga x.gb W (htab.below hB))
  have HC4 := Lib.hid (fun (W : World) (hB : Below w.heap.size w W) => pt_any x.dp W (htab.below hB))
  have HC5 := Lib.hid (fun (W : World) (hB : Below w.heap.size w W) => itoa_any x.pen hp0 hp1 W (htab.below hB))
  have hz1 := itT_size hs0 hs1
  have hz2 := Gl.prS_size x.ht
  have hz3 := shT_size x.gn x.gs x.gh x.ga x.gb
  have hz4 := Gl.prS_size x.dp
  have hz5 := itT_size hp0 hp1
  generalize itT x.sub = T1 at *
  generalize prS x.ht = T2 at *
  generalize Gl.shT x.gn x.gs x.gh x.ga x.gb = T3 at *
  generalize prS x.dp = T4 at *
  generalize itT x.pen = T5 at *
  clear hs0 hs1 hp0 hp1 htab
  clear hx
  generalize ns.length = ln at *
  have HSG := Lib.hid hseg
  clear hseg
  go_enter Tryz.func71, Tryz.ntmps71
  go_upto_region 2 with (first | (refine wpList_load_node rfl _ rfl _ _ rfl _ hn ?_) | (refine wpList_alloc_node rfl rfl ?_) | (refine wpList_store_node rfl _ _ rfl _ _ _ rfl rfl _ (by repeat (first | (apply Blk.new'; first | rfl | (simp; done)) | assumption | apply Blk.alloc)) ?_))
  rw [setRow_new _ _ _ _ _ rfl]
  have hH0 : Hd w w.heap.size x (w.alloc (.cells (nc x) 36)) := ⟨(Blk.new w 36 (nc x)).node, by simp, andAlloc (Below.refl w.heap.size w) _⟩
  generalize w.alloc (.cells (nc x) 36) = W at hH0 ⊢
  clear hn
  refine wp_region_held_drew (S := Hd w w.heap.size x) (by kernel_rfl) (hH0.drew) (fun hH => ?_)
  refine take_lit (i := 0) (v := (.pointer (some ⟨w.heap.size, 17, none⟩))) (by kernel_rfl) (by kernel_rfl) (by kernel_rfl) (by kernel_rfl) (fun _ _ _ _ h => h) hH (fun oi hoi => ?_)
  simp only [List.getElem?_toArray, List.getElem?_cons_succ, List.getElem?_cons_zero, Option.some.injEq] at hoi
  subst hoi
  refine ⟨.inl ⟨by rfl, fun w hSw => ?_⟩, ?_⟩
  · skip
    first | (go_simp; done) | (go_simp; omega) | (go_simp; with_reducible rfl) | (go_simp; kernel_rfl)
  simp only [Act.put, List.setIfInBounds_toArray, List.set_cons_zero, List.set_cons_succ]
  refine take_lit (i := 1) (v := (.int .i64 (x.sub))) (by kernel_rfl) (by kernel_rfl) (by kernel_rfl) (by kernel_rfl) (fun _ _ _ _ h => h) hH (fun oi hoi => ?_)
  simp only [List.getElem?_toArray, List.getElem?_cons_succ, List.getElem?_cons_zero, Option.some.injEq] at hoi
  subst hoi
  refine ⟨.inl ⟨by rfl, fun w hSw => ?_⟩, ?_⟩
  · skip
    have z := hSw.at (j := 17) rfl
    first | (go_simp; done) | (go_simp; omega) | (go_simp; with_reducible rfl) | (go_simp; kernel_rfl)
  simp only [Act.put, List.setIfInBounds_toArray, List.set_cons_zero, List.set_cons_succ]
  refine take_lit (i := 5) (v := (.pointer (some ⟨w.heap.size, 4, none⟩))) (by kernel_rfl) (by kernel_rfl) (by kernel_rfl) (by kernel_rfl) (fun _ _ _ _ h => h) hH (fun oi hoi => ?_)
  simp only [List.getElem?_toArray, List.getElem?_cons_succ, List.getElem?_cons_zero, Option.some.injEq] at hoi
  subst hoi
  refine ⟨.inl ⟨by rfl, fun w hSw => ?_⟩, ?_⟩
  · skip
    first | (go_simp; done) | (go_simp; omega) | (go_simp; with_reducible rfl) | (go_simp; kernel_rfl)
  simp only [Act.put, List.setIfInBounds_toArray, List.set_cons_zero, List.set_cons_succ]
  refine take_lit (i := 6) (v := (.int .i64 (x.ht))) (by kernel_rfl) (by kernel_rfl) (by kernel_rfl) (by kernel_rfl) (fun _ _ _ _ h => h) hH (fun oi hoi => ?_)
  simp only [List.getElem?_toArray, List.getElem?_cons_succ, List.getElem?_cons_zero, Option.some.injEq] at hoi
  subst hoi
  refine ⟨.inl ⟨by rfl, fun w hSw => ?_⟩, ?_⟩
  · skip
    have z := hSw.at (j := 4) rfl
    first | (go_simp; done) | (go_simp; omega) | (go_simp; with_reducible rfl) | (go_simp; kernel_rfl)
  simp only [Act.put, List.setIfInBounds_toArray, List.set_cons_zero, List.set_cons_succ]
  refine take_lit (i := 10) (v := (.pointer (some ⟨w.heap.size, 7, none⟩))) (by kernel_rfl) (by kernel_rfl) (by kernel_rfl) (by kernel_rfl) (fun _ _ _ _ h => h) hH (fun oi hoi => ?_)
  simp only [List.getElem?_toArray, List.getElem?_cons_succ, List.getElem?_cons_zero, Option.some.injEq] at hoi
  subst hoi
  refine ⟨.inl ⟨by rfl, fun w hSw => ?_⟩, ?_⟩
  · skip
    first | (go_simp; done) | (go_simp; omega) | (go_simp; with_reducible rfl) | (go_simp; kernel_rfl)
  simp only [Act.put, List.setIfInBounds_toArray, List.set_cons_zero, List.set_cons_succ]
  refine take_lit (i := 11) (v := (.agg #[.int .i64 x.gn, .int .i64 x.gs, .int .i64 x.gh, .int .i64 x.ga, .int .i64 x.gb])) (by kernel_rfl) (by kernel_rfl) (by kernel_rfl) (by kernel_rfl) (fun _ _ _ _ h => h) hH (fun oi hoi => ?_)
  simp only [List.getElem?_toArray, List.getElem?_cons_succ, List.getElem?_cons_zero, Option.some.injEq] at hoi
  subst hoi
  refine ⟨.inl ⟨by rfl, fun w hSw => ?_⟩, ?_⟩
  · skip
    have z0 := hSw.at (j := 7) rfl; have z1 := hSw.at (j := 8) rfl; have z2 := hSw.at (j := 9) rfl; have z3 := hSw.at (j := 10) rfl; have z4 := hSw.at (j := 11) rfl
    first | (go_simp; done) | (go_simp; omega) | (go_simp; with_reducible rfl) | (go_simp; kernel_rfl)
  simp only [Act.put, List.setIfInBounds_toArray, List.set_cons_zero, List.set_cons_succ]
  refine take_lit (i := 15) (v := (.pointer (some ⟨w.heap.size, 5, none⟩))) (by kernel_rfl) (by kernel_rfl) (by kernel_rfl) (by kernel_rfl) (fun _ _ _ _ h => h) hH (fun oi hoi => ?_)
  simp only [List.getElem?_toArray, List.getElem?_cons_succ, List.getElem?_cons_zero, Option.some.injEq] at hoi
  subst hoi
  refine ⟨.inl ⟨by rfl, fun w hSw => ?_⟩, ?_⟩
  · skip
    first | (go_simp; done) | (go_simp; omega) | (go_simp; with_reducible rfl) | (go_simp; kernel_rfl)
  simp only [Act.put, List.setIfInBounds_toArray, List.set_cons_zero, List.set_cons_succ]
  refine take_lit (i := 16) (v := (.int .i64 (x.dp))) (by kernel_rfl) (by kernel_rfl) (by kernel_rfl) (by kernel_rfl) (fun _ _ _ _ h => h) hH (fun oi hoi => ?_)
  simp only [List.getElem?_toArray, List.getElem?_cons_succ, List.getElem?_cons_zero, Option.some.injEq] at hoi
  subst hoi
  refine ⟨.inl ⟨by rfl, fun w hSw => ?_⟩, ?_⟩
  · skip
    have z := hSw.at (j := 5) rfl
    first | (go_simp; done) | (go_simp; omega) | (go_simp; with_reducible rfl) | (go_simp; kernel_rfl)
  simp only [Act.put, List.setIfInBounds_toArray, List.set_cons_zero, List.set_cons_succ]
  refine take_lit (i := 20) (v := (.pointer (some ⟨w.heap.size, 16, none⟩))) (by kernel_rfl) (by kernel_rfl) (by kernel_rfl) (by kernel_rfl) (fun _ _ _ _ h => h) hH (fun oi hoi => ?_)
  simp only [List.getElem?_toArray, List.getElem?_cons_succ, List.getElem?_cons_zero, Option.some.injEq] at hoi
  subst hoi
  refine ⟨.inl ⟨by rfl, fun w hSw => ?_⟩, ?_⟩
  · skip
    first | (go_simp; done) | (go_simp; omega) | (go_simp; with_reducible rfl) | (go_simp; kernel_rfl)
  simp only [Act.put, List.setIfInBounds_toArray, List.set_cons_zero, List.set_cons_succ]
  refine take_lit (i := 21) (v := (.int .i64 (x.pen))) (by kernel_rfl) (by kernel_rfl) (by kernel_rfl) (by kernel_rfl) (fun _ _ _ _ h => h) hH (fun oi hoi => ?_)
  simp only [List.getElem?_toArray, List.getElem?_cons_succ, List.getElem?_cons_zero, Option.some.injEq] at hoi
  subst hoi
  refine ⟨.inl ⟨by rfl, fun w hSw => ?_⟩, ?_⟩
  · skip
    have z := hSw.at (j := 16) rfl
    first | (go_simp; done) | (go_simp; omega) | (go_simp; with_reducible rfl) | (go_simp; kernel_rfl)
  simp only [Act.put, List.setIfInBounds_toArray, List.set_cons_zero, List.set_cons_succ]
  refine wpAnyH_ready (rs := [2]) (by kernel_rfl) (by simp) (AllReadyH.cons rfl (fun K hK => ?_) AllReadyH.nil)
  go_simp
  go_wp2_with fail
  refine (HC1.out _ hH.2.2).mono ?_
  rintro e w_1 ⟨rfl, hb_1⟩
  refine hK.out _ _ (hH.keep hb_1) (fun hH1 => ?_)
  try simp only [Act.put, List.setIfInBounds_toArray, List.set_cons_zero, List.set_cons_succ]
  clear hK K
  refine take_lit (i := 3) (v := (.string (⟨#[105, 110, 115, 101, 114, 116, 32]⟩ ++ T1))) (by kernel_rfl) (by kernel_rfl) (by kernel_rfl) (by kernel_rfl) (fun _ _ _ _ h => h) hH1 (fun oi hoi => ?_)
  simp only [List.getElem?_toArray, List.getElem?_cons_succ, List.getElem?_cons_zero, Option.some.injEq] at hoi
  subst hoi
  refine ⟨.inl ⟨by rfl, fun w hSw => ?_⟩, ?_⟩
  · skip
    have hz : ¬ 9223372036854775807 < (⟨#[105, 110, 115, 101, 114, 116, 32]⟩ : ByteArray).size + (T1 : ByteArray).size := by (try simp only [ByteArray.size_append]); have q0 : (⟨#[105, 110, 115, 101, 114, 116, 32]⟩ : ByteArray).size = 7 := rfl; omega
    first | (go_simp; done) | (go_simp; omega) | (go_simp; with_reducible rfl) | (go_simp; kernel_rfl)
  simp only [Act.put, List.setIfInBounds_toArray, List.set_cons_zero, List.set_cons_succ]
  refine take_lit (i := 4) (v := (.string (⟨#[105, 110, 115, 101, 114, 116, 32]⟩ ++ T1 ++ ⟨#[44, 32, 110, 97, 116, 117, 114, 97, 108, 32, 115, 105, 122, 101, 32]⟩))) (by kernel_rfl) (by kernel_rfl) (by kernel_rfl) (by kernel_rfl) (fun _ _ _ _ h => h) hH1 (fun oi hoi => ?_)
  simp only [List.getElem?_toArray, List.getElem?_cons_succ, List.getElem?_cons_zero, Option.some.injEq] at hoi
  subst hoi
  refine ⟨.inl ⟨by rfl, fun w hSw => ?_⟩, ?_⟩
  · skip
    have hz : ¬ 9223372036854775807 < (⟨#[105, 110, 115, 101, 114, 116, 32]⟩ ++ T1 : ByteArray).size + (⟨#[44, 32, 110, 97, 116, 117, 114, 97, 108, 32, 115, 105, 122, 101, 32]⟩ : ByteArray).size := by (try simp only [ByteArray.size_append]); have q0 : (⟨#[105, 110, 115, 101, 114, 116, 32]⟩ : ByteArray).size = 7 := rfl; have q1 : (⟨#[44, 32, 110, 97, 116, 117, 114, 97, 108, 32, 115, 105, 122, 101, 32]⟩ : ByteArray).size = 15 := rfl; omega
    first | (go_simp; done) | (go_simp; omega) | (go_simp; with_reducible rfl) | (go_simp; kernel_rfl)
  simp only [Act.put, List.setIfInBounds_toArray, List.set_cons_zero, List.set_cons_succ]
  refine wpAnyH_ready (rs := [7]) (by kernel_rfl) (by simp) (AllReadyH.cons rfl (fun K hK => ?_) AllReadyH.nil)
  go_simp
  go_wp2_with fail
  refine (HC2.out _ hH1.2.2).mono ?_
  rintro e w_2 ⟨rfl, hb_2⟩
  refine hK.out _ _ (hH1.keep hb_2) (fun hH2 => ?_)
  try simp only [Act.put, List.setIfInBounds_toArray, List.set_cons_zero, List.set_cons_succ]
  clear hK K
  refine take_lit (i := 8) (v := (.string (⟨#[105, 110, 115, 101, 114, 116, 32]⟩ ++ T1 ++ ⟨#[44, 32, 110, 97, 116, 117, 114, 97, 108, 32, 115, 105, 122, 101, 32]⟩ ++ T2))) (by kernel_rfl) (by kernel_rfl) (by kernel_rfl) (by kernel_rfl) (fun _ _ _ _ h => h) hH2 (fun oi hoi => ?_)
  simp only [List.getElem?_toArray, List.getElem?_cons_succ, List.getElem?_cons_zero, Option.some.injEq] at hoi
  subst hoi
  refine ⟨.inl ⟨by rfl, fun w hSw => ?_⟩, ?_⟩
  · skip
    have hz : ¬ 9223372036854775807 < (⟨#[105, 110, 115, 101, 114, 116, 32]⟩ ++ T1 ++ ⟨#[44, 32, 110, 97, 116, 117, 114, 97, 108, 32, 115, 105, 122, 101, 32]⟩ : ByteArray).size + (T2 : ByteArray).size := by (try simp only [ByteArray.size_append]); have q0 : (⟨#[105, 110, 115, 101, 114, 116, 32]⟩ : ByteArray).size = 7 := rfl; have q1 : (⟨#[44, 32, 110, 97, 116, 117, 114, 97, 108, 32, 115, 105, 122, 101, 32]⟩ : ByteArray).size = 15 := rfl; omega
    first | (go_simp; done) | (go_simp; omega) | (go_simp; with_reducible rfl) | (go_simp; kernel_rfl)
  simp only [Act.put, List.setIfInBounds_toArray, List.set_cons_zero, List.set_cons_succ]
  refine take_lit (i := 9) (v := (.string (⟨#[105, 110, 115, 101, 114, 116, 32]⟩ ++ T1 ++ ⟨#[44, 32, 110, 97, 116, 117, 114, 97, 108, 32, 115, 105, 122, 101, 32]⟩ ++ T2 ++ ⟨#[59, 32, 115, 112, 108, 105, 116, 40]⟩))) (by kernel_rfl) (by kernel_rfl) (by kernel_rfl) (by kernel_rfl) (fun _ _ _ _ h => h) hH2 (fun oi hoi => ?_)
  simp only [List.getElem?_toArray, List.getElem?_cons_succ, List.getElem?_cons_zero, Option.some.injEq] at hoi
  subst hoi
  refine ⟨.inl ⟨by rfl, fun w hSw => ?_⟩, ?_⟩
  · skip
    have hz : ¬ 9223372036854775807 < (⟨#[105, 110, 115, 101, 114, 116, 32]⟩ ++ T1 ++ ⟨#[44, 32, 110, 97, 116, 117, 114, 97, 108, 32, 115, 105, 122, 101, 32]⟩ ++ T2 : ByteArray).size + (⟨#[59, 32, 115, 112, 108, 105, 116, 40]⟩ : ByteArray).size := by (try simp only [ByteArray.size_append]); have q0 : (⟨#[105, 110, 115, 101, 114, 116, 32]⟩ : ByteArray).size = 7 := rfl; have q1 : (⟨#[44, 32, 110, 97, 116, 117, 114, 97, 108, 32, 115, 105, 122, 101, 32]⟩ : ByteArray).size = 15 := rfl; have q2 : (⟨#[59, 32, 115, 112, 108, 105, 116, 40]⟩ : ByteArray).size = 8 := rfl; omega
    first | (go_simp; done) | (go_simp; omega) | (go_simp; with_reducible rfl) | (go_simp; kernel_rfl)
  simp only [Act.put, List.setIfInBounds_toArray, List.set_cons_zero, List.set_cons_succ]
  refine wpAnyH_ready (rs := [12]) (by kernel_rfl) (by simp) (AllReadyH.cons rfl (fun K hK => ?_) AllReadyH.nil)
  go_simp
  go_wp2_with fail
  refine (HC3.out _ hH2.2.2).mono ?_
  rintro e w_3 ⟨rfl, hb_3⟩
  refine hK.out _ _ (hH2.keep hb_3) (fun hH3 => ?_)
  try simp only [Act.put, List.setIfInBounds_toArray, List.set_cons_zero, List.set_cons_succ]
  clear hK K
  refine take_lit (i := 13) (v := (.string (⟨#[105, 110, 115, 101, 114, 116, 32]⟩ ++ T1 ++ ⟨#[44, 32, 110, 97, 116, 117, 114, 97, 108, 32, 115, 105, 122, 101, 32]⟩ ++ T2 ++ ⟨#[59, 32, 115, 112, 108, 105, 116, 40]⟩ ++ T3))) (by kernel_rfl) (by kernel_rfl) (by kernel_rfl) (by kernel_rfl) (fun _ _ _ _ h => h) hH3 (fun oi hoi => ?_)
  simp only [List.getElem?_toArray, List.getElem?_cons_succ, List.getElem?_cons_zero, Option.some.injEq] at hoi
  subst hoi
  refine ⟨.inl ⟨by rfl, fun w hSw => ?_⟩, ?_⟩
  · skip
    have hz : ¬ 9223372036854775807 < (⟨#[105, 110, 115, 101, 114, 116, 32]⟩ ++ T1 ++ ⟨#[44, 32, 110, 97, 116, 117, 114, 97, 108, 32, 115, 105, 122, 101, 32]⟩ ++ T2 ++ ⟨#[59, 32, 115, 112, 108, 105, 116, 40]⟩ : ByteArray).size + (T3 : ByteArray).size := by (try simp only [ByteArray.size_append]); have q0 : (⟨#[105, 110, 115, 101, 114, 116, 32]⟩ : ByteArray).size = 7 := rfl; have q1 : (⟨#[44, 32, 110, 97, 116, 117, 114, 97, 108, 32, 115, 105, 122, 101, 32]⟩ : ByteArray).size = 15 := rfl; have q2 : (⟨#[59, 32, 115, 112, 108, 105, 116, 40]⟩ : ByteArray).size = 8 := rfl; omega
    first | (go_simp; done) | (go_simp; omega) | (go_simp; with_reducible rfl) | (go_simp; kernel_rfl)
  simp only [Act.put, List.setIfInBounds_toArray, List.set_cons_zero, List.set_cons_succ]
  refine take_lit (i := 14) (v := (.string (⟨#[105, 110, 115, 101, 114, 116, 32]⟩ ++ T1 ++ ⟨#[44, 32, 110, 97, 116, 117, 114, 97, 108, 32, 115, 105, 122, 101, 32]⟩ ++ T2 ++ ⟨#[59, 32, 115, 112, 108, 105, 116, 40]⟩ ++ T3 ++ ⟨#[44]⟩))) (by kernel_rfl) (by kernel_rfl) (by kernel_rfl) (by kernel_rfl) (fun _ _ _ _ h => h) hH3 (fun oi hoi => ?_)
  simp only [List.getElem?_toArray, List.getElem?_cons_succ, List.getElem?_cons_zero, Option.some.injEq] at hoi
  subst hoi
  refine ⟨.inl ⟨by rfl, fun w hSw => ?_⟩, ?_⟩
  · skip
    have hz : ¬ 9223372036854775807 < (⟨#[105, 110, 115, 101, 114, 116, 32]⟩ ++ T1 ++ ⟨#[44, 32, 110, 97, 116, 117, 114, 97, 108, 32, 115, 105, 122, 101, 32]⟩ ++ T2 ++ ⟨#[59, 32, 115, 112, 108, 105, 116, 40]⟩ ++ T3 : ByteArray).size + (⟨#[44]⟩ : ByteArray).size := by (try simp only [ByteArray.size_append]); have q0 : (⟨#[105, 110, 115, 101, 114, 116, 32]⟩ : ByteArray).size = 7 := rfl; have q1 : (⟨#[44, 32, 110, 97, 116, 117, 114, 97, 108, 32, 115, 105, 122, 101, 32]⟩ : ByteArray).size = 15 := rfl; have q2 : (⟨#[44]⟩ : ByteArray).size = 1 := rfl; have q3 : (⟨#[59, 32, 115, 112, 108, 105, 116, 40]⟩ : ByteArray).size = 8 := rfl; omega
    first | (go_simp; done) | (go_simp; omega) | (go_simp; with_reducible rfl) | (go_simp; kernel_rfl)
  simp only [Act.put, List.setIfInBounds_toArray, List.set_cons_zero, List.set_cons_succ]
  refine wpAnyH_ready (rs := [17]) (by kernel_rfl) (by simp) (AllReadyH.cons rfl (fun K hK => ?_) AllReadyH.nil)
  go_simp
  go_wp2_with fail
  refine (HC4.out _ hH3.2.2).mono ?_
  rintro e w_4 ⟨rfl, hb_4⟩
  refine hK.out _ _ (hH3.keep hb_4) (fun hH4 => ?_)
  try simp only [Act.put, List.setIfInBounds_toArray, List.set_cons_zero, List.set_cons_succ]
  clear hK K
  refine take_lit (i := 18) (v := (.string (⟨#[105, 110, 115, 101, 114, 116, 32]⟩ ++ T1 ++ ⟨#[44, 32, 110, 97, 116, 117, 114, 97, 108, 32, 115, 105, 122, 101, 32]⟩ ++ T2 ++ ⟨#[59, 32, 115, 112, 108, 105, 116, 40]⟩ ++ T3 ++ ⟨#[44]⟩ ++ T4))) (by kernel_rfl) (by kernel_rfl) (by kernel_rfl) (by kernel_rfl) (fun _ _ _ _ h => h) hH4 (fun oi hoi => ?_)
  simp only [List.getElem?_toArray, List.getElem?_cons_succ, List.getElem?_cons_zero, Option.some.injEq] at hoi
  subst hoi
  refine ⟨.inl ⟨by rfl, fun w hSw => ?_⟩, ?_⟩
  · skip
    have hz : ¬ 9223372036854775807 < (⟨#[105, 110, 115, 101, 114, 116, 32]⟩ ++ T1 ++ ⟨#[44, 32, 110, 97, 116, 117, 114, 97, 108, 32, 115, 105, 122, 101, 32]⟩ ++ T2 ++ ⟨#[59, 32, 115, 112, 108, 105, 116, 40]⟩ ++ T3 ++ ⟨#[44]⟩ : ByteArray).size + (T4 : ByteArray).size := by (try simp only [ByteArray.size_append]); have q0 : (⟨#[105, 110, 115, 101, 114, 116, 32]⟩ : ByteArray).size = 7 := rfl; have q1 : (⟨#[44, 32, 110, 97, 116, 117, 114, 97, 108, 32, 115, 105, 122, 101, 32]⟩ : ByteArray).size = 15 := rfl; have q2 : (⟨#[44]⟩ : ByteArray).size = 1 := rfl; have q3 : (⟨#[59, 32, 115, 112, 108, 105, 116, 40]⟩ : ByteArray).size = 8 := rfl; omega
    first | (go_simp; done) | (go_simp; omega) | (go_simp; with_reducible rfl) | (go_simp; kernel_rfl)
  simp only [Act.put, List.setIfInBounds_toArray, List.set_cons_zero, List.set_cons_succ]
  refine take_lit (i := 19) (v := (.string (⟨#[105, 110, 115, 101, 114, 116, 32]⟩ ++ T1 ++ ⟨#[44, 32, 110, 97, 116, 117, 114, 97, 108, 32, 115, 105, 122, 101, 32]⟩ ++ T2 ++ ⟨#[59, 32, 115, 112, 108, 105, 116, 40]⟩ ++ T3 ++ ⟨#[44]⟩ ++ T4 ++ ⟨#[41, 59, 32, 102, 108, 111, 97, 116, 32, 99, 111, 115, 116, 32]⟩))) (by kernel_rfl) (by kernel_rfl) (by kernel_rfl) (by kernel_rfl) (fun _ _ _ _ h => h) hH4 (fun oi hoi => ?_)
  simp only [List.getElem?_toArray, List.getElem?_cons_succ, List.getElem?_cons_zero, Option.some.injEq] at hoi
  subst hoi
  refine ⟨.inl ⟨by rfl, fun w hSw => ?_⟩, ?_⟩
  · skip
    have hz : ¬ 9223372036854775807 < (⟨#[105, 110, 115, 101, 114, 116, 32]⟩ ++ T1 ++ ⟨#[44, 32, 110, 97, 116, 117, 114, 97, 108, 32, 115, 105, 122, 101, 32]⟩ ++ T2 ++ ⟨#[59, 32, 115, 112, 108, 105, 116, 40]⟩ ++ T3 ++ ⟨#[44]⟩ ++ T4 : ByteArray).size + (⟨#[41, 59, 32, 102, 108, 111, 97, 116, 32, 99, 111, 115, 116, 32]⟩ : ByteArray).size := by (try simp only [ByteArray.size_append]); have q0 : (⟨#[105, 110, 115, 101, 114, 116, 32]⟩ : ByteArray).size = 7 := rfl; have q1 : (⟨#[41, 59, 32, 102, 108, 111, 97, 116, 32, 99, 111, 115, 116, 32]⟩ : ByteArray).size = 14 := rfl; have q2 : (⟨#[44, 32, 110, 97, 116, 117, 114, 97, 108, 32, 115, 105, 122, 101, 32]⟩ : ByteArray).size = 15 := rfl; have q3 : (⟨#[44]⟩ : ByteArray).size = 1 := rfl; have q4 : (⟨#[59, 32, 115, 112, 108, 105, 116, 40]⟩ : ByteArray).size = 8 := rfl; omega
    first | (go_simp; done) | (go_simp; omega) | (go_simp; with_reducible rfl) | (go_simp; kernel_rfl)
  simp only [Act.put, List.setIfInBounds_toArray, List.set_cons_zero, List.set_cons_succ]
  refine wpAnyH_ready (rs := [22]) (by kernel_rfl) (by simp) (AllReadyH.cons rfl (fun K hK => ?_) AllReadyH.nil)
  go_simp
  go_wp2_with fail
  refine (HC5.out _ hH4.2.2).mono ?_
  rintro e w_5 ⟨rfl, hb_5⟩
  refine hK.out _ _ (hH4.keep hb_5) (fun hH5 => ?_)
  try simp only [Act.put, List.setIfInBounds_toArray, List.set_cons_zero, List.set_cons_succ]
  clear hK K
  refine take_lit (i := 23) (v := (.string (⟨#[105, 110, 115, 101, 114, 116, 32]⟩ ++ T1 ++ ⟨#[44, 32, 110, 97, 116, 117, 114, 97, 108, 32, 115, 105, 122, 101, 32]⟩ ++ T2 ++ ⟨#[59, 32, 115, 112, 108, 105, 116, 40]⟩ ++ T3 ++ ⟨#[44]⟩ ++ T4 ++ ⟨#[41, 59, 32, 102, 108, 111, 97, 116, 32, 99, 111, 115, 116, 32]⟩ ++ T5))) (by kernel_rfl) (by kernel_rfl) (by kernel_rfl) (by kernel_rfl) (fun _ _ _ _ h => h) hH5 (fun oi hoi => ?_)
  simp only [List.getElem?_toArray, List.getElem?_cons_succ, List.getElem?_cons_zero, Option.some.injEq] at hoi
  subst hoi
  refine ⟨.inl ⟨by rfl, fun w hSw => ?_⟩, ?_⟩
  · skip
    have hz : ¬ 9223372036854775807 < (⟨#[105, 110, 115, 101, 114, 116, 32]⟩ ++ T1 ++ ⟨#[44, 32, 110, 97, 116, 117, 114, 97, 108, 32, 115, 105, 122, 101, 32]⟩ ++ T2 ++ ⟨#[59, 32, 115, 112, 108, 105, 116, 40]⟩ ++ T3 ++ ⟨#[44]⟩ ++ T4 ++ ⟨#[41, 59, 32, 102, 108, 111, 97, 116, 32, 99, 111, 115, 116, 32]⟩ : ByteArray).size + (T5 : ByteArray).size := by (try simp only [ByteArray.size_append]); have q0 : (⟨#[105, 110, 115, 101, 114, 116, 32]⟩ : ByteArray).size = 7 := rfl; have q1 : (⟨#[41, 59, 32, 102, 108, 111, 97, 116, 32, 99, 111, 115, 116, 32]⟩ : ByteArray).size = 14 := rfl; have q2 : (⟨#[44, 32, 110, 97, 116, 117, 114, 97, 108, 32, 115, 105, 122, 101, 32]⟩ : ByteArray).size = 15 := rfl; have q3 : (⟨#[44]⟩ : ByteArray).size = 1 := rfl; have q4 : (⟨#[59, 32, 115, 112, 108, 105, 116, 40]⟩ : ByteArray).size = 8 := rfl; omega
    first | (go_simp; done) | (go_simp; omega) | (go_simp; with_reducible rfl) | (go_simp; kernel_rfl)
  simp only [Act.put, List.setIfInBounds_toArray, List.set_cons_zero, List.set_cons_succ]
  refine take_lit (i := 24) (v := (.string (⟨#[105, 110, 115, 101, 114, 116, 32]⟩ ++ T1 ++ ⟨#[44, 32, 110, 97, 116, 117, 114, 97, 108, 32, 115, 105, 122, 101, 32]⟩ ++ T2 ++ ⟨#[59, 32, 115, 112, 108, 105, 116, 40]⟩ ++ T3 ++ ⟨#[44]⟩ ++ T4 ++ ⟨#[41, 59, 32, 102, 108, 111, 97, 116, 32, 99, 111, 115, 116, 32]⟩ ++ T5))) (by kernel_rfl) (by kernel_rfl) (by kernel_rfl) (by kernel_rfl) (fun _ _ _ _ h => h) hH5 (fun oi hoi => ?_)
  simp only [List.getElem?_toArray, List.getElem?_cons_succ, List.getElem?_cons_zero, Option.some.injEq] at hoi
  subst hoi
  refine ⟨.inl ⟨by rfl, fun w hSw => ?_⟩, ?_⟩
  · skip
    first | (go_simp; done) | (go_simp; omega) | (go_simp; with_reducible rfl) | (go_simp; kernel_rfl)
  simp only [Act.put, List.setIfInBounds_toArray, List.set_cons_zero, List.set_cons_succ]
  refine wpAnyH_done (by kernel_rfl) ?_ _
  go_wp2_with fail
  go_ret
  exact ⟨rfl, hH5.2.2⟩
end Go.Proofs.YtmcekdjhkjhcdaaGreatDoor.Sw
end
