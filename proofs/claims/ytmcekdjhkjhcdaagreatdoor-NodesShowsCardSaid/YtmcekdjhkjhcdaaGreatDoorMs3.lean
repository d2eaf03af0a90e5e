import Derived.Test.YtmcekdjhkjhcdaaGreatDoorMs2
import Derived.Test.YtmcekdjhkjhcdaaGreatDoorMs1
import Derived.Test.YtmcekdjhkjhcdaaGreatDoorBld
import Derived.Test.YtmcekdjhkjhcdaaGreatDoorNodeE
import Derived.BigRegion
import Derived.Lib.OthersKept
import Derived.Lib.UnsafeStr
import Derived.Test.YtmcekdjhkjhcdaaGreatDoorNodeTh
import Derived.Test.YtmcekdjhkjhcdaaGreatDoorNodeGc
import Derived.Test.YtmcekdjhkjhcdaaGreatDoorNodeF
import Derived.Deep.RegionHeld3
import Derived.Test.YtmcekdjhkjhcdaaGreatDoorNodeTe
import Derived.BigQuiet
/- Merged texts. Conditions: those that each theorem names. -/
section
namespace Go.Proofs.YtmcekdjhkjhcdaaGreatDoor.Sw
open Go.ChangeShapes Go.WideShapes Go.ChangeAt Go.RowKit
open Me Np Ss No
set_option linter.unusedVariables false
set_option linter.unusedSimpArgs false
theorem glue_ok {x : Nd} (h : glB x = true) : Gl.glueB x.gn x.gs x.gh x.ga x.gb = true := by
  cases g : Gl.glueB x.gn x.gs x.gh x.ga x.gb
  · unfold glB at h
    rw [Gl.chk_no g] at h
    exact absurd h (by decide)
  · rfl
/-- A line that is said so. -/
def RL (A : Option Addr) (n c a : Nat) (w : World) (T : ByteArray) : Prop := Calls Tryz.prog 33 #[.slice A n c, .int .i64 (a : Int)] w fun e w' => e = .returned (.string T) ∧ Below w.heap.size w w'
theorem RL.eq {A : Option Addr} {n c a : Nat} {w : World} {T T' : ByteArray} (h : RL A n c a w T) (e : T' = T) : RL A n c a w T' := by rw [e]; exact h
set_option maxRecDepth 100000 in
theorem rl_1 (A : Option Addr) (ns : List Nd) (c a m : Nat) (x : Nd) (w : World) (hc : chk ns = 0) (hcap : ns.length ≤ c) (hseg : Seg w w.heap.size A (ns.flatMap ncs)) (hx : ns[a]? = some x) (hm : endc (ns.drop a) 0 = some m) (hci : chk ((ns.drop a).take m) = 0) (ham : a + m ≤ ns.length) (hr : right x = true) (hch : 0 ≤ x.char ∧ x.char < 256) (hk : x.kind = 1) : RL A ns.length c a w (lineT x (thK ns a m x)) := by
  have hg : goodK x.kind.toNat x = true := by
    unfold right at hr
    simp only [Bool.and_eq_true] at hr
    exact hr.2.1
  rw [hk] at hg
  have hg : gGlyph x = true := hg
  simp only [gGlyph, winB, Bool.and_eq_true, decide_eq_true_eq] at hg
  refine RL.eq (T := itT x.font ++ spK ++ byT x.char.toNat) (rline_1 A ns c a x w hseg hx hk (by omega) (by omega) hch.1 hch.2) ?_
  unfold lineT
  simp [hk]
set_option maxRecDepth 100000 in
theorem rl_2 (A : Option Addr) (ns : List Nd) (c a m : Nat) (x : Nd) (w : World) (hc : chk ns = 0) (hcap : ns.length ≤ c) (hseg : Seg w w.heap.size A (ns.flatMap ncs)) (hx : ns[a]? = some x) (hm : endc (ns.drop a) 0 = some m) (hci : chk ((ns.drop a).take m) = 0) (ham : a + m ≤ ns.length) (hr : right x = true) (hch : 0 ≤ x.char ∧ x.char < 256) (hk : x.kind = 2) : RL A ns.length c a w (lineT x (thK ns a m x)) := by
  have hg : goodK x.kind.toNat x = true := by
    unfold right at hr
    simp only [Bool.and_eq_true] at hr
    exact hr.2.1
  rw [hk] at hg
  have hg2 : (gGlyph x && winB x.text.size 1 63) = true := hg
  rw [Bool.and_eq_true] at hg2
  obtain ⟨hg, ht⟩ := hg2
  simp only [gGlyph, winB, Bool.and_eq_true, decide_eq_true_eq] at hg ht
  refine RL.eq (T := itT x.font ++ spK ++ byT x.char.toNat ++ ligK ++ byA x.text.data.toList ++ clK) (rline_2 A ns c a x w hseg hx hk (by omega) (by omega) hch.1 hch.2 (by omega)) ?_
  unfold lineT
  simp [hk]
set_option maxRecDepth 100000 in
theorem rl_3 (A : Option Addr) (ns : List Nd) (c a m : Nat) (x : Nd) (w : World) (hc : chk ns = 0) (hcap : ns.length ≤ c) (hseg : Seg w w.heap.size A (ns.flatMap ncs)) (hx : ns[a]? = some x) (hm : endc (ns.drop a) 0 = some m) (hci : chk ((ns.drop a).take m) = 0) (ham : a + m ≤ ns.length) (hr : right x = true) (hch : 0 ≤ x.char ∧ x.char < 256) (hk : x.kind = 3) : RL A ns.length c a w (lineT x (thK ns a m x)) := by
  have hg : goodK x.kind.toNat x = true := by
    unfold right at hr
    simp only [Bool.and_eq_true] at hr
    exact hr.2.1
  rw [hk] at hg
  have hg2 : gRule x = true := hg
  simp only [gRule, winB, Bool.and_eq_true, decide_eq_true_eq] at hg2
  rcases (show x.sub = 0 ∨ x.sub = 1 ∨ x.sub = 2 ∨ x.sub = 3 by omega) with hs | hs | hs | hs
  · skip
    refine RL.eq (T := rulK ++ starT x.ht false ++ pluK ++ starT x.dp false ++ cxK ++ starT x.wd false) (rline_30 A ns c a x w hseg hx hk hs) ?_
    unfold lineT
    simp [hk, hs]
  · skip
    refine RL.eq (T := rulK ++ starT x.ht false ++ pluK ++ starT x.dp false ++ cxK ++ starT x.wd true) (rline_31 A ns c a x w hseg hx hk hs) ?_
    unfold lineT
    simp [hk, hs]
  · skip
    refine RL.eq (T := rulK ++ starT x.ht true ++ pluK ++ starT x.dp true ++ cxK ++ starT x.wd false) (rline_32 A ns c a x w hseg hx hk hs) ?_
    unfold lineT
    simp [hk, hs]
  · skip
    refine RL.eq (T := rulK ++ starT x.ht true ++ pluK ++ starT x.dp true ++ cxK ++ starT x.wd true) (rline_33 A ns c a x w hseg hx hk hs) ?_
    unfold lineT
    simp [hk, hs]
set_option maxRecDepth 100000 in
theorem rl_4 (A : Option Addr) (ns : List Nd) (c a m : Nat) (x : Nd) (w : World) (hc : chk ns = 0) (hcap : ns.length ≤ c) (hseg : Seg w w.heap.size A (ns.flatMap ncs)) (hx : ns[a]? = some x) (hm : endc (ns.drop a) 0 = some m) (hci : chk ((ns.drop a).take m) = 0) (ham : a + m ≤ ns.length) (hr : right x = true) (hch : 0 ≤ x.char ∧ x.char < 256) (hk : x.kind = 4) : RL A ns.length c a w (lineT x (thK ns a m x)) := by
  have hg : goodK x.kind.toNat x = true := by
    unfold right at hr
    simp only [Bool.and_eq_true] at hr
    exact hr.2.1
  rw [hk] at hg
  refine RL.eq (T := boxT hbK x) (rline_4 A ns c a x w hseg hx hk hg) ?_
  unfold lineT
  simp [hk]
set_option maxRecDepth 100000 in
theorem rl_5 (A : Option Addr) (ns : List Nd) (c a m : Nat) (x : Nd) (w : World) (hc : chk ns = 0) (hcap : ns.length ≤ c) (hseg : Seg w w.heap.size A (ns.flatMap ncs)) (hx : ns[a]? = some x) (hm : endc (ns.drop a) 0 = some m) (hci : chk ((ns.drop a).take m) = 0) (ham : a + m ≤ ns.length) (hr : right x = true) (hch : 0 ≤ x.char ∧ x.char < 256) (hk : x.kind = 5) : RL A ns.length c a w (lineT x (thK ns a m x)) := by
  have hg : goodK x.kind.toNat x = true := by
    unfold right at hr
    simp only [Bool.and_eq_true] at hr
    exact hr.2.1
  rw [hk] at hg
  refine RL.eq (T := boxT vbK x) (rline_5 A ns c a x w hseg hx hk hg) ?_
  unfold lineT
  simp [hk]
set_option maxRecDepth 100000 in
theorem rl_7 (A : Option Addr) (ns : List Nd) (c a m : Nat) (x : Nd) (w : World) (hc : chk ns = 0) (hcap : ns.length ≤ c) (hseg : Seg w w.heap.size A (ns.flatMap ncs)) (hx : ns[a]? = some x) (hm : endc (ns.drop a) 0 = some m) (hci : chk ((ns.drop a).take m) = 0) (ham : a + m ≤ ns.length) (hr : right x = true) (hch : 0 ≤ x.char ∧ x.char < 256) (hk : x.kind = 7) : RL A ns.length c a w (lineT x (thK ns a m x)) := by
  have hg : goodK x.kind.toNat x = true := by
    unfold right at hr
    simp only [Bool.and_eq_true] at hr
    exact hr.2.1
  rw [hk] at hg
  have hg2 : (glB x && winB x.sub 0 20) = true := hg
  rw [Bool.and_eq_true] at hg2
  refine RL.eq (T := gluK ++ Gl.shT x.gn x.gs x.gh x.ga x.gb) (rline_7 A ns c a x w hseg hx hk (glue_ok hg2.1)) ?_
  unfold lineT
  simp [hk]
set_option maxRecDepth 100000 in
theorem rl_8 (A : Option Addr) (ns : List Nd) (c a m : Nat) (x : Nd) (w : World) (hc : chk ns = 0) (hcap : ns.length ≤ c) (hseg : Seg w w.heap.size A (ns.flatMap ncs)) (hx : ns[a]? = some x) (hm : endc (ns.drop a) 0 = some m) (hci : chk ((ns.drop a).take m) = 0) (ham : a + m ≤ ns.length) (hr : right x = true) (hch : 0 ≤ x.char ∧ x.char < 256) (hk : x.kind = 8) : RL A ns.length c a w (lineT x (thK ns a m x)) := by
  have hg : goodK x.kind.toNat x = true := by
    unfold right at hr
    simp only [Bool.and_eq_true] at hr
    exact hr.2.1
  rw [hk] at hg
  by_cases hs : x.sub = 2
  · skip
    refine RL.eq (T := krnK ++ prS x.wd ++ accK) (rline_81 A ns c a x w hseg hx hk hs) ?_
    unfold lineT
    simp [hk, hs]
  · skip
    refine RL.eq (T := krnK ++ prS x.wd) (rline_80 A ns c a x w hseg hx hk hs) ?_
    unfold lineT
    simp [hk, hs]
set_option maxRecDepth 100000 in
theorem rl_9 (A : Option Addr) (ns : List Nd) (c a m : Nat) (x : Nd) (w : World) (hc : chk ns = 0) (hcap : ns.length ≤ c) (hseg : Seg w w.heap.size A (ns.flatMap ncs)) (hx : ns[a]? = some x) (hm : endc (ns.drop a) 0 = some m) (hci : chk ((ns.drop a).take m) = 0) (ham : a + m ≤ ns.length) (hr : right x = true) (hch : 0 ≤ x.char ∧ x.char < 256) (hk : x.kind = 9) : RL A ns.length c a w (lineT x (thK ns a m x)) := by
  have hg : goodK x.kind.toNat x = true := by
    unfold right at hr
    simp only [Bool.and_eq_true] at hr
    exact hr.2.1
  rw [hk] at hg
  have hg2 : winB x.pen (-2147483647) 2147483647 = true := hg
  simp only [winB, decide_eq_true_eq] at hg2
  refine RL.eq (T := penK ++ itT x.pen) (rline_9 A ns c a x w hseg hx hk (by omega) (by omega)) ?_
  unfold lineT
  simp [hk]
set_option maxRecDepth 100000 in
theorem rl_10 (A : Option Addr) (ns : List Nd) (c a m : Nat) (x : Nd) (w : World) (hc : chk ns = 0) (hcap : ns.length ≤ c) (hseg : Seg w w.heap.size A (ns.flatMap ncs)) (hx : ns[a]? = some x) (hm : endc (ns.drop a) 0 = some m) (hci : chk ((ns.drop a).take m) = 0) (ham : a + m ≤ ns.length) (hr : right x = true) (hch : 0 ≤ x.char ∧ x.char < 256) (hk : x.kind = 10) : RL A ns.length c a w (lineT x (thK ns a m x)) := by
  have hg : goodK x.kind.toNat x = true := by
    unfold right at hr
    simp only [Bool.and_eq_true] at hr
    exact hr.2.1
  rw [hk] at hg
  refine RL.eq (T := dscK ++ numT (thK ns a m x)) (rline_10 A ns c a m x w hc hcap hseg hx hm hci ham hk) ?_
  unfold lineT
  simp [hk]
set_option maxRecDepth 100000 in
theorem rl_12 (A : Option Addr) (ns : List Nd) (c a m : Nat) (x : Nd) (w : World) (hc : chk ns = 0) (hcap : ns.length ≤ c) (hseg : Seg w w.heap.size A (ns.flatMap ncs)) (hx : ns[a]? = some x) (hm : endc (ns.drop a) 0 = some m) (hci : chk ((ns.drop a).take m) = 0) (ham : a + m ≤ ns.length) (hr : right x = true) (hch : 0 ≤ x.char ∧ x.char < 256) (hk : x.kind = 12) : RL A ns.length c a w (lineT x (thK ns a m x)) := by
  have hg : goodK x.kind.toNat x = true := by
    unfold right at hr
    simp only [Bool.and_eq_true] at hr
    exact hr.2.1
  rw [hk] at hg
  have hg2 : ((x.text.size : Int) ≤ 1000) := of_decide_eq_true hg
  refine RL.eq (T := mrkK ++ byA x.text.data.toList ++ cbK) (rline_12 A ns c a x w hseg hx hk (by omega)) ?_
  unfold lineT
  simp [hk]
set_option maxRecDepth 100000 in
theorem rl_14 (A : Option Addr) (ns : List Nd) (c a m : Nat) (x : Nd) (w : World) (hc : chk ns = 0) (hcap : ns.length ≤ c) (hseg : Seg w w.heap.size A (ns.flatMap ncs)) (hx : ns[a]? = some x) (hm : endc (ns.drop a) 0 = some m) (hci : chk ((ns.drop a).take m) = 0) (ham : a + m ≤ ns.length) (hr : right x = true) (hch : 0 ≤ x.char ∧ x.char < 256) (hk : x.kind = 14) : RL A ns.length c a w (lineT x (thK ns a m x)) := by
  have hg : goodK x.kind.toNat x = true := by
    unfold right at hr
    simp only [Bool.and_eq_true] at hr
    exact hr.2.1
  rw [hk] at hg
  have hg2 : ((x.text.size : Int) ≤ 1000) := of_decide_eq_true hg
  refine RL.eq (T := spcK ++ byA x.text.data.toList ++ cbK) (rline_14 A ns c a x w hseg hx hk (by omega)) ?_
  unfold lineT
  simp [hk]
set_option maxRecDepth 100000 in
theorem rl_13 (A : Option Addr) (ns : List Nd) (c a m : Nat) (x : Nd) (w : World) (hc : chk ns = 0) (hcap : ns.length ≤ c) (hseg : Seg w w.heap.size A (ns.flatMap ncs)) (hx : ns[a]? = some x) (hm : endc (ns.drop a) 0 = some m) (hci : chk ((ns.drop a).take m) = 0) (ham : a + m ≤ ns.length) (hr : right x = true) (hch : 0 ≤ x.char ∧ x.char < 256) (hk : x.kind = 13) : RL A ns.length c a w (lineT x (thK ns a m x)) := by
  have hg : goodK x.kind.toNat x = true := by
    unfold right at hr
    simp only [Bool.and_eq_true] at hr
    exact hr.2.1
  rw [hk] at hg
  have hg2 : gIns x = true := hg
  unfold gIns at hg2
  simp only [winB, Bool.and_eq_true, decide_eq_true_eq] at hg2
  obtain ⟨⟨⟨h1, _⟩, h2⟩, h3⟩ := hg2
  refine RL.eq (T := insK ++ itT x.sub ++ natK ++ prS x.ht ++ splK ++ Gl.shT x.gn x.gs x.gh x.ga x.gb ++ comK ++ prS x.dp ++ floK ++ itT x.pen) (rline_13 A ns c a x w hseg hx hk (by omega) (by omega) (by omega) (by omega) (glue_ok h3)) ?_
  unfold lineT
  simp [hk]
set_option maxRecDepth 100000 in
theorem rl_15 (A : Option Addr) (ns : List Nd) (c a m : Nat) (x : Nd) (w : World) (hc : chk ns = 0) (hcap : ns.length ≤ c) (hseg : Seg w w.heap.size A (ns.flatMap ncs)) (hx : ns[a]? = some x) (hm : endc (ns.drop a) 0 = some m) (hci : chk ((ns.drop a).take m) = 0) (ham : a + m ≤ ns.length) (hr : right x = true) (hch : 0 ≤ x.char ∧ x.char < 256) (hk : x.kind = 15) : RL A ns.length c a w (lineT x (thK ns a m x)) := by
  have hg : goodK x.kind.toNat x = true := by
    unfold right at hr
    simp only [Bool.and_eq_true] at hr
    exact hr.2.1
  rw [hk] at hg
  by_cases hw : x.wd = 0
  · skip
    refine RL.eq (T := monK) (rline_150 A ns c a x w hseg hx hk hw) ?_
    unfold lineT
    simp [hk, hw]
  · skip
    refine RL.eq (T := monK ++ surK ++ prS x.wd) (rline_151 A ns c a x w hseg hx hk hw) ?_
    unfold lineT
    simp [hk, hw, ByteArray.append_assoc]
set_option maxRecDepth 100000 in
theorem rl_16 (A : Option Addr) (ns : List Nd) (c a m : Nat) (x : Nd) (w : World) (hc : chk ns = 0) (hcap : ns.length ≤ c) (hseg : Seg w w.heap.size A (ns.flatMap ncs)) (hx : ns[a]? = some x) (hm : endc (ns.drop a) 0 = some m) (hci : chk ((ns.drop a).take m) = 0) (ham : a + m ≤ ns.length) (hr : right x = true) (hch : 0 ≤ x.char ∧ x.char < 256) (hk : x.kind = 16) : RL A ns.length c a w (lineT x (thK ns a m x)) := by
  have hg : goodK x.kind.toNat x = true := by
    unfold right at hr
    simp only [Bool.and_eq_true] at hr
    exact hr.2.1
  rw [hk] at hg
  by_cases hw : x.wd = 0
  · skip
    refine RL.eq (T := mofK) (rline_160 A ns c a x w hseg hx hk hw) ?_
    unfold lineT
    simp [hk, hw]
  · skip
    refine RL.eq (T := mofK ++ surK ++ prS x.wd) (rline_161 A ns c a x w hseg hx hk hw) ?_
    unfold lineT
    simp [hk, hw, ByteArray.append_assoc]
set_option maxRecDepth 100000 in
theorem rl_17 (A : Option Addr) (ns : List Nd) (c a m : Nat) (x : Nd) (w : World) (hc : chk ns = 0) (hcap : ns.length ≤ c) (hseg : Seg w w.heap.size A (ns.flatMap ncs)) (hx : ns[a]? = some x) (hm : endc (ns.drop a) 0 = some m) (hci : chk ((ns.drop a).take m) = 0) (ham : a + m ≤ ns.length) (hr : right x = true) (hch : 0 ≤ x.char ∧ x.char < 256) (hk : x.kind = 17) : RL A ns.length c a w (lineT x (thK ns a m x)) := by
  have hg : goodK x.kind.toNat x = true := by
    unfold right at hr
    simp only [Bool.and_eq_true] at hr
    exact hr.2.1
  rw [hk] at hg
  refine RL.eq (T := adjK) (rline_17 A ns c a x w hseg hx hk) ?_
  unfold lineT
  simp [hk]
theorem rline_any (A : Option Addr) (ns : List Nd) (c a m : Nat) (x : Nd) (w : World) (hc : chk ns = 0) (hcap : ns.length ≤ c) (hseg : Seg w w.heap.size A (ns.flatMap ncs)) (hx : ns[a]? = some x) (hm : endc (ns.drop a) 0 = some m) (hci : chk ((ns.drop a).take m) = 0) (ham : a + m ≤ ns.length) (hr : right x = true) (hch : 0 ≤ x.char ∧ x.char < 256) (h6 : ¬ x.kind = 6) (h11 : ¬ x.kind = 11) : RL A ns.length c a w (lineT x (thK ns a m x)) := by
  have hk : 1 ≤ x.kind ∧ x.kind ≤ 17 := by
    unfold right at hr
    simp only [Bool.and_eq_true, winB, decide_eq_true_eq] at hr
    exact hr.1
  rcases (show x.kind = 1 ∨ x.kind = 2 ∨ x.kind = 3 ∨ x.kind = 4 ∨ x.kind = 5 ∨ x.kind = 7 ∨ x.kind = 8 ∨ x.kind = 9 ∨ x.kind = 10 ∨ x.kind = 12 ∨ x.kind = 13 ∨ x.kind = 14 ∨ x.kind = 15 ∨ x.kind = 16 ∨ x.kind = 17 by omega) with hk | hk | hk | hk | hk | hk | hk | hk | hk | hk | hk | hk | hk | hk | hk
  · exact rl_1 A ns c a m x w hc hcap hseg hx hm hci ham hr hch hk
  · exact rl_2 A ns c a m x w hc hcap hseg hx hm hci ham hr hch hk
  · exact rl_3 A ns c a m x w hc hcap hseg hx hm hci ham hr hch hk
  · exact rl_4 A ns c a m x w hc hcap hseg hx hm hci ham hr hch hk
  · exact rl_5 A ns c a m x w hc hcap hseg hx hm hci ham hr hch hk
  · exact rl_7 A ns c a m x w hc hcap hseg hx hm hci ham hr hch hk
  · exact rl_8 A ns c a m x w hc hcap hseg hx hm hci ham hr hch hk
  · exact rl_9 A ns c a m x w hc hcap hseg hx hm hci ham hr hch hk
  · exact rl_10 A ns c a m x w hc hcap hseg hx hm hci ham hr hch hk
  · exact rl_12 A ns c a m x w hc hcap hseg hx hm hci ham hr hch hk
  · exact rl_13 A ns c a m x w hc hcap hseg hx hm hci ham hr hch hk
  · exact rl_14 A ns c a m x w hc hcap hseg hx hm hci ham hr hch hk
  · exact rl_15 A ns c a m x w hc hcap hseg hx hm hci ham hr hch hk
  · exact rl_16 A ns c a m x w hc hcap hseg hx hm hci ham hr hch hk
  · exact rl_17 A ns c a m x w hc hcap hseg hx hm hci ham hr hch hk
end Go.Proofs.YtmcekdjhkjhcdaaGreatDoor.Sw
end
section
namespace Go.Proofs.YtmcekdjhkjhcdaaGreatDoor.Sw
open Go.ChangeShapes Go.WideShapes Go.ChangeAt Go.RowKit
open Me Np Ss No
set_option linter.unusedVariables false
set_option linter.unusedSimpArgs false
theorem ex_index {P : Program} {ρ : Operand → Value} {o : Oper} {t : TypeId} {x i : Operand} {v : Value} {w : World} (ho : o.op = .index t x i) (h : (Instr.index t (ρ x) (ρ i)).run P w = .ok v w) : (execOp ρ o).run P w = .ok (.value v) w := by
  unfold execOp
  simp only [ho, Sem.run_bind, h, Sem.run_pure, Result.andThen_ok]
theorem sg_idx (s : Int) (hs : s = 1 ∨ s = 2) (w : World) : (Instr.index 100 (.agg #[.string ⟨#[]⟩, .string ⟨#[43]⟩, .string ⟨#[45]⟩]) (.int .i64 s)).run Tryz.prog w = .ok (.string (if s = 1 then pluK else miK)) w := by
  rcases hs with rfl | rfl <;> kernel_rfl
theorem og_idx (s : Int) (hs : 0 ≤ s ∧ s ≤ 3) (w : World) : (Instr.index 101 (.agg #[.string ⟨#[]⟩, .string ⟨#[102, 105, 108]⟩, .string ⟨#[102, 105, 108, 108]⟩, .string ⟨#[102, 105, 108, 108, 108]⟩]) (.int .i64 s)).run Tryz.prog w = .ok (.string (ordT s)) w := by
  rcases (show s = 0 ∨ s = 1 ∨ s = 2 ∨ s = 3 by omega) with rfl | rfl | rfl | rfl <;> kernel_rfl
set_option maxHeartbeats 8000000 in
set_option maxRecDepth 100000 in
theorem box_4 (p : Value) (A : Option Addr) (ns : List Nd) (c a : Nat) (x : Nd) (w : World) (hseg : Seg w w.heap.size A (ns.flatMap ncs)) (hx : ns[a]? = some x) (htab : Tab w) (hk : x.kind = 4) (h : gBox x = true) :
    Calls Tryz.prog 65 #[p, .slice A ns.length c, .int .i64 (a : Int)] w fun e w' => e = .returned (.string (boxT hbK x)) ∧ Below w.heap.size w w' := by
  obtain ⟨b, off, rfl, hb, hn⟩ := seg_node hseg hx
  have hal : (a : Int) < (ns.length : Int) := by have := (List.getElem?_eq_some_iff.1 hx).1; omega
  have hbx : ¬ x.sign = 0 → (x.sign = 1 ∨ x.sign = 2) ∧ (0 ≤ x.order ∧ x.order ≤ 3) ∧ (1 ≤ x.num ∧ x.num ≤ 1152921504606846976) ∧ (1 ≤ x.den ∧ x.den ≤ 1152921504606846976) := by
    intro hs
    unfold gBox at h
    rw [if_neg hs] at h
    simp only [Bool.and_eq_true, winB, decide_eq_true_eq] at h
    obtain ⟨_, ⟨⟨⟨⟨hsg, ho⟩, hn1⟩, hd1⟩, _⟩⟩ := h
    exact ⟨by omega, ho, hn1, hd1⟩
  have HR00 := Lib.hid (show x.sign = 0 → x.shift = 0 → hbK ++ (opK ++ prS x.ht ++ pluK ++ prS x.dp ++ cxK ++ prS x.wd) = boxT hbK x from fun hs hq => by unfold boxT; simp only; rw [if_pos hs, if_pos hq])
  have HR01 := Lib.hid (show x.sign = 0 → ¬ x.shift = 0 → hbK ++ (opK ++ prS x.ht ++ pluK ++ prS x.dp ++ cxK ++ prS x.wd) ++ (shfK ++ prS x.shift) = boxT hbK x from fun hs hq => by unfold boxT; simp only; rw [if_pos hs, if_neg hq])
  have HR10 := Lib.hid (show ¬ x.sign = 0 → x.shift = 0 → hbK ++ (opK ++ prS x.ht ++ pluK ++ prS x.dp ++ cxK ++ prS x.wd) ++ (gsetK ++ (if x.sign = 1 then pluK else miK) ++ spK ++ itT x.num ++ slK ++ itT x.den ++ ordT x.order) = boxT hbK x from fun hs hq => by unfold boxT; simp only; rw [if_neg hs, if_pos hq])
  have HR11 := Lib.hid (show ¬ x.sign = 0 → ¬ x.shift = 0 → hbK ++ (opK ++ prS x.ht ++ pluK ++ prS x.dp ++ cxK ++ prS x.wd) ++ (gsetK ++ (if x.sign = 1 then pluK else miK) ++ spK ++ itT x.num ++ slK ++ itT x.den ++ ordT x.order) ++ (shfK ++ prS x.shift) = boxT hbK x from fun hs hq => by unfold boxT; simp only; rw [if_neg hs, if_neg hq])
  generalize boxT hbK x = R at *
  have e0 : (x.kind == 5) = false := by simp [hk]
  have HC1 := Lib.hid (fun (W : World) (hB : Below w.heap.size w W) => pt_any x.ht W (htab.below hB))
  have hz1 := Gl.prS_size x.ht
  have HC2 := Lib.hid (fun (W : World) (hB : Below w.heap.size w W) => pt_any x.dp W (htab.below hB))
  have hz2 := Gl.prS_size x.dp
  have HC3 := Lib.hid (fun (W : World) (hB : Below w.heap.size w W) => pt_any x.wd W (htab.below hB))
  have hz3 := Gl.prS_size x.wd
  have HC6 := Lib.hid (fun (W : World) (hB : Below w.heap.size w W) => pt_any x.shift W (htab.below hB))
  have hz6 := Gl.prS_size x.shift
  have HC4 := Lib.hid (fun (hs : ¬ x.sign = 0) (W : World) (hB : Below w.heap.size w W) => itoa_any x.num (by have := (hbx hs).2.2.1; omega) (by have := (hbx hs).2.2.1; omega) W (htab.below hB))
  have HZ4 := Lib.hid (fun (hs : ¬ x.sign = 0) => itT_size (n := x.num) (by have := (hbx hs).2.2.1; omega) (by have := (hbx hs).2.2.1; omega))
  have HC5 := Lib.hid (fun (hs : ¬ x.sign = 0) (W : World) (hB : Below w.heap.size w W) => itoa_any x.den (by have := (hbx hs).2.2.2; omega) (by have := (hbx hs).2.2.2; omega) W (htab.below hB))
  have HZ5 := Lib.hid (fun (hs : ¬ x.sign = 0) => itT_size (n := x.den) (by have := (hbx hs).2.2.2; omega) (by have := (hbx hs).2.2.2; omega))
  have HSG1 := Lib.hid (fun (hs : ¬ x.sign = 0) (W : World) => sg_idx x.sign (hbx hs).1 W)
  have HOG := Lib.hid (fun (hs : ¬ x.sign = 0) (W : World) => og_idx x.order (hbx hs).2.1 W)
  have hz7 : (if x.sign = 1 then pluK else miK).size = 1 := by split <;> rfl
  have hz8 := ordT_size x.order
  generalize (if x.sign = 1 then pluK else miK) = T7 at *
  generalize ordT x.order = T8 at *
  generalize itT x.num = T4 at *
  generalize itT x.den = T5 at *
  generalize prS x.ht = T1 at *
  generalize prS x.dp = T2 at *
  generalize prS x.wd = T3 at *
  generalize prS x.shift = T6 at *
  clear htab hk h hbx
  clear hx
  generalize ns.length = ln at *
  have HSG := Lib.hid hseg
  clear hseg
  go_enter Tryz.func65, Tryz.ntmps65
  go_upto_region 2 with (first | (refine wpList_load_node rfl _ rfl _ _ rfl _ hn ?_) | (refine wpList_alloc_node rfl rfl ?_) | (refine wpList_store_node rfl _ _ rfl _ _ _ rfl rfl _ (by repeat (first | (apply Blk.new'; first | rfl | (simp; done)) | assumption | apply Blk.alloc)) ?_))
  rw [setRow_new _ _ _ _ _ rfl]
  have hH0 : Hd w w.heap.size x (w.alloc (.cells (nc x) 36)) := ⟨(Blk.new w 36 (nc x)).node, by simp, andAlloc (Below.refl w.heap.size w) _⟩
  generalize w.alloc (.cells (nc x) 36) = W at hH0 ⊢
  clear hn
  have k0 := hH0.at (j := 0) rfl
  go_upto_region 5 with fail
  refine wp_region_held_drew (S := Hd w w.heap.size x) (by kernel_rfl) (hH0.drew) (fun hH => ?_)
  refine take_lit (i := 0) (v := (.string (⟨#[104, 98, 111, 120]⟩))) (by kernel_rfl) (by kernel_rfl) (by kernel_rfl) (by kernel_rfl) (fun _ _ _ _ h => h) hH (fun oi hoi => ?_)
  simp only [List.getElem?_toArray, List.getElem?_cons_succ, List.getElem?_cons_zero, Option.some.injEq] at hoi
  subst hoi
  refine ⟨.inl ⟨by rfl, fun w hSw => ?_⟩, ?_⟩
  · skip
    first | (go_simp; done) | (go_simp; omega) | (go_simp; with_reducible rfl) | (go_simp; kernel_rfl)
  simp only [Act.put, List.setIfInBounds_toArray, List.set_cons_zero, List.set_cons_succ]
  refine take_lit (i := 1) (v := (.pointer (some ⟨w.heap.size, 4, none⟩))) (by kernel_rfl) (by kernel_rfl) (by kernel_rfl) (by kernel_rfl) (fun _ _ _ _ h => h) hH (fun oi hoi => ?_)
  simp only [List.getElem?_toArray, List.getElem?_cons_succ, List.getElem?_cons_zero, Option.some.injEq] at hoi
  subst hoi
  refine ⟨.inl ⟨by rfl, fun w hSw => ?_⟩, ?_⟩
  · skip
    first | (go_simp; done) | (go_simp; omega) | (go_simp; with_reducible rfl) | (go_simp; kernel_rfl)
  simp only [Act.put, List.setIfInBounds_toArray, List.set_cons_zero, List.set_cons_succ]
  refine take_lit (i := 2) (v := (.int .i64 (x.ht))) (by kernel_rfl) (by kernel_rfl) (by kernel_rfl) (by kernel_rfl) (fun _ _ _ _ h => h) hH (fun oi hoi => ?_)
  simp only [List.getElem?_toArray, List.getElem?_cons_succ, List.getElem?_cons_zero, Option.some.injEq] at hoi
  subst hoi
  refine ⟨.inl ⟨by rfl, fun w hSw => ?_⟩, ?_⟩
  · skip
    have z := hSw.at (j := 4) rfl
    first | (go_simp; done) | (go_simp; omega) | (go_simp; with_reducible rfl) | (go_simp; kernel_rfl)
  simp only [Act.put, List.setIfInBounds_toArray, List.set_cons_zero, List.set_cons_succ]
  refine take_lit (i := 6) (v := (.pointer (some ⟨w.heap.size, 5, none⟩))) (by kernel_rfl) (by kernel_rfl) (by kernel_rfl) (by kernel_rfl) (fun _ _ _ _ h => h) hH (fun oi hoi => ?_)
  simp only [List.getElem?_toArray, List.getElem?_cons_succ, List.getElem?_cons_zero, Option.some.injEq] at hoi
  subst hoi
  refine ⟨.inl ⟨by rfl, fun w hSw => ?_⟩, ?_⟩
  · skip
    first | (go_simp; done) | (go_simp; omega) | (go_simp; with_reducible rfl) | (go_simp; kernel_rfl)
  simp only [Act.put, List.setIfInBounds_toArray, List.set_cons_zero, List.set_cons_succ]
  refine take_lit (i := 7) (v := (.int .i64 (x.dp))) (by kernel_rfl) (by kernel_rfl) (by kernel_rfl) (by kernel_rfl) (fun _ _ _ _ h => h) hH (fun oi hoi => ?_)
  simp only [List.getElem?_toArray, List.getElem?_cons_succ, List.getElem?_cons_zero, Option.some.injEq] at hoi
  subst hoi
  refine ⟨.inl ⟨by rfl, fun w hSw => ?_⟩, ?_⟩
  · skip
    have z := hSw.at (j := 5) rfl
    first | (go_simp; done) | (go_simp; omega) | (go_simp; with_reducible rfl) | (go_simp; kernel_rfl)
  simp only [Act.put, List.setIfInBounds_toArray, List.set_cons_zero, List.set_cons_succ]
  refine take_lit (i := 11) (v := (.pointer (some ⟨w.heap.size, 3, none⟩))) (by kernel_rfl) (by kernel_rfl) (by kernel_rfl) (by kernel_rfl) (fun _ _ _ _ h => h) hH (fun oi hoi => ?_)
  simp only [List.getElem?_toArray, List.getElem?_cons_succ, List.getElem?_cons_zero, Option.some.injEq] at hoi
  subst hoi
  refine ⟨.inl ⟨by rfl, fun w hSw => ?_⟩, ?_⟩
  · skip
    first | (go_simp; done) | (go_simp; omega) | (go_simp; with_reducible rfl) | (go_simp; kernel_rfl)
  simp only [Act.put, List.setIfInBounds_toArray, List.set_cons_zero, List.set_cons_succ]
  refine take_lit (i := 12) (v := (.int .i64 (x.wd))) (by kernel_rfl) (by kernel_rfl) (by kernel_rfl) (by kernel_rfl) (fun _ _ _ _ h => h) hH (fun oi hoi => ?_)
  simp only [List.getElem?_toArray, List.getElem?_cons_succ, List.getElem?_cons_zero, Option.some.injEq] at hoi
  subst hoi
  refine ⟨.inl ⟨by rfl, fun w hSw => ?_⟩, ?_⟩
  · skip
    have z := hSw.at (j := 3) rfl
    first | (go_simp; done) | (go_simp; omega) | (go_simp; with_reducible rfl) | (go_simp; kernel_rfl)
  simp only [Act.put, List.setIfInBounds_toArray, List.set_cons_zero, List.set_cons_succ]
  refine wpAnyH_ready (rs := [3]) (by kernel_rfl) (by simp) (AllReadyH.cons rfl (fun K hK => ?_) AllReadyH.nil)
  go_simp
  go_wp2_with fail
  refine (HC1.out _ hH.2.2).mono ?_
  rintro e w_1 ⟨rfl, hb_1⟩
  refine hK.out _ _ (hH.keep hb_1) (fun hH1 => ?_)
  try simp only [Act.put, List.setIfInBounds_toArray, List.set_cons_zero, List.set_cons_succ]
  clear hK K
  refine take_lit (i := 4) (v := (.string (⟨#[40]⟩ ++ T1))) (by kernel_rfl) (by kernel_rfl) (by kernel_rfl) (by kernel_rfl) (fun _ _ _ _ h => h) hH1 (fun oi hoi => ?_)
  simp only [List.getElem?_toArray, List.getElem?_cons_succ, List.getElem?_cons_zero, Option.some.injEq] at hoi
  subst hoi
  refine ⟨.inl ⟨by rfl, fun w hSw => ?_⟩, ?_⟩
  · skip
    have hz : ¬ 9223372036854775807 < (⟨#[40]⟩ : ByteArray).size + (T1 : ByteArray).size := by (try simp only [ByteArray.size_append]); have q0 : (⟨#[40]⟩ : ByteArray).size = 1 := rfl; omega
    first | (go_simp; done) | (go_simp; omega) | (go_simp; with_reducible rfl) | (go_simp; kernel_rfl)
  simp only [Act.put, List.setIfInBounds_toArray, List.set_cons_zero, List.set_cons_succ]
  refine take_lit (i := 5) (v := (.string ((⟨#[40]⟩ ++ T1) ++ ⟨#[43]⟩))) (by kernel_rfl) (by kernel_rfl) (by kernel_rfl) (by kernel_rfl) (fun _ _ _ _ h => h) hH1 (fun oi hoi => ?_)
  simp only [List.getElem?_toArray, List.getElem?_cons_succ, List.getElem?_cons_zero, Option.some.injEq] at hoi
  subst hoi
  refine ⟨.inl ⟨by rfl, fun w hSw => ?_⟩, ?_⟩
  · skip
    have hz : ¬ 9223372036854775807 < (⟨#[40]⟩ ++ T1 : ByteArray).size + (⟨#[43]⟩ : ByteArray).size := by (try simp only [ByteArray.size_append]); have q0 : (⟨#[40]⟩ : ByteArray).size = 1 := rfl; have q1 : (⟨#[43]⟩ : ByteArray).size = 1 := rfl; omega
    first | (go_simp; done) | (go_simp; omega) | (go_simp; with_reducible rfl) | (go_simp; kernel_rfl)
  simp only [Act.put, List.setIfInBounds_toArray, List.set_cons_zero, List.set_cons_succ]
  refine wpAnyH_ready (rs := [8]) (by kernel_rfl) (by simp) (AllReadyH.cons rfl (fun K hK => ?_) AllReadyH.nil)
  go_simp
  go_wp2_with fail
  refine (HC2.out _ hH1.2.2).mono ?_
  rintro e w_2 ⟨rfl, hb_2⟩
  refine hK.out _ _ (hH1.keep hb_2) (fun hH2 => ?_)
  try simp only [Act.put, List.setIfInBounds_toArray, List.set_cons_zero, List.set_cons_succ]
  clear hK K
  refine take_lit (i := 9) (v := (.string (((⟨#[40]⟩ ++ T1) ++ ⟨#[43]⟩) ++ T2))) (by kernel_rfl) (by kernel_rfl) (by kernel_rfl) (by kernel_rfl) (fun _ _ _ _ h => h) hH2 (fun oi hoi => ?_)
  simp only [List.getElem?_toArray, List.getElem?_cons_succ, List.getElem?_cons_zero, Option.some.injEq] at hoi
  subst hoi
  refine ⟨.inl ⟨by rfl, fun w hSw => ?_⟩, ?_⟩
  · skip
    have hz : ¬ 9223372036854775807 < ((⟨#[40]⟩ ++ T1) ++ ⟨#[43]⟩ : ByteArray).size + (T2 : ByteArray).size := by (try simp only [ByteArray.size_append]); have q0 : (⟨#[40]⟩ : ByteArray).size = 1 := rfl; have q1 : (⟨#[43]⟩ : ByteArray).size = 1 := rfl; omega
    first | (go_simp; done) | (go_simp; omega) | (go_simp; with_reducible rfl) | (go_simp; kernel_rfl)
  simp only [Act.put, List.setIfInBounds_toArray, List.set_cons_zero, List.set_cons_succ]
  refine take_lit (i := 10) (v := (.string ((((⟨#[40]⟩ ++ T1) ++ ⟨#[43]⟩) ++ T2) ++ ⟨#[41, 120]⟩))) (by kernel_rfl) (by kernel_rfl) (by kernel_rfl) (by kernel_rfl) (fun _ _ _ _ h => h) hH2 (fun oi hoi => ?_)
  simp only [List.getElem?_toArray, List.getElem?_cons_succ, List.getElem?_cons_zero, Option.some.injEq] at hoi
  subst hoi
  refine ⟨.inl ⟨by rfl, fun w hSw => ?_⟩, ?_⟩
  · skip
    have hz : ¬ 9223372036854775807 < (((⟨#[40]⟩ ++ T1) ++ ⟨#[43]⟩) ++ T2 : ByteArray).size + (⟨#[41, 120]⟩ : ByteArray).size := by (try simp only [ByteArray.size_append]); have q0 : (⟨#[40]⟩ : ByteArray).size = 1 := rfl; have q1 : (⟨#[41, 120]⟩ : ByteArray).size = 2 := rfl; have q2 : (⟨#[43]⟩ : ByteArray).size = 1 := rfl; omega
    first | (go_simp; done) | (go_simp; omega) | (go_simp; with_reducible rfl) | (go_simp; kernel_rfl)
  simp only [Act.put, List.setIfInBounds_toArray, List.set_cons_zero, List.set_cons_succ]
  refine wpAnyH_ready (rs := [13]) (by kernel_rfl) (by simp) (AllReadyH.cons rfl (fun K hK => ?_) AllReadyH.nil)
  go_simp
  go_wp2_with fail
  refine (HC3.out _ hH2.2.2).mono ?_
  rintro e w_3 ⟨rfl, hb_3⟩
  refine hK.out _ _ (hH2.keep hb_3) (fun hH3 => ?_)
  try simp only [Act.put, List.setIfInBounds_toArray, List.set_cons_zero, List.set_cons_succ]
  clear hK K
  refine take_lit (i := 14) (v := (.string (((((⟨#[40]⟩ ++ T1) ++ ⟨#[43]⟩) ++ T2) ++ ⟨#[41, 120]⟩) ++ T3))) (by kernel_rfl) (by kernel_rfl) (by kernel_rfl) (by kernel_rfl) (fun _ _ _ _ h => h) hH3 (fun oi hoi => ?_)
  simp only [List.getElem?_toArray, List.getElem?_cons_succ, List.getElem?_cons_zero, Option.some.injEq] at hoi
  subst hoi
  refine ⟨.inl ⟨by rfl, fun w hSw => ?_⟩, ?_⟩
  · skip
    have hz : ¬ 9223372036854775807 < ((((⟨#[40]⟩ ++ T1) ++ ⟨#[43]⟩) ++ T2) ++ ⟨#[41, 120]⟩ : ByteArray).size + (T3 : ByteArray).size := by (try simp only [ByteArray.size_append]); have q0 : (⟨#[40]⟩ : ByteArray).size = 1 := rfl; have q1 : (⟨#[41, 120]⟩ : ByteArray).size = 2 := rfl; have q2 : (⟨#[43]⟩ : ByteArray).size = 1 := rfl; omega
    first | (go_simp; done) | (go_simp; omega) | (go_simp; with_reducible rfl) | (go_simp; kernel_rfl)
  simp only [Act.put, List.setIfInBounds_toArray, List.set_cons_zero, List.set_cons_succ]
  refine take_lit (i := 15) (v := (.string (⟨#[104, 98, 111, 120]⟩ ++ (((((⟨#[40]⟩ ++ T1) ++ ⟨#[43]⟩) ++ T2) ++ ⟨#[41, 120]⟩) ++ T3)))) (by kernel_rfl) (by kernel_rfl) (by kernel_rfl) (by kernel_rfl) (fun _ _ _ _ h => h) hH3 (fun oi hoi => ?_)
  simp only [List.getElem?_toArray, List.getElem?_cons_succ, List.getElem?_cons_zero, Option.some.injEq] at hoi
  subst hoi
  refine ⟨.inl ⟨by rfl, fun w hSw => ?_⟩, ?_⟩
  · skip
    have hz : ¬ 9223372036854775807 < (⟨#[104, 98, 111, 120]⟩ : ByteArray).size + (((((⟨#[40]⟩ ++ T1) ++ ⟨#[43]⟩) ++ T2) ++ ⟨#[41, 120]⟩) ++ T3 : ByteArray).size := by (try simp only [ByteArray.size_append]); have q0 : (⟨#[104, 98, 111, 120]⟩ : ByteArray).size = 4 := rfl; have q1 : (⟨#[40]⟩ : ByteArray).size = 1 := rfl; have q2 : (⟨#[41, 120]⟩ : ByteArray).size = 2 := rfl; have q3 : (⟨#[43]⟩ : ByteArray).size = 1 := rfl; omega
    first | (go_simp; done) | (go_simp; omega) | (go_simp; with_reducible rfl) | (go_simp; kernel_rfl)
  simp only [Act.put, List.setIfInBounds_toArray, List.set_cons_zero, List.set_cons_succ]
  refine take_lit (i := 16) (v := (.string (⟨#[104, 98, 111, 120]⟩ ++ (((((⟨#[40]⟩ ++ T1) ++ ⟨#[43]⟩) ++ T2) ++ ⟨#[41, 120]⟩) ++ T3)))) (by kernel_rfl) (by kernel_rfl) (by kernel_rfl) (by kernel_rfl) (fun _ _ _ _ h => h) hH3 (fun oi hoi => ?_)
  simp only [List.getElem?_toArray, List.getElem?_cons_succ, List.getElem?_cons_zero, Option.some.injEq] at hoi
  subst hoi
  refine ⟨.inl ⟨by rfl, fun w hSw => ?_⟩, ?_⟩
  · skip
    first | (go_simp; done) | (go_simp; omega) | (go_simp; with_reducible rfl) | (go_simp; kernel_rfl)
  simp only [Act.put, List.setIfInBounds_toArray, List.set_cons_zero, List.set_cons_succ]
  refine wpAnyH_done (by kernel_rfl) ?_ _
  clear k0
  by_cases hs : x.sign = 0
  · have e1 : (x.sign != 0) = false := by simp [hs]
    have HS := Lib.hid hs
    clear hs
    have k12 := hH3.at (j := 12) rfl
    by_cases hsh : x.shift = 0
    · have e2 : (x.shift != 0) = false := by simp [hsh]
      have HQ := Lib.hid hsh
      clear hsh
      have k6 := hH3.at (j := 6) rfl
      have HH := Lib.hid hH3
      clear hH3
      go_wp2_with fail
      go_ret
      exact ⟨ret_t (HR00.out HS.out HQ.out), HH.out.2.2⟩
    · have e2 : (x.shift != 0) = true := by simp [hsh]
      have HQ := Lib.hid hsh
      clear hsh
      have k6 := hH3.at (j := 6) rfl
      have HH := Lib.hid hH3
      clear hH3
      have hz9 : ¬ 9223372036854775807 < (⟨#[44, 32, 115, 104, 105, 102, 116, 101, 100, 32]⟩ : ByteArray).size + T6.size := by show ¬ 9223372036854775807 < 10 + _; omega
      have hz10 : ¬ 9223372036854775807 < (⟨#[104, 98, 111, 120]⟩ ++ (((((⟨#[40]⟩ ++ T1) ++ ⟨#[43]⟩) ++ T2) ++ ⟨#[41, 120]⟩) ++ T3) : ByteArray).size + ((⟨#[44, 32, 115, 104, 105, 102, 116, 101, 100, 32]⟩ : ByteArray) ++ T6).size := by (simp only [ByteArray.size_append]); have q0 : (⟨#[104, 98, 111, 120]⟩ : ByteArray).size = 4 := rfl; have q1 : (⟨#[40]⟩ : ByteArray).size = 1 := rfl; have q2 : (⟨#[41, 120]⟩ : ByteArray).size = 2 := rfl; have q3 : (⟨#[43]⟩ : ByteArray).size = 1 := rfl; have q9 : (⟨#[44, 32, 115, 104, 105, 102, 116, 101, 100, 32]⟩ : ByteArray).size = 10 := rfl; omega
      generalize hT9 : ⟨#[104, 98, 111, 120]⟩ ++ (((((⟨#[40]⟩ ++ T1) ++ ⟨#[43]⟩) ++ T2) ++ ⟨#[41, 120]⟩) ++ T3) = T9 at hz10 ⊢
      go_wp2_with fail
      refine (HC6.out _ HH.out.2.2).mono ?_
      rintro e w9 ⟨rfl, hb9⟩
      have HH9 := Lib.hid (HH.out.keep hb9)
      clear hb9
      go_wp2_with fail
      go_ret
      subst hT9
      exact ⟨ret_t (HR01.out HS.out HQ.out), HH9.out.2.2⟩
  · have e1 : (x.sign != 0) = true := by simp [hs]
    have HC4 := Lib.hid (HC4.out hs)
    have HC5 := Lib.hid (HC5.out hs)
    have HSG1 := Lib.hid (HSG1.out hs)
    have HOG := Lib.hid (HOG.out hs)
    have hz4 := HZ4.out hs
    have hz5 := HZ5.out hs
    have HS := Lib.hid hs
    clear hs
    have k12 := hH3.at (j := 12) rfl
    have k13 := hH3.at (j := 13) rfl
    go_upto_region 9 with (first
      | (refine wpList_ex (o := ⟨some 40, _, _, _, _, _⟩) (v := .string T7) (w' := w_3) rfl (ex_index rfl (HSG1.out _)) ?_)
      | (refine wpList_ex (o := ⟨some 44, _, _, _, _, _⟩) (v := .string T8) (w' := w_3) rfl (ex_index rfl (HOG.out _)) ?_))
    clear k12 k13
    have hI := hH3
    clear hH hH1 hH2 hH3
    refine wp_region_held_drew (S := Hd w w.heap.size x) (by kernel_rfl) (hI.drew) (fun hH => ?_)
    refine take_lit (i := 0) (v := (.string (⟨#[104, 98, 111, 120]⟩ ++ (((((⟨#[40]⟩ ++ T1) ++ ⟨#[43]⟩) ++ T2) ++ ⟨#[41, 120]⟩) ++ T3)))) (by kernel_rfl) (by kernel_rfl) (by kernel_rfl) (by kernel_rfl) (fun _ _ _ _ h => h) hH (fun oi hoi => ?_)
    simp only [List.getElem?_toArray, List.getElem?_cons_succ, List.getElem?_cons_zero, Option.some.injEq] at hoi
    subst hoi
    refine ⟨.inl ⟨by rfl, fun w hSw => ?_⟩, ?_⟩
    · skip
      first | (go_simp; done) | (go_simp; omega) | (go_simp; with_reducible rfl) | (go_simp; kernel_rfl)
    simp only [Act.put, List.setIfInBounds_toArray, List.set_cons_zero, List.set_cons_succ]
    refine take_lit (i := 1) (v := (.string (T7))) (by kernel_rfl) (by kernel_rfl) (by kernel_rfl) (by kernel_rfl) (fun _ _ _ _ h => h) hH (fun oi hoi => ?_)
    simp only [List.getElem?_toArray, List.getElem?_cons_succ, List.getElem?_cons_zero, Option.some.injEq] at hoi
    subst hoi
    refine ⟨.inl ⟨by rfl, fun w hSw => ?_⟩, ?_⟩
    · skip
      first | (go_simp; done) | (go_simp; omega) | (go_simp; with_reducible rfl) | (go_simp; kernel_rfl)
    simp only [Act.put, List.setIfInBounds_toArray, List.set_cons_zero, List.set_cons_succ]
    refine take_lit (i := 2) (v := (.string (⟨#[44, 32, 103, 108, 117, 101, 32, 115, 101, 116, 32]⟩ ++ T7))) (by kernel_rfl) (by kernel_rfl) (by kernel_rfl) (by kernel_rfl) (fun _ _ _ _ h => h) hH (fun oi hoi => ?_)
    simp only [List.getElem?_toArray, List.getElem?_cons_succ, List.getElem?_cons_zero, Option.some.injEq] at hoi
    subst hoi
    refine ⟨.inl ⟨by rfl, fun w hSw => ?_⟩, ?_⟩
    · skip
      have hz : ¬ 9223372036854775807 < (⟨#[44, 32, 103, 108, 117, 101, 32, 115, 101, 116, 32]⟩ : ByteArray).size + (T7 : ByteArray).size := by (try simp only [ByteArray.size_append]); have q0 : (⟨#[44, 32, 103, 108, 117, 101, 32, 115, 101, 116, 32]⟩ : ByteArray).size = 11 := rfl; omega
      first | (go_simp; done) | (go_simp; omega) | (go_simp; with_reducible rfl) | (go_simp; kernel_rfl)
    simp only [Act.put, List.setIfInBounds_toArray, List.set_cons_zero, List.set_cons_succ]
    refine take_lit (i := 3) (v := (.string ((⟨#[44, 32, 103, 108, 117, 101, 32, 115, 101, 116, 32]⟩ ++ T7) ++ ⟨#[32]⟩))) (by kernel_rfl) (by kernel_rfl) (by kernel_rfl) (by kernel_rfl) (fun _ _ _ _ h => h) hH (fun oi hoi => ?_)
    simp only [List.getElem?_toArray, List.getElem?_cons_succ, List.getElem?_cons_zero, Option.some.injEq] at hoi
    subst hoi
    refine ⟨.inl ⟨by rfl, fun w hSw => ?_⟩, ?_⟩
    · skip
      have hz : ¬ 9223372036854775807 < (⟨#[44, 32, 103, 108, 117, 101, 32, 115, 101, 116, 32]⟩ ++ T7 : ByteArray).size + (⟨#[32]⟩ : ByteArray).size := by (try simp only [ByteArray.size_append]); have q0 : (⟨#[32]⟩ : ByteArray).size = 1 := rfl; have q1 : (⟨#[44, 32, 103, 108, 117, 101, 32, 115, 101, 116, 32]⟩ : ByteArray).size = 11 := rfl; omega
      first | (go_simp; done) | (go_simp; omega) | (go_simp; with_reducible rfl) | (go_simp; kernel_rfl)
    simp only [Act.put, List.setIfInBounds_toArray, List.set_cons_zero, List.set_cons_succ]
    refine take_lit (i := 4) (v := (.pointer (some ⟨w.heap.size, 14, none⟩))) (by kernel_rfl) (by kernel_rfl) (by kernel_rfl) (by kernel_rfl) (fun _ _ _ _ h => h) hH (fun oi hoi => ?_)
    simp only [List.getElem?_toArray, List.getElem?_cons_succ, List.getElem?_cons_zero, Option.some.injEq] at hoi
    subst hoi
    refine ⟨.inl ⟨by rfl, fun w hSw => ?_⟩, ?_⟩
    · skip
      first | (go_simp; done) | (go_simp; omega) | (go_simp; with_reducible rfl) | (go_simp; kernel_rfl)
    simp only [Act.put, List.setIfInBounds_toArray, List.set_cons_zero, List.set_cons_succ]
    refine take_lit (i := 5) (v := (.int .i64 (x.num))) (by kernel_rfl) (by kernel_rfl) (by kernel_rfl) (by kernel_rfl) (fun _ _ _ _ h => h) hH (fun oi hoi => ?_)
    simp only [List.getElem?_toArray, List.getElem?_cons_succ, List.getElem?_cons_zero, Option.some.injEq] at hoi
    subst hoi
    refine ⟨.inl ⟨by rfl, fun w hSw => ?_⟩, ?_⟩
    · skip
      have z := hSw.at (j := 14) rfl
      first | (go_simp; done) | (go_simp; omega) | (go_simp; with_reducible rfl) | (go_simp; kernel_rfl)
    simp only [Act.put, List.setIfInBounds_toArray, List.set_cons_zero, List.set_cons_succ]
    refine take_lit (i := 9) (v := (.pointer (some ⟨w.heap.size, 15, none⟩))) (by kernel_rfl) (by kernel_rfl) (by kernel_rfl) (by kernel_rfl) (fun _ _ _ _ h => h) hH (fun oi hoi => ?_)
    simp only [List.getElem?_toArray, List.getElem?_cons_succ, List.getElem?_cons_zero, Option.some.injEq] at hoi
    subst hoi
    refine ⟨.inl ⟨by rfl, fun w hSw => ?_⟩, ?_⟩
    · skip
      first | (go_simp; done) | (go_simp; omega) | (go_simp; with_reducible rfl) | (go_simp; kernel_rfl)
    simp only [Act.put, List.setIfInBounds_toArray, List.set_cons_zero, List.set_cons_succ]
    refine take_lit (i := 10) (v := (.int .i64 (x.den))) (by kernel_rfl) (by kernel_rfl) (by kernel_rfl) (by kernel_rfl) (fun _ _ _ _ h => h) hH (fun oi hoi => ?_)
    simp only [List.getElem?_toArray, List.getElem?_cons_succ, List.getElem?_cons_zero, Option.some.injEq] at hoi
    subst hoi
    refine ⟨.inl ⟨by rfl, fun w hSw => ?_⟩, ?_⟩
    · skip
      have z := hSw.at (j := 15) rfl
      first | (go_simp; done) | (go_simp; omega) | (go_simp; with_reducible rfl) | (go_simp; kernel_rfl)
    simp only [Act.put, List.setIfInBounds_toArray, List.set_cons_zero, List.set_cons_succ]
    refine take_lit (i := 13) (v := (.string (T8))) (by kernel_rfl) (by kernel_rfl) (by kernel_rfl) (by kernel_rfl) (fun _ _ _ _ h => h) hH (fun oi hoi => ?_)
    simp only [List.getElem?_toArray, List.getElem?_cons_succ, List.getElem?_cons_zero, Option.some.injEq] at hoi
    subst hoi
    refine ⟨.inl ⟨by rfl, fun w hSw => ?_⟩, ?_⟩
    · skip
      first | (go_simp; done) | (go_simp; omega) | (go_simp; with_reducible rfl) | (go_simp; kernel_rfl)
    simp only [Act.put, List.setIfInBounds_toArray, List.set_cons_zero, List.set_cons_succ]
    refine wpAnyH_ready (rs := [6]) (by kernel_rfl) (by simp) (AllReadyH.cons rfl (fun K hK => ?_) AllReadyH.nil)
    go_simp
    go_wp2_with fail
    refine (HC4.out _ hH.2.2).mono ?_
    rintro e w_1 ⟨rfl, hb_1⟩
    refine hK.out _ _ (hH.keep hb_1) (fun hH1 => ?_)
    try simp only [Act.put, List.setIfInBounds_toArray, List.set_cons_zero, List.set_cons_succ]
    clear hK K
    refine take_lit (i := 7) (v := (.string (((⟨#[44, 32, 103, 108, 117, 101, 32, 115, 101, 116, 32]⟩ ++ T7) ++ ⟨#[32]⟩) ++ T4))) (by kernel_rfl) (by kernel_rfl) (by kernel_rfl) (by kernel_rfl) (fun _ _ _ _ h => h) hH1 (fun oi hoi => ?_)
    simp only [List.getElem?_toArray, List.getElem?_cons_succ, List.getElem?_cons_zero, Option.some.injEq] at hoi
    subst hoi
    refine ⟨.inl ⟨by rfl, fun w hSw => ?_⟩, ?_⟩
    · skip
      have hz : ¬ 9223372036854775807 < ((⟨#[44, 32, 103, 108, 117, 101, 32, 115, 101, 116, 32]⟩ ++ T7) ++ ⟨#[32]⟩ : ByteArray).size + (T4 : ByteArray).size := by (try simp only [ByteArray.size_append]); have q0 : (⟨#[32]⟩ : ByteArray).size = 1 := rfl; have q1 : (⟨#[44, 32, 103, 108, 117, 101, 32, 115, 101, 116, 32]⟩ : ByteArray).size = 11 := rfl; omega
      first | (go_simp; done) | (go_simp; omega) | (go_simp; with_reducible rfl) | (go_simp; kernel_rfl)
    simp only [Act.put, List.setIfInBounds_toArray, List.set_cons_zero, List.set_cons_succ]
    refine take_lit (i := 8) (v := (.string ((((⟨#[44, 32, 103, 108, 117, 101, 32, 115, 101, 116, 32]⟩ ++ T7) ++ ⟨#[32]⟩) ++ T4) ++ ⟨#[47]⟩))) (by kernel_rfl) (by kernel_rfl) (by kernel_rfl) (by kernel_rfl) (fun _ _ _ _ h => h) hH1 (fun oi hoi => ?_)
    simp only [List.getElem?_toArray, List.getElem?_cons_succ, List.getElem?_cons_zero, Option.some.injEq] at hoi
    subst hoi
    refine ⟨.inl ⟨by rfl, fun w hSw => ?_⟩, ?_⟩
    · skip
      have hz : ¬ 9223372036854775807 < (((⟨#[44, 32, 103, 108, 117, 101, 32, 115, 101, 116, 32]⟩ ++ T7) ++ ⟨#[32]⟩) ++ T4 : ByteArray).size + (⟨#[47]⟩ : ByteArray).size := by (try simp only [ByteArray.size_append]); have q0 : (⟨#[32]⟩ : ByteArray).size = 1 := rfl; have q1 : (⟨#[44, 32, 103, 108, 117, 101, 32, 115, 101, 116, 32]⟩ : ByteArray).size = 11 := rfl; have q2 : (⟨#[47]⟩ : ByteArray).size = 1 := rfl; omega
      first | (go_simp; done) | (go_simp; omega) | (go_simp; with_reducible rfl) | (go_simp; kernel_rfl)
    simp only [Act.put, List.setIfInBounds_toArray, List.set_cons_zero, List.set_cons_succ]
    refine wpAnyH_ready (rs := [11]) (by kernel_rfl) (by simp) (AllReadyH.cons rfl (fun K hK => ?_) AllReadyH.nil)
    go_simp
    go_wp2_with fail
    refine (HC5.out _ hH1.2.2).mono ?_
    rintro e w_2 ⟨rfl, hb_2⟩
    refine hK.out _ _ (hH1.keep hb_2) (fun hH2 => ?_)
    try simp only [Act.put, List.setIfInBounds_toArray, List.set_cons_zero, List.set_cons_succ]
    clear hK K
    refine take_lit (i := 12) (v := (.string (((((⟨#[44, 32, 103, 108, 117, 101, 32, 115, 101, 116, 32]⟩ ++ T7) ++ ⟨#[32]⟩) ++ T4) ++ ⟨#[47]⟩) ++ T5))) (by kernel_rfl) (by kernel_rfl) (by kernel_rfl) (by kernel_rfl) (fun _ _ _ _ h => h) hH2 (fun oi hoi => ?_)
    simp only [List.getElem?_toArray, List.getElem?_cons_succ, List.getElem?_cons_zero, Option.some.injEq] at hoi
    subst hoi
    refine ⟨.inl ⟨by rfl, fun w hSw => ?_⟩, ?_⟩
    · skip
      have hz : ¬ 9223372036854775807 < ((((⟨#[44, 32, 103, 108, 117, 101, 32, 115, 101, 116, 32]⟩ ++ T7) ++ ⟨#[32]⟩) ++ T4) ++ ⟨#[47]⟩ : ByteArray).size + (T5 : ByteArray).size := by (try simp only [ByteArray.size_append]); have q0 : (⟨#[32]⟩ : ByteArray).size = 1 := rfl; have q1 : (⟨#[44, 32, 103, 108, 117, 101, 32, 115, 101, 116, 32]⟩ : ByteArray).size = 11 := rfl; have q2 : (⟨#[47]⟩ : ByteArray).size = 1 := rfl; omega
      first | (go_simp; done) | (go_simp; omega) | (go_simp; with_reducible rfl) | (go_simp; kernel_rfl)
    simp only [Act.put, List.setIfInBounds_toArray, List.set_cons_zero, List.set_cons_succ]
    refine take_lit (i := 14) (v := (.string ((((((⟨#[44, 32, 103, 108, 117, 101, 32, 115, 101, 116, 32]⟩ ++ T7) ++ ⟨#[32]⟩) ++ T4) ++ ⟨#[47]⟩) ++ T5) ++ T8))) (by kernel_rfl) (by kernel_rfl) (by kernel_rfl) (by kernel_rfl) (fun _ _ _ _ h => h) hH2 (fun oi hoi => ?_)
    simp only [List.getElem?_toArray, List.getElem?_cons_succ, List.getElem?_cons_zero, Option.some.injEq] at hoi
    subst hoi
    refine ⟨.inl ⟨by rfl, fun w hSw => ?_⟩, ?_⟩
    · skip
      have hz : ¬ 9223372036854775807 < (((((⟨#[44, 32, 103, 108, 117, 101, 32, 115, 101, 116, 32]⟩ ++ T7) ++ ⟨#[32]⟩) ++ T4) ++ ⟨#[47]⟩) ++ T5 : ByteArray).size + (T8 : ByteArray).size := by (try simp only [ByteArray.size_append]); have q0 : (⟨#[32]⟩ : ByteArray).size = 1 := rfl; have q1 : (⟨#[44, 32, 103, 108, 117, 101, 32, 115, 101, 116, 32]⟩ : ByteArray).size = 11 := rfl; have q2 : (⟨#[47]⟩ : ByteArray).size = 1 := rfl; omega
      first | (go_simp; done) | (go_simp; omega) | (go_simp; with_reducible rfl) | (go_simp; kernel_rfl)
    simp only [Act.put, List.setIfInBounds_toArray, List.set_cons_zero, List.set_cons_succ]
    refine take_lit (i := 15) (v := (.string ((⟨#[104, 98, 111, 120]⟩ ++ (((((⟨#[40]⟩ ++ T1) ++ ⟨#[43]⟩) ++ T2) ++ ⟨#[41, 120]⟩) ++ T3)) ++ ((((((⟨#[44, 32, 103, 108, 117, 101, 32, 115, 101, 116, 32]⟩ ++ T7) ++ ⟨#[32]⟩) ++ T4) ++ ⟨#[47]⟩) ++ T5) ++ T8)))) (by kernel_rfl) (by kernel_rfl) (by kernel_rfl) (by kernel_rfl) (fun _ _ _ _ h => h) hH2 (fun oi hoi => ?_)
    simp only [List.getElem?_toArray, List.getElem?_cons_succ, List.getElem?_cons_zero, Option.some.injEq] at hoi
    subst hoi
    refine ⟨.inl ⟨by rfl, fun w hSw => ?_⟩, ?_⟩
    · skip
      have hz : ¬ 9223372036854775807 < (⟨#[104, 98, 111, 120]⟩ ++ (((((⟨#[40]⟩ ++ T1) ++ ⟨#[43]⟩) ++ T2) ++ ⟨#[41, 120]⟩) ++ T3) : ByteArray).size + ((((((⟨#[44, 32, 103, 108, 117, 101, 32, 115, 101, 116, 32]⟩ ++ T7) ++ ⟨#[32]⟩) ++ T4) ++ ⟨#[47]⟩) ++ T5) ++ T8 : ByteArray).size := by (try simp only [ByteArray.size_append]); have q0 : (⟨#[104, 98, 111, 120]⟩ : ByteArray).size = 4 := rfl; have q1 : (⟨#[32]⟩ : ByteArray).size = 1 := rfl; have q2 : (⟨#[40]⟩ : ByteArray).size = 1 := rfl; have q3 : (⟨#[41, 120]⟩ : ByteArray).size = 2 := rfl; have q4 : (⟨#[43]⟩ : ByteArray).size = 1 := rfl; have q5 : (⟨#[44, 32, 103, 108, 117, 101, 32, 115, 101, 116, 32]⟩ : ByteArray).size = 11 := rfl; have q6 : (⟨#[47]⟩ : ByteArray).size = 1 := rfl; omega
      first | (go_simp; done) | (go_simp; omega) | (go_simp; with_reducible rfl) | (go_simp; kernel_rfl)
    simp only [Act.put, List.setIfInBounds_toArray, List.set_cons_zero, List.set_cons_succ]
    refine take_lit (i := 16) (v := (.string ((⟨#[104, 98, 111, 120]⟩ ++ (((((⟨#[40]⟩ ++ T1) ++ ⟨#[43]⟩) ++ T2) ++ ⟨#[41, 120]⟩) ++ T3)) ++ ((((((⟨#[44, 32, 103, 108, 117, 101, 32, 115, 101, 116, 32]⟩ ++ T7) ++ ⟨#[32]⟩) ++ T4) ++ ⟨#[47]⟩) ++ T5) ++ T8)))) (by kernel_rfl) (by kernel_rfl) (by kernel_rfl) (by kernel_rfl) (fun _ _ _ _ h => h) hH2 (fun oi hoi => ?_)
    simp only [List.getElem?_toArray, List.getElem?_cons_succ, List.getElem?_cons_zero, Option.some.injEq] at hoi
    subst hoi
    refine ⟨.inl ⟨by rfl, fun w hSw => ?_⟩, ?_⟩
    · skip
      first | (go_simp; done) | (go_simp; omega) | (go_simp; with_reducible rfl) | (go_simp; kernel_rfl)
    simp only [Act.put, List.setIfInBounds_toArray, List.set_cons_zero, List.set_cons_succ]
    refine wpAnyH_done (by kernel_rfl) ?_ _
    by_cases hsh : x.shift = 0
    · have e2 : (x.shift != 0) = false := by simp [hsh]
      have HQ := Lib.hid hsh
      clear hsh
      have k6 := hH2.at (j := 6) rfl
      have HH := Lib.hid hH2
      clear hH2
      go_wp2_with fail
      go_ret
      exact ⟨ret_t (HR10.out HS.out HQ.out), HH.out.2.2⟩
    · have e2 : (x.shift != 0) = true := by simp [hsh]
      have HQ := Lib.hid hsh
      clear hsh
      have k6 := hH2.at (j := 6) rfl
      have HH := Lib.hid hH2
      clear hH2
      have hz9 : ¬ 9223372036854775807 < (⟨#[44, 32, 115, 104, 105, 102, 116, 101, 100, 32]⟩ : ByteArray).size + T6.size := by show ¬ 9223372036854775807 < 10 + _; omega
      have hz10 : ¬ 9223372036854775807 < ((⟨#[104, 98, 111, 120]⟩ ++ (((((⟨#[40]⟩ ++ T1) ++ ⟨#[43]⟩) ++ T2) ++ ⟨#[41, 120]⟩) ++ T3)) ++ ((((((⟨#[44, 32, 103, 108, 117, 101, 32, 115, 101, 116, 32]⟩ ++ T7) ++ ⟨#[32]⟩) ++ T4) ++ ⟨#[47]⟩) ++ T5) ++ T8) : ByteArray).size + ((⟨#[44, 32, 115, 104, 105, 102, 116, 101, 100, 32]⟩ : ByteArray) ++ T6).size := by (simp only [ByteArray.size_append]); have q0 : (⟨#[104, 98, 111, 120]⟩ : ByteArray).size = 4 := rfl; have q1 : (⟨#[32]⟩ : ByteArray).size = 1 := rfl; have q2 : (⟨#[40]⟩ : ByteArray).size = 1 := rfl; have q3 : (⟨#[41, 120]⟩ : ByteArray).size = 2 := rfl; have q4 : (⟨#[43]⟩ : ByteArray).size = 1 := rfl; have q5 : (⟨#[44, 32, 103, 108, 117, 101, 32, 115, 101, 116, 32]⟩ : ByteArray).size = 11 := rfl; have q6 : (⟨#[47]⟩ : ByteArray).size = 1 := rfl; have q9 : (⟨#[44, 32, 115, 104, 105, 102, 116, 101, 100, 32]⟩ : ByteArray).size = 10 := rfl; omega
      generalize hT9 : (⟨#[104, 98, 111, 120]⟩ ++ (((((⟨#[40]⟩ ++ T1) ++ ⟨#[43]⟩) ++ T2) ++ ⟨#[41, 120]⟩) ++ T3)) ++ ((((((⟨#[44, 32, 103, 108, 117, 101, 32, 115, 101, 116, 32]⟩ ++ T7) ++ ⟨#[32]⟩) ++ T4) ++ ⟨#[47]⟩) ++ T5) ++ T8) = T9 at hz10 ⊢
      go_wp2_with fail
      refine (HC6.out _ HH.out.2.2).mono ?_
      rintro e w9 ⟨rfl, hb9⟩
      have HH9 := Lib.hid (HH.out.keep hb9)
      clear hb9
      go_wp2_with fail
      go_ret
      subst hT9
      exact ⟨ret_t (HR11.out HS.out HQ.out), HH9.out.2.2⟩
set_option maxHeartbeats 8000000 in
set_option maxRecDepth 100000 in
theorem box_5 (p : Value) (A : Option Addr) (ns : List Nd) (c a : Nat) (x : Nd) (w : World) (hseg : Seg w w.heap.size A (ns.flatMap ncs)) (hx : ns[a]? = some x) (htab : Tab w) (hk : x.kind = 5) (h : gBox x = true) :
    Calls Tryz.prog 65 #[p, .slice A ns.length c, .int .i64 (a : Int)] w fun e w' => e = .returned (.string (boxT vbK x)) ∧ Below w.heap.size w w' := by
  obtain ⟨b, off, rfl, hb, hn⟩ := seg_node hseg hx
  have hal : (a : Int) < (ns.length : Int) := by have := (List.getElem?_eq_some_iff.1 hx).1; omega
  have hbx : ¬ x.sign = 0 → (x.sign = 1 ∨ x.sign = 2) ∧ (0 ≤ x.order ∧ x.order ≤ 3) ∧ (1 ≤ x.num ∧ x.num ≤ 1152921504606846976) ∧ (1 ≤ x.den ∧ x.den ≤ 1152921504606846976) := by
    intro hs
    unfold gBox at h
    rw [if_neg hs] at h
    simp only [Bool.and_eq_true, winB, decide_eq_true_eq] at h
    obtain ⟨_, ⟨⟨⟨⟨hsg, ho⟩, hn1⟩, hd1⟩, _⟩⟩ := h
    exact ⟨by omega, ho, hn1, hd1⟩
  have HR00 := Lib.hid (show x.sign = 0 → x.shift = 0 → vbK ++ (opK ++ prS x.ht ++ pluK ++ prS x.dp ++ cxK ++ prS x.wd) = boxT vbK x from fun hs hq => by unfold boxT; simp only; rw [if_pos hs, if_pos hq])
  have HR01 := Lib.hid (show x.sign = 0 → ¬ x.shift = 0 → vbK ++ (opK ++ prS x.ht ++ pluK ++ prS x.dp ++ cxK ++ prS x.wd) ++ (shfK ++ prS x.shift) = boxT vbK x from fun hs hq => by unfold boxT; simp only; rw [if_pos hs, if_neg hq])
  have HR10 := Lib.hid (show ¬ x.sign = 0 → x.shift = 0 → vbK ++ (opK ++ prS x.ht ++ pluK ++ prS x.dp ++ cxK ++ prS x.wd) ++ (gsetK ++ (if x.sign = 1 then pluK else miK) ++ spK ++ itT x.num ++ slK ++ itT x.den ++ ordT x.order) = boxT vbK x from fun hs hq => by unfold boxT; simp only; rw [if_neg hs, if_pos hq])
  have HR11 := Lib.hid (show ¬ x.sign = 0 → ¬ x.shift = 0 → vbK ++ (opK ++ prS x.ht ++ pluK ++ prS x.dp ++ cxK ++ prS x.wd) ++ (gsetK ++ (if x.sign = 1 then pluK else miK) ++ spK ++ itT x.num ++ slK ++ itT x.den ++ ordT x.order) ++ (shfK ++ prS x.shift) = boxT vbK x from fun hs hq => by unfold boxT; simp only; rw [if_neg hs, if_neg hq])
  generalize boxT vbK x = R at *
  have e0 : (x.kind == 5) = true := by simp [hk]
  have HC1 := Lib.hid (fun (W : World) (hB : Below w.heap.size w W) => pt_any x.ht W (htab.below hB))
  have hz1 := Gl.prS_size x.ht
  have HC2 := Lib.hid (fun (W : World) (hB : Below w.heap.size w W) => pt_any x.dp W (htab.below hB))
  have hz2 := Gl.prS_size x.dp
  have HC3 := Lib.hid (fun (W : World) (hB : Below w.heap.size w W) => pt_any x.wd W (htab.below hB))
  have hz3 := Gl.prS_size x.wd
  have HC6 := Lib.hid (fun (W : World) (hB : Below w.heap.size w W) => pt_any x.shift W (htab.below hB))
  have hz6 := Gl.prS_size x.shift
  have HC4 := Lib.hid (fun (hs : ¬ x.sign = 0) (W : World) (hB : Below w.heap.size w W) => itoa_any x.num (by have := (hbx hs).2.2.1; omega) (by have := (hbx hs).2.2.1; omega) W (htab.below hB))
  have HZ4 := Lib.hid (fun (hs : ¬ x.sign = 0) => itT_size (n := x.num) (by have := (hbx hs).2.2.1; omega) (by have := (hbx hs).2.2.1; omega))
  have HC5 := Lib.hid (fun (hs : ¬ x.sign = 0) (W : World) (hB : Below w.heap.size w W) => itoa_any x.den (by have := (hbx hs).2.2.2; omega) (by have := (hbx hs).2.2.2; omega) W (htab.below hB))
  have HZ5 := Lib.hid (fun (hs : ¬ x.sign = 0) => itT_size (n := x.den) (by have := (hbx hs).2.2.2; omega) (by have := (hbx hs).2.2.2; omega))
  have HSG1 := Lib.hid (fun (hs : ¬ x.sign = 0) (W : World) => sg_idx x.sign (hbx hs).1 W)
  have HOG := Lib.hid (fun (hs : ¬ x.sign = 0) (W : World) => og_idx x.order (hbx hs).2.1 W)
  have hz7 : (if x.sign = 1 then pluK else miK).size = 1 := by split <;> rfl
  have hz8 := ordT_size x.order
  generalize (if x.sign = 1 then pluK else miK) = T7 at *
  generalize ordT x.order = T8 at *
  generalize itT x.num = T4 at *
  generalize itT x.den = T5 at *
  generalize prS x.ht = T1 at *
  generalize prS x.dp = T2 at *
  generalize prS x.wd = T3 at *
  generalize prS x.shift = T6 at *
  clear htab hk h hbx
  clear hx
  generalize ns.length = ln at *
  have HSG := Lib.hid hseg
  clear hseg
  go_enter Tryz.func65, Tryz.ntmps65
  go_upto_region 2 with (first | (refine wpList_load_node rfl _ rfl _ _ rfl _ hn ?_) | (refine wpList_alloc_node rfl rfl ?_) | (refine wpList_store_node rfl _ _ rfl _ _ _ rfl rfl _ (by repeat (first | (apply Blk.new'; first | rfl | (simp; done)) | assumption | apply Blk.alloc)) ?_))
  rw [setRow_new _ _ _ _ _ rfl]
  have hH0 : Hd w w.heap.size x (w.alloc (.cells (nc x) 36)) := ⟨(Blk.new w 36 (nc x)).node, by simp, andAlloc (Below.refl w.heap.size w) _⟩
  generalize w.alloc (.cells (nc x) 36) = W at hH0 ⊢
  clear hn
  have k0 := hH0.at (j := 0) rfl
  go_upto_region 5 with fail
  refine wp_region_held_drew (S := Hd w w.heap.size x) (by kernel_rfl) (hH0.drew) (fun hH => ?_)
  refine take_lit (i := 0) (v := (.string (⟨#[118, 98, 111, 120]⟩))) (by kernel_rfl) (by kernel_rfl) (by kernel_rfl) (by kernel_rfl) (fun _ _ _ _ h => h) hH (fun oi hoi => ?_)
  simp only [List.getElem?_toArray, List.getElem?_cons_succ, List.getElem?_cons_zero, Option.some.injEq] at hoi
  subst hoi
  refine ⟨.inl ⟨by rfl, fun w hSw => ?_⟩, ?_⟩
  · skip
    first | (go_simp; done) | (go_simp; omega) | (go_simp; with_reducible rfl) | (go_simp; kernel_rfl)
  simp only [Act.put, List.setIfInBounds_toArray, List.set_cons_zero, List.set_cons_succ]
  refine take_lit (i := 1) (v := (.pointer (some ⟨w.heap.size, 4, none⟩))) (by kernel_rfl) (by kernel_rfl) (by kernel_rfl) (by kernel_rfl) (fun _ _ _ _ h => h) hH (fun oi hoi => ?_)
  simp only [List.getElem?_toArray, List.getElem?_cons_succ, List.getElem?_cons_zero, Option.some.injEq] at hoi
  subst hoi
  refine ⟨.inl ⟨by rfl, fun w hSw => ?_⟩, ?_⟩
  · skip
    first | (go_simp; done) | (go_simp; omega) | (go_simp; with_reducible rfl) | (go_simp; kernel_rfl)
  simp only [Act.put, List.setIfInBounds_toArray, List.set_cons_zero, List.set_cons_succ]
  refine take_lit (i := 2) (v := (.int .i64 (x.ht))) (by kernel_rfl) (by kernel_rfl) (by kernel_rfl) (by kernel_rfl) (fun _ _ _ _ h => h) hH (fun oi hoi => ?_)
  simp only [List.getElem?_toArray, List.getElem?_cons_succ, List.getElem?_cons_zero, Option.some.injEq] at hoi
  subst hoi
  refine ⟨.inl ⟨by rfl, fun w hSw => ?_⟩, ?_⟩
  · skip
    have z := hSw.at (j := 4) rfl
    first | (go_simp; done) | (go_simp; omega) | (go_simp; with_reducible rfl) | (go_simp; kernel_rfl)
  simp only [Act.put, List.setIfInBounds_toArray, List.set_cons_zero, List.set_cons_succ]
  refine take_lit (i := 6) (v := (.pointer (some ⟨w.heap.size, 5, none⟩))) (by kernel_rfl) (by kernel_rfl) (by kernel_rfl) (by kernel_rfl) (fun _ _ _ _ h => h) hH (fun oi hoi => ?_)
  simp only [List.getElem?_toArray, List.getElem?_cons_succ, List.getElem?_cons_zero, Option.some.injEq] at hoi
  subst hoi
  refine ⟨.inl ⟨by rfl, fun w hSw => ?_⟩, ?_⟩
  · skip
    first | (go_simp; done) | (go_simp; omega) | (go_simp; with_reducible rfl) | (go_simp; kernel_rfl)
  simp only [Act.put, List.setIfInBounds_toArray, List.set_cons_zero, List.set_cons_succ]
  refine take_lit (i := 7) (v := (.int .i64 (x.dp))) (by kernel_rfl) (by kernel_rfl) (by kernel_rfl) (by kernel_rfl) (fun _ _ _ _ h => h) hH (fun oi hoi => ?_)
  simp only [List.getElem?_toArray, List.getElem?_cons_succ, List.getElem?_cons_zero, Option.some.injEq] at hoi
  subst hoi
  refine ⟨.inl ⟨by rfl, fun w hSw => ?_⟩, ?_⟩
  · skip
    have z := hSw.at (j := 5) rfl
    first | (go_simp; done) | (go_simp; omega) | (go_simp; with_reducible rfl) | (go_simp; kernel_rfl)
  simp only [Act.put, List.setIfInBounds_toArray, List.set_cons_zero, List.set_cons_succ]
  refine take_lit (i := 11) (v := (.pointer (some ⟨w.heap.size, 3, none⟩))) (by kernel_rfl) (by kernel_rfl) (by kernel_rfl) (by kernel_rfl) (fun _ _ _ _ h => h) hH (fun oi hoi => ?_)
  simp only [List.getElem?_toArray, List.getElem?_cons_succ, List.getElem?_cons_zero, Option.some.injEq] at hoi
  subst hoi
  refine ⟨.inl ⟨by rfl, fun w hSw => ?_⟩, ?_⟩
  · skip
    first | (go_simp; done) | (go_simp; omega) | (go_simp; with_reducible rfl) | (go_simp; kernel_rfl)
  simp only [Act.put, List.setIfInBounds_toArray, List.set_cons_zero, List.set_cons_succ]
  refine take_lit (i := 12) (v := (.int .i64 (x.wd))) (by kernel_rfl) (by kernel_rfl) (by kernel_rfl) (by kernel_rfl) (fun _ _ _ _ h => h) hH (fun oi hoi => ?_)
  simp only [List.getElem?_toArray, List.getElem?_cons_succ, List.getElem?_cons_zero, Option.some.injEq] at hoi
  subst hoi
  refine ⟨.inl ⟨by rfl, fun w hSw => ?_⟩, ?_⟩
  · skip
    have z := hSw.at (j := 3) rfl
    first | (go_simp; done) | (go_simp; omega) | (go_simp; with_reducible rfl) | (go_simp; kernel_rfl)
  simp only [Act.put, List.setIfInBounds_toArray, List.set_cons_zero, List.set_cons_succ]
  refine wpAnyH_ready (rs := [3]) (by kernel_rfl) (by simp) (AllReadyH.cons rfl (fun K hK => ?_) AllReadyH.nil)
  go_simp
  go_wp2_with fail
  refine (HC1.out _ hH.2.2).mono ?_
  rintro e w_1 ⟨rfl, hb_1⟩
  refine hK.out _ _ (hH.keep hb_1) (fun hH1 => ?_)
  try simp only [Act.put, List.setIfInBounds_toArray, List.set_cons_zero, List.set_cons_succ]
  clear hK K
  refine take_lit (i := 4) (v := (.string (⟨#[40]⟩ ++ T1))) (by kernel_rfl) (by kernel_rfl) (by kernel_rfl) (by kernel_rfl) (fun _ _ _ _ h => h) hH1 (fun oi hoi => ?_)
  simp only [List.getElem?_toArray, List.getElem?_cons_succ, List.getElem?_cons_zero, Option.some.injEq] at hoi
  subst hoi
  refine ⟨.inl ⟨by rfl, fun w hSw => ?_⟩, ?_⟩
  · skip
    have hz : ¬ 9223372036854775807 < (⟨#[40]⟩ : ByteArray).size + (T1 : ByteArray).size := by (try simp only [ByteArray.size_append]); have q0 : (⟨#[40]⟩ : ByteArray).size = 1 := rfl; omega
    first | (go_simp; done) | (go_simp; omega) | (go_simp; with_reducible rfl) | (go_simp; kernel_rfl)
  simp only [Act.put, List.setIfInBounds_toArray, List.set_cons_zero, List.set_cons_succ]
  refine take_lit (i := 5) (v := (.string ((⟨#[40]⟩ ++ T1) ++ ⟨#[43]⟩))) (by kernel_rfl) (by kernel_rfl) (by kernel_rfl) (by kernel_rfl) (fun _ _ _ _ h => h) hH1 (fun oi hoi => ?_)
  simp only [List.getElem?_toArray, List.getElem?_cons_succ, List.getElem?_cons_zero, Option.some.injEq] at hoi
  subst hoi
  refine ⟨.inl ⟨by rfl, fun w hSw => ?_⟩, ?_⟩
  · skip
    have hz : ¬ 9223372036854775807 < (⟨#[40]⟩ ++ T1 : ByteArray).size + (⟨#[43]⟩ : ByteArray).size := by (try simp only [ByteArray.size_append]); have q0 : (⟨#[40]⟩ : ByteArray).size = 1 := rfl; have q1 : (⟨#[43]⟩ : ByteArray).size = 1 := rfl; omega
    first | (go_simp; done) | (go_simp; omega) | (go_simp; with_reducible rfl) | (go_simp; kernel_rfl)
  simp only [Act.put, List.setIfInBounds_toArray, List.set_cons_zero, List.set_cons_succ]
  refine wpAnyH_ready (rs := [8]) (by kernel_rfl) (by simp) (AllReadyH.cons rfl (fun K hK => ?_) AllReadyH.nil)
  go_simp
  go_wp2_with fail
  refine (HC2.out _ hH1.2.2).mono ?_
  rintro e w_2 ⟨rfl, hb_2⟩
  refine hK.out _ _ (hH1.keep hb_2) (fun hH2 => ?_)
  try simp only [Act.put, List.setIfInBounds_toArray, List.set_cons_zero, List.set_cons_succ]
  clear hK K
  refine take_lit (i := 9) (v := (.string (((⟨#[40]⟩ ++ T1) ++ ⟨#[43]⟩) ++ T2))) (by kernel_rfl) (by kernel_rfl) (by kernel_rfl) (by kernel_rfl) (fun _ _ _ _ h => h) hH2 (fun oi hoi => ?_)
  simp only [List.getElem?_toArray, List.getElem?_cons_succ, List.getElem?_cons_zero, Option.some.injEq] at hoi
  subst hoi
  refine ⟨.inl ⟨by rfl, fun w hSw => ?_⟩, ?_⟩
  · skip
    have hz : ¬ 9223372036854775807 < ((⟨#[40]⟩ ++ T1) ++ ⟨#[43]⟩ : ByteArray).size + (T2 : ByteArray).size := by (try simp only [ByteArray.size_append]); have q0 : (⟨#[40]⟩ : ByteArray).size = 1 := rfl; have q1 : (⟨#[43]⟩ : ByteArray).size = 1 := rfl; omega
    first | (go_simp; done) | (go_simp; omega) | (go_simp; with_reducible rfl) | (go_simp; kernel_rfl)
  simp only [Act.put, List.setIfInBounds_toArray, List.set_cons_zero, List.set_cons_succ]
  refine take_lit (i := 10) (v := (.string ((((⟨#[40]⟩ ++ T1) ++ ⟨#[43]⟩) ++ T2) ++ ⟨#[41, 120]⟩))) (by kernel_rfl) (by kernel_rfl) (by kernel_rfl) (by kernel_rfl) (fun _ _ _ _ h => h) hH2 (fun oi hoi => ?_)
  simp only [List.getElem?_toArray, List.getElem?_cons_succ, List.getElem?_cons_zero, Option.some.injEq] at hoi
  subst hoi
  refine ⟨.inl ⟨by rfl, fun w hSw => ?_⟩, ?_⟩
  · skip
    have hz : ¬ 9223372036854775807 < (((⟨#[40]⟩ ++ T1) ++ ⟨#[43]⟩) ++ T2 : ByteArray).size + (⟨#[41, 120]⟩ : ByteArray).size := by (try simp only [ByteArray.size_append]); have q0 : (⟨#[40]⟩ : ByteArray).size = 1 := rfl; have q1 : (⟨#[41, 120]⟩ : ByteArray).size = 2 := rfl; have q2 : (⟨#[43]⟩ : ByteArray).size = 1 := rfl; omega
    first | (go_simp; done) | (go_simp; omega) | (go_simp; with_reducible rfl) | (go_simp; kernel_rfl)
  simp only [Act.put, List.setIfInBounds_toArray, List.set_cons_zero, List.set_cons_succ]
  refine wpAnyH_ready (rs := [13]) (by kernel_rfl) (by simp) (AllReadyH.cons rfl (fun K hK => ?_) AllReadyH.nil)
  go_simp
  go_wp2_with fail
  refine (HC3.out _ hH2.2.2).mono ?_
  rintro e w_3 ⟨rfl, hb_3⟩
  refine hK.out _ _ (hH2.keep hb_3) (fun hH3 => ?_)
  try simp only [Act.put, List.setIfInBounds_toArray, List.set_cons_zero, List.set_cons_succ]
  clear hK K
  refine take_lit (i := 14) (v := (.string (((((⟨#[40]⟩ ++ T1) ++ ⟨#[43]⟩) ++ T2) ++ ⟨#[41, 120]⟩) ++ T3))) (by kernel_rfl) (by kernel_rfl) (by kernel_rfl) (by kernel_rfl) (fun _ _ _ _ h => h) hH3 (fun oi hoi => ?_)
  simp only [List.getElem?_toArray, List.getElem?_cons_succ, List.getElem?_cons_zero, Option.some.injEq] at hoi
  subst hoi
  refine ⟨.inl ⟨by rfl, fun w hSw => ?_⟩, ?_⟩
  · skip
    have hz : ¬ 9223372036854775807 < ((((⟨#[40]⟩ ++ T1) ++ ⟨#[43]⟩) ++ T2) ++ ⟨#[41, 120]⟩ : ByteArray).size + (T3 : ByteArray).size := by (try simp only [ByteArray.size_append]); have q0 : (⟨#[40]⟩ : ByteArray).size = 1 := rfl; have q1 : (⟨#[41, 120]⟩ : ByteArray).size = 2 := rfl; have q2 : (⟨#[43]⟩ : ByteArray).size = 1 := rfl; omega
    first | (go_simp; done) | (go_simp; omega) | (go_simp; with_reducible rfl) | (go_simp; kernel_rfl)
  simp only [Act.put, List.setIfInBounds_toArray, List.set_cons_zero, List.set_cons_succ]
  refine take_lit (i := 15) (v := (.string (⟨#[118, 98, 111, 120]⟩ ++ (((((⟨#[40]⟩ ++ T1) ++ ⟨#[43]⟩) ++ T2) ++ ⟨#[41, 120]⟩) ++ T3)))) (by kernel_rfl) (by kernel_rfl) (by kernel_rfl) (by kernel_rfl) (fun _ _ _ _ h => h) hH3 (fun oi hoi => ?_)
  simp only [List.getElem?_toArray, List.getElem?_cons_succ, List.getElem?_cons_zero, Option.some.injEq] at hoi
  subst hoi
  refine ⟨.inl ⟨by rfl, fun w hSw => ?_⟩, ?_⟩
  · skip
    have hz : ¬ 9223372036854775807 < (⟨#[118, 98, 111, 120]⟩ : ByteArray).size + (((((⟨#[40]⟩ ++ T1) ++ ⟨#[43]⟩) ++ T2) ++ ⟨#[41, 120]⟩) ++ T3 : ByteArray).size := by (try simp only [ByteArray.size_append]); have q0 : (⟨#[118, 98, 111, 120]⟩ : ByteArray).size = 4 := rfl; have q1 : (⟨#[40]⟩ : ByteArray).size = 1 := rfl; have q2 : (⟨#[41, 120]⟩ : ByteArray).size = 2 := rfl; have q3 : (⟨#[43]⟩ : ByteArray).size = 1 := rfl; omega
    first | (go_simp; done) | (go_simp; omega) | (go_simp; with_reducible rfl) | (go_simp; kernel_rfl)
  simp only [Act.put, List.setIfInBounds_toArray, List.set_cons_zero, List.set_cons_succ]
  refine take_lit (i := 16) (v := (.string (⟨#[118, 98, 111, 120]⟩ ++ (((((⟨#[40]⟩ ++ T1) ++ ⟨#[43]⟩) ++ T2) ++ ⟨#[41, 120]⟩) ++ T3)))) (by kernel_rfl) (by kernel_rfl) (by kernel_rfl) (by kernel_rfl) (fun _ _ _ _ h => h) hH3 (fun oi hoi => ?_)
  simp only [List.getElem?_toArray, List.getElem?_cons_succ, List.getElem?_cons_zero, Option.some.injEq] at hoi
  subst hoi
  refine ⟨.inl ⟨by rfl, fun w hSw => ?_⟩, ?_⟩
  · skip
    first | (go_simp; done) | (go_simp; omega) | (go_simp; with_reducible rfl) | (go_simp; kernel_rfl)
  simp only [Act.put, List.setIfInBounds_toArray, List.set_cons_zero, List.set_cons_succ]
  refine wpAnyH_done (by kernel_rfl) ?_ _
  clear k0
  by_cases hs : x.sign = 0
  · have e1 : (x.sign != 0) = false := by simp [hs]
    have HS := Lib.hid hs
    clear hs
    have k12 := hH3.at (j := 12) rfl
    by_cases hsh : x.shift = 0
    · have e2 : (x.shift != 0) = false := by simp [hsh]
      have HQ := Lib.hid hsh
      clear hsh
      have k6 := hH3.at (j := 6) rfl
      have HH := Lib.hid hH3
      clear hH3
      go_wp2_with fail
      go_ret
      exact ⟨ret_t (HR00.out HS.out HQ.out), HH.out.2.2⟩
    · have e2 : (x.shift != 0) = true := by simp [hsh]
      have HQ := Lib.hid hsh
      clear hsh
      have k6 := hH3.at (j := 6) rfl
      have HH := Lib.hid hH3
      clear hH3
      have hz9 : ¬ 9223372036854775807 < (⟨#[44, 32, 115, 104, 105, 102, 116, 101, 100, 32]⟩ : ByteArray).size + T6.size := by show ¬ 9223372036854775807 < 10 + _; omega
      have hz10 : ¬ 9223372036854775807 < (⟨#[118, 98, 111, 120]⟩ ++ (((((⟨#[40]⟩ ++ T1) ++ ⟨#[43]⟩) ++ T2) ++ ⟨#[41, 120]⟩) ++ T3) : ByteArray).size + ((⟨#[44, 32, 115, 104, 105, 102, 116, 101, 100, 32]⟩ : ByteArray) ++ T6).size := by (simp only [ByteArray.size_append]); have q0 : (⟨#[118, 98, 111, 120]⟩ : ByteArray).size = 4 := rfl; have q1 : (⟨#[40]⟩ : ByteArray).size = 1 := rfl; have q2 : (⟨#[41, 120]⟩ : ByteArray).size = 2 := rfl; have q3 : (⟨#[43]⟩ : ByteArray).size = 1 := rfl; have q9 : (⟨#[44, 32, 115, 104, 105, 102, 116, 101, 100, 32]⟩ : ByteArray).size = 10 := rfl; omega
      generalize hT9 : ⟨#[118, 98, 111, 120]⟩ ++ (((((⟨#[40]⟩ ++ T1) ++ ⟨#[43]⟩) ++ T2) ++ ⟨#[41, 120]⟩) ++ T3) = T9 at hz10 ⊢
      go_wp2_with fail
      refine (HC6.out _ HH.out.2.2).mono ?_
      rintro e w9 ⟨rfl, hb9⟩
      have HH9 := Lib.hid (HH.out.keep hb9)
      clear hb9
      go_wp2_with fail
      go_ret
      subst hT9
      exact ⟨ret_t (HR01.out HS.out HQ.out), HH9.out.2.2⟩
  · have e1 : (x.sign != 0) = true := by simp [hs]
    have HC4 := Lib.hid (HC4.out hs)
    have HC5 := Lib.hid (HC5.out hs)
    have HSG1 := Lib.hid (HSG1.out hs)
    have HOG := Lib.hid (HOG.out hs)
    have hz4 := HZ4.out hs
    have hz5 := HZ5.out hs
    have HS := Lib.hid hs
    clear hs
    have k12 := hH3.at (j := 12) rfl
    have k13 := hH3.at (j := 13) rfl
    go_upto_region 9 with (first
      | (refine wpList_ex (o := ⟨some 40, _, _, _, _, _⟩) (v := .string T7) (w' := w_3) rfl (ex_index rfl (HSG1.out _)) ?_)
      | (refine wpList_ex (o := ⟨some 44, _, _, _, _, _⟩) (v := .string T8) (w' := w_3) rfl (ex_index rfl (HOG.out _)) ?_))
    clear k12 k13
    have hI := hH3
    clear hH hH1 hH2 hH3
    refine wp_region_held_drew (S := Hd w w.heap.size x) (by kernel_rfl) (hI.drew) (fun hH => ?_)
    refine take_lit (i := 0) (v := (.string (⟨#[118, 98, 111, 120]⟩ ++ (((((⟨#[40]⟩ ++ T1) ++ ⟨#[43]⟩) ++ T2) ++ ⟨#[41, 120]⟩) ++ T3)))) (by kernel_rfl) (by kernel_rfl) (by kernel_rfl) (by kernel_rfl) (fun _ _ _ _ h => h) hH (fun oi hoi => ?_)
    simp only [List.getElem?_toArray, List.getElem?_cons_succ, List.getElem?_cons_zero, Option.some.injEq] at hoi
    subst hoi
    refine ⟨.inl ⟨by rfl, fun w hSw => ?_⟩, ?_⟩
    · skip
      first | (go_simp; done) | (go_simp; omega) | (go_simp; with_reducible rfl) | (go_simp; kernel_rfl)
    simp only [Act.put, List.setIfInBounds_toArray, List.set_cons_zero, List.set_cons_succ]
    refine take_lit (i := 1) (v := (.string (T7))) (by kernel_rfl) (by kernel_rfl) (by kernel_rfl) (by kernel_rfl) (fun _ _ _ _ h => h) hH (fun oi hoi => ?_)
    simp only [List.getElem?_toArray, List.getElem?_cons_succ, List.getElem?_cons_zero, Option.some.injEq] at hoi
    subst hoi
    refine ⟨.inl ⟨by rfl, fun w hSw => ?_⟩, ?_⟩
    · skip
      first | (go_simp; done) | (go_simp; omega) | (go_simp; with_reducible rfl) | (go_simp; kernel_rfl)
    simp only [Act.put, List.setIfInBounds_toArray, List.set_cons_zero, List.set_cons_succ]
    refine take_lit (i := 2) (v := (.string (⟨#[44, 32, 103, 108, 117, 101, 32, 115, 101, 116, 32]⟩ ++ T7))) (by kernel_rfl) (by kernel_rfl) (by kernel_rfl) (by kernel_rfl) (fun _ _ _ _ h => h) hH (fun oi hoi => ?_)
    simp only [List.getElem?_toArray, List.getElem?_cons_succ, List.getElem?_cons_zero, Option.some.injEq] at hoi
    subst hoi
    refine ⟨.inl ⟨by rfl, fun w hSw => ?_⟩, ?_⟩
    · skip
      have hz : ¬ 9223372036854775807 < (⟨#[44, 32, 103, 108, 117, 101, 32, 115, 101, 116, 32]⟩ : ByteArray).size + (T7 : ByteArray).size := by (try simp only [ByteArray.size_append]); have q0 : (⟨#[44, 32, 103, 108, 117, 101, 32, 115, 101, 116, 32]⟩ : ByteArray).size = 11 := rfl; omega
      first | (go_simp; done) | (go_simp; omega) | (go_simp; with_reducible rfl) | (go_simp; kernel_rfl)
    simp only [Act.put, List.setIfInBounds_toArray, List.set_cons_zero, List.set_cons_succ]
    refine take_lit (i := 3) (v := (.string ((⟨#[44, 32, 103, 108, 117, 101, 32, 115, 101, 116, 32]⟩ ++ T7) ++ ⟨#[32]⟩))) (by kernel_rfl) (by kernel_rfl) (by kernel_rfl) (by kernel_rfl) (fun _ _ _ _ h => h) hH (fun oi hoi => ?_)
    simp only [List.getElem?_toArray, List.getElem?_cons_succ, List.getElem?_cons_zero, Option.some.injEq] at hoi
    subst hoi
    refine ⟨.inl ⟨by rfl, fun w hSw => ?_⟩, ?_⟩
    · skip
      have hz : ¬ 9223372036854775807 < (⟨#[44, 32, 103, 108, 117, 101, 32, 115, 101, 116, 32]⟩ ++ T7 : ByteArray).size + (⟨#[32]⟩ : ByteArray).size := by (try simp only [ByteArray.size_append]); have q0 : (⟨#[32]⟩ : ByteArray).size = 1 := rfl; have q1 : (⟨#[44, 32, 103, 108, 117, 101, 32, 115, 101, 116, 32]⟩ : ByteArray).size = 11 := rfl; omega
      first | (go_simp; done) | (go_simp; omega) | (go_simp; with_reducible rfl) | (go_simp; kernel_rfl)
    simp only [Act.put, List.setIfInBounds_toArray, List.set_cons_zero, List.set_cons_succ]
    refine take_lit (i := 4) (v := (.pointer (some ⟨w.heap.size, 14, none⟩))) (by kernel_rfl) (by kernel_rfl) (by kernel_rfl) (by kernel_rfl) (fun _ _ _ _ h => h) hH (fun oi hoi => ?_)
    simp only [List.getElem?_toArray, List.getElem?_cons_succ, List.getElem?_cons_zero, Option.some.injEq] at hoi
    subst hoi
    refine ⟨.inl ⟨by rfl, fun w hSw => ?_⟩, ?_⟩
    · skip
      first | (go_simp; done) | (go_simp; omega) | (go_simp; with_reducible rfl) | (go_simp; kernel_rfl)
    simp only [Act.put, List.setIfInBounds_toArray, List.set_cons_zero, List.set_cons_succ]
    refine take_lit (i := 5) (v := (.int .i64 (x.num))) (by kernel_rfl) (by kernel_rfl) (by kernel_rfl) (by kernel_rfl) (fun _ _ _ _ h => h) hH (fun oi hoi => ?_)
    simp only [List.getElem?_toArray, List.getElem?_cons_succ, List.getElem?_cons_zero, Option.some.injEq] at hoi
    subst hoi
    refine ⟨.inl ⟨by rfl, fun w hSw => ?_⟩, ?_⟩
    · skip
      have z := hSw.at (j := 14) rfl
      first | (go_simp; done) | (go_simp; omega) | (go_simp; with_reducible rfl) | (go_simp; kernel_rfl)
    simp only [Act.put, List.setIfInBounds_toArray, List.set_cons_zero, List.set_cons_succ]
    refine take_lit (i := 9) (v := (.pointer (some ⟨w.heap.size, 15, none⟩))) (by kernel_rfl) (by kernel_rfl) (by kernel_rfl) (by kernel_rfl) (fun _ _ _ _ h => h) hH (fun oi hoi => ?_)
    simp only [List.getElem?_toArray, List.getElem?_cons_succ, List.getElem?_cons_zero, Option.some.injEq] at hoi
    subst hoi
    refine ⟨.inl ⟨by rfl, fun w hSw => ?_⟩, ?_⟩
    · skip
      first | (go_simp; done) | (go_simp; omega) | (go_simp; with_reducible rfl) | (go_simp; kernel_rfl)
    simp only [Act.put, List.setIfInBounds_toArray, List.set_cons_zero, List.set_cons_succ]
    refine take_lit (i := 10) (v := (.int .i64 (x.den))) (by kernel_rfl) (by kernel_rfl) (by kernel_rfl) (by kernel_rfl) (fun _ _ _ _ h => h) hH (fun oi hoi => ?_)
    simp only [List.getElem?_toArray, List.getElem?_cons_succ, List.getElem?_cons_zero, Option.some.injEq] at hoi
    subst hoi
    refine ⟨.inl ⟨by rfl, fun w hSw => ?_⟩, ?_⟩
    · skip
      have z := hSw.at (j := 15) rfl
      first | (go_simp; done) | (go_simp; omega) | (go_simp; with_reducible rfl) | (go_simp; kernel_rfl)
    simp only [Act.put, List.setIfInBounds_toArray, List.set_cons_zero, List.set_cons_succ]
    refine take_lit (i := 13) (v := (.string (T8))) (by kernel_rfl) (by kernel_rfl) (by kernel_rfl) (by kernel_rfl) (fun _ _ _ _ h => h) hH (fun oi hoi => ?_)
    simp only [List.getElem?_toArray, List.getElem?_cons_succ, List.getElem?_cons_zero, Option.some.injEq] at hoi
    subst hoi
    refine ⟨.inl ⟨by rfl, fun w hSw => ?_⟩, ?_⟩
    · skip
      first | (go_simp; done) | (go_simp; omega) | (go_simp; with_reducible rfl) | (go_simp; kernel_rfl)
    simp only [Act.put, List.setIfInBounds_toArray, List.set_cons_zero, List.set_cons_succ]
    refine wpAnyH_ready (rs := [6]) (by kernel_rfl) (by simp) (AllReadyH.cons rfl (fun K hK => ?_) AllReadyH.nil)
    go_simp
    go_wp2_with fail
    refine (HC4.out _ hH.2.2).mono ?_
    rintro e w_1 ⟨rfl, hb_1⟩
    refine hK.out _ _ (hH.keep hb_1) (fun hH1 => ?_)
    try simp only [Act.put, List.setIfInBounds_toArray, List.set_cons_zero, List.set_cons_succ]
    clear hK K
    refine take_lit (i := 7) (v := (.string (((⟨#[44, 32, 103, 108, 117, 101, 32, 115, 101, 116, 32]⟩ ++ T7) ++ ⟨#[32]⟩) ++ T4))) (by kernel_rfl) (by kernel_rfl) (by kernel_rfl) (by kernel_rfl) (fun _ _ _ _ h => h) hH1 (fun oi hoi => ?_)
    simp only [List.getElem?_toArray, List.getElem?_cons_succ, List.getElem?_cons_zero, Option.some.injEq] at hoi
    subst hoi
    refine ⟨.inl ⟨by rfl, fun w hSw => ?_⟩, ?_⟩
    · skip
      have hz : ¬ 9223372036854775807 < ((⟨#[44, 32, 103, 108, 117, 101, 32, 115, 101, 116, 32]⟩ ++ T7) ++ ⟨#[32]⟩ : ByteArray).size + (T4 : ByteArray).size := by (try simp only [ByteArray.size_append]); have q0 : (⟨#[32]⟩ : ByteArray).size = 1 := rfl; have q1 : (⟨#[44, 32, 103, 108, 117, 101, 32, 115, 101, 116, 32]⟩ : ByteArray).size = 11 := rfl; omega
      first | (go_simp; done) | (go_simp; omega) | (go_simp; with_reducible rfl) | (go_simp; kernel_rfl)
    simp only [Act.put, List.setIfInBounds_toArray, List.set_cons_zero, List.set_cons_succ]
    refine take_lit (i := 8) (v := (.string ((((⟨#[44, 32, 103, 108, 117, 101, 32, 115, 101, 116, 32]⟩ ++ T7) ++ ⟨#[32]⟩) ++ T4) ++ ⟨#[47]⟩))) (by kernel_rfl) (by kernel_rfl) (by kernel_rfl) (by kernel_rfl) (fun _ _ _ _ h => h) hH1 (fun oi hoi => ?_)
    simp only [List.getElem?_toArray, List.getElem?_cons_succ, List.getElem?_cons_zero, Option.some.injEq] at hoi
    subst hoi
    refine ⟨.inl ⟨by rfl, fun w hSw => ?_⟩, ?_⟩
    · skip
      have hz : ¬ 9223372036854775807 < (((⟨#[44, 32, 103, 108, 117, 101, 32, 115, 101, 116, 32]⟩ ++ T7) ++ ⟨#[32]⟩) ++ T4 : ByteArray).size + (⟨#[47]⟩ : ByteArray).size := by (try simp only [ByteArray.size_append]); have q0 : (⟨#[32]⟩ : ByteArray).size = 1 := rfl; have q1 : (⟨#[44, 32, 103, 108, 117, 101, 32, 115, 101, 116, 32]⟩ : ByteArray).size = 11 := rfl; have q2 : (⟨#[47]⟩ : ByteArray).size = 1 := rfl; omega
      first | (go_simp; done) | (go_simp; omega) | (go_simp; with_reducible rfl) | (go_simp; kernel_rfl)
    simp only [Act.put, List.setIfInBounds_toArray, List.set_cons_zero, List.set_cons_succ]
    refine wpAnyH_ready (rs := [11]) (by kernel_rfl) (by simp) (AllReadyH.cons rfl (fun K hK => ?_) AllReadyH.nil)
    go_simp
    go_wp2_with fail
    refine (HC5.out _ hH1.2.2).mono ?_
    rintro e w_2 ⟨rfl, hb_2⟩
    refine hK.out _ _ (hH1.keep hb_2) (fun hH2 => ?_)
    try simp only [Act.put, List.setIfInBounds_toArray, List.set_cons_zero, List.set_cons_succ]
    clear hK K
    refine take_lit (i := 12) (v := (.string (((((⟨#[44, 32, 103, 108, 117, 101, 32, 115, 101, 116, 32]⟩ ++ T7) ++ ⟨#[32]⟩) ++ T4) ++ ⟨#[47]⟩) ++ T5))) (by kernel_rfl) (by kernel_rfl) (by kernel_rfl) (by kernel_rfl) (fun _ _ _ _ h => h) hH2 (fun oi hoi => ?_)
    simp only [List.getElem?_toArray, List.getElem?_cons_succ, List.getElem?_cons_zero, Option.some.injEq] at hoi
    subst hoi
    refine ⟨.inl ⟨by rfl, fun w hSw => ?_⟩, ?_⟩
    · skip
      have hz : ¬ 9223372036854775807 < ((((⟨#[44, 32, 103, 108, 117, 101, 32, 115, 101, 116, 32]⟩ ++ T7) ++ ⟨#[32]⟩) ++ T4) ++ ⟨#[47]⟩ : ByteArray).size + (T5 : ByteArray).size := by (try simp only [ByteArray.size_append]); have q0 : (⟨#[32]⟩ : ByteArray).size = 1 := rfl; have q1 : (⟨#[44, 32, 103, 108, 117, 101, 32, 115, 101, 116, 32]⟩ : ByteArray).size = 11 := rfl; have q2 : (⟨#[47]⟩ : ByteArray).size = 1 := rfl; omega
      first | (go_simp; done) | (go_simp; omega) | (go_simp; with_reducible rfl) | (go_simp; kernel_rfl)
    simp only [Act.put, List.setIfInBounds_toArray, List.set_cons_zero, List.set_cons_succ]
    refine take_lit (i := 14) (v := (.string ((((((⟨#[44, 32, 103, 108, 117, 101, 32, 115, 101, 116, 32]⟩ ++ T7) ++ ⟨#[32]⟩) ++ T4) ++ ⟨#[47]⟩) ++ T5) ++ T8))) (by kernel_rfl) (by kernel_rfl) (by kernel_rfl) (by kernel_rfl) (fun _ _ _ _ h => h) hH2 (fun oi hoi => ?_)
    simp only [List.getElem?_toArray, List.getElem?_cons_succ, List.getElem?_cons_zero, Option.some.injEq] at hoi
    subst hoi
    refine ⟨.inl ⟨by rfl, fun w hSw => ?_⟩, ?_⟩
    · skip
      have hz : ¬ 9223372036854775807 < (((((⟨#[44, 32, 103, 108, 117, 101, 32, 115, 101, 116, 32]⟩ ++ T7) ++ ⟨#[32]⟩) ++ T4) ++ ⟨#[47]⟩) ++ T5 : ByteArray).size + (T8 : ByteArray).size := by (try simp only [ByteArray.size_append]); have q0 : (⟨#[32]⟩ : ByteArray).size = 1 := rfl; have q1 : (⟨#[44, 32, 103, 108, 117, 101, 32, 115, 101, 116, 32]⟩ : ByteArray).size = 11 := rfl; have q2 : (⟨#[47]⟩ : ByteArray).size = 1 := rfl; omega
      first | (go_simp; done) | (go_simp; omega) | (go_simp; with_reducible rfl) | (go_simp; kernel_rfl)
    simp only [Act.put, List.setIfInBounds_toArray, List.set_cons_zero, List.set_cons_succ]
    refine take_lit (i := 15) (v := (.string ((⟨#[118, 98, 111, 120]⟩ ++ (((((⟨#[40]⟩ ++ T1) ++ ⟨#[43]⟩) ++ T2) ++ ⟨#[41, 120]⟩) ++ T3)) ++ ((((((⟨#[44, 32, 103, 108, 117, 101, 32, 115, 101, 116, 32]⟩ ++ T7) ++ ⟨#[32]⟩) ++ T4) ++ ⟨#[47]⟩) ++ T5) ++ T8)))) (by kernel_rfl) (by kernel_rfl) (by kernel_rfl) (by kernel_rfl) (fun _ _ _ _ h => h) hH2 (fun oi hoi => ?_)
    simp only [List.getElem?_toArray, List.getElem?_cons_succ, List.getElem?_cons_zero, Option.some.injEq] at hoi
    subst hoi
    refine ⟨.inl ⟨by rfl, fun w hSw => ?_⟩, ?_⟩
    · skip
      have hz : ¬ 9223372036854775807 < (⟨#[118, 98, 111, 120]⟩ ++ (((((⟨#[40]⟩ ++ T1) ++ ⟨#[43]⟩) ++ T2) ++ ⟨#[41, 120]⟩) ++ T3) : ByteArray).size + ((((((⟨#[44, 32, 103, 108, 117, 101, 32, 115, 101, 116, 32]⟩ ++ T7) ++ ⟨#[32]⟩) ++ T4) ++ ⟨#[47]⟩) ++ T5) ++ T8 : ByteArray).size := by (try simp only [ByteArray.size_append]); have q0 : (⟨#[118, 98, 111, 120]⟩ : ByteArray).size = 4 := rfl; have q1 : (⟨#[32]⟩ : ByteArray).size = 1 := rfl; have q2 : (⟨#[40]⟩ : ByteArray).size = 1 := rfl; have q3 : (⟨#[41, 120]⟩ : ByteArray).size = 2 := rfl; have q4 : (⟨#[43]⟩ : ByteArray).size = 1 := rfl; have q5 : (⟨#[44, 32, 103, 108, 117, 101, 32, 115, 101, 116, 32]⟩ : ByteArray).size = 11 := rfl; have q6 : (⟨#[47]⟩ : ByteArray).size = 1 := rfl; omega
      first | (go_simp; done) | (go_simp; omega) | (go_simp; with_reducible rfl) | (go_simp; kernel_rfl)
    simp only [Act.put, List.setIfInBounds_toArray, List.set_cons_zero, List.set_cons_succ]
    refine take_lit (i := 16) (v := (.string ((⟨#[118, 98, 111, 120]⟩ ++ (((((⟨#[40]⟩ ++ T1) ++ ⟨#[43]⟩) ++ T2) ++ ⟨#[41, 120]⟩) ++ T3)) ++ ((((((⟨#[44, 32, 103, 108, 117, 101, 32, 115, 101, 116, 32]⟩ ++ T7) ++ ⟨#[32]⟩) ++ T4) ++ ⟨#[47]⟩) ++ T5) ++ T8)))) (by kernel_rfl) (by kernel_rfl) (by kernel_rfl) (by kernel_rfl) (fun _ _ _ _ h => h) hH2 (fun oi hoi => ?_)
    simp only [List.getElem?_toArray, List.getElem?_cons_succ, List.getElem?_cons_zero, Option.some.injEq] at hoi
    subst hoi
    refine ⟨.inl ⟨by rfl, fun w hSw => ?_⟩, ?_⟩
    · skip
      first | (go_simp; done) | (go_simp; omega) | (go_simp; with_reducible rfl) | (go_simp; kernel_rfl)
    simp only [Act.put, List.setIfInBounds_toArray, List.set_cons_zero, List.set_cons_succ]
    refine wpAnyH_done (by kernel_rfl) ?_ _
    by_cases hsh : x.shift = 0
    · have e2 : (x.shift != 0) = false := by simp [hsh]
      have HQ := Lib.hid hsh
      clear hsh
      have k6 := hH2.at (j := 6) rfl
      have HH := Lib.hid hH2
      clear hH2
      go_wp2_with fail
      go_ret
      exact ⟨ret_t (HR10.out HS.out HQ.out), HH.out.2.2⟩
    · have e2 : (x.shift != 0) = true := by simp [hsh]
      have HQ := Lib.hid hsh
      clear hsh
      have k6 := hH2.at (j := 6) rfl
      have HH := Lib.hid hH2
      clear hH2
      have hz9 : ¬ 9223372036854775807 < (⟨#[44, 32, 115, 104, 105, 102, 116, 101, 100, 32]⟩ : ByteArray).size + T6.size := by show ¬ 9223372036854775807 < 10 + _; omega
      have hz10 : ¬ 9223372036854775807 < ((⟨#[118, 98, 111, 120]⟩ ++ (((((⟨#[40]⟩ ++ T1) ++ ⟨#[43]⟩) ++ T2) ++ ⟨#[41, 120]⟩) ++ T3)) ++ ((((((⟨#[44, 32, 103, 108, 117, 101, 32, 115, 101, 116, 32]⟩ ++ T7) ++ ⟨#[32]⟩) ++ T4) ++ ⟨#[47]⟩) ++ T5) ++ T8) : ByteArray).size + ((⟨#[44, 32, 115, 104, 105, 102, 116, 101, 100, 32]⟩ : ByteArray) ++ T6).size := by (simp only [ByteArray.size_append]); have q0 : (⟨#[118, 98, 111, 120]⟩ : ByteArray).size = 4 := rfl; have q1 : (⟨#[32]⟩ : ByteArray).size = 1 := rfl; have q2 : (⟨#[40]⟩ : ByteArray).size = 1 := rfl; have q3 : (⟨#[41, 120]⟩ : ByteArray).size = 2 := rfl; have q4 : (⟨#[43]⟩ : ByteArray).size = 1 := rfl; have q5 : (⟨#[44, 32, 103, 108, 117, 101, 32, 115, 101, 116, 32]⟩ : ByteArray).size = 11 := rfl; have q6 : (⟨#[47]⟩ : ByteArray).size = 1 := rfl; have q9 : (⟨#[44, 32, 115, 104, 105, 102, 116, 101, 100, 32]⟩ : ByteArray).size = 10 := rfl; omega
      generalize hT9 : (⟨#[118, 98, 111, 120]⟩ ++ (((((⟨#[40]⟩ ++ T1) ++ ⟨#[43]⟩) ++ T2) ++ ⟨#[41, 120]⟩) ++ T3)) ++ ((((((⟨#[44, 32, 103, 108, 117, 101, 32, 115, 101, 116, 32]⟩ ++ T7) ++ ⟨#[32]⟩) ++ T4) ++ ⟨#[47]⟩) ++ T5) ++ T8) = T9 at hz10 ⊢
      go_wp2_with fail
      refine (HC6.out _ HH.out.2.2).mono ?_
      rintro e w9 ⟨rfl, hb9⟩
      have HH9 := Lib.hid (HH.out.keep hb9)
      clear hb9
      go_wp2_with fail
      go_ret
      subst hT9
      exact ⟨ret_t (HR11.out HS.out HQ.out), HH9.out.2.2⟩
end Go.Proofs.YtmcekdjhkjhcdaaGreatDoor.Sw
end
section
namespace Go.Proofs.YtmcekdjhkjhcdaaGreatDoor.Sw
open Go.RowKit
set_option linter.unusedVariables false
set_option linter.unusedSimpArgs false
/-- A shower in a block of its own; bs: the bytes written. -/
def ShB (B b : Nat) (p : Value) (deep many : Int) (bs : List Value) (w : World) : Prop :=
  B ≤ b ∧ ∃ v, w.heap[b]? = some (.cells #[p, v, .int .i64 deep, .int .i64 many] 45 (0, 0)) ∧ w.ownsRow B 5 1 v bs.length bs ∧ v.ownBlock ≠ some b
def ShI (B b : Nat) (deep many : Int) (bs : List Value) (w : World) : Prop := ShB B b (.pointer none) deep many bs w ∨ ShB B b (.pointer (some ⟨b, 0, none⟩)) deep many bs w
theorem ShI.ex {B b : Nat} {deep many : Int} {bs : List Value} {w : World} (h : ShI B b deep many bs w) : ∃ p, ShB B b p deep many bs w := by
  rcases h with h | h
  · exact ⟨_, h⟩
  · exact ⟨_, h⟩
theorem ShB.lt {B b : Nat} {p : Value} {deep many : Int} {bs : List Value} {w : World} (h : ShB B b p deep many bs w) : b < w.heap.size := by
  obtain ⟨_, v, hb, _⟩ := h
  rcases Nat.lt_or_ge b w.heap.size with h' | h'
  · exact h'
  · simp [Array.getElem?_eq_none h'] at hb
theorem ShB.cell {B b : Nat} {p : Value} {deep many : Int} {bs : List Value} {w : World} (h : ShB B b p deep many bs w) : w.cell? ⟨b, 0, none⟩ = some p ∧ w.cell? ⟨b, 2, none⟩ = some (.int .i64 deep) ∧ w.cell? ⟨b, 3, none⟩ = some (.int .i64 many) := by
  obtain ⟨_, v, hb, _⟩ := h
  exact ⟨by rw [Lib.cell_of_heap hb]; rfl, by rw [Lib.cell_of_heap hb]; rfl, by rw [Lib.cell_of_heap hb]; rfl⟩
theorem ShI.cell {B b : Nat} {deep many : Int} {bs : List Value} {w : World} (h : ShI B b deep many bs w) : w.cell? ⟨b, 2, none⟩ = some (.int .i64 deep) ∧ w.cell? ⟨b, 3, none⟩ = some (.int .i64 many) ∧ b < w.heap.size := by
  obtain ⟨p, h⟩ := h.ex
  exact ⟨h.cell.2.1, h.cell.2.2, h.lt⟩
theorem ShB.drew {B b : Nat} {p : Value} {deep many : Int} {bs : List Value} {w : World} (h : ShB B b p deep many bs w) : ShB B b p deep many bs w.drew := h
/-- What another call that leaves the blocks alone does not touch. -/
theorem ShB.below {B b : Nat} {p : Value} {deep many : Int} {bs : List Value} {w w' : World} (h : ShB B b p deep many bs w) (hb : Below w.heap.size w w') : ShB B b p deep many bs w' := by
  have hlt := h.lt
  obtain ⟨hB, v, hbk, hown, hne⟩ := h
  exact ⟨hB, v, (hb.block b hlt).trans hbk, No.own_below hown hb, hne⟩
theorem ShI.below {B b : Nat} {deep many : Int} {bs : List Value} {w w' : World} (h : ShI B b deep many bs w) (hb : Below w.heap.size w w') : ShI B b deep many bs w' := by
  rcases h with h | h
  · exact .inl (h.below hb)
  · exact .inr (h.below hb)
theorem ShB.used {B b : Nat} {p : Value} {deep many : Int} {bs : List Value} {w : World} (h : ShB B b p deep many bs w) (q : Value) : ShB B b q deep many bs (w.setCell ⟨b, 0, none⟩ q) := by
  obtain ⟨hB, v, hb, hown, hne⟩ := h
  refine ⟨hB, v, ?_, ?_, hne⟩
  · simp [World.setCell, Array.getElem?_modify, hb]
  · refine hown.kept (row := some b) ⟨rfl, rfl, rfl, by simp [World.setCell], fun k _ hk => Below.heap_setCell _ _ _ _ (fun e => hk (by simp [e]))⟩ ?_
    exact Or.inr hne
theorem sh_put {B b : Nat} {p v v' : Value} {deep many : Int} {bs' : List Value} {w : World} (hB : B ≤ b) (hb : w.heap[b]? = some (.cells #[p, v, .int .i64 deep, .int .i64 many] 45 (0, 0))) (hown : w.ownsRow B 5 1 v' bs'.length bs') :
    ShB B b p deep many bs' (w.setCell ⟨b, 1, none⟩ v') := by
  have hne := Lib.ownBlock_ne hown hb (by decide)
  refine ⟨hB, v', ?_, ?_, hne⟩
  · simp [World.setCell, Array.getElem?_modify, hb]
  · exact hown.kept (row := some b) ⟨rfl, rfl, rfl, by simp [World.setCell], fun k _ hk => Below.heap_setCell _ _ _ _ (fun e => hk (by simp [e]))⟩ (Or.inr hne)
theorem own_kind {w : World} {B : Nat} {e : TypeId} {v : Value} {n : Nat} {xs : List Value} (h : w.ownsRow B e 1 v n xs) : ∀ g, v.ownBlock = some g → ∃ c fz, w.heap[g]? = some (.cells c e fz) := by
  intro g hg
  rcases h.2 with ⟨rfl, _⟩ | ⟨g', cap, cur, rfl, _, hgg, _⟩
  · simp [Value.ownBlock] at hg
  · simp [Value.ownBlock] at hg
    subst hg
    exact ⟨cur, (0, 0), hgg⟩
theorem lies4 : liesAt Tryz.prog Tryz.prog.depth 45 (4 / Tryz.prog.cellsOf 45) 0 43 1 = true := by kernel_rfl
set_option maxHeartbeats 1000000 in
set_option maxRecDepth 100000 in
theorem check_fresh (b : Nat) (w : World) (h0 : w.cell? ⟨b, 0, none⟩ = some (.pointer none)) (hsh : w.shape? b = some (45, 4)) (hfz : w.frozen? ⟨b, 0, none⟩ = false) :
    Calls Tryz.prog 74 #[.pointer (some ⟨b, 0, none⟩)] w fun e w' => e = .returned (.tuple #[]) ∧ w' = w.setCell ⟨b, 0, none⟩ (.pointer (some ⟨b, 0, none⟩)) := by
  obtain ⟨j, hj, hjs⟩ := Option.map_eq_some_iff.1 Bu.infoB
  go_enter Tryz.func74, Tryz.ntmps74
  go_wp2
  rw [Lib.run_to_unsafe w ⟨b, 0, none⟩ Tryz.underlying40 Tryz.underlying102 hj (by rw [hjs]; decide) hsh (Nat.zero_lt_succ 3)]
  simp only [Result.andThen]
  rw [Oper.upon_value]
  go_wp2
  try rw [run_callFunc_extern Tryz.func97 (by kernel_rfl) (by kernel_rfl) (by kernel_rfl) (e := Extern.AbiNoEscape.same) (by kernel_rfl)]
  try rw [Lib.run_noEscape]
  try simp only [Result.andThen]
  try rw [Oper.upon_value]
  go_wp2
  rw [Lib.run_from_unsafe w ⟨b, 0, none⟩ Tryz.underlying102 Tryz.underlying40 hj hsh lies4]
  simp only [Result.andThen]
  rw [Oper.upon_value]
  go_wp2
  go_end0
  exact ⟨rfl, rfl⟩
theorem check_sh (B b : Nat) (deep many : Int) (bs : List Value) (w : World) (h : ShI B b deep many bs w) :
    Calls Tryz.prog 74 #[.pointer (some ⟨b, 0, none⟩)] w fun e w' => e = .returned (.tuple #[]) ∧ (ShB B b (.pointer (some ⟨b, 0, none⟩)) deep many bs w' ∧ Below B w w' ∧ Lib.OthersKept 5 (some b) w w') := by
  rcases h with h | h
  · obtain ⟨hB, v, hb, hr⟩ := id h
    refine (check_fresh b w h.cell.1 (by simp [World.shape?, hb]) (Lib.frozen_of_heap hb 0)).mono ?_
    rintro e w' ⟨rfl, rfl⟩
    exact ⟨rfl, h.used _, (Below.refl B w).setCell (p := ⟨b, 0, none⟩) h.1 _, (Lib.OthersKept.refl _ _ w).setCell ⟨b, 0, none⟩ rfl _⟩
  · refine (Bu.check_used b w h.cell.1).mono ?_
    rintro e w' ⟨rfl, rfl⟩
    exact ⟨rfl, h, Below.refl B _, Lib.OthersKept.refl _ _ _⟩
set_option maxHeartbeats 2000000 in
set_option maxRecDepth 100000 in
theorem write_sh (B b : Nat) (deep many : Int) (bs : List Value) (s : ByteArray) (w : World) (h : ShI B b deep many bs w) (hlen : bs.length + s.size ≤ 140737488355328) (hBw : B ≤ w.heap.size) :
    Calls Tryz.prog 26 #[.pointer (some ⟨b, 0, none⟩), .string s] w fun e w' => e = .returned (.tuple #[.int .i64 s.size, .nilIface]) ∧ (ShI B b deep many (bs ++ Lib.strCells s) w' ∧ Below B w w' ∧ Lib.OthersKept 5 (some b) w w') := by
  obtain ⟨i0, hi, hz0, hz1, hz2⟩ := info_parts Bu.infoByte
  go_enter Tryz.func26, Tryz.ntmps26
  go_wp2_with (go_at_call 74; refine (check_sh B b deep many bs _ h).mono ?_)
  rintro e w1 ⟨rfl, h1, hb1, hk1⟩
  obtain ⟨hB, v, hbk, hown, hne⟩ := h1
  have c0 : w1.cell? ⟨b, 0, none⟩ = some (.pointer (some ⟨b, 0, none⟩)) := by rw [Lib.cell_of_heap hbk]; rfl
  have c1 : w1.cell? ⟨b, 1, none⟩ = some v := by rw [Lib.cell_of_heap hbk]; rfl
  go_wp2_with (at_builtin; refine Lib.wpList_append_own_string _ rfl _ _ 41 9 rfl B 5 i0 Tryz.underlying41 Tryz.underlying9 hi hz0 hz1 hz2 _ _ _ rfl hown s rfl ?c3 ?c4 ?c5 ?_)
  case c3 => unfold maxLen; omega
  case c4 => omega
  case c5 => have := hb1.size; omega
  intro v' w2 hown' hgrow _
  have hlt : b < w1.heap.size := by
    rcases Nat.lt_or_ge b w1.heap.size with h' | h'
    · exact h'
    · simp [Array.getElem?_eq_none h'] at hbk
  have hb2 : w2.heap[b]? = some (.cells #[.pointer (some ⟨b, 0, none⟩), v, .int .i64 deep, .int .i64 many] 45 (0, 0)) := by
    rw [hgrow.block b hlt (fun e => hne e.symm)]
    exact hbk
  have d0 : w2.cell? ⟨b, 0, none⟩ = some (.pointer (some ⟨b, 0, none⟩)) := by rw [Lib.cell_of_heap hb2]; rfl
  have d1 : w2.cell? ⟨b, 1, none⟩ = some v := by rw [Lib.cell_of_heap hb2]; rfl
  have f1 : w2.frozen? ⟨b, 1, none⟩ = false := Lib.frozen_of_heap hb2 1
  obtain ⟨ao, n', cap, rfl⟩ : ∃ ao n' cap, v' = .slice ao n' cap := by
    rcases hown'.2 with ⟨hv, _⟩ | ⟨g, cap, cur, hv, _⟩
    · exact ⟨_, _, _, hv⟩
    · exact ⟨_, _, _, hv⟩
  go_wp2
  go_ret2
  refine ⟨rfl, .inr ?_, ?_, ?_⟩
  · exact sh_put hB hb2 (bs' := bs ++ Lib.strCells s) (by simpa [Lib.strCells_length] using hown')
  · exact (hb1.grown hgrow (by have := hb1.size; omega) (fun k hk => (hown.lt k hk).1)).setCell (p := ⟨b, 1, none⟩) hB _
  · exact (hk1.grown hgrow (own_kind hown)).setCell ⟨b, 1, none⟩ rfl _

end Go.Proofs.YtmcekdjhkjhcdaaGreatDoor.Sw
end
section
namespace Go.Proofs.YtmcekdjhkjhcdaaGreatDoor.Sw
open Go.RowKit
set_option linter.unusedVariables false
set_option linter.unusedSimpArgs false
set_option maxHeartbeats 2000000 in
set_option maxRecDepth 100000 in
theorem string_full (B b : Nat) (deep many : Int) (l : List UInt8) (w : World) (h : ShI B b deep many (Lib.byteCells l) w) (h0 : l ≠ []) :
    Calls Tryz.prog 13 #[.pointer (some ⟨b, 0, none⟩)] w fun e w' => e = .returned (.string ⟨l.toArray⟩) ∧ Below B w w' := by
  obtain ⟨p, hB, v, hbk, hown, hne⟩ := h.ex
  have hl0 : l.length ≠ 0 := by simpa using h0
  rw [Lib.byteCells_length] at hown
  obtain ⟨g, cap, cur, rfl, hbg, hg, hnc, hcm, hcs, htake⟩ : ∃ g cap cur, v = .slice (some ⟨g, 0, none⟩) l.length cap ∧ B ≤ g ∧ w.heap[g]? = some (.cells cur 5 (0, 0)) ∧ l.length ≤ cap ∧ cap ≤ maxLen ∧ cur.size = cap * 1 ∧ cur.toList.take (l.length * 1) = Lib.byteCells l := by
    rcases hown.2 with ⟨_, hz⟩ | ⟨g, cap, cur, hv, r⟩
    · exact absurd hz hl0
    · exact ⟨g, cap, cur, hv, r⟩
  have c1 : w.drew.cell? ⟨b, 1, none⟩ = some (.slice (some ⟨g, 0, none⟩) l.length cap) := by
    have : w.drew.heap[b]? = some (.cells #[p, .slice (some ⟨g, 0, none⟩) l.length cap, .int .i64 deep, .int .i64 many] 45 (0, 0)) := hbk
    rw [Lib.cell_of_heap this]; rfl
  have hSD : (Builtin.unsafeSliceData_ #[41] 78 #[.slice (some ⟨g, 0, none⟩) l.length cap]).run Tryz.prog w.drew = .ok (.pointer (some ⟨g, 0, none⟩)) w.drew :=
    Lib.run_unsafeSliceData_row _ _ _ _ _ _ (by omega)
  have hUS : (Builtin.unsafeString_ #[78, 3] 9 #[.pointer (some ⟨g, 0, none⟩), .int .i64 l.length]).run Tryz.prog w.drew = .ok (.string ⟨l.toArray⟩) (w.drew.freeze ⟨g, 0, none⟩ l.length) := by
    refine Lib.run_unsafeString_row w.drew 78 3 9 5 Tryz.underlying78 (by kernel_rfl) g cur.size (by have hg' : w.drew.heap[g]? = some (.cells cur 5 (0, 0)) := hg; simp [World.shape?, hg']) l h0 (by omega) (by unfold maxLen at hcm; omega) ?_
    intro j x hx
    have := hown.cells (g := g) rfl j (.int .u8 x.toNat) (by simp [Lib.byteCells, hx])
    exact this
  go_enter Tryz.func13, Tryz.ntmps13
  go_wp2
  go_region_both
  all_goals (go_wp2; go_ret; exact ⟨rfl, Lib.below_freeze (Below.drew (Below.refl B w)) (p := ⟨g, 0, none⟩) hbg _⟩)
theorem us_none (W : World) (q : Option Addr) : (Builtin.unsafeString_ #[78, 3] 9 #[.pointer q, .int .i64 0]).run Tryz.prog W = .ok (.string .empty) W :=
  Lib.run_unsafeString_none W _ _ _ q
set_option maxHeartbeats 2000000 in
set_option maxRecDepth 100000 in
theorem string_nil (B b : Nat) (deep many : Int) (p : Value) (w : World) (hbk : w.heap[b]? = some (.cells #[p, .slice none 0 0, .int .i64 deep, .int .i64 many] 45 (0, 0))) :
    Calls Tryz.prog 13 #[.pointer (some ⟨b, 0, none⟩)] w fun e w' => e = .returned (.string ⟨#[]⟩) ∧ Below B w w' := by
  have hUS := us_none
  have c1 : w.drew.cell? ⟨b, 1, none⟩ = some (.slice none 0 0) := by
    have : w.drew.heap[b]? = some (.cells #[p, .slice none 0 0, .int .i64 deep, .int .i64 many] 45 (0, 0)) := hbk
    rw [Lib.cell_of_heap this]; rfl
  have hSD : (Builtin.unsafeSliceData_ #[41] 78 #[.slice none 0 0]).run Tryz.prog w.drew = .ok (.pointer none) w.drew := rfl
  go_enter Tryz.func13, Tryz.ntmps13
  go_wp2
  go_region_both
  all_goals (go_wp2; go_ret; exact ⟨rfl, Below.drew (Below.refl B w)⟩)
set_option maxHeartbeats 2000000 in
set_option maxRecDepth 100000 in
theorem string_noroom (B b g : Nat) (deep many : Int) (p : Value) (cur : Array Value) (w : World) (hBw : B ≤ w.heap.size) (hbk : w.heap[b]? = some (.cells #[p, .slice (some ⟨g, 0, none⟩) 0 0, .int .i64 deep, .int .i64 many] 45 (0, 0))) (hg : w.heap[g]? = some (.cells cur 5 (0, 0))) :
    Calls Tryz.prog 13 #[.pointer (some ⟨b, 0, none⟩)] w fun e w' => e = .returned (.string ⟨#[]⟩) ∧ Below B w w' := by
  have hUS := us_none
  have hlt : b < w.heap.size := by
    rcases Nat.lt_or_ge b w.heap.size with h' | h'
    · exact h'
    · simp [Array.getElem?_eq_none h'] at hbk
  have c1 : w.drew.cell? ⟨b, 1, none⟩ = some (.slice (some ⟨g, 0, none⟩) 0 0) := by
    have : w.drew.heap[b]? = some (.cells #[p, .slice (some ⟨g, 0, none⟩) 0 0, .int .i64 deep, .int .i64 many] 45 (0, 0)) := hbk
    rw [Lib.cell_of_heap this]; rfl
  have hSD : (Builtin.unsafeSliceData_ #[41] 78 #[.slice (some ⟨g, 0, none⟩) 0 0]).run Tryz.prog w.drew = .ok (.pointer (some ⟨w.drew.heap.size, 0, none⟩)) (w.drew.alloc (.view ⟨g, 0, none⟩ 5)) :=
    Lib.run_unsafeSliceData_zero w.drew _ _ 5 Tryz.underlying78 ⟨g, 0, none⟩ 0 (5, cur.size) (by have hg' : w.drew.heap[g]? = some (.cells cur 5 (0, 0)) := hg; simp [World.shape?, hg'])
  have c2 : (w.drew.alloc (.view ⟨g, 0, none⟩ 5)).cell? ⟨b, 1, none⟩ = some (.slice (some ⟨g, 0, none⟩) 0 0) := by
    have : (w.drew.alloc (.view ⟨g, 0, none⟩ 5)).heap[b]? = _ := (Lib.alloc_old w.drew _ b hlt).trans hbk
    rw [Lib.cell_of_heap this]; rfl
  have c3 : (w.alloc (.view ⟨g, 0, none⟩ 5)).drew.cell? ⟨b, 1, none⟩ = some (.slice (some ⟨g, 0, none⟩) 0 0) := c2
  have c0 : w.cell? ⟨b, 1, none⟩ = some (.slice (some ⟨g, 0, none⟩) 0 0) := c1
  go_enter Tryz.func13, Tryz.ntmps13
  go_wp2
  go_region_both
  all_goals (go_wp2; go_ret; exact ⟨rfl, (Below.drew (Below.refl B w)).alloc hBw _⟩)
set_option maxHeartbeats 2000000 in
set_option maxRecDepth 100000 in
theorem string_room (B b g cap : Nat) (deep many : Int) (p : Value) (w : World) (hc0 : cap ≠ 0) (hbk : w.heap[b]? = some (.cells #[p, .slice (some ⟨g, 0, none⟩) 0 cap, .int .i64 deep, .int .i64 many] 45 (0, 0))) :
    Calls Tryz.prog 13 #[.pointer (some ⟨b, 0, none⟩)] w fun e w' => e = .returned (.string ⟨#[]⟩) ∧ Below B w w' := by
  have hUS := us_none
  have c1 : w.drew.cell? ⟨b, 1, none⟩ = some (.slice (some ⟨g, 0, none⟩) 0 cap) := by
    have : w.drew.heap[b]? = some (.cells #[p, .slice (some ⟨g, 0, none⟩) 0 cap, .int .i64 deep, .int .i64 many] 45 (0, 0)) := hbk
    rw [Lib.cell_of_heap this]; rfl
  have hSD : (Builtin.unsafeSliceData_ #[41] 78 #[.slice (some ⟨g, 0, none⟩) 0 cap]).run Tryz.prog w.drew = .ok (.pointer (some ⟨g, 0, none⟩)) w.drew :=
    Lib.run_unsafeSliceData_row _ _ _ _ _ _ hc0
  clear hc0
  go_enter Tryz.func13, Tryz.ntmps13
  go_wp2
  go_region_both
  all_goals (go_wp2; go_ret; exact ⟨rfl, Below.drew (Below.refl B w)⟩)
theorem string_sh (B b : Nat) (deep many : Int) (l : List UInt8) (w : World) (h : ShI B b deep many (Lib.byteCells l) w) (hBw : B ≤ w.heap.size) :
    Calls Tryz.prog 13 #[.pointer (some ⟨b, 0, none⟩)] w fun e w' => e = .returned (.string ⟨l.toArray⟩) ∧ Below B w w' := by
  cases l with
  | cons x r => exact string_full B b deep many (x :: r) w h (by simp)
  | nil =>
    obtain ⟨p, hB, v, hbk, hown, hne⟩ := h.ex
    rcases hown.2 with ⟨rfl, _⟩ | ⟨g, cap, cur, rfl, hbg, hg, _, _, _, _⟩
    · exact string_nil B b deep many p w hbk
    · by_cases hc0 : cap = 0
      · subst hc0
        exact string_noroom B b g deep many p cur w hBw hbk hg
      · exact string_room B b g cap deep many p w hc0 hbk
end Go.Proofs.YtmcekdjhkjhcdaaGreatDoor.Sw
end
section
namespace Go.Proofs.YtmcekdjhkjhcdaaGreatDoor.Sw
open Go.ChangeShapes Go.WideShapes Go.ChangeAt Go.RowKit
open Me Np Ss No
set_option linter.unusedVariables false
set_option linter.unusedSimpArgs false
def waysV : Array Value := #[.nilFunc, .func (.func 62) #[] #[], .func (.func 63) #[] #[], .func (.func 64) #[] #[], .func (.func 65) #[] #[], .func (.func 65) #[] #[], .nilFunc, .func (.func 66) #[] #[], .func (.func 67) #[] #[], .func (.func 68) #[] #[], .func (.func 69) #[] #[], .nilFunc, .func (.func 70) #[] #[], .func (.func 71) #[] #[], .func (.func 70) #[] #[], .func (.func 72) #[] #[], .func (.func 72) #[] #[], .func (.func 73) #[] #[]]
theorem ways_info : (Tryz.prog.info? 68).map (·.size) = some 18 := by kernel_rfl
set_option maxHeartbeats 2000000 in
set_option maxRecDepth 100000 in
theorem ways_any (w : World) : Calls Tryz.prog 24 #[] w fun e w' => e = .returned (.agg waysV) ∧ Below w.heap.size w w' := by
  go_enter Tryz.func24, Tryz.ntmps24
  go_wp2_with fail
  refine bodyPost_ret (v := .agg waysV) (results_cell_row rfl _ _ w.heap.size 68 waysV (0, 0) _ rfl ?_ Tryz.underlying68 rfl ways_info) rfl ⟨rfl, andAlloc (Below.refl _ _) _⟩
  exact Blk.new' rfl
/-- A method, as the table holds it. -/
def Way (p : Value) (A : Option Addr) (n c a : Nat) (x : Nd) (T : ByteArray) (w : World) : Prop :=
  ∃ gf, waysV[x.kind.toNat]? = some (.func (.func gf) #[] #[]) ∧ (∀ (xs : Array Value) (w : World), (callFunc gf xs).run Tryz.prog w = .ok (.enter gf xs) w) ∧
    ∀ w', Below w.heap.size w w' → Calls Tryz.prog gf #[p, .slice A n c, .int .i64 (a : Int)] w' fun e w'' => e = .returned (.string T) ∧ Below w'.heap.size w' w''
theorem Way.eq {p : Value} {A : Option Addr} {n c a : Nat} {x : Nd} {T T' : ByteArray} {w : World} (h : Way p A n c a x T w) (e : T' = T) : Way p A n c a x T' w := by rw [e]; exact h
set_option maxRecDepth 100000 in
theorem way_1 (p : Value) (A : Option Addr) (ns : List Nd) (c a m : Nat) (x : Nd) (w : World) (hc : chk ns = 0) (hcap : ns.length ≤ c) (hseg : Seg w w.heap.size A (ns.flatMap ncs)) (hx : ns[a]? = some x) (hm : endc (ns.drop a) 0 = some m) (hci : chk ((ns.drop a).take m) = 0) (ham : a + m ≤ ns.length) (hr : right x = true) (hch : 0 ≤ x.char ∧ x.char < 256) (htab : Tab w) (hk : x.kind = 1) : Way p A ns.length c a x (lineT x (thK ns a m x)) w := by
  have hg : goodK x.kind.toNat x = true := by
    unfold right at hr
    simp only [Bool.and_eq_true] at hr
    exact hr.2.1
  rw [hk] at hg
  have hg : gGlyph x = true := hg
  simp only [gGlyph, winB, Bool.and_eq_true, decide_eq_true_eq] at hg
  refine Way.eq (T := itT x.font ++ spK ++ byT x.char.toNat) ⟨62, by rw [hk]; rfl, fun xs w => by kernel_rfl, fun w' hb => char_m p A ns c a x w' (Seg.belowW hseg hb) hx (htab.below hb) (by omega) (by omega) hch.1 hch.2⟩ ?_
  unfold lineT
  simp [hk]
set_option maxRecDepth 100000 in
theorem way_2 (p : Value) (A : Option Addr) (ns : List Nd) (c a m : Nat) (x : Nd) (w : World) (hc : chk ns = 0) (hcap : ns.length ≤ c) (hseg : Seg w w.heap.size A (ns.flatMap ncs)) (hx : ns[a]? = some x) (hm : endc (ns.drop a) 0 = some m) (hci : chk ((ns.drop a).take m) = 0) (ham : a + m ≤ ns.length) (hr : right x = true) (hch : 0 ≤ x.char ∧ x.char < 256) (htab : Tab w) (hk : x.kind = 2) : Way p A ns.length c a x (lineT x (thK ns a m x)) w := by
  have hg : goodK x.kind.toNat x = true := by
    unfold right at hr
    simp only [Bool.and_eq_true] at hr
    exact hr.2.1
  rw [hk] at hg
  have hg2 : (gGlyph x && winB x.text.size 1 63) = true := hg
  rw [Bool.and_eq_true] at hg2
  obtain ⟨hg, ht⟩ := hg2
  simp only [gGlyph, winB, Bool.and_eq_true, decide_eq_true_eq] at hg ht
  refine Way.eq (T := itT x.font ++ spK ++ byT x.char.toNat ++ ligK ++ byA x.text.data.toList ++ clK) ⟨63, by rw [hk]; rfl, fun xs w => by kernel_rfl, fun w' hb => lig_m p A ns c a x w' (Seg.belowW hseg hb) hx (htab.below hb) (by omega) (by omega) hch.1 hch.2 (by omega)⟩ ?_
  unfold lineT
  simp [hk]
set_option maxRecDepth 100000 in
theorem way_3 (p : Value) (A : Option Addr) (ns : List Nd) (c a m : Nat) (x : Nd) (w : World) (hc : chk ns = 0) (hcap : ns.length ≤ c) (hseg : Seg w w.heap.size A (ns.flatMap ncs)) (hx : ns[a]? = some x) (hm : endc (ns.drop a) 0 = some m) (hci : chk ((ns.drop a).take m) = 0) (ham : a + m ≤ ns.length) (hr : right x = true) (hch : 0 ≤ x.char ∧ x.char < 256) (htab : Tab w) (hk : x.kind = 3) : Way p A ns.length c a x (lineT x (thK ns a m x)) w := by
  have hg : goodK x.kind.toNat x = true := by
    unfold right at hr
    simp only [Bool.and_eq_true] at hr
    exact hr.2.1
  rw [hk] at hg
  have hg2 : gRule x = true := hg
  simp only [gRule, winB, Bool.and_eq_true, decide_eq_true_eq] at hg2
  rcases (show x.sub = 0 ∨ x.sub = 1 ∨ x.sub = 2 ∨ x.sub = 3 by omega) with hs | hs | hs | hs
  · skip
    refine Way.eq (T := rulK ++ starT x.ht false ++ pluK ++ starT x.dp false ++ cxK ++ starT x.wd false) ⟨64, by rw [hk]; rfl, fun xs w => by kernel_rfl, fun w' hb => rule_0 p A ns c a x w' (Seg.belowW hseg hb) hx (htab.below hb) hs⟩ ?_
    unfold lineT
    simp [hk, hs]
  · skip
    refine Way.eq (T := rulK ++ starT x.ht false ++ pluK ++ starT x.dp false ++ cxK ++ starT x.wd true) ⟨64, by rw [hk]; rfl, fun xs w => by kernel_rfl, fun w' hb => rule_1 p A ns c a x w' (Seg.belowW hseg hb) hx (htab.below hb) hs⟩ ?_
    unfold lineT
    simp [hk, hs]
  · skip
    refine Way.eq (T := rulK ++ starT x.ht true ++ pluK ++ starT x.dp true ++ cxK ++ starT x.wd false) ⟨64, by rw [hk]; rfl, fun xs w => by kernel_rfl, fun w' hb => rule_2 p A ns c a x w' (Seg.belowW hseg hb) hx (htab.below hb) hs⟩ ?_
    unfold lineT
    simp [hk, hs]
  · skip
    refine Way.eq (T := rulK ++ starT x.ht true ++ pluK ++ starT x.dp true ++ cxK ++ starT x.wd true) ⟨64, by rw [hk]; rfl, fun xs w => by kernel_rfl, fun w' hb => rule_3 p A ns c a x w' (Seg.belowW hseg hb) hx (htab.below hb) hs⟩ ?_
    unfold lineT
    simp [hk, hs]
set_option maxRecDepth 100000 in
theorem way_4 (p : Value) (A : Option Addr) (ns : List Nd) (c a m : Nat) (x : Nd) (w : World) (hc : chk ns = 0) (hcap : ns.length ≤ c) (hseg : Seg w w.heap.size A (ns.flatMap ncs)) (hx : ns[a]? = some x) (hm : endc (ns.drop a) 0 = some m) (hci : chk ((ns.drop a).take m) = 0) (ham : a + m ≤ ns.length) (hr : right x = true) (hch : 0 ≤ x.char ∧ x.char < 256) (htab : Tab w) (hk : x.kind = 4) : Way p A ns.length c a x (lineT x (thK ns a m x)) w := by
  have hg : goodK x.kind.toNat x = true := by
    unfold right at hr
    simp only [Bool.and_eq_true] at hr
    exact hr.2.1
  rw [hk] at hg
  refine Way.eq (T := boxT hbK x) ⟨65, by rw [hk]; rfl, fun xs w => by kernel_rfl, fun w' hb => box_4 p A ns c a x w' (Seg.belowW hseg hb) hx (htab.below hb) hk hg⟩ ?_
  unfold lineT
  simp [hk]
set_option maxRecDepth 100000 in
theorem way_5 (p : Value) (A : Option Addr) (ns : List Nd) (c a m : Nat) (x : Nd) (w : World) (hc : chk ns = 0) (hcap : ns.length ≤ c) (hseg : Seg w w.heap.size A (ns.flatMap ncs)) (hx : ns[a]? = some x) (hm : endc (ns.drop a) 0 = some m) (hci : chk ((ns.drop a).take m) = 0) (ham : a + m ≤ ns.length) (hr : right x = true) (hch : 0 ≤ x.char ∧ x.char < 256) (htab : Tab w) (hk : x.kind = 5) : Way p A ns.length c a x (lineT x (thK ns a m x)) w := by
  have hg : goodK x.kind.toNat x = true := by
    unfold right at hr
    simp only [Bool.and_eq_true] at hr
    exact hr.2.1
  rw [hk] at hg
  refine Way.eq (T := boxT vbK x) ⟨65, by rw [hk]; rfl, fun xs w => by kernel_rfl, fun w' hb => box_5 p A ns c a x w' (Seg.belowW hseg hb) hx (htab.below hb) hk hg⟩ ?_
  unfold lineT
  simp [hk]
set_option maxRecDepth 100000 in
theorem way_7 (p : Value) (A : Option Addr) (ns : List Nd) (c a m : Nat) (x : Nd) (w : World) (hc : chk ns = 0) (hcap : ns.length ≤ c) (hseg : Seg w w.heap.size A (ns.flatMap ncs)) (hx : ns[a]? = some x) (hm : endc (ns.drop a) 0 = some m) (hci : chk ((ns.drop a).take m) = 0) (ham : a + m ≤ ns.length) (hr : right x = true) (hch : 0 ≤ x.char ∧ x.char < 256) (htab : Tab w) (hk : x.kind = 7) : Way p A ns.length c a x (lineT x (thK ns a m x)) w := by
  have hg : goodK x.kind.toNat x = true := by
    unfold right at hr
    simp only [Bool.and_eq_true] at hr
    exact hr.2.1
  rw [hk] at hg
  refine Way.eq (T := gluK ++ Gl.shT x.gn x.gs x.gh x.ga x.gb) ⟨66, by rw [hk]; rfl, fun xs w => by kernel_rfl, fun w' hb => skip_m p A ns c a x w' (Seg.belowW hseg hb) hx (htab.below hb)⟩ ?_
  unfold lineT
  simp [hk]
set_option maxRecDepth 100000 in
theorem way_8 (p : Value) (A : Option Addr) (ns : List Nd) (c a m : Nat) (x : Nd) (w : World) (hc : chk ns = 0) (hcap : ns.length ≤ c) (hseg : Seg w w.heap.size A (ns.flatMap ncs)) (hx : ns[a]? = some x) (hm : endc (ns.drop a) 0 = some m) (hci : chk ((ns.drop a).take m) = 0) (ham : a + m ≤ ns.length) (hr : right x = true) (hch : 0 ≤ x.char ∧ x.char < 256) (htab : Tab w) (hk : x.kind = 8) : Way p A ns.length c a x (lineT x (thK ns a m x)) w := by
  have hg : goodK x.kind.toNat x = true := by
    unfold right at hr
    simp only [Bool.and_eq_true] at hr
    exact hr.2.1
  rw [hk] at hg
  refine Way.eq (T := if x.sub = 2 then krnK ++ prS x.wd ++ accK else krnK ++ prS x.wd) ⟨67, by rw [hk]; rfl, fun xs w => by kernel_rfl, fun w' hb => kern_m p A ns c a x w' (Seg.belowW hseg hb) hx (htab.below hb)⟩ ?_
  unfold lineT
  simp [hk]
set_option maxRecDepth 100000 in
theorem way_9 (p : Value) (A : Option Addr) (ns : List Nd) (c a m : Nat) (x : Nd) (w : World) (hc : chk ns = 0) (hcap : ns.length ≤ c) (hseg : Seg w w.heap.size A (ns.flatMap ncs)) (hx : ns[a]? = some x) (hm : endc (ns.drop a) 0 = some m) (hci : chk ((ns.drop a).take m) = 0) (ham : a + m ≤ ns.length) (hr : right x = true) (hch : 0 ≤ x.char ∧ x.char < 256) (htab : Tab w) (hk : x.kind = 9) : Way p A ns.length c a x (lineT x (thK ns a m x)) w := by
  have hg : goodK x.kind.toNat x = true := by
    unfold right at hr
    simp only [Bool.and_eq_true] at hr
    exact hr.2.1
  rw [hk] at hg
  have hg2 : winB x.pen (-2147483647) 2147483647 = true := hg
  simp only [winB, decide_eq_true_eq] at hg2
  refine Way.eq (T := penK ++ itT x.pen) ⟨68, by rw [hk]; rfl, fun xs w => by kernel_rfl, fun w' hb => pen_m p A ns c a x w' (Seg.belowW hseg hb) hx (htab.below hb) (by omega) (by omega)⟩ ?_
  unfold lineT
  simp [hk]
set_option maxRecDepth 100000 in
theorem way_10 (p : Value) (A : Option Addr) (ns : List Nd) (c a m : Nat) (x : Nd) (w : World) (hc : chk ns = 0) (hcap : ns.length ≤ c) (hseg : Seg w w.heap.size A (ns.flatMap ncs)) (hx : ns[a]? = some x) (hm : endc (ns.drop a) 0 = some m) (hci : chk ((ns.drop a).take m) = 0) (ham : a + m ≤ ns.length) (hr : right x = true) (hch : 0 ≤ x.char ∧ x.char < 256) (htab : Tab w) (hk : x.kind = 10) : Way p A ns.length c a x (lineT x (thK ns a m x)) w := by
  have hg : goodK x.kind.toNat x = true := by
    unfold right at hr
    simp only [Bool.and_eq_true] at hr
    exact hr.2.1
  rw [hk] at hg
  refine Way.eq (T := dscK ++ numT (thK ns a m x)) ⟨69, by rw [hk]; rfl, fun xs w => by kernel_rfl, fun w' hb => disc_m p A ns c a m x w' hc hcap (Seg.belowW hseg hb) hx hm hci ham hk (htab.below hb)⟩ ?_
  unfold lineT
  simp [hk]
set_option maxRecDepth 100000 in
theorem way_12 (p : Value) (A : Option Addr) (ns : List Nd) (c a m : Nat) (x : Nd) (w : World) (hc : chk ns = 0) (hcap : ns.length ≤ c) (hseg : Seg w w.heap.size A (ns.flatMap ncs)) (hx : ns[a]? = some x) (hm : endc (ns.drop a) 0 = some m) (hci : chk ((ns.drop a).take m) = 0) (ham : a + m ≤ ns.length) (hr : right x = true) (hch : 0 ≤ x.char ∧ x.char < 256) (htab : Tab w) (hk : x.kind = 12) : Way p A ns.length c a x (lineT x (thK ns a m x)) w := by
  have hg : goodK x.kind.toNat x = true := by
    unfold right at hr
    simp only [Bool.and_eq_true] at hr
    exact hr.2.1
  rw [hk] at hg
  have hg2 : ((x.text.size : Int) ≤ 1000) := of_decide_eq_true hg
  refine Way.eq (T := mrkK ++ byA x.text.data.toList ++ cbK) ⟨70, by rw [hk]; rfl, fun xs w => by kernel_rfl, fun w' hb => mark_m p A ns c a x w' (Seg.belowW hseg hb) hx hk (by omega)⟩ ?_
  unfold lineT
  simp [hk]
set_option maxRecDepth 100000 in
theorem way_14 (p : Value) (A : Option Addr) (ns : List Nd) (c a m : Nat) (x : Nd) (w : World) (hc : chk ns = 0) (hcap : ns.length ≤ c) (hseg : Seg w w.heap.size A (ns.flatMap ncs)) (hx : ns[a]? = some x) (hm : endc (ns.drop a) 0 = some m) (hci : chk ((ns.drop a).take m) = 0) (ham : a + m ≤ ns.length) (hr : right x = true) (hch : 0 ≤ x.char ∧ x.char < 256) (htab : Tab w) (hk : x.kind = 14) : Way p A ns.length c a x (lineT x (thK ns a m x)) w := by
  have hg : goodK x.kind.toNat x = true := by
    unfold right at hr
    simp only [Bool.and_eq_true] at hr
    exact hr.2.1
  rw [hk] at hg
  have hg2 : ((x.text.size : Int) ≤ 1000) := of_decide_eq_true hg
  refine Way.eq (T := spcK ++ byA x.text.data.toList ++ cbK) ⟨70, by rw [hk]; rfl, fun xs w => by kernel_rfl, fun w' hb => spec_m p A ns c a x w' (Seg.belowW hseg hb) hx hk (by omega)⟩ ?_
  unfold lineT
  simp [hk]
set_option maxRecDepth 100000 in
theorem way_13 (p : Value) (A : Option Addr) (ns : List Nd) (c a m : Nat) (x : Nd) (w : World) (hc : chk ns = 0) (hcap : ns.length ≤ c) (hseg : Seg w w.heap.size A (ns.flatMap ncs)) (hx : ns[a]? = some x) (hm : endc (ns.drop a) 0 = some m) (hci : chk ((ns.drop a).take m) = 0) (ham : a + m ≤ ns.length) (hr : right x = true) (hch : 0 ≤ x.char ∧ x.char < 256) (htab : Tab w) (hk : x.kind = 13) : Way p A ns.length c a x (lineT x (thK ns a m x)) w := by
  have hg : goodK x.kind.toNat x = true := by
    unfold right at hr
    simp only [Bool.and_eq_true] at hr
    exact hr.2.1
  rw [hk] at hg
  have hg2 : gIns x = true := hg
  simp only [gIns, winB, Bool.and_eq_true, decide_eq_true_eq] at hg2
  refine Way.eq (T := insK ++ itT x.sub ++ natK ++ prS x.ht ++ splK ++ Gl.shT x.gn x.gs x.gh x.ga x.gb ++ comK ++ prS x.dp ++ floK ++ itT x.pen) ⟨71, by rw [hk]; rfl, fun xs w => by kernel_rfl, fun w' hb => ins_m p A ns c a x w' (Seg.belowW hseg hb) hx (htab.below hb) (by omega) (by omega) (by omega) (by omega)⟩ ?_
  unfold lineT
  simp [hk]
set_option maxRecDepth 100000 in
theorem way_15 (p : Value) (A : Option Addr) (ns : List Nd) (c a m : Nat) (x : Nd) (w : World) (hc : chk ns = 0) (hcap : ns.length ≤ c) (hseg : Seg w w.heap.size A (ns.flatMap ncs)) (hx : ns[a]? = some x) (hm : endc (ns.drop a) 0 = some m) (hci : chk ((ns.drop a).take m) = 0) (ham : a + m ≤ ns.length) (hr : right x = true) (hch : 0 ≤ x.char ∧ x.char < 256) (htab : Tab w) (hk : x.kind = 15) : Way p A ns.length c a x (lineT x (thK ns a m x)) w := by
  have hg : goodK x.kind.toNat x = true := by
    unfold right at hr
    simp only [Bool.and_eq_true] at hr
    exact hr.2.1
  rw [hk] at hg
  refine Way.eq (T := if x.wd = 0 then (if x.kind = 16 then mofK else monK) else (if x.kind = 16 then mofK else monK) ++ (surK ++ prS x.wd)) ⟨72, by rw [hk]; rfl, fun xs w => by kernel_rfl, fun w' hb => math_m p A ns c a x w' (Seg.belowW hseg hb) hx (htab.below hb)⟩ ?_
  unfold lineT
  simp [hk]
set_option maxRecDepth 100000 in
theorem way_16 (p : Value) (A : Option Addr) (ns : List Nd) (c a m : Nat) (x : Nd) (w : World) (hc : chk ns = 0) (hcap : ns.length ≤ c) (hseg : Seg w w.heap.size A (ns.flatMap ncs)) (hx : ns[a]? = some x) (hm : endc (ns.drop a) 0 = some m) (hci : chk ((ns.drop a).take m) = 0) (ham : a + m ≤ ns.length) (hr : right x = true) (hch : 0 ≤ x.char ∧ x.char < 256) (htab : Tab w) (hk : x.kind = 16) : Way p A ns.length c a x (lineT x (thK ns a m x)) w := by
  have hg : goodK x.kind.toNat x = true := by
    unfold right at hr
    simp only [Bool.and_eq_true] at hr
    exact hr.2.1
  rw [hk] at hg
  refine Way.eq (T := if x.wd = 0 then (if x.kind = 16 then mofK else monK) else (if x.kind = 16 then mofK else monK) ++ (surK ++ prS x.wd)) ⟨72, by rw [hk]; rfl, fun xs w => by kernel_rfl, fun w' hb => math_m p A ns c a x w' (Seg.belowW hseg hb) hx (htab.below hb)⟩ ?_
  unfold lineT
  simp [hk]
set_option maxRecDepth 100000 in
theorem way_17 (p : Value) (A : Option Addr) (ns : List Nd) (c a m : Nat) (x : Nd) (w : World) (hc : chk ns = 0) (hcap : ns.length ≤ c) (hseg : Seg w w.heap.size A (ns.flatMap ncs)) (hx : ns[a]? = some x) (hm : endc (ns.drop a) 0 = some m) (hci : chk ((ns.drop a).take m) = 0) (ham : a + m ≤ ns.length) (hr : right x = true) (hch : 0 ≤ x.char ∧ x.char < 256) (htab : Tab w) (hk : x.kind = 17) : Way p A ns.length c a x (lineT x (thK ns a m x)) w := by
  have hg : goodK x.kind.toNat x = true := by
    unfold right at hr
    simp only [Bool.and_eq_true] at hr
    exact hr.2.1
  rw [hk] at hg
  refine Way.eq (T := adjK) ⟨73, by rw [hk]; rfl, fun xs w => by kernel_rfl, fun w' hb => adj_m p _ _ w'⟩ ?_
  unfold lineT
  simp [hk]
theorem way_any (p : Value) (A : Option Addr) (ns : List Nd) (c a m : Nat) (x : Nd) (w : World) (hc : chk ns = 0) (hcap : ns.length ≤ c) (hseg : Seg w w.heap.size A (ns.flatMap ncs)) (hx : ns[a]? = some x) (hm : endc (ns.drop a) 0 = some m) (hci : chk ((ns.drop a).take m) = 0) (ham : a + m ≤ ns.length) (hr : right x = true) (hch : 0 ≤ x.char ∧ x.char < 256) (htab : Tab w) (h6 : ¬ x.kind = 6) (h11 : ¬ x.kind = 11) : Way p A ns.length c a x (lineT x (thK ns a m x)) w := by
  have hk : 1 ≤ x.kind ∧ x.kind ≤ 17 := by
    unfold right at hr
    simp only [Bool.and_eq_true, winB, decide_eq_true_eq] at hr
    exact hr.1
  rcases (show x.kind = 1 ∨ x.kind = 2 ∨ x.kind = 3 ∨ x.kind = 4 ∨ x.kind = 5 ∨ x.kind = 7 ∨ x.kind = 8 ∨ x.kind = 9 ∨ x.kind = 10 ∨ x.kind = 12 ∨ x.kind = 13 ∨ x.kind = 14 ∨ x.kind = 15 ∨ x.kind = 16 ∨ x.kind = 17 by omega) with hk | hk | hk | hk | hk | hk | hk | hk | hk | hk | hk | hk | hk | hk | hk
  · exact way_1 p A ns c a m x w hc hcap hseg hx hm hci ham hr hch htab hk
  · exact way_2 p A ns c a m x w hc hcap hseg hx hm hci ham hr hch htab hk
  · exact way_3 p A ns c a m x w hc hcap hseg hx hm hci ham hr hch htab hk
  · exact way_4 p A ns c a m x w hc hcap hseg hx hm hci ham hr hch htab hk
  · exact way_5 p A ns c a m x w hc hcap hseg hx hm hci ham hr hch htab hk
  · exact way_7 p A ns c a m x w hc hcap hseg hx hm hci ham hr hch htab hk
  · exact way_8 p A ns c a m x w hc hcap hseg hx hm hci ham hr hch htab hk
  · exact way_9 p A ns c a m x w hc hcap hseg hx hm hci ham hr hch htab hk
  · exact way_10 p A ns c a m x w hc hcap hseg hx hm hci ham hr hch htab hk
  · exact way_12 p A ns c a m x w hc hcap hseg hx hm hci ham hr hch htab hk
  · exact way_13 p A ns c a m x w hc hcap hseg hx hm hci ham hr hch htab hk
  · exact way_14 p A ns c a m x w hc hcap hseg hx hm hci ham hr hch htab hk
  · exact way_15 p A ns c a m x w hc hcap hseg hx hm hci ham hr hch htab hk
  · exact way_16 p A ns c a m x w hc hcap hseg hx hm hci ham hr hch htab hk
  · exact way_17 p A ns c a m x w hc hcap hseg hx hm hci ham hr hch htab hk
end Go.Proofs.YtmcekdjhkjhcdaaGreatDoor.Sw
end
section
namespace Go.Proofs.YtmcekdjhkjhcdaaGreatDoor.Sw
open Go.ChangeShapes Go.WideShapes Go.ChangeAt Go.RowKit
open Me Np Ss No Pk
set_option linter.unusedVariables false
set_option linter.unusedSimpArgs false
/-- Nothing is lost but the builder's block and rows of bytes. -/
structure Fr (B b : Nat) (w w' : World) : Prop where
  below : Below B w w'
  rest : Lib.OthersKept 5 (some b) w w'
theorem Fr.refl (B b : Nat) (w : World) : Fr B b w w := ⟨Below.refl _ _, Lib.OthersKept.refl _ _ _⟩
theorem Fr.trans {B b : Nat} {w w1 w2 : World} (h : Fr B b w w1) (k : Fr B b w1 w2) : Fr B b w w2 := ⟨h.below.trans k.below, h.rest.trans k.rest⟩
theorem others_of_below {e : TypeId} {b : Option Nat} {w w' : World} (h : Below w.heap.size w w') : Lib.OthersKept e b w w' := fun k o hk _ _ => (h.block k (Array.getElem?_eq_some_iff.1 hk).1).trans hk
theorem Fr.new {B b : Nat} {w w1 w2 : World} (h : Fr B b w w1) (hB : B ≤ w.heap.size) (k : Below w1.heap.size w1 w2) : Fr B b w w2 :=
  ⟨h.below.trans (k.mono (Nat.le_trans hB h.below.size)), h.rest.trans (others_of_below k)⟩
/-- A list of nodes that the writing does not touch. -/
def LSg (B b : Nat) (w : World) (A : Option Addr) (l : List Nd) : Prop :=
  Seg w w.heap.size A (l.flatMap ncs) ∧ ∀ g off z, A = some ⟨g, off, z⟩ → g < B ∨ (g ≠ b ∧ ∃ cs fr, w.heap[g]? = some (.cells cs 36 fr))
theorem Fr.blk {B b g : Nat} {w w' : World} {cs : Array Value} {t : TypeId} {fr : Nat × Nat} (h : Fr B b w w') (hg : w.heap[g]? = some (.cells cs t fr)) (hb : g ≠ b) (ht : t ≠ 5) : w'.heap[g]? = some (.cells cs t fr) :=
  h.rest g _ hg (by simpa using hb) (fun c fz e => by injection e with _ e2 _; exact ht e2)
theorem LSg.keep {B b : Nat} {w w' : World} {A : Option Addr} {l : List Nd} (h : LSg B b w A l) (k : Fr B b w w') : LSg B b w' A l := by
  obtain ⟨h1, h2⟩ := h
  have hsz := k.below.size
  refine ⟨?_, fun g off z e => ?_⟩
  · rcases h1 with h1 | ⟨g, off, rfl, hg, hc⟩
    · exact .inl h1
    · refine .inr ⟨g, off, rfl, Nat.lt_of_lt_of_le hg hsz, fun j u hu => ?_⟩
      have h3 := hc j u hu
      rcases h2 g off none rfl with h4 | ⟨h4, cs, fr, h5⟩
      · exact (k.below.cell (p := ⟨g, off + j, none⟩) h4).trans h3
      · rw [Lib.cell_of_heap h5] at h3
        rw [Lib.cell_of_heap (k.blk h5 h4 (by decide))]
        exact h3
  · rcases h2 g off z e with h4 | ⟨h4, cs, fr, h5⟩
    · exact .inl h4
    · exact .inr ⟨h4, cs, fr, k.blk h5 h4 (by decide)⟩
theorem LSg.sub {B b g off : Nat} {w : World} {l : List Nd} (h : LSg B b w (some ⟨g, off, none⟩) l) (i n : Nat) : LSg B b w (some ⟨g, off + i * 19, none⟩) ((l.drop i).take n) := by
  obtain ⟨h1, h2⟩ := h
  refine ⟨?_, fun g' off' z e => by injection e with e; injection e with e1 e2 e3; exact h2 g' off z (by rw [← e1, ← e3])⟩
  have h3 := (h1.drop (i * 19)).take (n * 19)
  rw [← flat_drop ncs_length, ← flat_take ncs_length] at h3
  exact h3
theorem LSg.nil (B b : Nat) (w : World) : LSg B b w none [] := ⟨.inl rfl, fun _ _ _ h => by simp at h⟩
theorem LSg.own {B b base n : Nat} {w : World} {v : Value} {l : List Nd} (h : w.ownsRow base 36 19 v n (l.flatMap ncs)) (hb : b < base) : ∃ A c, v = .slice A n c ∧ n ≤ c ∧ LSg B b w A l := by
  obtain ⟨A, c, rfl, hc, _, hs⟩ := Seg.of_own h
  refine ⟨A, c, rfl, hc, hs, fun g off z e => .inr ?_⟩
  subst e
  rcases h.2 with ⟨h3, _⟩ | ⟨g', cap, cur, h3, h4, h5, _⟩
  · simp at h3
  · injection h3 with h3 _ _
    injection h3 with h3
    injection h3 with h3 _ _
    subst h3
    exact ⟨by omega, cur, (0, 0), h5⟩
/-- What an item's list holds is shown so. -/
def ListC (many D : Int) (F : List Nd → ByteArray → ByteArray → Int → ByteArray) (l : List Nd) : Prop :=
  ∀ (B b : Nat) (bs : List Value) (A : Option Addr) (c : Nat) (ahead bar : ByteArray) (lv : Int) (w : World), chk l = 0 → (∀ x ∈ l, 0 ≤ x.char ∧ x.char < 256) → l.length ≤ c → LSg B b w A l → ShI B b D many bs w → B ≤ w.heap.size → (∀ w', Below B w w' → Tab w') →
    bs.length + (F l ahead bar (D - lv + 1)).size ≤ 140737488355328 → ahead.size + bar.size + 2 * l.length ≤ 5000 → (lv ≤ D ∨ l = []) → 1 ≤ lv → lv + l.length ≤ 9000 →
    Calls Tryz.prog 12 #[.pointer (some ⟨b, 0, none⟩), .slice A l.length c, .string ahead, .string bar, .int .i64 lv] w fun e w' => e = .returned (.tuple #[]) ∧ ShI B b D many (bs ++ Lib.strCells (F l ahead bar (D - lv + 1))) w' ∧ Fr B b w w'
theorem strCells_append (a b : ByteArray) : Lib.strCells (a ++ b) = Lib.strCells a ++ Lib.strCells b := by
  unfold Lib.strCells
  simp
theorem sub_call {many D lv : Int} {F : List Nd → ByteArray → ByteArray → Int → ByteArray} {L : List Nd} {B b n c : Nat} {bs : List Value} {A : Option Addr} {ahead bar T : ByteArray} {w : World} (hL : ListC many D F L) (hc : chk L = 0) (hch : ∀ x ∈ L, 0 ≤ x.char ∧ x.char < 256) (hn : L.length = n) (hcap : n ≤ c) (hls : LSg B b w A L) (hsh : ShI B b D many (bs ++ Lib.strCells T) w) (hB : B ≤ w.heap.size) (htb : ∀ w', Below B w w' → Tab w')
    (hlen : bs.length + T.size + (F L ahead bar (D - lv)).size ≤ 140737488355328) (hab : ahead.size + bar.size + 2 * n ≤ 5000) (hlv : lv + 1 ≤ D ∨ L = []) (hl1 : 1 ≤ lv) (hl9 : lv + 1 + n ≤ 9000) :
    Calls Tryz.prog 12 #[.pointer (some ⟨b, 0, none⟩), .slice A n c, .string ahead, .string bar, .int .i64 (lv + 1)] w fun e w' => e = .returned (.tuple #[]) ∧ ShI B b D many (bs ++ Lib.strCells (T ++ F L ahead bar (D - lv))) w' ∧ Fr B b w w' := by
  subst hn
  have e : D - (lv + 1) + 1 = D - lv := by omega
  have h := hL B b (bs ++ Lib.strCells T) A c ahead bar (lv + 1) w hc hch hcap hls hsh hB htb (by rw [e, List.length_append, Lib.strCells_length]; exact hlen) hab hlv (by omega) hl9
  rw [e, List.append_assoc, ← strCells_append] at h
  exact h
theorem it_zero {F : List Nd → ByteArray → ByteArray → Int → ByteArray} {l : List Nd} {a m : Nat} {x : Nd} {ahead bar : ByteArray} {dp : Int} (hx : l[a]? = some x) (hm : endc (l.drop a) 0 = some m) (h : (inL l a m x).length + (beL l a m x).length = 0) : itemT F l ahead bar dp a = ahead ++ bar ++ lineT x (thK l a m x) ++ nlK := by
  unfold itemT
  simp only [nodeAt_of hx, lenAt_of hm]
  rw [if_pos h]
theorem it_deep {F : List Nd → ByteArray → ByteArray → Int → ByteArray} {l : List Nd} {a m : Nat} {x : Nd} {ahead bar : ByteArray} {dp : Int} (hx : l[a]? = some x) (hm : endc (l.drop a) 0 = some m) (h : ¬ (inL l a m x).length + (beL l a m x).length = 0) (hd : dp ≤ 1) : itemT F l ahead bar dp a = ahead ++ bar ++ lineT x (thK l a m x) ++ brK ++ nlK := by
  unfold itemT
  simp only [nodeAt_of hx, lenAt_of hm]
  rw [if_neg h, if_pos hd]
theorem it_more {F : List Nd → ByteArray → ByteArray → Int → ByteArray} {l : List Nd} {a m : Nat} {x : Nd} {ahead bar : ByteArray} {dp : Int} (hx : l[a]? = some x) (hm : endc (l.drop a) 0 = some m) (h : ¬ (inL l a m x).length + (beL l a m x).length = 0) (hd : ¬ dp ≤ 1) : itemT F l ahead bar dp a = ahead ++ bar ++ lineT x (thK l a m x) ++ nlK ++ F (inL l a m x) (ahead ++ dotK) bar (dp - 1) ++ F (beL l a m x) (ahead ++ dotK) (bar ++ barK) (dp - 1) := by
  unfold itemT
  simp only [nodeAt_of hx, lenAt_of hm]
  rw [if_neg h, if_neg hd]
theorem fit_text {T P F1 F2 R IT TOT : ByteArray} (h : T ++ (IT ++ R) = TOT) (hi : IT = P ++ F1 ++ F2) : T ++ P ++ F1 ++ F2 ++ R = TOT := by
  rw [← h, hi]
  simp only [ByteArray.append_assoc]
theorem app_nil2 {P F1 F2 : ByteArray} (h1 : F1 = ⟨#[]⟩) (h2 : F2 = ⟨#[]⟩) : P = P ++ F1 ++ F2 := by
  rw [h1, h2]
  exact (ByteArray.append_empty (b := P)).symm.trans (congrArg (· ++ (⟨#[]⟩ : ByteArray)) (ByteArray.append_empty (b := P)).symm)
theorem len_nil {α : Type} {l : List α} {n : Nat} (h : l.length = n) (h0 : n = 0) : l = [] := List.eq_nil_of_length_eq_zero (by omega)
theorem mem_in {l : List Nd} {a m : Nat} {x y : Nd} (h : y ∈ inL l a m x) : y ∈ l := by
  unfold inL at h
  split at h
  · exact List.mem_of_mem_drop (thr_mem _ h)
  · split at h
    · exact List.mem_of_mem_drop (List.mem_of_mem_take h)
    · simp at h
theorem mem_be {l : List Nd} {a m : Nat} {x y : Nd} (h : y ∈ beL l a m x) : y ∈ l := by
  unfold beL at h
  split at h
  · exact List.mem_of_mem_drop (thr_mem _ h)
  · simp at h
end Go.Proofs.YtmcekdjhkjhcdaaGreatDoor.Sw
end
section
namespace Go.Proofs.YtmcekdjhkjhcdaaGreatDoor.Sw
open Go.ChangeShapes Go.WideShapes Go.ChangeAt Go.RowKit
open Me Np Ss No
set_option linter.unusedVariables false
set_option linter.unusedSimpArgs false
/-- A list is shown so by the document. -/
def DocC (many : Int) (f : Nat) (l : List Nd) : Prop :=
  ∀ (A : Option Addr) (c : Nat) (ahead bar : ByteArray) (deep : Int) (w : World), chk l = 0 → (∀ x ∈ l, 0 ≤ x.char ∧ x.char < 256) → l.length ≤ c → Seg w w.heap.size A (l.flatMap ncs) → ahead.size + bar.size + 2 * f ≤ 5000 → 1 ≤ deep → deep ≤ 9223372036854775807 →
    Calls Tryz.prog 15 #[.slice A l.length c, .string ahead, .string bar, .int .i64 deep, .int .i64 many] w fun e w' => e = .returned (.string (shw many f l ahead bar deep)) ∧ Below w.heap.size w w'
theorem doc_call {many : Int} {f : Nat} {L : List Nd} (h : DocC many f L) {A : Option Addr} {n c : Nat} {ahead bar T : ByteArray} {deep : Int} {w : World} (hn : L.length = n) (hc : chk L = 0) (hch : ∀ x ∈ L, 0 ≤ x.char ∧ x.char < 256) (hcap : n ≤ c) (hseg : Seg w w.heap.size A (L.flatMap ncs)) (hab : ahead.size + bar.size + 2 * f ≤ 5000) (hd1 : 1 ≤ deep) (hd2 : deep ≤ 9223372036854775807) (hT : shw many f L ahead bar deep = T) :
    Calls Tryz.prog 15 #[.slice A n c, .string ahead, .string bar, .int .i64 deep, .int .i64 many] w fun e w' => e = .returned (.string T) ∧ Below w.heap.size w w' := by
  subst hn
  subst hT
  exact h A c ahead bar deep w hc hch hcap hseg hab hd1 hd2
set_option maxHeartbeats 8000000 in
set_option maxRecDepth 100000 in
theorem rcont_disc (many : Int) (f : Nat) (IH : ∀ l', l'.length ≤ f → DocC many f l') (A : Option Addr) (l : List Nd) (c a m : Nat) (x : Nd) (ahead bar : ByteArray) (deep : Int) (w : World) (hc : chk l = 0) (hch : ∀ x ∈ l, 0 ≤ x.char ∧ x.char < 256) (hcap : l.length ≤ c) (hseg : Seg w w.heap.size A (l.flatMap ncs)) (hx : l[a]? = some x) (hm : endc (l.drop a) 0 = some m) (hci : chk ((l.drop a).take m) = 0) (ham : a + m ≤ l.length) (hlf : l.length ≤ f + 1) (hk : x.kind = 10) (hab : ahead.size + bar.size + 2 * (f + 1) ≤ 5000) (hd1 : 2 ≤ deep) (hd2 : deep ≤ 9223372036854775807) :
    Calls Tryz.prog 34 #[.slice A l.length c, .int .i64 (a : Int), .string ahead, .string bar, .int .i64 deep, .int .i64 many] w fun e w' => e = .returned (.string (shw many f (inL l a m x) (ahead ++ dotK) bar (deep - 1) ++ shw many f (beL l a m x) (ahead ++ dotK) (bar ++ barK) (deep - 1))) ∧ Below w.heap.size w w' := by
  have hP := parts_of hc hx hm hci ham
  have hl := (chk_run hc).1
  have hl2 := hP.len
  have hs1 := shw_size many f (inL l a m x) (ahead ++ ⟨#[46]⟩) bar (deep - 1) hP.one (by omega) (by rw [ByteArray.size_append]; show _ + 1 + _ + _ ≤ _; omega)
  have hs2 := shw_size many f (beL l a m x) (ahead ++ ⟨#[46]⟩) (bar ++ ⟨#[124]⟩) (deep - 1) hP.two (by omega) (by rw [ByteArray.size_append, ByteArray.size_append]; show _ + 1 + (_ + 1) + _ ≤ _; omega)
  change Calls _ _ _ _ fun e w' => e = .returned (.string (shw many f (inL l a m x) (ahead ++ ⟨#[46]⟩) bar (deep - 1) ++ shw many f (beL l a m x) (ahead ++ ⟨#[46]⟩) (bar ++ ⟨#[124]⟩) (deep - 1))) ∧ _
  obtain ⟨T1, hT1⟩ : ∃ T, shw many f (inL l a m x) (ahead ++ ⟨#[46]⟩) bar (deep - 1) = T := ⟨_, rfl⟩
  obtain ⟨T2, hT2⟩ : ∃ T, shw many f (beL l a m x) (ahead ++ ⟨#[46]⟩) (bar ++ ⟨#[124]⟩) (deep - 1) = T := ⟨_, rfl⟩
  rw [hT1] at hs1 ⊢
  rw [hT2] at hs2 ⊢
  have hz1 : T1.size ≤ 100000000 := by omega
  have hz2 : T2.size ≤ 100000000 := by omega
  obtain ⟨h2, hd⟩ := ssD_is hc hx hk hm
  have HT := Lib.hid (rthree_any A l c a m _ x w hc hcap hseg hx hm hd h2 hk)
  have hLi : inL l a m x = thr (ssD (l.drop (a + 1)) m) (l.drop (a + 1)) 0 0 := by unfold inL; rw [if_pos hk]
  have hLb : beL l a m x = thr (ssD (l.drop (a + 1)) m) (l.drop (a + 1)) 0 1 := by unfold beL; rw [if_pos hk]
  have H1 := Lib.hid (fun A3 c3 n3 W (hn : (inL l a m x).length = n3) (hcc : n3 ≤ c3) (hsg : Seg W W.heap.size A3 ((inL l a m x).flatMap ncs)) => doc_call (IH (inL l a m x) (by omega)) (c := c3) hn hP.one (fun y hy => hch y (mem_in hy)) hcc hsg (by rw [ByteArray.size_append]; show _ + 1 + _ + _ ≤ _; omega) (by omega) (by omega) hT1)
  have H2 := Lib.hid (fun A3 c3 n3 W (hn : (beL l a m x).length = n3) (hcc : n3 ≤ c3) (hsg : Seg W W.heap.size A3 ((beL l a m x).flatMap ncs)) => doc_call (IH (beL l a m x) (by omega)) (c := c3) hn hP.two (fun y hy => hch y (mem_be hy)) hcc hsg (by rw [ByteArray.size_append, ByteArray.size_append]; show _ + 1 + (_ + 1) + _ ≤ _; omega) (by omega) (by omega) hT2)
  rw [hLi] at H1
  rw [hLb] at H2
  obtain ⟨b, off, rfl, hb, hn⟩ := seg_node hseg hx
  have hal : (a : Int) < (l.length : Int) := by have := (List.getElem?_eq_some_iff.1 hx).1; omega
  have c0 : w.cell? ⟨b, off + a * 19, none⟩ = some (.int .i64 x.kind) := hn 0 _ rfl
  rw [hk] at c0
  have hdw : IntKind.i64.wrap (deep - 1) = deep - 1 := IntWalk.i64_in _ (by omega)
  clear hc hch hcap hseg hx hm hci ham hk hn hP hs1 hs2 hl hl2 hd hLi hLb hT1 hT2 IH hlf h2 hb
  generalize thr (ssD (l.drop (a + 1)) m) (l.drop (a + 1)) 0 = F at *
  generalize l.length = ln at *
  go_enter Tryz.func34, Tryz.ntmps34
  go_wp2_with fail
  refine HT.out.mono ?_
  rintro e w1 ⟨vs, rfl, ho, hb1⟩
  obtain ⟨A3, c3, h30, hc3, _, hL3⟩ := Seg.of_own (ho.own 0 (by omega))
  obtain ⟨A4, c4, h31, hc4, _, hL4⟩ := Seg.of_own (ho.own 1 (by omega))
  obtain ⟨A5, c5, h32, hc5, _, hL5⟩ := Seg.of_own (ho.own 2 (by omega))
  rw [show tc3 vs = #[vs 0, vs 1, vs 2] from rfl, h30, h31, h32]
  obtain ⟨n3, hn3⟩ : ∃ n, (F 0).length = n := ⟨_, rfl⟩
  obtain ⟨n4, hn4⟩ : ∃ n, (F 1).length = n := ⟨_, rfl⟩
  obtain ⟨n5, hn5⟩ : ∃ n, (F 2).length = n := ⟨_, rfl⟩
  rw [hn3] at hc3 ⊢
  rw [hn4] at hc4 ⊢
  rw [hn5] at hc5 ⊢
  go_upto_region 3 with fail
  have hbl : Below w1.heap.size w1 (w1.alloc (.cells #[.slice A3 n3 c3, .slice A4 n4 c4, .slice A5 n5 c5] 75)) := andAlloc (Below.refl w1.heap.size w1) _
  have d0 : (w1.alloc (.cells #[.slice A3 n3 c3, .slice A4 n4 c4, .slice A5 n5 c5] 75)).cell? ⟨w1.heap.size, 0, none⟩ = some (.slice A3 n3 c3) := (Blk.new' rfl).cell 0
  have d1 : (w1.alloc (.cells #[.slice A3 n3 c3, .slice A4 n4 c4, .slice A5 n5 c5] 75)).cell? ⟨w1.heap.size, 1, none⟩ = some (.slice A4 n4 c4) := (Blk.new' rfl).cell 1
  have dl : w1.heap.size < (w1.alloc (.cells #[.slice A3 n3 c3, .slice A4 n4 c4, .slice A5 n5 c5] 75)).heap.size := by simp
  generalize w1.alloc (.cells #[.slice A3 n3 c3, .slice A4 n4 c4, .slice A5 n5 c5] 75) = w8 at hbl d0 d1 dl ⊢
  generalize w1.heap.size = g8 at d0 d1 dl ⊢
  have D0 := Lib.hid (fun W (h : Below w8.heap.size w8 W) => ((h.cell (p := ⟨g8, 0, none⟩) dl).trans d0 : W.cell? ⟨g8, 0, none⟩ = some (.slice A3 n3 c3)))
  have D1 := Lib.hid (fun W (h : Below w8.heap.size w8 W) => ((h.cell (p := ⟨g8, 1, none⟩) dl).trans d1 : W.cell? ⟨g8, 1, none⟩ = some (.slice A4 n4 c4)))
  have HC1 := Lib.hid (fun W (h : Below w8.heap.size w8 W) => H1.out A3 c3 n3 W hn3 hc3 (Seg.belowW (Seg.belowW hL3 hbl) h))
  have HC2 := Lib.hid (fun W (h : Below w8.heap.size w8 W) => H2.out A4 c4 n4 W hn4 hc4 (Seg.belowW (Seg.belowW hL4 hbl) h))
  have HBL := Lib.hid (andThen hb1 hbl)
  have hH0 := Below.refl w8.heap.size w8
  clear ho h30 h31 h32 hn3 hn4 hn5 hL3 hL4 hL5 d0 d1 dl hbl hb1 H1 H2 HT c0
  refine wp_region_held_drew (S := fun w1 => Below w8.heap.size w8 w1) (by kernel_rfl) (Below.drew hH0) (fun hH => ?_)
  refine take_lit (i := 0) (v := (.pointer (some ⟨g8, 0, none⟩))) (by kernel_rfl) (by kernel_rfl) (by kernel_rfl) (by kernel_rfl) (fun _ _ _ _ h => h) hH (fun oi hoi => ?_)
  simp only [List.getElem?_toArray, List.getElem?_cons_succ, List.getElem?_cons_zero, Option.some.injEq] at hoi
  subst hoi
  refine ⟨.inl ⟨by rfl, fun w hSw => ?_⟩, ?_⟩
  · skip
    first | (go_simp; done) | (go_simp; omega) | (go_simp; with_reducible rfl) | (go_simp; kernel_rfl)
  simp only [Act.put, List.setIfInBounds_toArray, List.set_cons_zero, List.set_cons_succ]
  refine take_lit (i := 1) (v := (.slice A3 n3 c3)) (by kernel_rfl) (by kernel_rfl) (by kernel_rfl) (by kernel_rfl) (fun _ _ _ _ h => h) hH (fun oi hoi => ?_)
  simp only [List.getElem?_toArray, List.getElem?_cons_succ, List.getElem?_cons_zero, Option.some.injEq] at hoi
  subst hoi
  refine ⟨.inl ⟨by rfl, fun w hSw => ?_⟩, ?_⟩
  · skip
    have z := D0.out _ hSw
    first | (go_simp; done) | (go_simp; omega) | (go_simp; with_reducible rfl) | (go_simp; kernel_rfl)
  simp only [Act.put, List.setIfInBounds_toArray, List.set_cons_zero, List.set_cons_succ]
  refine take_lit (i := 2) (v := (.string (ahead))) (by kernel_rfl) (by kernel_rfl) (by kernel_rfl) (by kernel_rfl) (fun _ _ _ _ h => h) hH (fun oi hoi => ?_)
  simp only [List.getElem?_toArray, List.getElem?_cons_succ, List.getElem?_cons_zero, Option.some.injEq] at hoi
  subst hoi
  refine ⟨.inl ⟨by rfl, fun w hSw => ?_⟩, ?_⟩
  · skip
    first | (go_simp; done) | (go_simp; omega) | (go_simp; with_reducible rfl) | (go_simp; kernel_rfl)
  simp only [Act.put, List.setIfInBounds_toArray, List.set_cons_zero, List.set_cons_succ]
  refine take_lit (i := 3) (v := (.string (ahead ++ ⟨#[46]⟩))) (by kernel_rfl) (by kernel_rfl) (by kernel_rfl) (by kernel_rfl) (fun _ _ _ _ h => h) hH (fun oi hoi => ?_)
  simp only [List.getElem?_toArray, List.getElem?_cons_succ, List.getElem?_cons_zero, Option.some.injEq] at hoi
  subst hoi
  refine ⟨.inl ⟨by rfl, fun w hSw => ?_⟩, ?_⟩
  · skip
    have hz : ¬ 9223372036854775807 < (ahead : ByteArray).size + (⟨#[46]⟩ : ByteArray).size := by (try simp only [ByteArray.size_append]); have q0 : (⟨#[46]⟩ : ByteArray).size = 1 := rfl; omega
    first | (go_simp; done) | (go_simp; omega) | (go_simp; with_reducible rfl) | (go_simp; kernel_rfl)
  simp only [Act.put, List.setIfInBounds_toArray, List.set_cons_zero, List.set_cons_succ]
  refine take_lit (i := 4) (v := (.string (bar))) (by kernel_rfl) (by kernel_rfl) (by kernel_rfl) (by kernel_rfl) (fun _ _ _ _ h => h) hH (fun oi hoi => ?_)
  simp only [List.getElem?_toArray, List.getElem?_cons_succ, List.getElem?_cons_zero, Option.some.injEq] at hoi
  subst hoi
  refine ⟨.inl ⟨by rfl, fun w hSw => ?_⟩, ?_⟩
  · skip
    first | (go_simp; done) | (go_simp; omega) | (go_simp; with_reducible rfl) | (go_simp; kernel_rfl)
  simp only [Act.put, List.setIfInBounds_toArray, List.set_cons_zero, List.set_cons_succ]
  refine take_lit (i := 5) (v := (.int .i64 (deep))) (by kernel_rfl) (by kernel_rfl) (by kernel_rfl) (by kernel_rfl) (fun _ _ _ _ h => h) hH (fun oi hoi => ?_)
  simp only [List.getElem?_toArray, List.getElem?_cons_succ, List.getElem?_cons_zero, Option.some.injEq] at hoi
  subst hoi
  refine ⟨.inl ⟨by rfl, fun w hSw => ?_⟩, ?_⟩
  · skip
    first | (go_simp; done) | (go_simp; omega) | (go_simp; with_reducible rfl) | (go_simp; kernel_rfl)
  simp only [Act.put, List.setIfInBounds_toArray, List.set_cons_zero, List.set_cons_succ]
  refine take_lit (i := 6) (v := (.int .i64 (deep - 1))) (by kernel_rfl) (by kernel_rfl) (by kernel_rfl) (by kernel_rfl) (fun _ _ _ _ h => h) hH (fun oi hoi => ?_)
  simp only [List.getElem?_toArray, List.getElem?_cons_succ, List.getElem?_cons_zero, Option.some.injEq] at hoi
  subst hoi
  refine ⟨.inl ⟨by rfl, fun w hSw => ?_⟩, ?_⟩
  · skip
    first | (go_simp; done) | (go_simp; omega) | (go_simp; with_reducible rfl) | (go_simp; kernel_rfl)
  simp only [Act.put, List.setIfInBounds_toArray, List.set_cons_zero, List.set_cons_succ]
  refine take_lit (i := 7) (v := (.int .i64 (many))) (by kernel_rfl) (by kernel_rfl) (by kernel_rfl) (by kernel_rfl) (fun _ _ _ _ h => h) hH (fun oi hoi => ?_)
  simp only [List.getElem?_toArray, List.getElem?_cons_succ, List.getElem?_cons_zero, Option.some.injEq] at hoi
  subst hoi
  refine ⟨.inl ⟨by rfl, fun w hSw => ?_⟩, ?_⟩
  · skip
    first | (go_simp; done) | (go_simp; omega) | (go_simp; with_reducible rfl) | (go_simp; kernel_rfl)
  simp only [Act.put, List.setIfInBounds_toArray, List.set_cons_zero, List.set_cons_succ]
  refine take_lit (i := 9) (v := (.pointer (some ⟨g8, 1, none⟩))) (by kernel_rfl) (by kernel_rfl) (by kernel_rfl) (by kernel_rfl) (fun _ _ _ _ h => h) hH (fun oi hoi => ?_)
  simp only [List.getElem?_toArray, List.getElem?_cons_succ, List.getElem?_cons_zero, Option.some.injEq] at hoi
  subst hoi
  refine ⟨.inl ⟨by rfl, fun w hSw => ?_⟩, ?_⟩
  · skip
    first | (go_simp; done) | (go_simp; omega) | (go_simp; with_reducible rfl) | (go_simp; kernel_rfl)
  simp only [Act.put, List.setIfInBounds_toArray, List.set_cons_zero, List.set_cons_succ]
  refine take_lit (i := 10) (v := (.slice A4 n4 c4)) (by kernel_rfl) (by kernel_rfl) (by kernel_rfl) (by kernel_rfl) (fun _ _ _ _ h => h) hH (fun oi hoi => ?_)
  simp only [List.getElem?_toArray, List.getElem?_cons_succ, List.getElem?_cons_zero, Option.some.injEq] at hoi
  subst hoi
  refine ⟨.inl ⟨by rfl, fun w hSw => ?_⟩, ?_⟩
  · skip
    have z := D1.out _ hSw
    first | (go_simp; done) | (go_simp; omega) | (go_simp; with_reducible rfl) | (go_simp; kernel_rfl)
  simp only [Act.put, List.setIfInBounds_toArray, List.set_cons_zero, List.set_cons_succ]
  refine take_lit (i := 11) (v := (.string (ahead))) (by kernel_rfl) (by kernel_rfl) (by kernel_rfl) (by kernel_rfl) (fun _ _ _ _ h => h) hH (fun oi hoi => ?_)
  simp only [List.getElem?_toArray, List.getElem?_cons_succ, List.getElem?_cons_zero, Option.some.injEq] at hoi
  subst hoi
  refine ⟨.inl ⟨by rfl, fun w hSw => ?_⟩, ?_⟩
  · skip
    first | (go_simp; done) | (go_simp; omega) | (go_simp; with_reducible rfl) | (go_simp; kernel_rfl)
  simp only [Act.put, List.setIfInBounds_toArray, List.set_cons_zero, List.set_cons_succ]
  refine take_lit (i := 12) (v := (.string (ahead ++ ⟨#[46]⟩))) (by kernel_rfl) (by kernel_rfl) (by kernel_rfl) (by kernel_rfl) (fun _ _ _ _ h => h) hH (fun oi hoi => ?_)
  simp only [List.getElem?_toArray, List.getElem?_cons_succ, List.getElem?_cons_zero, Option.some.injEq] at hoi
  subst hoi
  refine ⟨.inl ⟨by rfl, fun w hSw => ?_⟩, ?_⟩
  · skip
    have hz : ¬ 9223372036854775807 < (ahead : ByteArray).size + (⟨#[46]⟩ : ByteArray).size := by (try simp only [ByteArray.size_append]); have q0 : (⟨#[46]⟩ : ByteArray).size = 1 := rfl; omega
    first | (go_simp; done) | (go_simp; omega) | (go_simp; with_reducible rfl) | (go_simp; kernel_rfl)
  simp only [Act.put, List.setIfInBounds_toArray, List.set_cons_zero, List.set_cons_succ]
  refine take_lit (i := 13) (v := (.string (bar))) (by kernel_rfl) (by kernel_rfl) (by kernel_rfl) (by kernel_rfl) (fun _ _ _ _ h => h) hH (fun oi hoi => ?_)
  simp only [List.getElem?_toArray, List.getElem?_cons_succ, List.getElem?_cons_zero, Option.some.injEq] at hoi
  subst hoi
  refine ⟨.inl ⟨by rfl, fun w hSw => ?_⟩, ?_⟩
  · skip
    first | (go_simp; done) | (go_simp; omega) | (go_simp; with_reducible rfl) | (go_simp; kernel_rfl)
  simp only [Act.put, List.setIfInBounds_toArray, List.set_cons_zero, List.set_cons_succ]
  refine take_lit (i := 14) (v := (.string (bar ++ ⟨#[124]⟩))) (by kernel_rfl) (by kernel_rfl) (by kernel_rfl) (by kernel_rfl) (fun _ _ _ _ h => h) hH (fun oi hoi => ?_)
  simp only [List.getElem?_toArray, List.getElem?_cons_succ, List.getElem?_cons_zero, Option.some.injEq] at hoi
  subst hoi
  refine ⟨.inl ⟨by rfl, fun w hSw => ?_⟩, ?_⟩
  · skip
    have hz : ¬ 9223372036854775807 < (bar : ByteArray).size + (⟨#[124]⟩ : ByteArray).size := by (try simp only [ByteArray.size_append]); have q0 : (⟨#[124]⟩ : ByteArray).size = 1 := rfl; omega
    first | (go_simp; done) | (go_simp; omega) | (go_simp; with_reducible rfl) | (go_simp; kernel_rfl)
  simp only [Act.put, List.setIfInBounds_toArray, List.set_cons_zero, List.set_cons_succ]
  refine take_lit (i := 15) (v := (.int .i64 (deep))) (by kernel_rfl) (by kernel_rfl) (by kernel_rfl) (by kernel_rfl) (fun _ _ _ _ h => h) hH (fun oi hoi => ?_)
  simp only [List.getElem?_toArray, List.getElem?_cons_succ, List.getElem?_cons_zero, Option.some.injEq] at hoi
  subst hoi
  refine ⟨.inl ⟨by rfl, fun w hSw => ?_⟩, ?_⟩
  · skip
    first | (go_simp; done) | (go_simp; omega) | (go_simp; with_reducible rfl) | (go_simp; kernel_rfl)
  simp only [Act.put, List.setIfInBounds_toArray, List.set_cons_zero, List.set_cons_succ]
  refine take_lit (i := 16) (v := (.int .i64 (deep - 1))) (by kernel_rfl) (by kernel_rfl) (by kernel_rfl) (by kernel_rfl) (fun _ _ _ _ h => h) hH (fun oi hoi => ?_)
  simp only [List.getElem?_toArray, List.getElem?_cons_succ, List.getElem?_cons_zero, Option.some.injEq] at hoi
  subst hoi
  refine ⟨.inl ⟨by rfl, fun w hSw => ?_⟩, ?_⟩
  · skip
    first | (go_simp; done) | (go_simp; omega) | (go_simp; with_reducible rfl) | (go_simp; kernel_rfl)
  simp only [Act.put, List.setIfInBounds_toArray, List.set_cons_zero, List.set_cons_succ]
  refine take_lit (i := 17) (v := (.int .i64 (many))) (by kernel_rfl) (by kernel_rfl) (by kernel_rfl) (by kernel_rfl) (fun _ _ _ _ h => h) hH (fun oi hoi => ?_)
  simp only [List.getElem?_toArray, List.getElem?_cons_succ, List.getElem?_cons_zero, Option.some.injEq] at hoi
  subst hoi
  refine ⟨.inl ⟨by rfl, fun w hSw => ?_⟩, ?_⟩
  · skip
    first | (go_simp; done) | (go_simp; omega) | (go_simp; with_reducible rfl) | (go_simp; kernel_rfl)
  simp only [Act.put, List.setIfInBounds_toArray, List.set_cons_zero, List.set_cons_succ]
  refine wpAnyH_ready (rs := [8]) (by kernel_rfl) (by simp) (AllReadyH.cons rfl (fun K hK => ?_) AllReadyH.nil)
  go_simp
  go_wp2_with fail
  refine (HC1.out _ hH).mono ?_
  rintro e w_1 ⟨rfl, hb_1⟩
  refine hK.out _ _ (andThen hH hb_1) (fun hH1 => ?_)
  try simp only [Act.put, List.setIfInBounds_toArray, List.set_cons_zero, List.set_cons_succ]
  clear hK K
  refine wpAnyH_ready (rs := [18]) (by kernel_rfl) (by simp) (AllReadyH.cons rfl (fun K hK => ?_) AllReadyH.nil)
  go_simp
  go_wp2_with fail
  refine (HC2.out _ hH1).mono ?_
  rintro e w_2 ⟨rfl, hb_2⟩
  refine hK.out _ _ (andThen hH1 hb_2) (fun hH2 => ?_)
  try simp only [Act.put, List.setIfInBounds_toArray, List.set_cons_zero, List.set_cons_succ]
  clear hK K
  refine take_lit (i := 19) (v := (.string (T1 ++ T2))) (by kernel_rfl) (by kernel_rfl) (by kernel_rfl) (by kernel_rfl) (fun _ _ _ _ h => h) hH2 (fun oi hoi => ?_)
  simp only [List.getElem?_toArray, List.getElem?_cons_succ, List.getElem?_cons_zero, Option.some.injEq] at hoi
  subst hoi
  refine ⟨.inl ⟨by rfl, fun w hSw => ?_⟩, ?_⟩
  · skip
    have hz : ¬ 9223372036854775807 < (T1 : ByteArray).size + (T2 : ByteArray).size := by (try simp only [ByteArray.size_append]); omega
    first | (go_simp; done) | (go_simp; omega) | (go_simp; with_reducible rfl) | (go_simp; kernel_rfl)
  simp only [Act.put, List.setIfInBounds_toArray, List.set_cons_zero, List.set_cons_succ]
  refine take_lit (i := 20) (v := (.string (T1 ++ T2))) (by kernel_rfl) (by kernel_rfl) (by kernel_rfl) (by kernel_rfl) (fun _ _ _ _ h => h) hH2 (fun oi hoi => ?_)
  simp only [List.getElem?_toArray, List.getElem?_cons_succ, List.getElem?_cons_zero, Option.some.injEq] at hoi
  subst hoi
  refine ⟨.inl ⟨by rfl, fun w hSw => ?_⟩, ?_⟩
  · skip
    first | (go_simp; done) | (go_simp; omega) | (go_simp; with_reducible rfl) | (go_simp; kernel_rfl)
  simp only [Act.put, List.setIfInBounds_toArray, List.set_cons_zero, List.set_cons_succ]
  refine wpAnyH_done (by kernel_rfl) ?_ _
  have HF := Lib.hid (andThen HBL.out hH2)
  go_wp2_with fail
  go_ret
  exact ⟨rfl, HF.out⟩
set_option maxHeartbeats 8000000 in
set_option maxRecDepth 100000 in
theorem rcont_else (many : Int) (f : Nat) (IH : ∀ l', l'.length ≤ f → DocC many f l') (A : Option Addr) (l : List Nd) (c a m : Nat) (x : Nd) (ahead bar : ByteArray) (deep : Int) (w : World) (hc : chk l = 0) (hch : ∀ x ∈ l, 0 ≤ x.char ∧ x.char < 256) (hcap : l.length ≤ c) (hseg : Seg w w.heap.size A (l.flatMap ncs)) (hx : l[a]? = some x) (hm : endc (l.drop a) 0 = some m) (hci : chk ((l.drop a).take m) = 0) (ham : a + m ≤ l.length) (hlf : l.length ≤ f + 1) (hk : ¬ x.kind = 10) (ho : opensB x = true) (h6 : ¬ x.kind = 6) (hab : ahead.size + bar.size + 2 * (f + 1) ≤ 5000) (hd1 : 2 ≤ deep) (hd2 : deep ≤ 9223372036854775807) :
    Calls Tryz.prog 34 #[.slice A l.length c, .int .i64 (a : Int), .string ahead, .string bar, .int .i64 deep, .int .i64 many] w fun e w' => e = .returned (.string (shw many f (inL l a m x) (ahead ++ dotK) bar (deep - 1) ++ shw many f (beL l a m x) (ahead ++ dotK) (bar ++ barK) (deep - 1))) ∧ Below w.heap.size w w' := by
  have hP := parts_of hc hx hm hci ham
  have hl := (chk_run hc).1
  have hl2 := hP.len
  have hLi : inL l a m x = (l.drop (a + 1)).take (m - 2) := by unfold inL; rw [if_neg hk, if_pos ho]
  have hLb : beL l a m x = [] := by unfold beL; rw [if_neg hk]
  rw [hLb, shw_nil, show (shw many f (inL l a m x) (ahead ++ dotK) bar (deep - 1) ++ ⟨#[]⟩ : ByteArray) = shw many f (inL l a m x) (ahead ++ dotK) bar (deep - 1) from ByteArray.append_empty]
  change Calls _ _ _ _ fun e w' => e = .returned (.string (shw many f (inL l a m x) (ahead ++ ⟨#[46]⟩) bar (deep - 1))) ∧ _
  obtain ⟨T1, hT1⟩ : ∃ T, shw many f (inL l a m x) (ahead ++ ⟨#[46]⟩) bar (deep - 1) = T := ⟨_, rfl⟩
  rw [hT1]
  have hm2 := endc_two2 hx ho hm
  have hne : (inL l a m x).length = m - 2 := by rw [hLi, List.length_take, List.length_drop]; omega
  have HE := Lib.hid (rends_any A l c a m w (by omega) hseg hm (fun n hn => by rw [hx] at hn; injection hn with hn; subst hn; exact h6))
  have H1 := Lib.hid (fun A3 c3 n3 W (hn : (inL l a m x).length = n3) (hcc : n3 ≤ c3) (hsg : Seg W W.heap.size A3 ((inL l a m x).flatMap ncs)) => doc_call (IH (inL l a m x) (by omega)) (c := c3) hn hP.one (fun y hy => hch y (mem_in hy)) hcc hsg (by rw [ByteArray.size_append]; show _ + 1 + _ + _ ≤ _; omega) (by omega) (by omega) hT1)
  obtain ⟨b, off, rfl, hb, hn⟩ := seg_node hseg hx
  have hal : (a : Int) < (l.length : Int) := by have := (List.getElem?_eq_some_iff.1 hx).1; omega
  have c0 : w.cell? ⟨b, off + a * 19, none⟩ = some (.int .i64 x.kind) := hn 0 _ rfl
  have e10 : (x.kind == 10) = false := by simp [hk]
  have hsub : ∀ W, Below w.heap.size w W → Seg W W.heap.size (some ⟨b, off + (a + 1) * 19, none⟩) ((inL l a m x).flatMap ncs) := by
    intro W hW
    have h3 := ((Seg.belowW hseg hW).drop ((a + 1) * 19)).take ((m - 2) * 19)
    rw [← flat_drop ncs_length, ← flat_take ncs_length] at h3
    rw [hLi]
    exact h3
  have HSUB := Lib.hid hsub
  have hdw : IntKind.i64.wrap (deep - 1) = deep - 1 := IntWalk.i64_in _ (by omega)
  have hz : ¬ 9223372036854775807 < ahead.size + (⟨#[46]⟩ : ByteArray).size := by show ¬ 9223372036854775807 < _ + 1; omega
  have HNE := Lib.hid hne
  clear hc hch hseg hx hm hci hk ho hn hP hLi hLb hT1 IH hlf hb hsub hne h6
  generalize l.length = ln at *
  go_enter Tryz.func34, Tryz.ntmps34
  go_wp2_with fail
  refine HE.out.mono ?_
  rintro e w1 ⟨rfl, hb1⟩
  have HSG := Lib.hid (HSUB.out _ hb1)
  have HB1 := Lib.hid hb1
  clear hb1
  go_wp2_with fail
  obtain ⟨n3, hn3⟩ : ∃ n, a + m - 1 - (a + 1) = n := ⟨_, rfl⟩
  refine (H1.out (some ⟨b, off + (a + 1) * 19, none⟩) (c - (a + 1)) (a + m - 1 - (a + 1)) w1 (by rw [HNE.out]; omega) (by omega) HSG.out).mono ?_
  rintro e w2 ⟨rfl, hb2⟩
  have HB2 := Lib.hid (andThen HB1.out hb2)
  clear hb2
  go_wp2_with fail
  go_ret
  exact ⟨rfl, HB2.out⟩
end Go.Proofs.YtmcekdjhkjhcdaaGreatDoor.Sw
end
section
namespace Go.Proofs.YtmcekdjhkjhcdaaGreatDoor.Sw
open Go.ChangeShapes Go.WideShapes Go.ChangeAt Go.RowKit
open Me Np Ss No Pk
set_option linter.unusedVariables false
set_option linter.unusedSimpArgs false
theorem itms_at {w : World} {b base : Nat} {v : Value} {xs : List Nat} (h : w.ownsRow base 3 1 v xs.length (xs.map nat64)) (hb : b < base) : ∃ A c, v = .slice A xs.length c ∧ ∀ B wr, Fr B b w wr → ∀ (i a : Nat), xs[i]? = some a → ∃ g off, A = some ⟨g, off, none⟩ ∧ wr.cell? ⟨g, off + i, none⟩ = some (.int .i64 (a : Int)) := by
  obtain ⟨A, c, rfl, hc, _, hs⟩ := Seg.of_own h
  refine ⟨A, c, rfl, fun B wr hf i a hi => ?_⟩
  rcases hs with h1 | ⟨g, off, rfl, hg, hcc⟩
  · have : xs = [] := by simpa using h1
    subst this
    simp at hi
  · refine ⟨g, off, rfl, ?_⟩
    have h2 := hcc i (.int .i64 (a : Int)) (by rw [List.getElem?_map, hi]; rfl)
    rcases h.2 with ⟨h3, _⟩ | ⟨g', cap, cur, h3, h4, h5, _⟩
    · simp at h3
    · injection h3 with h3 _ _
      injection h3 with h3
      injection h3 with h3 _ _
      subst h3
      rw [Lib.cell_of_heap h5] at h2
      rw [Lib.cell_of_heap (hf.blk h5 (by omega) (by decide))]
      exact h2
/-- What the loop holds: where it stands, what is written. -/
structure InvS (many D : Int) (F : List Nd → ByteArray → ByteArray → Int → ByteArray) (l : List Nd) (ahead bar : ByteArray) (dp : Int) (TOT : ByteArray) (B b : Nat) (bs : List Value) (xs : List Nat) (w1 : World) (i : Nat) (wr : World) : Prop where
  ex : ∃ a ys s T, s ++ ys = xs ∧ s.length = i ∧ Stand l a ys ∧ T ++ itemsT many F l ahead bar dp ys i = TOT ∧ ShI B b D many (bs ++ Lib.strCells T) wr
  fr : Fr B b w1 wr
theorem InvS.drew {many D : Int} {F : List Nd → ByteArray → ByteArray → Int → ByteArray} {l : List Nd} {ahead bar : ByteArray} {dp : Int} {TOT : ByteArray} {B b : Nat} {bs : List Value} {xs : List Nat} {w1 : World} {i : Nat} {wr : World} (h : InvS many D F l ahead bar dp TOT B b bs xs w1 i wr) : InvS many D F l ahead bar dp TOT B b bs xs w1 i wr.drew := ⟨h.ex, h.fr.below.drew, h.fr.rest⟩
set_option maxHeartbeats 8000000 in
set_option maxRecDepth 100000 in
theorem list_step (many D : Int) (F : List Nd → ByteArray → ByteArray → Int → ByteArray) (l : List Nd) (hF0 : ∀ ahead bar d, F [] ahead bar d = ⟨#[]⟩) (IH : ∀ l', l'.length < l.length → ListC many D F l') :
    ListC many D (fun l ahead bar deep => itemsT many F l ahead bar deep (itsD l) 0) l := by
  intro B b bs A c ahead bar lv w hc hch hcap hls hsh hB htb hlen hab hlv hl1 hl9
  simp only at hlen ⊢
  have hl := (chk_run hc).1
  have hits := itsD_is hc
  generalize hxs : itsD l = xs at *
  have hst := stand0 hc hits
  have hxl2 := Its.len hits
  generalize hTOT : itemsT many F l ahead bar (D - lv + 1) xs 0 = TOT at *
  have HTOT := Lib.hid hTOT
  have HIT := Lib.hid (fun (w1 : World) (hs : Seg w1 w1.heap.size A (l.flatMap ncs)) => items_any A l c xs w1 hl hs hits)
  have HST := Lib.hid hst
  have HC := Lib.hid hc
  have HCH := Lib.hid hch
  have HLS := Lib.hid hls
  have HSH := Lib.hid hsh
  have HTB := Lib.hid htb
  have HIH := Lib.hid IH
  have HF0 := Lib.hid hF0
  clear hTOT hst hc hch hls hsh htb IH hF0 hits hxs
  generalize hll : l.length = ln at *
  have HLL := Lib.hid hll
  clear hll
  go_enter Tryz.func12, Tryz.ntmps12
  go_wp2_with fail
  refine (ways_any w).mono ?_
  rintro e w1 ⟨rfl, hb1⟩
  unfold waysV
  go_wp2_with fail
  have hbl0 : Below w.heap.size w (w1.alloc (.cells waysV 68)) := andAlloc hb1 _
  have hfr0 : Fr B b w (w1.alloc (.cells waysV 68)) := (Fr.refl B b w).new hB hbl0
  have hwv : (w1.alloc (.cells waysV 68)).heap[w1.heap.size]? = some (.cells waysV 68 (0, 0)) := heap_alloc_new w1 _
  have hbw : b < w1.heap.size := Nat.lt_of_lt_of_le HSH.out.cell.2.2 hb1.size
  change Calls _ _ _ (w1.alloc (.cells waysV 68)) _
  generalize w1.alloc (.cells waysV 68) = w2 at hbl0 hfr0 hwv ⊢
  generalize hgw : w1.heap.size = gw at hwv hbw ⊢
  have hls2 := HLS.out.keep hfr0
  refine (HIT.out _ hls2.1).mono ?_
  rintro e w3 ⟨v, rfl, hown, hb3⟩
  have hlt2 : b < w2.heap.size := Nat.lt_trans hbw (Array.getElem?_eq_some_iff.1 hwv).1
  obtain ⟨A2, c2, rfl, hix⟩ := itms_at hown hlt2
  have HIX := Lib.hid (fun wr (h : Fr B b w3 wr) => hix B wr h)
  have hfr3 := hfr0.new hB hb3
  have hbl3 : Below w.heap.size w w3 := andThen hbl0 hb3
  have HWV := Lib.hid ((hb3.block gw (Array.getElem?_eq_some_iff.1 hwv).1).trans hwv)
  have HL3 := Lib.hid (hls2.keep ((Fr.refl B b w2).new (Nat.le_trans hB hfr0.below.size) hb3))
  have HF3 := Lib.hid hfr3
  have hsh3 : ShI B b D many bs w3 := HSH.out.below hbl3
  have hI0 : InvS many D F l ahead bar (D - lv + 1) TOT B b bs xs w3 0 w3 := ⟨⟨0, xs, [], ⟨#[]⟩, rfl, rfl, HST.out, (ByteArray.empty_append ..).trans HTOT.out, by simpa [Lib.strCells] using hsh3⟩, Fr.refl _ _ _⟩
  have HI0 := Lib.hid hI0
  clear hI0 hbl0 hbl3 hsh3 hfr3 hfr0 hls2 hown hb3 hwv hix hb1 HIT hlt2
  generalize hxl : xs.length = xl at *
  have HXL := Lib.hid hxl
  clear hxl
  go_wp2_with fail
  go_loopw [22] (fun v22 wr => ∃ i : Nat, v22 = .int .i64 (i : Int) ∧ InvS many D F l ahead bar (D - lv + 1) TOT B b bs xs w3 i wr) (fun v22 _ => xl - (intOf v22).toNat)
  case atStart => exact ⟨0, rfl, HI0.out⟩
  case round =>
    obtain ⟨i, rfl, hI⟩ := hrel
    obtain ⟨⟨a0, ys, s, T, hs, hsi, hst, hT, hsh⟩, hfr⟩ := hI
    have hBr : B ≤ wr.heap.size := Nat.le_trans hB (Nat.le_trans HF3.out.below.size hfr.below.size)
    cases ys with
    | nil =>
      have hi : i = xl := by have := congrArg List.length hs; rw [HXL.out] at this; simp at this; omega
      have hT2 : T = TOT := by rw [← hT]; exact (ByteArray.append_empty ..).symm
      subst hT2
      have HR := Lib.hid hsh
      have HFR := Lib.hid (HF3.out.trans hfr)
      clear hsh hfr hs hst hT
      go_wp2_with fail
      go_end0
      exact ⟨rfl, HR.out, HFR.out⟩
    | cons a ys =>
      obtain ⟨rfl, -⟩ := hst.its
      have hyi : xs[i]? = some a := by rw [← hs, List.getElem?_append_right (by omega), hsi, Nat.sub_self]; rfl
      have hil : i < xl := by have := (List.getElem?_eq_some_iff.1 hyi).1; rw [HXL.out] at this; exact this
      have hal : a < l.length := by
        have h1 := hst.le
        rcases Nat.lt_or_ge a l.length with h2 | h2
        · exact h2
        · obtain rfl : a = l.length := by omega
          have := hst.done
          simp at this
      obtain ⟨m, zs, x, he, hm, hm1, ham, hst2, hci, hx, h6, h11⟩ := hst.step (by rw [HLL.out]; exact hl) hal
      injection he with _ he
      subst he
      obtain ⟨g2, o2, rfl, hcell⟩ := HIX.out wr hfr i a hyi
      obtain ⟨hd, hmn, hbl⟩ := hsh.cell
      have hTs := congrArg ByteArray.size hT
      rw [ByteArray.size_append] at hTs
      have hTl : (bs ++ Lib.strCells T).length = bs.length + T.size := by rw [List.length_append, Lib.strCells_length]
      by_cases hq : (i : Int) = many
      · subst hq
        rw [show itemsT (i : Int) F l ahead bar (D - lv + 1) (a :: ys) i = ahead ++ bar ++ etcK from if_pos rfl] at hT hTs
        have hz1 : ¬ 9223372036854775807 < ahead.size + bar.size := by omega
        have hz2 : ¬ 9223372036854775807 < (ahead ++ bar).size + (⟨#[101, 116, 99, 46, 10]⟩ : ByteArray).size := by rw [ByteArray.size_append]; show ¬ 9223372036854775807 < _ + 5; omega
        have HW := Lib.hid (write_sh B b D (i : Int) (bs ++ Lib.strCells T) (ahead ++ bar ++ ⟨#[101, 116, 99, 46, 10]⟩) wr hsh (by rw [hTl]; have h9 : (ahead ++ bar ++ ⟨#[101, 116, 99, 46, 10]⟩).size = (ahead ++ bar ++ etcK).size := rfl; omega) hBr)
        have HT := Lib.hid (show bs ++ Lib.strCells T ++ Lib.strCells (ahead ++ bar ++ ⟨#[101, 116, 99, 46, 10]⟩) = bs ++ Lib.strCells TOT by rw [List.append_assoc, ← strCells_append]; exact congrArg (fun z => bs ++ Lib.strCells z) hT)
        have HFR := Lib.hid hfr
        clear hsh hfr hs hst hT hst2 hm hm1 hci hx h6 h11 hTs hTl hyi hal ham hBr hd hlen hab hlv hl9
        go_wp2_with fail
        refine HW.out.mono ?_
        rintro e w4 ⟨rfl, h4, hb4, hk4⟩
        rw [HT.out] at h4
        have H4 := Lib.hid h4
        have HF4 := Lib.hid ((HF3.out.trans HFR.out).trans ⟨hb4, hk4⟩)
        clear h4 hb4 hk4
        go_wp2_with fail
        go_returns
        exact ⟨rfl, H4.out, HF4.out⟩
      · have e1 : ((i : Int) == many) = false := by simp [hq]
        rw [show itemsT many F l ahead bar (D - lv + 1) (a :: ys) i = itemT F l ahead bar (D - lv + 1) a ++ itemsT many F l ahead bar (D - lv + 1) ys (i + 1) from if_neg hq] at hT
        have hP := parts_of HC.out hx hm hci ham
        have hxr : right x = true := chk_right HC.out x (List.mem_of_getElem? hx)
        have hzl := line_size hxr hP.three
        have hLr := HL3.out.keep hfr
        obtain ⟨gf, hgf, hcf, hcall⟩ := way_any (.pointer (some ⟨b, 0, none⟩)) A l c a m x wr HC.out (by rw [HLL.out]; exact hcap) hLr.1 hx hm hci ham hxr (HCH.out x (List.mem_of_getElem? hx)) (HTB.out wr (HF3.out.below.trans hfr.below)) h6 h11
        obtain ⟨b1, off, rfl, hb1, hn⟩ := seg_node hLr.1 hx
        rw [HLL.out] at hcall hal ham
        have hali : (a : Int) < (ln : Int) := by omega
        have hkk : 1 ≤ x.kind ∧ x.kind ≤ 17 := by
          unfold right at hxr
          simp only [Bool.and_eq_true, winB, decide_eq_true_eq] at hxr
          exact hxr.1
        have hk2 : 0 ≤ x.kind := by omega
        have hk3 : x.kind < 18 := by omega
        have hgwb : wr.heap[gw]? = some (.cells waysV 68 (0, 0)) := hfr.blk HWV.out (by omega) (by decide)
        have hgwl : gw < wr.heap.size := (Array.getElem?_eq_some_iff.1 hgwb).1
        have hIN := fun (y : Nd) (hy : y ∈ inL l a m x) => HCH.out y (mem_in hy)
        have hBE := fun (y : Nd) (hy : y ∈ beL l a m x) => HCH.out y (mem_be hy)
        have HP := Lib.hid hP
        have HX := Lib.hid hx
        have HM := Lib.hid hm
        have HCI := Lib.hid hci
        have HCALL := Lib.hid hcall
        have HSHR := Lib.hid hsh
        have HFR := Lib.hid hfr
        have HLR := Lib.hid hLr
        have HT := Lib.hid hT
        have HST2 := Lib.hid hst2
        have HSX1 := Lib.hid hs
        have HIN := Lib.hid hIN
        have HBE := Lib.hid hBE
        have HXR := Lib.hid hxr
        clear hP hx hm hci hcall hsh hfr hLr hT hst2 hs hTs hyi hst hIN hBE hxr hkk
        have HZT := Lib.hid (it_zero (F := F) (ahead := ahead) (bar := bar) (dp := D - lv + 1) HX.out HM.out)
        have HZD := Lib.hid (it_deep (F := F) (ahead := ahead) (bar := bar) (dp := D - lv + 1) HX.out HM.out)
        have HZM := Lib.hid (it_more (F := F) (ahead := ahead) (bar := bar) (dp := D - lv + 1) HX.out HM.out)
        generalize lineT x (thK l a m x) = LT at hzl HCALL HZT HZD HZM
        have hz1 : ¬ 9223372036854775807 < ahead.size + bar.size := by omega
        have hz2 : ¬ 9223372036854775807 < (ahead ++ bar).size + LT.size := by rw [ByteArray.size_append]; omega
        go_upto_region 7 with (first | (refine wpList_load_node rfl _ rfl _ _ rfl _ hn ?_) | (refine wpList_alloc_node rfl rfl ?_) | (refine wpList_store_node rfl _ _ rfl _ _ _ rfl rfl _ (by repeat (first | (apply Blk.new'; first | rfl | (simp; done)) | assumption | apply Blk.alloc)) ?_))
        rw [setRow_new _ _ _ _ _ rfl]
        have hH0 : Hd wr wr.heap.size x (wr.alloc (.cells (nc x) 36)) := ⟨(Blk.new wr 36 (nc x)).node, by simp, andAlloc (Below.refl wr.heap.size wr) _⟩
        have cw : (wr.alloc (.cells (nc x) 36)).cell? ⟨gw, x.kind.toNat, none⟩ = some (.func (.func gf) #[] #[]) := by
          rw [Lib.cell_of_heap ((Lib.alloc_old wr _ gw hgwl).trans hgwb)]
          exact hgf
        have hnr : wr.heap.size = wr.heap.size := rfl
        generalize wr.alloc (.cells (nc x) 36) = w5 at hH0 cw ⊢
        have k0 := hH0.at (j := 0) rfl
        clear hn hgwb hgf hcell hmn hd
        go_wp2_with fail
        have hb3 : B ≤ w3.heap.size := Nat.le_trans hB HF3.out.below.size
        refine (HCALL.out w5 hH0.2.2).mono ?_
        rintro e w6 ⟨rfl, hb6⟩
        have hH6 := hH0.keep hb6
        have hF6 := HFR.out.new hb3 hH6.2.2
        have hL6 := HLR.out.keep ((Fr.refl B b wr).new hBr hH6.2.2)
        have hS6 := HSHR.out.below hH6.2.2
        have k6 := hH6.at (j := 0) rfl
        have hn6x := hH6.1
        have hbl6 : b < w6.heap.size := Nat.lt_of_lt_of_le hbl hH6.2.2.size
        have HH6 := Lib.hid hH6
        have HF6 := Lib.hid hF6
        have HL6 := Lib.hid hL6
        have HS6 := Lib.hid hS6
        clear hH0 hb6 k0 cw hcf hH6 hF6 hL6 hS6
        have hlin := HP.out.len
        have hwl : IntKind.i64.wrap (lv + 1) = lv + 1 := IntWalk.i64_in _ (by omega)
        have hz3 : ¬ 9223372036854775807 < (ahead ++ bar ++ LT).size + (⟨#[10]⟩ : ByteArray).size := by rw [ByteArray.size_append, ByteArray.size_append]; show ¬ 9223372036854775807 < _ + 1; omega
        have hz4 : ¬ 9223372036854775807 < (ahead ++ bar ++ LT).size + (⟨#[32, 91, 93]⟩ : ByteArray).size := by rw [ByteArray.size_append, ByteArray.size_append]; show ¬ 9223372036854775807 < _ + 3; omega
        have hz5 : ¬ 9223372036854775807 < (ahead ++ bar ++ LT ++ ⟨#[32, 91, 93]⟩).size + (⟨#[10]⟩ : ByteArray).size := by rw [ByteArray.size_append, ByteArray.size_append, ByteArray.size_append]; show ¬ 9223372036854775807 < _ + 3 + 1; omega
        have hz6 : ¬ 9223372036854775807 < ahead.size + (⟨#[46]⟩ : ByteArray).size := by show ¬ 9223372036854775807 < _ + 1; omega
        have hz7 : ¬ 9223372036854775807 < bar.size + (⟨#[124]⟩ : ByteArray).size := by show ¬ 9223372036854775807 < _ + 1; omega
        have hdm : lv ≤ D := by
          rcases hlv with h | h
          · exact h
          · rw [h] at HLL; have := HLL.out; simp at this; omega
        rw [Int.add_sub_cancel] at HZM
        by_cases k10 : x.kind = 10
        · have e10 : (x.kind == 10) = true := by simp [k10]
          obtain ⟨h2, hdd⟩ := ssD_is HC.out HX.out k10 HM.out
          have HT3 := Lib.hid (three_any (some ⟨b1, off, none⟩) l c a m _ x w6 HC.out (by rw [HLL.out]; exact hcap) HL6.out.1 HX.out HM.out hdd h2)
          have hLi : inL l a m x = thr (ssD (l.drop (a + 1)) m) (l.drop (a + 1)) 0 0 := by unfold inL; rw [if_pos k10]
          have hLb : beL l a m x = thr (ssD (l.drop (a + 1)) m) (l.drop (a + 1)) 0 1 := by unfold beL; rw [if_pos k10]
          rw [HLL.out, ] at HT3
          have hdd' := Lib.hid hdd
          clear hdd k10
          go_wp2_with fail
          refine HT3.out.mono ?_
          rintro e w7 ⟨vs, rfl, ho, hb7⟩
          obtain ⟨A3, c3, h30, hc3, hL3⟩ := LSg.own (B := B) (ho.own 0 (by omega)) hbl6
          obtain ⟨A4, c4, h31, hc4, hL4⟩ := LSg.own (B := B) (ho.own 1 (by omega)) hbl6
          obtain ⟨A9, c9, h32, _, _⟩ := LSg.own (B := B) (ho.own 2 (by omega)) hbl6
          rw [← hLi] at h30 hc3 hL3
          rw [← hLb] at h31 hc4 hL4
          have hF7 := HF6.out.new hb3 hb7
          have hB6 : B ≤ w6.heap.size := Nat.le_trans hb3 HF6.out.below.size
          have hS7 := HS6.out.below hb7
          rw [show tc3 vs = #[vs 0, vs 1, vs 2] from rfl, h30, h31, h32]
          obtain ⟨n5, hn5⟩ : ∃ n, (inL l a m x).length = n := ⟨_, rfl⟩
          obtain ⟨n7, hn7⟩ : ∃ n, (beL l a m x).length = n := ⟨_, rfl⟩
          rw [hn5] at hc3 ⊢
          rw [hn7] at hc4 ⊢
          generalize (thr (ssD (l.drop (a + 1)) m) (l.drop (a + 1)) 0 2).length = n9
          clear ho hLi hLb h30 h31 h32 hdd'
          go_upto_region 11 with fail
          have hF8 := hF7.new hb3 (andAlloc (Below.refl w7.heap.size w7) (.cells #[.slice A3 n5 c3, .slice A4 n7 c4, .slice A9 n9 c9] 75))
          have hB7 : B ≤ w7.heap.size := Nat.le_trans hB6 hb7.size
          have hfr78 := (Fr.refl B b w7).new hB7 (andAlloc (Below.refl w7.heap.size w7) (.cells #[.slice A3 n5 c3, .slice A4 n7 c4, .slice A9 n9 c9] 75))
          have hL38 := hL3.keep hfr78
          have hL48 := hL4.keep hfr78
          have hS8 := hS7.below (andAlloc (Below.refl w7.heap.size w7) (.cells #[.slice A3 n5 c3, .slice A4 n7 c4, .slice A9 n9 c9] 75))
          have d0 : (w7.alloc (.cells #[.slice A3 n5 c3, .slice A4 n7 c4, .slice A9 n9 c9] 75)).cell? ⟨w7.heap.size, 0, none⟩ = some (.slice A3 n5 c3) := (Blk.new' rfl).cell 0
          have d1 : (w7.alloc (.cells #[.slice A3 n5 c3, .slice A4 n7 c4, .slice A9 n9 c9] 75)).cell? ⟨w7.heap.size, 1, none⟩ = some (.slice A4 n7 c4) := (Blk.new' rfl).cell 1
          generalize w7.alloc (.cells #[.slice A3 n5 c3, .slice A4 n7 c4, .slice A9 n9 c9] 75) = w8 at hF8 hL38 hL48 hS8 d0 d1 ⊢
          clear hfr78 hL3 hL4 hS7 hF7 hb7
          generalize w7.heap.size = g8 at d0 d1 ⊢

          refine wp_region_held_drew (S := fun w1 => w1 = w8.drew) (by kernel_rfl) (rfl) (fun hH => ?_)
          refine take_lit (i := 0) (v := (.pointer (some ⟨g8, 0, none⟩))) (by kernel_rfl) (by kernel_rfl) (by kernel_rfl) (by kernel_rfl) (fun _ _ _ _ h => h) hH (fun oi hoi => ?_)
          simp only [List.getElem?_toArray, List.getElem?_cons_succ, List.getElem?_cons_zero, Option.some.injEq] at hoi
          subst hoi
          refine ⟨.inl ⟨by rfl, fun w hSw => ?_⟩, ?_⟩
          · skip
            first | (go_simp; done) | (go_simp; omega) | (go_simp; with_reducible rfl) | (go_simp; kernel_rfl)
          simp only [Act.put, List.setIfInBounds_toArray, List.set_cons_zero, List.set_cons_succ]
          refine take_lit (i := 1) (v := (.slice A3 n5 c3)) (by kernel_rfl) (by kernel_rfl) (by kernel_rfl) (by kernel_rfl) (fun _ _ _ _ h => h) hH (fun oi hoi => ?_)
          simp only [List.getElem?_toArray, List.getElem?_cons_succ, List.getElem?_cons_zero, Option.some.injEq] at hoi
          subst hoi
          refine ⟨.inl ⟨by rfl, fun w hSw => ?_⟩, ?_⟩
          · skip
            subst hSw
            first | (go_simp; done) | (go_simp; omega) | (go_simp; with_reducible rfl) | (go_simp; kernel_rfl)
          simp only [Act.put, List.setIfInBounds_toArray, List.set_cons_zero, List.set_cons_succ]
          refine take_lit (i := 2) (v := (.pointer (some ⟨g8, 1, none⟩))) (by kernel_rfl) (by kernel_rfl) (by kernel_rfl) (by kernel_rfl) (fun _ _ _ _ h => h) hH (fun oi hoi => ?_)
          simp only [List.getElem?_toArray, List.getElem?_cons_succ, List.getElem?_cons_zero, Option.some.injEq] at hoi
          subst hoi
          refine ⟨.inl ⟨by rfl, fun w hSw => ?_⟩, ?_⟩
          · skip
            first | (go_simp; done) | (go_simp; omega) | (go_simp; with_reducible rfl) | (go_simp; kernel_rfl)
          simp only [Act.put, List.setIfInBounds_toArray, List.set_cons_zero, List.set_cons_succ]
          refine take_lit (i := 3) (v := (.slice A4 n7 c4)) (by kernel_rfl) (by kernel_rfl) (by kernel_rfl) (by kernel_rfl) (fun _ _ _ _ h => h) hH (fun oi hoi => ?_)
          simp only [List.getElem?_toArray, List.getElem?_cons_succ, List.getElem?_cons_zero, Option.some.injEq] at hoi
          subst hoi
          refine ⟨.inl ⟨by rfl, fun w hSw => ?_⟩, ?_⟩
          · skip
            subst hSw
            first | (go_simp; done) | (go_simp; omega) | (go_simp; with_reducible rfl) | (go_simp; kernel_rfl)
          simp only [Act.put, List.setIfInBounds_toArray, List.set_cons_zero, List.set_cons_succ]
          refine take_lit (i := 4) (v := (.slice A3 n5 c3)) (by kernel_rfl) (by kernel_rfl) (by kernel_rfl) (by kernel_rfl) (fun _ _ _ _ h => h) hH (fun oi hoi => ?_)
          simp only [List.getElem?_toArray, List.getElem?_cons_succ, List.getElem?_cons_zero, Option.some.injEq] at hoi
          subst hoi
          refine ⟨.inl ⟨by rfl, fun w hSw => ?_⟩, ?_⟩
          · skip
            first | (go_simp; done) | (go_simp; omega) | (go_simp; with_reducible rfl) | (go_simp; kernel_rfl)
          simp only [Act.put, List.setIfInBounds_toArray, List.set_cons_zero, List.set_cons_succ]
          refine take_lit (i := 5) (v := (.slice A4 n7 c4)) (by kernel_rfl) (by kernel_rfl) (by kernel_rfl) (by kernel_rfl) (fun _ _ _ _ h => h) hH (fun oi hoi => ?_)
          simp only [List.getElem?_toArray, List.getElem?_cons_succ, List.getElem?_cons_zero, Option.some.injEq] at hoi
          subst hoi
          refine ⟨.inl ⟨by rfl, fun w hSw => ?_⟩, ?_⟩
          · skip
            first | (go_simp; done) | (go_simp; omega) | (go_simp; with_reducible rfl) | (go_simp; kernel_rfl)
          simp only [Act.put, List.setIfInBounds_toArray, List.set_cons_zero, List.set_cons_succ]
          refine wpAnyH_done (by kernel_rfl) ?_ _
          have hFX := (show Fr B b w3 w8.drew from ⟨hF8.below.drew, hF8.rest⟩)
          have hL5 := hL38
          have hL6 := hL48
          have hSX := hS8
          change LSg B b w8.drew _ _ at hL5 hL6
          change ShI B b D many _ w8.drew at hSX
          have hc5 := hc3
          have hc6 := hc4
          have hn6 := hn7
          clear hF8 hL38 hL48 hS8 d0 d1
          generalize w8.drew = wx at *
          have hBX : B ≤ wx.heap.size := Nat.le_trans hb3 hFX.below.size
          by_cases z : n5 + n7 = 0
          · skip
            have zz : ¬ (0 : Int) < (n5 : Int) + (n7 : Int) := by omega
            have hIT : itemT F l ahead bar (D - lv + 1) a = (ahead ++ bar ++ LT ++ ⟨#[10]⟩) ++ F (inL l a m x) (ahead ++ ⟨#[46]⟩) bar (D - lv) ++ F (beL l a m x) (ahead ++ ⟨#[46]⟩) (bar ++ ⟨#[124]⟩) (D - lv) :=
              (HZT.out (by rw [hn5, hn6] <;> exact z)).trans (app_nil2 (by rw [len_nil hn5 (by omega)]; exact HF0.out _ _ _) (by rw [len_nil hn6 (by omega)]; exact HF0.out _ _ _))
            have hFT := fit_text HT.out hIT
            have hsz := congrArg ByteArray.size hFT
            simp only [ByteArray.size_append] at hsz
            have HW := Lib.hid (write_sh B b D many (bs ++ Lib.strCells T) (ahead ++ bar ++ LT ++ ⟨#[10]⟩) wx hSX (by rw [hTl]; simp only [ByteArray.size_append]; omega) hBX)
            have HFT := Lib.hid hFT
            have HSZ := Lib.hid hsz
            have HSX := Lib.hid hSX
            have HFX := Lib.hid hFX
            have HL5 := Lib.hid hL5
            have HL6 := Lib.hid hL6
            clear hIT hFT hsz hSX hFX hL5 hL6 hTl
            have hsl := HSX.out.cell
            have q2 := hsl.1
            clear hsl
            go_wp2_with fail
            refine HW.out.mono ?_
            rintro e w9 ⟨rfl, h9, hb9, hk9⟩
            rw [List.append_assoc, ← strCells_append] at h9
            have hf9 : Fr B b wx w9 := ⟨hb9, hk9⟩
            have hF9 := HFX.out.trans hf9
            have hB9 : B ≤ w9.heap.size := Nat.le_trans hBX hb9.size
            have hl5 : LSg B b w9 A3 (inL l a m x) := HL5.out.keep hf9
            have hl6 : LSg B b w9 A4 (beL l a m x) := HL6.out.keep hf9
            have HS := HSZ.out
            have H1 := Lib.hid (sub_call (n := n5) (c := c3) (ahead := ahead ++ ⟨#[46]⟩) (bar := bar) (HIH.out (inL l a m x) (by rw [hn5]; omega)) HP.out.one HIN.out hn5 hc5 hl5 h9 hB9 (fun w' h => HTB.out w' ((HF3.out.trans hF9).below.trans h)) (by simp only [ByteArray.size_append]; omega) (by rw [ByteArray.size_append]; show _ + 1 + _ + _ ≤ _; omega) (.inr (len_nil hn5 (by omega))) hl1 (by omega))
            have HF9 := Lib.hid hF9
            have HL69 := Lib.hid hl6
            clear h9 hb9 hk9 hf9 hF9 hl5 hl6 HS
            go_wp2_with fail
            refine H1.out.mono ?_
            rintro e w10 ⟨rfl, h10, hf10⟩
            have hB10 : B ≤ w10.heap.size := Nat.le_trans hB9 hf10.below.size
            have HS := HSZ.out
            have H2 := Lib.hid (sub_call (n := n7) (c := c4) (ahead := ahead ++ ⟨#[46]⟩) (bar := bar ++ ⟨#[124]⟩) (HIH.out (beL l a m x) (by rw [hn6]; omega)) HP.out.two HBE.out hn6 hc6 (HL69.out.keep hf10) h10 hB10 (fun w' h => HTB.out w' (((HF3.out.trans HF9.out).trans hf10).below.trans h)) (by simp only [ByteArray.size_append]; omega) (by rw [ByteArray.size_append, ByteArray.size_append]; show _ + 1 + (_ + 1) + _ ≤ _; omega) (.inr (len_nil hn6 (by omega))) hl1 (by omega))
            have HF10 := Lib.hid (HF9.out.trans hf10)
            clear h10 hf10 HS
            go_wp2_with fail
            refine H2.out.mono ?_
            rintro e w11 ⟨rfl, h11x, hf11⟩
            have H11 := Lib.hid h11x
            have HF11 := Lib.hid (HF10.out.trans hf11)
            clear h11x hf11
            go_wp2_with fail
            have e3 : (s ++ [a]) ++ ys = xs := (List.append_assoc s [a] ys).trans HSX1.out
            have e4 : (s ++ [a]).length = i + 1 := by rw [List.length_append, hsi]; rfl
            have HINV := Lib.hid (InvS.mk (many := many) (D := D) (F := F) (l := l) (ahead := ahead) (bar := bar) (dp := D - lv + 1) (TOT := TOT) (B := B) (b := b) (bs := bs) (xs := xs) (w1 := w3) (i := i + 1) (wr := w11) (Exists.intro (a + m) (Exists.intro ys (Exists.intro (s ++ [a]) (Exists.intro _ (And.intro e3 (And.intro e4 (And.intro HST2.out (And.intro HFT.out H11.out)))))))) HF11.out)
            go_roundw
            case rel => exact ⟨i + 1, by go_num, HINV.out⟩
            case measure =>
              clear hlen hz1 hz2 hz3 hz4 hz5 hz6 hz7
              simp [intOf]; omega
          · skip
            have zz : (0 : Int) < (n5 : Int) + (n7 : Int) := by omega
            by_cases zl : lv = D
            · subst zl
              have hIT : itemT F l ahead bar (lv - lv + 1) a = (ahead ++ bar ++ LT ++ ⟨#[32, 91, 93]⟩ ++ ⟨#[10]⟩) ++ F ([] : List Nd) (ahead ++ ⟨#[46]⟩) bar (lv - lv) ++ F ([] : List Nd) (ahead ++ ⟨#[46]⟩) (bar ++ ⟨#[124]⟩) (lv - lv) :=
                (HZD.out (by rw [hn5, hn6] <;> exact z) (by omega)).trans (app_nil2 (HF0.out _ _ _) (HF0.out _ _ _))
              have hFT := fit_text HT.out hIT
              have hsz := congrArg ByteArray.size hFT
              simp only [ByteArray.size_append] at hsz
              have HW := Lib.hid (write_sh B b lv many (bs ++ Lib.strCells T) (ahead ++ bar ++ LT ++ ⟨#[32, 91, 93]⟩ ++ ⟨#[10]⟩) wx hSX (by rw [hTl]; simp only [ByteArray.size_append]; omega) hBX)
              have HFT := Lib.hid hFT
              have HSZ := Lib.hid hsz
              have HSX := Lib.hid hSX
              have HFX := Lib.hid hFX
              have HL5 := Lib.hid hL5
              have HL6 := Lib.hid hL6
              clear hIT hFT hsz hSX hFX hL5 hL6 hTl
              have hsl := HSX.out.cell
              have q2 := hsl.1
              clear hsl
              go_wp2_with fail
              refine HW.out.mono ?_
              rintro e w9 ⟨rfl, h9, hb9, hk9⟩
              rw [List.append_assoc, ← strCells_append] at h9
              have hf9 : Fr B b wx w9 := ⟨hb9, hk9⟩
              have hF9 := HFX.out.trans hf9
              have hB9 : B ≤ w9.heap.size := Nat.le_trans hBX hb9.size
              have hl5 : LSg B b w9 none ([] : List Nd) := LSg.nil _ _ _
              have hl6 : LSg B b w9 none ([] : List Nd) := LSg.nil _ _ _
              have HS := HSZ.out
              have H1 := Lib.hid (sub_call (n := 0) (c := 0) (ahead := ahead ++ ⟨#[46]⟩) (bar := bar) (HIH.out ([] : List Nd) (by simp; omega)) rfl (fun _ h => by simp at h) rfl (Nat.le_refl 0) hl5 h9 hB9 (fun w' h => HTB.out w' ((HF3.out.trans hF9).below.trans h)) (by simp only [ByteArray.size_append]; omega) (by rw [ByteArray.size_append]; show _ + 1 + _ + _ ≤ _; omega) (.inr rfl) hl1 (by omega))
              have HF9 := Lib.hid hF9
              have HL69 := Lib.hid hl6
              clear h9 hb9 hk9 hf9 hF9 hl5 hl6 HS
              go_wp2_with fail
              refine H1.out.mono ?_
              rintro e w10 ⟨rfl, h10, hf10⟩
              have hB10 : B ≤ w10.heap.size := Nat.le_trans hB9 hf10.below.size
              have HS := HSZ.out
              have H2 := Lib.hid (sub_call (n := 0) (c := 0) (ahead := ahead ++ ⟨#[46]⟩) (bar := bar ++ ⟨#[124]⟩) (HIH.out ([] : List Nd) (by simp; omega)) rfl (fun _ h => by simp at h) rfl (Nat.le_refl 0) (HL69.out.keep hf10) h10 hB10 (fun w' h => HTB.out w' (((HF3.out.trans HF9.out).trans hf10).below.trans h)) (by simp only [ByteArray.size_append]; omega) (by rw [ByteArray.size_append, ByteArray.size_append]; show _ + 1 + (_ + 1) + _ ≤ _; omega) (.inr rfl) hl1 (by omega))
              have HF10 := Lib.hid (HF9.out.trans hf10)
              clear h10 hf10 HS
              go_wp2_with fail
              refine H2.out.mono ?_
              rintro e w11 ⟨rfl, h11x, hf11⟩
              have H11 := Lib.hid h11x
              have HF11 := Lib.hid (HF10.out.trans hf11)
              clear h11x hf11
              go_wp2_with fail
              have e3 : (s ++ [a]) ++ ys = xs := (List.append_assoc s [a] ys).trans HSX1.out
              have e4 : (s ++ [a]).length = i + 1 := by rw [List.length_append, hsi]; rfl
              have HINV := Lib.hid (InvS.mk (many := many) (D := lv) (F := F) (l := l) (ahead := ahead) (bar := bar) (dp := lv - lv + 1) (TOT := TOT) (B := B) (b := b) (bs := bs) (xs := xs) (w1 := w3) (i := i + 1) (wr := w11) (Exists.intro (a + m) (Exists.intro ys (Exists.intro (s ++ [a]) (Exists.intro _ (And.intro e3 (And.intro e4 (And.intro HST2.out (And.intro HFT.out H11.out)))))))) HF11.out)
              go_roundw
              case rel => exact ⟨i + 1, by go_num, HINV.out⟩
              case measure =>
                clear hlen hz1 hz2 hz3 hz4 hz5 hz6 hz7
                simp [intOf]; omega
            · skip
              have hIT : itemT F l ahead bar (D - lv + 1) a = (ahead ++ bar ++ LT ++ ⟨#[10]⟩) ++ F (inL l a m x) (ahead ++ ⟨#[46]⟩) bar (D - lv) ++ F (beL l a m x) (ahead ++ ⟨#[46]⟩) (bar ++ ⟨#[124]⟩) (D - lv) :=
                HZM.out (by rw [hn5, hn6] <;> exact z) (by omega)
              have hFT := fit_text HT.out hIT
              have hsz := congrArg ByteArray.size hFT
              simp only [ByteArray.size_append] at hsz
              have HW := Lib.hid (write_sh B b D many (bs ++ Lib.strCells T) (ahead ++ bar ++ LT ++ ⟨#[10]⟩) wx hSX (by rw [hTl]; simp only [ByteArray.size_append]; omega) hBX)
              have HFT := Lib.hid hFT
              have HSZ := Lib.hid hsz
              have HSX := Lib.hid hSX
              have HFX := Lib.hid hFX
              have HL5 := Lib.hid hL5
              have HL6 := Lib.hid hL6
              clear hIT hFT hsz hSX hFX hL5 hL6 hTl
              have hsl := HSX.out.cell
              have q2 := hsl.1
              clear hsl
              go_wp2_with fail
              refine HW.out.mono ?_
              rintro e w9 ⟨rfl, h9, hb9, hk9⟩
              rw [List.append_assoc, ← strCells_append] at h9
              have hf9 : Fr B b wx w9 := ⟨hb9, hk9⟩
              have hF9 := HFX.out.trans hf9
              have hB9 : B ≤ w9.heap.size := Nat.le_trans hBX hb9.size
              have hl5 : LSg B b w9 A3 (inL l a m x) := HL5.out.keep hf9
              have hl6 : LSg B b w9 A4 (beL l a m x) := HL6.out.keep hf9
              have HS := HSZ.out
              have H1 := Lib.hid (sub_call (n := n5) (c := c3) (ahead := ahead ++ ⟨#[46]⟩) (bar := bar) (HIH.out (inL l a m x) (by rw [hn5]; omega)) HP.out.one HIN.out hn5 hc5 hl5 h9 hB9 (fun w' h => HTB.out w' ((HF3.out.trans hF9).below.trans h)) (by simp only [ByteArray.size_append]; omega) (by rw [ByteArray.size_append]; show _ + 1 + _ + _ ≤ _; omega) (.inl (by omega)) hl1 (by omega))
              have HF9 := Lib.hid hF9
              have HL69 := Lib.hid hl6
              clear h9 hb9 hk9 hf9 hF9 hl5 hl6 HS
              go_wp2_with fail
              refine H1.out.mono ?_
              rintro e w10 ⟨rfl, h10, hf10⟩
              have hB10 : B ≤ w10.heap.size := Nat.le_trans hB9 hf10.below.size
              have HS := HSZ.out
              have H2 := Lib.hid (sub_call (n := n7) (c := c4) (ahead := ahead ++ ⟨#[46]⟩) (bar := bar ++ ⟨#[124]⟩) (HIH.out (beL l a m x) (by rw [hn6]; omega)) HP.out.two HBE.out hn6 hc6 (HL69.out.keep hf10) h10 hB10 (fun w' h => HTB.out w' (((HF3.out.trans HF9.out).trans hf10).below.trans h)) (by simp only [ByteArray.size_append]; omega) (by rw [ByteArray.size_append, ByteArray.size_append]; show _ + 1 + (_ + 1) + _ ≤ _; omega) (.inl (by omega)) hl1 (by omega))
              have HF10 := Lib.hid (HF9.out.trans hf10)
              clear h10 hf10 HS
              go_wp2_with fail
              refine H2.out.mono ?_
              rintro e w11 ⟨rfl, h11x, hf11⟩
              have H11 := Lib.hid h11x
              have HF11 := Lib.hid (HF10.out.trans hf11)
              clear h11x hf11
              go_wp2_with fail
              have e3 : (s ++ [a]) ++ ys = xs := (List.append_assoc s [a] ys).trans HSX1.out
              have e4 : (s ++ [a]).length = i + 1 := by rw [List.length_append, hsi]; rfl
              have HINV := Lib.hid (InvS.mk (many := many) (D := D) (F := F) (l := l) (ahead := ahead) (bar := bar) (dp := D - lv + 1) (TOT := TOT) (B := B) (b := b) (bs := bs) (xs := xs) (w1 := w3) (i := i + 1) (wr := w11) (Exists.intro (a + m) (Exists.intro ys (Exists.intro (s ++ [a]) (Exists.intro _ (And.intro e3 (And.intro e4 (And.intro HST2.out (And.intro HFT.out H11.out)))))))) HF11.out)
              go_roundw
              case rel => exact ⟨i + 1, by go_num, HINV.out⟩
              case measure =>
                clear hlen hz1 hz2 hz3 hz4 hz5 hz6 hz7
                simp [intOf]; omega
        · have e10 : (x.kind == 10) = false := by simp [k10]
          have hLb : beL l a m x = [] := by unfold beL; rw [if_neg k10]
          have hn6 : (beL l a m x).length = 0 := by rw [hLb]; rfl
          have hc6 : 0 ≤ 0 := Nat.le_refl 0
          cases ho : opensB x
          · have hLi : inL l a m x = [] := by unfold inL; rw [if_neg k10, if_neg (by simp [ho])]
            have hn5 : (inL l a m x).length = 0 := by rw [hLi]; rfl
            have HO := Lib.hid ho
            clear ho k10
            go_upto_region 14 with (first
              | (go_at_call 23; (with_reducible refine (opens_any _ _).mono ?_); rintro e w7 ⟨rfl, hw7⟩; simp only [HO.out])
              | (refine wpList_load_node rfl _ rfl _ _ rfl _ hn6x ?_))
            have hFX := HF6.out.new hb3 (show Below w6.heap.size w6 w7 by rw [← hw7]; exact andAlloc (Below.refl _ _) _)
            have hSX := HS6.out.below (show Below w6.heap.size w6 w7 by rw [← hw7]; exact andAlloc (Below.refl _ _) _)
            have hL5 : LSg B b w7 none (inL l a m x) := by rw [hLi]; exact LSg.nil _ _ _
            have hL6 : LSg B b w7 none (beL l a m x) := by rw [hLb]; exact LSg.nil _ _ _
            have hc5 : 0 ≤ 0 := Nat.le_refl 0
            clear hw7 hLi hLb k6 hn6x
            have hBX : B ≤ w7.heap.size := Nat.le_trans hb3 hFX.below.size
            by_cases z : 0 + 0 = 0
            · skip
              have hIT : itemT F l ahead bar (D - lv + 1) a = (ahead ++ bar ++ LT ++ ⟨#[10]⟩) ++ F (inL l a m x) (ahead ++ ⟨#[46]⟩) bar (D - lv) ++ F (beL l a m x) (ahead ++ ⟨#[46]⟩) (bar ++ ⟨#[124]⟩) (D - lv) :=
                (HZT.out (by rw [hn5, hn6] <;> exact z)).trans (app_nil2 (by rw [len_nil hn5 (by omega)]; exact HF0.out _ _ _) (by rw [len_nil hn6 (by omega)]; exact HF0.out _ _ _))
              have hFT := fit_text HT.out hIT
              have hsz := congrArg ByteArray.size hFT
              simp only [ByteArray.size_append] at hsz
              have HW := Lib.hid (write_sh B b D many (bs ++ Lib.strCells T) (ahead ++ bar ++ LT ++ ⟨#[10]⟩) w7 hSX (by rw [hTl]; simp only [ByteArray.size_append]; omega) hBX)
              have HFT := Lib.hid hFT
              have HSZ := Lib.hid hsz
              have HSX := Lib.hid hSX
              have HFX := Lib.hid hFX
              have HL5 := Lib.hid hL5
              have HL6 := Lib.hid hL6
              clear hIT hFT hsz hSX hFX hL5 hL6 hTl
              have hsl := HSX.out.cell
              have q2 := hsl.1
              clear hsl
              go_wp2_with fail
              refine HW.out.mono ?_
              rintro e w9 ⟨rfl, h9, hb9, hk9⟩
              rw [List.append_assoc, ← strCells_append] at h9
              have hf9 : Fr B b w7 w9 := ⟨hb9, hk9⟩
              have hF9 := HFX.out.trans hf9
              have hB9 : B ≤ w9.heap.size := Nat.le_trans hBX hb9.size
              have hl5 : LSg B b w9 none (inL l a m x) := HL5.out.keep hf9
              have hl6 : LSg B b w9 none (beL l a m x) := HL6.out.keep hf9
              have HS := HSZ.out
              have H1 := Lib.hid (sub_call (n := 0) (c := 0) (ahead := ahead ++ ⟨#[46]⟩) (bar := bar) (HIH.out (inL l a m x) (by rw [hn5]; omega)) HP.out.one HIN.out hn5 hc5 hl5 h9 hB9 (fun w' h => HTB.out w' ((HF3.out.trans hF9).below.trans h)) (by simp only [ByteArray.size_append]; omega) (by rw [ByteArray.size_append]; show _ + 1 + _ + _ ≤ _; omega) (.inr (len_nil hn5 (by omega))) hl1 (by omega))
              have HF9 := Lib.hid hF9
              have HL69 := Lib.hid hl6
              clear h9 hb9 hk9 hf9 hF9 hl5 hl6 HS
              go_wp2_with fail
              refine H1.out.mono ?_
              rintro e w10 ⟨rfl, h10, hf10⟩
              have hB10 : B ≤ w10.heap.size := Nat.le_trans hB9 hf10.below.size
              have HS := HSZ.out
              have H2 := Lib.hid (sub_call (n := 0) (c := 0) (ahead := ahead ++ ⟨#[46]⟩) (bar := bar ++ ⟨#[124]⟩) (HIH.out (beL l a m x) (by rw [hn6]; omega)) HP.out.two HBE.out hn6 hc6 (HL69.out.keep hf10) h10 hB10 (fun w' h => HTB.out w' (((HF3.out.trans HF9.out).trans hf10).below.trans h)) (by simp only [ByteArray.size_append]; omega) (by rw [ByteArray.size_append, ByteArray.size_append]; show _ + 1 + (_ + 1) + _ ≤ _; omega) (.inr (len_nil hn6 (by omega))) hl1 (by omega))
              have HF10 := Lib.hid (HF9.out.trans hf10)
              clear h10 hf10 HS
              go_wp2_with fail
              refine H2.out.mono ?_
              rintro e w11 ⟨rfl, h11x, hf11⟩
              have H11 := Lib.hid h11x
              have HF11 := Lib.hid (HF10.out.trans hf11)
              clear h11x hf11
              go_wp2_with fail
              have e3 : (s ++ [a]) ++ ys = xs := (List.append_assoc s [a] ys).trans HSX1.out
              have e4 : (s ++ [a]).length = i + 1 := by rw [List.length_append, hsi]; rfl
              have HINV := Lib.hid (InvS.mk (many := many) (D := D) (F := F) (l := l) (ahead := ahead) (bar := bar) (dp := D - lv + 1) (TOT := TOT) (B := B) (b := b) (bs := bs) (xs := xs) (w1 := w3) (i := i + 1) (wr := w11) (Exists.intro (a + m) (Exists.intro ys (Exists.intro (s ++ [a]) (Exists.intro _ (And.intro e3 (And.intro e4 (And.intro HST2.out (And.intro HFT.out H11.out)))))))) HF11.out)
              go_roundw
              case rel => exact ⟨i + 1, by go_num, HINV.out⟩
              case measure =>
                clear hlen hz1 hz2 hz3 hz4 hz5 hz6 hz7
                simp [intOf]; omega
            · skip
              exact absurd rfl z
          · have hLi : inL l a m x = (l.drop (a + 1)).take (m - 2) := by unfold inL; rw [if_neg k10, if_pos ho]
            have hm2 := endc_two2 HX.out ho HM.out
            have HO := Lib.hid ho
            have HEN := Lib.hid (fun W (h : Seg W W.heap.size (some ⟨b1, off, none⟩) (l.flatMap ncs)) => end_any (some ⟨b1, off, none⟩) l c a m W (by rw [HLL.out]; omega) h HM.out)
            rw [HLL.out] at HEN
            clear ho k10
            go_upto_region 14 with (first
              | (go_at_call 23; (with_reducible refine (opens_any _ _).mono ?_); rintro e w7 ⟨rfl, hw7⟩; simp only [HO.out]; have hsg7 := (HL6.out.keep ((Fr.refl B b w6).new (Nat.le_trans hb3 HF6.out.below.size) (show Below w6.heap.size w6 w7 by rw [← hw7]; exact andAlloc (Below.refl _ _) _))).1)
              | (go_at_call 28; refine (HEN.out _ hsg7).mono ?_; rintro e w8 ⟨rfl, hb8⟩)
              | (refine wpList_load_node rfl _ rfl _ _ rfl _ hn6x ?_))
            have hb68 : Below w6.heap.size w6 w8 := andThen (show Below w6.heap.size w6 w7 by rw [← hw7]; exact andAlloc (Below.refl _ _) _) hb8
            have hFX := HF6.out.new hb3 hb68
            have hSX := HS6.out.below hb68
            have hL68 := HL6.out.keep ((Fr.refl B b w6).new (Nat.le_trans hb3 HF6.out.below.size) hb68)
            obtain ⟨n5, hn5v⟩ : ∃ n, a + m - 1 - (a + 1) = n := ⟨_, rfl⟩
            have hn5 : (inL l a m x).length = n5 := by rw [hLi, List.length_take, List.length_drop, HLL.out]; omega
            have hL5 : LSg B b w8 (some ⟨b1, off + (a + 1) * 19, none⟩) (inL l a m x) := by rw [hLi]; exact hL68.sub _ _
            have hL6 : LSg B b w8 none (beL l a m x) := by rw [hLb]; exact LSg.nil _ _ _
            have hc5 : n5 ≤ c - (a + 1) := by omega
            rw [hn5v]
            clear hw7 hsg7 hb8 hb68 hL68 hLi hLb k6 hn6x
            have hBX : B ≤ w8.heap.size := Nat.le_trans hb3 hFX.below.size
            by_cases z : n5 + 0 = 0
            · skip
              have zz : ¬ (0 : Int) < (n5 : Int) + (0 : Int) := by omega
              have hIT : itemT F l ahead bar (D - lv + 1) a = (ahead ++ bar ++ LT ++ ⟨#[10]⟩) ++ F (inL l a m x) (ahead ++ ⟨#[46]⟩) bar (D - lv) ++ F (beL l a m x) (ahead ++ ⟨#[46]⟩) (bar ++ ⟨#[124]⟩) (D - lv) :=
                (HZT.out (by rw [hn5, hn6] <;> exact z)).trans (app_nil2 (by rw [len_nil hn5 (by omega)]; exact HF0.out _ _ _) (by rw [len_nil hn6 (by omega)]; exact HF0.out _ _ _))
              have hFT := fit_text HT.out hIT
              have hsz := congrArg ByteArray.size hFT
              simp only [ByteArray.size_append] at hsz
              have HW := Lib.hid (write_sh B b D many (bs ++ Lib.strCells T) (ahead ++ bar ++ LT ++ ⟨#[10]⟩) w8 hSX (by rw [hTl]; simp only [ByteArray.size_append]; omega) hBX)
              have HFT := Lib.hid hFT
              have HSZ := Lib.hid hsz
              have HSX := Lib.hid hSX
              have HFX := Lib.hid hFX
              have HL5 := Lib.hid hL5
              have HL6 := Lib.hid hL6
              clear hIT hFT hsz hSX hFX hL5 hL6 hTl
              have hsl := HSX.out.cell
              have q2 := hsl.1
              clear hsl
              go_wp2_with fail
              refine HW.out.mono ?_
              rintro e w9 ⟨rfl, h9, hb9, hk9⟩
              rw [List.append_assoc, ← strCells_append] at h9
              have hf9 : Fr B b w8 w9 := ⟨hb9, hk9⟩
              have hF9 := HFX.out.trans hf9
              have hB9 : B ≤ w9.heap.size := Nat.le_trans hBX hb9.size
              have hl5 : LSg B b w9 (some ⟨b1, off + (a + 1) * 19, none⟩) (inL l a m x) := HL5.out.keep hf9
              have hl6 : LSg B b w9 none (beL l a m x) := HL6.out.keep hf9
              have HS := HSZ.out
              have H1 := Lib.hid (sub_call (n := n5) (c := (c - (a + 1))) (ahead := ahead ++ ⟨#[46]⟩) (bar := bar) (HIH.out (inL l a m x) (by rw [hn5]; omega)) HP.out.one HIN.out hn5 hc5 hl5 h9 hB9 (fun w' h => HTB.out w' ((HF3.out.trans hF9).below.trans h)) (by simp only [ByteArray.size_append]; omega) (by rw [ByteArray.size_append]; show _ + 1 + _ + _ ≤ _; omega) (.inr (len_nil hn5 (by omega))) hl1 (by omega))
              have HF9 := Lib.hid hF9
              have HL69 := Lib.hid hl6
              clear h9 hb9 hk9 hf9 hF9 hl5 hl6 HS
              go_wp2_with fail
              refine H1.out.mono ?_
              rintro e w10 ⟨rfl, h10, hf10⟩
              have hB10 : B ≤ w10.heap.size := Nat.le_trans hB9 hf10.below.size
              have HS := HSZ.out
              have H2 := Lib.hid (sub_call (n := 0) (c := 0) (ahead := ahead ++ ⟨#[46]⟩) (bar := bar ++ ⟨#[124]⟩) (HIH.out (beL l a m x) (by rw [hn6]; omega)) HP.out.two HBE.out hn6 hc6 (HL69.out.keep hf10) h10 hB10 (fun w' h => HTB.out w' (((HF3.out.trans HF9.out).trans hf10).below.trans h)) (by simp only [ByteArray.size_append]; omega) (by rw [ByteArray.size_append, ByteArray.size_append]; show _ + 1 + (_ + 1) + _ ≤ _; omega) (.inr (len_nil hn6 (by omega))) hl1 (by omega))
              have HF10 := Lib.hid (HF9.out.trans hf10)
              clear h10 hf10 HS
              go_wp2_with fail
              refine H2.out.mono ?_
              rintro e w11 ⟨rfl, h11x, hf11⟩
              have H11 := Lib.hid h11x
              have HF11 := Lib.hid (HF10.out.trans hf11)
              clear h11x hf11
              go_wp2_with fail
              have e3 : (s ++ [a]) ++ ys = xs := (List.append_assoc s [a] ys).trans HSX1.out
              have e4 : (s ++ [a]).length = i + 1 := by rw [List.length_append, hsi]; rfl
              have HINV := Lib.hid (InvS.mk (many := many) (D := D) (F := F) (l := l) (ahead := ahead) (bar := bar) (dp := D - lv + 1) (TOT := TOT) (B := B) (b := b) (bs := bs) (xs := xs) (w1 := w3) (i := i + 1) (wr := w11) (Exists.intro (a + m) (Exists.intro ys (Exists.intro (s ++ [a]) (Exists.intro _ (And.intro e3 (And.intro e4 (And.intro HST2.out (And.intro HFT.out H11.out)))))))) HF11.out)
              go_roundw
              case rel => exact ⟨i + 1, by go_num, HINV.out⟩
              case measure =>
                clear hlen hz1 hz2 hz3 hz4 hz5 hz6 hz7
                simp [intOf]; omega
            · skip
              have zz : (0 : Int) < (n5 : Int) + (0 : Int) := by omega
              by_cases zl : lv = D
              · subst zl
                have hIT : itemT F l ahead bar (lv - lv + 1) a = (ahead ++ bar ++ LT ++ ⟨#[32, 91, 93]⟩ ++ ⟨#[10]⟩) ++ F ([] : List Nd) (ahead ++ ⟨#[46]⟩) bar (lv - lv) ++ F ([] : List Nd) (ahead ++ ⟨#[46]⟩) (bar ++ ⟨#[124]⟩) (lv - lv) :=
                  (HZD.out (by rw [hn5, hn6] <;> exact z) (by omega)).trans (app_nil2 (HF0.out _ _ _) (HF0.out _ _ _))
                have hFT := fit_text HT.out hIT
                have hsz := congrArg ByteArray.size hFT
                simp only [ByteArray.size_append] at hsz
                have HW := Lib.hid (write_sh B b lv many (bs ++ Lib.strCells T) (ahead ++ bar ++ LT ++ ⟨#[32, 91, 93]⟩ ++ ⟨#[10]⟩) w8 hSX (by rw [hTl]; simp only [ByteArray.size_append]; omega) hBX)
                have HFT := Lib.hid hFT
                have HSZ := Lib.hid hsz
                have HSX := Lib.hid hSX
                have HFX := Lib.hid hFX
                have HL5 := Lib.hid hL5
                have HL6 := Lib.hid hL6
                clear hIT hFT hsz hSX hFX hL5 hL6 hTl
                have hsl := HSX.out.cell
                have q2 := hsl.1
                clear hsl
                go_wp2_with fail
                refine HW.out.mono ?_
                rintro e w9 ⟨rfl, h9, hb9, hk9⟩
                rw [List.append_assoc, ← strCells_append] at h9
                have hf9 : Fr B b w8 w9 := ⟨hb9, hk9⟩
                have hF9 := HFX.out.trans hf9
                have hB9 : B ≤ w9.heap.size := Nat.le_trans hBX hb9.size
                have hl5 : LSg B b w9 none ([] : List Nd) := LSg.nil _ _ _
                have hl6 : LSg B b w9 none ([] : List Nd) := LSg.nil _ _ _
                have HS := HSZ.out
                have H1 := Lib.hid (sub_call (n := 0) (c := 0) (ahead := ahead ++ ⟨#[46]⟩) (bar := bar) (HIH.out ([] : List Nd) (by simp; omega)) rfl (fun _ h => by simp at h) rfl (Nat.le_refl 0) hl5 h9 hB9 (fun w' h => HTB.out w' ((HF3.out.trans hF9).below.trans h)) (by simp only [ByteArray.size_append]; omega) (by rw [ByteArray.size_append]; show _ + 1 + _ + _ ≤ _; omega) (.inr rfl) hl1 (by omega))
                have HF9 := Lib.hid hF9
                have HL69 := Lib.hid hl6
                clear h9 hb9 hk9 hf9 hF9 hl5 hl6 HS
                go_wp2_with fail
                refine H1.out.mono ?_
                rintro e w10 ⟨rfl, h10, hf10⟩
                have hB10 : B ≤ w10.heap.size := Nat.le_trans hB9 hf10.below.size
                have HS := HSZ.out
                have H2 := Lib.hid (sub_call (n := 0) (c := 0) (ahead := ahead ++ ⟨#[46]⟩) (bar := bar ++ ⟨#[124]⟩) (HIH.out ([] : List Nd) (by simp; omega)) rfl (fun _ h => by simp at h) rfl (Nat.le_refl 0) (HL69.out.keep hf10) h10 hB10 (fun w' h => HTB.out w' (((HF3.out.trans HF9.out).trans hf10).below.trans h)) (by simp only [ByteArray.size_append]; omega) (by rw [ByteArray.size_append, ByteArray.size_append]; show _ + 1 + (_ + 1) + _ ≤ _; omega) (.inr rfl) hl1 (by omega))
                have HF10 := Lib.hid (HF9.out.trans hf10)
                clear h10 hf10 HS
                go_wp2_with fail
                refine H2.out.mono ?_
                rintro e w11 ⟨rfl, h11x, hf11⟩
                have H11 := Lib.hid h11x
                have HF11 := Lib.hid (HF10.out.trans hf11)
                clear h11x hf11
                go_wp2_with fail
                have e3 : (s ++ [a]) ++ ys = xs := (List.append_assoc s [a] ys).trans HSX1.out
                have e4 : (s ++ [a]).length = i + 1 := by rw [List.length_append, hsi]; rfl
                have HINV := Lib.hid (InvS.mk (many := many) (D := lv) (F := F) (l := l) (ahead := ahead) (bar := bar) (dp := lv - lv + 1) (TOT := TOT) (B := B) (b := b) (bs := bs) (xs := xs) (w1 := w3) (i := i + 1) (wr := w11) (Exists.intro (a + m) (Exists.intro ys (Exists.intro (s ++ [a]) (Exists.intro _ (And.intro e3 (And.intro e4 (And.intro HST2.out (And.intro HFT.out H11.out)))))))) HF11.out)
                go_roundw
                case rel => exact ⟨i + 1, by go_num, HINV.out⟩
                case measure =>
                  clear hlen hz1 hz2 hz3 hz4 hz5 hz6 hz7
                  simp [intOf]; omega
              · skip
                have hIT : itemT F l ahead bar (D - lv + 1) a = (ahead ++ bar ++ LT ++ ⟨#[10]⟩) ++ F (inL l a m x) (ahead ++ ⟨#[46]⟩) bar (D - lv) ++ F (beL l a m x) (ahead ++ ⟨#[46]⟩) (bar ++ ⟨#[124]⟩) (D - lv) :=
                  HZM.out (by rw [hn5, hn6] <;> exact z) (by omega)
                have hFT := fit_text HT.out hIT
                have hsz := congrArg ByteArray.size hFT
                simp only [ByteArray.size_append] at hsz
                have HW := Lib.hid (write_sh B b D many (bs ++ Lib.strCells T) (ahead ++ bar ++ LT ++ ⟨#[10]⟩) w8 hSX (by rw [hTl]; simp only [ByteArray.size_append]; omega) hBX)
                have HFT := Lib.hid hFT
                have HSZ := Lib.hid hsz
                have HSX := Lib.hid hSX
                have HFX := Lib.hid hFX
                have HL5 := Lib.hid hL5
                have HL6 := Lib.hid hL6
                clear hIT hFT hsz hSX hFX hL5 hL6 hTl
                have hsl := HSX.out.cell
                have q2 := hsl.1
                clear hsl
                go_wp2_with fail
                refine HW.out.mono ?_
                rintro e w9 ⟨rfl, h9, hb9, hk9⟩
                rw [List.append_assoc, ← strCells_append] at h9
                have hf9 : Fr B b w8 w9 := ⟨hb9, hk9⟩
                have hF9 := HFX.out.trans hf9
                have hB9 : B ≤ w9.heap.size := Nat.le_trans hBX hb9.size
                have hl5 : LSg B b w9 (some ⟨b1, off + (a + 1) * 19, none⟩) (inL l a m x) := HL5.out.keep hf9
                have hl6 : LSg B b w9 none (beL l a m x) := HL6.out.keep hf9
                have HS := HSZ.out
                have H1 := Lib.hid (sub_call (n := n5) (c := (c - (a + 1))) (ahead := ahead ++ ⟨#[46]⟩) (bar := bar) (HIH.out (inL l a m x) (by rw [hn5]; omega)) HP.out.one HIN.out hn5 hc5 hl5 h9 hB9 (fun w' h => HTB.out w' ((HF3.out.trans hF9).below.trans h)) (by simp only [ByteArray.size_append]; omega) (by rw [ByteArray.size_append]; show _ + 1 + _ + _ ≤ _; omega) (.inl (by omega)) hl1 (by omega))
                have HF9 := Lib.hid hF9
                have HL69 := Lib.hid hl6
                clear h9 hb9 hk9 hf9 hF9 hl5 hl6 HS
                go_wp2_with fail
                refine H1.out.mono ?_
                rintro e w10 ⟨rfl, h10, hf10⟩
                have hB10 : B ≤ w10.heap.size := Nat.le_trans hB9 hf10.below.size
                have HS := HSZ.out
                have H2 := Lib.hid (sub_call (n := 0) (c := 0) (ahead := ahead ++ ⟨#[46]⟩) (bar := bar ++ ⟨#[124]⟩) (HIH.out (beL l a m x) (by rw [hn6]; omega)) HP.out.two HBE.out hn6 hc6 (HL69.out.keep hf10) h10 hB10 (fun w' h => HTB.out w' (((HF3.out.trans HF9.out).trans hf10).below.trans h)) (by simp only [ByteArray.size_append]; omega) (by rw [ByteArray.size_append, ByteArray.size_append]; show _ + 1 + (_ + 1) + _ ≤ _; omega) (.inl (by omega)) hl1 (by omega))
                have HF10 := Lib.hid (HF9.out.trans hf10)
                clear h10 hf10 HS
                go_wp2_with fail
                refine H2.out.mono ?_
                rintro e w11 ⟨rfl, h11x, hf11⟩
                have H11 := Lib.hid h11x
                have HF11 := Lib.hid (HF10.out.trans hf11)
                clear h11x hf11
                go_wp2_with fail
                have e3 : (s ++ [a]) ++ ys = xs := (List.append_assoc s [a] ys).trans HSX1.out
                have e4 : (s ++ [a]).length = i + 1 := by rw [List.length_append, hsi]; rfl
                have HINV := Lib.hid (InvS.mk (many := many) (D := D) (F := F) (l := l) (ahead := ahead) (bar := bar) (dp := D - lv + 1) (TOT := TOT) (B := B) (b := b) (bs := bs) (xs := xs) (w1 := w3) (i := i + 1) (wr := w11) (Exists.intro (a + m) (Exists.intro ys (Exists.intro (s ++ [a]) (Exists.intro _ (And.intro e3 (And.intro e4 (And.intro HST2.out (And.intro HFT.out H11.out)))))))) HF11.out)
                go_roundw
                case rel => exact ⟨i + 1, by go_num, HINV.out⟩
                case measure =>
                  clear hlen hz1 hz2 hz3 hz4 hz5 hz6 hz7
                  simp [intOf]; omega
end Go.Proofs.YtmcekdjhkjhcdaaGreatDoor.Sw
end
section
namespace Go.Proofs.YtmcekdjhkjhcdaaGreatDoor.Sw
open Go.ChangeShapes Go.WideShapes Go.ChangeAt Go.RowKit
open Me Np Ss No Pk
set_option linter.unusedVariables false
set_option linter.unusedSimpArgs false
theorem ListC.congr {many D : Int} {F G : List Nd → ByteArray → ByteArray → Int → ByteArray} {l : List Nd} (h : ∀ a b d, F l a b d = G l a b d) (k : ListC many D F l) : ListC many D G l := by
  intro B b bs A c ahead bar lv w hc hch hcap hls hsh hB htb hlen hab hlv hl1 hl9
  rw [← h] at hlen
  rw [← h]
  exact k B b bs A c ahead bar lv w hc hch hcap hls hsh hB htb hlen hab hlv hl1 hl9
theorem shw_c (many D : Int) : ∀ (f : Nat) (l : List Nd), l.length ≤ f → ListC many D (shw many f) l
  | 0, l, hl => by
    obtain rfl : l = [] := List.eq_nil_of_length_eq_zero (by omega)
    refine ListC.congr (fun a b d => ?_) (list_step many D (shw many 0) [] (fun _ _ _ => rfl) (fun l' h => absurd h (Nat.not_lt_zero _)))
    exact (shw_nil many 1 a b d).trans (shw_nil many 0 a b d).symm
  | f + 1, l, hl => list_step many D (shw many f) l (fun a b d => shw_nil many f a b d) (fun l' h => shw_c many D f l' (by omega))
/-- What Show answers. -/
noncomputable def shwT (l : List Nd) (deep many : Int) : ByteArray := if chk l ≠ 0 ∨ deep < 0 ∨ many < 0 ∨ deep = 0 then ⟨#[]⟩ else shw many l.length l ⟨#[]⟩ ⟨#[]⟩ deep
def shwE (l : List Nd) (deep many : Int) : Int := if chk l ≠ 0 then chk l else if deep < 0 ∨ many < 0 then 11 else 0
theorem ret_ti {a b : ByteArray} {i j : Int} (h : a = b) (k : i = j) : Ending.returned (.tuple #[.string a, .int .i64 i]) = .returned (.tuple #[.string b, .int .i64 j]) := by rw [h, k]
theorem bytes_back (t : ByteArray) : (⟨t.data.toList.toArray⟩ : ByteArray) = t := by cases t; simp
set_option maxHeartbeats 4000000 in
set_option maxRecDepth 100000 in
theorem show_prog (A : Option Addr) (l : List Nd) (c : Nat) (deep many : Int) (w : World) (hl : l.length ≤ 9223372036854775807) (hcap : l.length ≤ c) (hA : ∀ g off z, A = some ⟨g, off, z⟩ → g < w.heap.size) (hseg : Seg w w.heap.size A (l.flatMap ncs)) (hch : ∀ x ∈ l, 0 ≤ x.char ∧ x.char < 256) (htab : Tab w)  :
    Calls Tryz.prog 5 #[.slice A l.length c, .int .i64 deep, .int .i64 many] w fun e w' => e = .returned (.tuple #[.string (shwT l deep many), .int .i64 (shwE l deep many)]) ∧ Below w.heap.size w w' := by
  have HK := Lib.hid (check_any A l c w hl hseg)
  by_cases hc : chk l = 0
  · by_cases hn : deep < 0 ∨ many < 0
    · have HT := Lib.hid (show (⟨#[]⟩ : ByteArray) = shwT l deep many from (if_pos (.inr (hn.elim .inl (fun h => .inr (.inl h))))).symm)
      have HE := Lib.hid (show (11 : Int) = shwE l deep many by unfold shwE; rw [if_neg (by simp [hc]), if_pos hn])
      rw [hc] at HK
      generalize l.length = ln at *
      clear hc hseg hch htab hA
      by_cases h1 : deep < 0
      · go_enter Tryz.func5, Tryz.ntmps5
        go_wp2_with fail
        refine HK.out.mono ?_
        rintro e w1 ⟨rfl, hb1⟩
        go_wp2_with fail
        go_returns
        exact ⟨ret_ti HT.out HE.out, hb1⟩
      · have h2 : many < 0 := by omega
        clear hn
        go_enter Tryz.func5, Tryz.ntmps5
        go_wp2_with fail
        refine HK.out.mono ?_
        rintro e w1 ⟨rfl, hb1⟩
        go_wp2_with fail
        go_returns
        exact ⟨ret_ti HT.out HE.out, hb1⟩
    · have h1 : ¬ deep < 0 := by omega
      have h2 : ¬ many < 0 := by omega
      by_cases h0 : deep = 0
      · subst h0
        have HT := Lib.hid (show (⟨#[]⟩ : ByteArray) = shwT l 0 many from (if_pos (.inr (.inr (.inr rfl)))).symm)
        have HE := Lib.hid (show (0 : Int) = shwE l 0 many by unfold shwE; rw [if_neg (by simp [hc]), if_neg hn])
        rw [hc] at HK
        generalize l.length = ln at *
        clear hc hseg hch htab hn h1 hA
        go_enter Tryz.func5, Tryz.ntmps5
        go_wp2_with fail
        refine HK.out.mono ?_
        rintro e w1 ⟨rfl, hb1⟩
        go_wp2_with fail
        go_returns
        exact ⟨ret_ti HT.out HE.out, hb1⟩
      · have HT := Lib.hid (show shw many l.length l ⟨#[]⟩ ⟨#[]⟩ deep = shwT l deep many from (if_neg (by omega)).symm)
        have HE := Lib.hid (show (0 : Int) = shwE l deep many by unfold shwE; rw [if_neg (by simp [hc]), if_neg hn])
        have HC := Lib.hid hc
        rw [hc] at HK
        have hl2 := (chk_run hc).1
        have hsz := shw_size many l.length l ⟨#[]⟩ ⟨#[]⟩ deep hc (Nat.le_refl _) (by show 0 + 0 + _ ≤ _; omega)
        have hS : ∀ w2, Below w.heap.size w w2 → ∀ w3, Below w2.heap.size w2 w3 → ∀ b, b = w2.heap.size → w3.heap[b]? = some (.cells #[.pointer none, .slice none 0 0, .int .i64 deep, .int .i64 many] 45 (0, 0)) → Calls Tryz.prog 12 #[.pointer (some ⟨b, 0, none⟩), .slice A l.length c, .string ⟨#[]⟩, .string ⟨#[]⟩, .int .i64 1] w3 fun e w' => e = .returned (.tuple #[]) ∧ ShI w.heap.size b deep many (Lib.strCells (shw many l.length l ⟨#[]⟩ ⟨#[]⟩ deep)) w' ∧ Fr w.heap.size b w3 w' := by
          intro w2 h2' w3 h3 b hb hblk
          have h := shw_c many deep l.length l (Nat.le_refl _) w.heap.size b [] A c ⟨#[]⟩ ⟨#[]⟩ 1 w3 hc hch hcap
            ⟨Seg.belowW (Seg.belowW hseg h2') h3, fun g off z e => .inl (hA g off z e)⟩
            (.inl ⟨by have := h2'.size; omega, _, hblk, World.ownsRow_nil _ _ _ _, by simp [Value.ownBlock]⟩)
            (Nat.le_trans h2'.size h3.size) (fun w' h => htab.below ((andThen h2' h3).trans h))
            (by rw [show deep - 1 + 1 = deep by omega]; show 0 + _ ≤ _; omega) (by show 0 + 0 + _ ≤ _; omega) (.inl (by omega)) (by omega) (by omega)
          rw [show deep - 1 + 1 = deep by omega, List.nil_append] at h
          exact h
        have HS := Lib.hid hS
        generalize shw many l.length l ⟨#[]⟩ ⟨#[]⟩ deep = T at *
        have e0 : (deep == 0) = false := by simp [h0]
        generalize l.length = ln at *
        clear hc hseg hch htab hn hl2 hsz hS hA
        go_enter Tryz.func5, Tryz.ntmps5
        go_wp2_with fail
        refine HK.out.mono ?_
        rintro e w1 ⟨rfl, hb1⟩
        go_wp2_with fail
        refine (HS.out w1 hb1 _ (andAlloc (Below.refl _ _) _) _ rfl (Blk.new' rfl)).mono ?_
        rintro e w3 ⟨rfl, hsh, hfr⟩
        go_wp2_with fail
        refine (string_sh w.heap.size w1.heap.size deep many T.data.toList w3 hsh ?_).mono ?_
        · have := hb1.size
          have := hfr.below.size
          simp at this
          omega
        rintro e w4 ⟨rfl, hb4⟩
        go_wp2_with fail
        go_returns
        exact ⟨ret_ti ((bytes_back T).trans HT.out) HE.out, ((andAlloc hb1 _).trans hfr.below).trans hb4⟩
  · have HT := Lib.hid (show (⟨#[]⟩ : ByteArray) = shwT l deep many from (if_pos (.inl hc)).symm)
    have HE := Lib.hid (show chk l = shwE l deep many from (if_pos hc).symm)
    generalize chk l = ec at *
    have e0 : (ec != 0) = true := by simp [hc]
    generalize l.length = ln at *
    clear hseg hch htab hA
    go_enter Tryz.func5, Tryz.ntmps5
    go_wp2_with fail
    refine HK.out.mono ?_
    rintro e w1 ⟨rfl, hb1⟩
    go_wp2_with fail
    go_returns
    exact ⟨ret_ti HT.out HE.out, hb1⟩
end Go.Proofs.YtmcekdjhkjhcdaaGreatDoor.Sw
end
section
namespace Go.Proofs.YtmcekdjhkjhcdaaGreatDoor.Sw
open Go.ChangeShapes Go.WideShapes Go.ChangeAt Go.RowKit
open Me Np Ss No Pk
set_option linter.unusedVariables false
set_option linter.unusedSimpArgs false
theorem rcont_any (many : Int) (f : Nat) (IH : ∀ l', l'.length ≤ f → DocC many f l') (A : Option Addr) (l : List Nd) (c a m : Nat) (x : Nd) (ahead bar : ByteArray) (deep : Int) (w : World) (hc : chk l = 0) (hch : ∀ x ∈ l, 0 ≤ x.char ∧ x.char < 256) (hcap : l.length ≤ c) (hseg : Seg w w.heap.size A (l.flatMap ncs)) (hx : l[a]? = some x) (hm : endc (l.drop a) 0 = some m) (hci : chk ((l.drop a).take m) = 0) (ham : a + m ≤ l.length) (hlf : l.length ≤ f + 1) (ho : opensB x = true) (h6 : ¬ x.kind = 6) (hab : ahead.size + bar.size + 2 * (f + 1) ≤ 5000) (hd1 : 2 ≤ deep) (hd2 : deep ≤ 9223372036854775807) :
    Calls Tryz.prog 34 #[.slice A l.length c, .int .i64 (a : Int), .string ahead, .string bar, .int .i64 deep, .int .i64 many] w fun e w' => e = .returned (.string (shw many f (inL l a m x) (ahead ++ dotK) bar (deep - 1) ++ shw many f (beL l a m x) (ahead ++ dotK) (bar ++ barK) (deep - 1))) ∧ Below w.heap.size w w' := by
  by_cases hk : x.kind = 10
  · exact rcont_disc many f IH A l c a m x ahead bar deep w hc hch hcap hseg hx hm hci ham hlf hk hab hd1 hd2
  · exact rcont_else many f IH A l c a m x ahead bar deep w hc hch hcap hseg hx hm hci ham hlf hk ho h6 hab hd1 hd2
theorem str_eq {X : ByteArray} (h : X = ⟨#[]⟩) : X.toList.isEmpty = true := by rw [h, ByteArray.toList_eq]; rfl
theorem str_ne {X : ByteArray} (h : 1 ≤ X.size) : X.toList.isEmpty = false := by
  cases e : X.toList.isEmpty
  · rfl
  · have hh := List.isEmpty_iff.1 e
    rw [ByteArray.toList_eq] at hh
    have := congrArg List.length hh
    rw [Array.length_toList] at this
    have h2 : X.data.size = 0 := this
    have h3 : X.size = X.data.size := rfl
    omega
/-- What the loop holds. -/
structure InvD (many : Int) (F : List Nd → ByteArray → ByteArray → Int → ByteArray) (l : List Nd) (ahead bar : ByteArray) (deep : Int) (TOT : ByteArray) (xs : List Nat) (w1 : World) (i : Nat) (T : ByteArray) (wr : World) : Prop where
  ex : ∃ a ys s, s ++ ys = xs ∧ s.length = i ∧ Stand l a ys ∧ T ++ itemsT many F l ahead bar deep ys i = TOT
  low : Below w1.heap.size w1 wr
theorem fit2 {T P R IT TOT : ByteArray} (h : T ++ (IT ++ R) = TOT) (hi : T ++ IT = P) : P ++ R = TOT := by rw [← h, ← hi, ByteArray.append_assoc]
theorem brnl : (⟨#[32, 91, 93]⟩ : ByteArray) ++ ⟨#[10]⟩ = ⟨#[32, 91, 93, 10]⟩ := rfl
set_option maxHeartbeats 8000000 in
set_option maxRecDepth 100000 in
theorem doc_step (many : Int) (f : Nat) (IH : ∀ l', l'.length ≤ f → DocC many f l') (l : List Nd) (hlf : l.length ≤ f + 1) : DocC many (f + 1) l := by
  intro A c ahead bar deep w hc hch hcap hseg hab hd1 hd2
  have hl := (chk_run hc).1
  have hits := itsD_is hc
  have hsz := shw_size many (f + 1) l ahead bar deep hc hlf hab
  change (itemsT many (shw many f) l ahead bar deep (itsD l) 0).size ≤ _ at hsz
  change Calls _ _ _ _ fun e w' => e = .returned (.string (itemsT many (shw many f) l ahead bar deep (itsD l) 0)) ∧ _
  generalize hxs : itsD l = xs at *
  have hst := stand0 hc hits
  have hno := stand_no6 hl xs 0 hst
  have hxl2 := Its.len hits
  generalize hTOT : itemsT many (shw many f) l ahead bar deep xs 0 = TOT at *
  have hsz2 : TOT.size ≤ 80000000 := by omega
  have HTOT := Lib.hid hTOT
  have HIT := Lib.hid (rstarts_any A l c xs w hl hseg hits hno)
  have HST := Lib.hid hst
  have HC := Lib.hid hc
  have HCH := Lib.hid hch
  have HSG := Lib.hid (fun W (h : Below w.heap.size w W) => Seg.belowW hseg h)
  have HIH := Lib.hid IH
  have HFU := Lib.hid (rfl : shw many f = shw many f)
  clear hTOT hst hc hch hseg IH hits hxs hno hsz
  generalize hll : l.length = ln at *
  have HLL := Lib.hid hll
  clear hll
  go_enter Tryz.func15, Tryz.ntmps15
  go_wp2_with fail
  refine HIT.out.mono ?_
  rintro e w1 ⟨v, rfl, hown, hb1⟩
  obtain ⟨A2, c2, rfl, hc2, _, hs2⟩ := Seg.of_own hown
  have HS2 := Lib.hid (fun W (h : Below w1.heap.size w1 W) => Seg.belowW hs2 h)
  have HB1 := Lib.hid hb1
  have hI0 : InvD many (shw many f) l ahead bar deep TOT xs w1 0 ⟨#[]⟩ w1 := ⟨⟨0, xs, [], rfl, rfl, HST.out, (ByteArray.empty_append ..).trans HTOT.out⟩, Below.refl _ _⟩
  have HI0 := Lib.hid hI0
  clear hI0 hown hb1 hs2 HIT
  generalize hxl : xs.length = xl at *
  have HXL := Lib.hid hxl
  clear hxl
  go_wp2_with fail
  go_loopw [11, 13] (fun v11 v13 wr => ∃ (i : Nat) (T : ByteArray), v13 = .int .i64 (i : Int) ∧ v11 = .string T ∧ InvD many (shw many f) l ahead bar deep TOT xs w1 i T wr) (fun _ v13 _ => xl - (intOf v13).toNat)
  case atStart => exact ⟨0, ⟨#[]⟩, rfl, rfl, HI0.out⟩
  case round =>
    obtain ⟨i, T, rfl, rfl, hI⟩ := hrel
    obtain ⟨⟨a0, ys, s, hs, hsi, hst, hT⟩, hlow⟩ := hI
    cases ys with
    | nil =>
      have hi : i = xl := by have := congrArg List.length hs; rw [HXL.out] at this; simp at this; omega
      have hT2 : T = TOT := by rw [← hT]; exact (ByteArray.append_empty ..).symm
      subst hT2
      have HF := Lib.hid (andThen HB1.out hlow)
      clear hlow hs hst hT
      go_wp2_with fail
      go_ret
      exact ⟨rfl, HF.out⟩
    | cons a ys =>
      obtain ⟨rfl, -⟩ := hst.its
      have hyi : xs[i]? = some a := by rw [← hs, List.getElem?_append_right (by omega), hsi, Nat.sub_self]; rfl
      have hil : i < xl := by have := (List.getElem?_eq_some_iff.1 hyi).1; rw [HXL.out] at this; exact this
      have hal : a < l.length := by
        have h1 := hst.le
        rcases Nat.lt_or_ge a l.length with h2 | h2
        · exact h2
        · obtain rfl : a = l.length := by omega
          have := hst.done
          simp at this
      obtain ⟨m, zs, x, he, hm, hm1, ham, hst2, hci, hx, h6, h11⟩ := hst.step (by rw [HLL.out]; exact hl) hal
      injection he with _ he
      subst he
      have hsm : (xs.map nat64)[i]? = some (.int .i64 (a : Int)) := by rw [List.getElem?_map, hyi]; rfl
      obtain ⟨g2, o2, rfl, hcx⟩ : ∃ g off, A2 = some ⟨g, off, none⟩ ∧ ∀ W, Below w1.heap.size w1 W → W.cell? ⟨g, off + i, none⟩ = some (.int .i64 (a : Int)) := by
        rcases HS2.out w1 (Below.refl _ _) with h1 | ⟨g, off, h1, hg, hcc⟩
        · rw [h1] at hsm; simp at hsm
        · refine ⟨g, off, h1, fun W hW => ?_⟩
          exact (hW.cell (p := ⟨g, off + i, none⟩) hg).trans (hcc i _ hsm)
      have HIX := Lib.hid hcx
      have hq1 := hcx wr hlow
      have hTs := congrArg ByteArray.size hT
      rw [ByteArray.size_append] at hTs
      by_cases hq : (i : Int) = many
      · subst hq
        rw [show itemsT (i : Int) (shw (i : Int) f) l ahead bar deep (a :: ys) i = ahead ++ bar ++ etcK from if_pos rfl] at hT hTs
        simp only [ByteArray.size_append] at hTs
        have hz1 : ¬ 9223372036854775807 < T.size + ahead.size := by omega
        have hz2 : ¬ 9223372036854775807 < (T ++ ahead).size + bar.size := by rw [ByteArray.size_append]; omega
        have hz3 : ¬ 9223372036854775807 < (T ++ ahead ++ bar).size + (⟨#[101, 116, 99, 46, 10]⟩ : ByteArray).size := by rw [ByteArray.size_append, ByteArray.size_append]; show ¬ 9223372036854775807 < _ + _ + _ + 5; omega
        have HT := Lib.hid (show T ++ ahead ++ bar ++ ⟨#[101, 116, 99, 46, 10]⟩ = TOT by rw [← hT]; simp only [ByteArray.append_assoc]; rfl)
        have HF := Lib.hid (andThen HB1.out hlow)
        clear hlow hs hst hT hst2 hm hm1 hci hx h6 h11 hTs hyi hal ham hcx hsm
        go_wp2_with fail
        go_ret
        exact ⟨ret_t HT.out, HF.out⟩
      · have e1 : ((i : Int) == many) = false := by simp [hq]
        rw [show itemsT many (shw many f) l ahead bar deep (a :: ys) i = itemT (shw many f) l ahead bar deep a ++ itemsT many (shw many f) l ahead bar deep ys (i + 1) from if_neg hq] at hT hTs
        have hP := parts_of HC.out hx hm hci ham
        have hxr : right x = true := chk_right HC.out x (List.mem_of_getElem? hx)
        have HXR := Lib.hid hxr
        have hzl := line_size hxr hP.three
        have HLINE := Lib.hid (fun W (h : Below w1.heap.size w1 W) => rline_any A l c a m x W HC.out (by rw [HLL.out]; exact hcap) (HSG.out W (andThen HB1.out h)) hx hm hci ham hxr (HCH.out x (List.mem_of_getElem? hx)) h6 h11)
        have HCONT := Lib.hid (fun (ho : opensB x = true) (dd : Int) (h1 : 2 ≤ dd) (h2 : dd ≤ 9223372036854775807) W (h : Below w1.heap.size w1 W) => rcont_any many f HIH.out A l c a m x ahead bar dd W HC.out HCH.out (by rw [HLL.out]; exact hcap) (HSG.out W (andThen HB1.out h)) hx hm hci ham (by rw [HLL.out]; exact hlf) ho h6 hab h1 h2)
        obtain ⟨b1, off, rfl, hb1, hn⟩ := seg_node (HSG.out wr (andThen HB1.out hlow)) hx
        have HN := Lib.hid (fun W (h : Below wr.heap.size wr W) => hn.below h hb1)
        rw [HLL.out] at hal ham
        unfold RL at HLINE
        rw [HLL.out] at HLINE HCONT
        have hali : (a : Int) < (ln : Int) := by omega
        have HP := Lib.hid hP
        have HX := Lib.hid hx
        have HM := Lib.hid hm
        have HST2 := Lib.hid hst2
        have HS1 := Lib.hid hs
        have HT := Lib.hid hT
        have HZ := Lib.hid (fun (h : (inL l a m x).length + (beL l a m x).length = 0) => it_zero (F := shw many f) (ahead := ahead) (bar := bar) (dp := deep) hx hm h)
        have HZD := Lib.hid (fun (h : ¬ (inL l a m x).length + (beL l a m x).length = 0) (hd : deep ≤ 1) => it_deep (F := shw many f) (ahead := ahead) (bar := bar) (dp := deep) hx hm h hd)
        have HZM := Lib.hid (fun (h : ¬ (inL l a m x).length + (beL l a m x).length = 0) (hd : ¬ deep ≤ 1) => it_more (F := shw many f) (ahead := ahead) (bar := bar) (dp := deep) hx hm h hd)
        have H6 := Lib.hid h6
        generalize lineT x (thK l a m x) = LT at *
        generalize itemT (shw many f) l ahead bar deep a = IT at *
        generalize hRE : itemsT many (shw many f) l ahead bar deep ys (i + 1) = REST at *
        have HRE := Lib.hid hRE
        clear hT hs hst hst2 hm hci hx hP hxr h6 h11 hyi hq hcx hn hb1 hsm hRE
        have hTs2 : T.size + IT.size ≤ 80000000 := by rw [ByteArray.size_append] at hTs; omega
        clear hTs
        have hz1 : ¬ 9223372036854775807 < T.size + ahead.size := by omega
        have hz2 : ¬ 9223372036854775807 < (T ++ ahead).size + bar.size := by rw [ByteArray.size_append]; omega
        have hz3 : ¬ 9223372036854775807 < (T ++ ahead ++ bar).size + LT.size := by rw [ByteArray.size_append, ByteArray.size_append]; omega
        have hz4 : ¬ 9223372036854775807 < (T ++ ahead ++ bar ++ LT).size + (⟨#[10]⟩ : ByteArray).size := by rw [ByteArray.size_append, ByteArray.size_append, ByteArray.size_append]; show ¬ 9223372036854775807 < _ + 1; omega
        have hz5 : ¬ 9223372036854775807 < (T ++ ahead ++ bar ++ LT).size + (⟨#[32, 91, 93, 10]⟩ : ByteArray).size := by rw [ByteArray.size_append, ByteArray.size_append, ByteArray.size_append]; show ¬ 9223372036854775807 < _ + 4; omega
        cases ho : opensB x
        · have hk10 : ¬ x.kind = 10 := fun h => by rw [show opensB x = true by simp [opensB, h]] at ho; exact absurd ho (by decide)
          have hLi : inL l a m x = [] := by unfold inL; rw [if_neg hk10, if_neg (by simp [ho])]
          have hLb : beL l a m x = [] := by unfold beL; rw [if_neg hk10]
          have h0 : (inL l a m x).length + (beL l a m x).length = 0 := by rw [hLi, hLb]; rfl
          have HO := Lib.hid ho
          have H0 := Lib.hid h0
          clear ho hk10 hLi hLb h0
          have hP2 := fit2 HT.out (show T ++ IT = T ++ ahead ++ bar ++ LT ++ ⟨#[10]⟩ by rw [HZ.out H0.out]; simp only [ByteArray.append_assoc]; rfl)
          have HP2 := Lib.hid hP2
          clear hP2
          go_wp2_with fail
          refine (HLINE.out wr hlow).mono ?_
          rintro e w2 ⟨rfl, hb2⟩
          have hlow2 := andThen hlow hb2
          have hq2 := HIX.out w2 hlow2
          have hn2 := HN.out w2 hb2
          clear hb2 hlow hq1
          go_wp2_with (refine wpList_load_node rfl _ rfl _ _ rfl _ hn2 ?_)
          refine (ropens_any x w2).mono ?_
          rintro e w3 ⟨rfl, hw3⟩
          simp only [HO.out]
          have hlow3 := andThen hlow2 (show Below w2.heap.size w2 w3 by rw [← hw3]; exact andAlloc (Below.refl _ _) _)
          have hq3 := HIX.out w3 hlow3
          clear hw3 hlow2 hq2 hn2
          go_wp2_with fail
          have e3 : (s ++ [a]) ++ ys = xs := (List.append_assoc s [a] ys).trans HS1.out
          have e4 : (s ++ [a]).length = i + 1 := by rw [List.length_append, hsi]; rfl
          have hP3 := HP2.out
          rw [← HRE.out] at hP3
          have HINV := Lib.hid (InvD.mk (many := many) (F := shw many f) (l := l) (ahead := ahead) (bar := bar) (deep := deep) (TOT := TOT) (xs := xs) (w1 := w1) (i := i + 1) (wr := w3) (Exists.intro (a + m) (Exists.intro ys (Exists.intro (s ++ [a]) (And.intro e3 (And.intro e4 (And.intro HST2.out hP3)))))) hlow3)
          clear hlow3
          go_roundw
          case rel => exact ⟨i + 1, _, by go_num, rfl, HINV.out⟩
          case measure => clear hz1 hz2 hz3 hz4 hz5 hTs2; simp [intOf]; omega
        · have HO := Lib.hid ho
          have HC2 := Lib.hid (fun W (h : Below w1.heap.size w1 W) => HCONT.out ho 2 (by omega) (by omega) W h)
          rw [show (2 : Int) - 1 = 1 by omega] at HC2
          have hne : ∀ L : List Nd, chk L = 0 → L.length ≤ f → ∀ aa bb, aa.size + bb.size + 2 * f ≤ 5000 → L ≠ [] → 1 ≤ (shw many f L aa bb 1).size := fun L h1 h2 aa bb h3 h4 => shw_ne h1 h2 h4 h3
          have hlp := HP.out.len
          have hzs1 : (ahead ++ dotK).size + bar.size + 2 * f ≤ 5000 := by rw [ByteArray.size_append]; show _ + 1 + _ + _ ≤ _; omega
          have hzs2 : (ahead ++ dotK).size + (bar ++ barK).size + 2 * f ≤ 5000 := by rw [ByteArray.size_append, ByteArray.size_append]; show _ + 1 + (_ + 1) + _ ≤ _; omega
          by_cases h0 : (inL l a m x).length + (beL l a m x).length = 0
          · have hX : (shw many f (inL l a m x) (ahead ++ dotK) bar 1 ++ shw many f (beL l a m x) (ahead ++ dotK) (bar ++ barK) 1) = ⟨#[]⟩ := by
              rw [len_nil (l := inL l a m x) (n := 0) (by omega) rfl, len_nil (l := beL l a m x) (n := 0) (by omega) rfl, shw_nil, shw_nil]
              rfl
            have hXE := str_eq hX
            have H0 := Lib.hid h0
            generalize (shw many f (inL l a m x) (ahead ++ dotK) bar 1 ++ shw many f (beL l a m x) (ahead ++ dotK) (bar ++ barK) 1) = X at *
            clear ho h0 hne hzs1 hzs2 hlp hX
            have hP2 := fit2 HT.out (show T ++ IT = T ++ ahead ++ bar ++ LT ++ ⟨#[10]⟩ by rw [HZ.out H0.out]; simp only [ByteArray.append_assoc]; rfl)
            have HP2 := Lib.hid hP2
            clear hP2
            go_wp2_with fail
            refine (HLINE.out wr hlow).mono ?_
            rintro e w2 ⟨rfl, hb2⟩
            have hlow2 := andThen hlow hb2
            have hq2 := HIX.out w2 hlow2
            have hn2 := HN.out w2 hb2
            clear hb2 hlow hq1
            go_wp2_with (refine wpList_load_node rfl _ rfl _ _ rfl _ hn2 ?_)
            refine (ropens_any x w2).mono ?_
            rintro e w3 ⟨rfl, hw3⟩
            simp only [HO.out]
            have hlow3 := andThen hlow2 (show Below w2.heap.size w2 w3 by rw [← hw3]; exact andAlloc (Below.refl _ _) _)
            have hq3 := HIX.out w3 hlow3
            clear hw3 hlow2 hq2 hn2
            go_wp2_with fail
            refine (HC2.out w3 hlow3).mono ?_
            rintro e w4 ⟨rfl, hb4⟩
            have hlow4 := andThen hlow3 hb4
            clear hb4 hlow3 hq3
            go_wp2_with fail
            have e3 : (s ++ [a]) ++ ys = xs := (List.append_assoc s [a] ys).trans HS1.out
            have e4 : (s ++ [a]).length = i + 1 := by rw [List.length_append, hsi]; rfl
            have hP3 := HP2.out
            rw [← HRE.out] at hP3
            have HINV := Lib.hid (InvD.mk (many := many) (F := shw many f) (l := l) (ahead := ahead) (bar := bar) (deep := deep) (TOT := TOT) (xs := xs) (w1 := w1) (i := i + 1) (wr := w4) (Exists.intro (a + m) (Exists.intro ys (Exists.intro (s ++ [a]) (And.intro e3 (And.intro e4 (And.intro HST2.out hP3)))))) hlow4)
            clear hlow4
            go_roundw
            case rel => exact ⟨i + 1, _, by go_num, rfl, HINV.out⟩
            case measure => clear hz1 hz2 hz3 hz4 hz5 hTs2; simp [intOf]; omega
          · have hX : 1 ≤ (shw many f (inL l a m x) (ahead ++ dotK) bar 1 ++ shw many f (beL l a m x) (ahead ++ dotK) (bar ++ barK) 1).size := by
              rw [ByteArray.size_append]
              by_cases hi0 : inL l a m x = []
              · have hb0 : beL l a m x ≠ [] := fun h => h0 (by rw [hi0, h]; rfl)
                have := hne _ HP.out.two (by omega) _ _ hzs2 hb0
                omega
              · have := hne _ HP.out.one (by omega) _ _ hzs1 hi0
                omega
            have hXE := str_ne hX
            have H0 := Lib.hid h0
            have HXZ := Lib.hid (And.intro hzs1 hzs2)
            generalize (shw many f (inL l a m x) (ahead ++ dotK) bar 1 ++ shw many f (beL l a m x) (ahead ++ dotK) (bar ++ barK) 1) = X at *
            clear h0 hne hzs1 hzs2 hX
            by_cases hd : deep ≤ 1
            · clear ho hlp
              have hP2 := fit2 HT.out (show T ++ IT = T ++ ahead ++ bar ++ LT ++ ⟨#[32, 91, 93, 10]⟩ by rw [HZD.out H0.out hd]; simp only [ByteArray.append_assoc]; rfl)
              have HP2 := Lib.hid hP2
              clear hP2
              go_wp2_with fail
              refine (HLINE.out wr hlow).mono ?_
              rintro e w2 ⟨rfl, hb2⟩
              have hlow2 := andThen hlow hb2
              have hq2 := HIX.out w2 hlow2
              have hn2 := HN.out w2 hb2
              clear hb2 hlow hq1
              go_wp2_with (refine wpList_load_node rfl _ rfl _ _ rfl _ hn2 ?_)
              refine (ropens_any x w2).mono ?_
              rintro e w3 ⟨rfl, hw3⟩
              simp only [HO.out]
              have hlow3 := andThen hlow2 (show Below w2.heap.size w2 w3 by rw [← hw3]; exact andAlloc (Below.refl _ _) _)
              have hq3 := HIX.out w3 hlow3
              clear hw3 hlow2 hq2 hn2
              go_wp2_with fail
              refine (HC2.out w3 hlow3).mono ?_
              rintro e w4 ⟨rfl, hb4⟩
              have hlow4 := andThen hlow3 hb4
              clear hb4 hlow3 hq3
              go_wp2_with fail
              have e3 : (s ++ [a]) ++ ys = xs := (List.append_assoc s [a] ys).trans HS1.out
              have e4 : (s ++ [a]).length = i + 1 := by rw [List.length_append, hsi]; rfl
              have hP3 := HP2.out
              rw [← HRE.out] at hP3
              have HINV := Lib.hid (InvD.mk (many := many) (F := shw many f) (l := l) (ahead := ahead) (bar := bar) (deep := deep) (TOT := TOT) (xs := xs) (w1 := w1) (i := i + 1) (wr := w4) (Exists.intro (a + m) (Exists.intro ys (Exists.intro (s ++ [a]) (And.intro e3 (And.intro e4 (And.intro HST2.out hP3)))))) hlow4)
              clear hlow4
              go_roundw
              case rel => exact ⟨i + 1, _, by go_num, rfl, HINV.out⟩
              case measure => clear hz1 hz2 hz3 hz4 hz5 hTs2; simp [intOf]; omega
            · have HC3 := Lib.hid (fun W (h : Below w1.heap.size w1 W) => HCONT.out ho deep (by omega) hd2 W h)
              have hs1 := shw_size many f (inL l a m x) (ahead ++ dotK) bar (deep - 1) HP.out.one (by omega) HXZ.out.1
              have hs2 := shw_size many f (beL l a m x) (ahead ++ dotK) (bar ++ barK) (deep - 1) HP.out.two (by omega) HXZ.out.2
              have hIT9 := HZM.out H0.out hd
              rw [ByteArray.append_assoc] at hIT9
              have hXs : (shw many f (inL l a m x) (ahead ++ dotK) bar (deep - 1) ++ shw many f (beL l a m x) (ahead ++ dotK) (bar ++ barK) (deep - 1)).size ≤ 100000000 := by rw [ByteArray.size_append]; omega
              generalize (shw many f (inL l a m x) (ahead ++ dotK) bar (deep - 1) ++ shw many f (beL l a m x) (ahead ++ dotK) (bar ++ barK) (deep - 1)) = Y at *
              have hz6 : ¬ 9223372036854775807 < (T ++ ahead ++ bar ++ LT ++ ⟨#[10]⟩).size + Y.size := by rw [ByteArray.size_append, ByteArray.size_append, ByteArray.size_append, ByteArray.size_append]; show ¬ 9223372036854775807 < _ + 1 + _; omega
              have HI9 := Lib.hid hIT9
              clear ho hlp hs1 hs2 hXs hIT9
              have hP2 := fit2 HT.out (show T ++ IT = T ++ ahead ++ bar ++ LT ++ ⟨#[10]⟩ ++ Y by rw [HI9.out]; simp only [ByteArray.append_assoc]; rfl)
              have HP2 := Lib.hid hP2
              clear hP2
              go_wp2_with fail
              refine (HLINE.out wr hlow).mono ?_
              rintro e w2 ⟨rfl, hb2⟩
              have hlow2 := andThen hlow hb2
              have hq2 := HIX.out w2 hlow2
              have hn2 := HN.out w2 hb2
              clear hb2 hlow hq1
              go_wp2_with (refine wpList_load_node rfl _ rfl _ _ rfl _ hn2 ?_)
              refine (ropens_any x w2).mono ?_
              rintro e w3 ⟨rfl, hw3⟩
              simp only [HO.out]
              have hlow3 := andThen hlow2 (show Below w2.heap.size w2 w3 by rw [← hw3]; exact andAlloc (Below.refl _ _) _)
              have hq3 := HIX.out w3 hlow3
              clear hw3 hlow2 hq2 hn2
              go_wp2_with fail
              refine (HC2.out w3 hlow3).mono ?_
              rintro e w4 ⟨rfl, hb4⟩
              have hlow4 := andThen hlow3 hb4
              have hq4 := HIX.out w4 hlow4
              clear hb4 hlow3 hq3
              go_wp2_with fail
              refine (HC3.out w4 hlow4).mono ?_
              rintro e w5 ⟨rfl, hb5⟩
              have hlow5 := andThen hlow4 hb5
              clear hb5 hlow4 hq4
              go_wp2_with fail
              have e3 : (s ++ [a]) ++ ys = xs := (List.append_assoc s [a] ys).trans HS1.out
              have e4 : (s ++ [a]).length = i + 1 := by rw [List.length_append, hsi]; rfl
              have hP3 := HP2.out
              rw [← HRE.out] at hP3
              have HINV := Lib.hid (InvD.mk (many := many) (F := shw many f) (l := l) (ahead := ahead) (bar := bar) (deep := deep) (TOT := TOT) (xs := xs) (w1 := w1) (i := i + 1) (wr := w5) (Exists.intro (a + m) (Exists.intro ys (Exists.intro (s ++ [a]) (And.intro e3 (And.intro e4 (And.intro HST2.out hP3)))))) hlow5)
              clear hlow5
              go_roundw
              case rel => exact ⟨i + 1, _, by go_num, rfl, HINV.out⟩
              case measure => clear hz1 hz2 hz3 hz4 hz5 hTs2; simp [intOf]; omega
set_option maxHeartbeats 4000000 in
set_option maxRecDepth 100000 in
theorem doc_nil (many : Int) : DocC many 0 [] := by
  intro A c ahead bar deep w hc hch hcap hseg hab hd1 hd2
  have HIT := Lib.hid (rstarts_any A [] c [] w (by simp) hseg rfl (by simp))
  change Calls _ _ _ _ fun e w' => e = .returned (.string ⟨#[]⟩) ∧ _
  clear hc hch hseg hab
  rw [List.length_nil] at hcap HIT ⊢
  go_enter Tryz.func15, Tryz.ntmps15
  go_wp2_with fail
  refine HIT.out.mono ?_
  rintro e w1 ⟨v, rfl, hown, hb1⟩
  obtain ⟨A2, c2, rfl, hc2, _, hs2⟩ := Seg.of_own hown
  have HB1 := Lib.hid hb1
  clear hown hb1 hs2 HIT
  rw [List.length_nil] at hc2 ⊢
  go_wp2_with fail
  go_loopw [11, 13] (fun v11 v13 wr => v13 = .int .i64 0 ∧ v11 = .string ⟨#[]⟩ ∧ Below w1.heap.size w1 wr) (fun _ v13 _ => 0)
  case atStart => exact ⟨rfl, rfl, Below.refl _ _⟩
  case round =>
    obtain ⟨rfl, rfl, hlow⟩ := hrel
    have HF := Lib.hid (andThen HB1.out hlow)
    clear hlow
    go_wp2_with fail
    go_ret
    exact ⟨rfl, HF.out⟩
theorem doc_c (many : Int) : ∀ (f : Nat) (l : List Nd), l.length ≤ f → DocC many f l
  | 0, l, hl => by
    obtain rfl : l = [] := List.eq_nil_of_length_eq_zero (by omega)
    exact doc_nil many
  | f + 1, l, hl => doc_step many f (fun l' h => doc_c many f l' h) l hl
set_option maxHeartbeats 4000000 in
set_option maxRecDepth 100000 in
theorem show_doc (A : Option Addr) (l : List Nd) (c : Nat) (deep many : Int) (w : World) (hl : l.length ≤ 9223372036854775807) (hcap : l.length ≤ c) (hdd : deep ≤ 9223372036854775807) (hseg : Seg w w.heap.size A (l.flatMap ncs)) (hch : ∀ x ∈ l, 0 ≤ x.char ∧ x.char < 256) :
    Calls Tryz.prog 6 #[.slice A l.length c, .int .i64 deep, .int .i64 many] w fun e w' => e = .returned (.tuple #[.string (shwT l deep many), .int .i64 (shwE l deep many)]) ∧ Below w.heap.size w w' := by
  have HK := Lib.hid (rcheckl_any A l c w hl hseg)
  by_cases hc : chk l = 0
  · by_cases hn : deep < 0 ∨ many < 0
    · have HT := Lib.hid (show (⟨#[]⟩ : ByteArray) = shwT l deep many from (if_pos (.inr (hn.elim .inl (fun h => .inr (.inl h))))).symm)
      have HE := Lib.hid (show (11 : Int) = shwE l deep many by unfold shwE; rw [if_neg (by simp [hc]), if_pos hn])
      rw [hc] at HK
      generalize l.length = ln at *
      clear hc hseg hch
      by_cases h1 : deep < 0
      · go_enter Tryz.func6, Tryz.ntmps6
        go_wp2_with fail
        refine HK.out.mono ?_
        rintro e w1 ⟨rfl, hb1⟩
        go_wp2_with fail
        go_returns
        exact ⟨ret_ti HT.out HE.out, hb1⟩
      · have h2 : many < 0 := by omega
        clear hn
        go_enter Tryz.func6, Tryz.ntmps6
        go_wp2_with fail
        refine HK.out.mono ?_
        rintro e w1 ⟨rfl, hb1⟩
        go_wp2_with fail
        go_returns
        exact ⟨ret_ti HT.out HE.out, hb1⟩
    · have h1 : ¬ deep < 0 := by omega
      have h2 : ¬ many < 0 := by omega
      by_cases h0 : deep = 0
      · subst h0
        have HT := Lib.hid (show (⟨#[]⟩ : ByteArray) = shwT l 0 many from (if_pos (.inr (.inr (.inr rfl)))).symm)
        have HE := Lib.hid (show (0 : Int) = shwE l 0 many by unfold shwE; rw [if_neg (by simp [hc]), if_neg hn])
        rw [hc] at HK
        generalize l.length = ln at *
        clear hc hseg hch hn h1
        go_enter Tryz.func6, Tryz.ntmps6
        go_wp2_with fail
        refine HK.out.mono ?_
        rintro e w1 ⟨rfl, hb1⟩
        go_wp2_with fail
        go_returns
        exact ⟨ret_ti HT.out HE.out, hb1⟩
      · have HT := Lib.hid (show shw many l.length l ⟨#[]⟩ ⟨#[]⟩ deep = shwT l deep many from (if_neg (by omega)).symm)
        have HE := Lib.hid (show (0 : Int) = shwE l deep many by unfold shwE; rw [if_neg (by simp [hc]), if_neg hn])
        rw [hc] at HK
        have hl2 := (chk_run hc).1
        have HS := Lib.hid (fun w2 (h : Below w.heap.size w w2) => doc_c many l.length l (Nat.le_refl _) A c ⟨#[]⟩ ⟨#[]⟩ deep w2 hc hch hcap (Seg.belowW hseg h) (by show 0 + 0 + _ ≤ _; omega) (by omega) hdd)
        generalize shw many l.length l ⟨#[]⟩ ⟨#[]⟩ deep = T at *
        have e0 : (deep == 0) = false := by simp [h0]
        generalize l.length = ln at *
        clear hc hseg hch hn hl2
        go_enter Tryz.func6, Tryz.ntmps6
        go_wp2_with fail
        refine HK.out.mono ?_
        rintro e w1 ⟨rfl, hb1⟩
        have HB1 := Lib.hid hb1
        clear hb1
        go_wp2_with fail
        refine (HS.out w1 HB1.out).mono ?_
        rintro e w3 ⟨rfl, hb3⟩
        have HB3 := Lib.hid (andThen HB1.out hb3)
        clear hb3
        go_wp2_with fail
        go_returns
        exact ⟨ret_ti HT.out HE.out, HB3.out⟩
  · have HT := Lib.hid (show (⟨#[]⟩ : ByteArray) = shwT l deep many from (if_pos (.inl hc)).symm)
    have HE := Lib.hid (show chk l = shwE l deep many from (if_pos hc).symm)
    generalize chk l = ec at *
    have e0 : (ec != 0) = true := by simp [hc]
    generalize l.length = ln at *
    clear hseg hch
    go_enter Tryz.func6, Tryz.ntmps6
    go_wp2_with fail
    refine HK.out.mono ?_
    rintro e w1 ⟨rfl, hb1⟩
    go_wp2_with fail
    go_returns
    exact ⟨ret_ti HT.out HE.out, hb1⟩
end Go.Proofs.YtmcekdjhkjhcdaaGreatDoor.Sw
end
section
namespace Go.Proofs.YtmcekdjhkjhcdaaGreatDoor.No
open Go.ChangeShapes Go.WideShapes Go.ChangeAt Go.RowKit
open Me Np
set_option linter.unusedVariables false
set_option linter.unusedSimpArgs false

@[irreducible] def neN (x y : Value) : Sem Value := binOp .neq 36 x y
theorem neN_eq (x y : Value) : binOp .neq 36 x y = neN x y := by unfold neN; rfl
theorem run_neN (a b : Nd) (w : World) : (neN (.agg (nc a)) (.agg (nc b))).run Tryz.prog w = .ok (.bool (!eqB a b)) w := by
  rw [← neN_eq, run_neq_struct]
  have h := eqB_eq a b w
  rw [run_eql_struct] at h
  generalize (Op.equalIn 10000 36 (.agg (nc a)) (.agg (nc b))).run Tryz.prog w = r at h ⊢
  cases r with
  | ok b' w' =>
    simp only [Result.andThen, Result.ok.injEq, Value.bool.injEq] at h ⊢
    obtain ⟨h1, h2⟩ := h
    rw [h1, h2]
    exact ⟨rfl, rfl⟩
  | halt x w' => simp [Result.andThen] at h
def sameB (l m : List Nd) : Bool := decide (l.length = m.length) && (l.zip m).all fun p => eqB p.1 p.2
theorem sameB_iff : ∀ {l m : List Nd}, sameB l m = true ↔ l = m
  | [], [] => by simp [sameB]
  | [], _ :: _ => by simp [sameB]
  | _ :: _, [] => by simp [sameB]
  | x :: l, y :: m => by
    have ih := sameB_iff (l := l) (m := m)
    simp only [sameB, Bool.and_eq_true, decide_eq_true_eq] at ih
    simp only [sameB, List.length_cons, List.zip_cons_cons, List.all_cons, Bool.and_eq_true, decide_eq_true_eq, eqB_iff, List.cons.injEq]
    constructor
    · rintro ⟨h1, h2, h3⟩
      exact ⟨h2, ih.1 ⟨by omega, h3⟩⟩
    · rintro ⟨rfl, h2⟩
      obtain ⟨h3, h4⟩ := ih.2 h2
      exact ⟨by omega, rfl, h4⟩
theorem same_no {l m : List Nd} {k : Nat} {x y : Nd} (hx : l[k]? = some x) (hy : m[k]? = some y) (h : eqB x y = false) : sameB l m = false := by
  cases h1 : sameB l m
  · rfl
  · have := sameB_iff.1 h1
    subst this
    rw [hx] at hy
    injection hy with e
    subst e
    rw [eqB_self] at h
    cases h
theorem same_yes {l m : List Nd} (hl : l.length = m.length) (h : ∀ (k : Nat) (x y : Nd), l[k]? = some x → m[k]? = some y → eqB x y = true) : sameB l m = true := by
  rw [sameB_iff]
  apply List.ext_getElem?
  intro k
  cases hx : l[k]? with
  | none =>
    rw [List.getElem?_eq_none_iff] at hx
    rw [List.getElem?_eq_none (by omega)]
  | some x =>
    have hk := (List.getElem?_eq_some_iff.1 hx).1
    have hy : m[k]? = some (m[k]'(by omega)) := List.getElem?_eq_getElem (by omega)
    rw [hy, (eqB_iff _ _).1 (h k _ _ hx hy)]
attribute [local go_sem ↓] ldN_eq neN_eq
set_option maxHeartbeats 1000000 in
set_option maxRecDepth 100000 in
theorem same_any (A B : Option Addr) (l m : List Nd) (c d : Nat) (w : World) (hl : l.length ≤ 9223372036854775806) (hm : m.length ≤ 9223372036854775806) (hA : Seg w w.heap.size A (l.flatMap ncs)) (hB : Seg w w.heap.size B (m.flatMap ncs)) :
    Calls Tryz.prog 16 #[.slice A l.length c, .slice B m.length d] w fun e w' => e = .returned (.bool (sameB l m)) ∧ Below w.heap.size w w' := by
  by_cases hlen : l.length = m.length
  · have e1 : ((l.length : Int) != (m.length : Int)) = false := by simp [hlen]
    have HA := Lib.hid hA
    have HB := Lib.hid hB
    have HLEN := Lib.hid hlen
    clear hA hB
    generalize hn : l.length = n at *
    generalize hq : m.length = q at *
    have HN := Lib.hid hn
    have HQ := Lib.hid hq
    clear hn hq hlen
    obtain rfl : n = q := HLEN.out
    clear HLEN
    go_enter Tryz.func16, Tryz.ntmps16
    go_wp2_with fail
    go_loopw [5] (fun i wr => ∃ (k r : Nat), k ≤ n ∧ i = .int .i64 k ∧ wr = w.drewN r ∧ ∀ (j : Nat) (x y : Nd), j < k → l[j]? = some x → m[j]? = some y → eqB x y = true) (fun i _ => n - (intOf i).toNat)
    case atStart => exact ⟨0, 0, by omega, rfl, rfl, fun j x y hj => by omega⟩
    case round =>
      obtain ⟨k, r, hk, rfl, rfl, hall⟩ := hrel
      have HALL := Lib.hid hall
      clear hall
      by_cases hlt : k < n
      · obtain ⟨x, hx⟩ : ∃ x, l[k]? = some x := ⟨_, List.getElem?_eq_getElem (by rw [HN.out]; exact hlt)⟩
        obtain ⟨y, hy⟩ : ∃ y, m[k]? = some y := ⟨_, List.getElem?_eq_getElem (by rw [HQ.out]; exact hlt)⟩
        obtain ⟨b, off, rfl, hb, hnx⟩ := seg_node HA.out hx
        obtain ⟨b', off', rfl, hb', hny⟩ := seg_node HB.out hy
        have HX := Lib.hid hx
        have HY := Lib.hid hy
        have HNX := Lib.hid hnx
        have HNY := Lib.hid hny
        have hq := run_neN x y
        clear hx hy hnx hny
        cases he : eqB x y
        · rw [he] at hq
          have HE := Lib.hid he
          clear he
          go_wp2_with fail
          go_region_held3 (fun w' => (ldN ⟨b, off + k * 19, none⟩).run Tryz.prog w' = .ok (.agg (nc x)) w' ∧ (ldN ⟨b', off' + k * 19, none⟩).run Tryz.prog w' = .ok (.agg (nc y)) w') (exact ⟨run_ldN (NodeAt.drewN (NodeAt.drewN HNX.out r) 1), run_ldN (NodeAt.drewN (NodeAt.drewN HNY.out r) 1)⟩) (fail)
          go_wp2_with fail
          go_ret
          exact ⟨ret_bool (same_no HX.out HY.out HE.out).symm, below_drewN (below_drewN (Below.refl _ _) r) 1⟩
        · rw [he] at hq
          have HE := Lib.hid he
          clear he
          go_wp2_with fail
          go_region_held3 (fun w' => (ldN ⟨b, off + k * 19, none⟩).run Tryz.prog w' = .ok (.agg (nc x)) w' ∧ (ldN ⟨b', off' + k * 19, none⟩).run Tryz.prog w' = .ok (.agg (nc y)) w') (exact ⟨run_ldN (NodeAt.drewN (NodeAt.drewN HNX.out r) 1), run_ldN (NodeAt.drewN (NodeAt.drewN HNY.out r) 1)⟩) (fail)
          go_wp2_with fail
          go_roundw
          case rel =>
            refine ⟨k + 1, r + 1, by omega, by go_num, rfl, fun j x' y' hj hx' hy' => ?_⟩
            rcases Nat.lt_or_ge j k with h1 | h1
            · exact HALL.out j x' y' h1 hx' hy'
            · obtain rfl : j = k := by omega
              rw [HX.out] at hx'
              rw [HY.out] at hy'
              injection hx' with h2
              injection hy' with h3
              subst h2 h3
              exact HE.out
          case measure => simp [intOf]; omega
      · obtain rfl : k = n := by omega
        go_wp2_with fail
        go_ret
        refine ⟨ret_bool (same_yes (by rw [HN.out, HQ.out]) fun j x y hx hy => HALL.out j x y ?_ hx hy).symm, below_drewN (Below.refl _ _) r⟩
        have := (List.getElem?_eq_some_iff.1 hx).1
        rw [HN.out] at this
        exact this
  · have e1 : ((l.length : Int) != (m.length : Int)) = true := by
      rw [bne_iff_ne]
      omega
    have hs : sameB l m = false := by simp [sameB, hlen]
    have HS := Lib.hid hs
    clear hs hlen
    generalize l.length = n at *
    generalize m.length = q at *
    go_enter Tryz.func16, Tryz.ntmps16
    go_wp2_with fail
    go_ret
    exact ⟨ret_bool HS.out.symm, Below.refl _ _⟩
end Go.Proofs.YtmcekdjhkjhcdaaGreatDoor.No
end
section
namespace Go.Proofs.YtmcekdjhkjhcdaaGreatDoor.No
open Go.ChangeShapes Go.WideShapes Go.ChangeAt Go.RowKit
open Me Np
set_option linter.unusedVariables false
set_option linter.unusedSimpArgs false

/-- A node that no list has: what stands in the room behind a lent one. -/
def mk (k : Int) : Nd := { nz (-k) with text := ⟨#[114, 111, 111, 109]⟩ }
attribute [local go_sem ↓] bldN_eq
set_option maxRecDepth 100000 in
theorem marker_any (k : Int) (w : World) (hk : 0 ≤ k ∧ k ≤ 100) : Calls Tryz.prog 10 #[.int .i64 k] w fun e w' => e = .returned (.agg (nc (mk k))) ∧ Below w.heap.size w w' := by
  have hw : IntKind.i64.wrap (-k) = -k := IntWalk.i64_in _ (by omega)
  have hbn : ∀ w, (bldN #[(0, .int .i64 (-k)), (14, .string ⟨#[114, 111, 111, 109]⟩)]).run Tryz.prog w = .ok (.agg (nc (mk k))) w := fun w => by rw [← bldN_eq]; exact run_build w 36 _ _ (by kernel_rfl)
  go_enter Tryz.func10, Tryz.ntmps10
  go_wp2_with (first | (refine wpList_alloc_node rfl rfl ?_) | (refine wpList_store_node rfl _ _ rfl _ _ _ rfl rfl _ (by repeat (first | (apply Blk.new'; first | rfl | (simp; done)) | assumption | apply Blk.alloc)) ?_))
  exact bodyPost_ret (v := .agg (nc (mk k))) (results_node rfl _ _ _ _ rfl (by repeat (first | apply NodeAt.row | (apply Blk.new'; first | rfl | (simp; done)) | (apply Blk.node; apply Blk.new'; first | rfl | (simp; done)) | assumption | apply NodeAt.alloc))) rfl ⟨rfl, (by repeat (first | (refine below_setRow ?_ _ _ ?_; rotate_left; focus (simp; done)) | exact Below.refl _ _ | refine andAlloc ?_ _))⟩
end Go.Proofs.YtmcekdjhkjhcdaaGreatDoor.No
end
section
namespace Go.Proofs.YtmcekdjhkjhcdaaGreatDoor.No
open Go.ChangeShapes Go.WideShapes Go.ChangeAt Go.RowKit
open Me Np
set_option linter.unusedVariables false
set_option linter.unusedSimpArgs false

theorem next_two {n cap : Nat} (h : cap < n + 2) (hc : n ≤ cap) : Builtin.nextslicecap (n + 2) cap ≤ cap + cap / 4 + 520 := by
  unfold Builtin.nextslicecap
  split
  · omega
  · split
    · omega
    · rw [growBy_four]
      repeat' split
      all_goals omega
/-- A row of the call's own, two nodes longer. -/
theorem run_append_two {w : World} (ty : TypeId) (base : Nat) (hbase : base ≤ w.heap.size) (g n cap : Nat) (xs : List Value) (hown : w.ownsRow base 36 19 (.slice (some ⟨g, 0, none⟩) n cap) n xs) (hn : n ≤ 879609302220) (ad : Addr) (c : Nat) (l : List Nd) (hl2 : l.length = 2)
    (hc : ∀ j u, (l.flatMap ncs)[j]? = some u → w.cell? (ad.add j) = some u) :
    ∃ (g' cap' : Nat) (w' : World), (Builtin.append_ #[22, 22] ty #[.slice (some ⟨g, 0, none⟩) n cap, .slice (some ad) 2 c]).run Tryz.prog w = .ok (.slice (some ⟨g', 0, none⟩) (n + 2) cap') w' ∧
      w'.ownsRow base 36 19 (.slice (some ⟨g', 0, none⟩) (n + 2) cap') (n + 2) (xs ++ l.flatMap ncs) ∧ w.grownBy w' (some g) := by
  obtain ⟨i, hi, hz, hsi, hbi⟩ := info_parts node_row
  have hfl : (l.flatMap ncs).length = 38 := by rw [flat_length ncs_length, hl2]
  have hfl2 : (l.flatMap ncs).length = 2 * i.size := by rw [hfl, hsi]
  have hxs := hown.1
  have hcells := hown.cells (g := g) rfl
  rcases hown.2 with ⟨h, _⟩ | ⟨g0, cap0, cur, h, hg0, hg, hnc, hcm, hcs, htake⟩
  · simp at h
  simp only [Value.slice.injEq, Option.some.injEq, Addr.mk.injEq, and_true, true_and] at h
  obtain ⟨h1, h2⟩ := h
  subst h1; subst h2
  have hlen : (xs ++ l.flatMap ncs).length = (n + 2) * 19 := by rw [List.length_append, hxs, hfl]; omega
  by_cases hroom : n + 2 ≤ cap
  · have hr := run_append_room (P := Tryz.prog) w 22 ty 36 i Tryz.underlying22 hi g n cap cur hg ad 2 c (l.flatMap ncs) hfl2 hc (ncs_one l) hroom (by rw [hsi, hfl, hcs]; omega)
    refine ⟨g, cap, _, hr, ?_, ?_⟩
    · refine ⟨hlen, .inr ⟨g, cap, _, rfl, hg0, setRow_heap w g cur _ _ _ hg, hroom, hcm, ?_, ?_⟩⟩
      · have e : cur.toList.length = cap * 19 := by rw [← hcs]; simp
        simp only [List.size_toArray, List.length_append, List.length_take, List.length_drop, hfl, hsi, e]
        omega
      · rw [hsi]
        simp only [htake]
        rw [← hlen]
        exact List.take_left
    · exact ⟨rfl, rfl, rfl, by simp, fun k _ hk => setRow_other w g k _ (fun e => hk (by rw [e]))⟩
  · have hfit : Builtin.nextslicecap (n + 2) cap * i.bytes ≤ 281474976710656 := by
      have h1 := next_two (n := n) (cap := cap) (by omega) hnc
      rw [hbi]
      omega
    have hr := run_append_grow (P := Tryz.prog) w 22 ty 36 i _ Tryz.underlying22 hi hz ⟨g, 0, none⟩ n cap xs (by rw [hsi]; exact hxs) hcells ad 2 c (l.flatMap ncs) hfl2 hc (by omega) (by omega) hfit
    have hge := grownCap_ge w (n + 2) cap 36
    have hle := grownCap_le_maxLen w (n + 2) cap 36 (by simp only [maxLen]; omega)
    refine ⟨w.heap.size, _, _, hr, ?_, ?_⟩
    · refine ⟨hlen, .inr ⟨w.heap.size, _, _, rfl, hbase, heap_alloc_new w.drew _, hge, hle, ?_, ?_⟩⟩
      · rw [Array.size_append, Array.size_append, size_zeroCells, List.size_toArray, List.size_toArray, hxs, hfl, show (Value.agg (nc (nz 0))).cells.size = 19 from rfl]
        omega
      · rw [Array.toList_append, Array.toList_append]
        simp only
        rw [← hlen]
        exact List.take_left
    · exact ⟨rfl, rfl, rfl, by simp, fun k hk _ => heap_alloc_old w.drew _ hk⟩
end Go.Proofs.YtmcekdjhkjhcdaaGreatDoor.No
end
section
namespace Go.Proofs.YtmcekdjhkjhcdaaGreatDoor.No
open Go.ChangeShapes Go.WideShapes Go.ChangeAt Go.RowKit
open Me Np
set_option linter.unusedVariables false
set_option linter.unusedSimpArgs false

def marks : List Nd := [mk 7, mk 8]
/-- What Lent answers: a row of the call's own, the list and the two marks; the slice is the list alone. -/
def MadeT (w : World) (l : List Nd) (e : Ending) (w' : World) : Prop :=
  ∃ g cap, e = .returned (.slice (some ⟨g, 0, none⟩) l.length cap) ∧ l.length + 2 ≤ cap ∧ cap ≤ maxLen ∧ w'.ownsRow w.heap.size 36 19 (.slice (some ⟨g, 0, none⟩) (l.length + 2) cap) (l.length + 2) ((l ++ marks).flatMap ncs) ∧ Below w.heap.size w w'
/-- 'append' of a whole slice that came in to an empty one, as long as the reach lets it be. -/
theorem run_append_all {w : World} (ty : TypeId) (base g : Nat) (hbase : base ≤ w.heap.size) (hown : w.ownsRow base 36 19 (.slice (some ⟨g, 0, none⟩) 0 0) 0 []) (B : Nat) (A : Option Addr) (c : Nat) (l : List Nd) (hs : Seg w B A (l.flatMap ncs)) (hA : A = none → c = 0) (hl : l.length ≤ 879609302220) :
    ∃ g' cap w', (Builtin.append_ #[22, 22] ty #[.slice (some ⟨g, 0, none⟩) 0 0, .slice A l.length c]).run Tryz.prog w = .ok (.slice (some ⟨g', 0, none⟩) l.length cap) w' ∧ w'.ownsRow base 36 19 (.slice (some ⟨g', 0, none⟩) l.length cap) l.length (l.flatMap ncs) ∧ w.grownBy w' (some g) := by
  obtain ⟨i, hi, hz, hsi, hbi⟩ := info_parts node_row
  have hl0 : l.flatMap ncs = [] → l = [] := fun h => by
    have := flat_length ncs_length l
    rw [h] at this
    simp only [List.length_nil] at this
    exact List.eq_nil_of_length_eq_zero (by omega)
  cases A with
  | none =>
    obtain rfl := hA rfl
    have hl : l = [] := by
      rcases hs with h | ⟨b, off, e, _⟩
      · exact hl0 h
      · cases e
    subst hl
    exact ⟨g, 0, w, run_append_owned_none w base 22 ty 36 i 19 Tryz.underlying22 hi _ 0 [] hown, hown, rfl, rfl, rfl, Nat.le_refl _, fun k _ _ => rfl⟩
  | some ad =>
    have hc : ∀ j u, (l.flatMap ncs)[j]? = some u → w.cell? (ad.add j) = some u := by
      rcases hs with h | ⟨b, off, e, _, h⟩
      · intro j u hu
        rw [h] at hu
        simp at hu
      · injection e with e
        subst e
        intro j u hu
        have hadd : (⟨b, off, none⟩ : Addr).add j = ⟨b, off + j, none⟩ := by unfold Addr.add; split <;> simp_all
        rw [hadd]
        exact h j u hu
    obtain ⟨v', w', hr, h2, h3, h4⟩ := run_append_own (P := Tryz.prog) w base 22 ty 36 i _ 19 160 Tryz.underlying22 hi hz hsi hbi rfl (by decide) _ 0 [] hown ad l.length c (l.flatMap ncs) (flat_length ncs_length l) hc (ncs_one l) (by simp only [maxLen]; omega) (by omega) hbase
    simp only [Nat.zero_add, List.nil_append] at h2
    rcases id h2.2 with ⟨rfl, h0⟩ | ⟨g', cap, cur, rfl, _⟩
    · exact absurd (h4.1 rfl).1 (by simp)
    · exact ⟨g', cap, w', hr, h2, h3⟩
theorem wpList_append_all {ops : Array Oper} {rest : List Oper} {o : Oper} {a : Act} {w : World} {Q : Exit → Act → World → Prop} (hgd : o.guard = none) (s x : Operand) (ho : o.op = .call { callee := .builtin .append, args := #[s, x], argTypes := #[22, 22] })
    (base g : Nat) (hbase : base ≤ w.heap.size) (hs : a.eval s = .slice (some ⟨g, 0, none⟩) 0 0) (hown : w.ownsRow base 36 19 (.slice (some ⟨g, 0, none⟩) 0 0) 0 []) (B : Nat) (A : Option Addr) (c len : Nat) (l : List Nd) (hx : a.eval x = .slice A len c) (hlen : len = l.length) (hseg : Seg w B A (l.flatMap ncs)) (hA : A = none → c = 0) (hl : l.length ≤ 879609302220)
    (h : ∀ g' cap w', w'.ownsRow base 36 19 (.slice (some ⟨g', 0, none⟩) len cap) len (l.flatMap ncs) → w.grownBy w' (some g) → wpList Tryz.prog ops Q rest (a.put o.dst (.slice (some ⟨g', 0, none⟩) len cap)) w') : wpList Tryz.prog ops Q (o :: rest) a w :=
  wpList_plain hgd fun K hK => by
    subst hlen
    obtain ⟨g', cap, w', hr, h2, h3⟩ := run_append_all o.type base g hbase hown B A c l hseg hA hl
    unfold Oper.wp execOp
    simp only [ho, resolve, invoke, builtin, Sem.run_bind, Sem.run_pure, Result.andThen_ok, List.map_toArray, List.map_cons, List.map_nil, hs, hx, hr]
    exact hK _ _ (h g' cap w' h2 h3)
theorem wpList_append_two {ops : Array Oper} {rest : List Oper} {o : Oper} {a : Act} {w : World} {Q : Exit → Act → World → Prop} (hgd : o.guard = none) (s x : Operand) (ho : o.op = .call { callee := .builtin .append, args := #[s, x], argTypes := #[22, 22] })
    (base g n cap : Nat) (hbase : base ≤ w.heap.size) (xs : List Value) (hs : a.eval s = .slice (some ⟨g, 0, none⟩) n cap) (hown : w.ownsRow base 36 19 (.slice (some ⟨g, 0, none⟩) n cap) n xs) (hn : n ≤ 879609302220) (ad : Addr) (c : Nat) (l : List Nd) (hx : a.eval x = .slice (some ad) 2 c) (hl2 : l.length = 2) (hc : ∀ j u, (l.flatMap ncs)[j]? = some u → w.cell? (ad.add j) = some u)
    (h : ∀ g' cap' w', w'.ownsRow base 36 19 (.slice (some ⟨g', 0, none⟩) (n + 2) cap') (n + 2) (xs ++ l.flatMap ncs) → w.grownBy w' (some g) → wpList Tryz.prog ops Q rest (a.put o.dst (.slice (some ⟨g', 0, none⟩) (n + 2) cap')) w') : wpList Tryz.prog ops Q (o :: rest) a w :=
  wpList_plain hgd fun K hK => by
    obtain ⟨g', cap', w', hr, h2, h3⟩ := run_append_two o.type base hbase g n cap xs hown hn ad c l hl2 hc
    unfold Oper.wp execOp
    simp only [ho, resolve, invoke, builtin, Sem.run_bind, Sem.run_pure, Result.andThen_ok, List.map_toArray, List.map_cons, List.map_nil, hs, hx, hr]
    exact hK _ _ (h g' cap' w' h2 h3)
end Go.Proofs.YtmcekdjhkjhcdaaGreatDoor.No
end
section
namespace Go.Proofs.YtmcekdjhkjhcdaaGreatDoor.No
open Go.ChangeShapes Go.WideShapes Go.ChangeAt Go.RowKit
open Me Np
set_option linter.unusedVariables false
set_option linter.unusedSimpArgs false

theorem run_append_seg {w : World} (ty : TypeId) (base : Nat) (hbase : base ≤ w.heap.size) (v : Value) (n : Nat) (xs : List Value) (hown : w.ownsRow base 36 19 v n xs) (B : Nat) (A : Option Addr) (c : Nat) (l : List Nd) (hs : Seg w B A (l.flatMap ncs)) (hA : A = none → c = 0) (hn : n + l.length ≤ 100000) :
    ∃ v' w', (Builtin.append_ #[22, 22] ty #[v, .slice A l.length c]).run Tryz.prog w = .ok v' w' ∧ w'.ownsRow base 36 19 v' (n + l.length) (xs ++ l.flatMap ncs) ∧ w.grownBy w' v.ownBlock := by
  obtain ⟨i, hi, hz, hsi, hbi⟩ := info_parts node_row
  have hl0 : l.flatMap ncs = [] → l = [] := fun h => by
    have := flat_length ncs_length l
    rw [h] at this
    simp only [List.length_nil] at this
    exact List.eq_nil_of_length_eq_zero (by omega)
  cases A with
  | none =>
    obtain rfl := hA rfl
    have hl : l = [] := by
      rcases hs with h | ⟨b, off, e, _⟩
      · exact hl0 h
      · cases e
    subst hl
    exact ⟨v, w, run_append_owned_none w base 22 ty 36 i 19 Tryz.underlying22 hi v n xs hown, by simpa using hown, rfl, rfl, rfl, Nat.le_refl _, fun k _ _ => rfl⟩
  | some ad =>
    have hc : ∀ j u, (l.flatMap ncs)[j]? = some u → w.cell? (ad.add j) = some u := by
      rcases hs with h | ⟨b, off, e, _, h⟩
      · intro j u hu
        rw [h] at hu
        simp at hu
      · injection e with e
        subst e
        intro j u hu
        have hadd : (⟨b, off, none⟩ : Addr).add j = ⟨b, off + j, none⟩ := by unfold Addr.add; split <;> simp_all
        rw [hadd]
        exact h j u hu
    obtain ⟨v', w', hr, h2, h3, _⟩ := run_append_own (P := Tryz.prog) w base 22 ty 36 i _ 19 160 Tryz.underlying22 hi hz hsi hbi rfl (by decide) v n xs hown ad l.length c (l.flatMap ncs) (flat_length ncs_length l) hc (ncs_one l) (by simp only [maxLen]; omega) (by omega) hbase
    exact ⟨v', w', hr, h2, h3⟩
theorem wpList_append_seg {ops : Array Oper} {rest : List Oper} {o : Oper} {a : Act} {w : World} {Q : Exit → Act → World → Prop} (hgd : o.guard = none) (s x : Operand) (ho : o.op = .call { callee := .builtin .append, args := #[s, x], argTypes := #[22, 22] })
    (base : Nat) (hbase : base ≤ w.heap.size) (v : Value) (n : Nat) (xs : List Value) (hs : a.eval s = v) (hown : w.ownsRow base 36 19 v n xs) (B : Nat) (A : Option Addr) (c len : Nat) (l : List Nd) (hx : a.eval x = .slice A len c) (hlen : len = l.length) (hseg : Seg w B A (l.flatMap ncs)) (hA : A = none → c = 0) (hn : n + l.length ≤ 100000)
    (h : ∀ v' w', w'.ownsRow base 36 19 v' (n + l.length) (xs ++ l.flatMap ncs) → w.grownBy w' v.ownBlock → wpList Tryz.prog ops Q rest (a.put o.dst v') w') : wpList Tryz.prog ops Q (o :: rest) a w :=
  wpList_plain hgd fun K hK => by
    subst hlen
    obtain ⟨v', w', hr, h2, h3⟩ := run_append_seg o.type base hbase v n xs hown B A c l hseg hA hn
    unfold Oper.wp execOp
    simp only [ho, resolve, invoke, builtin, Sem.run_bind, Sem.run_pure, Result.andThen_ok, List.map_toArray, List.map_cons, List.map_nil, hs, hx, hr]
    exact hK _ _ (h v' w' h2 h3)

end Go.Proofs.YtmcekdjhkjhcdaaGreatDoor.No
end
section
namespace Go.Proofs.YtmcekdjhkjhcdaaGreatDoor.No
open Go.ChangeShapes Go.WideShapes Go.ChangeAt Go.RowKit
open Me Np
set_option linter.unusedVariables false
set_option linter.unusedSimpArgs false

theorem own_cap {w : World} {base : Nat} {e : TypeId} {size g n c : Nat} {xs : List Value} (h : w.ownsRow base e size (.slice (some ⟨g, 0, none⟩) n c) n xs) : n ≤ c ∧ c ≤ maxLen := by
  rcases h.2 with ⟨h', _⟩ | ⟨g', cap', cur, h', _, _, hnc, hcm, _, _⟩
  · simp at h'
  · simp only [Value.slice.injEq, Option.some.injEq, Addr.mk.injEq, and_true, true_and] at h'
    obtain ⟨rfl, rfl⟩ := h'
    exact ⟨hnc, hcm⟩
set_option maxHeartbeats 1000000 in
set_option maxRecDepth 100000 in
theorem lent_any (A : Option Addr) (l : List Nd) (c : Nat) (w : World) (hl : l.length ≤ 879609302220) (hA : A = none → c = 0) (hseg : Seg w w.heap.size A (l.flatMap ncs)) :
    Calls Tryz.prog 4 #[.slice A l.length c] w (MadeT w l) := by
  have HL := Lib.hid (rfl : l.length = l.length)
  have HA := Lib.hid hA
  have HO0 := Lib.hid (by simpa using World.ownsRow_made w #[] 0 (e := 36) (size := 19) (Nat.le_refl _) (by simp [maxLen]) (by simp) : (w.alloc (.cells #[] 36)).ownsRow w.heap.size 36 19 (.slice (some ⟨w.heap.size, 0, none⟩) 0 0) 0 [])
  have HSG := Lib.hid (Seg.below hseg (andAlloc (Below.refl _ _) (.cells #[] 36)))
  unfold MadeT
  clear hseg hA HL
  generalize hlen : l.length = len at *
  have HL := Lib.hid hlen
  clear hlen
  go_enter Tryz.func4, Tryz.ntmps4
  go_wp2_with (first
    | (at_builtin; refine wpList_append_all rfl (.tmp 4) (.tmp 5) rfl w.heap.size w.heap.size ?_ rfl HO0.out w.heap.size A c len l rfl HL.out.symm HSG.out HA.out ?_ ?_; simp; (rw [HL.out]; exact hl); intro g1 cap1 W1 hown1 hg1))
  have hlw1 : Below w.heap.size w W1 := below_grown (Nat.le_refl _) (andAlloc (Below.refl _ _) _) hg1 (fun k hk => by injection hk with hk; omega)
  have HO1 := Lib.hid hown1
  clear hown1 hg1
  refine (marker_any 7 _ (by omega)).mono ?_
  rintro e w2 ⟨rfl, hb2⟩
  have hlw2 := andThen hlw1 hb2
  have HO2 := Lib.hid (own_below HO1.out hb2)
  clear hb2 hlw1
  go_wp2_with fail
  refine (marker_any 8 _ (by omega)).mono ?_
  rintro e w3 ⟨rfl, hb3⟩
  have HLW3 := Lib.hid (andThen hlw2 hb3)
  have HO3 := Lib.hid (own_below (own_below HO2.out hb3) (andAlloc (Below.refl _ _) (.cells (marks.flatMap ncs).toArray 36)))
  have HLW4 := Lib.hid (andAlloc HLW3.out (.cells (marks.flatMap ncs).toArray 36))
  have hcc : ∀ j u, (marks.flatMap ncs)[j]? = some u → (w3.alloc (.cells (marks.flatMap ncs).toArray 36)).cell? ((⟨w3.heap.size, 0, none⟩ : Addr).add j) = some u := by
    intro j u hu
    have hadd : (⟨w3.heap.size, 0, none⟩ : Addr).add j = ⟨w3.heap.size, j, none⟩ := by unfold Addr.add; split <;> simp_all
    rw [hadd, (Blk.new w3 _ _).cell j]
    simpa using hu
  have HCC := Lib.hid hcc
  clear hb3 hlw2 HO2 HO1 hcc
  go_wp2_with (first
    | (refine wpList_ex (o := ⟨some 10, _, _, _, _, _⟩) (v := .slice (some ⟨w3.heap.size, 0, none⟩) 2 2) (w' := w3.alloc (.cells (marks.flatMap ncs).toArray 36)) rfl (by kernel_rfl) ?_)
    | (at_builtin; refine wpList_append_two rfl (.tmp 7) (.tmp 10) rfl w.heap.size g1 len cap1 ?_ _ rfl HO3.out ?_ ⟨w3.heap.size, 0, none⟩ 2 marks rfl rfl HCC.out ?_; (have hh := HLW4.out.size; exact hh); exact hl; intro g2 cap2 W4 hown4 hg4; have hcp := own_cap hown4))
  have hlt := HO3.out.lt g1 rfl
  have HLF := Lib.hid (below_grown (Nat.le_refl _) HLW4.out hg4 (fun k hk => by injection hk with hk; omega) : Below w.heap.size w W4)
  have HOF := Lib.hid hown4
  clear hg4 hown4 hlt
  go_ret
  exact ⟨g2, cap2, rfl, hcp.1, hcp.2, by rw [List.flatMap_append]; exact HOF.out, HLF.out⟩
end Go.Proofs.YtmcekdjhkjhcdaaGreatDoor.No
end
