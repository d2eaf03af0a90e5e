import Derived.Test.YtmcekdjhkjhcdaaGreatDoorMs3
import Derived.Deep.RegionHeld3
import Derived.Test.YtmcekdjhkjhcdaaGreatDoorNodeKb
import Derived.Test.YtmcekdjhkjhcdaaGreatDoorMem
import Derived.ProofKit
import Derived.OpenShut
import Derived.Deep.Slices
import Derived.KernelRfl
import Derived.Test.YtmcekdjhkjhcdaaGreatDoorNodeE
import Derived.SizedLaws
import Derived.Carry
import Derived.Test.YtmcekdjhkjhcdaaGreatDoorCard
/- NodesShows: every list's text, so deep and so many, is the document's; what is handed in stays. No conditions. (printed by gen_card.py) -/
section
namespace Go.Proofs.YtmcekdjhkjhcdaaGreatDoor.No
open Go.ChangeShapes Go.WideShapes Go.ChangeAt Go.RowKit
open Me Np
set_option linter.unusedVariables false
set_option linter.unusedSimpArgs false
theorem keepY {w W W' : World} {g len : Nat} (hb : Below W.heap.size W W') (hS : (ldN ⟨g, len * 19, none⟩).run Tryz.prog W = .ok (.agg (nc (mk 7))) W ∧ (ldN ⟨g, (len + 1) * 19, none⟩).run Tryz.prog W = .ok (.agg (nc (mk 8))) W ∧ NodeAt W g (len * 19) (mk 7) ∧ NodeAt W g ((len + 1) * 19) (mk 8) ∧ Below w.heap.size w W) : (ldN ⟨g, len * 19, none⟩).run Tryz.prog W' = .ok (.agg (nc (mk 7))) W' ∧ (ldN ⟨g, (len + 1) * 19, none⟩).run Tryz.prog W' = .ok (.agg (nc (mk 8))) W' ∧ NodeAt W' g (len * 19) (mk 7) ∧ NodeAt W' g ((len + 1) * 19) (mk 8) ∧ Below w.heap.size w W' := by
  obtain ⟨_, _, h3, h4, h5⟩ := hS
  have g3 := h3.below hb h3.lt
  have g4 := h4.below hb h4.lt
  exact ⟨run_ldN g3, run_ldN g4, g3, g4, andThen h5 hb⟩
theorem keepYb {w W : World} {g len : Nat} (hS : (ldN ⟨g, len * 19, none⟩).run Tryz.prog W = .ok (.agg (nc (mk 7))) W ∧ (ldN ⟨g, (len + 1) * 19, none⟩).run Tryz.prog W = .ok (.agg (nc (mk 8))) W ∧ NodeAt W g (len * 19) (mk 7) ∧ NodeAt W g ((len + 1) * 19) (mk 8) ∧ Below w.heap.size w W) : Below w.heap.size w W := hS.2.2.2.2
theorem drewY {w W : World} {g len : Nat} (hS : (ldN ⟨g, len * 19, none⟩).run Tryz.prog W = .ok (.agg (nc (mk 7))) W ∧ (ldN ⟨g, (len + 1) * 19, none⟩).run Tryz.prog W = .ok (.agg (nc (mk 8))) W ∧ NodeAt W g (len * 19) (mk 7) ∧ NodeAt W g ((len + 1) * 19) (mk 8) ∧ Below w.heap.size w W) : (ldN ⟨g, len * 19, none⟩).run Tryz.prog W.drew = .ok (.agg (nc (mk 7))) W.drew ∧ (ldN ⟨g, (len + 1) * 19, none⟩).run Tryz.prog W.drew = .ok (.agg (nc (mk 8))) W.drew ∧ NodeAt W.drew g (len * 19) (mk 7) ∧ NodeAt W.drew g ((len + 1) * 19) (mk 8) ∧ Below w.heap.size w W.drew := keepY (below_drewN (Below.refl _ _) 1) hS
attribute [local go_sem ↓] ldN_eq eqN_eq
set_option maxHeartbeats 2000000 in
set_option maxRecDepth 100000 in
theorem stays_any (g cap : Nat) (A : Option Addr) (l : List Nd) (c : Nat) (w : World) (hl : l.length ≤ 879609302220) (hcap : l.length + 2 ≤ cap) (hcm : cap ≤ maxLen) (hx : Seg w w.heap.size (some ⟨g, 0, none⟩) ((l ++ marks).flatMap ncs)) (hseg : Seg w w.heap.size A (l.flatMap ncs)) :
    Calls Tryz.prog 8 #[.slice (some ⟨g, 0, none⟩) l.length cap, .slice A l.length c] w fun e w' => e = .returned (.bool true) ∧ Below w.heap.size w w' := by
  have hn7 : NodeAt w g (l.length * 19) (mk 7) := by
    obtain ⟨b, off, e, _, h⟩ := seg_node (k := l.length) (n := mk 7) hx (by rw [List.getElem?_append_right (Nat.le_refl _), Nat.sub_self]; rfl)
    injection e with e
    injection e with e1 e2
    subst e1; subst e2
    simpa using h
  have hn8 : NodeAt w g ((l.length + 1) * 19) (mk 8) := by
    obtain ⟨b, off, e, _, h⟩ := seg_node (k := l.length + 1) (n := mk 8) hx (by rw [List.getElem?_append_right (by omega), show l.length + 1 - l.length = 1 by omega]; rfl)
    injection e with e
    injection e with e1 e2
    subst e1; subst e2
    simpa using h
  have hxs : Seg w w.heap.size (some ⟨g, 0, none⟩) (l.flatMap ncs) := by
    have h := Seg.take hx (l.length * 19)
    rw [← flat_take ncs_length, List.take_left] at h
    exact h
  have HSM := Lib.hid fun w1 (h : Below w.heap.size w w1) => same_any (some ⟨g, 0, none⟩) A l l cap c w1 (by omega) (by omega) (Seg.belowW hxs h) (Seg.belowW hseg h)
  rw [show sameB l l = true from sameB_iff.2 rfl] at HSM
  have HS0 := Lib.hid (show (ldN ⟨g, l.length * 19, none⟩).run Tryz.prog w = .ok (.agg (nc (mk 7))) w ∧ (ldN ⟨g, (l.length + 1) * 19, none⟩).run Tryz.prog w = .ok (.agg (nc (mk 8))) w ∧ NodeAt w g (l.length * 19) (mk 7) ∧ NodeAt w g ((l.length + 1) * 19) (mk 8) ∧ Below w.heap.size w w from ⟨run_ldN hn7, run_ldN hn8, hn7, hn8, Below.refl _ _⟩)
  have hq7 := run_eqN (mk 7) (mk 7)
  have hq8 := run_eqN (mk 8) (mk 8)
  rw [eqB_self] at hq7 hq8
  have hwr : IntKind.i64.wrap ((l.length : Int) + 2) = l.length + 2 := IntWalk.i64_in _ (by omega)
  have hwr1 : IntKind.i64.wrap ((l.length : Int) + 1) = l.length + 1 := IntWalk.i64_in _ (by omega)
  clear hx hseg hxs hn7 hn8
  generalize l.length = len at *
  have hc1 : (len : Int) + 2 ≤ cap := by omega
  have hc2 : (len : Int) ≤ cap := by omega
  have t2 : ((len : Int) + 2).toNat = len + 2 := by omega
  have t1 : ((len : Int) + 1).toNat = len + 1 := by omega
  have i0 : (0 : Int) ≤ (len : Int) := by omega
  have i1 : (len : Int) < (len : Int) + 2 := by omega
  have i2 : (len : Int) < ((len + 2 : Nat) : Int) := by omega
  have i3 : (0 : Int) ≤ (len : Int) + 1 := by omega
  have i4 : (len : Int) + 1 < (len : Int) + 2 := by omega
  have i5 : (len : Int) + 1 < ((len + 2 : Nat) : Int) := by omega
  go_enter Tryz.func8, Tryz.ntmps8
  go_wp2_with fail
  go_region_held3 (fun w' => (ldN ⟨g, len * 19, none⟩).run Tryz.prog w' = .ok (.agg (nc (mk 7))) w' ∧ (ldN ⟨g, (len + 1) * 19, none⟩).run Tryz.prog w' = .ok (.agg (nc (mk 8))) w' ∧ NodeAt w' g (len * 19) (mk 7) ∧ NodeAt w' g ((len + 1) * 19) (mk 8) ∧ Below w.heap.size w w') (first
      | exact drewY HS0.out
      | exact ⟨by assumption, by assumption, by assumption, by assumption, by assumption⟩
      | exact drewY (w := w) (g := g) (len := len) (by assumption)
      | go_keep) (first
    | (go_at_call 16; refine (HSM.out _ ?_).mono ?_; (refine keepYb (w := w) (g := g) (len := len) ?_; assumption); rintro e wz ⟨rfl, hbz⟩; have hkz := keepY (w := w) (g := g) (len := len) hbz (by assumption); obtain ⟨k0, k1, k2, k3, k4⟩ := hkz)
    | (go_at_call_of 10 (Value.int .i64 7); refine (marker_any 7 _ (by omega)).mono ?_; rintro e wz ⟨rfl, hbz⟩; have hkz := keepY (w := w) (g := g) (len := len) hbz (by assumption); obtain ⟨k0, k1, k2, k3, k4⟩ := hkz)
    | (go_at_call_of 10 (Value.int .i64 8); refine (marker_any 8 _ (by omega)).mono ?_; rintro e wz ⟨rfl, hbz⟩; have hkz := keepY (w := w) (g := g) (len := len) hbz (by assumption); obtain ⟨k0, k1, k2, k3, k4⟩ := hkz))
  all_goals
    go_wp2_with fail
    go_ret
    exact ⟨ret_bool (by simp), by assumption⟩
end Go.Proofs.YtmcekdjhkjhcdaaGreatDoor.No
end
section
namespace Go.Proofs.YtmcekdjhkjhcdaaGreatDoor.No
open Go.ChangeShapes Go.WideShapes Go.ChangeAt Go.RowKit
open Me Np
set_option linter.unusedVariables false
set_option linter.unusedSimpArgs false
set_option maxRecDepth 100000 in
theorem some_any (w : World) : Calls Tryz.prog 18 #[] w fun e w' => e = .returned (.slice (some ⟨w.heap.size, 0, none⟩) 4 4) ∧ w.alloc (.cells (someL.flatMap ncs).toArray 36) = w' := by
  go_enter Tryz.func18, Tryz.ntmps18
  go_wp2_with (first
    | (refine wpList_build_eq (o := ⟨some 1, _, _, _, _, _⟩) rfl _ _ rfl (nc s0) (by kernel_rfl) ?_)
    | (refine wpList_build_eq (o := ⟨some 2, _, _, _, _, _⟩) rfl _ _ rfl (nc s1) (by kernel_rfl) ?_)
    | (refine wpList_build_eq (o := ⟨some 3, _, _, _, _, _⟩) rfl _ _ rfl (nc s2) (by kernel_rfl) ?_)
    | (refine wpList_build_eq (o := ⟨some 5, _, _, _, _, _⟩) rfl _ _ rfl (nc s3) (by kernel_rfl) ?_)
    | (refine wpList_ex (o := ⟨some 6, _, _, _, _, _⟩) (v := .slice (some ⟨w.heap.size, 0, none⟩) 4 4) (w' := w.alloc (.cells (someL.flatMap ncs).toArray 36)) rfl (by kernel_rfl) ?_))
  go_ret
  exact ⟨rfl, rfl⟩
theorem num_any (x : Int) (w : World) : Calls Tryz.prog 7 #[.int .i64 x] w fun e w' => e = .returned (.int .i64 x) ∧ w = w' := by
  go_enter Tryz.func7, Tryz.ntmps7
  go_wp2
  go_ret
  exact ⟨rfl, rfl⟩
end Go.Proofs.YtmcekdjhkjhcdaaGreatDoor.No
end
section
namespace Go.Proofs.YtmcekdjhkjhcdaaGreatDoor.No
open Go.ChangeShapes Go.WideShapes Go.ChangeAt Go.RowKit
open Me Np
set_option linter.unusedVariables false
set_option linter.unusedSimpArgs false

theorem some_seg' {w : World} {g : Nat} (hg : g = w.heap.size) : Seg (w.alloc (.cells (someL.flatMap ncs).toArray 36)) (w.alloc (.cells (someL.flatMap ncs).toArray 36)).heap.size (some ⟨g, 0, none⟩) (someL.flatMap ncs) := by
  subst hg
  exact some_seg (Below.refl _ _)
def someT : Tot := ⟨720896, [131072, 0, 0, 0], [0, 0, 0, 0]⟩
def someA (k : Nat) : Int := if k = 0 then 655360 else 65536
theorem some_right : ∀ x ∈ someL, right x = true := by
  intro x hx
  simp only [someL, List.mem_cons, List.not_mem_nil, or_false] at hx
  rcases hx with rfl | rfl | rfl | rfl
  · exact r0
  · exact r1
  · exact r2
  · exact r3
theorem some_totals (g : Nat) (w : World) (hseg : Seg w w.heap.size (some ⟨g, 0, none⟩) (someL.flatMap ncs)) :
    Calls Tryz.prog 17 #[.slice (some ⟨g, 0, none⟩) 4 4, .bool false] w fun e w' => e = .returned (.tuple #[.agg (tc someT), .int .i64 0]) ∧ Below w.heap.size w w' := by
  refine totals_of (some ⟨g, 0, none⟩) someL 4 false someT w (by simp [someL]) hseg some_chk rfl rfl rfl (fun w1 hb => ?_)
  have h := sum_of (some ⟨g, 0, none⟩) someL 4 [0, 3] false someA w1 (by simp [someL]) (Seg.belowW hseg hb) some_its some_right (by intro k hk; simp only [someA]; split <;> omega) (fun k hk w2 hb2 => ?_)
  · have e : tsum someL someA [0, 3] tz = someT := rfl
    rw [e] at h
    exact h
  · have hs := Seg.belowW (Seg.belowW hseg hb) hb2
    simp only [List.mem_cons, List.not_mem_nil, or_false] at hk
    rcases hk with rfl | rfl
    · exact along_any (some ⟨g, 0, none⟩) someL 4 0 s0 false w2 (by simp [someL]) hs rfl r0 (.inr (by simp [s0, nz]))
    · exact along_any (some ⟨g, 0, none⟩) someL 4 3 s3 false w2 (by simp [someL]) hs rfl r3 (.inr (by simp [s3, nz]))
theorem some_item (g : Nat) (w : World) (hseg : Seg w w.heap.size (some ⟨g, 0, none⟩) (someL.flatMap ncs)) :
    Calls Tryz.prog 19 #[.slice (some ⟨g, 0, none⟩) 4 4, .int .i64 0] w fun e w' => e = .returned (.tuple #[.int .i64 3, .int .i64 0]) ∧ Below w.heap.size w w' :=
  item_ok (some ⟨g, 0, none⟩) someL 4 0 3 w (by simp [someL]) hseg some_chk rfl rfl
theorem someT_info : (Tryz.prog.info? 52).map (·.size) = some (tc someT).size := by kernel_rfl
set_option maxRecDepth 100000 in
theorem knows_any (w : World) : Calls Tryz.prog 9 #[] w fun e w' => e = .returned (.bool true) ∧ Below w.heap.size w w' := by
  go_enter Tryz.func9, Tryz.ntmps9
  go_wp2_with fail
  refine (some_any _).mono ?_
  rintro e w' ⟨rfl, rfl⟩
  go_wp2_with fail
  refine (some_totals w.heap.size _ (some_seg' rfl)).mono ?_
  rintro e w1 ⟨rfl, hb1⟩
  have hl1 : Below w.heap.size w w1 := andThen (andAlloc (Below.refl _ _) _) hb1
  clear hb1
  go_wp2_with (refine wpList_store_row (o := ⟨none, .store _ (.tmp 1) _, _, _, _, _⟩) rfl 52 _ _ rfl w1.heap.size (tc someT) rfl rfl 52 (tc tz) (Blk.new' rfl) someT_info rfl (tc_one _) ?_)
  have hB : Blk (w1.alloc (.cells (tc someT) 52)) w1.heap.size 52 (tc someT) := Blk.new' rfl
  refine (some_any _).mono ?_
  rintro e w' ⟨rfl, rfl⟩
  have hB2 := hB.alloc (.cells (someL.flatMap ncs).toArray 36)
  go_wp2_with fail
  refine (some_item (w1.heap.size + 1) _ (some_seg' (w := w1.alloc (.cells (tc someT) 52)) (by simp))).mono ?_
  rintro e w3 ⟨rfl, hb3⟩
  have hB3 := hB2.below hb3 hB2.lt
  have hl3 : Below w.heap.size w w3 := andThen (andAlloc (andAlloc hl1 _) _) hb3
  have c0 : w3.cell? ⟨w1.heap.size, 0, none⟩ = some (.int .i64 720896) := hB3.cell 0
  have c1 : w3.cell? ⟨w1.heap.size, 1, none⟩ = some (.int .i64 131072) := hB3.cell 1
  clear hB hB2 hb3 hB3 hl1
  go_wp2_with (go_at_call 7; refine (num_any _ _).mono ?_; rintro e w' ⟨rfl, rfl⟩)
  go_ret
  exact ⟨ret_bool (by simp), hl3⟩
end Go.Proofs.YtmcekdjhkjhcdaaGreatDoor.No
end
section
namespace Go.Proofs.YtmcekdjhkjhcdaaGreatDoor.Sw
open Go.ChangeShapes Go.WideShapes Go.ChangeAt Go.RowKit
open Me Np Ss No Pk
set_option linter.unusedVariables false
set_option linter.unusedSimpArgs false
theorem deep_wf {n : Int} (h : (Lit.int .i64 n).wf = true) : n ≤ 9223372036854775807 := by
  have h2 : -9223372036854775808 ≤ n ∧ n ≤ 9223372036854775807 := by
    simpa [Lit.wf, IntKind.min, IntKind.max, IntKind.bits, IntKind.signed] using h
  exact h2.2
set_option maxHeartbeats 4000000 in
set_option maxRecDepth 100000 in
theorem shows_walk (A : Option Addr) (l : List Nd) (c : Nat) (deep many : Int) (w : World) (hl : l.length ≤ 879609302220) (hcap : l.length ≤ c) (hA : A = none → c = 0) (hdd : deep ≤ 9223372036854775807) (hseg : Seg w w.heap.size A (l.flatMap ncs)) (hch : ∀ x ∈ l, 0 ≤ x.char ∧ x.char < 256) (htab : Tab w) :
    Calls Tryz.prog 3 #[.slice A l.length c, .int .i64 deep, .int .i64 many] w fun e w' => e = .returned (.bool true) ∧ Below w.heap.size w w' := by
  have HLE := Lib.hid (lent_any A l c w hl hA hseg)
  have HSG := Lib.hid fun w1 (h : Below w.heap.size w w1) => Seg.belowW hseg h
  have M1 := Lib.hid fun g cap w1 (hc : l.length ≤ cap) (hg : g < w1.heap.size) (hs : Seg w1 w1.heap.size (some ⟨g, 0, none⟩) (l.flatMap ncs)) (hb : Below w.heap.size w w1) => show_prog (some ⟨g, 0, none⟩) l cap deep many w1 (by omega) hc (fun g' off z e => by injection e with e; injection e with e1 e2 e3; omega) hs hch (htab.below hb)
  have M2 := Lib.hid fun w1 (h : Below w.heap.size w w1) => show_doc A l c deep many w1 (by omega) hcap hdd (Seg.belowW hseg h) hch
  generalize shwT l deep many = T at *
  generalize shwE l deep many = E at *
  have hT : (T.toList == T.toList) = true := beq_self_eq_true _
  have hE : (E == E) = true := beq_self_eq_true _
  clear hseg hA hch htab
  have hl' := Lib.hid hl
  generalize hlen : l.length = len at *
  have HL := Lib.hid hlen
  clear hlen
  go_enter Tryz.func3, Tryz.ntmps3
  go_wp2_with fail
  refine HLE.out.mono ?_
  rintro e w1 ⟨g, cap, rfl, hc2, hcm, hown, hb1⟩
  have hgl : g < w1.heap.size := by
    rcases hown.2 with ⟨h3, _⟩ | ⟨g', cap', cur, h3, h4, h5, _⟩
    · simp at h3
    · injection h3 with h3 _ _
      injection h3 with h3
      injection h3 with h3 _ _
      subst h3
      exact (Array.getElem?_eq_some_iff.1 h5).1
  obtain ⟨A1, c1, e5, _, _, hs1⟩ := Seg.of_own hown
  simp only [Value.slice.injEq, true_and] at e5
  obtain ⟨e6, e7⟩ := e5
  subst e6; subst e7
  rw [HL.out] at hc2 ⊢
  have HX2 := Lib.hid fun w2 (h : Below w1.heap.size w1 w2) => Seg.belowW hs1 h
  have hs2 : Seg w1 w1.heap.size (some ⟨g, 0, none⟩) (l.flatMap ncs) := by
    have h := Seg.take hs1 (l.length * 19)
    rw [← flat_take ncs_length, List.take_left] at h
    exact h
  have M1' := Lib.hid (M1.out g cap w1 (by omega) hgl hs2 hb1)
  have HB1 := Lib.hid hb1
  have HC2 := Lib.hid hc2
  have HCM := Lib.hid hcm
  clear hown hs1 hs2 hb1 HLE M1 hc2 hcm hgl
  go_wp2_with fail
  refine M1'.out.mono ?_
  rintro e w2 ⟨rfl, hb2⟩
  have HB2 := Lib.hid hb2
  clear hb2
  go_wp2_with fail
  refine (M2.out _ (andThen HB1.out HB2.out)).mono ?_
  rintro e w3 ⟨rfl, hb3⟩
  have HB13 := Lib.hid (andThen HB2.out hb3)
  clear hb3
  have hst := stays_any g cap A l c w3 (by rw [HL.out]; exact hl) (by rw [HL.out]; exact HC2.out) HCM.out (HX2.out _ HB13.out) (HSG.out _ (andThen HB1.out HB13.out))
  rw [HL.out] at hst
  have HST := Lib.hid hst
  clear hst
  go_wp2_with fail
  refine (num_any _ _).mono ?_
  rintro e w' ⟨rfl, rfl⟩
  go_wp2_with fail
  refine HST.out.mono ?_
  rintro e w8 ⟨rfl, hb8⟩
  have HB8 := Lib.hid hb8
  clear hb8
  go_wp2_with fail
  refine (knows_any _).mono ?_
  rintro e w9 ⟨rfl, hb9⟩
  have HF := Lib.hid (andThen (andThen (andThen HB1.out HB13.out) HB8.out) hb9)
  clear hb9
  go_wp2_with fail
  go_ret
  exact ⟨rfl, HF.out⟩
end Go.Proofs.YtmcekdjhkjhcdaaGreatDoor.Sw
end
section
namespace Go.Proofs.YtmcekdjhkjhcdaaGreatDoor.Le
open Go.ChangeShapes Go.WideShapes Go.RowKit Go.Deep

/-- The types of a type's cells. -/
def lv (P : Program) : Nat → TypeId → List TypeId
  | 0, t => [t]
  | n + 1, t => match P.underlying t with
    | some (.struct fs) => fs.toList.flatMap fun f => lv P n f.type
    | some (.array k e) => (List.replicate k (lv P n e)).flatten
    | _ => [t]

/-- The cells' types are where the type's own table says. -/
def good (P : Program) : Nat → TypeId → Bool
  | 0, t => P.cellsOf t == 1
  | n + 1, t => match P.underlying t with
    | some (.struct fs) => (P.cellsOf t == (lv P (n + 1) t).length) && fs.toList.all (fun f => good P n f.type) &&
        (List.range (lv P (n + 1) t).length).all fun i => (List.range fs.size).any fun j => match fs[j]? with
          | some f => decide (f.offset ≤ i) && decide (i < f.offset + P.cellsOf f.type) && decide (f.offset + P.cellsOf f.type ≤ P.cellsOf t) && decide ((lv P n f.type)[i - f.offset]? = (lv P (n + 1) t)[i]?)
          | none => false
    | some (.array k e) => (P.cellsOf t == (lv P (n + 1) t).length) && good P n e &&
        (List.range (lv P (n + 1) t).length).all fun i => (List.range k).any fun j => decide (j * P.cellsOf e ≤ i) && decide (i < j * P.cellsOf e + P.cellsOf e) && decide (j * P.cellsOf e + P.cellsOf e ≤ P.cellsOf t) && decide ((lv P n e)[i - j * P.cellsOf e]? = (lv P (n + 1) t)[i]?)
    | _ => P.cellsOf t == 1

section
variable {H : Type} {enc : TypeId × Value → H} {P : Program} {w : World} {base : Nat} {spare : Nat → Bool} {held : Bool}

theorem slice_get {cs : List Value} {o c i : Nat} (h0 : o ≤ i) (h1 : i < o + c) : ((cs.drop o).take c)[i - o]? = cs[i]? := by
  rw [List.getElem?_take, if_pos (by omega), List.getElem?_drop]
  congr 1
  omega

/-- Each cell reads as its leaf's type. -/
theorem leaves : ∀ (n : Nat) {t : TypeId} {fuel : Nat} {cs : List Value} {x : DataW H × List MemPlace}, good P n t = true → cs.length = P.cellsOf t → DataW.trod enc P w base spare held fuel t cs = some x →
    ∀ (i : Nat) (u : TypeId), (lv P n t)[i]? = some u → ∃ (v : Value) (m : Nat) (y : DataW H × List MemPlace), cs[i]? = some v ∧ DataW.trod enc P w base spare held m u [v] = some y
  | 0, t, fuel, cs, x, hg, hl, h, i, u, hu => by
    simp only [lv] at hu
    match i, hu with
    | 0, hu =>
      simp at hu
      subst hu
      unfold good at hg
      rw [beq_iff_eq] at hg
      rw [hg] at hl
      match cs, hl with
      | [v], _ => exact ⟨v, fuel, x, rfl, h⟩
    | i + 1, hu => simp at hu
  | n + 1, t, fuel, cs, x, hg, hl, h, i, u, hu => by
    have hilt : i < (lv P (n + 1) t).length := by
      rcases Nat.lt_or_ge i (lv P (n + 1) t).length with h1 | h1
      · exact h1
      · rw [List.getElem?_eq_none h1] at hu; cases hu
    unfold good at hg
    split at hg
    · rename_i fs hfs
      simp only [Bool.and_eq_true, List.all_eq_true] at hg
      obtain ⟨⟨_, hgf⟩, hcov⟩ := hg
      have hc := hcov i (List.mem_range.2 hilt)
      simp only [List.any_eq_true] at hc
      obtain ⟨j, hj, hc⟩ := hc
      split at hc
      · rename_i f hf
        simp only [Bool.and_eq_true, decide_eq_true_eq] at hc
        obtain ⟨⟨⟨h1, h2⟩, h4⟩, h3⟩ := hc
        obtain ⟨xs, n', _, _, hcl, hxl, hat⟩ := DataW.trod_struct hfs h
        have hjl : j < fs.size := by
          rcases Nat.lt_or_ge j fs.size with hh | hh
          · exact hh
          · rw [Array.getElem?_eq_none hh] at hf; cases hf
        have hxj : xs[j]? = some (xs[j]'(by omega)) := List.getElem?_eq_getElem (by omega)
        have ht := (hat j f hf).trans hxj
        have hmem : f ∈ fs.toList := by
          have := Array.mem_of_getElem? hf
          simpa using this
        have hlen : ((cs.drop f.offset).take (P.cellsOf f.type)).length = P.cellsOf f.type := by
          rw [List.length_take, List.length_drop]
          omega
        obtain ⟨v, m, y, hv, hy⟩ := leaves n (hgf f hmem) hlen ht (i - f.offset) u (by rw [h3]; exact hu)
        exact ⟨v, m, y, by rw [← slice_get h1 h2]; exact hv, hy⟩
      · cases hc
    · rename_i k e he
      simp only [Bool.and_eq_true, List.all_eq_true] at hg
      obtain ⟨⟨_, hge⟩, hcov⟩ := hg
      have hc := hcov i (List.mem_range.2 hilt)
      simp only [List.any_eq_true, List.mem_range, Bool.and_eq_true, decide_eq_true_eq] at hc
      obtain ⟨j, hj, ⟨⟨h1, h2⟩, h4⟩, h3⟩ := hc
      obtain ⟨xs, n', _, _, hcl, hxl, hat⟩ := DataW.trod_array he h
      have hxj : xs[j]? = some (xs[j]'(by omega)) := List.getElem?_eq_getElem (by omega)
      have ht := (hat j hj).trans hxj
      have hlen : ((cs.drop (j * P.cellsOf e)).take (P.cellsOf e)).length = P.cellsOf e := by
        rw [List.length_take, List.length_drop]
        omega
      obtain ⟨v, m, y, hv, hy⟩ := leaves n hge hlen ht (i - j * P.cellsOf e) u (by rw [h3]; exact hu)
      exact ⟨v, m, y, by rw [← slice_get h1 h2]; exact hv, hy⟩
    · rename_i hns hna
      have hlv : lv P (n + 1) t = [t] := by
        unfold lv
        split
        · rename_i fs hfs; exact absurd hfs (hns fs)
        · rename_i k e he; exact absurd he (hna k e)
        · rfl
      rw [hlv] at hu
      match i, hu with
      | 0, hu =>
        simp at hu
        subst hu
        rw [beq_iff_eq] at hg
        rw [hg] at hl
        match cs, hl with
        | [v], _ => exact ⟨v, fuel, x, rfl, h⟩
      | i + 1, hu => simp at hu
end

section
variable {H : Type} {enc : TypeId × Value → H} {P : Program} {w : World} {base : Nat} {spare : Nat → Bool} {held : Bool}

/-- What is known of a row of cells of type t. -/
def Cells (enc : TypeId × Value → H) (P : Program) (w : World) (base : Nat) (spare : Nat → Bool) (held : Bool) (ls : List TypeId) (cs : List Value) : Prop :=
  cs.length = ls.length ∧ ∀ (i : Nat) (u : TypeId), ls[i]? = some u → ∃ (v : Value) (m : Nat) (y : DataW H × List MemPlace), cs[i]? = some v ∧ DataW.trod enc P w base spare held m u [v] = some y

/-- A struct that comes by value. -/
theorem open_flat {r : Reach} {b0 : Nat} {t : TypeId} {fs : Array Field} {v : Value} {d : DataW H} {ps : List MemPlace} (n : Nat) (ls : List TypeId) (hs : P.underlying t = some (.struct fs)) (hg : good P n t = true) (hl : lv P n t = ls) (hc : P.cellsOf t = ls.length)
    (hv : Value.okWide P w r b0 t v) (h : DataW.Trod enc P w base spare held t v d ps) : ∃ cs : List Value, v = .agg cs.toArray ∧ Cells enc P w base spare held ls cs := by
  obtain ⟨cs, rfl, hsz⟩ := okWide_struct hs hv
  obtain ⟨fuel, hf⟩ := h
  refine ⟨cs.toList, by simp, by simp [hsz, hc], fun i u hu => ?_⟩
  exact leaves n hg (by simp [hsz]) (by simpa [Value.cells] using hf) i u (by rw [hl]; exact hu)

/-- A slice that comes in: where it lies, and its elements' cells. -/
theorem open_rows0 {r : Reach} {b0 : Nat} {t e : TypeId} {v : Value} {d : DataW H} {ps : List MemPlace} (n : Nat) (ls : List TypeId) (ht : P.underlying t = some (.slice e)) (hg : good P n e = true) (hl : lv P n e = ls) (hc : P.cellsOf e = ls.length)
    (hv : Value.okWide P w r b0 t v) (h : DataW.Trod enc P w base (fun _ => true) held t v d ps) (hlt : ∀ x ∈ ps, x.block < w.heap.size) :
    ∃ (A : Option Addr) (c : Nat) (rows : List (List Value)), v = .slice A rows.length c ∧ rows.length ≤ c ∧ c ≤ maxLen ∧ (∀ cs ∈ rows, Cells enc P w base (fun _ => true) held ls cs) ∧ Me.Seg w w.heap.size A rows.flatten ∧ (A = none → c = 0) ∧
      (∃ es sp : List (DataW H), (d = .slice es sp ∧ es.length = rows.length ∧ es.length + sp.length = c) ∨ (d = .nil ∧ rows = [] ∧ c = 0)) := by
  obtain ⟨fuel, hf⟩ := h
  obtain ⟨a0, len0, cap0, rfl⟩ := okWide_slice ht hv
  rw [show Value.cells (.slice a0 len0 cap0) = #[.slice a0 len0 cap0] from rfl] at hf
  rcases open_slice ht hf with ⟨h0, hx⟩ | ⟨a, len, cap, m, nn, D, Pl, hcs, _, hlc, hcm, hm, hx, hi⟩
  · simp at h0
    obtain ⟨rfl, rfl, rfl⟩ := h0
    simp only [Prod.mk.injEq] at hx
    exact ⟨none, 0, [], rfl, Nat.le_refl _, by simp [maxLen], by simp, .inl rfl, fun _ => rfl, [], [], .inr ⟨hx.1, rfl, rfl⟩⟩
  · simp at hcs
    obtain ⟨rfl, rfl, rfl⟩ := hcs
    simp only [if_true] at hm
    subst hm
    simp only [Prod.mk.injEq] at hx
    obtain ⟨hd, hps⟩ := hx
    have hrow : ∀ i, i < len0 → ∃ cs, w.cells? base (a.add (i * P.cellsOf e)) (P.cellsOf e) = some cs ∧ Cells enc P w base (fun _ => true) held ls cs := by
      intro i hil
      obtain ⟨cs, h1, h2⟩ := hi i (by omega)
      obtain ⟨_, h3, _⟩ := World.cells?_some h1
      exact ⟨cs, h1, by rw [h3, hc], fun j u hu => leaves n hg h3 h2 j u (by rw [hl]; exact hu)⟩
    let R : Nat → List Value := fun i => (w.cells? base (a.add (i * P.cellsOf e)) (P.cellsOf e)).getD []
    have hR : ∀ i, i < len0 → Cells enc P w base (fun _ => true) held ls (R i) ∧ ∀ j, j < P.cellsOf e → w.cell? ((a.add (i * P.cellsOf e)).add j) = (R i)[j]? := by
      intro i hil
      obtain ⟨cs, h1, h2⟩ := hrow i hil
      have e1 : R i = cs := by simp [R, h1]
      rw [e1]
      exact ⟨h2, (World.cells?_some h1).2.2⟩
    have hlen : ∀ i, i < len0 → (R i).length = P.cellsOf e := fun i hil => by rw [hc]; exact (hR i hil).1.1
    refine ⟨some a, m, (List.range len0).map R, by simp, by simpa using hlc, hcm, ?_, ?_, (by intro hh; cases hh), (List.range len0).map D, (List.range (m - len0)).map fun j => D (len0 + j), .inl ⟨hd, by simp, by simp; omega⟩⟩
    · intro cs hcs
      obtain ⟨i, hi', rfl⟩ := List.mem_map.1 hcs
      exact (hR i (List.mem_range.1 hi')).1
    · by_cases hz : ((List.range len0).map R).flatten = []
      · exact .inl hz
      · have hpos : 0 < len0 * P.cellsOf e := by
          rcases Nat.eq_zero_or_pos (len0 * P.cellsOf e) with h1 | h1
          · exfalso
            apply hz
            rw [List.flatten_eq_nil_iff]
            intro l hl'
            obtain ⟨i, hi', rfl⟩ := List.mem_map.1 hl'
            have hil := List.mem_range.1 hi'
            have h2 := hlen i hil
            rcases Nat.mul_eq_zero.1 h1 with h3 | h3
            · omega
            · rw [h3] at h2; exact List.eq_nil_of_length_eq_zero h2
          · exact h1
        have hlen0 : 0 < len0 := Nat.pos_of_mul_pos_right hpos
        have hce : 0 < P.cellsOf e := Nat.pos_of_mul_pos_left hpos
        have hcell0 : ∃ u, w.cell? a = some u := by
          obtain ⟨h1, h2⟩ := hR 0 hlen0
          have h3 := h2 0 hce
          have h4 : (a.add (0 * P.cellsOf e)).add 0 = a := by simp [Addr.add]
          rw [h4] at h3
          refine ⟨_, h3.trans (List.getElem?_eq_getElem (by rw [hlen 0 hlen0]; exact hce))⟩
        obtain ⟨u0, hu0⟩ := hcell0
        have hspot : a.spot = none := World.cell?_spot hu0
        obtain ⟨b, off, sp⟩ := a
        simp only at hspot
        subst hspot
        refine .inr ⟨b, off, rfl, ?_, ?_⟩
        · have hm0 := Nat.mul_le_mul_right (P.cellsOf e) hlc
          have := hlt (.cell b off) (by rw [hps]; exact List.mem_append_left _ (List.mem_map.2 ⟨0, List.mem_range.2 (by omega), rfl⟩))
          exact this
        · intro j u hu
          have hall : ∀ (k : Nat) (l : List Nat), (∀ i ∈ l, i < len0) → ∀ j u, ((l.map R).flatten)[j]? = some u → ∃ i q, l[i]? ≠ none ∧ j = i * P.cellsOf e + q ∧ q < P.cellsOf e ∧ ∃ z, l[i]? = some z ∧ (R z)[q]? = some u := by
            intro k l
            induction l with
            | nil => intro _ j u h; simp at h
            | cons z l ih =>
              intro hl' j u h
              simp only [List.map_cons, List.flatten_cons] at h
              have hz1 := hlen z (hl' z (by simp))
              rcases Nat.lt_or_ge j (P.cellsOf e) with hj | hj
              · rw [List.getElem?_append_left (by omega)] at h
                exact ⟨0, j, by simp, by omega, hj, z, by simp, h⟩
              · rw [List.getElem?_append_right (by omega), hz1] at h
                obtain ⟨i, q, h1, h2, h3, y, h4, h5⟩ := ih (fun i hi' => hl' i (by simp [hi'])) _ _ h
                refine ⟨i + 1, q, by simpa using h1, ?_, h3, y, by simpa using h4, h5⟩
                rw [Nat.add_mul]; omega
          obtain ⟨i, q, _, hj, hq, z, hz1, hz2⟩ := hall 0 (List.range len0) (fun i hi' => List.mem_range.1 hi') j u hu
          have hzi : z = i ∧ i < len0 := by
            have hil : i < len0 := by
              rcases Nat.lt_or_ge i len0 with h1 | h1
              · exact h1
              · rw [List.getElem?_eq_none (by simpa using h1)] at hz1; cases hz1
            rw [List.getElem?_range hil] at hz1
            injection hz1 with hz1
            exact ⟨hz1.symm, hil⟩
          obtain ⟨rfl, hil⟩ := hzi
          have h6 := (hR z hil).2 q hq
          rw [hz2] at h6
          rw [← h6, hj]
          congr 1
          unfold Addr.add
          by_cases h7 : z * P.cellsOf e = 0 <;> by_cases h8 : q = 0 <;> simp [h7, h8, Nat.add_assoc]
theorem open_rows {r : Reach} {b0 : Nat} {t e : TypeId} {v : Value} {d : DataW H} {ps : List MemPlace} (n : Nat) (ls : List TypeId) (ht : P.underlying t = some (.slice e)) (hg : good P n e = true) (hl : lv P n e = ls) (hc : P.cellsOf e = ls.length)
    (hv : Value.okWide P w r b0 t v) (h : DataW.Trod enc P w base (fun _ => true) held t v d ps) (hlt : ∀ x ∈ ps, x.block < w.heap.size) :
    ∃ (A : Option Addr) (c : Nat) (rows : List (List Value)), v = .slice A rows.length c ∧ rows.length ≤ c ∧ c ≤ maxLen ∧ (∀ cs ∈ rows, Cells enc P w base (fun _ => true) held ls cs) ∧ Me.Seg w w.heap.size A rows.flatten ∧
      (∃ es sp : List (DataW H), (d = .slice es sp ∧ es.length = rows.length ∧ es.length + sp.length = c) ∨ (d = .nil ∧ rows = [] ∧ c = 0)) := by
  obtain ⟨A, c, rows, h1, h2, h3, h4, h5, _, h6⟩ := open_rows0 n ls ht hg hl hc hv h hlt
  exact ⟨A, c, rows, h1, h2, h3, h4, h5, h6⟩
end

section
variable {H : Type} {enc : TypeId × Value → H} {P : Program} {w : World} {base : Nat} {spare : Nat → Bool} {held : Bool}
/-- Cells that are all integers of one kind. -/
theorem cells_ints {ti : TypeId} {k : IntKind} (hu : P.underlying ti = some (.int k)) : ∀ {n : Nat} {cs : List Value}, Cells enc P w base spare held (List.replicate n ti) cs →
    ∃ zs : List Int, zs.length = n ∧ cs = zs.map (Value.int k) ∧ ∀ z ∈ zs, (Lit.int k z).wf = true
  | 0, cs, h => ⟨[], rfl, by simpa using h.1, by simp⟩
  | n + 1, cs, h => by
    obtain ⟨hl, hc⟩ := h
    match cs, hl with
    | c :: cs, hl =>
      obtain ⟨v, m, y, hv, hy⟩ := hc 0 ti (by simp [List.replicate_succ])
      simp at hv
      subst hv
      obtain ⟨z, hz, _, hw⟩ := DataW.trod_int hu hy
      simp at hz
      subst hz
      obtain ⟨zs, h1, h2, h3⟩ := cells_ints hu (n := n) (cs := cs) ⟨by simpa [List.replicate_succ] using hl, fun i u hi => by
        obtain ⟨v, m, y, hv, hy⟩ := hc (i + 1) u (by simpa [List.replicate_succ] using hi)
        exact ⟨v, m, y, by simpa using hv, hy⟩⟩
      exact ⟨z :: zs, by simp [h1], by simp [h2], by
        intro x hx
        rcases List.mem_cons.1 hx with rfl | hx
        · exact hw
        · exact h3 x hx⟩
theorem wf_bd {z : Int} (h : (Lit.int .i64 z).wf = true) : -9223372036854775808 ≤ z ∧ z ≤ 9223372036854775807 := by
  simp [Lit.wf, IntKind.min, IntKind.max, IntKind.signed, IntKind.bits] at h
  omega
end
end Go.Proofs.YtmcekdjhkjhcdaaGreatDoor.Le
end
section
namespace Go.Proofs.YtmcekdjhkjhcdaaGreatDoor.No
open Go.ChangeShapes Go.WideShapes Go.ChangeAt Go.RowKit
open Me Np
set_option linter.unusedVariables false

def leafs : List TypeId := [3, 3, 5, 3, 3, 3, 3, 3, 3, 3, 3, 3, 3, 3, 3, 3, 3, 3, 9]
theorem node_of {H : Type} {enc : TypeId × Value → H} {w : World} {base : Nat} {spare : Nat → Bool} {held : Bool} {cs : List Value} (h : Le.Cells enc Tryz.prog w base spare held leafs cs) : ∃ n : Nd, cs = ncs n := by
  obtain ⟨hl, hc⟩ := h
  have hl : cs.length = 19 := hl
  obtain ⟨v0, m0, y0, e0, t0⟩ := hc 0 3 rfl
  obtain ⟨z0, g0, _⟩ := DataW.trod_int Tryz.underlying3 t0
  simp only [List.cons.injEq, and_true] at g0
  subst g0
  obtain ⟨v1, m1, y1, e1, t1⟩ := hc 1 3 rfl
  obtain ⟨z1, g1, _⟩ := DataW.trod_int Tryz.underlying3 t1
  simp only [List.cons.injEq, and_true] at g1
  subst g1
  obtain ⟨v2, m2, y2, e2, t2⟩ := hc 2 5 rfl
  obtain ⟨z2, g2, _⟩ := DataW.trod_int Tryz.underlying5 t2
  simp only [List.cons.injEq, and_true] at g2
  subst g2
  obtain ⟨v3, m3, y3, e3, t3⟩ := hc 3 3 rfl
  obtain ⟨z3, g3, _⟩ := DataW.trod_int Tryz.underlying3 t3
  simp only [List.cons.injEq, and_true] at g3
  subst g3
  obtain ⟨v4, m4, y4, e4, t4⟩ := hc 4 3 rfl
  obtain ⟨z4, g4, _⟩ := DataW.trod_int Tryz.underlying3 t4
  simp only [List.cons.injEq, and_true] at g4
  subst g4
  obtain ⟨v5, m5, y5, e5, t5⟩ := hc 5 3 rfl
  obtain ⟨z5, g5, _⟩ := DataW.trod_int Tryz.underlying3 t5
  simp only [List.cons.injEq, and_true] at g5
  subst g5
  obtain ⟨v6, m6, y6, e6, t6⟩ := hc 6 3 rfl
  obtain ⟨z6, g6, _⟩ := DataW.trod_int Tryz.underlying3 t6
  simp only [List.cons.injEq, and_true] at g6
  subst g6
  obtain ⟨v7, m7, y7, e7, t7⟩ := hc 7 3 rfl
  obtain ⟨z7, g7, _⟩ := DataW.trod_int Tryz.underlying3 t7
  simp only [List.cons.injEq, and_true] at g7
  subst g7
  obtain ⟨v8, m8, y8, e8, t8⟩ := hc 8 3 rfl
  obtain ⟨z8, g8, _⟩ := DataW.trod_int Tryz.underlying3 t8
  simp only [List.cons.injEq, and_true] at g8
  subst g8
  obtain ⟨v9, m9, y9, e9, t9⟩ := hc 9 3 rfl
  obtain ⟨z9, g9, _⟩ := DataW.trod_int Tryz.underlying3 t9
  simp only [List.cons.injEq, and_true] at g9
  subst g9
  obtain ⟨v10, m10, y10, e10, t10⟩ := hc 10 3 rfl
  obtain ⟨z10, g10, _⟩ := DataW.trod_int Tryz.underlying3 t10
  simp only [List.cons.injEq, and_true] at g10
  subst g10
  obtain ⟨v11, m11, y11, e11, t11⟩ := hc 11 3 rfl
  obtain ⟨z11, g11, _⟩ := DataW.trod_int Tryz.underlying3 t11
  simp only [List.cons.injEq, and_true] at g11
  subst g11
  obtain ⟨v12, m12, y12, e12, t12⟩ := hc 12 3 rfl
  obtain ⟨z12, g12, _⟩ := DataW.trod_int Tryz.underlying3 t12
  simp only [List.cons.injEq, and_true] at g12
  subst g12
  obtain ⟨v13, m13, y13, e13, t13⟩ := hc 13 3 rfl
  obtain ⟨z13, g13, _⟩ := DataW.trod_int Tryz.underlying3 t13
  simp only [List.cons.injEq, and_true] at g13
  subst g13
  obtain ⟨v14, m14, y14, e14, t14⟩ := hc 14 3 rfl
  obtain ⟨z14, g14, _⟩ := DataW.trod_int Tryz.underlying3 t14
  simp only [List.cons.injEq, and_true] at g14
  subst g14
  obtain ⟨v15, m15, y15, e15, t15⟩ := hc 15 3 rfl
  obtain ⟨z15, g15, _⟩ := DataW.trod_int Tryz.underlying3 t15
  simp only [List.cons.injEq, and_true] at g15
  subst g15
  obtain ⟨v16, m16, y16, e16, t16⟩ := hc 16 3 rfl
  obtain ⟨z16, g16, _⟩ := DataW.trod_int Tryz.underlying3 t16
  simp only [List.cons.injEq, and_true] at g16
  subst g16
  obtain ⟨v17, m17, y17, e17, t17⟩ := hc 17 3 rfl
  obtain ⟨z17, g17, _⟩ := DataW.trod_int Tryz.underlying3 t17
  simp only [List.cons.injEq, and_true] at g17
  subst g17
  obtain ⟨v18, m18, y18, e18, t18⟩ := hc 18 9 rfl
  obtain ⟨z18, g18, _⟩ := DataW.trod_string Tryz.underlying9 t18
  simp only [List.cons.injEq, and_true] at g18
  subst g18
  refine ⟨⟨z0, z1, z2, z3, z4, z5, z6, z7, z8, z9, z10, z11, z12, z13, z14, z15, z16, z17, z18⟩, ?_⟩
  apply List.ext_getElem?
  intro i
  match i with
  | 0 => exact e0
  | 1 => exact e1
  | 2 => exact e2
  | 3 => exact e3
  | 4 => exact e4
  | 5 => exact e5
  | 6 => exact e6
  | 7 => exact e7
  | 8 => exact e8
  | 9 => exact e9
  | 10 => exact e10
  | 11 => exact e11
  | 12 => exact e12
  | 13 => exact e13
  | 14 => exact e14
  | 15 => exact e15
  | 16 => exact e16
  | 17 => exact e17
  | 18 => exact e18
  | i + 19 =>
    rw [List.getElem?_eq_none (by omega), List.getElem?_eq_none (by rw [ncs_length]; omega)]
theorem nodes_of {H : Type} {enc : TypeId × Value → H} {w : World} {base : Nat} {spare : Nat → Bool} {held : Bool} : ∀ {rows : List (List Value)}, (∀ cs ∈ rows, Le.Cells enc Tryz.prog w base spare held leafs cs) → ∃ l : List Nd, l.length = rows.length ∧ rows.flatten = l.flatMap ncs
  | [], _ => ⟨[], rfl, rfl⟩
  | cs :: rows, h => by
    obtain ⟨n, hn⟩ := node_of (h cs (by simp))
    obtain ⟨l, h1, h2⟩ := nodes_of (rows := rows) (fun c hc => h c (by simp [hc]))
    exact ⟨n :: l, by simp [h1], by simp [hn, h2]⟩
theorem bytes_node : Tryz.prog.bytesOf 36 = 160 := by kernel_rfl
end Go.Proofs.YtmcekdjhkjhcdaaGreatDoor.No
end
section
namespace Go.Proofs.YtmcekdjhkjhcdaaGreatDoor.Sw
open Go.ChangeShapes Go.WideShapes Go.ChangeAt Go.RowKit
open Me Np No
set_option linter.unusedVariables false
theorem char_wf {n : Int} (h : (Lit.int .u8 n).wf = true) : 0 ≤ n ∧ n < 256 := by
  have h2 : 0 ≤ n ∧ n ≤ 255 := by
    simpa [Lit.wf, IntKind.min, IntKind.max, IntKind.bits, IntKind.signed] using h
  omega
theorem node_of2 {H : Type} {enc : TypeId × Value → H} {w : World} {base : Nat} {spare : Nat → Bool} {held : Bool} {cs : List Value} (h : Le.Cells enc Tryz.prog w base spare held leafs cs) : ∃ n : Nd, cs = ncs n ∧ (0 ≤ n.char ∧ n.char < 256) := by
  obtain ⟨n, rfl⟩ := node_of h
  refine ⟨n, rfl, ?_⟩
  obtain ⟨v, m, y, e, t⟩ := h.2 2 5 rfl
  obtain ⟨z, g, wf⟩ := DataW.trod_int Tryz.underlying5 t
  simp only [List.cons.injEq, and_true] at g
  subst g
  have e2 : (ncs n)[2]? = some (.int .u8 n.char) := rfl
  rw [e2] at e
  injection e with e
  injection e with _ e
  rw [e]
  exact char_wf wf.2
theorem nodes_of2 {H : Type} {enc : TypeId × Value → H} {w : World} {base : Nat} {spare : Nat → Bool} {held : Bool} : ∀ {rows : List (List Value)}, (∀ cs ∈ rows, Le.Cells enc Tryz.prog w base spare held leafs cs) → ∃ l : List Nd, l.length = rows.length ∧ rows.flatten = l.flatMap ncs ∧ ∀ x ∈ l, 0 ≤ x.char ∧ x.char < 256
  | [], _ => ⟨[], rfl, rfl, by simp⟩
  | cs :: rows, h => by
    obtain ⟨n, hn, hc⟩ := node_of2 (h cs (by simp))
    obtain ⟨l, h1, h2, h3⟩ := nodes_of2 (rows := rows) (fun c hc => h c (by simp [hc]))
    exact ⟨n :: l, by simp [h1], by simp [hn, h2], fun x hx => by
      rcases List.mem_cons.1 hx with rfl | hx
      · exact hc
      · exact h3 x hx⟩
end Go.Proofs.YtmcekdjhkjhcdaaGreatDoor.Sw
end
section
namespace Go.Proofs.YtmcekdjhkjhcdaaGreatDoor.Li
open Go.ChangeShapes Go.WideShapes Go.ChangeAt Go.RowKit

section
variable {H : Type} {enc : TypeId × Value → H} {P : Program}

theorem trodAll_below (hl : laidOutB P = true) {W W' : World} (hb : Below W.heap.size W W') {sp : Nat → Bool} :
    ∀ {ts : List TypeId} {vs : List Value} {ds : List (DataW H)} {p : List MemPlace}, ts.all (fun t => P.readableRec t && decide (t < P.types.size)) = true → DataW.TrodAll enc P W 0 (fun _ => true) true ts vs ds p →
      (∀ x ∈ p, x.block < W.heap.size) → (∀ x ∈ p, sp x.block = true) → DataW.TrodAll enc P W' 0 sp true ts vs ds p
  | [], _, _, _, _, h, _, _ => by
    obtain ⟨rfl, rfl, rfl⟩ := trodAll_nil h
    exact trodAll_mk0
  | t :: ts, _, _, _, hr, h, hlt, hs => by
    obtain ⟨v, vs1, d, ds1, a, b, rfl, rfl, rfl, h1, h2⟩ := trodAll_cons h
    simp only [List.all_cons, Bool.and_eq_true, decide_eq_true_eq] at hr
    refine trodAll_cons_mk (WideElems.Trod_stays hl hr.1.1 hr.1.2 h1 (fun x hx => hb.same (hlt x (by simp [hx]))) (fun x hx => hs x (by simp [hx]))) ?_
    exact trodAll_below hl hb (by simpa using hr.2) h2 (fun x hx => hlt x (by simp [hx])) (fun x hx => hs x (by simp [hx]))

theorem law_post {f : Func} {s : ChangeSpec} {apart fresh handsOn again : Bool} {W W' : World} {args : Array Value} {ds gs : List (DataW H)} {before : List MemPlace} {tb : TypeId}
    (hl : laidOutB P = true) (hv : s.vars = []) (hW : DataW.Whole enc P f.params.toList s.vars apart W args.toList ds gs before) (hr : f.params.toList.all (fun t => P.readableRec t && decide (t < P.types.size)) = true)
    (hres : (s.fn H (ds ++ gs)).results = [.lit (.bool true)]) (hargs : (s.fn H (ds ++ gs)).args = ds) (hvars : (s.fn H (ds ++ gs)).vars = []) (hrt : f.resultTypes = #[tb]) (htb : P.underlying tb = some .bool)
    (hb : Below W.heap.size W W') : s.post enc P f apart fresh handsOn again W args (.bool true) W' := by
  have hlt0 := hW.lt
  obtain ⟨p, q, hA, hV, he, hfz, hnd⟩ := id hW
  rw [hv] at hV
  obtain ⟨rfl, rfl⟩ := trodVars_none hV
  rw [List.append_nil] at he
  subst he
  have hlt : ∀ x ∈ before, x.block < W.heap.size := fun x hx => hlt0 x hx
  have hR : ∀ (b : Nat) (sp : Nat → Bool) (hd : Bool), DataW.TrodAll enc P W' b sp hd f.resultTypes.toList ((Value.bool true).resultList f.resultTypes.size) (s.fn H (ds ++ [])).results [] := by
    intro b sp hd
    rw [hrt, hres]
    exact trodAll_mk1 (shut_bool htb _)
  have hVW : ∀ sp : Nat → Bool, DataW.TrodVars enc P W' sp s.vars (s.fn H (ds ++ [])).vars [] := by
    intro sp
    rw [hv, hvars]
    rfl
  have hAW : ∀ sp : Nat → Bool, (∀ x ∈ before, sp x.block = true) → DataW.TrodAll enc P W' 0 sp true f.params.toList args.toList (s.fn H (ds ++ [])).args before := by
    intro sp hs
    rw [hargs]
    exact trodAll_below hl hb hr hA hlt hs
  refine ⟨ds, [], before, [], before, [], hW, hR _ _ _, hAW _ (fun x hx => by simpa using hlt x hx), hVW _, World.keptBut_mono (fun x hx => ⟨hx, .inr (.inl hx)⟩) (hb.frame (· ∈ before)), fun _ => ⟨?_, ?_⟩⟩
  · exact ok_one hrt rfl (okWide_bool_mk htb _)
  · refine ⟨_, _, [] ++ before ++ [], ⟨[] ++ before, [], trodAll_append (hAW _ (fun _ _ => rfl)) (hR _ _ _), hVW _, rfl, ?_, ?_⟩, ?_⟩
    · intro b off hx
      have hx' : MemPlace.cell b off ∈ before := by simpa using hx
      rw [hb.frozen (hlt _ hx')]
      exact hfz b off hx'
    · intro ha
      simpa using hnd ha
    · intro x hx _
      simpa using hx
end
end Go.Proofs.YtmcekdjhkjhcdaaGreatDoor.Li
end
section
namespace Go.Proofs.YtmcekdjhkjhcdaaGreatDoor.NodesShows
open Np
open Go.ChangeShapes Go.WideShapes Go.ChangeAt Go.RowKit
set_option linter.unusedVariables false
set_option linter.unusedSimpArgs false

set_option maxRecDepth 100000 in
theorem lifted (os : Os) (started : os.Started) (H : Type) (enc : TypeId × Value → H) :
    ReturnsInHanded {} Tryz.checked os 3 .any (fun w args => (Rows.nodesShowsSpec.pre enc Tryz.prog Tryz.f3 [] false w args ∧ laidMetH Tryz.prog Ca.laid w) ∧ sizedMet enc Tryz.prog Tryz.f3 (OpenSpec.ofChange Rows.nodesShowsSpec) false w args)
      (Rows.nodesShowsSpec.post enc Tryz.prog Tryz.f3 false true false false) := by
  refine returnsInHanded_of_change_and (C := Tryz.checked) (X := fun w _ => laidMetH Tryz.prog Ca.laid w) (fun _ _ _ hh h => h.of_heap hh) Ca.own started (by kernel_rfl) Tryz.func3
    (ChangeSpec.witness_shaped (enc := enc) (C := Tryz.checked) (os := os) (X := fun w _ => laidMetH Tryz.prog Ca.laid w) false (World.doorLaid Tryz.prog 400 os) #[.slice none 0 0, .int .i64 0, .int .i64 0] 8 rfl (World.shaped_of_RefB (by kernel_rfl) (by kernel_rfl)) (by kernel_rfl) (by kernel_rfl) (by kernel_rfl) (Ca.door_met os _)) ?_
  intro W base args ds gs before hval0 hW _ hsz0 hL _
  have hval : ∀ (j : Nat) t v, Tryz.f3.params[j]? = some t → args[j]? = some v → Value.okWide Tryz.prog W .any base t v := hval0
  have hsz : (DataW.weightsEach Tryz.prog (Tryz.f3.params.toList ++ Rows.nodesShowsSpec.plain.varTypes Tryz.prog) (ds ++ gs)).all (· ≤ reachBytes) = true := hsz0
  have hW' := hW
  have hlt0 := hW.lt
  have htab := Ca.tab_of_laid hL
  obtain ⟨p, q, hA0, hV, he, hfz, hnd⟩ := hW
  have hA : DataW.TrodAll enc Tryz.prog W 0 (fun _ => true) true Tryz.f3.params.toList args.toList ds p := hA0
  rw [Tryz.params3] at hA hval hsz
  obtain ⟨rfl, rfl⟩ := trodVars_none hV
  rw [List.append_nil] at he
  subst he
  obtain ⟨v0, vs0, d0, ds0, p0, q0, hargs, rfl, rfl, h0, r0⟩ := trodAll_cons hA
  obtain ⟨v1, vs1, d1, ds1, p1, q1, rfl, rfl, rfl, h1, r1⟩ := trodAll_cons r0
  obtain ⟨v2, vs2, d2, ds2, p2, q2, rfl, rfl, rfl, h2, r2⟩ := trodAll_cons r1
  obtain ⟨rfl, rfl, rfl⟩ := trodAll_nil r2
  obtain rfl : args = #[v0, v1, v2] := by cases args; simp_all
  have k0 : ∀ x ∈ p0, x.block < W.heap.size := fun x hx => hlt0 x (by simp [hx])
  have k1 : ∀ x ∈ p1, x.block < W.heap.size := fun x hx => hlt0 x (by simp [hx])
  have k2 : ∀ x ∈ p2, x.block < W.heap.size := fun x hx => hlt0 x (by simp [hx])
  obtain ⟨A0, c0, rows0, rfl, hlc0, hcm0, hrow0, hseg0, hz0, hdat0⟩ := Le.open_rows0 8 No.leafs Tryz.underlying22 (by kernel_rfl) (by kernel_rfl) (by kernel_rfl) (hval 0 22 v0 rfl rfl) h0 k0
  obtain ⟨l0, hll0, hls0, hch0⟩ := Sw.nodes_of2 hrow0
  rw [hls0] at hseg0
  rw [← hll0] at hlc0 hW' hdat0 ⊢
  have hreach0 : l0.length ≤ 879609302220 := by
    obtain ⟨es, sp, ⟨hd, he1, he2⟩ | ⟨hd, he1, he2⟩⟩ := hdat0
    · have h := sized_slice hsz (j := 0) (t := 22) (e := 36) rfl (by rw [hd]; rfl) Tryz.underlying22
      rw [No.bytes_node] at h
      simp only [reachBytes] at h
      omega
    · rw [he1] at hll0
      simp at hll0
      simp [hll0]
  obtain ⟨a1, rfl, rfl, rfl, w1⟩ := open_int Tryz.underlying3 (hval 1 3 v1 rfl rfl) h1
  obtain ⟨a2, rfl, rfl, rfl, w2⟩ := open_int Tryz.underlying3 (hval 2 3 v2 rfl rfl) h2
  clear hA0 hval0
  refine (Sw.shows_walk A0 l0 c0 a1 a2 W (by omega) hlc0 hz0 (Sw.deep_wf w1) hseg0 hch0 htab).mono fun e W' ⟨he, hb⟩ => ?_
  subst he
  exact ⟨_, rfl, Li.law_post Ca.laidOut rfl hW' (by kernel_rfl) rfl rfl rfl rfl Tryz.underlying4 hb⟩

theorem over : Rows.nodesShowsRow.holds Tryz.pinned (OpenSpec.ofChange Rows.nodesShowsSpec) :=
  OpenClaim.holds_of_wide 3 Tryz.f3 rfl rfl rfl rfl rfl rfl rfl ⟨rfl, rfl, rfl, rfl, rfl⟩ rfl rfl rfl rfl rfl (by kernel_rfl) Tryz.func3 (by kernel_rfl)
    (of_decide_eq_true (by kernel_rfl)) (by unfold Func.isWrapper; first | (rw [if_pos (by decide +kernel)]; kernel_rfl) | (rw [if_neg (by decide +kernel)]; exact ⟨rfl, rfl⟩))
    (fun os started H enc _ => lifted os started H enc)

theorem proved : Rows.NodesShowsCardSaid :=
  Claim7.holds_tied_plain_at .later [] [.data, .data, .data] true (true, "2a67b31a5e9e86c080ccdfc10b881423de430d4f86c24587aa8ce34493866f3a") false
    over (fun _ h => by cases h) (by kernel_rfl) (fun _ h => by cases h) nodesShows_row_tie rfl ⟨rfl, rfl⟩ (by kernel_rfl) rfl
    (fun f fn hf hfn => by
      obtain rfl : f = 3 := Option.some.inj ((show Tryz.prog.funcNamed "galley/galleylaw05.NodesShows" = some 3 by kernel_rfl).symm.trans hf) |>.symm
      obtain rfl : fn = Tryz.f3 := (Option.some.inj (Tryz.func3.symm.trans hfn)).symm
      exact ⟨by kernel_rfl, fun j t ht => by
        rw [Tryz.params3] at ht
        have hm : t ∈ [22, 3, 3] := by simpa using Array.mem_of_getElem? ht
        have hall : ([22, 3, 3].all fun u => !Tryz.prog.wantsStandIn u) = true := by kernel_rfl
        exact (show Tryz.prog.wantsStandIn t = false by simpa using List.all_eq_true.1 hall t hm)⟩)
    (by kernel_rfl)
#print axioms proved
end Go.Proofs.YtmcekdjhkjhcdaaGreatDoor.NodesShows
end
