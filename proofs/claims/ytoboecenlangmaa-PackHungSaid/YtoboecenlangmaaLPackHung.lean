import Derived.Test.YtoboecenlangmaaMh5
import Derived.Deep.QuietTactic
import Derived.BigQuiet
import Derived.StillTailTactics
import Derived.Test.YtoboecenlangmaaMem
import Derived.ProofKit
import Derived.OpenShut
import Derived.Deep.Slices
import Derived.KernelRfl
import Derived.Test.YtoboecenlangmaaNodeE
import Derived.SizedLaws
import Derived.Carry
/- PackHung: a column's height and depth together are all that stands in it, whatever depth is allowed, and however it hangs. No conditions. -/
section
namespace Go.Proofs.Ytoboecenlangmaa.Pk
open Go.ChangeShapes Go.WideShapes Go.ChangeAt Go.RowKit
open Me Np No
set_option linter.unusedVariables false
set_option linter.unusedSimpArgs false

/-- A column as it is: its height and depth are all that stands in it; nothing is set. -/
def HngP (ns : List Nd) (R : List Nd × Int × Int × Int) : Prop :=
  (R.2.2.2 = 0 ∧ ∃ n, R.1 = wrapL n ns ∧ n.ht + n.dp = natD ns true ∧ n.wd = extH ns true ∧ n.sign = 0 ∧ (-1073741823 ≤ n.ht ∧ n.ht ≤ 1073741823) ∧ (-1073741823 ≤ n.dp ∧ n.dp ≤ 1073741823)) ∨ (¬ R.2.2.2 = 0 ∧ R.1 = [])
theorem hng_of {ns : List Nd} {most : Int} {top : Bool} {R : List Nd × Int × Int × Int} (h : ColG ns 0 false most top R ∨ ColN R) : HngP ns R := by
  rcases h with ⟨x, a, b, c, d, p, q, r, s, h, v, N, D, H, Hf, Df, F, hc, M, hN, hD, hH, hHf, hDf, hF, hcw, ho, hx, hh, hR⟩ | ⟨h1, _, _, h⟩
  · refine .inl ⟨by rw [hR], fitN (cN h Hf Df) F, by rw [hR], ?_, hh, ?_, ?_, ?_⟩
    · show Hf + Df = natD ns true
      rw [← hx]
      have hH' : H = 0 + N := by rw [hH]; rfl
      have hs : N + D = x := by
        rw [hN, hD]
        split <;> omega
      cases top
      · have e1 : Hf = H := by rw [hHf]; rfl
        have e2 : Df = D := by rw [hDf]; rfl
        omega
      · have e1 : Hf = firstV ns := by rw [hHf]; rfl
        have e2 : Df = H + D - firstV ns := by rw [hDf]; rfl
        omega
    · show F.1 = 0
      have hH' : H = 0 + N := by rw [hH]; rfl
      have e : H - N = 0 := by omega
      rw [hF, e]
      rfl
    · have hr := chk_right hcw (fitN (cN h Hf Df) F) (by simp [wrapL])
      have := (right_hd hr (.inr (.inr (.inr (.inr rfl))))).1
      unfold dm at this
      exact this
    · have hr := chk_right hcw (fitN (cN h Hf Df) F) (by simp [wrapL])
      have := (right_hd hr (.inr (.inr (.inr (.inr rfl))))).2
      unfold dm at this
      exact this
  · exact .inr ⟨h, h1⟩
theorem tot_of {ns : List Nd} {most : Int} {top : Bool} {R : List Nd × Int × Int × Int} (h : ColG ns 0 false most top R) : ∃ a b c d p q r s, ∀ (A : Option Addr) (k : Nat) (w : World), ns.length ≤ k → Seg w w.heap.size A (ns.flatMap ncs) → Calls Try.prog 31 #[.slice A ns.length k, .bool true] w fun e w' => e = .returned (.tuple #[.agg #[.int .i64 (natD ns true), .int .i64 a, .int .i64 b, .int .i64 c, .int .i64 d, .int .i64 p, .int .i64 q, .int .i64 r, .int .i64 s], .int .i64 0]) ∧ Below w.heap.size w w' := by
  obtain ⟨x, a, b, c, d, p, q, r, s, h, v, N, D, H, Hf, Df, F, hc, M, hN, hD, hH, hHf, hDf, hF, hcw, ho, hx, hh, hR⟩ := h
  rw [← hx]
  exact ⟨a, b, c, d, p, q, r, s, M.tot⟩
-- what follows an operation is never opened (else a 'refine .. ?_' runs the rest of the region)
attribute [local irreducible] wpStill
set_option maxHeartbeats 40000000 in
set_option maxRecDepth 100000 in
theorem hung_walk (A : Option Addr) (l : List Nd) (c : Nat) (most other : Int) (w : World) (hl : l.length ≤ 879609302220) (hcap : l.length ≤ c) (hA : A = none → c = 0) (hseg : Seg w w.heap.size A (l.flatMap ncs)) :
    Calls Try.prog 8 #[.slice A l.length c, .int .i64 most, .int .i64 other] w fun e w' => e = .returned (.bool true) ∧ Below w.heap.size w w' := by
  obtain ⟨⟨La, bad1, ov1, E1⟩, hLa, hG1, HC1⟩ := col1_case l 0 false most false (by omega)
  obtain ⟨⟨Lb, bad2, ov2, E2⟩, hLb, hG2, HC2⟩ := col1_case l 0 false other false (by omega)
  obtain ⟨⟨Lc, bad3, ov3, E3⟩, hLc, hG3, HC3⟩ := col1_case l 0 false most true (by omega)
  have h1 := hng_of hG1
  have h2 := hng_of hG2
  have h3 := hng_of hG3
  have htt : E1 = 0 → ∃ a b c d p q r s, ∀ (A : Option Addr) (k : Nat) (w : World), l.length ≤ k → Seg w w.heap.size A (l.flatMap ncs) → Calls Try.prog 31 #[.slice A l.length k, .bool true] w fun e w' => e = .returned (.tuple #[.agg #[.int .i64 (natD l true), .int .i64 a, .int .i64 b, .int .i64 c, .int .i64 d, .int .i64 p, .int .i64 q, .int .i64 r, .int .i64 s], .int .i64 0]) ∧ Below w.heap.size w w' := fun h0 => by
    rcases hG1 with hg | hg
    · exact tot_of hg
    · exact absurd h0 hg.2.2.2
  simp only [HngP] at h1 h2 h3
  have H1 := Lib.hid h1
  have H2 := Lib.hid h2
  have H3 := Lib.hid h3
  have HTT := Lib.hid htt
  have HC1 := Lib.hid HC1
  have HC2 := Lib.hid HC2
  have HC3 := Lib.hid HC3
  have HSG := Lib.hid hseg
  have HA := Lib.hid hA
  clear h1 h2 h3 htt hG1 hG2 hG3 hseg hA hLa hLb hLc
  generalize natD l true = X at *
  generalize extH l true = Wd at *
  generalize hlen : l.length = len at *
  have HL := Lib.hid hlen
  clear hlen
  go_enter Try.func8, Try.ntmps8
  go_wp2_with fail
  have hv1 := vpack_of l 0 false most _ A c w (by rw [HL.out]; exact HC1.out A c w hcap (src_in HSG.out HA.out))
  rw [HL.out] at hv1
  refine hv1.mono ?_
  clear hv1
  rintro e w1 ⟨va, rfl, oa, hb1⟩
  obtain ⟨Aa, xa, f1, _⟩ := val_own oa
  simp only at f1
  subst f1
  have OA := Lib.hid oa
  have HB1 := Lib.hid hb1
  clear oa hb1 HC1
  simp only
  go_wp2_with fail
  have hv2 := vpack_of l 0 false other _ A c w1 (by rw [HL.out]; exact HC2.out A c w1 hcap (src_in (Seg.belowW HSG.out HB1.out) HA.out))
  rw [HL.out] at hv2
  refine hv2.mono ?_
  clear hv2
  rintro e w2 ⟨vb, rfl, ob, hb2⟩
  obtain ⟨Ab, xb, f2, _⟩ := val_own ob
  simp only at f2
  subst f2
  have OB := Lib.hid ob
  have HB12 := Lib.hid hb2
  have HB2 := Lib.hid (andThen HB1.out hb2)
  clear ob hb2 HC2
  simp only
  go_wp2_with fail
  have hv3 := vtop_of l 0 false most _ A c w2 (by rw [HL.out]; exact HC3.out A c w2 hcap (src_in (Seg.belowW HSG.out HB2.out) HA.out))
  rw [HL.out] at hv3
  refine hv3.mono ?_
  clear hv3
  rintro e w3 ⟨vc, rfl, oc, hb3⟩
  obtain ⟨Ac, xc, f3, _⟩ := val_own oc
  simp only at f3
  subst f3
  have OA3 := Lib.hid (own_below OA.out (andThen HB12.out hb3))
  have OB3 := Lib.hid (own_below OB.out hb3)
  have OC3 := Lib.hid oc
  have HB3 := Lib.hid (andThen HB2.out hb3)
  clear oc hb3 HC3 OA OB HB12 HB1 HB2
  simp only
  rcases H1.out with ⟨h0, n1, hn1, hx1, hw1, hsg1, hbh1, hbd1⟩ | ⟨h0, hn1⟩
  · have t1 : (E1 != 0) = false := by simp [h0]
    obtain ⟨ta, tb, tcc, td, tp, tq, tr, ts, htt⟩ := HTT.out h0
    have HTT := Lib.hid (htt A c w3 hcap (by exact Seg.belowW HSG.out HB3.out))
    obtain ⟨b1, o1, rfl, hce1⟩ := head_cells OA3.out (n := n1) (by rw [hn1]; rfl)
    rw [hw1, hsg1] at hce1
    have HCE1 := Lib.hid hce1
    have hsum1 : IntKind.i64.wrap (n1.ht + n1.dp) = X := by rw [← hx1]; exact IntWalk.i64_in _ (by omega)
    have hl1 : ((La.length : Int) == 0) = false := by rw [hn1]; simp [wrapL]; omega
    have hp1 : (0 : Int) < La.length := by rw [hn1]; simp [wrapL]; omega
    have hq1 : 0 < La.length := by rw [hn1]; simp [wrapL]
    clear htt hce1 hn1 hx1 hw1 hsg1 h0 hbh1 hbd1 OA3
    generalize La.length = la at *
    go_wp2_with (go_at_call 21; refine (num6_any _ _).mono ?_; rintro e w' ⟨rfl, rfl⟩)
    refine HTT.out.mono ?_
    rintro e w4 ⟨rfl, hb4⟩
    have HB34 := Lib.hid hb4
    clear hb4 HTT
    go_upto_region 7 with fail
    have hT := Blk.new w4 69 #[.int .i64 X, .int .i64 ta, .int .i64 tb, .int .i64 tcc, .int .i64 td, .int .i64 tp, .int .i64 tq, .int .i64 tr, .int .i64 ts]
    have hB := andAlloc HB34.out (.cells #[.int .i64 X, .int .i64 ta, .int .i64 tb, .int .i64 tcc, .int .i64 td, .int .i64 tp, .int .i64 tq, .int .i64 tr, .int .i64 ts] 69)
    generalize w4.alloc (.cells #[.int .i64 X, .int .i64 ta, .int .i64 tb, .int .i64 tcc, .int .i64 td, .int .i64 tp, .int .i64 tq, .int .i64 tr, .int .i64 ts] 69) = w5 at hT hB ⊢
    generalize w4.heap.size = gT at hT ⊢
    have HT := Lib.hid hT
    have HB5 := Lib.hid hB
    clear hT hB
    rcases H2.out with ⟨h0b, n2, hn2, hx2, hw2, hsg2, hbh2, hbd2⟩ | ⟨h0b, hn2⟩
    · have t2 : (E2 == 0) = true := by simp [h0b]
      obtain ⟨b2, o2, rfl, hce2⟩ := head_cells OB3.out (n := n2) (by rw [hn2]; rfl)
      rw [hw2] at hce2
      have HCE2 := Lib.hid hce2
      have hsum2 : IntKind.i64.wrap (n2.ht + n2.dp) = X := by rw [← hx2]; exact IntWalk.i64_in _ (by omega)
      have hl2 : ((Lb.length : Int) == 0) = false := by rw [hn2]; simp [wrapL]; omega
      have hp2 : (0 : Int) < Lb.length := by rw [hn2]; simp [wrapL]; omega
      have hq2 : 0 < Lb.length := by rw [hn2]; simp [wrapL]
      clear hce2 hn2 hx2 hw2 hsg2 h0b hbh2 hbd2
      generalize Lb.length = lb at *
      rcases H3.out with ⟨h0c, n3, hn3, hx3, hw3, hsg3, hbh3, hbd3⟩ | ⟨h0c, hn3⟩
      · have t3 : (E3 == 0) = true := by simp [h0c]
        have t3' : (E3 != 0) = false := by simp [h0c]
        obtain ⟨b3, o3, rfl, hce3⟩ := head_cells OC3.out (n := n3) (by rw [hn3]; rfl)
        have HCE3 := Lib.hid hce3
        have hsum3 : IntKind.i64.wrap (n3.ht + n3.dp) = X := by rw [← hx3]; exact IntWalk.i64_in _ (by omega)
        have hl3 : ((Lc.length : Int) == 0) = false := by rw [hn3]; simp [wrapL]; omega
        have hp3 : (0 : Int) < Lc.length := by rw [hn3]; simp [wrapL]; omega
        have hq3 : 0 < Lc.length := by rw [hn3]; simp [wrapL]
        clear hce3 hn3 hx3 hw3 hsg3 h0c hbh3 hbd3
        generalize Lc.length = lc at *
        have T5 : w5.cell? ⟨gT, 0, none⟩ = some (.int .i64 X) := Blk.cell HT.out 0
        go_cut [107] (fun v107 wx => v107 = .bool false ∧ Below w5.heap.size w5 wx)
        case first =>
          obtain ⟨u13, u14, u15, u112⟩ := HCE1.out w5 HB5.out
          go_quiet ((go_at_call 21; refine Calls.quiet_of_same (num6_q _ _)))
          go_wp2_with fail
          go_meet
          exact ⟨by simp, below_drewN (Below.refl _ _) _⟩
        case rest =>
          obtain ⟨rfl, hbc⟩ := hcut
          have HB6 := Lib.hid (andThen HB5.out hbc)
          have T6 : wc.cell? ⟨gT, 0, none⟩ = some (.int .i64 X) := Blk.cell (HT.out.below hbc HT.out.lt) 0
          have HT6 := Lib.hid (HT.out.below hbc HT.out.lt)
          clear hbc T5 HT HB5
          go_upto_region 9 with fail
          go_cut [135] (fun v135 wx => v135 = .bool false ∧ Below wc.heap.size wc wx)
          case first =>
            obtain ⟨u13, u14, u15, u112⟩ := HCE1.out wc HB6.out
            obtain ⟨u23, u24, u25, u212⟩ := HCE2.out wc HB6.out
            go_quiet ((go_at_call 21; refine Calls.quiet_of_same (num6_q _ _)))
            go_wp2_with fail
            go_meet
            exact ⟨by simp, below_drewN (Below.refl _ _) _⟩
          case rest =>
            obtain ⟨rfl, hbc⟩ := hcut
            have HB8 := Lib.hid (andThen HB6.out hbc)
            have T8 : wc.cell? ⟨gT, 0, none⟩ = some (.int .i64 X) := Blk.cell (HT6.out.below hbc HT6.out.lt) 0
            clear hbc T6 HT6 HB6
            obtain ⟨u33, u34, u35, u312⟩ := HCE3.out wc HB8.out
            have hsum3' : wrap64 (n3.ht + n3.dp) = X := by unfold wrap64; rw [← IntKind.wrap_i64]; exact hsum3
            go_upto_region 11 with fail
            refine wp_region_still_tail 18 (by kernel_rfl) (by kernel_rfl) ?_
            simp only [List.take_succ_cons, List.take_zero, List.drop_succ_cons, List.drop_zero]
            still_step
            still_call (num6_q _ _)
            repeat still_step
            refine wpStill_nil ?_
            change wpList _ _ _ _ _ wc.drew
            have hd := Below.drew (Below.refl wc.heap.size wc)
            generalize wc.drew = w8 at hd ⊢
            have HB9 := Lib.hid (andThen HB8.out hd)
            clear hd
            go_wp2_with fail
            refine (live_any _).mono ?_
            rintro e w9 ⟨rfl, hb9⟩
            have HB10 := Lib.hid (andThen HB9.out hb9)
            clear hb9
            go_wp2_with fail
            go_ret
            exact ⟨rfl, andThen HB3.out HB10.out⟩
      · have t3 : (E3 == 0) = false := by simp [h0c]
        have t3' : (E3 != 0) = true := by simp [h0c]
        clear h0c hn3
        generalize Lc.length = lc at *
        have T5 : w5.cell? ⟨gT, 0, none⟩ = some (.int .i64 X) := Blk.cell HT.out 0
        go_cut [107] (fun v107 wx => v107 = .bool false ∧ Below w5.heap.size w5 wx)
        case first =>
          obtain ⟨u13, u14, u15, u112⟩ := HCE1.out w5 HB5.out
          go_quiet ((go_at_call 21; refine Calls.quiet_of_same (num6_q _ _)))
          go_wp2_with fail
          go_meet
          exact ⟨by simp, below_drewN (Below.refl _ _) _⟩
        case rest =>
          obtain ⟨rfl, hbc⟩ := hcut
          have HB6 := Lib.hid (andThen HB5.out hbc)
          have T6 : wc.cell? ⟨gT, 0, none⟩ = some (.int .i64 X) := Blk.cell (HT.out.below hbc HT.out.lt) 0
          have HT6 := Lib.hid (HT.out.below hbc HT.out.lt)
          clear hbc T5 HT HB5
          go_upto_region 9 with fail
          go_cut [135] (fun v135 wx => v135 = .bool false ∧ Below wc.heap.size wc wx)
          case first =>
            obtain ⟨u13, u14, u15, u112⟩ := HCE1.out wc HB6.out
            obtain ⟨u23, u24, u25, u212⟩ := HCE2.out wc HB6.out
            go_quiet ((go_at_call 21; refine Calls.quiet_of_same (num6_q _ _)))
            go_wp2_with fail
            go_meet
            exact ⟨by simp, below_drewN (Below.refl _ _) _⟩
          case rest =>
            obtain ⟨rfl, hbc⟩ := hcut
            have HB8 := Lib.hid (andThen HB6.out hbc)
            have T8 : wc.cell? ⟨gT, 0, none⟩ = some (.int .i64 X) := Blk.cell (HT6.out.below hbc HT6.out.lt) 0
            clear hbc T6 HT6 HB6
            go_upto_region 11 with fail
            refine wp_region_still_tail 18 (by kernel_rfl) (by kernel_rfl) ?_
            simp only [List.take_succ_cons, List.take_zero, List.drop_succ_cons, List.drop_zero]
            still_step
            still_call (num6_q _ _)
            repeat still_step
            refine wpStill_nil ?_
            change wpList _ _ _ _ _ wc.drew
            have hd := Below.drew (Below.refl wc.heap.size wc)
            generalize wc.drew = w8 at hd ⊢
            have HB9 := Lib.hid (andThen HB8.out hd)
            clear hd
            go_wp2_with fail
            refine (live_any _).mono ?_
            rintro e w9 ⟨rfl, hb9⟩
            have HB10 := Lib.hid (andThen HB9.out hb9)
            clear hb9
            go_wp2_with fail
            go_ret
            exact ⟨rfl, andThen HB3.out HB10.out⟩
    · have t2 : (E2 == 0) = false := by simp [h0b]
      clear h0b hn2
      generalize Lb.length = lb at *
      rcases H3.out with ⟨h0c, n3, hn3, hx3, hw3, hsg3, hbh3, hbd3⟩ | ⟨h0c, hn3⟩
      · have t3 : (E3 == 0) = true := by simp [h0c]
        have t3' : (E3 != 0) = false := by simp [h0c]
        obtain ⟨b3, o3, rfl, hce3⟩ := head_cells OC3.out (n := n3) (by rw [hn3]; rfl)
        have HCE3 := Lib.hid hce3
        have hsum3 : IntKind.i64.wrap (n3.ht + n3.dp) = X := by rw [← hx3]; exact IntWalk.i64_in _ (by omega)
        have hl3 : ((Lc.length : Int) == 0) = false := by rw [hn3]; simp [wrapL]; omega
        have hp3 : (0 : Int) < Lc.length := by rw [hn3]; simp [wrapL]; omega
        have hq3 : 0 < Lc.length := by rw [hn3]; simp [wrapL]
        clear hce3 hn3 hx3 hw3 hsg3 h0c hbh3 hbd3
        generalize Lc.length = lc at *
        have T5 : w5.cell? ⟨gT, 0, none⟩ = some (.int .i64 X) := Blk.cell HT.out 0
        go_cut [107] (fun v107 wx => v107 = .bool false ∧ Below w5.heap.size w5 wx)
        case first =>
          obtain ⟨u13, u14, u15, u112⟩ := HCE1.out w5 HB5.out
          go_quiet ((go_at_call 21; refine Calls.quiet_of_same (num6_q _ _)))
          go_wp2_with fail
          go_meet
          exact ⟨by simp, below_drewN (Below.refl _ _) _⟩
        case rest =>
          obtain ⟨rfl, hbc⟩ := hcut
          have HB6 := Lib.hid (andThen HB5.out hbc)
          have T6 : wc.cell? ⟨gT, 0, none⟩ = some (.int .i64 X) := Blk.cell (HT.out.below hbc HT.out.lt) 0
          have HT6 := Lib.hid (HT.out.below hbc HT.out.lt)
          clear hbc T5 HT HB5
          go_upto_region 9 with fail
          go_cut [135] (fun v135 wx => v135 = .bool false ∧ Below wc.heap.size wc wx)
          case first =>
            obtain ⟨u13, u14, u15, u112⟩ := HCE1.out wc HB6.out
            go_quiet ((go_at_call 21; refine Calls.quiet_of_same (num6_q _ _)))
            go_wp2_with fail
            go_meet
            exact ⟨by simp, below_drewN (Below.refl _ _) _⟩
          case rest =>
            obtain ⟨rfl, hbc⟩ := hcut
            have HB8 := Lib.hid (andThen HB6.out hbc)
            have T8 : wc.cell? ⟨gT, 0, none⟩ = some (.int .i64 X) := Blk.cell (HT6.out.below hbc HT6.out.lt) 0
            clear hbc T6 HT6 HB6
            obtain ⟨u33, u34, u35, u312⟩ := HCE3.out wc HB8.out
            have hsum3' : wrap64 (n3.ht + n3.dp) = X := by unfold wrap64; rw [← IntKind.wrap_i64]; exact hsum3
            go_upto_region 11 with fail
            refine wp_region_still_tail 18 (by kernel_rfl) (by kernel_rfl) ?_
            simp only [List.take_succ_cons, List.take_zero, List.drop_succ_cons, List.drop_zero]
            still_step
            still_call (num6_q _ _)
            repeat still_step
            refine wpStill_nil ?_
            change wpList _ _ _ _ _ wc.drew
            have hd := Below.drew (Below.refl wc.heap.size wc)
            generalize wc.drew = w8 at hd ⊢
            have HB9 := Lib.hid (andThen HB8.out hd)
            clear hd
            go_wp2_with fail
            refine (live_any _).mono ?_
            rintro e w9 ⟨rfl, hb9⟩
            have HB10 := Lib.hid (andThen HB9.out hb9)
            clear hb9
            go_wp2_with fail
            go_ret
            exact ⟨rfl, andThen HB3.out HB10.out⟩
      · have t3 : (E3 == 0) = false := by simp [h0c]
        have t3' : (E3 != 0) = true := by simp [h0c]
        clear h0c hn3
        generalize Lc.length = lc at *
        have T5 : w5.cell? ⟨gT, 0, none⟩ = some (.int .i64 X) := Blk.cell HT.out 0
        go_cut [107] (fun v107 wx => v107 = .bool false ∧ Below w5.heap.size w5 wx)
        case first =>
          obtain ⟨u13, u14, u15, u112⟩ := HCE1.out w5 HB5.out
          go_quiet ((go_at_call 21; refine Calls.quiet_of_same (num6_q _ _)))
          go_wp2_with fail
          go_meet
          exact ⟨by simp, below_drewN (Below.refl _ _) _⟩
        case rest =>
          obtain ⟨rfl, hbc⟩ := hcut
          have HB6 := Lib.hid (andThen HB5.out hbc)
          have T6 : wc.cell? ⟨gT, 0, none⟩ = some (.int .i64 X) := Blk.cell (HT.out.below hbc HT.out.lt) 0
          have HT6 := Lib.hid (HT.out.below hbc HT.out.lt)
          clear hbc T5 HT HB5
          go_upto_region 9 with fail
          go_cut [135] (fun v135 wx => v135 = .bool false ∧ Below wc.heap.size wc wx)
          case first =>
            obtain ⟨u13, u14, u15, u112⟩ := HCE1.out wc HB6.out
            go_quiet ((go_at_call 21; refine Calls.quiet_of_same (num6_q _ _)))
            go_wp2_with fail
            go_meet
            exact ⟨by simp, below_drewN (Below.refl _ _) _⟩
          case rest =>
            obtain ⟨rfl, hbc⟩ := hcut
            have HB8 := Lib.hid (andThen HB6.out hbc)
            have T8 : wc.cell? ⟨gT, 0, none⟩ = some (.int .i64 X) := Blk.cell (HT6.out.below hbc HT6.out.lt) 0
            clear hbc T6 HT6 HB6
            go_upto_region 11 with fail
            refine wp_region_still_tail 18 (by kernel_rfl) (by kernel_rfl) ?_
            simp only [List.take_succ_cons, List.take_zero, List.drop_succ_cons, List.drop_zero]
            still_step
            still_call (num6_q _ _)
            repeat still_step
            refine wpStill_nil ?_
            change wpList _ _ _ _ _ wc.drew
            have hd := Below.drew (Below.refl wc.heap.size wc)
            generalize wc.drew = w8 at hd ⊢
            have HB9 := Lib.hid (andThen HB8.out hd)
            clear hd
            go_wp2_with fail
            refine (live_any _).mono ?_
            rintro e w9 ⟨rfl, hb9⟩
            have HB10 := Lib.hid (andThen HB9.out hb9)
            clear hb9
            go_wp2_with fail
            go_ret
            exact ⟨rfl, andThen HB3.out HB10.out⟩
  · have t1 : (E1 != 0) = true := by simp [h0]
    subst hn1
    clear h0
    simp only [List.length_nil]
    go_wp2_with (go_at_call 21; refine (num6_any _ _).mono ?_; rintro e w' ⟨rfl, rfl⟩)
    refine (live_any _).mono ?_
    rintro e w7 ⟨rfl, hb7⟩
    have HB7 := Lib.hid (andThen HB3.out hb7)
    clear hb7
    go_wp2_with fail
    go_ret
    exact ⟨rfl, HB7.out⟩
end Go.Proofs.Ytoboecenlangmaa.Pk
end
section
namespace Go.Proofs.Ytoboecenlangmaa.Le
open Go.ChangeShapes Go.WideShapes Go.RowKit Go.Deep

/-- The types of a type's cells. -/
def lv (P : Program) : Nat → TypeId → List TypeId
  | 0, t => [t]
  | n + 1, t => match P.underlying t with
    | some (.struct fs) => fs.toList.flatMap fun f => lv P n f.type
    | some (.array k e) => (List.replicate k (lv P n e)).flatten
    | _ => [t]

/-- The cells' types are where the type's own table says. -/
def good (P : Program) : Nat → TypeId → Bool
  | 0, t => P.cellsOf t == 1
  | n + 1, t => match P.underlying t with
    | some (.struct fs) => (P.cellsOf t == (lv P (n + 1) t).length) && fs.toList.all (fun f => good P n f.type) &&
        (List.range (lv P (n + 1) t).length).all fun i => (List.range fs.size).any fun j => match fs[j]? with
          | some f => decide (f.offset ≤ i) && decide (i < f.offset + P.cellsOf f.type) && decide (f.offset + P.cellsOf f.type ≤ P.cellsOf t) && decide ((lv P n f.type)[i - f.offset]? = (lv P (n + 1) t)[i]?)
          | none => false
    | some (.array k e) => (P.cellsOf t == (lv P (n + 1) t).length) && good P n e &&
        (List.range (lv P (n + 1) t).length).all fun i => (List.range k).any fun j => decide (j * P.cellsOf e ≤ i) && decide (i < j * P.cellsOf e + P.cellsOf e) && decide (j * P.cellsOf e + P.cellsOf e ≤ P.cellsOf t) && decide ((lv P n e)[i - j * P.cellsOf e]? = (lv P (n + 1) t)[i]?)
    | _ => P.cellsOf t == 1

section
variable {H : Type} {enc : TypeId × Value → H} {P : Program} {w : World} {base : Nat} {spare : Nat → Bool} {held : Bool}

theorem slice_get {cs : List Value} {o c i : Nat} (h0 : o ≤ i) (h1 : i < o + c) : ((cs.drop o).take c)[i - o]? = cs[i]? := by
  rw [List.getElem?_take, if_pos (by omega), List.getElem?_drop]
  congr 1
  omega

/-- Each cell reads as its leaf's type. -/
theorem leaves : ∀ (n : Nat) {t : TypeId} {fuel : Nat} {cs : List Value} {x : DataW H × List MemPlace}, good P n t = true → cs.length = P.cellsOf t → DataW.trod enc P w base spare held fuel t cs = some x →
    ∀ (i : Nat) (u : TypeId), (lv P n t)[i]? = some u → ∃ (v : Value) (m : Nat) (y : DataW H × List MemPlace), cs[i]? = some v ∧ DataW.trod enc P w base spare held m u [v] = some y
  | 0, t, fuel, cs, x, hg, hl, h, i, u, hu => by
    simp only [lv] at hu
    match i, hu with
    | 0, hu =>
      simp at hu
      subst hu
      unfold good at hg
      rw [beq_iff_eq] at hg
      rw [hg] at hl
      match cs, hl with
      | [v], _ => exact ⟨v, fuel, x, rfl, h⟩
    | i + 1, hu => simp at hu
  | n + 1, t, fuel, cs, x, hg, hl, h, i, u, hu => by
    have hilt : i < (lv P (n + 1) t).length := by
      rcases Nat.lt_or_ge i (lv P (n + 1) t).length with h1 | h1
      · exact h1
      · rw [List.getElem?_eq_none h1] at hu; cases hu
    unfold good at hg
    split at hg
    · rename_i fs hfs
      simp only [Bool.and_eq_true, List.all_eq_true] at hg
      obtain ⟨⟨_, hgf⟩, hcov⟩ := hg
      have hc := hcov i (List.mem_range.2 hilt)
      simp only [List.any_eq_true] at hc
      obtain ⟨j, hj, hc⟩ := hc
      split at hc
      · rename_i f hf
        simp only [Bool.and_eq_true, decide_eq_true_eq] at hc
        obtain ⟨⟨⟨h1, h2⟩, h4⟩, h3⟩ := hc
        obtain ⟨xs, n', _, _, hcl, hxl, hat⟩ := DataW.trod_struct hfs h
        have hjl : j < fs.size := by
          rcases Nat.lt_or_ge j fs.size with hh | hh
          · exact hh
          · rw [Array.getElem?_eq_none hh] at hf; cases hf
        have hxj : xs[j]? = some (xs[j]'(by omega)) := List.getElem?_eq_getElem (by omega)
        have ht := (hat j f hf).trans hxj
        have hmem : f ∈ fs.toList := by
          have := Array.mem_of_getElem? hf
          simpa using this
        have hlen : ((cs.drop f.offset).take (P.cellsOf f.type)).length = P.cellsOf f.type := by
          rw [List.length_take, List.length_drop]
          omega
        obtain ⟨v, m, y, hv, hy⟩ := leaves n (hgf f hmem) hlen ht (i - f.offset) u (by rw [h3]; exact hu)
        exact ⟨v, m, y, by rw [← slice_get h1 h2]; exact hv, hy⟩
      · cases hc
    · rename_i k e he
      simp only [Bool.and_eq_true, List.all_eq_true] at hg
      obtain ⟨⟨_, hge⟩, hcov⟩ := hg
      have hc := hcov i (List.mem_range.2 hilt)
      simp only [List.any_eq_true, List.mem_range, Bool.and_eq_true, decide_eq_true_eq] at hc
      obtain ⟨j, hj, ⟨⟨h1, h2⟩, h4⟩, h3⟩ := hc
      obtain ⟨xs, n', _, _, hcl, hxl, hat⟩ := DataW.trod_array he h
      have hxj : xs[j]? = some (xs[j]'(by omega)) := List.getElem?_eq_getElem (by omega)
      have ht := (hat j hj).trans hxj
      have hlen : ((cs.drop (j * P.cellsOf e)).take (P.cellsOf e)).length = P.cellsOf e := by
        rw [List.length_take, List.length_drop]
        omega
      obtain ⟨v, m, y, hv, hy⟩ := leaves n hge hlen ht (i - j * P.cellsOf e) u (by rw [h3]; exact hu)
      exact ⟨v, m, y, by rw [← slice_get h1 h2]; exact hv, hy⟩
    · rename_i hns hna
      have hlv : lv P (n + 1) t = [t] := by
        unfold lv
        split
        · rename_i fs hfs; exact absurd hfs (hns fs)
        · rename_i k e he; exact absurd he (hna k e)
        · rfl
      rw [hlv] at hu
      match i, hu with
      | 0, hu =>
        simp at hu
        subst hu
        rw [beq_iff_eq] at hg
        rw [hg] at hl
        match cs, hl with
        | [v], _ => exact ⟨v, fuel, x, rfl, h⟩
      | i + 1, hu => simp at hu
end

section
variable {H : Type} {enc : TypeId × Value → H} {P : Program} {w : World} {base : Nat} {spare : Nat → Bool} {held : Bool}

/-- What is known of a row of cells of type t. -/
def Cells (enc : TypeId × Value → H) (P : Program) (w : World) (base : Nat) (spare : Nat → Bool) (held : Bool) (ls : List TypeId) (cs : List Value) : Prop :=
  cs.length = ls.length ∧ ∀ (i : Nat) (u : TypeId), ls[i]? = some u → ∃ (v : Value) (m : Nat) (y : DataW H × List MemPlace), cs[i]? = some v ∧ DataW.trod enc P w base spare held m u [v] = some y

/-- A struct that comes by value. -/
theorem open_flat {r : Reach} {b0 : Nat} {t : TypeId} {fs : Array Field} {v : Value} {d : DataW H} {ps : List MemPlace} (n : Nat) (ls : List TypeId) (hs : P.underlying t = some (.struct fs)) (hg : good P n t = true) (hl : lv P n t = ls) (hc : P.cellsOf t = ls.length)
    (hv : Value.okWide P w r b0 t v) (h : DataW.Trod enc P w base spare held t v d ps) : ∃ cs : List Value, v = .agg cs.toArray ∧ Cells enc P w base spare held ls cs := by
  obtain ⟨cs, rfl, hsz⟩ := okWide_struct hs hv
  obtain ⟨fuel, hf⟩ := h
  refine ⟨cs.toList, by simp, by simp [hsz, hc], fun i u hu => ?_⟩
  exact leaves n hg (by simp [hsz]) (by simpa [Value.cells] using hf) i u (by rw [hl]; exact hu)

/-- A slice that comes in: where it lies, and its elements' cells. -/
theorem open_rows0 {r : Reach} {b0 : Nat} {t e : TypeId} {v : Value} {d : DataW H} {ps : List MemPlace} (n : Nat) (ls : List TypeId) (ht : P.underlying t = some (.slice e)) (hg : good P n e = true) (hl : lv P n e = ls) (hc : P.cellsOf e = ls.length)
    (hv : Value.okWide P w r b0 t v) (h : DataW.Trod enc P w base (fun _ => true) held t v d ps) (hlt : ∀ x ∈ ps, x.block < w.heap.size) :
    ∃ (A : Option Addr) (c : Nat) (rows : List (List Value)), v = .slice A rows.length c ∧ rows.length ≤ c ∧ c ≤ maxLen ∧ (∀ cs ∈ rows, Cells enc P w base (fun _ => true) held ls cs) ∧ Me.Seg w w.heap.size A rows.flatten ∧ (A = none → c = 0) ∧
      (∃ es sp : List (DataW H), (d = .slice es sp ∧ es.length = rows.length ∧ es.length + sp.length = c) ∨ (d = .nil ∧ rows = [] ∧ c = 0)) := by
  obtain ⟨fuel, hf⟩ := h
  obtain ⟨a0, len0, cap0, rfl⟩ := okWide_slice ht hv
  rw [show Value.cells (.slice a0 len0 cap0) = #[.slice a0 len0 cap0] from rfl] at hf
  rcases open_slice ht hf with ⟨h0, hx⟩ | ⟨a, len, cap, m, nn, D, Pl, hcs, _, hlc, hcm, hm, hx, hi⟩
  · simp at h0
    obtain ⟨rfl, rfl, rfl⟩ := h0
    simp only [Prod.mk.injEq] at hx
    exact ⟨none, 0, [], rfl, Nat.le_refl _, by simp [maxLen], by simp, .inl rfl, fun _ => rfl, [], [], .inr ⟨hx.1, rfl, rfl⟩⟩
  · simp at hcs
    obtain ⟨rfl, rfl, rfl⟩ := hcs
    simp only [if_true] at hm
    subst hm
    simp only [Prod.mk.injEq] at hx
    obtain ⟨hd, hps⟩ := hx
    have hrow : ∀ i, i < len0 → ∃ cs, w.cells? base (a.add (i * P.cellsOf e)) (P.cellsOf e) = some cs ∧ Cells enc P w base (fun _ => true) held ls cs := by
      intro i hil
      obtain ⟨cs, h1, h2⟩ := hi i (by omega)
      obtain ⟨_, h3, _⟩ := World.cells?_some h1
      exact ⟨cs, h1, by rw [h3, hc], fun j u hu => leaves n hg h3 h2 j u (by rw [hl]; exact hu)⟩
    let R : Nat → List Value := fun i => (w.cells? base (a.add (i * P.cellsOf e)) (P.cellsOf e)).getD []
    have hR : ∀ i, i < len0 → Cells enc P w base (fun _ => true) held ls (R i) ∧ ∀ j, j < P.cellsOf e → w.cell? ((a.add (i * P.cellsOf e)).add j) = (R i)[j]? := by
      intro i hil
      obtain ⟨cs, h1, h2⟩ := hrow i hil
      have e1 : R i = cs := by simp [R, h1]
      rw [e1]
      exact ⟨h2, (World.cells?_some h1).2.2⟩
    have hlen : ∀ i, i < len0 → (R i).length = P.cellsOf e := fun i hil => by rw [hc]; exact (hR i hil).1.1
    refine ⟨some a, m, (List.range len0).map R, by simp, by simpa using hlc, hcm, ?_, ?_, (by intro hh; cases hh), (List.range len0).map D, (List.range (m - len0)).map fun j => D (len0 + j), .inl ⟨hd, by simp, by simp; omega⟩⟩
    · intro cs hcs
      obtain ⟨i, hi', rfl⟩ := List.mem_map.1 hcs
      exact (hR i (List.mem_range.1 hi')).1
    · by_cases hz : ((List.range len0).map R).flatten = []
      · exact .inl hz
      · have hpos : 0 < len0 * P.cellsOf e := by
          rcases Nat.eq_zero_or_pos (len0 * P.cellsOf e) with h1 | h1
          · exfalso
            apply hz
            rw [List.flatten_eq_nil_iff]
            intro l hl'
            obtain ⟨i, hi', rfl⟩ := List.mem_map.1 hl'
            have hil := List.mem_range.1 hi'
            have h2 := hlen i hil
            rcases Nat.mul_eq_zero.1 h1 with h3 | h3
            · omega
            · rw [h3] at h2; exact List.eq_nil_of_length_eq_zero h2
          · exact h1
        have hlen0 : 0 < len0 := Nat.pos_of_mul_pos_right hpos
        have hce : 0 < P.cellsOf e := Nat.pos_of_mul_pos_left hpos
        have hcell0 : ∃ u, w.cell? a = some u := by
          obtain ⟨h1, h2⟩ := hR 0 hlen0
          have h3 := h2 0 hce
          have h4 : (a.add (0 * P.cellsOf e)).add 0 = a := by simp [Addr.add]
          rw [h4] at h3
          refine ⟨_, h3.trans (List.getElem?_eq_getElem (by rw [hlen 0 hlen0]; exact hce))⟩
        obtain ⟨u0, hu0⟩ := hcell0
        have hspot : a.spot = none := World.cell?_spot hu0
        obtain ⟨b, off, sp⟩ := a
        simp only at hspot
        subst hspot
        refine .inr ⟨b, off, rfl, ?_, ?_⟩
        · have hm0 := Nat.mul_le_mul_right (P.cellsOf e) hlc
          have := hlt (.cell b off) (by rw [hps]; exact List.mem_append_left _ (List.mem_map.2 ⟨0, List.mem_range.2 (by omega), rfl⟩))
          exact this
        · intro j u hu
          have hall : ∀ (k : Nat) (l : List Nat), (∀ i ∈ l, i < len0) → ∀ j u, ((l.map R).flatten)[j]? = some u → ∃ i q, l[i]? ≠ none ∧ j = i * P.cellsOf e + q ∧ q < P.cellsOf e ∧ ∃ z, l[i]? = some z ∧ (R z)[q]? = some u := by
            intro k l
            induction l with
            | nil => intro _ j u h; simp at h
            | cons z l ih =>
              intro hl' j u h
              simp only [List.map_cons, List.flatten_cons] at h
              have hz1 := hlen z (hl' z (by simp))
              rcases Nat.lt_or_ge j (P.cellsOf e) with hj | hj
              · rw [List.getElem?_append_left (by omega)] at h
                exact ⟨0, j, by simp, by omega, hj, z, by simp, h⟩
              · rw [List.getElem?_append_right (by omega), hz1] at h
                obtain ⟨i, q, h1, h2, h3, y, h4, h5⟩ := ih (fun i hi' => hl' i (by simp [hi'])) _ _ h
                refine ⟨i + 1, q, by simpa using h1, ?_, h3, y, by simpa using h4, h5⟩
                rw [Nat.add_mul]; omega
          obtain ⟨i, q, _, hj, hq, z, hz1, hz2⟩ := hall 0 (List.range len0) (fun i hi' => List.mem_range.1 hi') j u hu
          have hzi : z = i ∧ i < len0 := by
            have hil : i < len0 := by
              rcases Nat.lt_or_ge i len0 with h1 | h1
              · exact h1
              · rw [List.getElem?_eq_none (by simpa using h1)] at hz1; cases hz1
            rw [List.getElem?_range hil] at hz1
            injection hz1 with hz1
            exact ⟨hz1.symm, hil⟩
          obtain ⟨rfl, hil⟩ := hzi
          have h6 := (hR z hil).2 q hq
          rw [hz2] at h6
          rw [← h6, hj]
          congr 1
          unfold Addr.add
          by_cases h7 : z * P.cellsOf e = 0 <;> by_cases h8 : q = 0 <;> simp [h7, h8, Nat.add_assoc]
theorem open_rows {r : Reach} {b0 : Nat} {t e : TypeId} {v : Value} {d : DataW H} {ps : List MemPlace} (n : Nat) (ls : List TypeId) (ht : P.underlying t = some (.slice e)) (hg : good P n e = true) (hl : lv P n e = ls) (hc : P.cellsOf e = ls.length)
    (hv : Value.okWide P w r b0 t v) (h : DataW.Trod enc P w base (fun _ => true) held t v d ps) (hlt : ∀ x ∈ ps, x.block < w.heap.size) :
    ∃ (A : Option Addr) (c : Nat) (rows : List (List Value)), v = .slice A rows.length c ∧ rows.length ≤ c ∧ c ≤ maxLen ∧ (∀ cs ∈ rows, Cells enc P w base (fun _ => true) held ls cs) ∧ Me.Seg w w.heap.size A rows.flatten ∧
      (∃ es sp : List (DataW H), (d = .slice es sp ∧ es.length = rows.length ∧ es.length + sp.length = c) ∨ (d = .nil ∧ rows = [] ∧ c = 0)) := by
  obtain ⟨A, c, rows, h1, h2, h3, h4, h5, _, h6⟩ := open_rows0 n ls ht hg hl hc hv h hlt
  exact ⟨A, c, rows, h1, h2, h3, h4, h5, h6⟩
end

section
variable {H : Type} {enc : TypeId × Value → H} {P : Program} {w : World} {base : Nat} {spare : Nat → Bool} {held : Bool}
/-- Cells that are all integers of one kind. -/
theorem cells_ints {ti : TypeId} {k : IntKind} (hu : P.underlying ti = some (.int k)) : ∀ {n : Nat} {cs : List Value}, Cells enc P w base spare held (List.replicate n ti) cs →
    ∃ zs : List Int, zs.length = n ∧ cs = zs.map (Value.int k) ∧ ∀ z ∈ zs, (Lit.int k z).wf = true
  | 0, cs, h => ⟨[], rfl, by simpa using h.1, by simp⟩
  | n + 1, cs, h => by
    obtain ⟨hl, hc⟩ := h
    match cs, hl with
    | c :: cs, hl =>
      obtain ⟨v, m, y, hv, hy⟩ := hc 0 ti (by simp [List.replicate_succ])
      simp at hv
      subst hv
      obtain ⟨z, hz, _, hw⟩ := DataW.trod_int hu hy
      simp at hz
      subst hz
      obtain ⟨zs, h1, h2, h3⟩ := cells_ints hu (n := n) (cs := cs) ⟨by simpa [List.replicate_succ] using hl, fun i u hi => by
        obtain ⟨v, m, y, hv, hy⟩ := hc (i + 1) u (by simpa [List.replicate_succ] using hi)
        exact ⟨v, m, y, by simpa using hv, hy⟩⟩
      exact ⟨z :: zs, by simp [h1], by simp [h2], by
        intro x hx
        rcases List.mem_cons.1 hx with rfl | hx
        · exact hw
        · exact h3 x hx⟩
theorem wf_bd {z : Int} (h : (Lit.int .i64 z).wf = true) : -9223372036854775808 ≤ z ∧ z ≤ 9223372036854775807 := by
  simp [Lit.wf, IntKind.min, IntKind.max, IntKind.signed, IntKind.bits] at h
  omega
end
end Go.Proofs.Ytoboecenlangmaa.Le
end
section
namespace Go.Proofs.Ytoboecenlangmaa.No
open Go.ChangeShapes Go.WideShapes Go.ChangeAt Go.RowKit
open Me Np
set_option linter.unusedVariables false

def leafs : List TypeId := [3, 3, 5, 3, 3, 3, 3, 3, 3, 3, 3, 3, 3, 3, 3, 3, 3, 3, 9]
theorem node_of {H : Type} {enc : TypeId × Value → H} {w : World} {base : Nat} {spare : Nat → Bool} {held : Bool} {cs : List Value} (h : Le.Cells enc Try.prog w base spare held leafs cs) : ∃ n : Nd, cs = ncs n := by
  obtain ⟨hl, hc⟩ := h
  have hl : cs.length = 19 := hl
  obtain ⟨v0, m0, y0, e0, t0⟩ := hc 0 3 rfl
  obtain ⟨z0, g0, _⟩ := DataW.trod_int Try.underlying3 t0
  simp only [List.cons.injEq, and_true] at g0
  subst g0
  obtain ⟨v1, m1, y1, e1, t1⟩ := hc 1 3 rfl
  obtain ⟨z1, g1, _⟩ := DataW.trod_int Try.underlying3 t1
  simp only [List.cons.injEq, and_true] at g1
  subst g1
  obtain ⟨v2, m2, y2, e2, t2⟩ := hc 2 5 rfl
  obtain ⟨z2, g2, _⟩ := DataW.trod_int Try.underlying5 t2
  simp only [List.cons.injEq, and_true] at g2
  subst g2
  obtain ⟨v3, m3, y3, e3, t3⟩ := hc 3 3 rfl
  obtain ⟨z3, g3, _⟩ := DataW.trod_int Try.underlying3 t3
  simp only [List.cons.injEq, and_true] at g3
  subst g3
  obtain ⟨v4, m4, y4, e4, t4⟩ := hc 4 3 rfl
  obtain ⟨z4, g4, _⟩ := DataW.trod_int Try.underlying3 t4
  simp only [List.cons.injEq, and_true] at g4
  subst g4
  obtain ⟨v5, m5, y5, e5, t5⟩ := hc 5 3 rfl
  obtain ⟨z5, g5, _⟩ := DataW.trod_int Try.underlying3 t5
  simp only [List.cons.injEq, and_true] at g5
  subst g5
  obtain ⟨v6, m6, y6, e6, t6⟩ := hc 6 3 rfl
  obtain ⟨z6, g6, _⟩ := DataW.trod_int Try.underlying3 t6
  simp only [List.cons.injEq, and_true] at g6
  subst g6
  obtain ⟨v7, m7, y7, e7, t7⟩ := hc 7 3 rfl
  obtain ⟨z7, g7, _⟩ := DataW.trod_int Try.underlying3 t7
  simp only [List.cons.injEq, and_true] at g7
  subst g7
  obtain ⟨v8, m8, y8, e8, t8⟩ := hc 8 3 rfl
  obtain ⟨z8, g8, _⟩ := DataW.trod_int Try.underlying3 t8
  simp only [List.cons.injEq, and_true] at g8
  subst g8
  obtain ⟨v9, m9, y9, e9, t9⟩ := hc 9 3 rfl
  obtain ⟨z9, g9, _⟩ := DataW.trod_int Try.underlying3 t9
  simp only [List.cons.injEq, and_true] at g9
  subst g9
  obtain ⟨v10, m10, y10, e10, t10⟩ := hc 10 3 rfl
  obtain ⟨z10, g10, _⟩ := DataW.trod_int Try.underlying3 t10
  simp only [List.cons.injEq, and_true] at g10
  subst g10
  obtain ⟨v11, m11, y11, e11, t11⟩ := hc 11 3 rfl
  obtain ⟨z11, g11, _⟩ := DataW.trod_int Try.underlying3 t11
  simp only [List.cons.injEq, and_true] at g11
  subst g11
  obtain ⟨v12, m12, y12, e12, t12⟩ := hc 12 3 rfl
  obtain ⟨z12, g12, _⟩ := DataW.trod_int Try.underlying3 t12
  simp only [List.cons.injEq, and_true] at g12
  subst g12
  obtain ⟨v13, m13, y13, e13, t13⟩ := hc 13 3 rfl
  obtain ⟨z13, g13, _⟩ := DataW.trod_int Try.underlying3 t13
  simp only [List.cons.injEq, and_true] at g13
  subst g13
  obtain ⟨v14, m14, y14, e14, t14⟩ := hc 14 3 rfl
  obtain ⟨z14, g14, _⟩ := DataW.trod_int Try.underlying3 t14
  simp only [List.cons.injEq, and_true] at g14
  subst g14
  obtain ⟨v15, m15, y15, e15, t15⟩ := hc 15 3 rfl
  obtain ⟨z15, g15, _⟩ := DataW.trod_int Try.underlying3 t15
  simp only [List.cons.injEq, and_true] at g15
  subst g15
  obtain ⟨v16, m16, y16, e16, t16⟩ := hc 16 3 rfl
  obtain ⟨z16, g16, _⟩ := DataW.trod_int Try.underlying3 t16
  simp only [List.cons.injEq, and_true] at g16
  subst g16
  obtain ⟨v17, m17, y17, e17, t17⟩ := hc 17 3 rfl
  obtain ⟨z17, g17, _⟩ := DataW.trod_int Try.underlying3 t17
  simp only [List.cons.injEq, and_true] at g17
  subst g17
  obtain ⟨v18, m18, y18, e18, t18⟩ := hc 18 9 rfl
  obtain ⟨z18, g18, _⟩ := DataW.trod_string Try.underlying9 t18
  simp only [List.cons.injEq, and_true] at g18
  subst g18
  refine ⟨⟨z0, z1, z2, z3, z4, z5, z6, z7, z8, z9, z10, z11, z12, z13, z14, z15, z16, z17, z18⟩, ?_⟩
  apply List.ext_getElem?
  intro i
  match i with
  | 0 => exact e0
  | 1 => exact e1
  | 2 => exact e2
  | 3 => exact e3
  | 4 => exact e4
  | 5 => exact e5
  | 6 => exact e6
  | 7 => exact e7
  | 8 => exact e8
  | 9 => exact e9
  | 10 => exact e10
  | 11 => exact e11
  | 12 => exact e12
  | 13 => exact e13
  | 14 => exact e14
  | 15 => exact e15
  | 16 => exact e16
  | 17 => exact e17
  | 18 => exact e18
  | i + 19 =>
    rw [List.getElem?_eq_none (by omega), List.getElem?_eq_none (by rw [ncs_length]; omega)]
theorem nodes_of {H : Type} {enc : TypeId × Value → H} {w : World} {base : Nat} {spare : Nat → Bool} {held : Bool} : ∀ {rows : List (List Value)}, (∀ cs ∈ rows, Le.Cells enc Try.prog w base spare held leafs cs) → ∃ l : List Nd, l.length = rows.length ∧ rows.flatten = l.flatMap ncs
  | [], _ => ⟨[], rfl, rfl⟩
  | cs :: rows, h => by
    obtain ⟨n, hn⟩ := node_of (h cs (by simp))
    obtain ⟨l, h1, h2⟩ := nodes_of (rows := rows) (fun c hc => h c (by simp [hc]))
    exact ⟨n :: l, by simp [h1], by simp [hn, h2]⟩
theorem bytes_node : Try.prog.bytesOf 54 = 160 := by kernel_rfl
end Go.Proofs.Ytoboecenlangmaa.No
end
section
namespace Go.Proofs.Ytoboecenlangmaa.Li
open Go.ChangeShapes Go.WideShapes Go.ChangeAt Go.RowKit

section
variable {H : Type} {enc : TypeId × Value → H} {P : Program}

theorem trodAll_below (hl : laidOutB P = true) {W W' : World} (hb : Below W.heap.size W W') {sp : Nat → Bool} :
    ∀ {ts : List TypeId} {vs : List Value} {ds : List (DataW H)} {p : List MemPlace}, ts.all (fun t => P.readableRec t && decide (t < P.types.size)) = true → DataW.TrodAll enc P W 0 (fun _ => true) true ts vs ds p →
      (∀ x ∈ p, x.block < W.heap.size) → (∀ x ∈ p, sp x.block = true) → DataW.TrodAll enc P W' 0 sp true ts vs ds p
  | [], _, _, _, _, h, _, _ => by
    obtain ⟨rfl, rfl, rfl⟩ := trodAll_nil h
    exact trodAll_mk0
  | t :: ts, _, _, _, hr, h, hlt, hs => by
    obtain ⟨v, vs1, d, ds1, a, b, rfl, rfl, rfl, h1, h2⟩ := trodAll_cons h
    simp only [List.all_cons, Bool.and_eq_true, decide_eq_true_eq] at hr
    refine trodAll_cons_mk (WideElems.Trod_stays hl hr.1.1 hr.1.2 h1 (fun x hx => hb.same (hlt x (by simp [hx]))) (fun x hx => hs x (by simp [hx]))) ?_
    exact trodAll_below hl hb (by simpa using hr.2) h2 (fun x hx => hlt x (by simp [hx])) (fun x hx => hs x (by simp [hx]))

theorem law_post {f : Func} {s : ChangeSpec} {apart fresh handsOn again : Bool} {W W' : World} {args : Array Value} {ds gs : List (DataW H)} {before : List MemPlace} {tb : TypeId}
    (hl : laidOutB P = true) (hv : s.vars = []) (hW : DataW.Whole enc P f.params.toList s.vars apart W args.toList ds gs before) (hr : f.params.toList.all (fun t => P.readableRec t && decide (t < P.types.size)) = true)
    (hres : (s.fn H (ds ++ gs)).results = [.lit (.bool true)]) (hargs : (s.fn H (ds ++ gs)).args = ds) (hvars : (s.fn H (ds ++ gs)).vars = []) (hrt : f.resultTypes = #[tb]) (htb : P.underlying tb = some .bool)
    (hb : Below W.heap.size W W') : s.post enc P f apart fresh handsOn again W args (.bool true) W' := by
  have hlt0 := hW.lt
  obtain ⟨p, q, hA, hV, he, hfz, hnd⟩ := id hW
  rw [hv] at hV
  obtain ⟨rfl, rfl⟩ := trodVars_none hV
  rw [List.append_nil] at he
  subst he
  have hlt : ∀ x ∈ before, x.block < W.heap.size := fun x hx => hlt0 x hx
  have hR : ∀ (b : Nat) (sp : Nat → Bool) (hd : Bool), DataW.TrodAll enc P W' b sp hd f.resultTypes.toList ((Value.bool true).resultList f.resultTypes.size) (s.fn H (ds ++ [])).results [] := by
    intro b sp hd
    rw [hrt, hres]
    exact trodAll_mk1 (shut_bool htb _)
  have hVW : ∀ sp : Nat → Bool, DataW.TrodVars enc P W' sp s.vars (s.fn H (ds ++ [])).vars [] := by
    intro sp
    rw [hv, hvars]
    rfl
  have hAW : ∀ sp : Nat → Bool, (∀ x ∈ before, sp x.block = true) → DataW.TrodAll enc P W' 0 sp true f.params.toList args.toList (s.fn H (ds ++ [])).args before := by
    intro sp hs
    rw [hargs]
    exact trodAll_below hl hb hr hA hlt hs
  refine ⟨ds, [], before, [], before, [], hW, hR _ _ _, hAW _ (fun x hx => by simpa using hlt x hx), hVW _, World.keptBut_mono (fun x hx => ⟨hx, .inr (.inl hx)⟩) (hb.frame (· ∈ before)), fun _ => ⟨?_, ?_⟩⟩
  · exact ok_one hrt rfl (okWide_bool_mk htb _)
  · refine ⟨_, _, [] ++ before ++ [], ⟨[] ++ before, [], trodAll_append (hAW _ (fun _ _ => rfl)) (hR _ _ _), hVW _, rfl, ?_, ?_⟩, ?_⟩
    · intro b off hx
      have hx' : MemPlace.cell b off ∈ before := by simpa using hx
      rw [hb.frozen (hlt _ hx')]
      exact hfz b off hx'
    · intro ha
      simpa using hnd ha
    · intro x hx _
      simpa using hx
end
end Go.Proofs.Ytoboecenlangmaa.Li
end
section
namespace Go.Proofs.Ytoboecenlangmaa.PackHung
open Np
open Go.ChangeShapes Go.WideShapes Go.ChangeAt Go.RowKit
set_option linter.unusedVariables false

theorem own : ownKnob Try.prog.godebug = none := by kernel_rfl
theorem laidOut : laidOutB Try.prog = true := by kernel_rfl

set_option maxRecDepth 100000 in
theorem lifted (os : Os) (started : os.Started) (H : Type) (enc : TypeId × Value → H) :
    ReturnsInHanded {} Try.checked os 8 .any (Rows.packHungSpec.pre6 enc Try.prog Try.f8 Rows.packHungRow.domain false) (Rows.packHungSpec.post enc Try.prog Try.f8 false true false false) := by
  refine returnsInHanded_of_change_sized (C := Try.checked) own started (by kernel_rfl) Try.func8
    (ChangeSpec.witness6 (enc := enc) (C := Try.checked) false ⟨#[], #[.slice none 0 0, .int .i64 0, .int .i64 0], []⟩ 8 (by kernel_rfl) (by kernel_rfl) (by kernel_rfl) (by kernel_rfl)) ?_
  intro W base args ds gs before hval0 hW _ hsz0 _
  have hval : ∀ (j : Nat) t v, Try.f8.params[j]? = some t → args[j]? = some v → Value.okWide Try.prog W .any base t v := hval0
  have hsz : (DataW.weightsEach Try.prog (Try.f8.params.toList ++ Rows.packHungSpec.plain.varTypes Try.prog) (ds ++ gs)).all (· ≤ reachBytes) = true := hsz0
  have hW' := hW
  have hlt0 := hW.lt
  obtain ⟨p, q, hA0, hV, he, hfz, hnd⟩ := hW
  have hA : DataW.TrodAll enc Try.prog W 0 (fun _ => true) true Try.f8.params.toList args.toList ds p := hA0
  rw [Try.params8] at hA hval hsz
  obtain ⟨rfl, rfl⟩ := trodVars_none hV
  rw [List.append_nil] at he
  subst he
  obtain ⟨v0, vs0, d0, ds0, p0, q0, hargs, rfl, rfl, h0, r0⟩ := trodAll_cons hA
  obtain ⟨v1, vs1, d1, ds1, p1, q1, rfl, rfl, rfl, h1, r1⟩ := trodAll_cons r0
  obtain ⟨v2, vs2, d2, ds2, p2, q2, rfl, rfl, rfl, h2, r2⟩ := trodAll_cons r1
  obtain ⟨rfl, rfl, rfl⟩ := trodAll_nil r2
  obtain rfl : args = #[v0, v1, v2] := by cases args; simp_all
  have k0 : ∀ x ∈ p0, x.block < W.heap.size := fun x hx => hlt0 x (by simp [hx])
  have k1 : ∀ x ∈ p1, x.block < W.heap.size := fun x hx => hlt0 x (by simp [hx])
  have k2 : ∀ x ∈ p2, x.block < W.heap.size := fun x hx => hlt0 x (by simp [hx])
  obtain ⟨A0, c0, rows0, rfl, hlc0, hcm0, hrow0, hseg0, hz0, hdat0⟩ := Le.open_rows0 8 No.leafs Try.underlying34 (by kernel_rfl) (by kernel_rfl) (by kernel_rfl) (hval 0 34 v0 rfl rfl) h0 k0
  obtain ⟨l0, hll0, hls0⟩ := No.nodes_of hrow0
  rw [hls0] at hseg0
  rw [← hll0] at hlc0 hW' hdat0 ⊢
  have hreach0 : l0.length ≤ 879609302220 := by
    obtain ⟨es, sp, ⟨hd, he1, he2⟩ | ⟨hd, he1, he2⟩⟩ := hdat0
    · have h := sized_slice hsz (j := 0) (t := 34) (e := 54) rfl (by rw [hd]; rfl) Try.underlying34
      rw [No.bytes_node] at h
      simp only [reachBytes] at h
      omega
    · rw [he1] at hll0
      simp at hll0
      simp [hll0]
  obtain ⟨a1, rfl, rfl, rfl, w1⟩ := open_int Try.underlying3 (hval 1 3 v1 rfl rfl) h1
  obtain ⟨a2, rfl, rfl, rfl, w2⟩ := open_int Try.underlying3 (hval 2 3 v2 rfl rfl) h2
  clear hA0 hval0
  refine (Pk.hung_walk A0 l0 c0 a1 a2 W (by omega) hlc0 hz0 hseg0).mono fun e W' ⟨he, hb⟩ => ?_
  subst he
  exact ⟨_, rfl, Li.law_post laidOut rfl hW' (by kernel_rfl) rfl rfl rfl rfl Try.underlying4 hb⟩

theorem over : Rows.packHungRow.holds Try.pinned (OpenSpec.ofChange Rows.packHungSpec) :=
  OpenClaim.holds_of_wide 8 Try.f8 rfl rfl rfl rfl rfl rfl rfl ⟨rfl, rfl, rfl, rfl, rfl⟩ rfl rfl rfl rfl rfl (by kernel_rfl) Try.func8 (by kernel_rfl)
    (of_decide_eq_true (by kernel_rfl)) (by unfold Func.isWrapper; first | (rw [if_pos (by decide +kernel)]; kernel_rfl) | (rw [if_neg (by decide +kernel)]; exact ⟨rfl, rfl⟩))
    (fun os started H enc _ => lifted os started H enc)

theorem proved : Rows.PackHungSaid := over
#print axioms proved
end Go.Proofs.Ytoboecenlangmaa.PackHung
end
