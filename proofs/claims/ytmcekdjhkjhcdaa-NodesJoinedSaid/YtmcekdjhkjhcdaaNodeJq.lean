import Derived.Test.YtmcekdjhkjhcdaaNodeJp
import Derived.Test.YtmcekdjhkjhcdaaNx
/- NodesJoined's walk, where both are lists. Conditions: those that each theorem names. -/
namespace Go.Proofs.Ytmcekdjhkjhcdaa.No
open Go.ChangeShapes Go.WideShapes Go.ChangeAt Go.RowKit
open Me Np
set_option linter.unusedVariables false
set_option linter.unusedSimpArgs false

theorem wrap64_is (n : Int) : IntKind.i64.wrap n = wrap64 n := by first | rfl | (rw [IntKind.wrap_i64]; rfl) | (rw [IntKind.wrap_i64]; unfold wrap64; omega)
theorem four_of {l : List Int} (h : l.length = 4) : ∃ a b c d, l = [a, b, c, d] := by
  match l, h with
  | [a, b, c, d], _ => exact ⟨a, b, c, d, rfl⟩
/-- Totals: what they come to, or that they are too great. -/
theorem tot_case (A : Option Addr) (ns : List Nd) (c : Nat) (xs : List Nat) (down : Bool) (w : World) (hc : chk ns = 0) (hcap : ns.length ≤ c) (hseg : ∀ w1, Below w.heap.size w w1 → Seg w1 w1.heap.size A (ns.flatMap ncs)) (hx : Its xs ns 0) :
    ∃ (T : Tot) (e : Int), (∀ w1, Below w.heap.size w w1 → Calls Try.prog 20 #[.slice A ns.length c, .bool down] w1 fun x w' => x = .returned (.tuple #[.agg (tc T), .int .i64 e]) ∧ Below w1.heap.size w1 w') ∧
      (Try.prog.info? 37).map (·.size) = some (tc T).size ∧ (tc T).size = (tc tz).size ∧ T.st.length = 4 ∧ T.sh.length = 4 ∧ ((e = 0 ∧ T = totD ns down xs) ∨ e = 20) := by
  have h4 := totR_len ns down xs
  have hsz : (tc (totR ns down xs)).size = 9 := tc_size h4.1 h4.2
  refine ⟨totR ns down xs, if dimB (totD ns down xs).nat = true then 0 else 20, fun w1 hb => totals_any A ns c xs down w1 hc hcap (hseg w1 hb) hx, by rw [hsz]; exact tot_info, by rw [hsz]; rfl, h4.1, h4.2, ?_⟩
  unfold totR
  split
  · exact .inl ⟨rfl, rfl⟩
  · exact .inr rfl
set_option maxHeartbeats 4000000 in
set_option maxRecDepth 100000 in
theorem joined_ok (A B : Option Addr) (a b : List Nd) (c d : Nat) (down : Bool) (w : World) (hca : a.length ≤ c) (hcb : b.length ≤ d) (hA : A = none → c = 0) (hB : B = none → d = 0) (hsa : Seg w w.heap.size A (a.flatMap ncs)) (hsb : Seg w w.heap.size B (b.flatMap ncs)) (h1 : chk a = 0) (h2 : chk b = 0) (hl : a.length + b.length ≤ 2000) :
    Calls Try.prog 4 #[.slice A a.length c, .slice B b.length d, .bool down] w fun e w' => e = .returned (.bool true) ∧ Below w.heap.size w w' := by
  have HC := Lib.hid (check_any A a c w (by omega) hsa)
  have HD := Lib.hid fun w1 (h : Below w.heap.size w w1) => check_any B b d w1 (by omega) (Seg.belowW hsb h)
  rw [h1] at HC
  rw [h2] at HD
  have HSA := Lib.hid fun w1 (h : Below w.heap.size w w1) => Seg.belowW hsa h
  have HSB := Lib.hid fun w1 (h : Below w.heap.size w w1) => Seg.belowW hsb h
  have H1 := Lib.hid h1
  have H2 := Lib.hid h2
  have hA := Lib.hid hA
  have hB := Lib.hid hB
  have e2 : IntKind.i64.wrap ((a.length : Int) + b.length) = a.length + b.length := IntWalk.i64_in _ (by omega)
  have h3 : (a.length : Int) + b.length ≤ 2000 := by omega
  clear hsa hsb h1 h2
  generalize hla : a.length = la at *
  generalize hlb : b.length = lb at *
  have HLA := Lib.hid hla
  have HLB := Lib.hid hlb
  clear hla hlb
  go_enter Try.func4, Try.ntmps4
  go_wp2_with fail
  refine HC.out.mono ?_
  rintro e w1 ⟨rfl, hb1⟩
  go_wp2_with (go_at_call 15; refine (num_any _ _).mono ?_; rintro e w' ⟨rfl, rfl⟩)
  refine (HD.out _ hb1).mono ?_
  rintro e w2 ⟨rfl, hb2⟩
  have hb12 := andThen hb1 hb2
  go_wp2_with (go_at_call 15; refine (num_any _ _).mono ?_; rintro e w' ⟨rfl, rfl⟩)
  refine (knows_any _).mono ?_
  rintro e w3 ⟨rfl, hb3⟩
  have hb13 := andThen hb12 hb3
  have HB13 := Lib.hid hb13
  clear hb1 hb2 hb3 hb12 hb13 HC HD
  have HA0 := Lib.hid (by simpa using World.ownsRow_made w3 #[] 0 (e := 31) (size := 19) (Nat.le_refl _) (by simp [maxLen]) (by simp) : (w3.alloc (.cells #[] 31)).ownsRow w3.heap.size 31 19 (.slice (some ⟨w3.heap.size, 0, none⟩) 0 0) 0 [])
  have HLW := Lib.hid (andAlloc HB13.out (.cells #[] 31))
  go_wp2_with (first
    | (at_builtin; refine wpList_append_seg rfl (.tmp 44) (.tmp 45) rfl w3.heap.size ?_ _ 0 [] rfl HA0.out _ A c la a rfl HLA.out.symm (HSA.out _ HLW.out) hA.out ?_ ?_; simp; (rw [HLA.out]; omega); intro v1 W1 hown1 hg1; have hlw1 : Below w.heap.size w W1 := below_grown (Nat.le_refl _) HLW.out hg1 (fun g hg => by have hh := HB13.out.size; have hg' : some w3.heap.size = some g := hg; injection hg' with hg'; omega))
    | (at_builtin; refine wpList_append_seg rfl (.tmp 46) (.tmp 47) rfl w3.heap.size ?_ _ _ _ rfl hown1 _ B d lb b rfl HLB.out.symm (HSB.out _ hlw1) hB.out ?_ ?_; (have hh := hg1.size; simp at hh; omega); (rw [HLA.out, HLB.out]; omega); intro v2 W2 hown2 hg2; have hlw2 : Below w.heap.size w W2 := below_grown (Nat.le_refl _) hlw1 hg2 (fun g hg => by have h1 := (hown1.lt g hg).1; have h2 := HB13.out.size; omega)))
  obtain ⟨A2, c2, rfl, hc2, _, hs2⟩ := Seg.of_own hown2
  have hseg2 : Seg W2 W2.heap.size A2 ((a ++ b).flatMap ncs) := by simpa [List.flatMap_append] using hs2
  have hlen2 : a.length + b.length = (a ++ b).length := by simp
  obtain ⟨xs, hx⟩ := its_of_chk H1.out
  obtain ⟨ys, hy⟩ := its_of_chk H2.out
  have HX := Lib.hid hx
  have HY := Lib.hid hy
  have HJ := Lib.hid (chk_join H1.out H2.out (by rw [HLA.out, HLB.out]; omega))
  have HZ := Lib.hid (its_join0 hx hy)
  have HS2 := Lib.hid hseg2
  have HL2 := Lib.hid hlen2
  have HC2 := Lib.hid (show a.length + b.length ≤ c2 by omega)
  have HLW2 := Lib.hid hlw2
  clear hx hy hseg2 hlen2 hs2 hc2 hown1 hown2 hg1 hg2 hlw1 hlw2 HLW HA0
  have HK1 := Lib.hid fun w1 (h : Below w.heap.size w w1) => count_ok A a c xs w1 (HSA.out w1 h) H1.out HX.out
  have HK2 := Lib.hid fun w1 (h : Below w.heap.size w w1) => count_ok B b d ys w1 (HSB.out w1 h) H2.out HY.out
  simp only [HLA.out] at HK1
  simp only [HLB.out] at HK2
  refine (HK1.out W2 HLW2.out).mono ?_
  rintro e w4 ⟨rfl, hb4⟩
  have hl4 := andThen HLW2.out hb4
  go_wp2_with fail
  refine (HK2.out w4 hl4).mono ?_
  rintro e w5 ⟨rfl, hb5⟩
  have hl5 := andThen hl4 hb5
  go_wp2_with fail
  have hS5 := Seg.belowW HS2.out (andThen hb4 hb5)
  have hk3 := count_ok A2 (a ++ b) c2 _ w5 hS5 HJ.out HZ.out
  rw [← HL2.out, List.length_append, List.length_map, Int.natCast_add] at hk3
  refine hk3.mono ?_
  rintro e w6 ⟨rfl, hb6⟩
  have hb26 := andThen (andThen hb4 hb5) hb6
  have hl6 := andThen hl5 hb6
  have hxl : xs.length ≤ 2000 := by have h1 := HX.out.len; have h2 := HLA.out; omega
  have hyl : ys.length ≤ 2000 := by have h1 := HY.out.len; have h2 := HLB.out; omega
  have e3 : IntKind.i64.wrap ((xs.length : Int) + (ys.length : Int)) = (xs.length : Int) + (ys.length : Int) := IntWalk.i64_in _ (by omega)
  have HCJ := Lib.hid (check_any A2 (a ++ b) c2 w6 (by rw [← HL2.out, HLA.out, HLB.out]; omega) (Seg.belowW HS2.out hb26))
  rw [HJ.out, ← HL2.out] at HCJ
  go_wp2_with (go_at_call 15; refine (num_any _ _).mono ?_; rintro e w' ⟨rfl, rfl⟩)
  refine HCJ.out.mono ?_
  rintro e w7 ⟨rfl, hb7⟩
  have hb27 := andThen hb26 hb7
  have HL7 := Lib.hid (andThen hl6 hb7)
  obtain ⟨T1, e1, t1, t1i, t1s, t14, t15, t1e⟩ := tot_case A a c xs down w H1.out (by rw [HLA.out]; exact hca) HSA.out HX.out
  obtain ⟨T2, e2, t2, t2i, t2s, t24, t25, t2e⟩ := tot_case B b d ys down w H2.out (by rw [HLB.out]; exact hcb) HSB.out HY.out
  obtain ⟨T3, e3', t3, t3i, t3s, t34, t35, t3e⟩ := tot_case A2 (a ++ b) c2 _ down W2 HJ.out (by rw [← HL2.out]; exact HC2.out) (fun w1 hb => Seg.belowW HS2.out hb) HZ.out
  simp only [HLA.out] at t1
  simp only [HLB.out] at t2
  simp only [← HL2.out] at t3
  have HT1 := Lib.hid t1
  have HT2 := Lib.hid t2
  have HT3 := Lib.hid t3
  have H1i := Lib.hid t1i
  have H2i := Lib.hid t2i
  have H3i := Lib.hid t3i
  have H1s := Lib.hid t1s
  have H2s := Lib.hid t2s
  have H3s := Lib.hid t3s
  have H14 := Lib.hid t14
  have H15 := Lib.hid t15
  have H24 := Lib.hid t24
  have H25 := Lib.hid t25
  have H34 := Lib.hid t34
  have H35 := Lib.hid t35
  have H1E := Lib.hid t1e
  have H2E := Lib.hid t2e
  have H3E := Lib.hid t3e
  have HB27 := Lib.hid hb27
  clear t1 t2 t3 t1i t2i t3i t1s t2s t3s t14 t15 t24 t25 t34 t35 t1e t2e t3e hb4 hl4 hb5 hl5 hS5 hk3 hb6 hb26 hl6 HCJ hb7 hb27 HK1 HK2 hA hB
  go_wp2_with (go_at_call 15; refine (num_any _ _).mono ?_; rintro e w' ⟨rfl, rfl⟩)
  refine (HT1.out _ HL7.out).mono ?_
  rintro e w8 ⟨rfl, hb8⟩
  have hb28 := andThen HB27.out hb8
  have HL8 := Lib.hid (andThen HL7.out hb8)
  go_wp2_with (refine wpList_store_row (o := ⟨none, .store _ (.tmp 14) _, _, _, _, _⟩) rfl 37 _ _ rfl w8.heap.size (tc T1) rfl rfl 37 (tc tz) (Blk.new' rfl) H1i.out (by rw [H1s.out]) (tc_one _) ?_)
  have B1 : Blk (w8.alloc (.cells (tc T1) 37)) w8.heap.size 37 (tc T1) := Blk.new' rfl
  have HL9 := Lib.hid (andAlloc HL8.out (.cells (tc T1) 37))
  have hb29 := andAlloc hb28 (.cells (tc T1) 37)
  generalize w8.alloc (.cells (tc T1) 37) = w9 at B1 HL9 hb29 ⊢
  generalize w8.heap.size = g1 at *
  refine (HT2.out _ HL9.out).mono ?_
  rintro e w10 ⟨rfl, hb10⟩
  have hb210 := andThen hb29 hb10
  have HL10 := Lib.hid (andThen HL9.out hb10)
  have B1' := B1.below hb10 B1.lt
  clear hb10 hb29 HL9 B1 hb8 hb28 HL8 HL7 HB27
  go_wp2_with (refine wpList_store_row (o := ⟨none, .store _ (.tmp 16) _, _, _, _, _⟩) rfl 37 _ _ rfl w10.heap.size (tc T2) rfl rfl 37 (tc tz) (Blk.new' rfl) H2i.out (by rw [H2s.out]) (tc_one _) ?_)
  have B2 : Blk (w10.alloc (.cells (tc T2) 37)) w10.heap.size 37 (tc T2) := Blk.new' rfl
  have B1 := B1'.alloc (.cells (tc T2) 37)
  have HL11 := Lib.hid (andAlloc HL10.out (.cells (tc T2) 37))
  have hb211 := andAlloc hb210 (.cells (tc T2) 37)
  clear B1'
  generalize w10.alloc (.cells (tc T2) 37) = w11 at B1 B2 HL11 hb211 ⊢
  generalize w10.heap.size = g2 at *
  refine (HT3.out _ hb211).mono ?_
  rintro e w12 ⟨rfl, hb12⟩
  have HL12 := Lib.hid (andThen HL11.out hb12)
  have B1' := B1.below hb12 B1.lt
  have B2' := B2.below hb12 B2.lt
  clear hb12 hb210 hb211 HL10 HL11 B1 B2
  go_wp2_with (refine wpList_store_row (o := ⟨none, .store _ (.tmp 18) _, _, _, _, _⟩) rfl 37 _ _ rfl w12.heap.size (tc T3) rfl rfl 37 (tc tz) (Blk.new' rfl) H3i.out (by rw [H3s.out]) (tc_one _) ?_)
  have B3 : Blk (w12.alloc (.cells (tc T3) 37)) w12.heap.size 37 (tc T3) := Blk.new' rfl
  have B1 := B1'.alloc (.cells (tc T3) 37)
  have B2 := B2'.alloc (.cells (tc T3) 37)
  have HL13 := Lib.hid (andAlloc HL12.out (.cells (tc T3) 37))
  clear B1' B2'
  generalize w12.alloc (.cells (tc T3) 37) = w13 at B1 B2 B3 HL13 ⊢
  generalize w12.heap.size = g3 at *
  clear HT1 HT2 HT3 HL12 H1i H2i H3i H1s H2s H3s
  rcases H1E.out with ⟨rfl, hT1⟩ | rfl
  rotate_left
  · go_wp2_with (go_at_call 15; refine (num_any _ _).mono ?_; rintro e w' ⟨rfl, rfl⟩)
    go_ret
    exact ⟨ret_bool (by simp), HL13.out⟩
  rcases H2E.out with ⟨rfl, hT2⟩ | rfl
  rotate_left
  · go_wp2_with (go_at_call 15; refine (num_any _ _).mono ?_; rintro e w' ⟨rfl, rfl⟩)
    go_ret
    exact ⟨ret_bool (by simp), HL13.out⟩
  rcases H3E.out with ⟨rfl, hT3⟩ | rfl
  rotate_left
  · go_wp2_with (go_at_call 15; refine (num_any _ _).mono ?_; rintro e w' ⟨rfl, rfl⟩)
    go_ret
    exact ⟨ret_bool (by simp), HL13.out⟩
  have J : J3 T1 T2 T3 := by rw [hT1, hT2, hT3]; exact j3_of down H1.out H2.out HX.out HY.out
  have h14 := H14.out
  have h15 := H15.out
  have h24 := H24.out
  have h25 := H25.out
  have h34 := H34.out
  have h35 := H35.out
  clear H14 H15 H24 H25 H34 H35 H1E H2E H3E hT1 hT2 hT3 HX HY HZ HJ HS2 HL2 HC2 HSA HSB H1 H2 HLA HLB e3 hxl hyl
  generalize a.length + b.length = lab at *
  generalize (xs.length : Int) = nx at *
  generalize (ys.length : Int) = ny at *
  obtain ⟨pn, pS, pH⟩ := T1
  simp only at h14 h15
  obtain ⟨ps0, ps1, ps2, ps3, rfl⟩ := four_of h14
  obtain ⟨ph0, ph1, ph2, ph3, rfl⟩ := four_of h15
  obtain ⟨qn, qS, qH⟩ := T2
  simp only at h24 h25
  obtain ⟨qs0, qs1, qs2, qs3, rfl⟩ := four_of h24
  obtain ⟨qh0, qh1, qh2, qh3, rfl⟩ := four_of h25
  obtain ⟨vn, vS, vH⟩ := T3
  simp only at h34 h35
  obtain ⟨vs0, vs1, vs2, vs3, rfl⟩ := four_of h34
  obtain ⟨vh0, vh1, vh2, vh3, rfl⟩ := four_of h35
  have c10 : w13.cell? ⟨g1, 0, none⟩ = some (.int .i64 pn) := B1.cell 0
  have c11 : w13.cell? ⟨g1, 1, none⟩ = some (.int .i64 ps0) := B1.cell 1
  have c12 : w13.cell? ⟨g1, 2, none⟩ = some (.int .i64 ps1) := B1.cell 2
  have c13 : w13.cell? ⟨g1, 3, none⟩ = some (.int .i64 ps2) := B1.cell 3
  have c14 : w13.cell? ⟨g1, 4, none⟩ = some (.int .i64 ps3) := B1.cell 4
  have c15 : w13.cell? ⟨g1, 5, none⟩ = some (.int .i64 ph0) := B1.cell 5
  have c16 : w13.cell? ⟨g1, 6, none⟩ = some (.int .i64 ph1) := B1.cell 6
  have c17 : w13.cell? ⟨g1, 7, none⟩ = some (.int .i64 ph2) := B1.cell 7
  have c18 : w13.cell? ⟨g1, 8, none⟩ = some (.int .i64 ph3) := B1.cell 8
  have c20 : w13.cell? ⟨g2, 0, none⟩ = some (.int .i64 qn) := B2.cell 0
  have c21 : w13.cell? ⟨g2, 1, none⟩ = some (.int .i64 qs0) := B2.cell 1
  have c22 : w13.cell? ⟨g2, 2, none⟩ = some (.int .i64 qs1) := B2.cell 2
  have c23 : w13.cell? ⟨g2, 3, none⟩ = some (.int .i64 qs2) := B2.cell 3
  have c24 : w13.cell? ⟨g2, 4, none⟩ = some (.int .i64 qs3) := B2.cell 4
  have c25 : w13.cell? ⟨g2, 5, none⟩ = some (.int .i64 qh0) := B2.cell 5
  have c26 : w13.cell? ⟨g2, 6, none⟩ = some (.int .i64 qh1) := B2.cell 6
  have c27 : w13.cell? ⟨g2, 7, none⟩ = some (.int .i64 qh2) := B2.cell 7
  have c28 : w13.cell? ⟨g2, 8, none⟩ = some (.int .i64 qh3) := B2.cell 8
  have c30 : w13.cell? ⟨g3, 0, none⟩ = some (.int .i64 vn) := B3.cell 0
  have c31 : w13.cell? ⟨g3, 1, none⟩ = some (.int .i64 vs0) := B3.cell 1
  have c32 : w13.cell? ⟨g3, 2, none⟩ = some (.int .i64 vs1) := B3.cell 2
  have c33 : w13.cell? ⟨g3, 3, none⟩ = some (.int .i64 vs2) := B3.cell 3
  have c34 : w13.cell? ⟨g3, 4, none⟩ = some (.int .i64 vs3) := B3.cell 4
  have c35 : w13.cell? ⟨g3, 5, none⟩ = some (.int .i64 vh0) := B3.cell 5
  have c36 : w13.cell? ⟨g3, 6, none⟩ = some (.int .i64 vh1) := B3.cell 6
  have c37 : w13.cell? ⟨g3, 7, none⟩ = some (.int .i64 vh2) := B3.cell 7
  have c38 : w13.cell? ⟨g3, 8, none⟩ = some (.int .i64 vh3) := B3.cell 8
  have ts0 : (vs0 != IntKind.i64.wrap (ps0 + qs0)) = false := by have := J.st 0; simp at this; simp [this]
  have ts1 : (vs1 != IntKind.i64.wrap (ps1 + qs1)) = false := by have := J.st 1; simp at this; simp [this]
  have ts2 : (vs2 != IntKind.i64.wrap (ps2 + qs2)) = false := by have := J.st 2; simp at this; simp [this]
  have ts3 : (vs3 != IntKind.i64.wrap (ps3 + qs3)) = false := by have := J.st 3; simp at this; simp [this]
  have th0 : (vh0 != IntKind.i64.wrap (ph0 + qh0)) = false := by have := J.sh 0; simp at this; simp [this]
  have th1 : (vh1 != IntKind.i64.wrap (ph1 + qh1)) = false := by have := J.sh 1; simp at this; simp [this]
  have th2 : (vh2 != IntKind.i64.wrap (ph2 + qh2)) = false := by have := J.sh 2; simp at this; simp [this]
  have th3 : (vh3 != IntKind.i64.wrap (ph3 + qh3)) = false := by have := J.sh 3; simp at this; simp [this]
  have tn : (vn == IntKind.i64.wrap (pn + qn)) = true := by have := J.nat; simp at this; simp [this]
  clear J B1 B2 B3 h14 h15 h24 h25 h34 h35
  go_wp2_with (go_at_call 15; refine (num_any _ _).mono ?_; rintro e w' ⟨rfl, rfl⟩)
  refine wp_loop_rounds 5 ?_
  rw [rounds_succ]
  go_wp2_with fail
  go_quiet (fail)
  go_wp2_with fail
  rw [rounds_succ]
  go_wp2_with fail
  go_quiet (fail)
  go_wp2_with fail
  rw [rounds_succ]
  go_wp2_with fail
  go_quiet (fail)
  go_wp2_with fail
  rw [rounds_succ]
  go_wp2_with fail
  go_quiet (fail)
  go_wp2_with fail
  rw [rounds_succ]
  go_wp2_with fail
  go_ret
  exact ⟨ret_bool (by rw [← wrap64_is]; exact tn), by first | exact HL13.out | exact below_drewN HL13.out _⟩
end Go.Proofs.Ytmcekdjhkjhcdaa.No
