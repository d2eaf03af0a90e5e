import Derived.Test.YtmcekdjhkjhcdaaHyf0
/- The contract of Except. Conditions: those that each theorem names. -/
namespace Go.Proofs.Ytmcekdjhkjhcdaa.Hy
open Go.ChangeShapes Go.WideShapes Go.ChangeAt Go.RowKit
open Me Hp
set_option linter.unusedVariables false
set_option linter.unusedSimpArgs false

set_option maxHeartbeats 4000000 in
set_option maxRecDepth 100000 in
theorem except_any (B p : Nat) (P : List Pt) (X : List Xc) (v xv : Value) (s : ByteArray) (w : World) (hs : s.size ≤ 1048576) (h : HyAt w B p P v xv) (hx : XAt w B X xv) (hB : B ≤ w.heap.size) (hins : ∀ x, par s.data.toList = some x → xhas X x.1 = false → InsP X x) :
    Calls Try.prog 48 #[.pointer (some ⟨p, 0, none⟩), .string s] w (exceptP X B p P v xv s w) := by
  have HG := Lib.hid (good_any B p P v xv w h)
  have H := Lib.hid (And.intro h (And.intro hx hB))
  have HINS := Lib.hid hins
  clear h hx hB hins
  go_enter Try.func48, Try.ntmps48
  go_wp2_with (go_at_call 61; refine HG.out.mono ?_; rintro e w' ⟨rfl, rfl⟩)
  obtain ⟨w, rfl⟩ : ∃ w0, w0 = w' := ⟨_, rfl⟩
  go_loopw [16] (fun v16 wr => ∃ (i : Nat) (st : Xc) (u : Value), i ≤ s.size ∧ v16 = .int .i64 (i : Int) ∧ EInv s w i st u wr) (fun v16 _ => s.size - (intOf v16).toNat)
  case atStart => exact ⟨0, ([], []), .slice none 0 0, by omega, rfl, rfl, Blk.new w _ _, World.ownsRow_nil _ _ _ _, andAlloc (Below.refl _ _) _⟩
  case round =>
    obtain ⟨i, st, u, hi, rfl, hI⟩ := hrel
    obtain ⟨hwl, hwl2⟩ := hI.len
    have hx0 := hI.x.cell 0
    have hx1 := hI.x.cell 1
    have hfx0 := hI.x.free 0
    have hfx1 := hI.x.free 1
    have HI := Lib.hid hI
    clear hI
    by_cases hlt : i < s.size
    · have HG1 := Lib.hid (get_list s i hlt)
      by_cases h45 : (s[i].toNat : Int) = 45
      · have hc45 : s[i] = 45 := UInt8.toNat_inj.1 (by simpa using (by omega : s[i].toNat = 45))
        have HG45 := Lib.hid (show s.data.toList[i]? = some 45 by rw [← hc45]; exact HG1.out)
        clear hc45
        by_cases he : st.1 = []
        · have HST := Lib.hid (HI.out.stop HG45.out (by unfold badH; rw [he]; rfl))
          have hse : S st.1 = ⟨#[]⟩ := by rw [he]; rfl
          rw [hse] at hx0
          clear hse he
          generalize st.2.length = N at hwl2
          obtain ⟨A, c, hu, _, _, _⟩ := own_sl HI.out.own
          rw [hu] at hx1
          clear hu
          go_wp2_with fail
          go_quiet (fail)
          go_wp2_with fail
          go_ret
          exact exceptP_no H.out.1 H.out.2.1 H.out.2.2 (below_drewN HI.out.low _) HST.out
        · have hzl : (S st.1).size ≤ 2097152 := by rw [S_size]; omega
          have hne : (S st.1).toList ≠ [] := by rw [ByteArray.toList_eq]; exact he
          have HSZ := Lib.hid (show (S st.1).size = st.1.length from rfl)
          have HE := Lib.hid he
          generalize hZ : S st.1 = Z at hx0 hzl HSZ hne
          have HZ := Lib.hid hZ
          have hz1 : (Z.toList == []) = false := by rw [beq_eq_false_iff_ne]; exact hne
          have hz2 : Z.toList.isEmpty = false := by rw [List.isEmpty_eq_false_iff]; exact hne
          clear hZ he
          cases hN : st.2.length with
          | zero =>
            have hlen : ∀ w, (Builtin.len_ #[42] 3 #[u]).run Try.prog w = .ok (.int .i64 0) w := fun w => by
              obtain ⟨A, c, hu, _⟩ := own_sl HI.out.own
              rw [hu, hN]
              simp [go_sem]
            have HB := Lib.hid (show badH st = false by
              unfold badH
              rw [List.eq_nil_of_length_eq_zero hN]
              simp [HE.out])
            clear hN
            go_wp2_with fail
            go_quiet (fail)
            have HJ := Lib.hid (HI.out.below (below_drewN (Below.refl _ _) nq))
            clear HI
            have HI := Lib.hid HJ.out
            have HO := Lib.hid HI.out.own
            clear HJ
            go_wp2_with (at_builtin; refine wpList_push rfl _ _ 42 rfl w.heap.size 3 _ 1 8 Try.underlying42 info_int rfl (by decide) (by decide) _ _ _ rfl HO.out HI.out.low.size _ rfl rfl rfl (by simp) (by omega) ?_; intro v7 w7 hown7 hg7 hn7; have HD7 := Lib.hid (HI.out.hyphen HG45.out HB.out (by rw [HSZ.out]) hown7 hg7); have hb7 := HI.out.xG hg7; have hp7 := hb7.cell 1; have hf7 := hb7.free 1; obtain ⟨g7, c7, rfl⟩ := own_succ hown7; clear hown7 hg7 hn7 hb7)
            go_roundw
            case rel => exact ⟨i + 1, _, _, by omega, by go_num, HD7.out⟩
            case measure => simp [intOf]; omega
          | succ m =>
            have ho := HI.out.own
            rw [hN] at ho
            obtain ⟨g, c, hu⟩ := own_succ ho
            obtain ⟨y, hy⟩ := get_some (l := st.2) (k := m) (by omega)
            rw [hu] at ho hx1
            have HO := Lib.hid (show wr.ownsRow w.heap.size 3 1 (.slice (some ⟨g, 0, none⟩) (m + 1) c) st.2.length (st.2.map iv) by rw [hN]; exact ho)
            have hcy : wr.cell? ⟨g, m, none⟩ = some (.int .i64 y) := (ho.cellAt m (by omega)).trans (by rw [List.getElem?_map, hy]; rfl)
            have HLY := Lib.hid (last_get hN hy)
            have HU := Lib.hid hu
            have hbd := (pfine rb rb_ne _ _ HI.out.run).bd y (List.mem_of_getElem? hy)
            rw [← HSZ.out] at hbd
            have hmi : m + 1 ≤ i := by omega
            have HN := Lib.hid hN
            clear ho hu hy hN
            by_cases hyl : y = (Z.size : Int)
            · have HST := Lib.hid (HI.out.stop HG45.out (by unfold badH; rw [HLY.out, hyl, HSZ.out]; simp))
              have hyb : (y == (Z.size : Int)) = true := by rw [beq_iff_eq]; exact hyl
              clear hyl
              go_wp2_with fail
              go_quiet (fail)
              go_wp2_with fail
              go_ret
              exact exceptP_no H.out.1 H.out.2.1 H.out.2.2 (below_drewN HI.out.low _) HST.out
            · have hyb : (y == (Z.size : Int)) = false := by rw [beq_eq_false_iff_ne]; exact hyl
              have HB := Lib.hid (show badH st = false by
                unfold badH
                rw [HLY.out, ← HSZ.out]
                simp only [Bool.or_eq_false_iff]
                refine ⟨by simp [HE.out], ?_⟩
                rw [beq_eq_false_iff_ne]
                intro e
                injection e with e
                exact hyl e)
              have HI2 := Lib.hid (show EInv s w i st (.slice (some ⟨g, 0, none⟩) (m + 1) c) wr by rw [← HU.out]; exact HI.out)
              clear hyl HI HO
              go_wp2_with fail
              go_quiet (fail)
              have HI := Lib.hid (HI2.out.below (below_drewN (Below.refl _ _) nq))
              have HO := Lib.hid HI.out.own
              clear HI2
              go_wp2_with (at_builtin; refine wpList_push rfl _ _ 42 rfl w.heap.size 3 _ 1 8 Try.underlying42 info_int rfl (by decide) (by decide) _ _ _ rfl HO.out HI.out.low.size _ rfl rfl rfl (by simp) (by omega) ?_; intro v7 w7 hown7 hg7 hn7; have HD7 := Lib.hid (HI.out.hyphen HG45.out HB.out (by rw [HSZ.out]) hown7 hg7); have hb7 := HI.out.xG hg7; have hp7 := hb7.cell 1; have hf7 := hb7.free 1; obtain ⟨g7, c7, rfl⟩ := own_succ hown7; clear hown7 hg7 hn7 hb7)
              go_roundw
              case rel => exact ⟨i + 1, _, _, by omega, by go_num, HD7.out⟩
              case measure => simp [intOf]; omega
      · have hn45 : s[i] ≠ 45 := fun e => h45 (by rw [e]; rfl)
        have HL := Lib.hid (HI.out.letter HG1.out hn45)
        have hsz1 : (S st.1).size ≤ 2097152 := by rw [S_size]; omega
        have hsz2 : (S (rb s[i])).size ≤ 2 := by rw [S_size]; exact (rb_len _).2
        have hcv : Utf8.encode (wrap32 (s[i].toNat : Int)) = S (rb s[i]) := by
          have hb256 := s[i].toNat_lt
          rw [IntWalk.wrap32_in _ (by omega)]
          exact rb_enc _
        have hcv2 : Utf8.encode (IntKind.i32.wrap (s[i].toNat : Int)) = S (rb s[i]) := by rw [IntWalk.i32_left]; exact hcv
        generalize S (rb s[i]) = T at hcv hcv2 hsz2 HL
        clear hn45 hfx1 hx1
        go_upto_region 8 with fail
        clear HI HG1 h45
        go_region
        go_wp2_with fail
        go_roundw
        case rel => exact ⟨i + 1, _, _, by omega, by go_num, HL.out.below (below_drewN (Below.refl _ _) 1)⟩
        case measure => simp [intOf]; omega
    · obtain rfl : i = s.size := by omega
      have HDN := Lib.hid HI.out.done
      have hzl : (S st.1).size ≤ 2097152 := by rw [S_size]; omega
      have HW := Lib.hid (fun w => word_wide (S st.1) w (by rw [S_size]; omega))
      have HSZ := Lib.hid (show (S st.1).size = st.1.length from rfl)
      cases hw : wordB st.1
      · have HST := Lib.hid (show par s.data.toList = none by rw [HDN.out]; unfold pEnd; rw [if_neg (by rw [hw]; simp)])
        rw [show (S st.1).data.toList = st.1 from rfl, hw] at HW
        clear hw hlt
        have hlen : ∀ w, (Builtin.len_ #[42] 3 #[u]).run Try.prog w = .ok (.int .i64 (st.2.length : Int)) w := fun w => by
          obtain ⟨A, c, hu, _⟩ := own_sl HI.out.own
          rw [hu]
          simp [go_sem]
        generalize S st.1 = Z at hx0 hzl HW
        go_wp2_with fail
        clear hlen
        go_quiet ((go_at_call 62; refine Calls.quiet_of_same (HW.out _)))
        go_wp2_with fail
        go_ret
        exact exceptP_no H.out.1 H.out.2.1 H.out.2.2 (below_drewN HI.out.low _) HST.out
      · rw [show (S st.1).data.toList = st.1 from rfl, hw] at HW
        have HWB := Lib.hid hw
        clear hw hlt
        have hlen : ∀ w, (Builtin.len_ #[42] 3 #[u]).run Try.prog w = .ok (.int .i64 (st.2.length : Int)) w := fun w => by
          obtain ⟨A, c, hu, _⟩ := own_sl HI.out.own
          rw [hu]
          simp [go_sem]
        generalize hZ : S st.1 = Z at hx0 hzl HW HSZ
        have HZ := Lib.hid hZ
        clear hZ
        have hws : IntKind.i64.wrap ((Z.size : Int) + (st.2.length : Int)) = (Z.size : Int) + (st.2.length : Int) := IntWalk.i64_in _ (by omega)
        by_cases hsum : (s.size : Int) = (Z.size : Int) + (st.2.length : Int)
        · have hsb : ((s.size : Int) != (Z.size : Int) + (st.2.length : Int)) = false := by rw [bne_eq_false_iff_eq]; exact hsum
          have HSUM := Lib.hid hsum
          have hlt2 : True := trivial
          clear hsum
          have key : st.2.length = 0 ∨ ∃ m y g c, st.2.length = m + 1 ∧ st.2[m]? = some y ∧ u = .slice (some ⟨g, 0, none⟩) (m + 1) c ∧ wr.cell? ⟨g, m, none⟩ = some (.int .i64 y) := by
            cases hN : st.2.length with
            | zero => exact .inl rfl
            | succ m =>
              have ho := HI.out.own
              rw [hN] at ho
              obtain ⟨g, c, hu⟩ := own_succ ho
              obtain ⟨y, hy⟩ := get_some (l := st.2) (k := m) (by omega)
              rw [hu] at ho
              exact .inr ⟨m, y, g, c, rfl, hy, hu, (ho.cellAt m (by omega)).trans (by rw [List.getElem?_map, hy]; rfl)⟩
          rcases key with hN | ⟨m, y, g, c, hN, hy, hu, hcy⟩
          · have HPAR := Lib.hid (show par s.data.toList = some st by
              rw [HDN.out]
              unfold pEnd
              rw [if_pos ⟨HWB.out, by have := HSUM.out; have := HSZ.out; omega, by rw [List.eq_nil_of_length_eq_zero hN]; simp⟩])
            have hlen0 : ∀ w, (Builtin.len_ #[42] 3 #[u]).run Try.prog w = .ok (.int .i64 0) w := fun w => by rw [hlen w, hN]; rfl
            have hsb0 : ((s.size : Int) != (Z.size : Int)) = false := by rw [bne_eq_false_iff_eq]; have := HSUM.out; omega
            clear hN hlen hsb hws
            go_wp2_with fail
            clear hlen0
            go_quiet ((go_at_call 62; refine Calls.quiet_of_same (HW.out _)))
            have hws : True := trivial
            have hsb : True := trivial
            have hlen : True := trivial
            clear hsb0
            have HJ := Lib.hid (HI.out.below (below_drewN (Below.refl _ _) nq))
            clear HI
            generalize wr.drewN nq = W1 at HJ ⊢
            have hj0 : W1.cell? ⟨w.heap.size, 0, none⟩ = some (.string Z) := by rw [← HZ.out]; exact HJ.out.x.cell 0
            have hj1 : W1.cell? ⟨w.heap.size, 1, none⟩ = some u := HJ.out.x.cell 1
            have HF := Lib.hid (find_any B p P X v xv Z W1 (H.out.1.below HJ.out.low) (H.out.2.1.below HJ.out.low))
            rw [show Z.data.toList = st.1 by rw [← HZ.out]; rfl] at HF
            clear hx0 hx1 hfx0 hfx1 hws hsb
            cases hh : xhas X st.1
            · rw [hh] at HF
              have HH := Lib.hid hh
              clear hh
              have hlx : ∀ w, (Builtin.len_ #[104] 3 #[xv]).run Try.prog w = .ok (.int .i64 (X.length : Int)) w := fun w => by
                obtain ⟨A, c, hu, _⟩ := H.out.2.1.slice
                rw [hu]
                simp [go_sem]
              by_cases hfull : X.length = 1000
              · have hfb : ((X.length : Int) == 1000) = true := by rw [beq_iff_eq]; omega
                have HFL := Lib.hid hfull
                clear hfull
                go_wp2_with (go_at_call 66; refine HF.out.mono ?_; rintro e w3 ⟨rfl, hb3⟩; have hb03 := andThen HJ.out.low hb3; have hp3 := (H.out.1.below hb03).tr.blk.cell 2)
                go_ret
                exact exceptP_full H.out.1 H.out.2.1 H.out.2.2 hb03 HPAR.out HH.out HFL.out
              · have hfb : ((X.length : Int) == 1000) = false := by rw [beq_eq_false_iff_ne]; omega
                have HFL := Lib.hid hfull
                clear hfull
                go_upto_region 18 with (go_at_call 66; refine HF.out.mono ?_; rintro e w3 ⟨rfl, hb3⟩; have hb03 := andThen HJ.out.low hb3; have hp3 := (H.out.1.below hb03).tr.blk.cell 2)
                have HJ3 := Lib.hid (HJ.out.below hb3)
                have H3 := Lib.hid (And.intro (H.out.1.below hb03) (And.intro (H.out.2.1.below hb03) hb03))
                have hk0 : w3.cell? ⟨w.heap.size, 0, none⟩ = some (.string Z) := by rw [← HZ.out]; exact HJ3.out.x.cell 0
                have hk1 : w3.cell? ⟨w.heap.size, 1, none⟩ = some u := HJ3.out.x.cell 1
                have hINS := HINS.out st HPAR.out HH.out
                have HI9 := Lib.hid hINS
                have hpal := (H3.out.1.tr.blk.alloc (.cells #[.string Z, u] 126)).cell 2; clear hb3 hb03 hINS hj0 hj1 hlx hfb HF HW hlen hzl
                have HCALL := Lib.hid (fun W => ins_call (t := s.data.toList) HI9.out HZ.out HJ3.out H3.out.1 H3.out.2.1 H3.out.2.2 H.out.2.2 HPAR.out HH.out HFL.out W)
                clear HI9
                go_region_with (go_at_call 85; refine (HCALL.out _ ?_ ?_).mono ?_; exact below_drewN (andAlloc (Below.refl _ _) _) 1; exact Blk.new _ _ _; rintro e w5 ⟨xv', rfl, hq1, hq2⟩; obtain ⟨A5, c5, rfl, _⟩ := hq2.1.slice; have hp5 := hq1.tr.blk.cell 2; have hf5 := hq1.tr.blk.free 2; have HQ := Lib.hid (And.intro hq1 hq2); clear hq1 hq2)
                all_goals
                  go_wp2_with fail
                  go_ret
                  exact exceptP_ins HPAR.out HH.out HFL.out (XOut.fin HQ.out.1 HQ.out.2.1 HQ.out.2.2.1 HQ.out.2.2.2)
            · rw [hh] at HF
              have HH := Lib.hid hh
              clear hh
              go_upto_region 20 with (go_at_call 66; refine HF.out.mono ?_; rintro e w3 ⟨rfl, hb3⟩; have hb03 := andThen HJ.out.low hb3; have hp3 := (H.out.1.below hb03).tr.blk.cell 2)
              have HJ3 := Lib.hid (HJ.out.below hb3)
              have H3 := Lib.hid (And.intro (H.out.1.below hb03) (And.intro (H.out.2.1.below hb03) hb03))
              have hk0 : w3.cell? ⟨w.heap.size, 0, none⟩ = some (.string Z) := by rw [← HZ.out]; exact HJ3.out.x.cell 0
              have hk1 : w3.cell? ⟨w.heap.size, 1, none⟩ = some u := HJ3.out.x.cell 1
              clear hb3 hb03 hj0 hj1 HF HW hlen hzl
              obtain ⟨y0, hy0, _⟩ := xhas_at HH.out
              obtain ⟨gx, cx, u0, hxv, hncx, _, hglx, hcx0, hcx1, _⟩ := H3.out.2.1.get hy0
              have hkx := (List.getElem?_eq_some_iff.1 hy0).1
              obtain ⟨usx, _, hownx, _⟩ := H3.out.2.1.row
              rw [hxv] at hp3 hownx
              have hfx0 := hownx.frozenAt (xk X st.1 * 2)
              have hfx1 := hownx.frozenAt (xk X st.1 * 2 + 1)
              generalize hK : xk X st.1 = K at hcx0 hcx1 hkx hfx0 hfx1 ⊢
              have HPO := Lib.hid (put_out (t := s.data.toList) (P := P) (B := B) (p := p) (v := v) (c := cx) (g := gx) HZ.out HJ3.out (hxv ▸ H3.out.1) (hxv ▸ H3.out.2.1) H3.out.2.2 H.out.2.2 HPAR.out HH.out hK)
              have HXV := Lib.hid hxv
              have hfewx : X.length ≤ 1000 := H.out.2.1.ex.few
              have hsz3 := H3.out.2.2.size
              have HSZ3 := Lib.hid hsz3
              clear hxv hownx hy0 hK hsz3 HJ
              obtain ⟨Au, cu, hu, _⟩ := own_sl HJ3.out.own
              rw [hu] at hk1 HPO
              clear hu
              go_region
              go_wp2_with fail
              go_ret
              exact exceptP_put HPAR.out HH.out (HXV.out ▸ HPO.out.drew)
          · have hbd := (pfine rb rb_ne _ _ HI.out.run).bd y (List.mem_of_getElem? hy)
            rw [← HSZ.out] at hbd
            have HLY := Lib.hid (last_get hN hy)
            have HU := Lib.hid hu
            have hws2 : IntKind.i64.wrap ((Z.size : Int) + ((m : Int) + 1)) = (Z.size : Int) + ((m : Int) + 1) := IntWalk.i64_in _ (by omega)
            have hsb2 : ((s.size : Int) != (Z.size : Int) + ((m : Int) + 1)) = false := by rw [bne_eq_false_iff_eq]; have := HSUM.out; omega
            have hmz : m ≤ 1048576 := by omega
            have hgt : decide ((0 : Int) < (m : Int) + 1) = true := decide_eq_true (by omega)
            clear hlen hsb hws
            rw [hu] at hx1
            by_cases hyl : y = (Z.size : Int)
            · have HST := Lib.hid (show par s.data.toList = none by rw [HDN.out]; unfold pEnd; rw [if_neg (fun hh => hh.2.2 (by rw [HLY.out, hyl, HSZ.out]))])
              have hyb : (y == (Z.size : Int)) = true := by rw [beq_iff_eq]; exact hyl
              clear hyl hy hu hN
              go_wp2_with fail
              go_quiet ((go_at_call 62; refine Calls.quiet_of_same (HW.out _)))
              go_wp2_with fail
              go_ret
              exact exceptP_no H.out.1 H.out.2.1 H.out.2.2 (below_drewN HI.out.low _) HST.out
            · have HPAR := Lib.hid (show par s.data.toList = some st by
                rw [HDN.out]
                unfold pEnd
                rw [if_pos ⟨HWB.out, by have := HSUM.out; have := HSZ.out; omega, by rw [HLY.out, ← HSZ.out]; intro e; injection e with e; exact hyl e⟩])
              have hyb : (y == (Z.size : Int)) = false := by rw [beq_eq_false_iff_ne]; exact hyl
              clear hyl hy hu hN
              go_wp2_with fail
              go_quiet ((go_at_call 62; refine Calls.quiet_of_same (HW.out _)))
              clear hyb hcy hws2 hsb2 hgt
              have hws : True := trivial
              have hsb : True := trivial
              have hlen : True := trivial
              rw [← HU.out] at hx1 ⊢
              have HJ := Lib.hid (HI.out.below (below_drewN (Below.refl _ _) nq))
              clear HI
              generalize wr.drewN nq = W1 at HJ ⊢
              have hj0 : W1.cell? ⟨w.heap.size, 0, none⟩ = some (.string Z) := by rw [← HZ.out]; exact HJ.out.x.cell 0
              have hj1 : W1.cell? ⟨w.heap.size, 1, none⟩ = some u := HJ.out.x.cell 1
              have HF := Lib.hid (find_any B p P X v xv Z W1 (H.out.1.below HJ.out.low) (H.out.2.1.below HJ.out.low))
              rw [show Z.data.toList = st.1 by rw [← HZ.out]; rfl] at HF
              clear hx0 hx1 hfx0 hfx1 hws hsb
              cases hh : xhas X st.1
              · rw [hh] at HF
                have HH := Lib.hid hh
                clear hh
                have hlx : ∀ w, (Builtin.len_ #[104] 3 #[xv]).run Try.prog w = .ok (.int .i64 (X.length : Int)) w := fun w => by
                  obtain ⟨A, c, hu, _⟩ := H.out.2.1.slice
                  rw [hu]
                  simp [go_sem]
                by_cases hfull : X.length = 1000
                · have hfb : ((X.length : Int) == 1000) = true := by rw [beq_iff_eq]; omega
                  have HFL := Lib.hid hfull
                  clear hfull
                  go_wp2_with (go_at_call 66; refine HF.out.mono ?_; rintro e w3 ⟨rfl, hb3⟩; have hb03 := andThen HJ.out.low hb3; have hp3 := (H.out.1.below hb03).tr.blk.cell 2)
                  go_ret
                  exact exceptP_full H.out.1 H.out.2.1 H.out.2.2 hb03 HPAR.out HH.out HFL.out
                · have hfb : ((X.length : Int) == 1000) = false := by rw [beq_eq_false_iff_ne]; omega
                  have HFL := Lib.hid hfull
                  clear hfull
                  go_upto_region 18 with (go_at_call 66; refine HF.out.mono ?_; rintro e w3 ⟨rfl, hb3⟩; have hb03 := andThen HJ.out.low hb3; have hp3 := (H.out.1.below hb03).tr.blk.cell 2)
                  have HJ3 := Lib.hid (HJ.out.below hb3)
                  have H3 := Lib.hid (And.intro (H.out.1.below hb03) (And.intro (H.out.2.1.below hb03) hb03))
                  have hk0 : w3.cell? ⟨w.heap.size, 0, none⟩ = some (.string Z) := by rw [← HZ.out]; exact HJ3.out.x.cell 0
                  have hk1 : w3.cell? ⟨w.heap.size, 1, none⟩ = some u := HJ3.out.x.cell 1
                  have hINS := HINS.out st HPAR.out HH.out
                  have HI9 := Lib.hid hINS
                  have hpal := (H3.out.1.tr.blk.alloc (.cells #[.string Z, u] 126)).cell 2; clear hb3 hb03 hINS hj0 hj1 hlx hfb HF HW hlen hzl
                  have HCALL := Lib.hid (fun W => ins_call (t := s.data.toList) HI9.out HZ.out HJ3.out H3.out.1 H3.out.2.1 H3.out.2.2 H.out.2.2 HPAR.out HH.out HFL.out W)
                  clear HI9
                  go_region_with (go_at_call 85; refine (HCALL.out _ ?_ ?_).mono ?_; exact below_drewN (andAlloc (Below.refl _ _) _) 1; exact Blk.new _ _ _; rintro e w5 ⟨xv', rfl, hq1, hq2⟩; obtain ⟨A5, c5, rfl, _⟩ := hq2.1.slice; have hp5 := hq1.tr.blk.cell 2; have hf5 := hq1.tr.blk.free 2; have HQ := Lib.hid (And.intro hq1 hq2); clear hq1 hq2)
                  all_goals
                    go_wp2_with fail
                    go_ret
                    exact exceptP_ins HPAR.out HH.out HFL.out (XOut.fin HQ.out.1 HQ.out.2.1 HQ.out.2.2.1 HQ.out.2.2.2)
              · rw [hh] at HF
                have HH := Lib.hid hh
                clear hh
                go_upto_region 20 with (go_at_call 66; refine HF.out.mono ?_; rintro e w3 ⟨rfl, hb3⟩; have hb03 := andThen HJ.out.low hb3; have hp3 := (H.out.1.below hb03).tr.blk.cell 2)
                have HJ3 := Lib.hid (HJ.out.below hb3)
                have H3 := Lib.hid (And.intro (H.out.1.below hb03) (And.intro (H.out.2.1.below hb03) hb03))
                have hk0 : w3.cell? ⟨w.heap.size, 0, none⟩ = some (.string Z) := by rw [← HZ.out]; exact HJ3.out.x.cell 0
                have hk1 : w3.cell? ⟨w.heap.size, 1, none⟩ = some u := HJ3.out.x.cell 1
                clear hb3 hb03 hj0 hj1 HF HW hlen hzl
                obtain ⟨y0, hy0, _⟩ := xhas_at HH.out
                obtain ⟨gx, cx, u0, hxv, hncx, _, hglx, hcx0, hcx1, _⟩ := H3.out.2.1.get hy0
                have hkx := (List.getElem?_eq_some_iff.1 hy0).1
                obtain ⟨usx, _, hownx, _⟩ := H3.out.2.1.row
                rw [hxv] at hp3 hownx
                have hfx0 := hownx.frozenAt (xk X st.1 * 2)
                have hfx1 := hownx.frozenAt (xk X st.1 * 2 + 1)
                generalize hK : xk X st.1 = K at hcx0 hcx1 hkx hfx0 hfx1 ⊢
                have HPO := Lib.hid (put_out (t := s.data.toList) (P := P) (B := B) (p := p) (v := v) (c := cx) (g := gx) HZ.out HJ3.out (hxv ▸ H3.out.1) (hxv ▸ H3.out.2.1) H3.out.2.2 H.out.2.2 HPAR.out HH.out hK)
                have HXV := Lib.hid hxv
                have hfewx : X.length ≤ 1000 := H.out.2.1.ex.few
                have hsz3 := H3.out.2.2.size
                have HSZ3 := Lib.hid hsz3
                clear hxv hownx hy0 hK hsz3 HJ
                obtain ⟨Au, cu, hu, _⟩ := own_sl HJ3.out.own
                rw [hu] at hk1 HPO
                clear hu
                go_region
                go_wp2_with fail
                go_ret
                exact exceptP_put HPAR.out HH.out (HXV.out ▸ HPO.out.drew)
        · have hsb : ((s.size : Int) != (Z.size : Int) + (st.2.length : Int)) = true := by rw [bne_iff_ne]; exact hsum
          have HST := Lib.hid (show par s.data.toList = none by rw [HDN.out]; unfold pEnd; rw [if_neg (fun hh => hsum (by rw [HSZ.out]; omega))])
          clear hsum
          go_wp2_with fail
          clear hlen
          go_quiet ((go_at_call 62; refine Calls.quiet_of_same (HW.out _)))
          go_wp2_with fail
          go_ret
          exact exceptP_no H.out.1 H.out.2.1 H.out.2.2 (below_drewN HI.out.low _) HST.out
end Go.Proofs.Ytmcekdjhkjhcdaa.Hy
