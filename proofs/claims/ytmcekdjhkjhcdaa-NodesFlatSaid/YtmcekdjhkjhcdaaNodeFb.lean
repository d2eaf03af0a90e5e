import Derived.Test.YtmcekdjhkjhcdaaNodeFa
/- NodesFlat's walk, where the list is one. Conditions: those that each theorem names. -/
namespace Go.Proofs.Ytmcekdjhkjhcdaa.No
open Go.ChangeShapes Go.WideShapes Go.ChangeAt Go.RowKit
open Me Np
set_option linter.unusedVariables false
set_option linter.unusedSimpArgs false

theorem beg_of {ns : List Nd} {a : Nat} {x : Nd} (hx : ns[a]? = some x) (h6 : ¬ x.kind = 6) (h11 : ¬ x.kind = 11) : begB ns a = true := by
  unfold begB
  simp [hx, h6, h11]
theorem inner_eq (ns : List Nd) (a m : Nat) : (((ns.drop a).take m).drop 1).take (m - 2) = innerL ns a m := by
  unfold innerL
  rw [List.drop_take, List.drop_drop, List.take_take]
  congr 1
  omega
attribute [local go_sem ↓] ldN_eq
set_option maxHeartbeats 4000000 in
set_option maxRecDepth 100000 in
theorem flat_ok (A : Option Addr) (ns : List Nd) (c : Nat) (w : World) (hcap : ns.length ≤ c) (hseg : Seg w w.heap.size A (ns.flatMap ncs)) (h0 : chk ns = 0) :
    Calls Try.prog 7 #[.slice A ns.length c] w fun e w' => e = .returned (.bool true) ∧ Below w.heap.size w w' := by
  have hl := (chk_run h0).1
  obtain ⟨xs, hx⟩ := its_of_chk h0
  have hxl := hx.len
  have HST := Lib.hid (stand0 h0 hx)
  have HC := Lib.hid fun w1 (h : Below w.heap.size w w1) => check_any A ns c w1 (by omega) (Seg.belowW hseg h)
  have HK := Lib.hid fun w1 (h : Below w.heap.size w w1) => count_ok A ns c xs w1 (Seg.belowW hseg h) h0 hx
  have HSEG := Lib.hid fun w1 (h : Below w.heap.size w w1) => Seg.belowW hseg h
  have H0 := Lib.hid h0
  rw [H0.out] at HC
  clear h0 hseg hx
  generalize hlen : ns.length = len at *
  have HL := Lib.hid hlen
  clear hlen
  generalize hxn : xs.length = xn at *
  have HXN := Lib.hid hxn
  clear hxn
  go_enter Try.func7, Try.ntmps7
  go_wp2_with fail
  refine (HC.out _ (Below.refl _ _)).mono ?_
  rintro e w1 ⟨rfl, hb1⟩
  go_wp2_with (go_at_call 15; refine (num_any _ _).mono ?_; rintro e w' ⟨rfl, rfl⟩)
  refine (knows_any _).mono ?_
  rintro e w2 ⟨rfl, hb2⟩
  have hb12 := andThen hb1 hb2
  go_wp2_with fail
  refine (HK.out _ hb12).mono ?_
  rintro e w3 ⟨rfl, hb3⟩
  have hb13 := andThen hb12 hb3
  go_wp2_with fail
  go_loopw [5, 6] (fun q i wr => ∃ (k a : Nat) (ys : List Nat), q = .int .i64 k ∧ i = .int .i64 a ∧ a ≤ len ∧ k + ys.length = xn ∧ Stand ns a ys ∧ Below w.heap.size w wr) (fun _ i _ => len - (intOf i).toNat)
  case atStart => exact ⟨0, 0, xs, rfl, rfl, by omega, by rw [HXN.out]; omega, HST.out, hb13⟩
  case round =>
    obtain ⟨k, a, ys, rfl, rfl, hal, hk, hS, hlow⟩ := hrel
    have HS := Lib.hid hS
    clear hS
    by_cases hlt : a < len
    · obtain ⟨m, zs, x, rfl, hm, hm1, ham, hS2, hcp, hxx, h6, h11⟩ := HS.out.step (by rw [HL.out]; exact hl) (by rw [HL.out]; exact hlt)
      rw [HL.out] at ham
      simp only [List.length_cons] at hk
      have HM := Lib.hid hm
      have HS2 := Lib.hid hS2
      have HCP := Lib.hid hcp
      have HXX := Lib.hid hxx
      have HB := Lib.hid (beg_of hxx h6 h11)
      have HI := Lib.hid (item_ok A ns c a m wr (by rw [HL.out]; omega) (HSEG.out _ hlow) H0.out HB.out hm)
      rw [HL.out] at HI
      obtain ⟨b, off, rfl, hbl, hnode⟩ := seg_node (HSEG.out _ (Below.refl _ _)) hxx
      have HN := Lib.hid hnode
      clear hm hS2 hcp hxx h6 h11 hnode
      go_wp2_with fail
      refine HI.out.mono ?_
      rintro e w4 ⟨rfl, hb4⟩
      have hl4 := andThen hlow hb4
      have e1 : ((a : Int) + m).toNat = a + m := by omega
      have e2 : a + m - a = m := by omega
      have hca : ¬ c = a := by omega
      push_cast
      go_wp2_with (go_at_call 15; refine (num_any _ _).mono ?_; rintro e w' ⟨rfl, rfl⟩)
      obtain ⟨p, hp⟩ : ∃ p, (ns.drop a).take m = p := ⟨_, rfl⟩
      have hpl : p.length = m := by
        rw [← hp, List.length_take, List.length_drop, HL.out]
        omega
      have HPS := Lib.hid (fun (w1 : World) (h : Below w.heap.size w w1) => (show Seg w1 w1.heap.size (some ⟨b, off + a * 19, none⟩) (p.flatMap ncs) by
        rw [← hp, flat_take ncs_length, flat_drop ncs_length]
        exact Seg.take (Seg.drop (HSEG.out w1 h) _) _))
      have hchp := check_any (some ⟨b, off + a * 19, none⟩) p (c - a) w4 (by rw [hpl]; omega) (HPS.out w4 hl4)
      have hcp := HCP.out
      rw [hp] at hcp
      rw [hcp, hpl] at hchp
      have HCQ := Lib.hid hcp
      have HP := Lib.hid hp
      have HPL := Lib.hid hpl
      have HCHP := Lib.hid hchp
      clear hp hpl hchp hcp HCP HC HK HST HI
      refine HCHP.out.mono ?_
      rintro e w5 ⟨rfl, hb5⟩
      have hl5 := andThen hl4 hb5
      have hn5 := HN.out.below hl5 hbl
      have c5 : w5.cell? ⟨b, off + a * 19, none⟩ = some (.int .i64 x.kind) := hn5 0 _ rfl
      clear HCHP hb4 hl4 hb5
      by_cases hm2 : m = 1
      · have q1 : ¬ (a : Int) + 1 < (a : Int) + m := by omega
        go_wp2_with (go_at_call 15; refine (num_any _ _).mono ?_; rintro e w' ⟨rfl, rfl⟩)
        go_roundw
        case rel => exact ⟨k + 1, a + m, zs, by go_num, by first | rfl | (push_cast; rfl) | go_num, ham, by omega, HS2.out, hl5⟩
        case measure => simp [intOf]; omega
      · have q1 : (a : Int) + 1 < (a : Int) + m := by omega
        by_cases h10 : x.kind = 10
        · have e10 : (x.kind != 10) = false := by simp [h10]
          clear h10
          go_wp2_with (go_at_call 15; refine (num_any _ _).mono ?_; rintro e w' ⟨rfl, rfl⟩)
          go_roundw
          case rel => exact ⟨k + 1, a + m, zs, by go_num, by first | rfl | (push_cast; rfl) | go_num, ham, by omega, HS2.out, hl5⟩
          case measure => simp [intOf]; omega
        · have e10 : (x.kind != 10) = true := by simp [h10]
          have hx0 : p[0]? = some x := by
            rw [← HP.out, List.getElem?_take, if_pos (by omega), List.getElem?_drop]
            exact HXX.out
          have hpm : endc p 0 = some m := by rw [← HP.out]; exact endc_just HM.out
          obtain ⟨hr, ho, hw, hci⟩ := item_wrap HCQ.out hpm HPL.out hx0 (by omega) h10
          have hie : (p.drop 1).take (m - 2) = innerL ns a m := by rw [← HP.out]; exact inner_eq ns a m
          rw [hie] at hw hci
          have HR := Lib.hid hr
          have HO := Lib.hid ho
          have HW := Lib.hid hw
          have HCI := Lib.hid hci
          have H10 := Lib.hid h10
          have hin := inside_ok (some ⟨b, off, none⟩) ns c a m x w5 (by rw [HL.out]; exact hcap) (HSEG.out w5 hl5) H0.out HB.out HXX.out ho HM.out
          rw [HL.out] at hin
          have HIN := Lib.hid hin
          clear hr ho hw hci hin hie hpm hx0 h10
          go_wp2_with (go_at_call 15; refine (num_any _ _).mono ?_; rintro e w' ⟨rfl, rfl⟩)
          refine HIN.out.mono ?_
          rintro e w6 ⟨v6, rfl, hown6, hb6⟩
          have hl6 := andThen hl5 hb6
          obtain ⟨A6, c6, rfl, hc6, hm6, hs6⟩ := Src.own hown6
          have hn6 := HN.out.below hl6 hbl
          have hld6 : (ldN ⟨b, off + a * 19, none⟩).run Try.prog w6 = .ok (.agg (nc x)) w6 := run_ldN hn6
          have HWR := Lib.hid (wrap_ok x A6 (innerL ns a m) c6 w6 hs6 HR.out HO.out H10.out HCI.out (by rw [← HW.out]; exact HCQ.out))
          clear hown6 hb6 hs6 hn5 c5 HIN hm6 hc6 hl5
          go_wp2_with fail
          refine HWR.out.mono ?_
          rintro e w7 ⟨v7, rfl, hown7, hb7⟩
          have hl7 := andThen hl6 hb7
          obtain ⟨A7, c7, rfl, hc7, hm7, hs7⟩ := Seg.of_own hown7
          have hsm := same_any A7 (some ⟨b, off + a * 19, none⟩) (wrapL x (innerL ns a m)) p c7 (c - a) w7 (by rw [← HW.out, HPL.out]; omega) (by rw [HPL.out]; omega) hs7 (HPS.out w7 hl7)
          rw [show sameB (wrapL x (innerL ns a m)) p = true from sameB_iff.2 HW.out.symm, HPL.out] at hsm
          have HSM := Lib.hid hsm
          clear hown7 hb7 hs7 hsm hld6 hn6 HWR hm7 hc7 hl6
          generalize (wrapL x (innerL ns a m)).length = wl at *
          generalize (innerL ns a m).length = il at *
          go_wp2_with (go_at_call 15; refine (num_any _ _).mono ?_; rintro e w' ⟨rfl, rfl⟩)
          refine HSM.out.mono ?_
          rintro e w8 ⟨rfl, hb8⟩
          have hl8 := andThen hl7 hb8
          clear HSM hb8
          go_wp2_with fail
          go_roundw
          case rel => exact ⟨k + 1, a + m, zs, by go_num, by first | rfl | (push_cast; rfl) | go_num, ham, by omega, HS2.out, hl8⟩
          case measure => simp [intOf]; omega
    · obtain rfl : a = len := by omega
      have hyz : ys = [] := Stand.done (l := ns) (by rw [HL.out]; exact HS.out)
      subst hyz
      simp only [List.length_nil, Nat.add_zero] at hk
      subst hk
      go_wp2_with (go_at_call 15; refine (num_any _ _).mono ?_; rintro e w' ⟨rfl, rfl⟩)
      go_ret
      exact ⟨ret_bool (by simp), hlow⟩
end Go.Proofs.Ytmcekdjhkjhcdaa.No
