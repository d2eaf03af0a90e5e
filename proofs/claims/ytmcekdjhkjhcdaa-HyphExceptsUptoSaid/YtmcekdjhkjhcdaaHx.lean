import Derived.Test.YtmcekdjhkjhcdaaHv
import Derived.Test.YtmcekdjhkjhcdaaHw
/- HyphEdges' walk. Conditions: those that each theorem names. -/
namespace Go.Proofs.Ytmcekdjhkjhcdaa.Hy
open Go.ChangeShapes Go.WideShapes Go.ChangeAt Go.RowKit
open Me Hp
set_option linter.unusedVariables false
set_option linter.unusedSimpArgs false

theorem points_all (P : List Pt) (l : Nm) : points P l 1 1 = pts (vals P l) (l.length - 1) := by
  unfold points
  rw [List.filter_eq_self]
  intro x hx
  have := pts_bd _ _ x hx
  unfold farB
  rw [decide_eq_true (by omega), decide_eq_true (by omega)]
  rfl
theorem points_some (P : List Pt) (l : Nm) (left right : Int) : points P l left right = (points P l 1 1).filter (farB (l.length : Int) left right) := by
  rw [points_all]
  rfl
theorem filter_at {ps : List Int} {f : Int → Bool} {i : Nat} {x : Int} (hx : ps[i]? = some x) (hf : f x = true) : (ps.filter f)[((ps.take i).filter f).length]? = some x := by
  have hi := (List.getElem?_eq_some_iff.1 hx).1
  have e : ps = ps.take i ++ x :: ps.drop (i + 1) := by
    have h1 : ps.drop i = x :: ps.drop (i + 1) := by
      rw [List.drop_eq_getElem_cons hi]
      rw [List.getElem?_eq_getElem hi] at hx
      injection hx with hx
      rw [hx]
    rw [← h1, List.take_append_drop]
  have e2 : ps.filter f = (ps.take i).filter f ++ x :: (ps.drop (i + 1)).filter f := by
    conv => lhs; rw [e]
    rw [List.filter_append, List.filter_cons, if_pos hf]
  rw [e2, List.getElem?_append_right (Nat.le_refl _), Nat.sub_self]
  rfl
theorem take_filter_len {ps : List Int} {k : Nat} {x : Int} (hx : ps[k]? = some x) (f : Int → Bool) : ((ps.take (k + 1)).filter f).length = ((ps.take k).filter f).length + (if f x = true then 1 else 0) := by
  rw [take_filter hx f, List.length_append]
  split <;> simp_all
theorem own_slice {w : World} {B n : Nat} {u : Value} {l : List Int} (h : w.ownsRow B 3 1 u n (l.map iv)) : ∃ A c, u = .slice A l.length c := by
  have hl := h.1
  rw [List.length_map, Nat.mul_one] at hl
  rcases h.2 with ⟨e, h0⟩ | ⟨g, cap, cur, h', _⟩
  · exact ⟨none, 0, by rw [e, hl, h0]⟩
  · exact ⟨_, _, by rw [hl]; exact h'⟩
theorem piece_word {s : ByteArray} {a b : Nat} (hw : wordB s.data.toList = true) (hab : a < b) (hb : b ≤ s.size) : wordB (s.extract a b).data.toList = true ∧ (s.extract a b).size = b - a ∧ (s.extract a b).data.toList = (s.data.toList.take b).drop a := by
  have e : (s.extract a b).data.toList = (s.data.toList.take b).drop a := by rw [ext_eq]; rfl
  have e2 : (s.extract a b).size = b - a := by rw [ByteArray.size_extract]; omega
  refine ⟨?_, e2, e⟩
  obtain ⟨h1, h2, h3⟩ := wordB_is hw
  rw [size_list] at h1 h2
  unfold wordB
  rw [size_list, e2, decide_eq_true (by omega), decide_eq_true (by omega), Bool.true_and, Bool.true_and, List.all_eq_true, e]
  exact fun c hc => h3 c (List.mem_of_mem_take (List.mem_of_mem_drop hc))
set_option maxRecDepth 100000 in
set_option maxHeartbeats 4000000 in
theorem edges_walk (A : Option Addr) (ts : List ByteArray) (c : Nat) (s : ByteArray) (left right fr til : Int) (w : World) (hn : ts.length ≤ 1048576) (hcap : ts.length ≤ c) (hs : ∀ t ∈ ts, t.size ≤ 1048576) (hss : s.size ≤ 1048576)
    (hw2 : (Lit.int .i64 left).wf = true) (hw3 : (Lit.int .i64 right).wf = true) (hw4 : (Lit.int .i64 fr).wf = true) (hw5 : (Lit.int .i64 til).wf = true) (hseg : Seg w w.heap.size A (ts.map sv)) :
    Calls Try.prog 6 #[.slice A ts.length c, .string s, .int .i64 left, .int .i64 right, .int .i64 fr, .int .i64 til] w fun e w' => e = .returned (.bool true) ∧ Below w.heap.size w w' := by
  have HT := Lib.hid (told_any A ts c w hn hcap hs hseg)
  have HS := Lib.hid (And.intro hs hseg)
  clear hs hseg hw2 hw3 hw4 hw5
  go_enter Try.func6, Try.ntmps6
  go_wp2_with fail
  refine HT.out.mono ?_
  rintro e w1 ⟨hb1, p, v, rfl, hh⟩
  have HB1 := Lib.hid hb1
  have HH1 := Lib.hid hh
  clear hb1 hh HT
  have HP0 := Lib.hid HH1.out.pats
  generalize hP0 : told (txs ts) = P0 at HH1 HP0
  have HP0E := Lib.hid hP0
  clear hP0
  cases hw : wordB s.data.toList
  · have HW := Lib.hid hw
    clear hw
    go_wp2_with fail
    refine (Points_bad w.heap.size p P0 v (.slice none 0 0) s 1 1 w1 hss HW.out HH1.out).mono ?_
    rintro e w2 ⟨rfl, rfl⟩
    go_wp2_with fail
    refine (Points_bad w.heap.size p P0 v (.slice none 0 0) s left right w2 hss HW.out HH1.out).mono ?_
    rintro e w2 ⟨rfl, rfl⟩
    go_wp2_with fail
    refine (Values_bad w.heap.size p P0 v (.slice none 0 0) s w2 hss HW.out HH1.out).mono ?_
    rintro e w2 ⟨rfl, rfl⟩
    go_wp2_with (go_at_call 23; refine (num_any _ _).mono ?_; rintro e w' ⟨rfl, rfl⟩)
    refine (knows_any _).mono ?_
    rintro e w3 ⟨rfl, hb3⟩
    have HB3 := Lib.hid hb3
    clear hb3
    go_wp2_with fail
    go_ret
    exact ⟨rfl, andThen HB1.out HB3.out⟩
  · obtain ⟨hl1, hl2, hl3⟩ := wordB_is hw
    rw [size_list] at hl1 hl2
    have HW := Lib.hid hw
    clear hw hl3
    go_wp2_with fail
    refine (Points_ok w.heap.size p P0 v s 1 1 w1 hss HW.out HH1.out (by decide) (by decide)).mono ?_
    rintro e w2 ⟨hb2, u2, rfl, ho2⟩
    have HO2 := Lib.hid ho2
    have HB2 := Lib.hid (And.intro (HB1.out.trans (hb2.mono HB1.out.size)) (HH1.out.below hb2))
    clear hb2 ho2 HH1 HB1
    by_cases hlr : left < 1 ∨ right < 1
    · have HLR := Lib.hid hlr
      clear hlr
      go_wp2_with fail
      refine (Points_far w.heap.size p P0 v (.slice none 0 0) s left right w2 hss HW.out HB2.out.2 HLR.out).mono ?_
      rintro e w3 ⟨rfl, rfl⟩
      go_wp2_with fail
      refine (Values_ok w.heap.size p P0 v (.slice none 0 0) s w3 hss HW.out HB2.out.2).mono ?_
      rintro e w4 ⟨rfl, _, hb4⟩
      have HB4 := Lib.hid (andThen HB2.out.1 hb4)
      clear hb4
      go_wp2_with (go_at_call 23; refine (num_any _ _).mono ?_; rintro e w' ⟨rfl, rfl⟩)
      refine (knows_any _).mono ?_
      rintro e w5 ⟨rfl, hb5⟩
      have HB5 := Lib.hid (andThen HB4.out hb5)
      clear hb5
      by_cases h1 : left < 1
      · go_wp2_with (go_at_call 23; refine (num_any _ _).mono ?_; rintro e w' ⟨rfl, rfl⟩)
        go_ret
        exact ⟨rfl, HB5.out⟩
      · have h2 : right < 1 := by rcases HLR.out with h | h <;> omega
        go_wp2_with (go_at_call 23; refine (num_any _ _).mono ?_; rintro e w' ⟨rfl, rfl⟩)
        go_ret
        exact ⟨rfl, HB5.out⟩
    · have h1 : ¬ left < 1 := fun h => hlr (.inl h)
      have h2 : ¬ right < 1 := fun h => hlr (.inr h)
      clear hlr
      go_wp2_with fail
      refine (Points_ok w.heap.size p P0 v s left right w2 hss HW.out HB2.out.2 (by omega) (by omega)).mono ?_
      rintro e w3 ⟨hb3, u3, rfl, ho3⟩
      have HO2' := Lib.hid (own_below HO2.out hb3)
      have HO3 := Lib.hid ho3
      have HB3 := Lib.hid (And.intro (andThen HB2.out.1 hb3) (HB2.out.2.below hb3))
      clear hb3 ho3 HO2 HB2
      go_wp2_with fail
      refine (Values_ok w.heap.size p P0 v (.slice none 0 0) s w3 hss HW.out HB3.out.2).mono ?_
      rintro e w4 ⟨rfl, hv4, hb4⟩
      have HO4 := Lib.hid (And.intro (own_below HO2'.out hb4) (own_below HO3.out hb4))
      have HB4 := Lib.hid (And.intro (andThen HB3.out.1 hb4) (HB3.out.2.below hb4))
      have HV4 := Lib.hid hv4
      clear hb4 hv4 HO2' HO3 HB3
      generalize w3.heap.size = g3 at HO4 HB4 HV4
      go_wp2_with (go_at_call 23; refine (num_any _ _).mono ?_; rintro e w' ⟨rfl, rfl⟩)
      refine (knows_any _).mono ?_
      rintro e w5 ⟨rfl, hb5⟩
      have HO5 := Lib.hid (And.intro (own_below HO4.out.1 hb5) (own_below HO4.out.2 hb5))
      have HB5 := Lib.hid (And.intro (andThen HB4.out.1 hb5) (HB4.out.2.below hb5))
      have HV5 := Lib.hid (HV4.out.below hb5 HV4.out.lt)
      clear hb5 HO4 HB4 HV4
      have hpb : ∀ x ∈ points P0 s.data.toList 1 1, 1 ≤ x ∧ x ≤ (s.size : Int) - 1 := by
        rw [points_all]
        intro x hx
        have := pts_bd _ _ x hx
        rw [size_list] at this
        omega
      have hpl : (points P0 s.data.toList 1 1).length ≤ 63 := by
        rw [points_all]
        have := pts_len (vals P0 s.data.toList) (s.data.toList.length - 1)
        rw [size_list] at this
        rw [size_list]
        omega
      have HQS := Lib.hid (show points P0 s.data.toList left right = (points P0 s.data.toList 1 1).filter (farB (s.size : Int) left right) by rw [points_some, size_list])
      generalize hps : points P0 s.data.toList 1 1 = ps at hpb hpl HQS HO5
      generalize hqs : points P0 s.data.toList left right = qs at HQS HO5
      have HPB := Lib.hid hpb
      clear hps hqs hpb
      obtain ⟨A2, c2, hu2⟩ := own_slice HO5.out.1
      obtain ⟨A3, c3, hu3⟩ := own_slice HO5.out.2
      have HU := Lib.hid (And.intro hu2 hu3)
      rw [hu2, hu3]
      have hql : qs.length ≤ 63 := by
        rw [HQS.out]
        exact Nat.le_trans (List.length_filter_le _ _) hpl
      clear hu2 hu3
      go_wp2_with (go_at_call 23; refine (num_any _ _).mono ?_; rintro e w' ⟨rfl, rfl⟩)
      obtain ⟨W5, hW5⟩ : ∃ W5, W5 = w' := ⟨_, rfl⟩
      subst hW5
      go_loopw [20, 21] (fun v20 v21 wr => ∃ i nq : Nat, i ≤ ps.length ∧ v21 = .int .i64 (i : Int) ∧ v20 = .int .i64 ((((ps.take i).filter (farB (s.size : Int) left right)).length : Nat) : Int) ∧ wr = W5.drewN nq) (fun _ v21 _ => ps.length - (intOf v21).toNat)
      case atStart => exact ⟨0, 0, by omega, rfl, by simp, rfl⟩
      case round =>
        obtain ⟨i, nq, hi, rfl, rfl, hwr⟩ := hrel
        have HWR := Lib.hid hwr
        by_cases hlt : i < ps.length
        · obtain ⟨x, hx⟩ := get_some hlt
          obtain ⟨ga, ca, hgu, hgl, hgc⟩ := own_get HO5.out.1 hx
          rw [HU.out.1] at hgu
          injection hgu with hgA _ hgC
          subst hgA
          subst hgC
          have hcx : wr.cell? ⟨ga, i, none⟩ = some (.int .i64 x) := by rw [hwr]; exact hgc
          obtain ⟨x1, x2⟩ := HPB.out x (List.mem_of_getElem? hx)
          have HX := Lib.hid hx
          have hlti : (i : Int) < (ps.length : Int) := by omega
          have HFB := Lib.hid (show farB (s.size : Int) left right x = (decide (left ≤ x) && decide (right ≤ (s.size : Int) - x)) from rfl)
          have HTL := Lib.hid (take_filter_len hx (farB (s.size : Int) left right))
          clear hgc hwr
          by_cases hc1 : left ≤ x
          · by_cases hc2 : right ≤ (s.size : Int) - x
            · have hT : farB (s.size : Int) left right x = true := by rw [HFB.out]; simp [hc1, hc2]
              have hqx := filter_at hx hT
              rw [← HQS.out] at hqx
              have hkq := (List.getElem?_eq_some_iff.1 hqx).1
              have HTL2 := Lib.hid (show ((ps.take (i + 1)).filter (farB (s.size : Int) left right)).length = ((ps.take i).filter (farB (s.size : Int) left right)).length + 1 by rw [HTL.out, if_pos hT])
              generalize hk : ((ps.take i).filter (farB (s.size : Int) left right)).length = k at hqx hkq HTL2
              obtain ⟨gb, cb', hgu, hgl2, hgc2⟩ := own_get HO5.out.2 hqx
              rw [HU.out.2] at hgu
              injection hgu with hgA _ hgC
              subst hgA
              subst hgC
              have hcq : wr.cell? ⟨gb, k, none⟩ = some (.int .i64 x) := by rw [HWR.out]; exact hgc2
              have hd : decide ((qs.length : Int) ≤ (k : Int)) = false := decide_eq_false (by omega)
              clear hk hT hqx hgc2 hx HTL HFB
              go_wp2_with fail
              go_quiet (fail)
              go_wp2_with fail
              go_roundw
              case rel => exact ⟨i + 1, _, by omega, by go_num, by rw [HTL2.out]; rfl, by rw [HWR.out, World.drewN_drewN]⟩
              case measure => simp [intOf]; omega
            · have HTL2 := Lib.hid (show ((ps.take (i + 1)).filter (farB (s.size : Int) left right)).length = ((ps.take i).filter (farB (s.size : Int) left right)).length by rw [HTL.out, if_neg (by rw [HFB.out, decide_eq_false hc2, Bool.and_false]; exact Bool.false_ne_true), Nat.add_zero])
              clear HTL HFB hx
              go_wp2_with fail
              go_roundw
              case rel => exact ⟨i + 1, _, by omega, by go_num, by rw [HTL2.out], HWR.out⟩
              case measure => simp [intOf]; omega
          · have HTL2 := Lib.hid (show ((ps.take (i + 1)).filter (farB (s.size : Int) left right)).length = ((ps.take i).filter (farB (s.size : Int) left right)).length by rw [HTL.out, if_neg (by rw [HFB.out, decide_eq_false hc1, Bool.false_and]; exact Bool.false_ne_true), Nat.add_zero])
            clear HTL HFB hx
            go_wp2_with fail
            go_roundw
            case rel => exact ⟨i + 1, _, by omega, by go_num, by rw [HTL2.out], HWR.out⟩
            case measure => simp [intOf]; omega
        · obtain rfl : i = ps.length := by omega
          rw [List.take_length, ← HQS.out]
          have hb6 : Below W5.heap.size W5 wr := by rw [hwr]; exact below_drewN (Below.refl _ _) nq
          have HB6 := Lib.hid (And.intro (andThen HB5.out.1 hb6) (HB5.out.2.below hb6))
          have HV6 := Lib.hid (HV5.out.below hb6 HV5.out.lt)
          clear hwr hb6 HWR HB5 HV5 HO5 HU HPB HQS
          go_wp2_with fail
          obtain ⟨W6, hW6⟩ : ∃ W6, W6 = wr := ⟨_, rfl⟩
          subst hW6
          go_loopw [22] (fun v22 wr => ∃ i : Nat, i ≤ ts.length ∧ v22 = .int .i64 (i : Int) ∧ (∀ t ∈ ts.take i, ∀ c ∈ t.data.toList, c ≠ 46) ∧ W6 = wr) (fun v22 _ => ts.length - (intOf v22).toNat)
          case atStart => exact ⟨0, by omega, rfl, by simp, rfl⟩
          case round =>
            obtain ⟨i, hi, rfl, hall, rfl⟩ := hrel
            have HALL := Lib.hid hall
            clear hall
            by_cases hlt : i < ts.length
            · obtain ⟨t, ht⟩ := get_some hlt
              obtain ⟨b, off, rfl, hbw, hcell⟩ := seg_get HS.out.2 (k := i) (u := sv t) (by rw [List.getElem?_map, ht]; rfl)
              have hct : W6.cell? ⟨b, off + i, none⟩ = some (.string t) := (HB6.out.1.cell (p := ⟨b, off + i, none⟩) hbw).trans hcell
              have hts := HS.out.1 t (List.mem_of_getElem? ht)
              have HTT := Lib.hid ht
              have hlti : (i : Int) < (ts.length : Int) := by omega
              clear hcell ht
              go_wp2_with fail
              go_loopw [23] (fun v23 wr => ∃ j : Nat, j ≤ t.size ∧ v23 = .int .i64 (j : Int) ∧ (∀ m c, m < j → t.data.toList[m]? = some c → c ≠ 46) ∧ W6 = wr) (fun v23 _ => t.size - (intOf v23).toNat)
              case atStart => exact ⟨0, by omega, rfl, fun m c h => absurd h (by omega), rfl⟩
              case round =>
                obtain ⟨j, hj, rfl, hno, rfl⟩ := hrel
                have HNO := Lib.hid hno
                clear hno
                by_cases hlt2 : j < t.size
                · have hget := get_list t j hlt2
                  have HG := Lib.hid hget
                  clear hget
                  by_cases hch : (t[j].toNat : Int) = 46
                  · go_wp2_with fail
                    go_ret
                    exact ⟨rfl, HB6.out.1⟩
                  · have HCH := Lib.hid hch
                    go_wp2_with fail
                    go_roundw
                    case rel =>
                      refine ⟨j + 1, by omega, by go_num, fun m c hm hc => ?_, trivial⟩
                      rcases Nat.lt_or_ge m j with h | h
                      · exact HNO.out m c h hc
                      · obtain rfl : m = j := by omega
                        rw [HG.out] at hc
                        injection hc with hc
                        rw [← hc]
                        intro e
                        exact HCH.out (by rw [e]; rfl)
                    case measure => simp [intOf]; omega
                · obtain rfl : j = t.size := by omega
                  go_wp2_with fail
                  go_roundw
                  case rel =>
                    refine ⟨i + 1, by omega, by go_num, fun x hx c hc => ?_, trivial⟩
                    rw [List.take_add_one, HTT.out] at hx
                    simp only [Option.toList_some, List.mem_append, List.mem_singleton] at hx
                    rcases hx with hx | rfl
                    · exact HALL.out x hx c hc
                    · obtain ⟨m, hm⟩ := List.mem_iff_getElem?.1 hc
                      have := (List.getElem?_eq_some_iff.1 hm).1
                      rw [size_list] at this
                      exact HNO.out m c this hm
                  case measure => simp [intOf]; omega
            · obtain rfl : i = ts.length := by omega
              rw [List.take_length] at HALL
              have HPC := Lib.hid (show ∀ p ∈ P0, ∀ c ∈ p.1, c ≠ 46 by
                rw [← HP0E.out]
                refine told_chars fun t ht => ?_
                obtain ⟨x, hx, rfl⟩ := List.mem_map.1 ht
                exact HALL.out x hx)
              by_cases hf0 : fr < 0
              · go_wp2_with fail
                go_ret
                exact ⟨rfl, HB6.out.1⟩
              · by_cases hft : til ≤ fr
                · go_wp2_with fail
                  go_ret
                  exact ⟨rfl, HB6.out.1⟩
                · by_cases hts : (s.size : Int) < til
                  · go_wp2_with fail
                    go_ret
                    exact ⟨rfl, HB6.out.1⟩
                  · obtain ⟨a, rfl⟩ : ∃ a : Nat, fr = a := ⟨fr.toNat, by omega⟩
                    obtain ⟨b, rfl⟩ : ∃ b : Nat, til = b := ⟨til.toNat, by omega⟩
                    have hab : a < b := by omega
                    have hbs : b ≤ s.size := by omega
                    obtain ⟨hz1, hz2, hz3⟩ := piece_word HW.out hab hbs
                    generalize hz : s.extract a b = z at hz1 hz2 hz3
                    have HZ := Lib.hid (And.intro hz1 hz3)
                    have HZ2 := Lib.hid hz2
                    clear hz1 hz2 hz3
                    go_wp2_with fail
                    have hzp : ((z.size - 1 : Nat) : Int) = (b : Int) - (a : Int) - 1 := by have := HZ2.out; omega
                    have hzz : z.size ≤ 63 := by have := HZ2.out; omega
                    refine (Values_ok w.heap.size p P0 v (.slice none 0 0) z W6 (by omega) HZ.out.1 HB6.out.2).mono ?_
                    rintro e w7 ⟨rfl, hv7, hb7⟩
                    have HV7 := Lib.hid (And.intro (HV6.out.below hb7 HV6.out.lt) hv7)
                    have HB7 := Lib.hid (andThen HB6.out.1 hb7)
                    have HPI := Lib.hid (fun (k : Nat) (hk : k < z.size - 1) => piece HP0.out HPC.out s.data.toList (a := a) (b := b) (k := k) (by rw [size_list]; exact hbs) (by rw [← HZ.out.2, size_list]; exact hk))
                    have HZP := Lib.hid (And.intro hzp HZ2.out)
                    have hd1 : (b : Int) - (a : Int) - 1 = ((z.size - 1 : Nat) : Int) := hzp.symm
                    clear hv7 hb7 HV6 HB6 HALL hzp HPC
                    generalize W6.heap.size = g6 at HV7
                    go_wp2_with (go_at_call 23; refine (num_any _ _).mono ?_; rintro e w' ⟨rfl, rfl⟩)
                    obtain ⟨W7, hW7⟩ : ∃ W7, W7 = w' := ⟨_, rfl⟩
                    subst hW7
                    clear hd1
                    go_loopw [26] (fun v26 wr => ∃ i nq : Nat, i ≤ z.size - 1 ∧ v26 = .int .i64 (i : Int) ∧ wr = W7.drewN nq) (fun v26 _ => z.size - 1 - (intOf v26).toNat)
                    case atStart => exact ⟨0, 0, by omega, rfl, rfl⟩
                    case round =>
                      obtain ⟨i, nq, hi, rfl, hwr⟩ := hrel
                      have HWR := Lib.hid hwr
                      by_cases hlt : i < z.size - 1
                      · have hx := vals_cell HV7.out.2 (k := i) (by rw [size_list]; exact hlt)
                        have hy := vals_cell HV7.out.1 (k := a + i) (by rw [size_list]; have := HZP.out.2; omega)
                        have hcx : wr.cell? ⟨g6, 2 + i, none⟩ = some (.int .i64 ((vals P0 z.data.toList).getD i 0)) := by rw [hwr]; exact hx
                        have hcy : wr.cell? ⟨g3, 2 + (a + i), none⟩ = some (.int .i64 ((vals P0 s.data.toList).getD (a + i) 0)) := by rw [hwr]; exact hy
                        have hle := HPI.out i hlt
                        rw [← HZ.out.2] at hle
                        have hais : a + i < s.size - 1 := by have := HZP.out.2; omega
                        clear hx hy hwr
                        generalize (vals P0 z.data.toList).getD i 0 = X at hle hcx
                        generalize (vals P0 s.data.toList).getD (a + i) 0 = Y at hle hcy
                        have hd2 : decide (Y < X) = false := decide_eq_false (by omega)
                        clear hle
                        go_wp2_with fail
                        go_quiet (fail)
                        go_wp2_with fail
                        go_roundw
                        case rel => exact ⟨i + 1, _, by omega, by go_num, by rw [HWR.out, World.drewN_drewN]⟩
                        case measure => simp [intOf]; omega
                      · obtain rfl : i = z.size - 1 := by omega
                        have HB8 := Lib.hid (show Below w.heap.size w wr by rw [hwr]; exact below_drewN HB7.out nq)
                        clear hwr
                        go_wp2_with fail
                        go_ret
                        exact ⟨rfl, HB8.out⟩
end Go.Proofs.Ytmcekdjhkjhcdaa.Hy
