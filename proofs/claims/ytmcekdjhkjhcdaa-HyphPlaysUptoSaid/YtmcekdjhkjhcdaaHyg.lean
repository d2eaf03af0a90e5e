import Derived.Test.YtmcekdjhkjhcdaaHyf
/- The contract of Points where there are exceptions. Conditions: those that each theorem names. -/
namespace Go.Proofs.Ytmcekdjhkjhcdaa.Hy
open Go.ChangeShapes Go.WideShapes Go.ChangeAt Go.RowKit
open Me Hp
set_option linter.unusedVariables false
set_option linter.unusedSimpArgs false

set_option maxRecDepth 100000 in
set_option maxHeartbeats 1000000 in
theorem Points_else (B p : Nat) (P : List Pt) (X : List Xc) (v xv : Value) (s : ByteArray) (left right : Int) (w : World) (hs : s.size ≤ 1048576) (hw : wordB s.data.toList = true) (h : HyAt w B p P v xv) (hx : XAt w B X xv) (hh : xhas X s.data.toList = false) (hl : 1 ≤ left) (hr : 1 ≤ right) :
    Calls Try.prog 27 #[.pointer (some ⟨p, 0, none⟩), .string s, .int .i64 left, .int .i64 right] w fun e w' => Below w.heap.size w w' ∧ ∃ u, e = .returned (.tuple #[u, .int .i64 0]) ∧ w'.ownsRow w.heap.size 3 1 u (points P s.data.toList left right).length ((points P s.data.toList left right).map iv) := by
  obtain ⟨h1, h2, h3⟩ := wordB_is hw
  rw [size_list] at h1 h2
  have HG := Lib.hid (good_any B p P v xv w h)
  have HV := Lib.hid (fun w' hb => values_any B p P v xv s h3 h1 h2 w' (h.below hb))
  have HF := Lib.hid (find_any B p P X v xv s w h hx)
  rw [hh] at HF
  have HW := Lib.hid (word_any s w hs)
  rw [hw] at HW
  have hll : (vals P s.data.toList).length = s.size - 1 := by rw [vals_len, size_list]
  have HSL := Lib.hid (size_list s)
  clear h hx hh h3 hw
  go_enter Try.func27, Try.ntmps27
  go_wp2_with (first | (go_at_call 61; refine HG.out.mono ?_; rintro e w' ⟨rfl, rfl⟩) | (go_at_call 62; refine HW.out.mono ?_; rintro e w' ⟨rfl, rfl⟩) | (go_at_call 66; refine HF.out.mono ?_; rintro e w2 ⟨rfl, hb2⟩))
  refine (HV.out _ hb2).mono ?_
  rintro e w1 ⟨rfl, hblk, hlow⟩
  have HB := Lib.hid (And.intro hblk hlow)
  have HB2 := Lib.hid hb2
  clear hblk hlow hb2 HV HW HG HF
  go_wp2_with fail
  generalize hvv : vals P s.data.toList = vv at hll
  have HVV := Lib.hid hvv
  clear hvv
  go_loopw [10, 52] (fun v10 v52 wr => ∃ k : Nat, k ≤ s.size - 1 ∧ v52 = .int .i64 (k : Int) ∧ Pt1 w1 vv k v10 wr) (fun _ v52 _ => s.size - 1 - (intOf v52).toNat)
  case atStart => exact ⟨0, by omega, rfl, World.ownsRow_nil _ _ _ _, Below.refl _ _⟩
  case round =>
    obtain ⟨k, hk, rfl, hP⟩ := hrel
    have HP := Lib.hid hP
    by_cases hlt : k < s.size - 1
    · have hcell : wr.cell? ⟨w2.heap.size, 2 + k, none⟩ = some (.int .i64 (vv.getD k 0)) := by
        have h := (hP.low.cell (p := ⟨w2.heap.size, 2 + k, none⟩) HB.out.1.lt).trans (vals_cell HB.out.1 (k := k) (by rw [HSL.out]; exact hlt))
        rw [HVV.out] at h
        exact h
      have hki : (k : Int) < ((s.size - 1 : Nat) : Int) := by omega
      have hpl : (pts vv k).length ≤ 63 := by have := pts_len vv k; omega
      clear hP
      generalize hx : vv.getD k 0 = x at hcell
      have HX := Lib.hid hx
      clear hx
      by_cases hodd : x.tmod 2 = 1
      · have HO := Lib.hid hodd
        go_wp2_with (at_builtin; refine wpList_push rfl _ _ 42 rfl w1.heap.size 3 _ 1 8 Try.underlying42 info_int rfl (by decide) (by decide) _ _ _ rfl HP.out.own HP.out.low.size _ rfl rfl rfl (by simp) (by omega) ?_; intro v7 w7 hown7 hg7 hn7; have HP7 := Lib.hid (HP.out.push (by rw [HX.out]; exact HO.out) (by go_num) hown7 hg7); clear hown7 hg7)
        go_roundw
        case rel => exact ⟨k + 1, by omega, by go_num, HP7.out⟩
        case measure => simp [intOf]; omega
      · have HO := Lib.hid (HP.out.skip (by rw [HX.out]; exact hodd))
        go_wp2_with fail
        go_roundw
        case rel => exact ⟨k + 1, by omega, by go_num, HO.out⟩
        case measure => simp [intOf]; omega
    · obtain rfl : k = s.size - 1 := by omega
      clear hP
      have hpb := pts_bd vv (s.size - 1)
      have hpl := pts_len vv (s.size - 1)
      have HPS := Lib.hid (show points P s.data.toList left right = (pts vv (s.size - 1)).filter (farB (s.size : Int) left right) by unfold points; rw [HVV.out, HSL.out])
      generalize hps : pts vv (s.size - 1) = ps at hpb hpl HPS
      have hown := HP.out.own
      rw [hps] at hown
      have HOW := Lib.hid hown
      have HPB := Lib.hid hpb
      clear hps hown hpb
      obtain ⟨A, c, hu⟩ : ∃ A c, u10 = .slice A ps.length c := by
        rcases HOW.out.2 with ⟨rfl, h0⟩ | ⟨g, cap, cur, h', _⟩
        · exact ⟨none, 0, by rw [h0]⟩
        · exact ⟨_, _, h'⟩
      have HU := Lib.hid hu
      rw [hu]
      clear hu
      go_wp2_with fail
      obtain ⟨wo, hwo⟩ : ∃ wo, wo = wr := ⟨wr, rfl⟩
      subst hwo
      go_loopw [15, 68] (fun v15 v68 w3 => ∃ k : Nat, k ≤ ps.length ∧ v68 = .int .i64 (k : Int) ∧ Pt2 wo ps (s.size : Int) left right k v15 w3) (fun _ v68 _ => ps.length - (intOf v68).toNat)
      case atStart => exact ⟨0, by omega, rfl, World.ownsRow_nil _ _ _ _, Below.refl _ _⟩
      case round =>
        obtain ⟨k, hk, rfl, hQ⟩ := hrel
        have HQ := Lib.hid hQ
        by_cases hlt2 : k < ps.length
        · obtain ⟨x, hx⟩ := get_some hlt2
          obtain ⟨g, c', hgu, hgl, hgc⟩ := own_get HOW.out hx
          rw [HU.out] at hgu
          injection hgu with hgA _ _
          subst hgA
          have hcx : wr.cell? ⟨g, k, none⟩ = some (.int .i64 x) := (hQ.low.cell (p := ⟨g, k, none⟩) hgl).trans hgc
          obtain ⟨x1, x2⟩ := HPB.out x (List.mem_of_getElem? hx)
          have HX := Lib.hid hx
          have hfl : ((ps.take k).filter (farB (s.size : Int) left right)).length ≤ 63 := by
            have := List.length_filter_le (farB (s.size : Int) left right) (ps.take k)
            rw [List.length_take] at this
            omega
          have hxn : x ≤ (s.size : Int) := by omega
          clear hQ hgc hx
          have HFB := Lib.hid (show farB (s.size : Int) left right x = (decide (left ≤ x) && decide (right ≤ (s.size : Int) - x)) from rfl)
          by_cases hc1 : left ≤ x
          · by_cases hc2 : right ≤ (s.size : Int) - x
            · have HT := Lib.hid (show farB (s.size : Int) left right x = true by rw [HFB.out]; simp [hc1, hc2])
              go_wp2_with (at_builtin; refine wpList_push rfl _ _ 42 rfl wo.heap.size 3 _ 1 8 Try.underlying42 info_int rfl (by decide) (by decide) _ _ _ rfl HQ.out.own HQ.out.low.size _ rfl rfl rfl (by simp) (by omega) ?_; intro v7 w7 hown7 hg7 hn7; have HQ7 := Lib.hid (HQ.out.push HX.out HT.out hown7 hg7); clear hown7 hg7)
              go_roundw
              case rel => exact ⟨v7, _, _, ⟨k + 1, by omega, by go_num, HQ7.out⟩, rfl, rfl, rfl⟩
              case measure => simp [intOf]; omega
            · have HT := Lib.hid (HQ.out.skip HX.out (show farB (s.size : Int) left right x = false by rw [HFB.out]; simp [hc2]))
              go_wp2_with fail
              go_roundw
              case rel => exact ⟨k + 1, by omega, by go_num, HT.out⟩
              case measure => simp [intOf]; omega
          · have HT := Lib.hid (HQ.out.skip HX.out (show farB (s.size : Int) left right x = false by rw [HFB.out]; simp [hc1]))
            go_wp2_with fail
            go_roundw
            case rel => exact ⟨k + 1, by omega, by go_num, HT.out⟩
            case measure => simp [intOf]; omega
        · obtain rfl : k = ps.length := by omega
          clear hQ
          go_wp2_with fail
          go_ret2
          have h := HQ.out.own
          rw [List.take_length, ← HPS.out] at h
          have hlow : Below w2.heap.size w2 wr := HB.out.2.trans (((HP.out.low.mono HB.out.2.size)).trans (HQ.out.low.mono (Nat.le_trans HB.out.2.size HP.out.low.size)))
          exact ⟨andThen HB2.out hlow, _, rfl, own_base h (Nat.le_trans HB2.out.size (Nat.le_trans HB.out.2.size HP.out.low.size))⟩
end Go.Proofs.Ytmcekdjhkjhcdaa.Hy
