import Derived.Test.YtmcekdjhkjhcdaaHg
import Derived.Test.YtmcekdjhkjhcdaaHh
/- The contracts of Values and Points. Conditions: those that each theorem names. -/
namespace Go.Proofs.Ytmcekdjhkjhcdaa.Hy
open Go.ChangeShapes Go.WideShapes Go.ChangeAt Go.RowKit
open Me Hp
set_option linter.unusedVariables false
set_option linter.unusedSimpArgs false

theorem wordB_is {l : List UInt8} (h : wordB l = true) : 1 ≤ l.length ∧ l.length ≤ 63 ∧ ∀ c ∈ l, isLet c = true := by
  unfold wordB at h
  simp only [Bool.and_eq_true, decide_eq_true_eq, List.all_eq_true] at h
  exact ⟨h.1.1, h.1.2, h.2⟩
theorem Values_ok (B p : Nat) (P : List Pt) (v xv : Value) (s : ByteArray) (w : World) (hs : s.size ≤ 1048576) (hw : wordB s.data.toList = true) (h : HyAt w B p P v xv) :
    Calls Try.prog 22 #[.pointer (some ⟨p, 0, none⟩), .string s] w fun e w' => e = .returned (.tuple #[.slice (some ⟨w.heap.size, 2, none⟩) (s.size - 1) (s.size + 1), .int .i64 0]) ∧ Blk w' w.heap.size 3 (arr (vrow P s.data.toList)) ∧ Below w.heap.size w w' := by
  obtain ⟨h1, h2, h3⟩ := wordB_is hw
  rw [size_list] at h1 h2
  have HG := Lib.hid (good_any B p P v xv w h)
  have HV := Lib.hid (values_any B p P v xv s h3 h1 h2 w h)
  have HW := Lib.hid (word_any s w hs)
  rw [hw] at HW
  clear h h1 h2 h3 hw
  go_enter Try.func22, Try.ntmps22
  go_wp2_with (first | (go_at_call 61; refine HG.out.mono ?_; rintro e w' ⟨rfl, rfl⟩) | (go_at_call 62; refine HW.out.mono ?_; rintro e w' ⟨rfl, rfl⟩))
  refine HV.out.mono ?_
  rintro e w1 ⟨rfl, hb, hl⟩
  have HB := Lib.hid (And.intro hb hl)
  clear hb hl HV HW HG
  go_wp2_with fail
  go_ret2
  exact ⟨rfl, HB.out.1, HB.out.2⟩
theorem Values_bad (B p : Nat) (P : List Pt) (v xv : Value) (s : ByteArray) (w : World) (hs : s.size ≤ 1048576) (hw : wordB s.data.toList = false) (h : HyAt w B p P v xv) :
    Calls Try.prog 22 #[.pointer (some ⟨p, 0, none⟩), .string s] w fun e w' => e = .returned (.tuple #[.slice none 0 0, .int .i64 70]) ∧ w' = w := by
  have HG := Lib.hid (good_any B p P v xv w h)
  have HW := Lib.hid (word_any s w hs)
  rw [hw] at HW
  clear h hw
  go_enter Try.func22, Try.ntmps22
  go_wp2_with (first | (go_at_call 61; refine HG.out.mono ?_; rintro e w' ⟨rfl, rfl⟩) | (go_at_call 62; refine HW.out.mono ?_; rintro e w' ⟨rfl, rfl⟩))
  go_ret2
  exact ⟨rfl, rfl⟩
/-- The places behind which an odd value stands. -/
def pts (v : List Int) (k : Nat) : List Int := (List.range k).filterMap fun i => if (v.getD i 0).tmod 2 = 1 then some ((i : Int) + 1) else none
theorem pts_succ (v : List Int) (k : Nat) : pts v (k + 1) = pts v k ++ (if (v.getD k 0).tmod 2 = 1 then [(k : Int) + 1] else []) := by
  unfold pts
  rw [List.range_succ, List.filterMap_append]
  congr 1
  simp only [List.filterMap_cons, List.filterMap_nil]
  split <;> split <;> simp_all
theorem pts_len (v : List Int) (k : Nat) : (pts v k).length ≤ k := by
  have := List.length_filterMap_le (fun i => if (v.getD i 0).tmod 2 = 1 then some ((i : Int) + 1) else none) (List.range k)
  simpa [pts] using this
theorem pts_bd (v : List Int) (k : Nat) : ∀ x ∈ pts v k, 1 ≤ x ∧ x ≤ k := by
  intro x hx
  unfold pts at hx
  simp only [List.mem_filterMap, List.mem_range] at hx
  obtain ⟨i, hi, h⟩ := hx
  split at h
  · injection h with h; omega
  · cases h
def farB (n left right x : Int) : Bool := decide (left ≤ x) && decide (right ≤ n - x)
/-- The points of a word. -/
def points (P : List Pt) (l : Nm) (left right : Int) : List Int := (pts (vals P l) (l.length - 1)).filter (farB (l.length : Int) left right)
theorem Points_bad (B p : Nat) (P : List Pt) (v xv : Value) (s : ByteArray) (left right : Int) (w : World) (hs : s.size ≤ 1048576) (hw : wordB s.data.toList = false) (h : HyAt w B p P v xv) :
    Calls Try.prog 27 #[.pointer (some ⟨p, 0, none⟩), .string s, .int .i64 left, .int .i64 right] w fun e w' => e = .returned (.tuple #[.slice none 0 0, .int .i64 70]) ∧ w' = w := by
  have HG := Lib.hid (good_any B p P v xv w h)
  have HW := Lib.hid (word_any s w hs)
  rw [hw] at HW
  clear h hw
  go_enter Try.func27, Try.ntmps27
  go_wp2_with (first | (go_at_call 61; refine HG.out.mono ?_; rintro e w' ⟨rfl, rfl⟩) | (go_at_call 62; refine HW.out.mono ?_; rintro e w' ⟨rfl, rfl⟩))
  go_ret2
  exact ⟨rfl, rfl⟩
theorem Points_far (B p : Nat) (P : List Pt) (v xv : Value) (s : ByteArray) (left right : Int) (w : World) (hs : s.size ≤ 1048576) (hw : wordB s.data.toList = true) (h : HyAt w B p P v xv) (hlr : left < 1 ∨ right < 1) :
    Calls Try.prog 27 #[.pointer (some ⟨p, 0, none⟩), .string s, .int .i64 left, .int .i64 right] w fun e w' => e = .returned (.tuple #[.slice none 0 0, .int .i64 11]) ∧ w' = w := by
  have HG := Lib.hid (good_any B p P v xv w h)
  have HW := Lib.hid (word_any s w hs)
  rw [hw] at HW
  clear h hw
  by_cases h1 : left < 1
  · go_enter Try.func27, Try.ntmps27
    go_wp2_with (first | (go_at_call 61; refine HG.out.mono ?_; rintro e w' ⟨rfl, rfl⟩) | (go_at_call 62; refine HW.out.mono ?_; rintro e w' ⟨rfl, rfl⟩))
    go_ret2
    exact ⟨rfl, rfl⟩
  · have h2 : right < 1 := by omega
    go_enter Try.func27, Try.ntmps27
    go_wp2_with (first | (go_at_call 61; refine HG.out.mono ?_; rintro e w' ⟨rfl, rfl⟩) | (go_at_call 62; refine HW.out.mono ?_; rintro e w' ⟨rfl, rfl⟩))
    go_ret2
    exact ⟨rfl, rfl⟩
theorem vals_cell {w : World} {g : Nat} {P : List Pt} {l : Nm} (h : Blk w g 3 (arr (vrow P l))) {k : Nat} (hk : k < l.length - 1) : w.cell? ⟨g, 2 + k, none⟩ = some (.int .i64 ((vals P l).getD k 0)) := by
  rw [h.cell]
  unfold arr
  rw [List.getElem?_toArray, List.getElem?_map]
  have h2 := vals_get P l hk
  have h3 : (vals P l)[k]? = (vrow P l)[2 + k]? := by
    unfold vals
    rw [List.getElem?_take, if_pos hk, List.getElem?_drop]
  rw [← h3, List.getD_eq_getElem?_getD, h2]
  rfl
/-- The first loop of Points. -/
structure Pt1 (w1 : World) (v : List Int) (k : Nat) (u : Value) (wr : World) : Prop where
  own : wr.ownsRow w1.heap.size 3 1 u (pts v k).length ((pts v k).map iv)
  low : Below w1.heap.size w1 wr
theorem Pt1.skip {w1 : World} {v : List Int} {k : Nat} {u : Value} {wr : World} (h : Pt1 w1 v k u wr) (hn : ¬ (v.getD k 0).tmod 2 = 1) : Pt1 w1 v (k + 1) u wr := by
  have e := pts_succ v k
  rw [if_neg hn, List.append_nil] at e
  exact ⟨by rw [e]; exact h.own, h.low⟩
theorem Pt1.push {w1 : World} {v : List Int} {k : Nat} {u u' : Value} {wr w' : World} (h : Pt1 w1 v k u wr) (hn : (v.getD k 0).tmod 2 = 1) {z : Int} (hz : z = (k : Int) + 1)
    (ho : w'.ownsRow w1.heap.size 3 1 u' ((pts v k).length + 1) ((pts v k).map iv ++ #[iv z].toList)) (hg : (wr.alloc (.cells #[iv z] 3)).grownBy w' u.ownBlock) : Pt1 w1 v (k + 1) u' w' := by
  subst hz
  have h1 := h.own.alloc (.cells #[iv ((k : Int) + 1)] 3)
  have e := pts_succ v k
  rw [if_pos hn] at e
  refine ⟨?_, below_grown (Nat.le_refl _) (andAlloc h.low _) hg fun k hk => (h1.lt k hk).1⟩
  rw [e]
  simpa using ho
/-- The second loop: those that are far enough. -/
structure Pt2 (w1 : World) (ps : List Int) (n left right : Int) (k : Nat) (u : Value) (wr : World) : Prop where
  own : wr.ownsRow w1.heap.size 3 1 u ((ps.take k).filter (farB n left right)).length (((ps.take k).filter (farB n left right)).map iv)
  low : Below w1.heap.size w1 wr
theorem take_filter {ps : List Int} {k : Nat} {x : Int} (hx : ps[k]? = some x) (f : Int → Bool) : (ps.take (k + 1)).filter f = (ps.take k).filter f ++ (if f x = true then [x] else []) := by
  rw [List.take_add_one, hx, List.filter_append]
  congr 1
  simp only [Option.toList_some, List.filter_cons, List.filter_nil]
theorem Pt2.skip {w1 : World} {ps : List Int} {n left right x : Int} {k : Nat} {u : Value} {wr : World} (h : Pt2 w1 ps n left right k u wr) (hx : ps[k]? = some x) (hn : farB n left right x = false) : Pt2 w1 ps n left right (k + 1) u wr := by
  have e := take_filter hx (farB n left right)
  rw [if_neg (by simp [hn]), List.append_nil] at e
  exact ⟨by rw [e]; exact h.own, h.low⟩
theorem Pt2.push {w1 : World} {ps : List Int} {n left right x : Int} {k : Nat} {u u' : Value} {wr w' : World} (h : Pt2 w1 ps n left right k u wr) (hx : ps[k]? = some x) (hn : farB n left right x = true)
    (ho : w'.ownsRow w1.heap.size 3 1 u' (((ps.take k).filter (farB n left right)).length + 1) (((ps.take k).filter (farB n left right)).map iv ++ #[iv x].toList)) (hg : (wr.alloc (.cells #[iv x] 3)).grownBy w' u.ownBlock) : Pt2 w1 ps n left right (k + 1) u' w' := by
  have h1 := h.own.alloc (.cells #[iv x] 3)
  have e := take_filter hx (farB n left right)
  rw [if_pos hn] at e
  refine ⟨?_, below_grown (Nat.le_refl _) (andAlloc h.low _) hg fun k hk => (h1.lt k hk).1⟩
  rw [e]
  simpa using ho
/-- A row of one's own reads so. -/
theorem own_get {w : World} {B n : Nat} {u : Value} {l : List Int} (h : w.ownsRow B 3 1 u n (l.map iv)) {k : Nat} {x : Int} (hx : l[k]? = some x) : ∃ g c : Nat, u = .slice (some ⟨g, 0, none⟩) n c ∧ g < w.heap.size ∧ w.cell? ⟨g, k, none⟩ = some (iv x) := by
  have hl := h.1
  have hk := (List.getElem?_eq_some_iff.1 hx).1
  rw [List.length_map] at hl
  rcases h.2 with ⟨_, h0⟩ | ⟨g, cap, cur, h', hb, hg, hnc, hcm, hcs, htake⟩
  · omega
  · refine ⟨g, cap, h', (Array.getElem?_eq_some_iff.1 hg).1, ?_⟩
    subst h'
    exact (h.cellAt k (by omega)).trans (by rw [List.getElem?_map, hx]; rfl)
set_option maxRecDepth 100000 in
set_option maxHeartbeats 1000000 in
theorem Points_ok (B p : Nat) (P : List Pt) (v : Value) (s : ByteArray) (left right : Int) (w : World) (hs : s.size ≤ 1048576) (hw : wordB s.data.toList = true) (h : HyAt w B p P v (.slice none 0 0)) (hl : 1 ≤ left) (hr : 1 ≤ right) :
    Calls Try.prog 27 #[.pointer (some ⟨p, 0, none⟩), .string s, .int .i64 left, .int .i64 right] w fun e w' => Below w.heap.size w w' ∧ ∃ u, e = .returned (.tuple #[u, .int .i64 0]) ∧ w'.ownsRow w.heap.size 3 1 u (points P s.data.toList left right).length ((points P s.data.toList left right).map iv) := by
  obtain ⟨h1, h2, h3⟩ := wordB_is hw
  rw [size_list] at h1 h2
  have HG := Lib.hid (good_any B p P v (.slice none 0 0) w h)
  have HV := Lib.hid (values_any B p P v (.slice none 0 0) s h3 h1 h2 w h)
  have HF := Lib.hid (find_nil B p P v s w h)
  have HW := Lib.hid (word_any s w hs)
  rw [hw] at HW
  have hll : (vals P s.data.toList).length = s.size - 1 := by rw [vals_len, size_list]
  have HSL := Lib.hid (size_list s)
  clear h h3 hw
  go_enter Try.func27, Try.ntmps27
  go_wp2_with (first | (go_at_call 61; refine HG.out.mono ?_; rintro e w' ⟨rfl, rfl⟩) | (go_at_call 62; refine HW.out.mono ?_; rintro e w' ⟨rfl, rfl⟩) | (go_at_call 66; refine HF.out.mono ?_; rintro e w' ⟨rfl, rfl⟩))
  refine HV.out.mono ?_
  rintro e w1 ⟨rfl, hblk, hlow⟩
  have HB := Lib.hid (And.intro hblk hlow)
  clear hblk hlow HV HW HG HF
  go_wp2_with fail
  generalize hvv : vals P s.data.toList = vv at hll
  have HVV := Lib.hid hvv
  clear hvv
  go_loopw [10, 52] (fun v10 v52 wr => ∃ k : Nat, k ≤ s.size - 1 ∧ v52 = .int .i64 (k : Int) ∧ Pt1 w1 vv k v10 wr) (fun _ v52 _ => s.size - 1 - (intOf v52).toNat)
  case atStart => exact ⟨0, by omega, rfl, World.ownsRow_nil _ _ _ _, Below.refl _ _⟩
  case round =>
    obtain ⟨k, hk, rfl, hP⟩ := hrel
    have HP := Lib.hid hP
    by_cases hlt : k < s.size - 1
    · have hcell : wr.cell? ⟨w'.heap.size, 2 + k, none⟩ = some (.int .i64 (vv.getD k 0)) := by
        have h := (hP.low.cell (p := ⟨w'.heap.size, 2 + k, none⟩) HB.out.1.lt).trans (vals_cell HB.out.1 (k := k) (by rw [HSL.out]; exact hlt))
        rw [HVV.out] at h
        exact h
      have hki : (k : Int) < ((s.size - 1 : Nat) : Int) := by omega
      have hpl : (pts vv k).length ≤ 63 := by have := pts_len vv k; omega
      clear hP
      generalize hx : vv.getD k 0 = x at hcell
      have HX := Lib.hid hx
      clear hx
      by_cases hodd : x.tmod 2 = 1
      · have HO := Lib.hid hodd
        go_wp2_with (at_builtin; refine wpList_push rfl _ _ 42 rfl w1.heap.size 3 _ 1 8 Try.underlying42 info_int rfl (by decide) (by decide) _ _ _ rfl HP.out.own HP.out.low.size _ rfl rfl rfl (by simp) (by omega) ?_; intro v7 w7 hown7 hg7 hn7; have HP7 := Lib.hid (HP.out.push (by rw [HX.out]; exact HO.out) (by go_num) hown7 hg7); clear hown7 hg7)
        go_roundw
        case rel => exact ⟨k + 1, by omega, by go_num, HP7.out⟩
        case measure => simp [intOf]; omega
      · have HO := Lib.hid (HP.out.skip (by rw [HX.out]; exact hodd))
        go_wp2_with fail
        go_roundw
        case rel => exact ⟨k + 1, by omega, by go_num, HO.out⟩
        case measure => simp [intOf]; omega
    · obtain rfl : k = s.size - 1 := by omega
      clear hP
      have hpb := pts_bd vv (s.size - 1)
      have hpl := pts_len vv (s.size - 1)
      have HPS := Lib.hid (show points P s.data.toList left right = (pts vv (s.size - 1)).filter (farB (s.size : Int) left right) by unfold points; rw [HVV.out, HSL.out])
      generalize hps : pts vv (s.size - 1) = ps at hpb hpl HPS
      have hown := HP.out.own
      rw [hps] at hown
      have HOW := Lib.hid hown
      have HPB := Lib.hid hpb
      clear hps hown hpb
      obtain ⟨A, c, hu⟩ : ∃ A c, u10 = .slice A ps.length c := by
        rcases HOW.out.2 with ⟨rfl, h0⟩ | ⟨g, cap, cur, h', _⟩
        · exact ⟨none, 0, by rw [h0]⟩
        · exact ⟨_, _, h'⟩
      have HU := Lib.hid hu
      rw [hu]
      clear hu
      go_wp2_with fail
      obtain ⟨wo, hwo⟩ : ∃ wo, wo = wr := ⟨wr, rfl⟩
      subst hwo
      go_loopw [15, 68] (fun v15 v68 w3 => ∃ k : Nat, k ≤ ps.length ∧ v68 = .int .i64 (k : Int) ∧ Pt2 wo ps (s.size : Int) left right k v15 w3) (fun _ v68 _ => ps.length - (intOf v68).toNat)
      case atStart => exact ⟨0, by omega, rfl, World.ownsRow_nil _ _ _ _, Below.refl _ _⟩
      case round =>
        obtain ⟨k, hk, rfl, hQ⟩ := hrel
        have HQ := Lib.hid hQ
        by_cases hlt2 : k < ps.length
        · obtain ⟨x, hx⟩ := get_some hlt2
          obtain ⟨g, c', hgu, hgl, hgc⟩ := own_get HOW.out hx
          rw [HU.out] at hgu
          injection hgu with hgA _ _
          subst hgA
          have hcx : wr.cell? ⟨g, k, none⟩ = some (.int .i64 x) := (hQ.low.cell (p := ⟨g, k, none⟩) hgl).trans hgc
          obtain ⟨x1, x2⟩ := HPB.out x (List.mem_of_getElem? hx)
          have HX := Lib.hid hx
          have hfl : ((ps.take k).filter (farB (s.size : Int) left right)).length ≤ 63 := by
            have := List.length_filter_le (farB (s.size : Int) left right) (ps.take k)
            rw [List.length_take] at this
            omega
          have hxn : x ≤ (s.size : Int) := by omega
          clear hQ hgc hx
          have HFB := Lib.hid (show farB (s.size : Int) left right x = (decide (left ≤ x) && decide (right ≤ (s.size : Int) - x)) from rfl)
          by_cases hc1 : left ≤ x
          · by_cases hc2 : right ≤ (s.size : Int) - x
            · have HT := Lib.hid (show farB (s.size : Int) left right x = true by rw [HFB.out]; simp [hc1, hc2])
              go_wp2_with (at_builtin; refine wpList_push rfl _ _ 42 rfl wo.heap.size 3 _ 1 8 Try.underlying42 info_int rfl (by decide) (by decide) _ _ _ rfl HQ.out.own HQ.out.low.size _ rfl rfl rfl (by simp) (by omega) ?_; intro v7 w7 hown7 hg7 hn7; have HQ7 := Lib.hid (HQ.out.push HX.out HT.out hown7 hg7); clear hown7 hg7)
              go_roundw
              case rel => exact ⟨v7, _, _, ⟨k + 1, by omega, by go_num, HQ7.out⟩, rfl, rfl, rfl⟩
              case measure => simp [intOf]; omega
            · have HT := Lib.hid (HQ.out.skip HX.out (show farB (s.size : Int) left right x = false by rw [HFB.out]; simp [hc2]))
              go_wp2_with fail
              go_roundw
              case rel => exact ⟨k + 1, by omega, by go_num, HT.out⟩
              case measure => simp [intOf]; omega
          · have HT := Lib.hid (HQ.out.skip HX.out (show farB (s.size : Int) left right x = false by rw [HFB.out]; simp [hc1]))
            go_wp2_with fail
            go_roundw
            case rel => exact ⟨k + 1, by omega, by go_num, HT.out⟩
            case measure => simp [intOf]; omega
        · obtain rfl : k = ps.length := by omega
          clear hQ
          go_wp2_with fail
          go_ret2
          have h := HQ.out.own
          rw [List.take_length, ← HPS.out] at h
          have hlow : Below w'.heap.size w' wr := HB.out.2.trans (((HP.out.low.mono HB.out.2.size)).trans (HQ.out.low.mono (Nat.le_trans HB.out.2.size HP.out.low.size)))
          refine ⟨hlow, _, rfl, own_base h (Nat.le_trans HB.out.2.size HP.out.low.size)⟩
end Go.Proofs.Ytmcekdjhkjhcdaa.Hy
