import Derived.Test.YtmcekdjhkjhcdaaHmg
import Derived.Test.YtmcekdjhkjhcdaaHyi
import Derived.BigRegion
/- The document's Points. Conditions: those that each theorem names. -/
namespace Go.Proofs.Ytmcekdjhkjhcdaa.Hy
open Go.ChangeShapes Go.WideShapes Go.ChangeAt Go.RowKit
open Me Hp
set_option linter.unusedVariables false
set_option linter.unusedSimpArgs false
set_option maxRecDepth 100000 in
theorem rvalues_bad (q : Nat) (s : ByteArray) (w : World) (hs : s.size ≤ 1048576) (hw : wordB s.data.toList = false) :
    Calls Try.prog 88 #[.pointer (some ⟨q, 0, none⟩), .string s] w fun e w' => e = .returned (.tuple #[.slice none 0 0, .int .i64 70]) ∧ w' = w := by
  have HW := Lib.hid (rword_any s w hs)
  rw [hw] at HW
  clear hw
  go_enter Try.func88, Try.ntmps88
  go_upto_region 2 with (go_at_call 84; refine HW.out.mono ?_; rintro e w' ⟨rfl, rfl⟩)
  go_wp2_with fail
  go_returns
  exact ⟨rfl, rfl⟩
set_option maxRecDepth 100000 in
theorem rpoints_bad (q : Nat) (s : ByteArray) (left right : Int) (w : World) (hs : s.size ≤ 1048576) (hw : wordB s.data.toList = false) :
    Calls Try.prog 90 #[.pointer (some ⟨q, 0, none⟩), .string s, .int .i64 left, .int .i64 right] w fun e w' => e = .returned (.tuple #[.slice none 0 0, .int .i64 70]) ∧ w' = w := by
  have HW := Lib.hid (rvalues_bad q s w hs hw)
  clear hw
  go_enter Try.func90, Try.ntmps90
  go_wp2_with (go_at_call 88; refine HW.out.mono ?_; rintro e w' ⟨rfl, rfl⟩)
  go_returns
  exact ⟨rfl, rfl⟩
set_option maxRecDepth 100000 in
theorem rpoints_far (B q0 : Nat) (L X : List Xc) (pv xv : Value) (s : ByteArray) (left right : Int) (w : World) (hs : s.size ≤ 1048576) (hw : wordB s.data.toList = true) (h : DAt w B q0 L X pv xv) (hP : Pats L) (hlr : left < 1 ∨ right < 1) :
    Calls Try.prog 90 #[.pointer (some ⟨q0, 0, none⟩), .string s, .int .i64 left, .int .i64 right] w fun e w' => e = .returned (.tuple #[.slice none 0 0, .int .i64 11]) ∧ Below w.heap.size w w' := by
  have HW := Lib.hid (rvalues_ok B q0 L X pv xv s w hs hw h hP)
  clear hw h hP
  by_cases h1 : left < 1
  · go_enter Try.func90, Try.ntmps90
    go_wp2_with (go_at_call 88; refine HW.out.mono ?_; rintro e w' ⟨rfl, hb, hl⟩; have HL := Lib.hid hl; clear hb hl)
    go_returns
    exact ⟨rfl, HL.out⟩
  · have h2 : right < 1 := by omega
    go_enter Try.func90, Try.ntmps90
    go_wp2_with (go_at_call 88; refine HW.out.mono ?_; rintro e w' ⟨rfl, hb, hl⟩; have HL := Lib.hid hl; clear hb hl)
    go_returns
    exact ⟨rfl, HL.out⟩
/-- Whether a point stands at i: by the value, or by the exceptions looked at so far. -/
def odj (X : List Xc) (l : Nm) (b : Bool) (i : Int) (j : Nat) : Bool := (X.take j).foldl (fun b x => if x.1 = l then decide (i ∈ x.2) else b) b
theorem odj_succ {X : List Xc} {j : Nat} {x : Xc} (h : X[j]? = some x) (l : Nm) (b : Bool) (i : Int) : odj X l b i (j + 1) = if x.1 = l then decide (i ∈ x.2) else odj X l b i j := by
  unfold odj
  rw [List.take_add_one, h, List.foldl_append]
  rfl
theorem odj_none {X : List Xc} {l : Nm} (h : ∀ x ∈ X, x.1 ≠ l) (b : Bool) (i : Int) : ∀ j, odj X l b i j = b := by
  intro j
  induction j with
  | zero => rfl
  | succ j ih =>
    cases hx : X[j]? with
    | none => unfold odj at ih ⊢; rw [List.take_add_one, hx]; simpa using ih
    | some x => rw [odj_succ hx, if_neg (h x (List.mem_of_getElem? hx)), ih]
theorem odj_one {X : List Xc} {l : Nm} {k : Nat} {x : Xc} (hx : X[k]? = some x) (hl : x.1 = l) (hu : ∀ j y, X[j]? = some y → y.1 = l → j = k) (b : Bool) (i : Int) : ∀ j, k < j → odj X l b i j = decide (i ∈ x.2) := by
  intro j
  induction j with
  | zero => intro h; omega
  | succ j ih =>
    intro h
    cases hy : X[j]? with
    | none =>
      have hj : k < j := by
        rcases Nat.lt_or_ge k j with h2 | h2
        · exact h2
        · obtain rfl : j = k := by omega
          rw [hx] at hy; cases hy
      have := ih hj
      unfold odj at this ⊢; rw [List.take_add_one, hy]; simpa using this
    | some y =>
      rw [odj_succ hy]
      by_cases hyl : y.1 = l
      · obtain rfl := hu j y hy hyl
        rw [hx] at hy
        injection hy with hy
        subst hy
        rw [if_pos hyl]
      · rw [if_neg hyl]
        refine ih ?_
        rcases Nat.lt_or_ge k j with h2 | h2
        · exact h2
        · obtain rfl : j = k := by omega
          rw [hx] at hy
          injection hy with hy
          subst hy
          exact absurd hl hyl
/-- The points that the document gathers. -/
def ptd (X : List Xc) (v : List Int) (l : Nm) (n left right : Int) (k : Nat) : List Int := (List.range k).filterMap fun i => if (odj X l (decide ((v.getD i 0).tmod 2 = 1)) ((i : Int) + 1) X.length && farB n left right ((i : Int) + 1)) = true then some ((i : Int) + 1) else none
theorem ptd_succ (X : List Xc) (v : List Int) (l : Nm) (n left right : Int) (k : Nat) : ptd X v l n left right (k + 1) = ptd X v l n left right k ++ (if (odj X l (decide ((v.getD k 0).tmod 2 = 1)) ((k : Int) + 1) X.length && farB n left right ((k : Int) + 1)) = true then [(k : Int) + 1] else []) := by
  unfold ptd
  rw [List.range_succ, List.filterMap_append]
  congr 1
  generalize hb : (odj X l (decide ((v.getD k 0).tmod 2 = 1)) ((k : Int) + 1) X.length && farB n left right ((k : Int) + 1)) = b
  simp only [List.filterMap_cons, List.filterMap_nil, hb]
  cases b <;> simp
theorem ptd_len (X : List Xc) (v : List Int) (l : Nm) (n left right : Int) (k : Nat) : (ptd X v l n left right k).length ≤ k := by
  unfold ptd
  have := List.length_filterMap_le (fun i : Nat => if (odj X l (decide ((v.getD i 0).tmod 2 = 1)) ((i : Int) + 1) X.length && farB n left right ((i : Int) + 1)) = true then some ((i : Int) + 1) else none) (List.range k)
  simpa using this
theorem fm_congr {f g : Nat → Option Int} : ∀ {l : List Nat}, (∀ i ∈ l, f i = g i) → l.filterMap f = l.filterMap g
  | [], _ => rfl
  | a :: l, h => by
    rw [List.filterMap_cons, List.filterMap_cons, h a (by simp), fm_congr (l := l) fun i hi => h i (by simp [hi])]
theorem rise_list {ps : List Int} (hr : ps.Pairwise (· < ·)) : ∀ (n : Nat), (∀ p ∈ ps, 1 ≤ p ∧ p ≤ (n : Int)) → (List.range n).filterMap (fun i : Nat => if ((i : Int) + 1) ∈ ps then some ((i : Int) + 1) else none) = ps := by
  intro n
  induction n generalizing ps with
  | zero =>
    intro h
    cases ps with
    | nil => rfl
    | cons p ps => have := h p (by simp); omega
  | succ n ih =>
    intro h
    rw [List.range_succ, List.filterMap_append]
    rcases List.eq_nil_or_concat ps with rfl | ⟨qs, q, rfl⟩
    · simp
    · rw [List.concat_eq_append] at hr h ⊢
      rw [List.pairwise_append] at hr
      have hq := h q (by simp)
      have hlt : ∀ p ∈ qs, p < q := fun p hp => hr.2.2 p hp q (by simp)
      by_cases hqn : q = (n : Int) + 1
      · subst hqn
        have e1 : (List.range n).filterMap (fun i : Nat => if ((i : Int) + 1) ∈ qs ++ [(n : Int) + 1] then some ((i : Int) + 1) else none) = (List.range n).filterMap (fun i : Nat => if ((i : Int) + 1) ∈ qs then some ((i : Int) + 1) else none) := by
          refine fm_congr fun i hi => ?_
          rw [List.mem_range] at hi
          have e2 : ((i : Int) + 1 ∈ qs ++ [(n : Int) + 1]) ↔ ((i : Int) + 1 ∈ qs) := by
            rw [List.mem_append]
            constructor
            · rintro (h | h)
              · exact h
              · rw [List.mem_singleton] at h; omega
            · exact .inl
          simp only [e2]
        rw [e1, ih hr.1 (fun p hp => ⟨(h p (by simp [hp])).1, by have := hlt p hp; omega⟩)]
        simp
      · have h2 : ∀ p ∈ qs ++ [q], 1 ≤ p ∧ p ≤ (n : Int) := by
          intro p hp
          refine ⟨(h p hp).1, ?_⟩
          rw [List.mem_append, List.mem_singleton] at hp
          rcases hp with hp | hp
          · have := hlt p hp; omega
          · omega
        rw [ih (by rw [List.pairwise_append]; exact hr) h2]
        have e3 : ((n : Int) + 1 ∈ qs ++ [q]) ↔ False := by
          constructor
          · intro hh; have := h2 _ hh; omega
          · exact False.elim
        simp only [List.filterMap_cons, List.filterMap_nil, e3, if_false, List.append_nil]
theorem ptd_fm (b : Nat → Bool) (f : Int → Bool) (n : Nat) : (List.range n).filterMap (fun i : Nat => if (b i && f ((i : Int) + 1)) = true then some ((i : Int) + 1) else none) = ((List.range n).filterMap (fun i : Nat => if b i = true then some ((i : Int) + 1) else none)).filter f := by
  rw [List.filter_filterMap]
  refine fm_congr fun i _ => ?_
  cases b i <;> simp [Option.filter]
/-- They are those that the program finds. -/
theorem ptd_all {L X : List Xc} (hX : Exs X) (l : Nm) (left right : Int) : ptd X (vals L l) l (l.length : Int) left right (l.length - 1) = (ptsB L X l).filter (farB (l.length : Int) left right) := by
  unfold ptd
  rw [ptd_fm (fun i => odj X l (decide (((vals L l).getD i 0).tmod 2 = 1)) ((i : Int) + 1) X.length)]
  congr 1
  unfold ptsB
  cases hh : xhas X l
  · rw [if_neg (by simp)]
    unfold pts
    refine fm_congr fun i _ => ?_
    rw [odj_none (xhas_no hX.sor hh)]
    simp
  · obtain ⟨x, hx, hxl⟩ := xhas_at hh
    rw [if_pos rfl, hx, Option.getD_some]
    have hi := hX.is x (List.mem_of_getElem? hx)
    have hu : ∀ j y, X[j]? = some y → y.1 = l → j = xk X l := by
      intro j y hy hyl
      have h1 := (List.getElem?_eq_some_iff.1 hx).1
      have h2 := (List.getElem?_eq_some_iff.1 hy).1
      rcases Nat.lt_trichotomy j (xk X l) with h | h | h
      · have := xk_before h hy
        rw [hyl, lw_irr] at this; cases this
      · exact h
      · have := List.pairwise_iff_getElem.1 hX.sor (xk X l) j h1 h2 h
        rw [(List.getElem?_eq_some_iff.1 hx).2, (List.getElem?_eq_some_iff.1 hy).2, hxl, hyl, lw_irr] at this
        cases this
    have hk := (List.getElem?_eq_some_iff.1 hx).1
    have e : (List.range (l.length - 1)).filterMap (fun i : Nat => if odj X l (decide (((vals L l).getD i 0).tmod 2 = 1)) ((i : Int) + 1) X.length = true then some ((i : Int) + 1) else none) = (List.range (l.length - 1)).filterMap (fun i : Nat => if ((i : Int) + 1) ∈ x.2 then some ((i : Int) + 1) else none) := by
      refine fm_congr fun i _ => ?_
      rw [odj_one hx hxl hu _ _ _ hk]
      simp
    rw [e]
    refine rise_list hi.rise _ fun p hp => ?_
    have := hi.bd p hp
    rw [hxl] at this
    omega
set_option maxHeartbeats 4000000 in
set_option maxRecDepth 100000 in
theorem rpoints_ok (B q0 : Nat) (L X : List Xc) (pv xv : Value) (s : ByteArray) (left right : Int) (w : World) (hs : s.size ≤ 1048576) (hw : wordB s.data.toList = true) (h : DAt w B q0 L X pv xv) (hP : Pats L) (hX : Exs X) (hl : 1 ≤ left) (hr : 1 ≤ right) :
    Calls Try.prog 90 #[.pointer (some ⟨q0, 0, none⟩), .string s, .int .i64 left, .int .i64 right] w fun e w' => Below w.heap.size w w' ∧ ∃ u, e = .returned (.tuple #[u, .int .i64 0]) ∧ w'.ownsRow w.heap.size 3 1 u ((ptsB L X s.data.toList).filter (farB (s.size : Int) left right)).length (((ptsB L X s.data.toList).filter (farB (s.size : Int) left right)).map iv) := by
  obtain ⟨h1, h2, h3⟩ := wordB_is hw
  rw [size_list] at h1 h2
  have HV := Lib.hid (rvalues_ok B q0 L X pv xv s w hs hw h hP)
  have HD := Lib.hid (fun W (hb : Below w.heap.size w W) => h.below hb)
  have HX := Lib.hid hX
  have hfx : X.length ≤ 1000 := hX.few
  have HALL := Lib.hid (ptd_all (L := L) hX s.data.toList left right)
  have HSL := Lib.hid (size_list s)
  have hll : (vals L s.data.toList).length = s.size - 1 := by rw [vals_len, size_list]
  obtain ⟨A, cP, rfl, hnc, hcm, hA⟩ := h.xr.slice
  generalize hln : X.length = n at *
  have HLN := Lib.hid hln
  have HVC := Lib.hid (fun (W : World) (g k : Nat) (hb : Blk W g 3 (arr (vrow L s.data.toList))) (hk : k < s.size - 1) => vals_cell hb (k := k) (by rw [size_list]; exact hk))
  clear h hP hw h3 hX hln
  go_enter Try.func90, Try.ntmps90
  go_wp2_with (go_at_call 88; refine HV.out.mono ?_; rintro e w1 ⟨rfl, hblk, hlow⟩; have HB := Lib.hid (And.intro hblk hlow); clear hblk hlow)
  obtain ⟨wo, hwo⟩ : ∃ wo, wo = w1 := ⟨w1, rfl⟩
  subst hwo
  generalize hvv : vals L s.data.toList = vv at *
  generalize hnm : s.data.toList = l at *
  have HNM := Lib.hid hnm
  clear hnm HV hvv
  go_loopw [12, 13] (fun v12 v13 wr => ∃ k : Nat, k ≤ s.size - 1 ∧ v13 = .int .i64 ((k : Int) + 1) ∧ wr.ownsRow wo.heap.size 3 1 v12 (ptd X vv l (s.size : Int) left right k).length ((ptd X vv l (s.size : Int) left right k).map iv) ∧ Below wo.heap.size wo wr) (fun _ v13 _ => s.size - (intOf v13).toNat)
  case atStart => exact ⟨0, by omega, rfl, World.ownsRow_nil _ _ _ _, Below.refl _ _⟩
  case round =>
    obtain ⟨k, hk, rfl, hown, hlow⟩ := hrel
    have HOW := Lib.hid hown
    have HLO := Lib.hid hlow
    by_cases hlt : k < s.size - 1
    · have hcell : wr.cell? ⟨w.heap.size, 2 + k, none⟩ = some (.int .i64 (vv.getD k 0)) := (hlow.cell (p := ⟨w.heap.size, 2 + k, none⟩) HB.out.1.lt).trans (HVC.out wo w.heap.size k HB.out.1 hlt)
      have hki : (k : Int) + 1 < (s.size : Int) := by omega
      have hpl := ptd_len X vv l (s.size : Int) left right k
      have HSC := Lib.hid (ptd_succ X vv l (s.size : Int) left right k)
      have hww : Below w.heap.size w wr := andThen HB.out.2 hlow
      have hdd := HD.out wr hww
      have cq : wr.cell? ⟨q0, 1, none⟩ = some (.slice A n cP) := hdd.blk.cell 1
      have HXR := Lib.hid hdd.xr
      clear hown hlow hdd
      generalize hx : vv.getD k 0 = x at hcell HSC
      clear hx
      go_wp2_with fail
      obtain ⟨w5, hw5⟩ : ∃ w5, w5 = wr := ⟨wr, rfl⟩
      subst hw5
      go_loopw [14, 15, 16] (fun v14 v15 v16 wr => ∃ j : Nat, j ≤ n ∧ v14 = .bool (odj X l (decide (x.tmod 2 = 1)) ((k : Int) + 1) j) ∧ v15 = .int .i64 (j : Int) ∧ wr = w5) (fun _ v15 _ _ => n - (intOf v15).toNat)
      case atStart => exact ⟨0, by omega, rfl, rfl, rfl⟩
      case round =>
        obtain ⟨j, hj, rfl, rfl, rfl⟩ := hrel
        by_cases hjn : j < n
        · obtain ⟨y, hy⟩ := get_some (l := X) (k := j) (by rw [HLN.out]; exact hjn)
          obtain ⟨gP, cP', u, he, _, _, hgl, cy, cu, hu⟩ := HXR.out.get hy
          injection he with he e2 e3
          subst he
          subst e3
          clear e2
          obtain ⟨Au, cu2, rfl, _⟩ := own_sl hu
          have HU := Lib.hid hu
          have HOJ := Lib.hid (odj_succ hy l (decide (x.tmod 2 = 1)) ((k : Int) + 1))
          have hyf : y.2.length ≤ 63 := x_few (HX.out.is y (List.mem_of_getElem? hy))
          have hjni : (j : Int) < (n : Int) := by omega
          have hsl := S_lst y.1
          have hsl2 : s.toList = l := by rw [ByteArray.toList_eq]; exact HNM.out
          have HQ := Lib.hid (show (y.1 = l → ((S y.1).toList == s.toList) = true) ∧ (y.1 ≠ l → ((S y.1).toList == s.toList) = false) by
            rw [hsl, hsl2]
            exact ⟨fun h => by rw [h]; exact beq_self_eq_true _, fun h => beq_eq_false_iff_ne.2 h⟩)
          clear hy hu hsl hsl2
          obtain ⟨y1, ps⟩ := y
          simp only at HQ HOJ cy cu HU hyf
          generalize S y1 = Y at cy HQ
          generalize odj X l (decide (x.tmod 2 = 1)) ((k : Int) + 1) j = b1 at *
          generalize hm : ps.length = m at *
          by_cases hyl : y1 = l
          · have hq := HQ.out.1 hyl
            have HYL := Lib.hid hyl
            clear hyl
            go_wp2_with fail
            obtain ⟨w7, hw7⟩ : ∃ w7, w7 = wr := ⟨wr, rfl⟩
            subst hw7
            go_loopw [14, 16] (fun v14 v16 wr => ∃ q : Nat, q ≤ m ∧ v14 = .bool (decide (((k : Int) + 1) ∈ ps.take q)) ∧ v16 = .int .i64 (q : Int) ∧ wr = w7) (fun _ v16 _ => m - (intOf v16).toNat)
            case atStart => exact ⟨0, by omega, by rw [show decide (((k : Int) + 1) ∈ ps.take 0) = false from decide_eq_false (by simp)], rfl, rfl⟩
            case round =>
              obtain ⟨q, hq7, rfl, rfl, rfl⟩ := hrel
              by_cases hqm : q < m
              · obtain ⟨z, hz⟩ := get_some (l := ps) (k := q) (by rw [hm]; exact hqm)
                obtain ⟨g, c', hgu, hgl7, hgc⟩ := own_get HU.out hz
                injection hgu with hgA e2 e3
                subst hgA
                clear e2 e3
                have hqi : (q : Int) < (m : Int) := by omega
                have HTS := Lib.hid (show decide (((k : Int) + 1) ∈ ps.take (q + 1)) = (decide (((k : Int) + 1) ∈ ps.take q) || decide (z = (k : Int) + 1)) by
                  rw [List.take_add_one, hz]
                  simp [eq_comm])
                clear hz
                generalize hD : decide (((k : Int) + 1) ∈ ps.take q) = D at *
                cases D
                · by_cases hzk : z = (k : Int) + 1
                  · have HZ := Lib.hid hzk
                    subst hzk
                    go_wp2_with fail
                    go_roundw
                    case rel => exact ⟨q + 1, by omega, by rw [HTS.out]; simp, by go_num, trivial⟩
                    case measure => clear hqi; simp [intOf]; omega
                  · go_wp2_with fail
                    go_roundw
                    case rel => exact ⟨q + 1, by omega, by rw [HTS.out]; simp [hzk], by go_num, trivial⟩
                    case measure => clear hqi; simp [intOf]; omega
                · go_wp2_with fail
                  go_roundw
                  case rel => exact ⟨q + 1, by omega, by rw [HTS.out]; simp, by go_num, trivial⟩
                  case measure => clear hqi; simp [intOf]; omega
              · obtain rfl : q = m := by omega
                have hqi : ¬ (q : Int) < (q : Int) := by omega
                go_wp2_with fail
                go_roundw
                case rel => exact ⟨j + 1, by omega, by rw [HOJ.out, if_pos HYL.out, List.take_of_length_le (by omega)], by go_num, trivial⟩
                case measure => clear hjni; simp [intOf]; omega
          · have hq := HQ.out.2 hyl
            have HYL := Lib.hid hyl
            clear hyl
            go_wp2_with fail
            go_roundw
            case rel => exact ⟨j + 1, by omega, by rw [HOJ.out, if_neg HYL.out], by go_num, trivial⟩
            case measure => clear hjni; simp [intOf]; omega
        · obtain rfl : j = n := by omega
          have hjni : ¬ (j : Int) < (j : Int) := by omega
          have hpl2 : (ptd X vv l (s.size : Int) left right k).length ≤ 63 := by omega
          rw [HLN.out] at HSC
          have HFB := Lib.hid (show farB (s.size : Int) left right ((k : Int) + 1) = (decide (left ≤ (k : Int) + 1) && decide (right ≤ (s.size : Int) - ((k : Int) + 1))) from rfl)
          generalize odj X l (decide (x.tmod 2 = 1)) ((k : Int) + 1) j = b1 at *
          have HPUSH := Lib.hid (fun (hb : b1 = true) (hf : farB (s.size : Int) left right ((k : Int) + 1) = true) => show ptd X vv l (s.size : Int) left right (k + 1) = ptd X vv l (s.size : Int) left right k ++ [(k : Int) + 1] by rw [HSC.out, hb, hf]; rfl)
          have HSKIP := Lib.hid (fun (hb : (b1 && farB (s.size : Int) left right ((k : Int) + 1)) = false) => show ptd X vv l (s.size : Int) left right (k + 1) = ptd X vv l (s.size : Int) left right k by rw [HSC.out, hb]; simp)
          clear HSC
          cases b1
          · go_wp2_with fail
            go_roundw
            case rel => exact ⟨k + 1, by omega, by go_num, by rw [HSKIP.out rfl]; exact HOW.out, HLO.out⟩
            case measure => clear hki; simp [intOf]; omega
          · by_cases hc1 : left ≤ (k : Int) + 1
            · by_cases hc2 : right ≤ (s.size : Int) - ((k : Int) + 1)
              · have HT := Lib.hid (HPUSH.out rfl (by rw [HFB.out]; simp [hc1, hc2]))
                go_wp2_with (at_builtin; refine wpList_push rfl _ _ 42 rfl wo.heap.size 3 _ 1 8 Try.underlying42 info_int rfl (by decide) (by decide) _ _ _ rfl HOW.out HLO.out.size _ rfl rfl rfl (by simp) (by omega) ?_; intro v7 w7 hown7 hg7 hn7; have HQ7 := Lib.hid (And.intro hown7 (below_grown (Nat.le_refl _) (andAlloc HLO.out _) hg7 (fun k hk => (HOW.out.lt k hk).1))); clear hown7 hg7 hn7)
                go_roundw
                case rel => exact ⟨k + 1, by omega, by go_num, by rw [HT.out]; simpa using HQ7.out.1, HQ7.out.2⟩
                case measure => clear hki; simp [intOf]; omega
              · have HT := Lib.hid (HSKIP.out (by rw [HFB.out]; simp [hc2]))
                go_wp2_with fail
                go_roundw
                case rel => exact ⟨k + 1, by omega, by go_num, by rw [HT.out]; exact HOW.out, HLO.out⟩
                case measure => clear hki; simp [intOf]; omega
            · have HT := Lib.hid (HSKIP.out (by rw [HFB.out]; simp [hc1]))
              go_wp2_with fail
              go_roundw
              case rel => exact ⟨k + 1, by omega, by go_num, by rw [HT.out]; exact HOW.out, HLO.out⟩
              case measure => clear hki; simp [intOf]; omega
    · obtain rfl : k = s.size - 1 := by omega
      have hki : ¬ ((s.size - 1 : Nat) : Int) + 1 < (s.size : Int) := by omega
      clear hown hlow
      go_wp2_with fail
      go_returns
      have h := HOW.out
      have h2 := HALL.out
      rw [HSL.out] at h2
      rw [h2] at h
      rw [← HNM.out] at h
      exact ⟨andThen HB.out.2 HLO.out, _, rfl, own_base h HB.out.2.size⟩
/-- The document's Points answers as the program's. -/
theorem rpoints_any (B q : Nat) (L X : List Xc) (pv xv : Value) (s : ByteArray) (left right : Int) (w : World) (hs : s.size ≤ 1048576) (h : DAt w B q L X pv xv) (hP : Pats L) (hX : Exs X) :
    Calls Try.prog 90 #[.pointer (some ⟨q, 0, none⟩), .string s, .int .i64 left, .int .i64 right] w fun e w' => Below w.heap.size w w' ∧ ∃ u, e = .returned (.tuple #[u, .int .i64 (ptsE s.data.toList left right)]) ∧ w'.ownsRow w.heap.size 3 1 u (ptsX L X s.data.toList left right).length ((ptsX L X s.data.toList left right).map iv) := by
  cases hw : wordB s.data.toList
  · refine (rpoints_bad q s left right w hs hw).mono ?_
    rintro e w' ⟨rfl, rfl⟩
    have e1 : ptsX L X s.data.toList left right = [] := if_neg (by rw [hw]; simp)
    have e2 : ptsE s.data.toList left right = 70 := if_neg (by rw [hw]; simp)
    rw [e1, e2]
    exact ⟨Below.refl _ _, _, rfl, World.ownsRow_nil _ _ _ _⟩
  · by_cases hlr : 1 ≤ left ∧ 1 ≤ right
    · have e1 : ptsX L X s.data.toList left right = (ptsB L X s.data.toList).filter (farB (s.data.toList.length : Int) left right) := if_pos ⟨hw, hlr⟩
      have e2 : ptsE s.data.toList left right = 0 := by unfold ptsE; rw [if_pos hw, if_pos hlr]
      rw [e1, e2, size_list]
      exact rpoints_ok B q L X pv xv s left right w hs hw h hP hX hlr.1 hlr.2
    · refine (rpoints_far B q L X pv xv s left right w hs hw h hP (by omega)).mono ?_
      rintro e w' ⟨rfl, hb⟩
      have e1 : ptsX L X s.data.toList left right = [] := if_neg (fun hh => hlr hh.2)
      have e2 : ptsE s.data.toList left right = 11 := by unfold ptsE; rw [if_pos hw, if_neg hlr]
      rw [e1, e2]
      exact ⟨hb, _, rfl, World.ownsRow_nil _ _ _ _⟩
end Go.Proofs.Ytmcekdjhkjhcdaa.Hy
