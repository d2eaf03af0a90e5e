import Derived.Test.YtmcekdjhkjhcdaaHme
import Derived.BigRegion
import Derived.Lib.MinMax
/- The document's Values. Conditions: those that each theorem names. -/
namespace Go.Proofs.Ytmcekdjhkjhcdaa.Hy
open Go.ChangeShapes Go.WideShapes Go.ChangeAt Go.RowKit
open Me Hp
set_option linter.unusedVariables false
set_option linter.unusedSimpArgs false
def fitB (s e : Nm) (i : Nat) : Bool := decide ((e.drop i).take s.length = s)
set_option maxHeartbeats 2000000 in
set_option maxRecDepth 100000 in
theorem rfits_any (s e : Nm) (i : Nat) (A3 : Option Addr) (n3 c3 : Nat) (w : World) (hs : s.length ≤ 63) (he : e.length ≤ 65) (hi : i < e.length) :
    Calls Try.prog 137 #[.agg #[.string (S s), .slice A3 n3 c3], .string (S e), .int .i64 (i : Int)] w fun ee w' => ee = .returned (.bool (fitB s e i)) ∧ Below w.heap.size w w' := by
  have hz1 : (S s).size = s.length := rfl
  have hz2 : (S e).size = e.length := rfl
  have HEQ := Lib.hid (show i + s.length ≤ e.length → (((S e).extract i (i + (S s).size)).toList == (S s).toList) = fitB s e i from fun h => by
    have e1 : ((S e).extract i (i + (S s).size)).toList = (e.drop i).take s.length := by
      rw [ext_eq, S_lst, S_list, hz1, List.drop_take, Nat.add_sub_cancel_left]
    rw [e1, S_lst]
    unfold fitB
    by_cases hh : (e.drop i).take s.length = s
    · rw [decide_eq_true hh, hh]; exact beq_self_eq_true _
    · rw [decide_eq_false hh, beq_eq_false_iff_ne]; exact hh)
  have HNO := Lib.hid (show ¬ i + s.length ≤ e.length → fitB s e i = false from fun h => by
    unfold fitB
    refine decide_eq_false fun hh => ?_
    have := congrArg List.length hh
    rw [List.length_take, List.length_drop] at this
    omega)
  rw [← hz1, ← hz2] at HEQ HNO
  rw [← hz1] at hs
  rw [← hz2] at he hi
  clear hz1 hz2
  generalize fitB s e i = F at *
  generalize S s = Z at *
  generalize S e = E at *
  have hw : IntKind.i64.wrap ((i : Int) + (Z.size : Int)) = (i : Int) + Z.size := IntWalk.i64_in _ (by omega)
  by_cases h1 : i + Z.size ≤ E.size
  · have hF := HEQ.out h1
    have hd1 : (i : Int) + (Z.size : Int) ≤ (E.size : Int) := by omega
    have hd2 : decide ((i : Int) + (Z.size : Int) ≤ (E.size : Int)) = true := decide_eq_true hd1
    have hd3 : (i : Int) ≤ (i : Int) + (Z.size : Int) := by omega
    have hd4 : (0 : Int) ≤ (i : Int) + (Z.size : Int) := by omega
    have htn : ((i : Int) + (Z.size : Int)).toNat = i + Z.size := by omega
    have HF := Lib.hid hF
    clear HEQ HNO
    go_enter Try.func137, Try.ntmps137
    go_wp2_with fail
    go_quiet (fail)
    go_wp2_with fail
    go_ret
    exact ⟨by first | rfl | (rw [HF.out]; done) | (rw [hF]), below_drewN (andAlloc (Below.refl _ _) _) _⟩
  · have hF := HNO.out h1
    subst hF
    have hd2 : decide ((i : Int) + (Z.size : Int) ≤ (E.size : Int)) = false := decide_eq_false (by omega)
    have hd3 : decide (i + Z.size ≤ E.size) = false := decide_eq_false h1
    clear HEQ HNO
    go_enter Try.func137, Try.ntmps137
    go_wp2_with fail
    go_quiet (fail)
    go_wp2_with fail
    go_ret
    exact ⟨rfl, below_drewN (andAlloc (Below.refl _ _) _) _⟩
/-- What the document gathers, pattern by pattern. -/
def yd1 (p : Pt) (e : Nm) (t : Nat) : List Yd := (List.range t).filterMap fun i => if fitB p.1 e i = true then some (i, p.2) else none
theorem yd1_succ (p : Pt) (e : Nm) (t : Nat) : yd1 p e (t + 1) = yd1 p e t ++ (if fitB p.1 e t = true then [(t, p.2)] else []) := by
  unfold yd1
  rw [List.range_succ, List.filterMap_append]
  congr 1
  cases h : fitB p.1 e t <;> simp [h]
def yds (L : List Pt) (e : Nm) : List Yd := L.flatMap fun p => yd1 p e e.length
theorem yds_take {L : List Pt} {k : Nat} {p : Pt} (h : L[k]? = some p) (e : Nm) : yds (L.take (k + 1)) e = yds (L.take k) e ++ yd1 p e e.length := by
  unfold yds
  rw [List.take_add_one, h, List.flatMap_append]
  simp
theorem mem_yds {L : List Pt} {e : Nm} {y : Yd} : y ∈ yds L e ↔ ∃ s, (s, y.2) ∈ L ∧ y.1 < e.length ∧ (e.drop y.1).take s.length = s := by
  unfold yds yd1
  simp only [List.mem_flatMap, List.mem_filterMap, List.mem_range]
  constructor
  · rintro ⟨p, hp, i, hi, h⟩
    cases hf : fitB p.1 e i
    · rw [hf] at h; simp at h
    · rw [hf] at h
      simp only [if_true, Option.some.injEq] at h
      subst h
      exact ⟨p.1, hp, hi, of_decide_eq_true hf⟩
  · rintro ⟨s, hs, hi, hf⟩
    exact ⟨(s, y.2), hs, y.1, hi, by rw [if_pos (show fitB s e y.1 = true from decide_eq_true hf)]⟩
theorem mx_same {a b : List Yd} (h : ∀ y, y ∈ a ↔ y ∈ b) (k : Nat) : mx a k = mx b k := by
  have h1 := (mx_le a k (mx b k)).2 ⟨mx_nonneg b k, fun y hy => cb_le_mx ((h y).1 hy) k⟩
  have h2 := (mx_le b k (mx a k)).2 ⟨mx_nonneg a k, fun y hy => cb_le_mx ((h y).2 hy) k⟩
  omega
theorem vrow_yds {L : List Pt} (h : Pats L) (l : Nm) : row0 (l.length + 3) (yds L (edg l)) = vrow L l := by
  unfold vrow row0
  refine List.map_congr_left fun k _ => mx_same (fun y => ?_) k
  have := mem_ya h (edg l) y
  rw [edg_len] at this
  rw [mem_yds, this, edg_len]
theorem row_set {n : Nat} (ys : List Yd) (y : Yd) (q : Nat) (h : y.1 + q < n) : (arr (rowq n ys y q)).setIfInBounds (y.1 + q) (.int .i64 (max (mx ys (y.1 + q)) (y.2.getD q 0))) = arr (rowq n ys y (q + 1)) := by
  unfold arr
  rw [List.setIfInBounds_toArray, ← rowq_succ ys y q h, List.map_set]
/-- A pattern of the document's, in memory. -/
theorem DAt.pat {w : World} {B q n cP k : Nat} {L X : List Xc} {A : Option Addr} {xv : Value} {p : Xc} (h : DAt w B q L X (.slice A n cP) xv) (hp : L[k]? = some p) (hm : 0 < p.2.length) :
    ∃ gP b3 o3 c3, A = some ⟨gP, 0, none⟩ ∧ gP < w.heap.size ∧ ∀ W, Below w.heap.size w W → W.cell? ⟨gP, k * 2, none⟩ = some (.string (S p.1)) ∧ W.cell? ⟨gP, k * 2 + 1, none⟩ = some (.slice (some ⟨b3, o3, none⟩) p.2.length c3) ∧ ∀ (j : Nat) (v : Int), p.2[j]? = some v → W.cell? ⟨b3, o3 + j, none⟩ = some (.int .i64 v) := by
  obtain ⟨gP, cP', u, he, _, _, hgl, cy, cu, hu⟩ := h.pr.get hp
  injection he with he _ _
  obtain ⟨Au, cu2, rfl, _, _, hsu⟩ := Seg.of_own hu
  obtain ⟨b3, o3, rfl, hb3, hc3⟩ := hsu.open_ (by intro e; have := congrArg List.length e; rw [List.length_map] at this; simp at this; rw [this] at hm; simp at hm)
  refine ⟨gP, b3, o3, cu2, he, hgl, fun W hb => ⟨(hb.cell (p := ⟨gP, k * 2, none⟩) hgl).trans cy, (hb.cell (p := ⟨gP, k * 2 + 1, none⟩) hgl).trans cu, fun j v hv => ?_⟩⟩
  exact (hb.cell (p := ⟨b3, o3 + j, none⟩) hb3).trans (hc3 j _ (by rw [List.getElem?_map, hv]; rfl))
set_option maxHeartbeats 8000000 in
set_option maxRecDepth 100000 in
theorem rvalues_ok (B q0 : Nat) (L X : List Xc) (pv xv : Value) (s : ByteArray) (w : World) (hs : s.size ≤ 1048576) (hw : wordB s.data.toList = true) (h : DAt w B q0 L X pv xv) (hP : Pats L) :
    Calls Try.prog 88 #[.pointer (some ⟨q0, 0, none⟩), .string s] w fun e w' => e = .returned (.tuple #[.slice (some ⟨w.heap.size, 2, none⟩) (s.size - 1) (s.size + 1), .int .i64 0]) ∧ Blk w' w.heap.size 3 (arr (vrow L s.data.toList)) ∧ Below w.heap.size w w' := by
  obtain ⟨h1, h2, h3⟩ := wordB_is hw
  rw [size_list] at h1 h2
  have HW := Lib.hid (rword_any s w hs)
  rw [hw] at HW
  have HD := Lib.hid (fun W (hb : Below w.heap.size w W) => h.below hb)
  have HI := Lib.hid hP.is
  have HV := Lib.hid (vrow_yds hP s.data.toList)
  have HE := Lib.hid (edge_eq s)
  have hel : (edg s.data.toList).length = s.size + 2 := by rw [edg_len, size_list]
  have hf : L.length ≤ 5000 := hP.few
  obtain ⟨A, cP, rfl, hnc, hcm, hA⟩ := h.pr.slice
  have hq0 : q0 < w.heap.size := h.blk.lt
  generalize hln : L.length = n at *
  have HLN := Lib.hid hln
  rw [size_list] at HV
  generalize edg s.data.toList = e at *
  have HEL := Lib.hid hel
  have hES : (S e).size = s.size + 2 := by rw [S_size]; exact hel
  have hmk : ∀ u : World, (Instr.makeSlice 42 (.int .i64 ((s.size : Int) + 3)) (.int .i64 ((s.size : Int) + 3))).run Try.prog u = .ok (.slice (some ⟨u.heap.size, 0, none⟩) (s.size + 3) (s.size + 3)) (u.alloc (.cells (List.replicate (s.size + 3) (iv 0)).toArray 3)) := by
    intro u
    have := make_ints (s.size + 3) (by omega) u
    push_cast at this
    exact this
  have hmk2 : ∀ u : World, (Instr.makeSlice 42 (.int .i64 ((s.size : Int) + 2 + 1)) (.int .i64 ((s.size : Int) + 2 + 1))).run Try.prog u = .ok (.slice (some ⟨u.heap.size, 0, none⟩) (s.size + 3) (s.size + 3)) (u.alloc (.cells (List.replicate (s.size + 3) (iv 0)).toArray 3)) := by
    intro u
    rw [show (s.size : Int) + 2 + 1 = (s.size : Int) + 3 by omega]
    exact hmk u
  have hz1 : ¬ 9223372036854775807 < (⟨#[46]⟩ : ByteArray).size + s.size := by show ¬ 9223372036854775807 < 1 + _; omega
  have hz2 : ¬ 9223372036854775807 < ((⟨#[46]⟩ : ByteArray) ++ s).size + (⟨#[46]⟩ : ByteArray).size := by rw [ByteArray.size_append]; show ¬ 9223372036854775807 < 1 + _ + 1; omega
  have hw3 : IntKind.i64.wrap ((s.size : Int) + 2 + 1) = (s.size : Int) + 2 + 1 := IntWalk.i64_in _ (by omega)
  clear h hP hln hel hw
  go_enter Try.func88, Try.ntmps88
  go_upto_region 6 with (go_at_call 84; refine HW.out.mono ?_; rintro e w' ⟨rfl, rfl⟩)
  obtain ⟨w, rfl⟩ : ∃ w0, w0 = w' := ⟨_, rfl⟩
  rw [HE.out]
  generalize hEE : S e = E at *
  have HEE := Lib.hid hEE
  clear hEE
  go_wp2_with fail
  have HR0 := Lib.hid (show Blk (w.alloc (.cells (Array.replicate (s.size + 3) (iv 0)) 3)) w.heap.size 3 (arr (row0 (s.size + 3) (yds (L.take 0) e))) by
    have e1 : Array.replicate (s.size + 3) (iv 0) = arr (row0 (s.size + 3) (yds (L.take 0) e)) := by
      rw [show yds (L.take 0) e = [] from rfl, row0_nil]
      apply Array.ext'
      simp [arr]
    rw [e1]
    exact Blk.new w _ _)
  have HL0 := Lib.hid (andAlloc (Below.refl w.heap.size w) (.cells (Array.replicate (s.size + 3) (iv 0)) 3))
  generalize w.alloc (.cells (Array.replicate (s.size + 3) (iv 0)) 3) = w5 at HR0 HL0 ⊢
  clear hmk hmk2 hz1 hz2 hw3 HE HW
  obtain ⟨N, hN⟩ : ∃ N, s.size + 3 = N := ⟨_, rfl⟩
  rw [hN] at HR0 HV ⊢
  have HN := Lib.hid hN
  clear hN
  go_loopw [8] (fun v8 wr => ∃ k : Nat, k ≤ n ∧ v8 = .int .i64 (k : Int) ∧ Blk wr w.heap.size 3 (arr (row0 N (yds (L.take k) e))) ∧ Below w.heap.size w wr) (fun v8 _ => n - (intOf v8).toNat)
  case atStart => exact ⟨0, by omega, rfl, HR0.out, HL0.out⟩
  case round =>
    obtain ⟨k, hk, rfl, hrow, hlow⟩ := hrel
    have cq : wr.cell? ⟨q0, 0, none⟩ = some (.slice A n cP) := (HD.out wr hlow).blk.cell 0
    have HRW := Lib.hid hrow
    have HLO := Lib.hid hlow
    clear hrow hlow
    by_cases hlt : k < n
    · obtain ⟨p, hp⟩ := get_some (l := L) (k := k) (by rw [HLN.out]; exact hlt)
      obtain ⟨i1, i2, i3, i4, i5⟩ := HI.out p (List.mem_of_getElem? hp)
      obtain ⟨gP, b3, o3, c3, rfl, hgl, hpc⟩ := (HD.out w (Below.refl _ _)).pat hp (by omega)
      have HPC := Lib.hid hpc
      have hkn : (k : Int) < (n : Int) := by omega
      have HYT := Lib.hid (yds_take hp e)
      have HFT := Lib.hid (fun t A3 n3 c3 W (ht : t < e.length) => rfits_any p.1 e t A3 n3 c3 W (by omega) (by rw [HEL.out]; omega) ht)
      have HPL := Lib.hid i1
      have HP2 := Lib.hid (And.intro i2 i3)
      clear hpc i4 i5 i1 i2 i3 hp
      obtain ⟨s1, vs⟩ := p
      simp only at HPC HFT HPL HP2 HYT
      rw [HEE.out] at HFT
      generalize hS1 : S s1 = Y at *
      generalize hm : vs.length = m at *
      have HM := Lib.hid hm
      clear hm hS1
      have hml : m ≤ 64 := by have := HPL.out; have := HP2.out; omega
      go_wp2_with fail
      go_loopw [9] (fun v9 wr => ∃ t : Nat, t ≤ E.size ∧ v9 = .int .i64 (t : Int) ∧ Blk wr w.heap.size 3 (arr (row0 N (yds (L.take k) e ++ yd1 (s1, vs) e t))) ∧ Below w.heap.size w wr) (fun v9 _ => E.size - (intOf v9).toNat)
      case atStart => exact ⟨0, by omega, rfl, by rw [show yd1 (s1, vs) e 0 = [] from rfl, List.append_nil]; exact HRW.out, HLO.out⟩
      case round =>
        obtain ⟨t, ht, rfl, hrow2, hlow2⟩ := hrel
        have cq : wr.cell? ⟨q0, 0, none⟩ = some (.slice (some ⟨gP, 0, none⟩) n cP) := (HD.out wr hlow2).blk.cell 0
        obtain ⟨cy, cu, _⟩ := HPC.out wr hlow2
        have HR2 := Lib.hid hrow2
        have HL2 := Lib.hid hlow2
        clear hrow2 hlow2
        by_cases hte : t < E.size
        · have hti : (t : Int) < (E.size : Int) := by omega
          have hte2 : t < e.length := by rw [HEL.out]; omega
          have HYS := Lib.hid (yd1_succ (s1, vs) e t)
          cases hF : fitB s1 e t
          · have HF := Lib.hid hF
            clear hF
            go_wp2_with fail
            refine (HFT.out t _ _ _ _ hte2).mono ?_
            rintro ee w6 ⟨rfl, hb6⟩
            rw [HF.out]
            have HR6 := Lib.hid (HR2.out.below hb6 HR2.out.lt)
            have HL6 := Lib.hid (andThen HL2.out hb6)
            clear hb6
            go_wp2_with fail
            go_roundw
            case rel => exact ⟨t + 1, by omega, by go_num, by rw [HYS.out, if_neg (by rw [HF.out]; simp), List.append_nil]; exact HR6.out, HL6.out⟩
            case measure => clear hti; simp [intOf]; omega
          · have HF := Lib.hid hF
            clear hF
            go_wp2_with fail
            refine (HFT.out t _ _ _ _ hte2).mono ?_
            rintro ee w6 ⟨rfl, hb6⟩
            rw [HF.out]
            have HR6 := Lib.hid (HR2.out.below hb6 HR2.out.lt)
            have HL6 := Lib.hid (andThen HL2.out hb6)
            clear hb6 cy cu cq
            generalize hYY : yds (L.take k) e ++ yd1 (s1, vs) e t = ys at *
            have HYY := Lib.hid hYY
            clear hYY
            go_wp2_with fail
            go_loopw [10] (fun v10 wr => ∃ q : Nat, q ≤ m ∧ v10 = .int .i64 (q : Int) ∧ Blk wr w.heap.size 3 (arr (rowq N ys (t, vs) q)) ∧ Below w.heap.size w wr) (fun v10 _ => m - (intOf v10).toNat)
            case atStart => exact ⟨0, by omega, rfl, by rw [rowq_zero]; exact HR6.out, HL6.out⟩
            case round =>
              obtain ⟨q, hq, rfl, hrow3, hlow3⟩ := hrel
              have cq : wr.cell? ⟨q0, 0, none⟩ = some (.slice (some ⟨gP, 0, none⟩) n cP) := (HD.out wr hlow3).blk.cell 0
              obtain ⟨_, cu, cv⟩ := HPC.out wr hlow3
              have HR3 := Lib.hid hrow3
              have HL3 := Lib.hid hlow3
              have hgr : w.heap.size < wr.heap.size := hrow3.lt
              have hfz := hrow3.free (t + q)
              by_cases hqm : q < m
              · have HTL := Lib.hid (show t + s1.length ≤ E.size by
                  have h9 := congrArg List.length (of_decide_eq_true HF.out)
                  rw [List.length_take, List.length_drop, HEL.out] at h9
                  have := HP2.out.1
                  omega)
                have hNt : t + q < N := by have := HTL.out; have := HN.out; have := HPL.out; have := HM.out; omega
                obtain ⟨z, hz⟩ := get_some (l := vs) (k := q) (by rw [HM.out]; exact hqm)
                have hcz := cv q z hz
                have hzd : z = vs.getD q 0 := by rw [List.getD_eq_getElem?_getD, hz]; rfl
                have hold : wr.cell? ⟨w.heap.size, t + q, none⟩ = some (.int .i64 (mx ys (t + q))) := by
                  rw [hrow3.cell]
                  unfold arr
                  have h := rowq_get (n := N) ys (t, vs) q (k := t + q) hNt
                  rw [List.getElem?_toArray, List.getElem?_map, h]
                  have e := mxq_here ys (t, vs) q
                  simp only at e
                  rw [e]
                  rfl
                have HST := Lib.hid (show Blk (wr.setCell ⟨w.heap.size, t + q, none⟩ (.int .i64 (max (mx ys (t + q)) z))) w.heap.size 3 (arr (rowq N ys (t, vs) (q + 1))) by
                  have h := hrow3.set (t + q) (.int .i64 (max (mx ys (t + q)) z))
                  have e := row_set (n := N) ys (t, vs) q hNt
                  simp only at e
                  rw [← hzd] at e
                  rw [e] at h
                  exact h)
                have hqi : (q : Int) < (m : Int) := by omega
                have hin : (t : Int) + (q : Int) < (N : Int) := by omega
                have hin0 : (0 : Int) ≤ (t : Int) + (q : Int) := by omega
                have hin2 : ((t : Int) + (q : Int)).toNat = t + q := by omega
                have hNl : N ≤ 66 := by have := HN.out; omega
                have hwr : IntKind.i64.wrap ((t : Int) + (q : Int)) = (t : Int) + q := IntWalk.i64_in _ (by omega)
                have hki : (k : Int) < (n : Int) := by omega
                clear hrow3 hlow3 cv hz hzd HPC HFT HD HI HV HR0 HL0 HYT
                generalize mx ys (t + q) = M0 at hold HST
                go_wp2_with fail
                go_region
                go_wp2_with fail
                go_roundw
                case rel => exact ⟨q + 1, by omega, by go_num, HST.out.drewN _, below_drewN (below_set HL3.out (Nat.le_refl _) _ _) _⟩
                case measure => clear hqi hin hin0; simp [intOf]; omega
              · obtain rfl : q = m := by omega
                have hqi : ¬ (q : Int) < (q : Int) := by omega
                have HRA := Lib.hid (rowq_all N ys (t, vs))
                clear hrow3 hlow3 cv
                go_wp2_with fail
                go_roundw
                case rel =>
                  refine ⟨t + 1, by omega, by go_num, ?_, HL3.out⟩
                  have h1 := HR3.out
                  have h2 := HRA.out
                  simp only at h2
                  rw [HM.out] at h2
                  rw [h2, ← HYY.out] at h1
                  rw [HYS.out, if_pos HF.out, ← List.append_assoc]
                  exact h1
                case measure => clear hti; simp [intOf]; omega
        · obtain rfl : t = E.size := by omega
          have hti : ¬ (E.size : Int) < (E.size : Int) := by omega
          go_wp2_with fail
          go_roundw
          case rel =>
            refine ⟨k + 1, by omega, by go_num, ?_, HL2.out⟩
            have h1 := HR2.out
            rw [HYT.out]
            have h3 : e.length = E.size := by have := HEL.out; have h4 : (S e).size = e.length := rfl; rw [HEE.out] at h4; exact h4.symm
            rw [h3]
            exact h1
          case measure => clear hkn; simp [intOf]; omega
    · obtain rfl : k = n := by omega
      have hkn : ¬ (k : Int) < (k : Int) := by omega
      have HFIN := Lib.hid (show Blk wr w.heap.size 3 (arr (vrow L s.data.toList)) by
        have h1 := HRW.out
        rw [show L.take k = L from List.take_of_length_le (by rw [HLN.out]; exact Nat.le_refl _), HV.out] at h1
        exact h1)
      have hN := HN.out
      subst hN
      have hw4 : IntKind.i64.wrap ((s.size : Int) + 1) = (s.size : Int) + 1 := IntWalk.i64_in _ (by omega)
      clear HRW HV HR0
      go_wp2_with fail
      go_returns
      exact ⟨rfl, HFIN.out, HLO.out⟩
end Go.Proofs.Ytmcekdjhkjhcdaa.Hy
