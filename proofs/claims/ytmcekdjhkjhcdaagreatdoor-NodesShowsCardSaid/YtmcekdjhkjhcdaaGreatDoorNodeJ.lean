import Derived.Test.YtmcekdjhkjhcdaaGreatDoorNodeI
import Derived.RegionTactic
import Derived.BigRegion
import Derived.Deep.RegionWith
/- The contract of sum, out of along's (printed by gen_nodej.py). Conditions: those that each theorem names. -/
namespace Go.Proofs.YtmcekdjhkjhcdaaGreatDoor.No
open Go.ChangeShapes Go.WideShapes Go.ChangeAt Go.RowKit
open Me Np
set_option linter.unusedVariables false
set_option linter.unusedSimpArgs false
/-- The cells of totals. -/
def tc (T : Tot) : Array Value := (Value.int .i64 T.nat :: (T.st.map (Value.int .i64) ++ T.sh.map (Value.int .i64))).toArray
theorem tc_zero : tc tz = #[.int .i64 0, .int .i64 0, .int .i64 0, .int .i64 0, .int .i64 0, .int .i64 0, .int .i64 0, .int .i64 0, .int .i64 0] := rfl
theorem tc_size {T : Tot} (h : T.st.length = 4) (k : T.sh.length = 4) : (tc T).size = 9 := by simp [tc, h, k]
theorem tc_nat (T : Tot) : (tc T)[0]? = some (.int .i64 T.nat) := by simp [tc]
theorem tc_st {T : Tot} {i : Nat} (h : T.st.length = 4) (hi : i < 4) : (tc T)[1 + i]? = some (.int .i64 (T.st.getD i 0)) := by
  have : 1 + i = i + 1 := by omega
  rw [this]
  simp only [tc, List.getElem?_toArray, List.getElem?_cons_succ]
  rw [List.getElem?_append_left (by simp; omega), List.getElem?_map, List.getD_eq_getElem?_getD, List.getElem?_eq_getElem (by omega)]
  simp
theorem tc_sh {T : Tot} {i : Nat} (h : T.st.length = 4) (k : T.sh.length = 4) (hi : i < 4) : (tc T)[5 + i]? = some (.int .i64 (T.sh.getD i 0)) := by
  have : 5 + i = (4 + i) + 1 := by omega
  rw [this]
  simp only [tc, List.getElem?_toArray, List.getElem?_cons_succ]
  rw [List.getElem?_append_right (by simp; omega), List.getElem?_map, List.getD_eq_getElem?_getD, List.length_map, h, show 4 + i - 4 = i by omega, List.getElem?_eq_getElem (by omega)]
  simp
theorem tc_setNat (T : Tot) (x : Int) : (tc T).setIfInBounds 0 (.int .i64 x) = tc { T with nat := x } := by simp [tc]
theorem tc_setSt {T : Tot} {i : Nat} (h : T.st.length = 4) (hi : i < 4) (x : Int) : (tc T).setIfInBounds (1 + i) (.int .i64 x) = tc { T with st := T.st.set i x } := by
  have : 1 + i = i + 1 := by omega
  rw [this]
  simp only [tc, List.setIfInBounds_toArray, List.set_cons_succ]
  rw [List.set_append_left _ _ (by simp; omega), List.map_set]
theorem tc_setSh {T : Tot} {i : Nat} (h : T.st.length = 4) (hi : i < 4) (x : Int) : (tc T).setIfInBounds (5 + i) (.int .i64 x) = tc { T with sh := T.sh.set i x } := by
  have : 5 + i = (4 + i) + 1 := by omega
  rw [this]
  simp only [tc, List.setIfInBounds_toArray, List.set_cons_succ]
  rw [List.set_append_right _ _ (by simp; omega), List.length_map, h, show 4 + i - 4 = i by omega, List.map_set]
theorem tc_one (T : Tot) : (tc T).all (·.oneCell') = true := by
  simp [tc, Value.oneCell', List.all_map, Function.comp_def]
theorem tot_info : (Tryz.prog.info? 52).map (·.size) = some 9 := by kernel_rfl

/-- What the loop of sum holds in memory. -/
structure MemS (w : World) (xs : List Nat) (T : Tot) (g c : Nat) (wr : World) : Prop where
  blk : Blk wr (w.heap.size + 1) 52 (tc T)
  own : wr.ownsRow (w.heap.size + 2) 3 1 (.slice (some ⟨g, 0, none⟩) xs.length c) xs.length (xs.map nat64)
  low : Below w.heap.size w wr
  res : Blk wr w.heap.size 52 (tc tz)
theorem MemS.below {w : World} {xs : List Nat} {T : Tot} {g c : Nat} {wr w5 : World} (h : MemS w xs T g c wr) (hb : Below wr.heap.size wr w5) : MemS w xs T g c w5 :=
  ⟨h.blk.below hb h.blk.lt, own_below h.own hb, andThen h.low hb, h.res.below hb h.res.lt⟩
theorem MemS.alloc {w : World} {xs : List Nat} {T : Tot} {g c : Nat} {wr : World} (h : MemS w xs T g c wr) (o : Obj) : MemS w xs T g c (wr.alloc o) := h.below (andAlloc (Below.refl _ _) o)
theorem MemS.drew {w : World} {xs : List Nat} {T : Tot} {g c : Nat} {wr : World} (h : MemS w xs T g c wr) : MemS w xs T g c wr.drew := h.below (below_drewN (Below.refl _ _) 1)
theorem MemS.set {w : World} {xs : List Nat} {T T' : Tot} {g c : Nat} {wr : World} (h : MemS w xs T g c wr) (i : Nat) (u : Value) (hT : (tc T).setIfInBounds i u = tc T') : MemS w xs T' g c (wr.setCell ⟨w.heap.size + 1, i, none⟩ u) := by
  have hl := h.own.lt g rfl
  refine ⟨by rw [← hT]; exact h.blk.set i u, ?_, h.low.setCell (by simp) _, h.res.far (by simp) u⟩
  refine h.own.kept (row := some (w.heap.size + 1)) ⟨rfl, rfl, rfl, by simp, fun k _ hk => heap_setCell_other wr ⟨w.heap.size + 1, i, none⟩ k u (fun e => hk (by simp [e]))⟩ (.inr ?_)
  intro e
  simp only [Value.ownBlock, Option.some.injEq] at e
  omega
/-- What the loop of sum holds. -/
structure InvS (ns : List Nd) (w : World) (al : Nat → Int) (xs : List Nat) (k : Nat) (T : Tot) (v : Value) (wr : World) : Prop where
  bd : TB k T
  rest : tsum ns al (xs.drop k) T = tsum ns al xs tz
  mem : xs ≠ [] → ∃ g c, v = .slice (some ⟨g, 0, none⟩) xs.length c ∧ MemS w xs T g c wr
  blk : Blk wr (w.heap.size + 1) 52 (tc T)
  res : Blk wr w.heap.size 52 (tc tz)
  low : Below w.heap.size w wr
theorem MemS.inv {ns : List Nd} {w : World} {al : Nat → Int} {xs : List Nat} {k : Nat} {T : Tot} {g c : Nat} {wr : World} (h : MemS w xs T g c wr) (hb : TB k T) (hr : tsum ns al (xs.drop k) T = tsum ns al xs tz) : InvS ns w al xs k T (.slice (some ⟨g, 0, none⟩) xs.length c) wr :=
  ⟨hb, hr, fun _ => ⟨g, c, rfl, h⟩, h.blk, h.res, h.low⟩

set_option maxHeartbeats 4000000 in
set_option maxRecDepth 100000 in
theorem sum_of (A : Option Addr) (ns : List Nd) (c : Nat) (xs : List Nat) (down : Bool) (al : Nat → Int) (w : World) (hl : ns.length ≤ 2000) (hseg : Seg w w.heap.size A (ns.flatMap ncs)) (hx : Its xs ns 0) (hr : ∀ x ∈ ns, right x = true)
    (hal : ∀ k ∈ xs, -4294967292000 ≤ al k ∧ al k ≤ 4294967292000)
    (hcall : ∀ k ∈ xs, ∀ w1, Below w.heap.size w w1 → Calls Tryz.prog 89 #[.slice A ns.length c, .int .i64 (k : Int), .bool down] w1 fun e w' => e = .returned (.int .i64 (al k)) ∧ Below w1.heap.size w1 w') :
    Calls Tryz.prog 35 #[.slice A ns.length c, .bool down] w fun e w' => e = .returned (.agg (tc (tsum ns al xs tz))) ∧ Below w.heap.size w w' := by
  have HC := Lib.hid hcall
  have HAL := Lib.hid hal
  have HRT := Lib.hid hr
  have HSEG := Lib.hid hseg
  have HITS := Lib.hid fun w1 (h : Below w.heap.size w w1) => items_any A ns c xs w1 hl (Seg.belowW hseg h) hx
  have hxl := Its.len hx
  have HLT := Lib.hid (Its.lt hx)
  clear hcall hal hr hseg hx
  have HL := Lib.hid (rfl : ns.length = ns.length)
  generalize hlen : ns.length = len at hl HC HITS HL hxl HLT ⊢
  clear HL
  have HL := Lib.hid hlen
  clear hlen
  go_enter Tryz.func35, Tryz.ntmps35
  go_wp2_with fail
  refine (HITS.out _ (andAlloc (andAlloc (Below.refl _ _) _) _)).mono ?_
  rintro e w1 ⟨v, rfl, ho, hb1⟩
  obtain ⟨A', c', rfl⟩ := made_len ho
  have hI0 : InvS ns w al xs 0 tz (.slice A' xs.length c') w1 := by
    have h1 : Blk w1 (w.heap.size + 1) 52 (tc tz) := Blk.below (Blk.new' (by simp)) hb1 (by simp)
    have h2 : Blk w1 w.heap.size 52 (tc tz) := Blk.below (Blk.alloc (Blk.new' rfl) _) hb1 (by simp; omega)
    have h3 : Below w.heap.size w w1 := andThen (andAlloc (andAlloc (Below.refl _ _) _) _) hb1
    refine ⟨TB.zero, rfl, fun hne => ?_, h1, h2, h3⟩
    have ho' : w1.ownsRow (w.heap.size + 2) 3 1 (.slice A' xs.length c') xs.length (xs.map nat64) := by simpa using ho
    rcases id ho'.2 with ⟨_, h5⟩ | ⟨g, _, _, h5, _⟩
    · exact absurd (List.eq_nil_of_length_eq_zero h5) hne
    · simp at h5
      obtain ⟨rfl, _⟩ := h5
      exact ⟨g, c', rfl, h1, ho', h3, h2⟩
  have HI0 := Lib.hid hI0
  clear hI0 ho hb1
  go_wp2_with fail
  go_loopw [12] (fun i wr => ∃ (k : Nat) (T : Tot), k ≤ xs.length ∧ i = .int .i64 k ∧ InvS ns w al xs k T (.slice A' xs.length c') wr) (fun i _ => xs.length - (intOf i).toNat)
  case atStart => exact ⟨0, tz, by omega, rfl, HI0.out⟩
  case round =>
    obtain ⟨k, T, hk, rfl, hI⟩ := hrel
    have hnat := hI.bd.nat
    have HI := Lib.hid hI
    clear hI HI0
    by_cases hlt : k < xs.length
    · obtain ⟨x, hx, hxd⟩ : ∃ x, xs[k]? = some x ∧ xs.drop k = x :: xs.drop (k + 1) := ⟨xs[k], List.getElem?_eq_getElem hlt, List.drop_eq_getElem_cons hlt⟩
      have hxm : x ∈ xs := List.mem_of_getElem? hx
      have hxl2 := (HLT.out x hxm).2
      obtain ⟨n, hn, hnd⟩ := get_drop (l := ns) (k := x) (by rw [HL.out]; omega)
      have hrn := HRT.out n (List.mem_of_getElem? hn)
      obtain ⟨b, off, rfl, hb, hnode⟩ := seg_node HSEG.out hn
      have hv := HAL.out x hxm
      obtain ⟨g, c2, h5, hM⟩ := HI.out.mem (by rintro rfl; simp at hlt)
      simp only [Value.slice.injEq] at h5
      obtain ⟨rfl, _, rfl⟩ := h5
      have hxc : wr.cell? ⟨g, k, none⟩ = some (.int .i64 x) := by
        rw [World.ownsRow.cellAt hM.own k (by omega), List.getElem?_map, hx]
        rfl
      have ht0 : wr.cell? ⟨w.heap.size + 1, 0, none⟩ = some (.int .i64 T.nat) := (hM.blk.cell 0).trans (tc_nat T)
      have hf0 := hM.blk.free 0
      have hzt : w.heap.size + 1 < wr.heap.size := hM.blk.lt
      have hBD : Below w.heap.size w wr.drew := hM.drew.low
      have hstep : tsum ns al (xs.drop (k + 1)) (tstep T n (al x)) = tsum ns al xs tz := by
        have h6 := HI.out.rest
        rw [hxd] at h6
        simpa [tsum, hn] using h6
      have HST := Lib.hid hstep
      have HTB := Lib.hid (HI.out.bd.step hrn hv)
      have HTB0 := Lib.hid HI.out.bd
      have HM := Lib.hid hM
      have HRN := Lib.hid hrn
      have HNO := Lib.hid hnode
      have hwr : IntKind.i64.wrap (T.nat + al x) = T.nat + al x := IntWalk.i64_in _ (by omega)
      clear hn hnd hx hnode hM hxd hstep hrn
      go_wp2_with fail
      go_region_with (first | ((with_reducible refine (HC.out x hxm _ hBD).mono ?_); rintro e w5 ⟨rfl, hb5⟩; have c5 : w5.cell? ⟨w.heap.size + 1, 0, none⟩ = some (.int .i64 T.nat) := (hb5.cell (p := ⟨w.heap.size + 1, 0, none⟩) hzt).trans ht0; have f5 : w5.frozen? ⟨w.heap.size + 1, 0, none⟩ = false := (hb5.frozen (p := ⟨w.heap.size + 1, 0, none⟩) hzt).trans hf0))
      all_goals
        clear hwr
        have HM5 := Lib.hid ((HM.out.drew.below hb5).set 0 (.int .i64 (T.nat + al x)) (tc_setNat T _))
        clear c5 f5 hb5 ht0 hf0 hBD hzt hxc
        generalize w5.setCell ⟨w.heap.size + 1, 0, none⟩ (.int .i64 (T.nat + al x)) = w6 at HM5 ⊢
        have hn6 := HNO.out.below HM5.out.low hb
        have c0 : w6.cell? ⟨b, off + x * 19, none⟩ = some (.int .i64 n.kind) := hn6 0 _ rfl
        have g0 : w6.cell? ⟨b, off + x * 19 + 7, none⟩ = some (.int .i64 n.gn) := hn6 7 _ rfl
        have g1 : w6.cell? ⟨b, off + x * 19 + 8, none⟩ = some (.int .i64 n.gs) := hn6 8 _ rfl
        have g2 : w6.cell? ⟨b, off + x * 19 + 9, none⟩ = some (.int .i64 n.gh) := hn6 9 _ rfl
        have g3 : w6.cell? ⟨b, off + x * 19 + 10, none⟩ = some (.int .i64 n.ga) := hn6 10 _ rfl
        have g4 : w6.cell? ⟨b, off + x * 19 + 11, none⟩ = some (.int .i64 n.gb) := hn6 11 _ rfl
        clear hn6
        have hbw6 : b < w6.heap.size := Nat.lt_of_lt_of_le hb HM5.out.low.size
        have hz6 : w.heap.size + 1 < w6.heap.size := HM5.out.blk.lt
        by_cases h7 : n.kind = 7
        · have e7 : (n.kind == 7) = true := by simp [h7]
          obtain ⟨q1, q2, q3, q4, q5, q6, q7⟩ := right_glue HRN.out h7
          unfold dm at q1 q2 q3
          have hs1 := HTB0.out.st n.ga.toNat
          have hs2 := HTB0.out.sh n.gb.toNat
          have hts : tstep T n (al x) = ⟨T.nat + al x, T.st.set n.ga.toNat (T.st.getD n.ga.toNat 0 + n.gs), T.sh.set n.gb.toNat (T.sh.getD n.gb.toNat 0 + n.gh)⟩ := by simp [tstep, h7]
          have HTS := Lib.hid hts
          have s1 : w6.cell? ⟨w.heap.size + 1, 1 + n.ga.toNat, none⟩ = some (.int .i64 (T.st.getD n.ga.toNat 0)) := (HM5.out.blk.cell _).trans (tc_st (T := ⟨T.nat + al x, T.st, T.sh⟩) HTB0.out.st4 (by omega))
          have f1 := HM5.out.blk.free (1 + n.ga.toNat)
          generalize hS : T.st.getD n.ga.toNat 0 = S at s1 hs1
          generalize hH : T.sh.getD n.gb.toNat 0 = H at hs2
          have HS := Lib.hid hS
          have HH := Lib.hid hH
          have hw1 : IntKind.i64.wrap (S + n.gs) = S + n.gs := IntWalk.i64_in _ (by omega)
          have q5' : n.ga < 4 := by omega
          have q7' : n.gb < 4 := by omega
          clear h7 hts hS hH
          go_wp2_with fail
          go_region
          have HM6 := Lib.hid (HM5.out.set (T' := ⟨T.nat + al x, T.st.set n.ga.toNat (S + n.gs), T.sh⟩) (1 + n.ga.toNat) (.int .i64 (S + n.gs)) (tc_setSt (T := ⟨T.nat + al x, T.st, T.sh⟩) HTB0.out.st4 (by omega) _))
          have hz7 : w6.heap.size = (w6.setCell ⟨w.heap.size + 1, 1 + n.ga.toNat, none⟩ (.int .i64 (S + n.gs))).heap.size := by simp
          rw [hz7]
          clear hz7 s1 f1 hw1 hs1 c0 g0 g1 g2 g3 g4 hbw6 hz6 hnat hv
          generalize w6.setCell ⟨w.heap.size + 1, 1 + n.ga.toNat, none⟩ (.int .i64 (S + n.gs)) = w7 at HM6 ⊢
          have hz7 : w.heap.size + 1 < w7.heap.size := HM6.out.blk.lt
          have s2 : w7.cell? ⟨w.heap.size + 1, 5 + n.gb.toNat, none⟩ = some (.int .i64 H) := by
            rw [← HH.out]
            exact (HM6.out.blk.cell _).trans (tc_sh (T := ⟨T.nat + al x, T.st.set n.ga.toNat (S + n.gs), T.sh⟩) (by simp [HTB0.out.st4]) HTB0.out.sh4 (by omega))
          have f2 := HM6.out.blk.free (5 + n.gb.toNat)
          have hw2 : IntKind.i64.wrap (H + n.gh) = H + n.gh := IntWalk.i64_in _ (by omega)
          go_wp2_with fail
          go_region
          have HM7 := Lib.hid (HM6.out.set (T' := ⟨T.nat + al x, T.st.set n.ga.toNat (S + n.gs), T.sh.set n.gb.toNat (H + n.gh)⟩) (5 + n.gb.toNat) (.int .i64 (H + n.gh)) (tc_setSh (T := ⟨T.nat + al x, T.st.set n.ga.toNat (S + n.gs), T.sh⟩) (by simp [HTB0.out.st4]) (by omega) _))
          clear hz7 s2 f2 hw2 hs2
          generalize w7.setCell ⟨w.heap.size + 1, 5 + n.gb.toNat, none⟩ (.int .i64 (H + n.gh)) = w8 at HM7 ⊢
          go_wp2_with fail
          have hts := HTS.out
          rw [HS.out, HH.out] at hts
          have htb := HTB.out
          have hst := HST.out
          rw [hts] at htb hst
          go_roundw
          case rel => exact ⟨k + 1, _, by omega, by go_num, MemS.inv (by repeat (first | exact HM7.out | apply MemS.alloc | apply MemS.drew)) htb hst⟩
          case measure => simp [intOf]; omega
        · have e7 : (n.kind == 7) = false := by simp [h7]
          have hts : tstep T n (al x) = ⟨T.nat + al x, T.st, T.sh⟩ := by simp [tstep, h7]
          have HTS := Lib.hid hts
          clear h7 hts
          go_wp2_with fail
          go_roundw
          case rel => exact ⟨k + 1, ⟨T.nat + al x, T.st, T.sh⟩, by omega, by go_num, (HM5.out.alloc _).inv (by rw [← HTS.out]; exact HTB.out) (by rw [← HTS.out]; exact HST.out)⟩
          case measure => simp [intOf]; omega
    · obtain rfl : k = xs.length := by omega
      have hr := HI.out.rest
      rw [List.drop_of_length_le (Nat.le_refl _)] at hr
      have hr : T = tsum ns al xs tz := hr
      subst hr
      have hblk := HI.out.blk
      have hres := HI.out.res
      have hlow := HI.out.low
      have hbd := HI.out.bd
      go_wp2_with (first | (refine wpList_load_row rfl 52 _ rfl _ rfl _ _ _ _ hblk Tryz.underlying52 rfl (by rw [tc_size hbd.st4 hbd.sh4]; exact tot_info) ?_) | (refine wpList_store_row rfl 52 _ _ rfl _ _ rfl rfl _ _ hres (by rw [tc_size hbd.st4 hbd.sh4]; exact tot_info) (by rw [tc_size hbd.st4 hbd.sh4]; rfl) (tc_one _) ?_))
      exact bodyPost_ret (v := .agg (tc (tsum ns al xs tz))) (results_cell_row rfl _ _ w.heap.size 52 (tc (tsum ns al xs tz)) (0, 0) _ rfl (Blk.row hres _) Tryz.underlying52 rfl (by rw [tc_size hbd.st4 hbd.sh4]; exact tot_info)) rfl ⟨rfl, below_setRow hlow _ _ (Nat.le_refl _)⟩

end Go.Proofs.YtmcekdjhkjhcdaaGreatDoor.No
