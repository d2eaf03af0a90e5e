import Derived.Test.YtoboecenlangmaaGreatNodeS3
import Derived.Deep.RegionHeld
import Derived.Deep.Cut
import Derived.Deep.CutBlock
import Derived.Deep.CutRange
import Derived.RegionTactic
import Derived.BigRegion
import Derived.Deep.RegionWith
/- The contract of the document's Sum (printed by gen_nodes4.py). Conditions: those that each theorem names. -/
namespace Go.Proofs.YtoboecenlangmaaGreat.No
open Go.ChangeShapes Go.WideShapes Go.ChangeAt Go.RowKit
open Me Np
set_option linter.unusedVariables false
set_option linter.unusedSimpArgs false

/-- What a round of Sum holds: the node that it looks at, too. -/
structure MemQ (w : World) (xs : List Nat) (T : Tot) (g c g8 : Nat) (n : Nd) (wr : World) : Prop where
  mem : MemS w xs T g c wr
  node : NodeAt wr g8 0 n
  far : w.heap.size + 1 < g8
theorem NodeAt.setFar {w : World} {b : Nat} {n : Nd} (h : NodeAt w b 0 n) (k i : Nat) (u : Value) (hk : b ≠ k) : NodeAt (w.setCell ⟨k, i, none⟩ u) b 0 n := fun j v hv => by
  rw [World.cell?_setCell_far _ _ _ _ (by simp only [ne_eq]; omega)]
  exact h j v hv
theorem MemQ.below {w : World} {xs : List Nat} {T : Tot} {g c g8 : Nat} {n : Nd} {wr w5 : World} (h : MemQ w xs T g c g8 n wr) (hb : Below wr.heap.size wr w5) : MemQ w xs T g c g8 n w5 :=
  ⟨h.mem.below hb, h.node.below hb h.node.lt, h.far⟩
theorem MemQ.drew {w : World} {xs : List Nat} {T : Tot} {g c g8 : Nat} {n : Nd} {wr : World} (h : MemQ w xs T g c g8 n wr) : MemQ w xs T g c g8 n wr.drew := h.below (below_drewN (Below.refl _ _) 1)
theorem MemQ.set {w : World} {xs : List Nat} {T T' : Tot} {g c g8 : Nat} {n : Nd} {wr : World} (h : MemQ w xs T g c g8 n wr) (i : Nat) (u : Value) (hT : (tc T).setIfInBounds i u = tc T') : MemQ w xs T' g c g8 n (wr.setCell ⟨w.heap.size + 1, i, none⟩ u) :=
  ⟨h.mem.set i u hT, h.node.setFar _ i u (by have := h.far; omega), h.far⟩
theorem racross_b (n : Nd) (w : World) : Calls Tryz.prog 162 #[.agg (nc n)] w fun e w' => e = .returned (.int .i64 (alongP n false)) ∧ Below w.heap.size w w' := (racross_any n w).mono fun e w' h => ⟨h.1, by rw [← h.2]; exact andAlloc (Below.refl _ _) _⟩
theorem ralong_b (n : Nd) (hr : right n = true) (w : World) : Calls Tryz.prog 160 #[.agg (nc n)] w fun e w' => e = .returned (.int .i64 (alongP n true)) ∧ Below w.heap.size w w' := (ralong_any n hr w).mono fun e w' h => ⟨h.1, by rw [← h.2]; exact andAlloc (Below.refl _ _) _⟩
attribute [local go_sem ↓] ldN_eq
set_option maxHeartbeats 4000000 in
set_option maxRecDepth 100000 in
theorem rsum_of (A : Option Addr) (ns : List Nd) (c : Nat) (xs : List Nat) (down : Bool) (al : Nat → Int) (w : World) (hl : ns.length ≤ 2000) (hseg : Seg w w.heap.size A (ns.flatMap ncs)) (hx : Its xs ns 0) (hr : ∀ x ∈ ns, right x = true) (h6 : ∀ x ∈ xs, ∀ n, ns[x]? = some n → ¬ n.kind = 6)
    (hal : ∀ k ∈ xs, -4294967292000 ≤ al k ∧ al k ≤ 4294967292000)
    (hone : ∀ k ∈ xs, ∀ n, ns[k]? = some n → (down = true ∨ ¬ n.kind = 10) → al k = alongP n down)
    (hdisc : ∀ k ∈ xs, ∀ n, ns[k]? = some n → down = false → n.kind = 10 → ∀ w1, Below w.heap.size w w1 → Calls Tryz.prog 161 #[.slice A ns.length c, .int .i64 (k : Int)] w1 fun e w' => ∃ vs A2 c2 l2, e = .returned (.agg (tc3 vs)) ∧ vs 2 = .slice A2 l2 c2 ∧ Below w1.heap.size w1 w' ∧
      Calls Tryz.prog 94 #[.slice A2 l2 c2, .bool false] w' fun e w2 => ∃ T : Tot, T.nat = al k ∧ (T.st.length = 4 ∧ T.sh.length = 4) ∧ e = .returned (.agg (tc T)) ∧ Below w'.heap.size w' w2) :
    Calls Tryz.prog 94 #[.slice A ns.length c, .bool down] w fun e w' => e = .returned (.agg (tc (tsum ns al xs tz))) ∧ Below w.heap.size w w' := by
  have HDI := Lib.hid hdisc
  have HON := Lib.hid hone
  have HAL := Lib.hid hal
  have HRT := Lib.hid hr
  have HSEG := Lib.hid hseg
  have HITS := Lib.hid fun w1 (h : Below w.heap.size w w1) => rstarts_any A ns c xs w1 hl (Seg.belowW hseg h) hx h6
  have hxl := Its.len hx
  have HLT := Lib.hid (Its.lt hx)
  clear hdisc hone hal hr hseg hx h6
  have HL := Lib.hid (rfl : ns.length = ns.length)
  generalize hlen : ns.length = len at hl HDI HITS HL hxl HLT ⊢
  clear HL
  have HL := Lib.hid hlen
  clear hlen
  go_enter Tryz.func94, Tryz.ntmps94
  go_wp2_with fail
  refine (HITS.out _ (andAlloc (andAlloc (Below.refl _ _) _) _)).mono ?_
  rintro e w1 ⟨v, rfl, ho, hb1⟩
  obtain ⟨A', c', rfl⟩ := made_len ho
  have hI0 : InvS ns w al xs 0 tz (.slice A' xs.length c') w1 := by
    have h1 : Blk w1 (w.heap.size + 1) 109 (tc tz) := Blk.below (Blk.new' (by simp)) hb1 (by simp)
    have h2 : Blk w1 w.heap.size 109 (tc tz) := Blk.below (Blk.alloc (Blk.new' rfl) _) hb1 (by simp; omega)
    have h3 : Below w.heap.size w w1 := andThen (andAlloc (andAlloc (Below.refl _ _) _) _) hb1
    refine ⟨TB.zero, rfl, fun hne => ?_, h1, h2, h3⟩
    have ho' : w1.ownsRow (w.heap.size + 2) 3 1 (.slice A' xs.length c') xs.length (xs.map nat64) := by simpa using ho
    rcases id ho'.2 with ⟨_, h5⟩ | ⟨g, _, _, h5, _⟩
    · exact absurd (List.eq_nil_of_length_eq_zero h5) hne
    · simp at h5
      obtain ⟨rfl, _⟩ := h5
      exact ⟨g, c', rfl, h1, ho', h3, h2⟩
  have HI0 := Lib.hid hI0
  clear hI0 ho hb1
  go_wp2_with fail
  go_loopw [7] (fun i wr => ∃ (k : Nat) (T : Tot), k ≤ xs.length ∧ i = .int .i64 k ∧ InvS ns w al xs k T (.slice A' xs.length c') wr) (fun i _ => xs.length - (intOf i).toNat)
  case atStart => exact ⟨0, tz, by omega, rfl, HI0.out⟩
  case round =>
    obtain ⟨k, T, hk, rfl, hI⟩ := hrel
    have hnat := hI.bd.nat
    have HI := Lib.hid hI
    clear hI HI0
    by_cases hlt : k < xs.length
    · obtain ⟨x, hx, hxd⟩ : ∃ x, xs[k]? = some x ∧ xs.drop k = x :: xs.drop (k + 1) := ⟨xs[k], List.getElem?_eq_getElem hlt, List.drop_eq_getElem_cons hlt⟩
      have hxm : x ∈ xs := List.mem_of_getElem? hx
      have hxl2 := (HLT.out x hxm).2
      obtain ⟨n, hn, hnd⟩ := get_drop (l := ns) (k := x) (by rw [HL.out]; omega)
      have hrn := HRT.out n (List.mem_of_getElem? hn)
      obtain ⟨b, off, rfl, hb, hnode⟩ := seg_node HSEG.out hn
      have hv := HAL.out x hxm
      obtain ⟨g, c2, h5, hM⟩ := HI.out.mem (by rintro rfl; simp at hlt)
      simp only [Value.slice.injEq] at h5
      obtain ⟨rfl, _, rfl⟩ := h5
      have hxc : wr.cell? ⟨g, k, none⟩ = some (.int .i64 x) := by
        rw [World.ownsRow.cellAt hM.own k (by omega), List.getElem?_map, hx]
        rfl
      have hnr : NodeAt wr b (off + x * 19) n := hnode.below hM.low hb
      have hstep : tsum ns al (xs.drop (k + 1)) (tstep T n (al x)) = tsum ns al xs tz := by
        have h6 := HI.out.rest
        rw [hxd] at h6
        simpa [tsum, hn] using h6
      have HST := Lib.hid hstep
      have HTB := Lib.hid (HI.out.bd.step hrn hv)
      have HTB0 := Lib.hid HI.out.bd
      have HM := Lib.hid hM
      have HRN := Lib.hid hrn
      have HNN := Lib.hid hn
      have hwr : IntKind.i64.wrap (T.nat + al x) = T.nat + al x := IntWalk.i64_in _ (by omega)
      have hzt : w.heap.size + 1 < wr.heap.size := hM.blk.lt
      have hgl : g < wr.heap.size := (hM.own.lt g rfl).2
      have HQ := Lib.hid (show MemQ w xs T g c' wr.heap.size n (wr.alloc (.cells (nc n) 101)).drew from MemQ.drew ⟨hM.alloc _, Blk.node (Blk.new' rfl), hzt⟩)
      have ht0 : (wr.alloc (.cells (nc n) 101)).drew.cell? ⟨w.heap.size + 1, 0, none⟩ = some (.int .i64 T.nat) := (HQ.out.mem.blk.cell 0).trans (tc_nat T)
      have hf0 : (wr.alloc (.cells (nc n) 101)).drew.frozen? ⟨w.heap.size + 1, 0, none⟩ = false := HQ.out.mem.blk.free 0
      have hz8 : w.heap.size + 1 < (wr.alloc (.cells (nc n) 101)).drew.heap.size := HQ.out.mem.blk.lt
      have hBD : Below w.heap.size w (wr.alloc (.cells (nc n) 101)).drew := HQ.out.mem.low
      clear hn hnd hx hnode hM hxd hstep hrn
      have hld0 : (ldN ⟨b, off + x * 19, none⟩).run Tryz.prog wr = .ok (.agg (nc n)) wr := run_ldN hnr
      have hld8 : (ldN ⟨wr.heap.size, 0, none⟩).run Tryz.prog (wr.alloc (.cells (nc n) 101)).drew = .ok (.agg (nc n)) (wr.alloc (.cells (nc n) 101)).drew := run_ldN HQ.out.node
      go_upto_block 2 with (first | (with_reducible show wpList _ _ _ _ _ _; refine wpList_load_node rfl _ rfl _ _ rfl _ (by repeat (first | apply NodeAt.row | (apply Blk.new'; first | rfl | (simp; done)) | (apply Blk.node; apply Blk.new'; first | rfl | (simp; done)) | assumption | apply NodeAt.alloc)) ?_) | (with_reducible show wpList _ _ _ _ _ _; refine wpList_alloc_node rfl rfl ?_) | (with_reducible show wpList _ _ _ _ _ _; refine wpList_store_node rfl _ _ rfl _ _ _ rfl rfl _ (by repeat (first | (apply Blk.new'; first | rfl | (simp; done)) | assumption | apply Blk.alloc)) ?_))
      simp only [Act.put, List.setIfInBounds_toArray, List.set_cons_zero, List.set_cons_succ]
      rw [setRow_new _ _ _ _ _ rfl]
      go_cut [] from 11 to 87 (fun wx => MemQ w xs ⟨T.nat + al x, T.st, T.sh⟩ g c' wr.heap.size n wx)
      case first =>
        clear hnr hld0 hxl2 hxl hl hnat hv hk HI HST HTB HTB0 HM HITS
        cases down
        · by_cases h10 : n.kind = 10
          · have e10 : (n.kind == 10) = true := by simp [h10]
            have HD3 := Lib.hid (HDI.out x hxm n HNN.out rfl h10)
            clear h10
            go_wp2_with fail
            go_region_with (first
              | (go_at_call 161; refine (HD3.out _ hBD).mono ?_; rintro e w4 ⟨vs, A2, c2, l2, rfl, hv2, hb4, hsum⟩; have HSU := Lib.hid hsum; have c4 : w4.cell? ⟨w.heap.size + 1, 0, none⟩ = some (.int .i64 T.nat) := (hb4.cell (p := ⟨w.heap.size + 1, 0, none⟩) hz8).trans ht0; have hz4 : w.heap.size + 1 < w4.heap.size := Nat.lt_of_lt_of_le hz8 hb4.size; have f4 : w4.frozen? ⟨w.heap.size + 1, 0, none⟩ = false := (hb4.frozen (p := ⟨w.heap.size + 1, 0, none⟩) hz8).trans hf0; have hix : ∀ w, (Instr.index 221 (.agg (tc3 vs)) (.int .i64 2)).run Tryz.prog w = .ok (vs 2) w := fun w => idx2 _ _ _ w; rw [hv2] at hix; clear hsum hv2; generalize tc3 vs = cs3 at hix ⊢)
              | (go_at_call 94; refine HSU.out.mono ?_; rintro e w5 ⟨T2, hT2, ⟨hT4, hT5⟩, rfl, hb5⟩; have c5 : w5.cell? ⟨w.heap.size + 1, 0, none⟩ = some (.int .i64 T.nat) := (hb5.cell (p := ⟨w.heap.size + 1, 0, none⟩) hz4).trans c4; have f5 : w5.frozen? ⟨w.heap.size + 1, 0, none⟩ = false := (hb5.frozen (p := ⟨w.heap.size + 1, 0, none⟩) hz4).trans f4; have htf := fld0 T2 hT4 hT5; rw [hT2] at htf; clear hT2 hT4 hT5))
            all_goals
              go_wp2_with fail
              go_meet
              case rel => exact ((HQ.out.below hb4).below hb5).set 0 (.int .i64 (T.nat + al x)) (tc_setNat T _)
          · have e10 : (n.kind == 10) = false := by simp [h10]
            have hA := HON.out x hxm n HNN.out (.inr h10)
            have HA := Lib.hid hA
            have hwr2 : IntKind.i64.wrap (T.nat + alongP n false) = T.nat + al x := by rw [← hA]; exact hwr
            clear h10 hA hwr
            go_wp2_with fail
            go_region_with (first | (go_at_call 162; refine (racross_b n _).mono ?_; rintro e w5 ⟨rfl, hb5⟩; have c5 : w5.cell? ⟨w.heap.size + 1, 0, none⟩ = some (.int .i64 T.nat) := (hb5.cell (p := ⟨w.heap.size + 1, 0, none⟩) hz8).trans ht0; have f5 : w5.frozen? ⟨w.heap.size + 1, 0, none⟩ = false := (hb5.frozen (p := ⟨w.heap.size + 1, 0, none⟩) hz8).trans hf0))
            all_goals
              go_wp2_with fail
              go_meet
              case rel => exact (HQ.out.below hb5).set 0 (.int .i64 (T.nat + al x)) (tc_setNat T _)
        · have hA := HON.out x hxm n HNN.out (.inl rfl)
          have HA := Lib.hid hA
          have hwr2 : IntKind.i64.wrap (T.nat + alongP n true) = T.nat + al x := by rw [← hA]; exact hwr
          clear hA hwr
          go_wp2_with fail
          go_region_with (first | (go_at_call 160; refine (ralong_b n HRN.out _).mono ?_; rintro e w5 ⟨rfl, hb5⟩; have c5 : w5.cell? ⟨w.heap.size + 1, 0, none⟩ = some (.int .i64 T.nat) := (hb5.cell (p := ⟨w.heap.size + 1, 0, none⟩) hz8).trans ht0; have f5 : w5.frozen? ⟨w.heap.size + 1, 0, none⟩ = false := (hb5.frozen (p := ⟨w.heap.size + 1, 0, none⟩) hz8).trans hf0))
          all_goals
            go_wp2_with fail
            go_meet
            case rel => exact (HQ.out.below hb5).set 0 (.int .i64 (T.nat + al x)) (tc_setNat T _)
      case rest =>
        have HM5 := Lib.hid hcut
        clear hcut hld0 hld8 ht0 hf0 hz8 hBD hzt hxc hgl hwr HDI HON
        clear HQ HM
        generalize wr.heap.size = g8 at *
        generalize wc = w6 at *
        have hn6 := HM5.out.node
        have c0 : w6.cell? ⟨g8, 0, none⟩ = some (.int .i64 n.kind) := hn6 0 _ rfl
        have g1 : w6.cell? ⟨g8, 8, none⟩ = some (.int .i64 n.gs) := hn6 8 _ rfl
        have g2 : w6.cell? ⟨g8, 9, none⟩ = some (.int .i64 n.gh) := hn6 9 _ rfl
        have g3 : w6.cell? ⟨g8, 10, none⟩ = some (.int .i64 n.ga) := hn6 10 _ rfl
        have g4 : w6.cell? ⟨g8, 11, none⟩ = some (.int .i64 n.gb) := hn6 11 _ rfl
        have hb6 : g8 < w6.heap.size := hn6.lt
        have hz6 : w.heap.size + 1 < w6.heap.size := HM5.out.mem.blk.lt
        clear hn6
        by_cases h7 : n.kind = 7
        · have e7 : (n.kind == 7) = true := by simp [h7]
          obtain ⟨q1, q2, q3, q4, q5, q6, q7⟩ := right_glue HRN.out h7
          unfold dm at q1 q2 q3
          have hs1 := HTB0.out.st n.ga.toNat
          have hs2 := HTB0.out.sh n.gb.toNat
          have hts : tstep T n (al x) = ⟨T.nat + al x, T.st.set n.ga.toNat (T.st.getD n.ga.toNat 0 + n.gs), T.sh.set n.gb.toNat (T.sh.getD n.gb.toNat 0 + n.gh)⟩ := by simp [tstep, h7]
          have HTS := Lib.hid hts
          have s1 : w6.cell? ⟨w.heap.size + 1, 1 + n.ga.toNat, none⟩ = some (.int .i64 (T.st.getD n.ga.toNat 0)) := (HM5.out.mem.blk.cell _).trans (tc_st (T := ⟨T.nat + al x, T.st, T.sh⟩) HTB0.out.st4 (by omega))
          have f1 := HM5.out.mem.blk.free (1 + n.ga.toNat)
          generalize hS : T.st.getD n.ga.toNat 0 = S at s1 hs1
          generalize hH : T.sh.getD n.gb.toNat 0 = H at hs2
          have HS := Lib.hid hS
          have HH := Lib.hid hH
          have hw1 : IntKind.i64.wrap (S + n.gs) = S + n.gs := IntWalk.i64_in _ (by omega)
          have q5' : n.ga < 4 := by omega
          have q7' : n.gb < 4 := by omega
          have HX1 := Lib.hid hs2
          have HX2 := Lib.hid q3
          have HX3 := Lib.hid q6
          have HX4 := Lib.hid q7'
          have HX5 := Lib.hid hk
          have HX6 := Lib.hid hlt
          have HX7 := Lib.hid hxl
          have HX8 := Lib.hid hl
          clear h7 hts hS hH
          go_wp2_with fail
          clear hnr hxm hxl2 hxl hl hs1 hs2 g2 g4 c0 hv hnat q7' q6 q7 q3 q1 q2 hk hlt
          go_region
          have HM6 := Lib.hid (HM5.out.set (T' := ⟨T.nat + al x, T.st.set n.ga.toNat (S + n.gs), T.sh⟩) (1 + n.ga.toNat) (.int .i64 (S + n.gs)) (tc_setSt (T := ⟨T.nat + al x, T.st, T.sh⟩) HTB0.out.st4 (by omega) _))
          clear s1 f1 hw1 g1 g3 hb6 hz6 q4 q5 q5'
          have q6 := HX3.out
          have q7' := HX4.out
          generalize w6.setCell ⟨w.heap.size + 1, 1 + n.ga.toNat, none⟩ (.int .i64 (S + n.gs)) = w7 at HM6 ⊢
          have hn7 := HM6.out.node
          have g2 : w7.cell? ⟨g8, 9, none⟩ = some (.int .i64 n.gh) := hn7 9 _ rfl
          have g4 : w7.cell? ⟨g8, 11, none⟩ = some (.int .i64 n.gb) := hn7 11 _ rfl
          have hb7 : g8 < w7.heap.size := hn7.lt
          clear hn7
          have hz7 : w.heap.size + 1 < w7.heap.size := HM6.out.mem.blk.lt
          have s2 : w7.cell? ⟨w.heap.size + 1, 5 + n.gb.toNat, none⟩ = some (.int .i64 H) := by
            rw [← HH.out]
            exact (HM6.out.mem.blk.cell _).trans (tc_sh (T := ⟨T.nat + al x, T.st.set n.ga.toNat (S + n.gs), T.sh⟩) (by simp [HTB0.out.st4]) HTB0.out.sh4 (by have := HX4.out; omega))
          have f2 := HM6.out.mem.blk.free (5 + n.gb.toNat)
          have hw2 : IntKind.i64.wrap (H + n.gh) = H + n.gh := IntWalk.i64_in _ (by have := HX1.out; have := HX2.out; have := HX5.out; have := HX6.out; have := HX7.out; have := HX8.out; omega)
          go_wp2_with fail
          go_region
          have HM7 := Lib.hid (HM6.out.set (T' := ⟨T.nat + al x, T.st.set n.ga.toNat (S + n.gs), T.sh.set n.gb.toNat (H + n.gh)⟩) (5 + n.gb.toNat) (.int .i64 (H + n.gh)) (tc_setSh (T := ⟨T.nat + al x, T.st.set n.ga.toNat (S + n.gs), T.sh⟩) (by simp [HTB0.out.st4]) (by omega) _))
          have hk := HX5.out
          have hlt := HX6.out
          have hxl := HX7.out
          have hl := HX8.out
          clear hz7 s2 f2 hw2
          generalize w7.setCell ⟨w.heap.size + 1, 5 + n.gb.toNat, none⟩ (.int .i64 (H + n.gh)) = w8 at HM7 ⊢
          go_wp2_with fail
          have hts := HTS.out
          rw [HS.out, HH.out] at hts
          have htb := HTB.out
          have hst := HST.out
          rw [hts] at htb hst
          go_roundw
          case rel => exact ⟨k + 1, _, by omega, by go_num, MemS.inv (by repeat (first | exact HM7.out.mem | apply MemS.alloc | apply MemS.drew)) htb hst⟩
          case measure => simp [intOf]; omega
        · have e7 : (n.kind == 7) = false := by simp [h7]
          have hts : tstep T n (al x) = ⟨T.nat + al x, T.st, T.sh⟩ := by simp [tstep, h7]
          have HTS := Lib.hid hts
          clear h7 hts
          go_wp2_with fail
          go_roundw
          case rel => exact ⟨k + 1, ⟨T.nat + al x, T.st, T.sh⟩, by omega, by go_num, MemS.inv (by repeat (first | exact HM5.out.mem | apply MemS.alloc | apply MemS.drew)) (by rw [← HTS.out]; exact HTB.out) (by rw [← HTS.out]; exact HST.out)⟩
          case measure => simp [intOf]; omega
    · obtain rfl : k = xs.length := by omega
      have hr := HI.out.rest
      rw [List.drop_of_length_le (Nat.le_refl _)] at hr
      have hr : T = tsum ns al xs tz := hr
      subst hr
      have hblk := HI.out.blk
      have hres := HI.out.res
      have hlow := HI.out.low
      have hbd := HI.out.bd
      go_wp2_with (first | (refine wpList_load_row rfl 109 _ rfl _ rfl _ _ _ _ hblk Tryz.underlying109 rfl (by rw [tc_size hbd.st4 hbd.sh4]; exact tot_info) ?_) | (refine wpList_store_row rfl 109 _ _ rfl _ _ rfl rfl _ _ hres (by rw [tc_size hbd.st4 hbd.sh4]; exact tot_info) (by rw [tc_size hbd.st4 hbd.sh4]; rfl) (tc_one _) ?_))
      exact bodyPost_ret (v := .agg (tc (tsum ns al xs tz))) (results_cell_row rfl _ _ w.heap.size 109 (tc (tsum ns al xs tz)) (0, 0) _ rfl (Blk.row hres _) Tryz.underlying109 rfl (by rw [tc_size hbd.st4 hbd.sh4]; exact tot_info)) rfl ⟨rfl, below_setRow hlow _ _ (Nat.le_refl _)⟩
end Go.Proofs.YtoboecenlangmaaGreat.No
