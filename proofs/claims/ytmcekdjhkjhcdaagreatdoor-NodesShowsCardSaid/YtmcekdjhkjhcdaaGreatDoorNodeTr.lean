import Derived.Test.YtmcekdjhkjhcdaaGreatDoorNodeTh
import Derived.RegionTactic
import Derived.BigRegion
import Derived.Deep.RegionWith
/- The walk of three. Conditions: those that each theorem names. -/
namespace Go.Proofs.YtmcekdjhkjhcdaaGreatDoor.No
open Go.ChangeShapes Go.WideShapes Go.ChangeAt Go.RowKit
open Me Np
set_option linter.unusedVariables false
set_option linter.unusedSimpArgs false

theorem tc3_one {w : World} {base : Nat} {L : Nat → List Nd} (vs : Nat → Value) (h : Own3 w base vs L) : (tc3 vs).all (·.oneCell') = true := by
  have h1 : ∀ j, j < 3 → (vs j).oneCell' = true := fun j hj => by
    rcases (h.own j hj).2 with ⟨e, _⟩ | ⟨g, cap, cur, e, _⟩ <;> rw [e] <;> rfl
  simp [tc3, h1 0 (by omega), h1 1 (by omega), h1 2 (by omega)]
theorem Own3.setRow {w : World} {g : Nat} {vs : Nat → Value} {L : Nat → List Nd} (h : Own3 w (g + 2) vs L) (hg : g ≤ w.heap.size) (cs : Array Value) : Own3 (w.setRow g cs) g vs L :=
  ⟨fun j hj => own_base ((h.own j hj).kept (row := some g) ⟨rfl, rfl, rfl, by simp, fun k hk hne => setRow_other w g k cs (fun e => hne (by rw [e]))⟩ (.inr (fun e => by have := ((h.own j hj).lt _ e).1; omega))) (by omega), h.dist⟩
theorem own_slice {w : World} {base : Nat} {e : TypeId} {size n : Nat} {v : Value} {xs : List Value} (h : w.ownsRow base e size v n xs) : ∃ A c, v = .slice A n c := by
  rcases h.2 with ⟨rfl, rfl⟩ | ⟨g, cap, cur, rfl, _⟩
  · exact ⟨none, 0, rfl⟩
  · exact ⟨_, _, rfl⟩
theorem Mem3.size2 {w : World} {vs : Nat → Value} {L : Nat → List Nd} {wr : World} (h : Mem3 w vs L wr) : w.heap.size + 2 ≤ wr.heap.size := h.blk.lt
theorem Mem3.blkGrown {w : World} {vs : Nat → Value} {L : Nat → List Nd} {wr w' : World} (h : Mem3 w vs L wr) {k : Nat} (hk : k < 3) (hg : wr.grownBy w' (vs k).ownBlock) : Blk w' (w.heap.size + 1) 75 (tc3 vs) :=
  h.blk.grown hg fun e => by have := ((h.own.own k hk).lt _ e.symm).1; omega
/-- What three answers. -/
def Made3 (w : World) (F : Nat → List Nd) (e : Ending) (w' : World) : Prop := ∃ vs, e = .returned (.agg (tc3 vs)) ∧ Own3 w' w.heap.size vs F ∧ Below w.heap.size w w'
set_option maxHeartbeats 4000000 in
set_option maxRecDepth 100000 in
theorem three_any (A : Option Addr) (ns : List Nd) (c a m : Nat) (ss : List Nat) (n : Nd) (w : World) (hc : chk ns = 0) (hcap : ns.length ≤ c) (hseg : Seg w w.heap.size A (ns.flatMap ncs)) (hn : ns[a]? = some n) (hm : endc (ns.drop a) 0 = some m) (hd : D3 ss (ns.drop (a + 1)) 0 (m - 2)) (hm2 : 2 ≤ m) :
    Calls Tryz.prog 27 #[.slice A ns.length c, .int .i64 (a : Int)] w (Made3 w (thr ss (ns.drop (a + 1)) 0)) := by
  have hl := (chk_run hc).1
  obtain ⟨b, off, rfl, hb', _⟩ := seg_node hseg hn
  have hmb := (endc_bd hm).2
  rw [List.length_drop] at hmb
  have hal : a < ns.length := (List.getElem?_eq_some_iff.1 hn).1
  have hml : a + m ≤ ns.length := by omega
  have HEN0 := Lib.hid fun w1 (h : Below w.heap.size w w1) => end_any (some ⟨b, off, none⟩) ns c a m w1 (by omega) (Seg.belowW hseg h) hm
  have HEN := Lib.hid fun (i q : Nat) w1 (h : Below w.heap.size w w1) hm => end_any (some ⟨b, off, none⟩) ns c i q w1 (by omega) (Seg.belowW hseg h) hm
  have HNO := Lib.hid fun (k : Nat) (x : Nd) w1 (h : Below w.heap.size w w1) (hk : ns[k]? = some x) => seg_node (hseg.below h) hk
  have HSEG := Lib.hid hseg
  have HD := Lib.hid hd
  clear hc hseg hn hm hd
  have HL := Lib.hid (rfl : ns.length = ns.length)
  generalize hlen : ns.length = len at hl HEN HEN0 HL hal hml hmb hcap ⊢
  clear HL
  have HL := Lib.hid hlen
  clear hlen
  generalize hF : thr ss (ns.drop (a + 1)) 0 = F
  have HF := Lib.hid hF
  clear hF
  go_enter Tryz.func27, Tryz.ntmps27
  go_wp2_with fail
  refine (HEN0.out _ (andAlloc (andAlloc (Below.refl _ _) _) _)).mono ?_
  rintro e w1 ⟨rfl, hb1⟩
  have hI0 : Inv3 ns w F (a + m - 1) 0 (a + 1) w1 := by
    have h1 : Blk w1 (w.heap.size + 1) 75 (tc3 fun _ => .slice none 0 0) := Blk.below (Blk.new' (by simp)) hb1 (by simp)
    have h2 : Blk w1 w.heap.size 75 (tc3 fun _ => .slice none 0 0) := Blk.below (Blk.alloc (Blk.new' rfl) _) hb1 (by simp; omega)
    have h3 : Below w.heap.size w w1 := andThen (andAlloc (andAlloc (Below.refl _ _) _) _) hb1
    exact ⟨by omega, ss, m - 2, fun _ => [], _, HD.out, by omega, fun j => by rw [List.nil_append, HF.out], ⟨h1, Own3.nil _ _, h3, h2⟩⟩
  have HI0 := Lib.hid hI0
  clear hI0 hb1
  have hlast : IntKind.i64.wrap ((a + m : Nat) - 1 : Int) = ((a + m - 1 : Nat) : Int) := by
    rw [IntWalk.i64_in _ (by omega)]
    omega
  go_wp2_with fail
  go_loopw [6, 7] (fun kv iv wr => ∃ k i : Nat, kv = .int .i64 (k : Int) ∧ iv = .int .i64 (i : Int) ∧ Inv3 ns w F (a + m - 1) k i wr) (fun _ iv _ => len - (intOf iv).toNat)
  case atStart => exact ⟨0, a + 1, rfl, by go_num, HI0.out⟩
  case round =>
    obtain ⟨k, i, rfl, rfl, hI⟩ := hrel
    obtain ⟨hk2, tt, r, L, vs, hD, hir, hall, hM⟩ := hI
    have HM := Lib.hid hM
    have HALL := Lib.hid hall
    clear hM hall HI0 hlast
    cases tt with
    | nil =>
      obtain ⟨rfl, rfl, _⟩ := hD
      obtain rfl : i = a + m - 1 := by omega
      have hF : ∀ j, L j = F j := fun j => by have := HALL.out j; simpa [thr] using this
      obtain rfl : L = F := funext hF
      have hblk := HM.out.blk
      have hres := HM.out.res
      have hlow := HM.out.low
      have hown := HM.out.own
      have HB := Lib.hid hblk
      have HRS := Lib.hid hres
      have HO := Lib.hid hown
      have HLW := Lib.hid hlow
      go_wp2_with (first | (refine wpList_load_row rfl 75 _ rfl _ rfl _ _ _ _ hblk Tryz.underlying75 rfl three_info ?_) | (refine wpList_store_row rfl 75 _ _ rfl _ _ rfl rfl _ _ hres three_info rfl (tc3_one _ hown) ?_))
      refine bodyPost_ret (v := .agg (tc3 vs)) (results_cell_row rfl _ _ w.heap.size 75 (tc3 vs) (0, 0) _ rfl (Blk.row HRS.out _) Tryz.underlying75 rfl three_info) rfl ⟨vs, rfl, ?_, below_setRow HLW.out _ _ (Nat.le_refl _)⟩
      exact HO.out.setRow (Nat.le_of_lt HRS.out.lt) _
    | cons q tt =>
      obtain ⟨x, l', r', hdx, h6, hD⟩ := hD
      obtain ⟨hx, hdr⟩ := drop_cons hdx
      obtain ⟨b2, off2, e2, _, hnode⟩ := HNO.out i x wr HM.out.low hx
      injection e2 with e2
      injection e2 with e3 e4
      subst e3; subst e4
      have c0 : wr.cell? ⟨b, off + i * 19, none⟩ = some (.int .i64 x.kind) := hnode 0 _ rfl
      have hil : i < len := by have := (List.getElem?_eq_some_iff.1 hx).1; have := HL.out; omega
      clear hnode
      rcases hD with ⟨rfl, h11, hk, rfl, hD⟩ | ⟨hq0, h11, hsm, hk, rfl, hq, hD⟩
      · have e11 : (x.kind == 11) = true := by simp [h11]
        have HD1 := Lib.hid hD
        have HDR := Lib.hid hdr
        have HDX := Lib.hid hdx
        clear hD hdr hdx hx
        go_wp2_with fail
        go_roundw
        case rel =>
          refine ⟨k + 1, i + 1, by go_num, by go_num, by omega, tt, r', L, vs, ?_, by omega, fun j => ?_, ?_⟩
          · rw [HDR.out]
            exact HD1.out
          · have := HALL.out j
            rw [HDX.out] at this
            rw [HDR.out]
            simpa [thr] using this
          · repeat (first | exact HM.out | apply Mem3.drew)
        case measure => simp [intOf]; omega
      · have e11 : (x.kind == 11) = false := by simp [h11]
        have HD1 := Lib.hid hD
        have HDX := Lib.hid hdx
        have hqb := endc_bd hq
        rw [List.length_drop, HL.out] at hqb
        have HQ := Lib.hid hq
        have hiq : i + q ≤ len := by omega
        clear hD hx hdr hq hdx hqb
        go_wp2_with fail
        refine (HEN.out i q _ (by repeat (first | exact HM.out.low | refine below_drewN ?_ 1)) HQ.out).mono ?_
        rintro e w2 ⟨rfl, hb2⟩
        have hM2 : Mem3 w vs L w2 := Mem3.below (by repeat (first | exact HM.out | apply Mem3.drew)) hb2
        have HM2 := Lib.hid hM2
        clear hM2 hb2 HM
        go_wp2_with fail
        have hk3 : k < 3 := by omega
        have hM3 := HM2.out.drew
        have hcc : w2.cell? ⟨w.heap.size + 1, k, none⟩ = some (vs k) := (HM2.out.blk.cell k).trans (tc3_at hk3)
        have hcf := HM2.out.blk.free k
        have hz2 : w.heap.size + 1 < w2.heap.size := HM2.out.blk.lt
        have hOW := Lib.hid (hM3.own.own k hk3)
        have hSG := Lib.hid (HSEG.out.below hM3.low)
        have HM3 := Lib.hid hM3
        clear hM3
        have hLk : (L k).length + q ≤ 4000 := by
          have h1 := congrArg List.length (HALL.out k)
          have h2 : (F k).length ≤ len := by
            rw [← HF.out]
            have h3 := thr_len (j := k) HD.out
            omega
          rw [List.length_append] at h1
          omega
        have htl : ((ns.drop i).take q).length = q := by
          rw [List.length_take, List.length_drop, HL.out]
          omega
        have HTL := Lib.hid htl
        have hif : (if c = i then some (⟨b, off, none⟩ : Addr) else some ⟨b, off + i * 19, none⟩) = some ⟨b, off + i * 19, none⟩ := if_neg (by omega)
        have HIF := Lib.hid hif
        have hcell : ∀ j u, (((ns.drop i).take q).flatMap ncs)[j]? = some u → w2.drew.cell? ⟨b, off + i * 19 + j, none⟩ = some u := by
          rw [flat_take ncs_length, flat_drop ncs_length]
          intro j u hu
          have := seg_cells (Seg.take (Seg.drop hSG.out (i * 19)) (q * 19)) j u hu
          have hadd : (⟨b, off + i * 19, none⟩ : Addr).add j = ⟨b, off + i * 19 + j, none⟩ := by unfold Addr.add; split <;> simp_all
          rwa [hadd] at this
        have HCELL := Lib.hid hcell
        clear htl hif hcell
        have hb2' : b < w2.heap.size := by omega
        have hi1 : (i : Int) + q ≤ len := by omega
        have hi2 : (i : Int) + q ≤ c := by omega
        have hi3 : (i : Int) ≤ i + q := by omega
        have hk3i : (k : Int) < 3 := by omega
        go_region_law (first
          | (refine step_append_at rfl (.tmp 35) (.tmp 39) rfl (w.heap.size + 2) ?_ (vs k) (L k).length ((L k).flatMap ncs) rfl hOW.out b (off + i * 19) (c - i) (((i : Int) + q).toNat - i) ((ns.drop i).take q) ?_ ?_ ?_ HCELL.out ?_ ?_; exact HM3.out.size2; (first | rfl | exact congrArg (fun p => Value.slice p (((i : Int) + q).toNat - i) (c - i)) HIF.out); (rw [HTL.out]; omega); exact .inr hb2'; (rw [HTL.out]; omega); intro v3 W3 hown3 hg3 hv3; obtain ⟨A3, c3, rfl⟩ := own_slice hown3; have HM4 := Lib.hid (HM3.out.grow hk3 hown3 hg3 hv3); have hB3 := HM3.out.blkGrown hk3 hg3; have hcc3 := (hB3.cell k).trans (tc3_at hk3); have hcf3 := hB3.free k; have hz3 := hB3.lt))
        have hlq : ((ns.drop i).take q).length = min q (ns.length - i) := by simp
        rw [hlq] at HM4
        clear hlq hcc hcf hcc3 hcf3 hz3 hB3 hg3 hv3 hown3 hOW hSG HCELL
        generalize W3.setCell ⟨w.heap.size + 1, k, none⟩ (.slice A3 ((L k).length + min q (ns.length - i)) c3) = W4 at HM4 ⊢
        generalize min q (ns.length - i) = qq at HM4 ⊢
        go_wp2_with fail
        go_roundw
        case rel =>
          refine ⟨k, i + q, by go_num, by go_num, by omega, tt, r', _, _, ?_, by omega, fun j => ?_, HM4.out⟩
          · have := HD1.out
            rwa [List.drop_drop] at this
          · have := HALL.out j
            obtain ⟨q, rfl⟩ : ∃ y, q = y + 1 := ⟨q - 1, by omega⟩
            simp only [thr, List.drop_drop] at this
            rw [← this]
            by_cases e : j = k
            · simp only [if_pos e, List.append_assoc]
              rw [e]
            · simp only [if_neg e, List.nil_append]
        case measure => simp [intOf]; omega
end Go.Proofs.YtmcekdjhkjhcdaaGreatDoor.No
