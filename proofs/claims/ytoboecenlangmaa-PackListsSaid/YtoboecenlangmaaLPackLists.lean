import Derived.Test.YtoboecenlangmaaMq3
import Derived.Test.YtoboecenlangmaaMq1
import Derived.Test.YtoboecenlangmaaNr
import Derived.Test.YtoboecenlangmaaNodeF
import Derived.Deep.RegionHeld3
import Derived.Test.YtoboecenlangmaaNodeIn
import Derived.Test.YtoboecenlangmaaMem
import Derived.ProofKit
import Derived.OpenShut
import Derived.Deep.Slices
import Derived.KernelRfl
import Derived.Test.YtoboecenlangmaaNodeE
import Derived.SizedLaws
import Derived.Carry
/- PackLists: boxes that are answered are lists, with all that stays in them. No conditions. -/
section
namespace Go.Proofs.Ytoboecenlangmaa.Pk
open Go.ChangeShapes Go.WideShapes Go.ChangeAt Go.RowKit
open Me Np No
set_option linter.unusedVariables false
set_option linter.unusedSimpArgs false

/-- What the first loop of Places holds: the glue so far. -/
structure InvK (l : List Nd) (W : World) (R : List Gl.G) (a : Nat) (v : Value) (wr : World) : Prop where
  rest : ∃ ys s, Stand l a ys ∧ skF l ys s = R ∧ s.length ≤ a ∧ wr.ownsRow W.heap.size 40 5 v s.length (s.flatMap Gl.G.vals)
  low : Below W.heap.size W wr
/-- What the second one holds. -/
structure InvL (l : List Nd) (f : Nat → Int) (W : World) (gx : Nat) (R : Plc) (a : Nat) (v u : Value) (wr : World) : Prop where
  rest : ∃ ys s A c, v = .slice A s.sz.length c ∧ s.sz.length ≤ c ∧ Seg W W.heap.size A (s.sz.map (Value.int .i64)) ∧ Stand l a ys ∧ plF l f ys s = R ∧ PlIn l f s ys s.out.length ∧ s.out.length ≤ a ∧ MP W gx s.x u s.out wr
theorem cells5 {W wr : World} {b o : Nat} {y : Nd} (h : NodeAt W b o y) (hl : Below W.heap.size W wr) (hb : b < W.heap.size) : wr.cell? ⟨b, o, none⟩ = some (.int .i64 y.kind) ∧ wr.cell? ⟨b, o + 7, none⟩ = some (.int .i64 y.gn) ∧ wr.cell? ⟨b, o + 8, none⟩ = some (.int .i64 y.gs) ∧ wr.cell? ⟨b, o + 9, none⟩ = some (.int .i64 y.gh) ∧ wr.cell? ⟨b, o + 10, none⟩ = some (.int .i64 y.ga) ∧ wr.cell? ⟨b, o + 11, none⟩ = some (.int .i64 y.gb) :=
  ⟨(h.below hl hb) 0 _ rfl, (h.below hl hb) 7 _ rfl, (h.below hl hb) 8 _ rfl, (h.below hl hb) 9 _ rfl, (h.below hl hb) 10 _ rfl, (h.below hl hb) 11 _ rfl⟩
set_option maxHeartbeats 4000000 in
set_option maxRecDepth 100000 in
theorem places_ok (A : Option Addr) (ns l : List Nd) (c k : Nat) (x : Nd) (xs : List Nat) (f : Nat → Int) (w : World) (hcap : ns.length ≤ c) (hl0 : ns.length ≤ 2000) (hseg : Seg w w.heap.size A (ns.flatMap ncs)) (hx : ns[k]? = some x) (h45 : x.kind = 4 ∨ x.kind = 5)
    (hI : Calls Try.prog 24 #[.slice A ns.length c, .int .i64 (k : Int)] w fun e' w' => ∃ v, e' = .returned (.tuple #[v, .int .i64 0]) ∧ w'.ownsRow w.heap.size 54 19 v l.length (l.flatMap ncs) ∧ Below w.heap.size w w')
    (hc : chk l = 0) (hxs : Its xs l 0) (hf : ∀ k, -281474976710656 ≤ f k ∧ f k ≤ 281474976710656)
    (hsz : ∀ (k : Nat) (n : Nd), l[k]? = some n → ¬ n.kind = 6 → ¬ n.kind = 11 → ∀ (A : Option Addr) (c : Nat) (w : World), l.length ≤ c → Seg w w.heap.size A (l.flatMap ncs) → Calls Try.prog 51 #[.slice A l.length c, .int .i64 (k : Int), .bool (x.kind == 5)] w fun e w' => e = .returned (.int .i64 (f k)) ∧ Below w.heap.size w w') :
    Calls Try.prog 23 #[.slice A ns.length c, .int .i64 (k : Int)] w (PlOut (plcR x l f xs).1 (plcR x l f xs).2 w) := by
  have hl := (chk_run hc).1
  have HI := Lib.hid hI
  have HF := Lib.hid hf
  have HIT := Lib.hid (fun (A : Option Addr) (c a m : Nat) (w1 : World) (hs : Seg w1 w1.heap.size A (l.flatMap ncs)) hb hm => item_ok A l c a m w1 (by omega) hs hc hb hm)
  have HST := Lib.hid (stand0 hc hxs)
  have HSL : (skF l xs []).length ≤ 2000 := by
    have h1 := skF_len l xs []
    have h2 := hxs.len
    simp only [List.length_nil] at h1
    omega
  have HSS := Lib.hid (fun (A : Option Addr) (c : Nat) (w1 : World) (hr : Gl.Row w1 A (skF l xs [])) => Gl.sizes_any A (skF l xs []) c x.sign x.order x.num x.den w1 (by unfold maxLen; omega) hr)
  obtain ⟨G, hG⟩ : ∃ G, skF l xs [] = G := ⟨_, rfl⟩
  rw [hG] at HSS HSL
  have HG := Lib.hid hG
  obtain ⟨PR, hPR⟩ : ∃ PR, plcR x l f xs = PR := ⟨_, rfl⟩
  rw [hPR]
  have HPR := Lib.hid hPR
  obtain ⟨dn, hdn⟩ : ∃ dn, (x.kind == 5) = dn := ⟨_, rfl⟩
  rw [hdn] at hsz
  have HSZ := Lib.hid hsz
  have e4 : (x.kind != 4) = dn := by
    rw [← hdn]
    rcases h45 with h | h <;> simp [h]
  have e5 : (x.kind != 5) = !dn := by
    rw [← hdn]
    rcases h45 with h | h <;> simp [h]
  obtain ⟨b0, off0, rfl, hb0, hnode⟩ := seg_node hseg hx
  have hkl : k < ns.length := (List.getElem?_eq_some_iff.1 hx).1
  clear hseg hx hc hxs hsz hI hf hG hPR h45
  generalize hlen : l.length = len at *
  have HL := Lib.hid hlen
  clear hlen
  generalize ns.length = lns at *
  cases dn
  all_goals
    simp only [Bool.not_false, Bool.not_true] at e5
    go_enter Try.func23, Try.ntmps23
    go_wp2_with fail
    refine HI.out.mono ?_
    rintro e w1 ⟨v, rfl, ho, hb1⟩
    have hnode1 := hnode.below hb1 hb0
    have ho2 := ho
    rw [← HL.out] at ho2
    obtain ⟨Ai, ci, hvi, hci, _, hsi⟩ := Seg.of_own ho2
    rw [HL.out] at hvi hci
    subst hvi
    clear ho ho2
    go_wp2_with (first | (refine wpList_load_node rfl _ rfl _ _ rfl _ (by repeat (first | apply NodeAt.row | (apply Blk.new'; first | rfl | (simp; done)) | (apply Blk.node; apply Blk.new'; first | rfl | (simp; done)) | assumption | apply NodeAt.alloc)) ?_) | (refine wpList_alloc_node rfl rfl ?_) | (refine wpList_store_node rfl _ _ rfl _ _ _ rfl rfl _ (by repeat (first | (apply Blk.new'; first | rfl | (simp; done)) | assumption | apply Blk.alloc)) ?_))
    have hW0 : Below w.heap.size w (w1.alloc (.cells (nc x) 54)) := andAlloc hb1 _
    have hBL : Blk (w1.alloc (.cells (nc x) 54)) w1.heap.size 54 (nc x) := Blk.new' rfl
    have hSG : Seg (w1.alloc (.cells (nc x) 54)) (w1.alloc (.cells (nc x) 54)).heap.size Ai (l.flatMap ncs) := Seg.belowW hsi (andAlloc (Below.refl _ _) _)
    clear hb1 hnode1 hsi
    generalize w1.alloc (.cells (nc x) 54) = W at hW0 hBL hSG ⊢
    generalize w1.heap.size = g8 at hBL ⊢
    have HW0 := Lib.hid hW0
    have HBL := Lib.hid hBL
    have HSG := Lib.hid hSG
    clear hW0 hBL hSG
    go_loopw [9, 10] (fun v9 v10 wr => ∃ a : Nat, v10 = .int .i64 (a : Int) ∧ InvK l W G a v9 wr) (fun _ v10 _ => len - (intOf v10).toNat)
    case atStart => exact ⟨0, rfl, ⟨xs, [], HST.out, HG.out, by simp, World.ownsRow_nil _ _ _ _⟩, Below.refl _ _⟩
    case round =>
      obtain ⟨a, rfl, hK⟩ := hrel
      obtain ⟨ys, s, hst, hR, h1, hO⟩ := hK.rest
      have HLOW := Lib.hid hK.low
      have hal := hst.le
      rw [HL.out] at hal
      by_cases hlt : a < len
      · obtain ⟨m, zs, y, rfl, hm, hm1, ham, hst', _, hy, h6, h11⟩ := hst.step (by rw [HL.out]; exact hl) (by rw [HL.out]; exact hlt)
        rw [HL.out] at ham
        obtain ⟨b, off, rfl, hb, hnd⟩ := seg_node HSG.out hy
        obtain ⟨c0, c7, c8, c9, c10, c11⟩ := cells5 hnd HLOW.out hb
        have HS := Lib.hid (And.intro hst' (And.intro hR hO))
        have HX := Lib.hid (And.intro hy hm)
        have HB := Lib.hid (beg_of hy h6 h11)
        have HH := Lib.hid h1
        have hal1 : (a : Int) + m ≤ len := by omega
        clear hst' hR hO hy hm hnd hK hst h1 h6 h11
        by_cases k7 : y.kind = 7
        · have e7 : (y.kind == 7) = true := by simp [k7]
          have HK := Lib.hid (skstep_yes (s := s) HX.out.1 k7)
          clear k7
          go_wp2_with (first
            | (refine wpList_ex (o := ⟨some 53, _, _, _, _, _⟩) (v := .slice (some ⟨wr.heap.size, 0, none⟩) 1 1) (w' := wr.alloc (.cells #[.int .i64 y.gn, .int .i64 y.gs, .int .i64 y.gh, .int .i64 y.ga, .int .i64 y.gb] 40)) rfl (by kernel_rfl) ?_)
            | (at_builtin; refine wpList_push rfl (.tmp 47) (.tmp 53) 22 rfl W.heap.size 40 _ 5 40 Try.underlying22 info_glue rfl (by decide) (by decide) _ _ _ rfl HS.out.2.2 HLOW.out.size #[.int .i64 y.gn, .int .i64 y.gs, .int .i64 y.gh, .int .i64 y.ga, .int .i64 y.gb] rfl rfl rfl rfl (by have := HH.out; omega) ?_; intro v3 W3 hown3 hg3 hnn3; have HO3 := Lib.hid hown3; have HL3 := Lib.hid (below_grown (Nat.le_refl _) (andAlloc HLOW.out _) hg3 (fun q hq => (HS.out.2.2.lt q hq).1)); clear hown3 hg3 hnn3)
            | (go_at_call 48; refine (HIT.out _ ci a m _ (Seg.belowW HSG.out HL3.out) HB.out HX.out.2).mono ?_; rintro e w5 ⟨rfl, hb5⟩; have HB5 := Lib.hid hb5; clear hb5))
          go_roundw
          case rel =>
            refine ⟨a + m, by go_num, ⟨zs, _, HS.out.1, HS.out.2.1, ?_, ?_⟩, andThen HL3.out HB5.out⟩
            · rw [HK.out]; have := HH.out; simp only [List.length_append, List.length_cons, List.length_nil]; omega
            · rw [HK.out]
              have h := own_below HO3.out HB5.out
              simpa [List.flatMap_append, gOf, Gl.G.vals] using h
          case measure => simp [intOf]; omega
        · have e7 : (y.kind == 7) = false := by simp [k7]
          have HK := Lib.hid (skstep_no (s := s) HX.out.1 k7)
          clear k7
          go_wp2_with (go_at_call 48; refine (HIT.out _ ci a m _ (Seg.belowW HSG.out HLOW.out) HB.out HX.out.2).mono ?_; rintro e w5 ⟨rfl, hb5⟩; have HB5 := Lib.hid hb5; clear hb5)
          go_roundw
          case rel =>
            refine ⟨a + m, by go_num, ⟨zs, _, HS.out.1, HS.out.2.1, ?_, ?_⟩, andThen HLOW.out HB5.out⟩
            · rw [HK.out]; have := HH.out; omega
            · rw [HK.out]; exact own_below HS.out.2.2 HB5.out
          case measure => simp [intOf]; omega
      · obtain rfl : a = len := by omega
        have he : ys = [] := (show Stand l l.length ys from HL.out ▸ hst).done
        subst he
        have hsG : s = G := hR
        subst hsG
        obtain ⟨AG, cG, hvG, hcG, _, hsG⟩ := Seg.of_own hO
        subst hvG
        have HRW := Lib.hid (show Gl.Row wr AG s from hsG)
        have hnx : NodeAt wr g8 0 x := (Blk.node HBL.out).below HLOW.out HBL.out.lt
        clear hst hR hO hsG h1 hK hal
        have hlw1 := HLOW.out
        have c12 : wr.cell? ⟨g8, 12, none⟩ = some (.int .i64 x.sign) := Blk.cell (HBL.out.below hlw1 HBL.out.lt) 12
        have c13 : wr.cell? ⟨g8, 13, none⟩ = some (.int .i64 x.order) := Blk.cell (HBL.out.below hlw1 HBL.out.lt) 13
        have c14 : wr.cell? ⟨g8, 14, none⟩ = some (.int .i64 x.num) := Blk.cell (HBL.out.below hlw1 HBL.out.lt) 14
        have c15 : wr.cell? ⟨g8, 15, none⟩ = some (.int .i64 x.den) := Blk.cell (HBL.out.below hlw1 HBL.out.lt) 15
        clear hlw1
        have HSZO := Lib.hid (HSS.out AG cG wr HRW.out)
        by_cases hE : Gl.szE s x.sign x.order x.num x.den = 0
        · have hpr : PR = ((plF l f xs ⟨0, Gl.szL s x.sign x.order x.num x.den, []⟩).out, 0) := by
            rw [← HPR.out]
            unfold plcR
            rw [HG.out, if_pos hE]
          have HPP := Lib.hid hpr
          have hszi := Gl.szL_in hE
          have HSI := Lib.hid hszi
          have HE := Lib.hid hE
          clear hpr hszi hE HPR
          go_wp2_with fail
          refine HSZO.out.mono ?_
          rintro e w5 ⟨hs5, hb5⟩
          rw [if_pos HE.out] at hs5
          obtain ⟨v5, rfl, own5⟩ := hs5
          have own5' := own5
          rw [← HSI.out.1] at own5'
          obtain ⟨As, cs, hvs, hcs, _, hss⟩ := Seg.of_own own5'
          subst hvs
          have HB5 := Lib.hid (andThen HLOW.out hb5)
          have HSS5 := Lib.hid hss
          clear own5 own5' hb5 hss c12 c13 c14 c15 HSZO
          generalize hZ : Gl.szL s x.sign x.order x.num x.den = Z at *
          generalize hPF : plF l f xs ⟨0, Z, []⟩ = PF at *
          have HPF := Lib.hid hPF
          clear hPF hZ hnx hnode hb0 hkl
          obtain ⟨gx, hgx⟩ : ∃ gx, w5.heap.size = gx := ⟨_, rfl⟩
          go_wp2_with fail
          go_loopw [11, 14, 15] (fun v11 v14 v15 wr2 => ∃ j : Nat, v15 = .int .i64 (j : Int) ∧ InvL l f w5 w5.heap.size PF j v11 v14 wr2) (fun _ _ v15 _ => a - (intOf v15).toNat)
          case atStart => exact ⟨0, rfl, xs, ⟨0, Z, []⟩, As, cs, rfl, hcs, HSS5.out, HST.out, HPF.out, ⟨by rw [HG.out]; exact HSI.out.1, HSI.out.2, by simp, rfl⟩, Nat.zero_le _, Blk.new' rfl, World.ownsRow_nil _ _ _ _, andAlloc (Below.refl _ _) _, Nat.le_refl _⟩
          case round =>
            obtain ⟨j, rfl, hL⟩ := hrel
            obtain ⟨ys, ⟨x2, sz2, out2⟩, A2, c2, rfl, hc2, hsg2, hst, hR, hP, hlen2, hM⟩ := hL.rest
            rw [hgx] at hM ⊢
            simp only at hc2 hsg2 hR hP hlen2 hM ⊢
            have hx0 : wr.cell? ⟨gx, 0, none⟩ = some (.int .i64 x2) := Blk.cell hM.blk 0
            have HMP := Lib.hid hM
            have hxb := hP.x
            simp only at hxb
            have hal := hst.le
            rw [HL.out] at hal
            by_cases hlt2 : j < a
            · obtain ⟨m, zs, y, rfl, hm, hm1, ham, hst', _, hy, h6, h11⟩ := hst.step (by rw [HL.out]; exact hl) (by rw [HL.out]; exact hlt2)
              rw [HL.out] at ham
              obtain ⟨b, off, rfl, hb, hnd⟩ := seg_node HSG.out hy
              have HND := Lib.hid (fun w' (h : Below w5.heap.size w5 w') => show w'.cell? ⟨b, off + j * 19, none⟩ = some (.int .i64 y.kind) from (cells5 hnd (andThen HB5.out h) hb).1)
              have HS := Lib.hid (And.intro hst' hR)
              have HX := Lib.hid (And.intro hy hm)
              have HB := Lib.hid (beg_of hy h6 h11)
              have hal1 : (j : Int) + m ≤ a := by omega
              by_cases k7 : y.kind = 7
              · have e7 : (y.kind == 7) = true := by simp [k7]
                obtain ⟨z, r, hz, hzb, hst1, hin1⟩ := hP.skip hy k7
                simp only at hz
                subst hz
                obtain ⟨b2, off2, rfl, hb2, hz2⟩ := Si.seg_get hsg2 (k := 0) (u := .int .i64 z) rfl
                have HZ2 := Lib.hid (fun w' (h : Below w5.heap.size w5 w') => show w'.cell? ⟨b2, off2, none⟩ = some (.int .i64 z) from (h.cell (p := ⟨b2, off2, none⟩) hb2).trans hz2)
                have HST1 := Lib.hid (And.intro hst1 hin1)
                have HSG2 := Lib.hid (And.intro hb2 hsg2)
                have hx1 : -2305843009213693952 ≤ x2 := by omega
                have hx3 : x2 ≤ 2305843009213693952 := by omega
                have hz1 : -2305843009213693952 ≤ z := by omega
                have hz3 : z ≤ 2305843009213693952 := by omega
                simp only [List.length_cons] at hc2 ⊢
                have HLE := Lib.hid hlen2
                clear hM hst' hR hy hm hnd hL hst hP h6 h11 k7 hz2 hst1 hin1 hsg2 hlen2 hxb hzb hb2
                go_wp2_with (first
                  | (at_builtin; refine wpList_push rfl (.tmp 82) (.tmp 84) 26 rfl (gx + 1) 3 _ 1 8 Try.underlying26 info_int rfl (by decide) (by decide) _ _ _ rfl HMP.out.own HMP.out.blk.lt #[.int .i64 x2] rfl rfl rfl rfl (by have := HLE.out; omega) ?_; intro v3 W3 hown3 hg3 hnn3; have HM3 := Lib.hid ((HMP.out.below (andAlloc (Below.refl _ _) _)).push hown3 hg3); have cy3 := HND.out _ HM3.out.low; have cz3 := HZ2.out _ HM3.out.low; clear hown3 hg3 hnn3)
                  | (go_at_call 50; refine (grow_any gx x2 z _ HM3.out.blk hx1 hx3 hz1 hz3).mono ?_; rintro e w7 ⟨rfl, hb7, hg7⟩; have HM7 := Lib.hid (HM3.out.turn hb7 hg7); clear hb7 hg7)
                  | (go_at_call 48; refine (HIT.out _ ci j m _ (Seg.belowW HSG.out (andThen HB5.out HM7.out.low)) HB.out HX.out.2).mono ?_; rintro e w8 ⟨rfl, hb8⟩; have HB8 := Lib.hid hb8; clear hb8))
                go_roundw
                case rel =>
                  refine ⟨j + m, by go_num, ⟨zs, ⟨x2 + z, r, out2 ++ [x2]⟩, if c2 = 1 then some ⟨b2, off2, none⟩ else some ⟨b2, off2 + 1, none⟩, c2 - 1, ?_, by simp only; omega, ?_, HS.out.1, ?_, ?_, ?_, ?_⟩⟩
                  · rfl
                  · simp only
                    have h := HSG2.out.2
                    split
                    · have : r = [] := List.eq_nil_of_length_eq_zero (by omega)
                      subst this
                      exact .inl rfl
                    · have h2 := Seg.drop h 1
                      simpa using h2
                  · have h := HS.out.2
                    rw [plF_cons, HST1.out.1] at h
                    exact h
                  · have h := HST1.out.2
                    rw [HST1.out.1] at h
                    simpa using h
                  · have := HLE.out
                    simp only [List.length_append, List.length_cons, List.length_nil]
                    omega
                  · exact HM7.out.below HB8.out
                case measure => simp [intOf]; omega
              · have e7 : (y.kind == 7) = false := by simp [k7]
                obtain ⟨hst1, hin1⟩ := hP.other hy k7 (HF.out j)
                have HST1 := Lib.hid (And.intro hst1 hin1)
                have hfj := HF.out j
                have hx1 : -2305843009213693952 ≤ x2 := by omega
                have hx3 : x2 ≤ 2305843009213693952 := by omega
                have hz1 : -2305843009213693952 ≤ f j := by omega
                have hz3 : f j ≤ 2305843009213693952 := by omega
                have HK6 := Lib.hid (And.intro h6 h11)
                have HLE := Lib.hid hlen2
                have HSG2 := Lib.hid hsg2
                clear hM hst' hR hy hm hnd hL hst hP h6 h11 k7 hst1 hin1 hsg2 hlen2 hxb hfj
                go_wp2_with (first
                  | (at_builtin; refine wpList_push rfl (.tmp 82) (.tmp 84) 26 rfl (gx + 1) 3 _ 1 8 Try.underlying26 info_int rfl (by decide) (by decide) _ _ _ rfl HMP.out.own HMP.out.blk.lt #[.int .i64 x2] rfl rfl rfl rfl (by have := HLE.out; omega) ?_; intro v3 W3 hown3 hg3 hnn3; have HM3 := Lib.hid ((HMP.out.below (andAlloc (Below.refl _ _) _)).push hown3 hg3); have cy3 := HND.out _ HM3.out.low; have cg3 : W3.cell? ⟨g8, 0, none⟩ = some (.int .i64 x.kind) := Blk.cell (HBL.out.below (andThen HB5.out HM3.out.low) HBL.out.lt) 0; clear hown3 hg3 hnn3)
                  | (go_at_call 51; refine (HSZ.out j y HX.out.1 HK6.out.1 HK6.out.2 _ ci _ hci (Seg.belowW HSG.out (andThen HB5.out HM3.out.low))).mono ?_; rintro e w6 ⟨rfl, hb6⟩; have HM6 := Lib.hid (HM3.out.below hb6); clear hb6)
                  | (go_at_call 50; refine (grow_any gx x2 (f j) _ HM6.out.blk hx1 hx3 hz1 hz3).mono ?_; rintro e w7 ⟨rfl, hb7, hg7⟩; have HM7 := Lib.hid (HM6.out.turn hb7 hg7); clear hb7 hg7)
                  | (go_at_call 48; refine (HIT.out _ ci j m _ (Seg.belowW HSG.out (andThen HB5.out HM7.out.low)) HB.out HX.out.2).mono ?_; rintro e w8 ⟨rfl, hb8⟩; have HB8 := Lib.hid hb8; clear hb8))
                go_roundw
                case rel =>
                  refine ⟨j + m, by go_num, ⟨zs, ⟨x2 + f j, sz2, out2 ++ [x2]⟩, A2, c2, rfl, hc2, HSG2.out, HS.out.1, ?_, ?_, ?_, ?_⟩⟩
                  · have h := HS.out.2
                    rw [plF_cons, HST1.out.1] at h
                    exact h
                  · have h := HST1.out.2
                    rw [HST1.out.1] at h
                    simpa using h
                  · have := HLE.out
                    simp only [List.length_append, List.length_cons, List.length_nil]
                    omega
                  · exact HM7.out.below HB8.out
                case measure => simp [intOf]; omega
            · obtain rfl : j = a := by omega
              have he : ys = [] := (show Stand l l.length ys from HL.out ▸ hst).done
              subst he
              have hPo : PF.out = out2 := by
                have h : (⟨x2, sz2, out2⟩ : Plc) = PF := hR
                rw [← h]
              have HPO := Lib.hid hPo
              clear hst hR hP hM hL hPo hsg2
              go_wp2_with fail
              go_ret2
              rw [HPP.out]
              refine ⟨u14, rfl, ?_, andThen HW0.out (andThen HB5.out HMP.out.low)⟩
              simp only
              rw [HPO.out]
              exact own_base HMP.out.own (by have := HMP.out.gl; have := HW0.out.size; have := HB5.out.size; omega)
        · have hpr : PR = ([], Gl.szE s x.sign x.order x.num x.den) := by
            rw [← HPR.out]
            unfold plcR
            rw [HG.out, if_neg hE]
          have HPP := Lib.hid hpr
          have HE := Lib.hid hE
          clear hpr hE HPR
          go_wp2_with fail
          refine HSZO.out.mono ?_
          rintro e w5 ⟨hs5, hb5⟩
          rw [if_neg HE.out] at hs5
          subst hs5
          clear HSZO
          generalize Gl.szE s x.sign x.order x.num x.den = E at *
          have e0 : (E != 0) = true := by simp [HE.out]
          go_wp2_with fail
          go_ret2
          rw [HPP.out]
          exact PlOut.no (andThen HW0.out (andThen HLOW.out hb5)) _
end Go.Proofs.Ytoboecenlangmaa.Pk
end
section
namespace Go.Proofs.Ytoboecenlangmaa.Pk
open Go.ChangeShapes Go.WideShapes Go.ChangeAt Go.RowKit
open Me Np No
set_option linter.unusedVariables false
set_option linter.unusedSimpArgs false

def bitN : Nd := { nz 1 with char := 97, wd := 327680, ht := 262144 }
def gluN : Nd := { nz 7 with gn := 65536, gs := 131072, gh := 65536 }
def l3 : List Nd := [bitN, gluN, bitN]
theorem bit_right : right bitN = true := right_s bitN 1 rfl rfl rfl rfl
theorem glu_right : right gluN = true := right_s gluN 7 rfl rfl rfl rfl
theorem end_right : right (nz 6) = true := right_s (nz 6) 6 rfl rfl rfl rfl
theorem l3_chk : chk l3 = 0 := by
  have h : Np.run l3 ([], 0) = some ([], 1) := by
    simp only [l3, Np.run, stp, bit_right, glu_right]
    rfl
  unfold chk
  rw [h]
  rfl
theorem l3_its : Its [0, 1, 2] l3 0 := ⟨rfl, 1, rfl, rfl, 1, rfl, rfl, 1, rfl, rfl⟩
theorem l3_part : partD l3 = (l3, []) := by
  unfold partD
  rw [itsD_of l3_its]
  rfl
theorem l3_al : alD l3 false 0 = 327680 ∧ alD l3 false 1 = 65536 ∧ alD l3 false 2 = 327680 :=
  ⟨alD_of ⟨bitN, rfl, rfl⟩, alD_of ⟨gluN, rfl, rfl⟩, alD_of ⟨bitN, rfl, rfl⟩⟩
theorem l3_tot : totD l3 false [0, 1, 2] = ⟨720896, [131072, 0, 0, 0], [65536, 0, 0, 0]⟩ := by
  have h : ∀ al : Nat → Int, al 0 = 327680 → al 1 = 65536 → al 2 = 327680 → tsum l3 al [0, 1, 2] tz = ⟨720896, [131072, 0, 0, 0], [65536, 0, 0, 0]⟩ := by
    intro al h0 h1 h2
    simp only [tsum, h0, h1, h2]
    rfl
  exact h _ l3_al.1 l3_al.2.1 l3_al.2.2
theorem l3_ext : extD l3 false [0, 1, 2] = (262144, 0) := by
  have h0 : roD l3 0 = (262144, 0) := roD_of ⟨bitN, rfl, rfl⟩
  have h1 : roD l3 1 = (0, 0) := roD_of ⟨gluN, rfl, rfl⟩
  have h2 : roD l3 2 = (262144, 0) := roD_of ⟨bitN, rfl, rfl⟩
  have h : ∀ ra : Nat → Int × Int, ra 0 = (262144, 0) → ra 1 = (0, 0) → ra 2 = (262144, 0) → rfold ra [0, 1, 2] (0, 0) = (262144, 0) := by
    intro ra h0 h1 h2
    simp only [rfold, h0, h1, h2]
    rfl
  exact h _ h0 h1 h2
theorem l3_msr : Msr l3 false 720896 131072 0 0 0 65536 0 0 0 0 262144 0 0 := by
  have ht := fun A k w h hs => totals_any A l3 k [0, 1, 2] false w l3_chk h hs l3_its
  have hR : totR l3 false [0, 1, 2] = ⟨720896, [131072, 0, 0, 0], [65536, 0, 0, 0]⟩ := by
    unfold totR
    rw [l3_tot]
    rfl
  have hu := fun A k w h hs => extent_good A l3 k [0, 1, 2] false w l3_chk h hs l3_its
  simp only [hR, l3_tot] at ht
  simp only [l3_ext] at hu
  exact ⟨ht, hu, fun _ => rfl, fun _ => ⟨rfl, rfl, rfl, rfl, rfl, rfl, rfl, rfl⟩, fun _ => .inl rfl, fun _ => ⟨rfl, rfl⟩⟩
/-- The box around them. -/
def boxN : Nd := fitN (hN 851968 262144 0) (1, 0, 131072, 131072)
theorem box_right : right boxN = true := right_s boxN 4 rfl rfl rfl rfl
theorem box_chk : chk (wrapL boxN l3) = 0 := by
  have h : Np.run (wrapL boxN l3) ([], 0) = some ([], 2) := by
    simp only [wrapL, l3, List.cons_append, List.nil_append, Np.run, stp, bit_right, glu_right, box_right, end_right]
    rfl
  unfold chk
  rw [h]
  rfl
theorem live_hpack (A : Option Addr) (k : Nat) (w : World) (hk : 3 ≤ k) (hs : Seg w w.heap.size A (l3.flatMap ncs)) : Calls Try.prog 20 #[.slice A 3 k, .int .i64 851968, .bool true] w (HOut (wrapL boxN l3, [], 100, 0, 0) w) := by
  have h := hpack_t A l3 l3 [] (wrapL boxN l3) k 851968 w l3_chk hk hs rfl l3_part 720896 131072 0 0 0 65536 0 0 0 0 262144 0 0 0 851968 l3_msr rfl (fun A c' w hs => (wrap_ok boxN A l3 c' w hs box_right rfl (by decide) l3_chk box_chk).mono (by rintro e w' ⟨v, rfl, h, hb⟩; exact ⟨v, rfl, h, hb⟩))
  have e : hpkR 0 0 (dimB 851968) 0 (wrapL boxN l3) [] (setV (fitN (hN 851968 262144 0) (Gl.fit 131072 0 0 0 65536 0 0 0 (851968 - 720896))) 131072 65536 ((l3.length : Int) == 0) (851968 - 720896) (0, 0)).1 (setV (fitN (hN 851968 262144 0) (Gl.fit 131072 0 0 0 65536 0 0 0 (851968 - 720896))) 131072 65536 ((l3.length : Int) == 0) (851968 - 720896) (0, 0)).2 = (wrapL boxN l3, [], 100, 0, 0) := by kernel_rfl
  rw [e] at h
  exact h
theorem live_sizes : Gl.szE [gOf gluN] 1 0 131072 131072 = 0 ∧ Gl.szL [gOf gluN] 1 0 131072 131072 = [196608] := by
  have hr : Gl.rowE [gOf gluN] = 0 := by decide
  have ha : Gl.argOk 1 0 = true := by decide
  have hg : Gl.rngOk 1 131072 131072 = true := by decide
  have hz : Gl.run 1 0 131072 131072 [gOf gluN] = some ⟨131072, 131072, [196608]⟩ := by kernel_rfl
  exact Gl.szE_some hr ha hg hz
theorem live_places (A : Option Addr) (k : Nat) (w : World) (hk : 5 ≤ k) (hs : Seg w w.heap.size A ((wrapL boxN l3).flatMap ncs)) : Calls Try.prog 23 #[.slice A 5 k, .int .i64 0] w (PlOut [0, 327680, 524288] 0 w) := by
  obtain ⟨f, hf, hv, hz⟩ := size_case l3 false l3_chk
  have f0 : f 0 = 327680 := hv 0 bitN rfl (.inr (by decide))
  have f2 : f 2 = 327680 := hv 2 bitN rfl (.inr (by decide))
  have hin : innerL (wrapL boxN l3) 0 5 = l3 := rfl
  have hI := inside_ok A (wrapL boxN l3) k 0 5 boxN w hk hs box_chk rfl rfl rfl rfl
  rw [hin] at hI
  have h := places_ok A (wrapL boxN l3) l3 k 0 boxN [0, 1, 2] f w hk (by decide) hs rfl (.inl rfl) hI l3_chk l3_its hf hz
  have e : plcR boxN l3 f [0, 1, 2] = ([0, 327680, 524288], 0) := by
    unfold plcR
    have hg : skF l3 [0, 1, 2] [] = [gOf gluN] := rfl
    rw [hg]
    have h1 : Gl.szE [gOf gluN] boxN.sign boxN.order boxN.num boxN.den = 0 := live_sizes.1
    have h2 : Gl.szL [gOf gluN] boxN.sign boxN.order boxN.num boxN.den = [196608] := live_sizes.2
    rw [h1, h2, if_pos rfl]
    have h3 : ∀ f : Nat → Int, f 0 = 327680 → f 2 = 327680 → (plF l3 f [0, 1, 2] ⟨0, [196608], []⟩).out = [0, 327680, 524288] := by
      intro f h0 h2
      show [(0 : Int), 0 + f 0, 0 + f 0 + 196608] = _
      rw [h0]
      rfl
    rw [h3 f f0 f2]
  rw [e] at h
  exact h
end Go.Proofs.Ytoboecenlangmaa.Pk
end
section
namespace Go.Proofs.Ytoboecenlangmaa.Pk
open Go.ChangeShapes Go.WideShapes Go.ChangeAt Go.RowKit
open Me Np No
set_option linter.unusedVariables false
set_option linter.unusedSimpArgs false

theorem num6_any (x : Int) (w : World) : Calls Try.prog 21 #[.int .i64 x] w fun e w' => e = .returned (.int .i64 x) ∧ w = w' := by
  go_enter Try.func21, Try.ntmps21
  go_wp2
  go_ret
  exact ⟨rfl, rfl⟩
section
attribute [local go_sem ↓] bldN_eq
set_option maxRecDepth 100000 in
theorem bit_any (w : World) : Calls Try.prog 46 #[] w fun e w' => e = .returned (.agg (nc bitN)) ∧ Below w.heap.size w w' := by
  have hbn : ∀ w, (bldN #[(0, .int .i64 1), (2, .int .u8 97), (3, .int .i64 327680), (4, .int .i64 262144)]).run Try.prog w = .ok (.agg (nc bitN)) w := fun w => by rw [← bldN_eq]; exact run_build w 54 _ _ (by kernel_rfl)
  go_enter Try.func46, Try.ntmps46
  go_wp2_with (first | (refine wpList_alloc_node rfl rfl ?_) | (refine wpList_store_node rfl _ _ rfl _ _ _ rfl rfl _ (by repeat (first | (apply Blk.new'; first | rfl | (simp; done)) | assumption | apply Blk.alloc)) ?_))
  exact bodyPost_ret (v := .agg (nc bitN)) (results_node rfl _ _ _ _ rfl (by repeat (first | apply NodeAt.row | (apply Blk.new'; first | rfl | (simp; done)) | (apply Blk.node; apply Blk.new'; first | rfl | (simp; done)) | assumption | apply NodeAt.alloc))) rfl ⟨rfl, (by repeat (first | (refine below_setRow ?_ _ _ ?_; rotate_left; focus (simp; done)) | exact Below.refl _ _ | refine andAlloc ?_ _))⟩
set_option maxRecDepth 100000 in
theorem glu_any (w : World) : Calls Try.prog 47 #[] w fun e w' => e = .returned (.agg (nc gluN)) ∧ Below w.heap.size w w' := by
  have hbn : ∀ w, (bldN #[(0, .int .i64 7), (7, .agg #[.int .i64 65536, .int .i64 131072, .int .i64 65536, .int .i64 0, .int .i64 0])]).run Try.prog w = .ok (.agg (nc gluN)) w := fun w => by rw [← bldN_eq]; exact run_build w 54 _ _ (by kernel_rfl)
  go_enter Try.func47, Try.ntmps47
  go_wp2_with (first | (refine wpList_alloc_node rfl rfl ?_) | (refine wpList_build_eq (o := ⟨some 1, _, _, _, _, _⟩) rfl _ _ rfl #[.int .i64 65536, .int .i64 131072, .int .i64 65536, .int .i64 0, .int .i64 0] (by kernel_rfl) ?_) | (refine wpList_build_eq (o := ⟨some 2, _, _, _, _, _⟩) rfl _ _ rfl (nc gluN) (by kernel_rfl) ?_) | (refine wpList_store_node rfl _ _ rfl _ _ _ rfl rfl _ (by repeat (first | (apply Blk.new'; first | rfl | (simp; done)) | assumption | apply Blk.alloc)) ?_))
  exact bodyPost_ret (v := .agg (nc gluN)) (results_node rfl _ _ _ _ rfl (by repeat (first | apply NodeAt.row | (apply Blk.new'; first | rfl | (simp; done)) | (apply Blk.node; apply Blk.new'; first | rfl | (simp; done)) | assumption | apply NodeAt.alloc))) rfl ⟨rfl, (by repeat (first | (refine below_setRow ?_ _ _ ?_; rotate_left; focus (simp; done)) | exact Below.refl _ _ | refine andAlloc ?_ _))⟩
end
theorem l3_seg {w : World} {g : Nat} (hg : g = w.heap.size) : Seg (w.alloc (.cells (l3.flatMap ncs).toArray 54)) (w.alloc (.cells (l3.flatMap ncs).toArray 54)).heap.size (some ⟨g, 0, none⟩) (l3.flatMap ncs) := by
  subst hg
  refine .inr ⟨w.heap.size, 0, rfl, by simp, fun j u hu => ?_⟩
  rw [Nat.zero_add, (Blk.new w _ _).cell j]
  simpa using hu
theorem blk_seg {w : World} {g B : Nat} {t : TypeId} {cs : Array Value} {xs : List Value} (h : Blk w g t cs) (hB : g < B) (hx : cs.toList = xs) : Seg w B (some ⟨g, 0, none⟩) xs :=
  .inr ⟨g, 0, rfl, hB, fun j u hu => by rw [Nat.zero_add, h.cell j]; rw [← hx] at hu; simpa using hu⟩
set_option maxRecDepth 100000 in
theorem live_any (w : World) : Calls Try.prog 22 #[] w fun e w' => e = .returned (.bool true) ∧ Below w.heap.size w w' := by
  go_enter Try.func22, Try.ntmps22
  go_wp2_with fail
  refine (bit_any _).mono ?_
  rintro e w1 ⟨rfl, hb1⟩
  go_wp2_with fail
  refine (glu_any _).mono ?_
  rintro e w2 ⟨rfl, hb2⟩
  go_wp2_with fail
  refine (bit_any _).mono ?_
  rintro e w3 ⟨rfl, hb3⟩
  have hl3 : Below w.heap.size w w3 := andThen (andThen hb1 hb2) hb3
  clear hb1 hb2 hb3
  go_wp2_with (first | (refine wpList_ex (o := ⟨some 12, _, _, _, _, _⟩) (v := .slice (some ⟨w3.heap.size, 0, none⟩) 3 3) (w' := w3.alloc (.cells (l3.flatMap ncs).toArray 54)) rfl (by kernel_rfl) ?_))
  refine (live_hpack (some ⟨w3.heap.size, 0, none⟩) 3 _ (by omega) (l3_seg rfl)).mono ?_
  rintro e w4 ⟨va, vb, rfl, ho, hb4⟩
  have HL4 := Lib.hid (andThen (andAlloc hl3 (.cells (l3.flatMap ncs).toArray 54)) hb4)
  obtain ⟨Aa, ca, e0, hca, _, hsa⟩ := Seg.of_own ho.one
  simp only at e0
  subst e0
  clear hb4 hl3 ho
  simp only
  go_wp2_with fail
  refine (live_places Aa ca w4 hca hsa).mono ?_
  rintro e w5 ⟨v5, rfl, ho5, hb5⟩
  obtain ⟨A5, c5, e5, hc5, _, hs5⟩ := Seg.of_own ho5
  subst e5
  have HL5 := Lib.hid (andThen HL4.out hb5)
  clear hb5 ho5 hsa
  go_wp2_with (go_at_call 21; refine (num6_any _ _).mono ?_; rintro e w' ⟨rfl, rfl⟩)
  have hb6 : Below w5.heap.size w5 (w5.alloc (.cells #[.int .i64 0, .int .i64 327680, .int .i64 524288] 3)) := andAlloc (Below.refl _ _) _
  refine (Si.same_ints A5 (some ⟨w5.heap.size, 0, none⟩) [0, 327680, 524288] [0, 327680, 524288] c5 3 _ (by decide) (by decide) (Seg.belowW hs5 hb6) (blk_seg (Blk.new' rfl) (by simp) rfl)).mono ?_
  rintro e w6 ⟨rfl, hb7⟩
  go_wp2_with fail
  go_ret
  exact ⟨rfl, andThen (andThen HL5.out hb6) hb7⟩
end Go.Proofs.Ytoboecenlangmaa.Pk
end
section
namespace Go.Proofs.Ytoboecenlangmaa.Pk
open Go.ChangeShapes Go.WideShapes Go.ChangeAt Go.RowKit
open Me Np No
set_option linter.unusedVariables false
set_option linter.unusedSimpArgs false

theorem seg_own {w : World} {base n c : Nat} {A : Option Addr} {xs : List Value} (h : w.ownsRow base 54 19 (.slice A n c) n xs) : Seg w w.heap.size A xs := by
  obtain ⟨A1, c1, e, _, _, hs⟩ := Seg.of_own h
  injection e with e _ _
  subst e
  exact hs
theorem val_own {w : World} {base : Nat} {e : TypeId} {size n : Nat} {v : Value} {xs : List Value} (h : w.ownsRow base e size v n xs) : ∃ A c, v = .slice A n c ∧ n ≤ c := by
  obtain ⟨A, c, h1, h2, _⟩ := Seg.of_own h
  exact ⟨A, c, h1, h2⟩
theorem opens_beg {n : Nd} (h : opensB n = true) : ¬ n.kind = 6 ∧ ¬ n.kind = 11 := by
  constructor
  · intro e; simp [opensB, e] at h
  · intro e; simp [opensB, e] at h
theorem num6_q (x : Int) (w : World) : Calls Try.prog 21 #[.int .i64 x] w fun e w' => e = .returned (.int .i64 x) ∧ w' = w :=
  (num6_any x w).mono fun _ _ h => ⟨h.1, h.2.symm⟩
/-- The first node of a row of one's own. -/
theorem head_cells {w : World} {base k : Nat} {A : Option Addr} {L : List Nd} {n : Nd} {r : List Nd} (ho : w.ownsRow base 54 19 (.slice A L.length k) L.length (L.flatMap ncs)) (hL : L = n :: r) :
    ∃ b off : Nat, A = some ⟨b, off, none⟩ ∧ ∀ w', Below w.heap.size w w' → w'.cell? ⟨b, off + 3, none⟩ = some (.int .i64 n.wd) ∧ w'.cell? ⟨b, off + 4, none⟩ = some (.int .i64 n.ht) ∧ w'.cell? ⟨b, off + 5, none⟩ = some (.int .i64 n.dp) ∧ w'.cell? ⟨b, off + 12, none⟩ = some (.int .i64 n.sign) := by
  obtain ⟨b, off, hA, hb, hn⟩ := seg_node (seg_own ho) (k := 0) (n := n) (by rw [hL]; rfl)
  refine ⟨b, off, hA, fun w' h => ?_⟩
  have h2 := hn.below h hb
  rw [Nat.zero_mul, Nat.add_zero] at h2
  exact ⟨h2 3 _ rfl, h2 4 _ rfl, h2 5 _ rfl, h2 12 _ rfl⟩
end Go.Proofs.Ytoboecenlangmaa.Pk
end
section
namespace Go.Proofs.Ytoboecenlangmaa.No
open Go.ChangeShapes Go.WideShapes Go.ChangeAt Go.RowKit
open Me Np
set_option linter.unusedVariables false
set_option linter.unusedSimpArgs false

@[irreducible] def neN (x y : Value) : Sem Value := binOp .neq 54 x y
theorem neN_eq (x y : Value) : binOp .neq 54 x y = neN x y := by unfold neN; rfl
theorem run_neN (a b : Nd) (w : World) : (neN (.agg (nc a)) (.agg (nc b))).run Try.prog w = .ok (.bool (!eqB a b)) w := by
  rw [← neN_eq, run_neq_struct]
  have h := eqB_eq a b w
  rw [run_eql_struct] at h
  generalize (Op.equalIn 10000 54 (.agg (nc a)) (.agg (nc b))).run Try.prog w = r at h ⊢
  cases r with
  | ok b' w' =>
    simp only [Result.andThen, Result.ok.injEq, Value.bool.injEq] at h ⊢
    obtain ⟨h1, h2⟩ := h
    rw [h1, h2]
    exact ⟨rfl, rfl⟩
  | halt x w' => simp [Result.andThen] at h
def sameB (l m : List Nd) : Bool := decide (l.length = m.length) && (l.zip m).all fun p => eqB p.1 p.2
theorem sameB_iff : ∀ {l m : List Nd}, sameB l m = true ↔ l = m
  | [], [] => by simp [sameB]
  | [], _ :: _ => by simp [sameB]
  | _ :: _, [] => by simp [sameB]
  | x :: l, y :: m => by
    have ih := sameB_iff (l := l) (m := m)
    simp only [sameB, Bool.and_eq_true, decide_eq_true_eq] at ih
    simp only [sameB, List.length_cons, List.zip_cons_cons, List.all_cons, Bool.and_eq_true, decide_eq_true_eq, eqB_iff, List.cons.injEq]
    constructor
    · rintro ⟨h1, h2, h3⟩
      exact ⟨h2, ih.1 ⟨by omega, h3⟩⟩
    · rintro ⟨rfl, h2⟩
      obtain ⟨h3, h4⟩ := ih.2 h2
      exact ⟨by omega, rfl, h4⟩
theorem same_no {l m : List Nd} {k : Nat} {x y : Nd} (hx : l[k]? = some x) (hy : m[k]? = some y) (h : eqB x y = false) : sameB l m = false := by
  cases h1 : sameB l m
  · rfl
  · have := sameB_iff.1 h1
    subst this
    rw [hx] at hy
    injection hy with e
    subst e
    rw [eqB_self] at h
    cases h
theorem same_yes {l m : List Nd} (hl : l.length = m.length) (h : ∀ (k : Nat) (x y : Nd), l[k]? = some x → m[k]? = some y → eqB x y = true) : sameB l m = true := by
  rw [sameB_iff]
  apply List.ext_getElem?
  intro k
  cases hx : l[k]? with
  | none =>
    rw [List.getElem?_eq_none_iff] at hx
    rw [List.getElem?_eq_none (by omega)]
  | some x =>
    have hk := (List.getElem?_eq_some_iff.1 hx).1
    have hy : m[k]? = some (m[k]'(by omega)) := List.getElem?_eq_getElem (by omega)
    rw [hy, (eqB_iff _ _).1 (h k _ _ hx hy)]
attribute [local go_sem ↓] ldN_eq neN_eq
set_option maxHeartbeats 1000000 in
set_option maxRecDepth 100000 in
theorem same_any (A B : Option Addr) (l m : List Nd) (c d : Nat) (w : World) (hl : l.length ≤ 9223372036854775806) (hm : m.length ≤ 9223372036854775806) (hA : Seg w w.heap.size A (l.flatMap ncs)) (hB : Seg w w.heap.size B (m.flatMap ncs)) :
    Calls Try.prog 29 #[.slice A l.length c, .slice B m.length d] w fun e w' => e = .returned (.bool (sameB l m)) ∧ Below w.heap.size w w' := by
  by_cases hlen : l.length = m.length
  · have e1 : ((l.length : Int) != (m.length : Int)) = false := by simp [hlen]
    have HA := Lib.hid hA
    have HB := Lib.hid hB
    have HLEN := Lib.hid hlen
    clear hA hB
    generalize hn : l.length = n at *
    generalize hq : m.length = q at *
    have HN := Lib.hid hn
    have HQ := Lib.hid hq
    clear hn hq hlen
    obtain rfl : n = q := HLEN.out
    clear HLEN
    go_enter Try.func29, Try.ntmps29
    go_wp2_with fail
    go_loopw [5] (fun i wr => ∃ (k r : Nat), k ≤ n ∧ i = .int .i64 k ∧ wr = w.drewN r ∧ ∀ (j : Nat) (x y : Nd), j < k → l[j]? = some x → m[j]? = some y → eqB x y = true) (fun i _ => n - (intOf i).toNat)
    case atStart => exact ⟨0, 0, by omega, rfl, rfl, fun j x y hj => by omega⟩
    case round =>
      obtain ⟨k, r, hk, rfl, rfl, hall⟩ := hrel
      have HALL := Lib.hid hall
      clear hall
      by_cases hlt : k < n
      · obtain ⟨x, hx⟩ : ∃ x, l[k]? = some x := ⟨_, List.getElem?_eq_getElem (by rw [HN.out]; exact hlt)⟩
        obtain ⟨y, hy⟩ : ∃ y, m[k]? = some y := ⟨_, List.getElem?_eq_getElem (by rw [HQ.out]; exact hlt)⟩
        obtain ⟨b, off, rfl, hb, hnx⟩ := seg_node HA.out hx
        obtain ⟨b', off', rfl, hb', hny⟩ := seg_node HB.out hy
        have HX := Lib.hid hx
        have HY := Lib.hid hy
        have HNX := Lib.hid hnx
        have HNY := Lib.hid hny
        have hq := run_neN x y
        clear hx hy hnx hny
        cases he : eqB x y
        · rw [he] at hq
          have HE := Lib.hid he
          clear he
          go_wp2_with fail
          go_region_held3 (fun w' => (ldN ⟨b, off + k * 19, none⟩).run Try.prog w' = .ok (.agg (nc x)) w' ∧ (ldN ⟨b', off' + k * 19, none⟩).run Try.prog w' = .ok (.agg (nc y)) w') (exact ⟨run_ldN (NodeAt.drewN (NodeAt.drewN HNX.out r) 1), run_ldN (NodeAt.drewN (NodeAt.drewN HNY.out r) 1)⟩) (fail)
          go_wp2_with fail
          go_ret
          exact ⟨ret_bool (same_no HX.out HY.out HE.out).symm, below_drewN (below_drewN (Below.refl _ _) r) 1⟩
        · rw [he] at hq
          have HE := Lib.hid he
          clear he
          go_wp2_with fail
          go_region_held3 (fun w' => (ldN ⟨b, off + k * 19, none⟩).run Try.prog w' = .ok (.agg (nc x)) w' ∧ (ldN ⟨b', off' + k * 19, none⟩).run Try.prog w' = .ok (.agg (nc y)) w') (exact ⟨run_ldN (NodeAt.drewN (NodeAt.drewN HNX.out r) 1), run_ldN (NodeAt.drewN (NodeAt.drewN HNY.out r) 1)⟩) (fail)
          go_wp2_with fail
          go_roundw
          case rel =>
            refine ⟨k + 1, r + 1, by omega, by go_num, rfl, fun j x' y' hj hx' hy' => ?_⟩
            rcases Nat.lt_or_ge j k with h1 | h1
            · exact HALL.out j x' y' h1 hx' hy'
            · obtain rfl : j = k := by omega
              rw [HX.out] at hx'
              rw [HY.out] at hy'
              injection hx' with h2
              injection hy' with h3
              subst h2 h3
              exact HE.out
          case measure => simp [intOf]; omega
      · obtain rfl : k = n := by omega
        go_wp2_with fail
        go_ret
        refine ⟨ret_bool (same_yes (by rw [HN.out, HQ.out]) fun j x y hx hy => HALL.out j x y ?_ hx hy).symm, below_drewN (Below.refl _ _) r⟩
        have := (List.getElem?_eq_some_iff.1 hx).1
        rw [HN.out] at this
        exact this
  · have e1 : ((l.length : Int) != (m.length : Int)) = true := by
      rw [bne_iff_ne]
      omega
    have hs : sameB l m = false := by simp [sameB, hlen]
    have HS := Lib.hid hs
    clear hs hlen
    generalize l.length = n at *
    generalize m.length = q at *
    go_enter Try.func29, Try.ntmps29
    go_wp2_with fail
    go_ret
    exact ⟨ret_bool HS.out.symm, Below.refl _ _⟩
end Go.Proofs.Ytoboecenlangmaa.No
end
section
namespace Go.Proofs.Ytoboecenlangmaa.Pk
open Go.ChangeShapes Go.WideShapes Go.ChangeAt Go.RowKit
open Me Np No
set_option linter.unusedVariables false
set_option linter.unusedSimpArgs false

set_option maxHeartbeats 4000000 in
set_option maxRecDepth 100000 in
theorem lists_walk (A : Option Addr) (l : List Nd) (c : Nat) (tw : Int) (ex : Bool) (most : Int) (w : World) (hl : l.length ≤ 879609302220) (hcap : l.length ≤ c) (hA : A = none → c = 0) (hseg : Seg w w.heap.size A (l.flatMap ncs)) :
    Calls Try.prog 7 #[.slice A l.length c, .int .i64 tw, .bool ex, .int .i64 most] w fun e w' => e = .returned (.bool true) ∧ Below w.heap.size w w' := by
  obtain ⟨⟨La, Lo, bad, ov, E⟩, hLa, hLo, hG, HP⟩ := hpk1_case l tw ex (by omega)
  obtain ⟨⟨Lb, bad2, ov2, E2⟩, hLb, hG2, HC⟩ := col1_case l tw ex most false (by omega)
  simp only at hLa hLo hLb
  have hE : (E = 0 ∧ chk La = 0 ∧ chk Lo = 0) ∨ ¬ E = 0 := by
    rcases hG with ⟨S, O, x, a, b, c, d, p, q, r, s, h, v, W, F, hS, hc, _, _, _, _, hcw, hR⟩ | ⟨_, _, _, _, h⟩
    · injection hR with e1 hR
      injection hR with e2 hR
      injection hR with e3 hR
      injection hR with e4 e5
      have := (partD_chk hc).2
      rw [hS] at this
      exact .inl ⟨e5, by rw [e1]; exact hcw, by rw [e2]; exact this⟩
    · exact .inr h
  have hE2 : (E2 = 0 ∧ chk Lb = 0 ∧ ∃ n, Lb = wrapL n l ∧ opensB n = true ∧ chk l = 0) ∨ (¬ E2 = 0 ∧ Lb = []) := by
    rcases hG2 with ⟨x, a, b, c, d, p, q, r, s, h, v, N, D, H, Hf, Df, F, hc, _, _, _, _, _, _, _, hcw, ho, _, _, hR⟩ | ⟨h1, _, _, h⟩
    · injection hR with e1 hR
      injection hR with e2 hR
      injection hR with e3 e4
      exact .inl ⟨e4, by rw [e1]; exact hcw, _, e1, ho, hc⟩
    · exact .inr ⟨h, h1⟩
  have HE := Lib.hid hE
  have HE2 := Lib.hid hE2
  have HP := Lib.hid HP
  have HC := Lib.hid HC
  have HSG := Lib.hid hseg
  have HA := Lib.hid hA
  have HLN := Lib.hid (And.intro hLa (And.intro hLo hLb))
  clear hE hE2 hG hG2 hseg hA hLa hLo hLb
  generalize hlen : l.length = len at *
  have HL := Lib.hid hlen
  clear hlen
  go_enter Try.func7, Try.ntmps7
  go_wp2_with fail
  refine (HP.out A c w hcap HSG.out).mono ?_
  rintro e w1 ⟨va, vo, rfl, oao, hb1⟩
  obtain ⟨Aa, xa, e0, _⟩ := val_own oao.one
  obtain ⟨Ao, xo, e1, _⟩ := val_own oao.two
  simp only at e0 e1
  subst e0 e1
  have OA := Lib.hid (And.intro oao.one oao.two)
  have HB1 := Lib.hid hb1
  clear oao hb1 HP
  simp only
  go_wp2_with fail
  have hv := vpack_of l tw ex most _ A c w1 (by rw [HL.out]; exact HC.out A c w1 hcap (src_in (Seg.belowW HSG.out HB1.out) HA.out))
  rw [HL.out] at hv
  refine hv.mono ?_
  clear hv
  rintro e w2 ⟨vb, rfl, ob, hb2⟩
  obtain ⟨Ab, xb, f0, hxb⟩ := val_own ob
  simp only at f0
  subst f0
  have OB := Lib.hid ob
  have OA2 := Lib.hid (And.intro (own_below OA.out.1 hb2) (own_below OA.out.2 hb2))
  have HB2 := Lib.hid (andThen HB1.out hb2)
  have hla : La.length ≤ 9223372036854775807 := by have := HLN.out.1; omega
  have hlo : Lo.length ≤ 9223372036854775807 := by have := HLN.out.2.1; omega
  have hlb : Lb.length ≤ 9223372036854775807 := by have := HLN.out.2.2; omega
  clear ob hb2 HC OA
  simp only at hxb ⊢
  go_upto_region 3 with fail
  go_cut [54] (fun v54 wx => v54 = .bool false ∧ Below w2.heap.size w2 wx)
  case first =>
    rcases HE.out with ⟨h0, h1, h2⟩ | h0
    · have t0 : (E == 0) = true := by simp [h0]
      have HCA := Lib.hid (check_any Aa La xa w2 hla (seg_own OA2.out.1))
      have HCO := Lib.hid (fun w3 (h : Below w2.heap.size w2 w3) => check_any Ao Lo xo w3 hlo (Seg.belowW (seg_own OA2.out.2) h))
      rw [h1] at HCA
      rw [h2] at HCO
      clear h0 h1 h2
      go_wp2_with (go_at_call 21; refine (num6_any _ _).mono ?_; rintro e w' ⟨rfl, rfl⟩)
      refine HCA.out.mono ?_
      rintro e w3 ⟨rfl, hb3⟩
      have HB3 := Lib.hid hb3
      clear hb3
      go_wp2_with (go_at_call 21; refine (num6_any _ _).mono ?_; rintro e w' ⟨rfl, rfl⟩)
      refine (HCO.out _ HB3.out).mono ?_
      rintro e w4 ⟨rfl, hb4⟩
      have HB4 := Lib.hid (andThen HB3.out hb4)
      clear hb4
      go_wp2_with (go_at_call 21; refine (num6_any _ _).mono ?_; rintro e w' ⟨rfl, rfl⟩)
      go_meet
      exact ⟨rfl, HB4.out⟩
    · have t0 : (E == 0) = false := by simp [h0]
      clear h0
      go_wp2_with (go_at_call 21; refine (num6_any _ _).mono ?_; rintro e w' ⟨rfl, rfl⟩)
      go_meet
      exact ⟨rfl, Below.refl _ _⟩
  case rest =>
    obtain ⟨rfl, hbc⟩ := hcut
    have OB3 := Lib.hid (own_below OB.out hbc)
    have HB3 := Lib.hid (andThen HB2.out hbc)
    clear hbc OA2 OB HB2 HB1
    rcases HE2.out with ⟨h0, hcb, n, hn, ho, hcl⟩ | ⟨h0, hn⟩
    · have t0 : (E2 != 0) = false := by simp [h0]
      have hgb : Lb[0]? = some n := by rw [hn]; rfl
      have hbeg : begB Lb 0 = true := beg_of (a := 0) hgb (opens_beg ho).1 (opens_beg ho).2
      have hend : endc (Lb.drop 0) 0 = some (l.length + 2) := by rw [List.drop_zero, hn]; exact endc_wrap ho hcl
      have hI := inside_ok Ab Lb xb 0 (l.length + 2) n wc hxb (seg_own OB3.out) hcb hbeg hgb ho hend
      have hin : innerL Lb 0 (l.length + 2) = l := by rw [hn]; exact inner_wrap n l
      rw [hin] at hI
      have HI := Lib.hid hI
      have HCB := Lib.hid (fun w3 (h : Below wc.heap.size wc w3) => check_any Ab Lb xb w3 hlb (Seg.belowW (seg_own OB3.out) h))
      rw [hcb] at HCB
      clear h0 hcb hn ho hcl hgb hbeg hend hI hin
      go_wp2_with (go_at_call 21; refine (num6_any _ _).mono ?_; rintro e w' ⟨rfl, rfl⟩)
      refine HI.out.mono ?_
      rintro e w4 ⟨vi, rfl, oi, hb4⟩
      rw [HL.out] at oi
      obtain ⟨Ai, xi, g0, _⟩ := val_own oi
      subst g0
      have OI := Lib.hid oi
      have HB4 := Lib.hid hb4
      clear oi hb4
      go_wp2_with fail
      refine (HCB.out _ HB4.out).mono ?_
      rintro e w5 ⟨rfl, hb5⟩
      have HB5 := Lib.hid hb5
      clear hb5
      go_wp2_with (go_at_call 21; refine (num6_any _ _).mono ?_; rintro e w' ⟨rfl, rfl⟩)
      have HB35 := Lib.hid (andThen HB3.out (andThen HB4.out HB5.out))
      have hsm := same_any Ai A l l xi c w5 (by rw [HL.out]; omega) (by rw [HL.out]; omega) (Seg.belowW (seg_own OI.out) HB5.out) (Seg.belowW HSG.out HB35.out)
      rw [show sameB l l = true from sameB_iff.2 rfl, HL.out] at hsm
      clear HCB HB4 HB5 HB3 HLN
      refine hsm.mono ?_
      rintro e w6 ⟨rfl, hb6⟩
      have HB6 := Lib.hid (andThen HB35.out hb6)
      clear hsm hb6
      go_wp2_with fail
      refine (live_any _).mono ?_
      rintro e w7 ⟨rfl, hb7⟩
      have HB7 := Lib.hid (andThen HB6.out hb7)
      clear hb7
      go_wp2_with fail
      go_ret
      exact ⟨rfl, HB7.out⟩
    · have t0 : (E2 != 0) = true := by simp [h0]
      subst hn
      clear h0
      simp only [List.length_nil] at *
      go_wp2_with (go_at_call 21; refine (num6_any _ _).mono ?_; rintro e w' ⟨rfl, rfl⟩)
      refine (live_any _).mono ?_
      rintro e w7 ⟨rfl, hb7⟩
      have HB7 := Lib.hid (andThen HB3.out hb7)
      clear hb7
      go_wp2_with fail
      go_ret
      exact ⟨rfl, HB7.out⟩
end Go.Proofs.Ytoboecenlangmaa.Pk
end
section
namespace Go.Proofs.Ytoboecenlangmaa.Le
open Go.ChangeShapes Go.WideShapes Go.RowKit Go.Deep

/-- The types of a type's cells. -/
def lv (P : Program) : Nat → TypeId → List TypeId
  | 0, t => [t]
  | n + 1, t => match P.underlying t with
    | some (.struct fs) => fs.toList.flatMap fun f => lv P n f.type
    | some (.array k e) => (List.replicate k (lv P n e)).flatten
    | _ => [t]

/-- The cells' types are where the type's own table says. -/
def good (P : Program) : Nat → TypeId → Bool
  | 0, t => P.cellsOf t == 1
  | n + 1, t => match P.underlying t with
    | some (.struct fs) => (P.cellsOf t == (lv P (n + 1) t).length) && fs.toList.all (fun f => good P n f.type) &&
        (List.range (lv P (n + 1) t).length).all fun i => (List.range fs.size).any fun j => match fs[j]? with
          | some f => decide (f.offset ≤ i) && decide (i < f.offset + P.cellsOf f.type) && decide (f.offset + P.cellsOf f.type ≤ P.cellsOf t) && decide ((lv P n f.type)[i - f.offset]? = (lv P (n + 1) t)[i]?)
          | none => false
    | some (.array k e) => (P.cellsOf t == (lv P (n + 1) t).length) && good P n e &&
        (List.range (lv P (n + 1) t).length).all fun i => (List.range k).any fun j => decide (j * P.cellsOf e ≤ i) && decide (i < j * P.cellsOf e + P.cellsOf e) && decide (j * P.cellsOf e + P.cellsOf e ≤ P.cellsOf t) && decide ((lv P n e)[i - j * P.cellsOf e]? = (lv P (n + 1) t)[i]?)
    | _ => P.cellsOf t == 1

section
variable {H : Type} {enc : TypeId × Value → H} {P : Program} {w : World} {base : Nat} {spare : Nat → Bool} {held : Bool}

theorem slice_get {cs : List Value} {o c i : Nat} (h0 : o ≤ i) (h1 : i < o + c) : ((cs.drop o).take c)[i - o]? = cs[i]? := by
  rw [List.getElem?_take, if_pos (by omega), List.getElem?_drop]
  congr 1
  omega

/-- Each cell reads as its leaf's type. -/
theorem leaves : ∀ (n : Nat) {t : TypeId} {fuel : Nat} {cs : List Value} {x : DataW H × List MemPlace}, good P n t = true → cs.length = P.cellsOf t → DataW.trod enc P w base spare held fuel t cs = some x →
    ∀ (i : Nat) (u : TypeId), (lv P n t)[i]? = some u → ∃ (v : Value) (m : Nat) (y : DataW H × List MemPlace), cs[i]? = some v ∧ DataW.trod enc P w base spare held m u [v] = some y
  | 0, t, fuel, cs, x, hg, hl, h, i, u, hu => by
    simp only [lv] at hu
    match i, hu with
    | 0, hu =>
      simp at hu
      subst hu
      unfold good at hg
      rw [beq_iff_eq] at hg
      rw [hg] at hl
      match cs, hl with
      | [v], _ => exact ⟨v, fuel, x, rfl, h⟩
    | i + 1, hu => simp at hu
  | n + 1, t, fuel, cs, x, hg, hl, h, i, u, hu => by
    have hilt : i < (lv P (n + 1) t).length := by
      rcases Nat.lt_or_ge i (lv P (n + 1) t).length with h1 | h1
      · exact h1
      · rw [List.getElem?_eq_none h1] at hu; cases hu
    unfold good at hg
    split at hg
    · rename_i fs hfs
      simp only [Bool.and_eq_true, List.all_eq_true] at hg
      obtain ⟨⟨_, hgf⟩, hcov⟩ := hg
      have hc := hcov i (List.mem_range.2 hilt)
      simp only [List.any_eq_true] at hc
      obtain ⟨j, hj, hc⟩ := hc
      split at hc
      · rename_i f hf
        simp only [Bool.and_eq_true, decide_eq_true_eq] at hc
        obtain ⟨⟨⟨h1, h2⟩, h4⟩, h3⟩ := hc
        obtain ⟨xs, n', _, _, hcl, hxl, hat⟩ := DataW.trod_struct hfs h
        have hjl : j < fs.size := by
          rcases Nat.lt_or_ge j fs.size with hh | hh
          · exact hh
          · rw [Array.getElem?_eq_none hh] at hf; cases hf
        have hxj : xs[j]? = some (xs[j]'(by omega)) := List.getElem?_eq_getElem (by omega)
        have ht := (hat j f hf).trans hxj
        have hmem : f ∈ fs.toList := by
          have := Array.mem_of_getElem? hf
          simpa using this
        have hlen : ((cs.drop f.offset).take (P.cellsOf f.type)).length = P.cellsOf f.type := by
          rw [List.length_take, List.length_drop]
          omega
        obtain ⟨v, m, y, hv, hy⟩ := leaves n (hgf f hmem) hlen ht (i - f.offset) u (by rw [h3]; exact hu)
        exact ⟨v, m, y, by rw [← slice_get h1 h2]; exact hv, hy⟩
      · cases hc
    · rename_i k e he
      simp only [Bool.and_eq_true, List.all_eq_true] at hg
      obtain ⟨⟨_, hge⟩, hcov⟩ := hg
      have hc := hcov i (List.mem_range.2 hilt)
      simp only [List.any_eq_true, List.mem_range, Bool.and_eq_true, decide_eq_true_eq] at hc
      obtain ⟨j, hj, ⟨⟨h1, h2⟩, h4⟩, h3⟩ := hc
      obtain ⟨xs, n', _, _, hcl, hxl, hat⟩ := DataW.trod_array he h
      have hxj : xs[j]? = some (xs[j]'(by omega)) := List.getElem?_eq_getElem (by omega)
      have ht := (hat j hj).trans hxj
      have hlen : ((cs.drop (j * P.cellsOf e)).take (P.cellsOf e)).length = P.cellsOf e := by
        rw [List.length_take, List.length_drop]
        omega
      obtain ⟨v, m, y, hv, hy⟩ := leaves n hge hlen ht (i - j * P.cellsOf e) u (by rw [h3]; exact hu)
      exact ⟨v, m, y, by rw [← slice_get h1 h2]; exact hv, hy⟩
    · rename_i hns hna
      have hlv : lv P (n + 1) t = [t] := by
        unfold lv
        split
        · rename_i fs hfs; exact absurd hfs (hns fs)
        · rename_i k e he; exact absurd he (hna k e)
        · rfl
      rw [hlv] at hu
      match i, hu with
      | 0, hu =>
        simp at hu
        subst hu
        rw [beq_iff_eq] at hg
        rw [hg] at hl
        match cs, hl with
        | [v], _ => exact ⟨v, fuel, x, rfl, h⟩
      | i + 1, hu => simp at hu
end

section
variable {H : Type} {enc : TypeId × Value → H} {P : Program} {w : World} {base : Nat} {spare : Nat → Bool} {held : Bool}

/-- What is known of a row of cells of type t. -/
def Cells (enc : TypeId × Value → H) (P : Program) (w : World) (base : Nat) (spare : Nat → Bool) (held : Bool) (ls : List TypeId) (cs : List Value) : Prop :=
  cs.length = ls.length ∧ ∀ (i : Nat) (u : TypeId), ls[i]? = some u → ∃ (v : Value) (m : Nat) (y : DataW H × List MemPlace), cs[i]? = some v ∧ DataW.trod enc P w base spare held m u [v] = some y

/-- A struct that comes by value. -/
theorem open_flat {r : Reach} {b0 : Nat} {t : TypeId} {fs : Array Field} {v : Value} {d : DataW H} {ps : List MemPlace} (n : Nat) (ls : List TypeId) (hs : P.underlying t = some (.struct fs)) (hg : good P n t = true) (hl : lv P n t = ls) (hc : P.cellsOf t = ls.length)
    (hv : Value.okWide P w r b0 t v) (h : DataW.Trod enc P w base spare held t v d ps) : ∃ cs : List Value, v = .agg cs.toArray ∧ Cells enc P w base spare held ls cs := by
  obtain ⟨cs, rfl, hsz⟩ := okWide_struct hs hv
  obtain ⟨fuel, hf⟩ := h
  refine ⟨cs.toList, by simp, by simp [hsz, hc], fun i u hu => ?_⟩
  exact leaves n hg (by simp [hsz]) (by simpa [Value.cells] using hf) i u (by rw [hl]; exact hu)

/-- A slice that comes in: where it lies, and its elements' cells. -/
theorem open_rows0 {r : Reach} {b0 : Nat} {t e : TypeId} {v : Value} {d : DataW H} {ps : List MemPlace} (n : Nat) (ls : List TypeId) (ht : P.underlying t = some (.slice e)) (hg : good P n e = true) (hl : lv P n e = ls) (hc : P.cellsOf e = ls.length)
    (hv : Value.okWide P w r b0 t v) (h : DataW.Trod enc P w base (fun _ => true) held t v d ps) (hlt : ∀ x ∈ ps, x.block < w.heap.size) :
    ∃ (A : Option Addr) (c : Nat) (rows : List (List Value)), v = .slice A rows.length c ∧ rows.length ≤ c ∧ c ≤ maxLen ∧ (∀ cs ∈ rows, Cells enc P w base (fun _ => true) held ls cs) ∧ Me.Seg w w.heap.size A rows.flatten ∧ (A = none → c = 0) ∧
      (∃ es sp : List (DataW H), (d = .slice es sp ∧ es.length = rows.length ∧ es.length + sp.length = c) ∨ (d = .nil ∧ rows = [] ∧ c = 0)) := by
  obtain ⟨fuel, hf⟩ := h
  obtain ⟨a0, len0, cap0, rfl⟩ := okWide_slice ht hv
  rw [show Value.cells (.slice a0 len0 cap0) = #[.slice a0 len0 cap0] from rfl] at hf
  rcases open_slice ht hf with ⟨h0, hx⟩ | ⟨a, len, cap, m, nn, D, Pl, hcs, _, hlc, hcm, hm, hx, hi⟩
  · simp at h0
    obtain ⟨rfl, rfl, rfl⟩ := h0
    simp only [Prod.mk.injEq] at hx
    exact ⟨none, 0, [], rfl, Nat.le_refl _, by simp [maxLen], by simp, .inl rfl, fun _ => rfl, [], [], .inr ⟨hx.1, rfl, rfl⟩⟩
  · simp at hcs
    obtain ⟨rfl, rfl, rfl⟩ := hcs
    simp only [if_true] at hm
    subst hm
    simp only [Prod.mk.injEq] at hx
    obtain ⟨hd, hps⟩ := hx
    have hrow : ∀ i, i < len0 → ∃ cs, w.cells? base (a.add (i * P.cellsOf e)) (P.cellsOf e) = some cs ∧ Cells enc P w base (fun _ => true) held ls cs := by
      intro i hil
      obtain ⟨cs, h1, h2⟩ := hi i (by omega)
      obtain ⟨_, h3, _⟩ := World.cells?_some h1
      exact ⟨cs, h1, by rw [h3, hc], fun j u hu => leaves n hg h3 h2 j u (by rw [hl]; exact hu)⟩
    let R : Nat → List Value := fun i => (w.cells? base (a.add (i * P.cellsOf e)) (P.cellsOf e)).getD []
    have hR : ∀ i, i < len0 → Cells enc P w base (fun _ => true) held ls (R i) ∧ ∀ j, j < P.cellsOf e → w.cell? ((a.add (i * P.cellsOf e)).add j) = (R i)[j]? := by
      intro i hil
      obtain ⟨cs, h1, h2⟩ := hrow i hil
      have e1 : R i = cs := by simp [R, h1]
      rw [e1]
      exact ⟨h2, (World.cells?_some h1).2.2⟩
    have hlen : ∀ i, i < len0 → (R i).length = P.cellsOf e := fun i hil => by rw [hc]; exact (hR i hil).1.1
    refine ⟨some a, m, (List.range len0).map R, by simp, by simpa using hlc, hcm, ?_, ?_, (by intro hh; cases hh), (List.range len0).map D, (List.range (m - len0)).map fun j => D (len0 + j), .inl ⟨hd, by simp, by simp; omega⟩⟩
    · intro cs hcs
      obtain ⟨i, hi', rfl⟩ := List.mem_map.1 hcs
      exact (hR i (List.mem_range.1 hi')).1
    · by_cases hz : ((List.range len0).map R).flatten = []
      · exact .inl hz
      · have hpos : 0 < len0 * P.cellsOf e := by
          rcases Nat.eq_zero_or_pos (len0 * P.cellsOf e) with h1 | h1
          · exfalso
            apply hz
            rw [List.flatten_eq_nil_iff]
            intro l hl'
            obtain ⟨i, hi', rfl⟩ := List.mem_map.1 hl'
            have hil := List.mem_range.1 hi'
            have h2 := hlen i hil
            rcases Nat.mul_eq_zero.1 h1 with h3 | h3
            · omega
            · rw [h3] at h2; exact List.eq_nil_of_length_eq_zero h2
          · exact h1
        have hlen0 : 0 < len0 := Nat.pos_of_mul_pos_right hpos
        have hce : 0 < P.cellsOf e := Nat.pos_of_mul_pos_left hpos
        have hcell0 : ∃ u, w.cell? a = some u := by
          obtain ⟨h1, h2⟩ := hR 0 hlen0
          have h3 := h2 0 hce
          have h4 : (a.add (0 * P.cellsOf e)).add 0 = a := by simp [Addr.add]
          rw [h4] at h3
          refine ⟨_, h3.trans (List.getElem?_eq_getElem (by rw [hlen 0 hlen0]; exact hce))⟩
        obtain ⟨u0, hu0⟩ := hcell0
        have hspot : a.spot = none := World.cell?_spot hu0
        obtain ⟨b, off, sp⟩ := a
        simp only at hspot
        subst hspot
        refine .inr ⟨b, off, rfl, ?_, ?_⟩
        · have hm0 := Nat.mul_le_mul_right (P.cellsOf e) hlc
          have := hlt (.cell b off) (by rw [hps]; exact List.mem_append_left _ (List.mem_map.2 ⟨0, List.mem_range.2 (by omega), rfl⟩))
          exact this
        · intro j u hu
          have hall : ∀ (k : Nat) (l : List Nat), (∀ i ∈ l, i < len0) → ∀ j u, ((l.map R).flatten)[j]? = some u → ∃ i q, l[i]? ≠ none ∧ j = i * P.cellsOf e + q ∧ q < P.cellsOf e ∧ ∃ z, l[i]? = some z ∧ (R z)[q]? = some u := by
            intro k l
            induction l with
            | nil => intro _ j u h; simp at h
            | cons z l ih =>
              intro hl' j u h
              simp only [List.map_cons, List.flatten_cons] at h
              have hz1 := hlen z (hl' z (by simp))
              rcases Nat.lt_or_ge j (P.cellsOf e) with hj | hj
              · rw [List.getElem?_append_left (by omega)] at h
                exact ⟨0, j, by simp, by omega, hj, z, by simp, h⟩
              · rw [List.getElem?_append_right (by omega), hz1] at h
                obtain ⟨i, q, h1, h2, h3, y, h4, h5⟩ := ih (fun i hi' => hl' i (by simp [hi'])) _ _ h
                refine ⟨i + 1, q, by simpa using h1, ?_, h3, y, by simpa using h4, h5⟩
                rw [Nat.add_mul]; omega
          obtain ⟨i, q, _, hj, hq, z, hz1, hz2⟩ := hall 0 (List.range len0) (fun i hi' => List.mem_range.1 hi') j u hu
          have hzi : z = i ∧ i < len0 := by
            have hil : i < len0 := by
              rcases Nat.lt_or_ge i len0 with h1 | h1
              · exact h1
              · rw [List.getElem?_eq_none (by simpa using h1)] at hz1; cases hz1
            rw [List.getElem?_range hil] at hz1
            injection hz1 with hz1
            exact ⟨hz1.symm, hil⟩
          obtain ⟨rfl, hil⟩ := hzi
          have h6 := (hR z hil).2 q hq
          rw [hz2] at h6
          rw [← h6, hj]
          congr 1
          unfold Addr.add
          by_cases h7 : z * P.cellsOf e = 0 <;> by_cases h8 : q = 0 <;> simp [h7, h8, Nat.add_assoc]
theorem open_rows {r : Reach} {b0 : Nat} {t e : TypeId} {v : Value} {d : DataW H} {ps : List MemPlace} (n : Nat) (ls : List TypeId) (ht : P.underlying t = some (.slice e)) (hg : good P n e = true) (hl : lv P n e = ls) (hc : P.cellsOf e = ls.length)
    (hv : Value.okWide P w r b0 t v) (h : DataW.Trod enc P w base (fun _ => true) held t v d ps) (hlt : ∀ x ∈ ps, x.block < w.heap.size) :
    ∃ (A : Option Addr) (c : Nat) (rows : List (List Value)), v = .slice A rows.length c ∧ rows.length ≤ c ∧ c ≤ maxLen ∧ (∀ cs ∈ rows, Cells enc P w base (fun _ => true) held ls cs) ∧ Me.Seg w w.heap.size A rows.flatten ∧
      (∃ es sp : List (DataW H), (d = .slice es sp ∧ es.length = rows.length ∧ es.length + sp.length = c) ∨ (d = .nil ∧ rows = [] ∧ c = 0)) := by
  obtain ⟨A, c, rows, h1, h2, h3, h4, h5, _, h6⟩ := open_rows0 n ls ht hg hl hc hv h hlt
  exact ⟨A, c, rows, h1, h2, h3, h4, h5, h6⟩
end

section
variable {H : Type} {enc : TypeId × Value → H} {P : Program} {w : World} {base : Nat} {spare : Nat → Bool} {held : Bool}
/-- Cells that are all integers of one kind. -/
theorem cells_ints {ti : TypeId} {k : IntKind} (hu : P.underlying ti = some (.int k)) : ∀ {n : Nat} {cs : List Value}, Cells enc P w base spare held (List.replicate n ti) cs →
    ∃ zs : List Int, zs.length = n ∧ cs = zs.map (Value.int k) ∧ ∀ z ∈ zs, (Lit.int k z).wf = true
  | 0, cs, h => ⟨[], rfl, by simpa using h.1, by simp⟩
  | n + 1, cs, h => by
    obtain ⟨hl, hc⟩ := h
    match cs, hl with
    | c :: cs, hl =>
      obtain ⟨v, m, y, hv, hy⟩ := hc 0 ti (by simp [List.replicate_succ])
      simp at hv
      subst hv
      obtain ⟨z, hz, _, hw⟩ := DataW.trod_int hu hy
      simp at hz
      subst hz
      obtain ⟨zs, h1, h2, h3⟩ := cells_ints hu (n := n) (cs := cs) ⟨by simpa [List.replicate_succ] using hl, fun i u hi => by
        obtain ⟨v, m, y, hv, hy⟩ := hc (i + 1) u (by simpa [List.replicate_succ] using hi)
        exact ⟨v, m, y, by simpa using hv, hy⟩⟩
      exact ⟨z :: zs, by simp [h1], by simp [h2], by
        intro x hx
        rcases List.mem_cons.1 hx with rfl | hx
        · exact hw
        · exact h3 x hx⟩
theorem wf_bd {z : Int} (h : (Lit.int .i64 z).wf = true) : -9223372036854775808 ≤ z ∧ z ≤ 9223372036854775807 := by
  simp [Lit.wf, IntKind.min, IntKind.max, IntKind.signed, IntKind.bits] at h
  omega
end
end Go.Proofs.Ytoboecenlangmaa.Le
end
section
namespace Go.Proofs.Ytoboecenlangmaa.No
open Go.ChangeShapes Go.WideShapes Go.ChangeAt Go.RowKit
open Me Np
set_option linter.unusedVariables false

def leafs : List TypeId := [3, 3, 5, 3, 3, 3, 3, 3, 3, 3, 3, 3, 3, 3, 3, 3, 3, 3, 9]
theorem node_of {H : Type} {enc : TypeId × Value → H} {w : World} {base : Nat} {spare : Nat → Bool} {held : Bool} {cs : List Value} (h : Le.Cells enc Try.prog w base spare held leafs cs) : ∃ n : Nd, cs = ncs n := by
  obtain ⟨hl, hc⟩ := h
  have hl : cs.length = 19 := hl
  obtain ⟨v0, m0, y0, e0, t0⟩ := hc 0 3 rfl
  obtain ⟨z0, g0, _⟩ := DataW.trod_int Try.underlying3 t0
  simp only [List.cons.injEq, and_true] at g0
  subst g0
  obtain ⟨v1, m1, y1, e1, t1⟩ := hc 1 3 rfl
  obtain ⟨z1, g1, _⟩ := DataW.trod_int Try.underlying3 t1
  simp only [List.cons.injEq, and_true] at g1
  subst g1
  obtain ⟨v2, m2, y2, e2, t2⟩ := hc 2 5 rfl
  obtain ⟨z2, g2, _⟩ := DataW.trod_int Try.underlying5 t2
  simp only [List.cons.injEq, and_true] at g2
  subst g2
  obtain ⟨v3, m3, y3, e3, t3⟩ := hc 3 3 rfl
  obtain ⟨z3, g3, _⟩ := DataW.trod_int Try.underlying3 t3
  simp only [List.cons.injEq, and_true] at g3
  subst g3
  obtain ⟨v4, m4, y4, e4, t4⟩ := hc 4 3 rfl
  obtain ⟨z4, g4, _⟩ := DataW.trod_int Try.underlying3 t4
  simp only [List.cons.injEq, and_true] at g4
  subst g4
  obtain ⟨v5, m5, y5, e5, t5⟩ := hc 5 3 rfl
  obtain ⟨z5, g5, _⟩ := DataW.trod_int Try.underlying3 t5
  simp only [List.cons.injEq, and_true] at g5
  subst g5
  obtain ⟨v6, m6, y6, e6, t6⟩ := hc 6 3 rfl
  obtain ⟨z6, g6, _⟩ := DataW.trod_int Try.underlying3 t6
  simp only [List.cons.injEq, and_true] at g6
  subst g6
  obtain ⟨v7, m7, y7, e7, t7⟩ := hc 7 3 rfl
  obtain ⟨z7, g7, _⟩ := DataW.trod_int Try.underlying3 t7
  simp only [List.cons.injEq, and_true] at g7
  subst g7
  obtain ⟨v8, m8, y8, e8, t8⟩ := hc 8 3 rfl
  obtain ⟨z8, g8, _⟩ := DataW.trod_int Try.underlying3 t8
  simp only [List.cons.injEq, and_true] at g8
  subst g8
  obtain ⟨v9, m9, y9, e9, t9⟩ := hc 9 3 rfl
  obtain ⟨z9, g9, _⟩ := DataW.trod_int Try.underlying3 t9
  simp only [List.cons.injEq, and_true] at g9
  subst g9
  obtain ⟨v10, m10, y10, e10, t10⟩ := hc 10 3 rfl
  obtain ⟨z10, g10, _⟩ := DataW.trod_int Try.underlying3 t10
  simp only [List.cons.injEq, and_true] at g10
  subst g10
  obtain ⟨v11, m11, y11, e11, t11⟩ := hc 11 3 rfl
  obtain ⟨z11, g11, _⟩ := DataW.trod_int Try.underlying3 t11
  simp only [List.cons.injEq, and_true] at g11
  subst g11
  obtain ⟨v12, m12, y12, e12, t12⟩ := hc 12 3 rfl
  obtain ⟨z12, g12, _⟩ := DataW.trod_int Try.underlying3 t12
  simp only [List.cons.injEq, and_true] at g12
  subst g12
  obtain ⟨v13, m13, y13, e13, t13⟩ := hc 13 3 rfl
  obtain ⟨z13, g13, _⟩ := DataW.trod_int Try.underlying3 t13
  simp only [List.cons.injEq, and_true] at g13
  subst g13
  obtain ⟨v14, m14, y14, e14, t14⟩ := hc 14 3 rfl
  obtain ⟨z14, g14, _⟩ := DataW.trod_int Try.underlying3 t14
  simp only [List.cons.injEq, and_true] at g14
  subst g14
  obtain ⟨v15, m15, y15, e15, t15⟩ := hc 15 3 rfl
  obtain ⟨z15, g15, _⟩ := DataW.trod_int Try.underlying3 t15
  simp only [List.cons.injEq, and_true] at g15
  subst g15
  obtain ⟨v16, m16, y16, e16, t16⟩ := hc 16 3 rfl
  obtain ⟨z16, g16, _⟩ := DataW.trod_int Try.underlying3 t16
  simp only [List.cons.injEq, and_true] at g16
  subst g16
  obtain ⟨v17, m17, y17, e17, t17⟩ := hc 17 3 rfl
  obtain ⟨z17, g17, _⟩ := DataW.trod_int Try.underlying3 t17
  simp only [List.cons.injEq, and_true] at g17
  subst g17
  obtain ⟨v18, m18, y18, e18, t18⟩ := hc 18 9 rfl
  obtain ⟨z18, g18, _⟩ := DataW.trod_string Try.underlying9 t18
  simp only [List.cons.injEq, and_true] at g18
  subst g18
  refine ⟨⟨z0, z1, z2, z3, z4, z5, z6, z7, z8, z9, z10, z11, z12, z13, z14, z15, z16, z17, z18⟩, ?_⟩
  apply List.ext_getElem?
  intro i
  match i with
  | 0 => exact e0
  | 1 => exact e1
  | 2 => exact e2
  | 3 => exact e3
  | 4 => exact e4
  | 5 => exact e5
  | 6 => exact e6
  | 7 => exact e7
  | 8 => exact e8
  | 9 => exact e9
  | 10 => exact e10
  | 11 => exact e11
  | 12 => exact e12
  | 13 => exact e13
  | 14 => exact e14
  | 15 => exact e15
  | 16 => exact e16
  | 17 => exact e17
  | 18 => exact e18
  | i + 19 =>
    rw [List.getElem?_eq_none (by omega), List.getElem?_eq_none (by rw [ncs_length]; omega)]
theorem nodes_of {H : Type} {enc : TypeId × Value → H} {w : World} {base : Nat} {spare : Nat → Bool} {held : Bool} : ∀ {rows : List (List Value)}, (∀ cs ∈ rows, Le.Cells enc Try.prog w base spare held leafs cs) → ∃ l : List Nd, l.length = rows.length ∧ rows.flatten = l.flatMap ncs
  | [], _ => ⟨[], rfl, rfl⟩
  | cs :: rows, h => by
    obtain ⟨n, hn⟩ := node_of (h cs (by simp))
    obtain ⟨l, h1, h2⟩ := nodes_of (rows := rows) (fun c hc => h c (by simp [hc]))
    exact ⟨n :: l, by simp [h1], by simp [hn, h2]⟩
theorem bytes_node : Try.prog.bytesOf 54 = 160 := by kernel_rfl
end Go.Proofs.Ytoboecenlangmaa.No
end
section
namespace Go.Proofs.Ytoboecenlangmaa.Li
open Go.ChangeShapes Go.WideShapes Go.ChangeAt Go.RowKit

section
variable {H : Type} {enc : TypeId × Value → H} {P : Program}

theorem trodAll_below (hl : laidOutB P = true) {W W' : World} (hb : Below W.heap.size W W') {sp : Nat → Bool} :
    ∀ {ts : List TypeId} {vs : List Value} {ds : List (DataW H)} {p : List MemPlace}, ts.all (fun t => P.readableRec t && decide (t < P.types.size)) = true → DataW.TrodAll enc P W 0 (fun _ => true) true ts vs ds p →
      (∀ x ∈ p, x.block < W.heap.size) → (∀ x ∈ p, sp x.block = true) → DataW.TrodAll enc P W' 0 sp true ts vs ds p
  | [], _, _, _, _, h, _, _ => by
    obtain ⟨rfl, rfl, rfl⟩ := trodAll_nil h
    exact trodAll_mk0
  | t :: ts, _, _, _, hr, h, hlt, hs => by
    obtain ⟨v, vs1, d, ds1, a, b, rfl, rfl, rfl, h1, h2⟩ := trodAll_cons h
    simp only [List.all_cons, Bool.and_eq_true, decide_eq_true_eq] at hr
    refine trodAll_cons_mk (WideElems.Trod_stays hl hr.1.1 hr.1.2 h1 (fun x hx => hb.same (hlt x (by simp [hx]))) (fun x hx => hs x (by simp [hx]))) ?_
    exact trodAll_below hl hb (by simpa using hr.2) h2 (fun x hx => hlt x (by simp [hx])) (fun x hx => hs x (by simp [hx]))

theorem law_post {f : Func} {s : ChangeSpec} {apart fresh handsOn again : Bool} {W W' : World} {args : Array Value} {ds gs : List (DataW H)} {before : List MemPlace} {tb : TypeId}
    (hl : laidOutB P = true) (hv : s.vars = []) (hW : DataW.Whole enc P f.params.toList s.vars apart W args.toList ds gs before) (hr : f.params.toList.all (fun t => P.readableRec t && decide (t < P.types.size)) = true)
    (hres : (s.fn H (ds ++ gs)).results = [.lit (.bool true)]) (hargs : (s.fn H (ds ++ gs)).args = ds) (hvars : (s.fn H (ds ++ gs)).vars = []) (hrt : f.resultTypes = #[tb]) (htb : P.underlying tb = some .bool)
    (hb : Below W.heap.size W W') : s.post enc P f apart fresh handsOn again W args (.bool true) W' := by
  have hlt0 := hW.lt
  obtain ⟨p, q, hA, hV, he, hfz, hnd⟩ := id hW
  rw [hv] at hV
  obtain ⟨rfl, rfl⟩ := trodVars_none hV
  rw [List.append_nil] at he
  subst he
  have hlt : ∀ x ∈ before, x.block < W.heap.size := fun x hx => hlt0 x hx
  have hR : ∀ (b : Nat) (sp : Nat → Bool) (hd : Bool), DataW.TrodAll enc P W' b sp hd f.resultTypes.toList ((Value.bool true).resultList f.resultTypes.size) (s.fn H (ds ++ [])).results [] := by
    intro b sp hd
    rw [hrt, hres]
    exact trodAll_mk1 (shut_bool htb _)
  have hVW : ∀ sp : Nat → Bool, DataW.TrodVars enc P W' sp s.vars (s.fn H (ds ++ [])).vars [] := by
    intro sp
    rw [hv, hvars]
    rfl
  have hAW : ∀ sp : Nat → Bool, (∀ x ∈ before, sp x.block = true) → DataW.TrodAll enc P W' 0 sp true f.params.toList args.toList (s.fn H (ds ++ [])).args before := by
    intro sp hs
    rw [hargs]
    exact trodAll_below hl hb hr hA hlt hs
  refine ⟨ds, [], before, [], before, [], hW, hR _ _ _, hAW _ (fun x hx => by simpa using hlt x hx), hVW _, World.keptBut_mono (fun x hx => ⟨hx, .inr (.inl hx)⟩) (hb.frame (· ∈ before)), fun _ => ⟨?_, ?_⟩⟩
  · exact ok_one hrt rfl (okWide_bool_mk htb _)
  · refine ⟨_, _, [] ++ before ++ [], ⟨[] ++ before, [], trodAll_append (hAW _ (fun _ _ => rfl)) (hR _ _ _), hVW _, rfl, ?_, ?_⟩, ?_⟩
    · intro b off hx
      have hx' : MemPlace.cell b off ∈ before := by simpa using hx
      rw [hb.frozen (hlt _ hx')]
      exact hfz b off hx'
    · intro ha
      simpa using hnd ha
    · intro x hx _
      simpa using hx
end
end Go.Proofs.Ytoboecenlangmaa.Li
end
section
namespace Go.Proofs.Ytoboecenlangmaa.PackLists
open Np
open Go.ChangeShapes Go.WideShapes Go.ChangeAt Go.RowKit
set_option linter.unusedVariables false

theorem own : ownKnob Try.prog.godebug = none := by kernel_rfl
theorem laidOut : laidOutB Try.prog = true := by kernel_rfl

set_option maxRecDepth 100000 in
theorem lifted (os : Os) (started : os.Started) (H : Type) (enc : TypeId × Value → H) :
    ReturnsInHanded {} Try.checked os 7 .any (Rows.packListsSpec.pre6 enc Try.prog Try.f7 Rows.packListsRow.domain false) (Rows.packListsSpec.post enc Try.prog Try.f7 false true false false) := by
  refine returnsInHanded_of_change_sized (C := Try.checked) own started (by kernel_rfl) Try.func7
    (ChangeSpec.witness6 (enc := enc) (C := Try.checked) false ⟨#[], #[.slice none 0 0, .int .i64 0, .bool false, .int .i64 0], []⟩ 8 (by kernel_rfl) (by kernel_rfl) (by kernel_rfl) (by kernel_rfl)) ?_
  intro W base args ds gs before hval0 hW _ hsz0 _
  have hval : ∀ (j : Nat) t v, Try.f7.params[j]? = some t → args[j]? = some v → Value.okWide Try.prog W .any base t v := hval0
  have hsz : (DataW.weightsEach Try.prog (Try.f7.params.toList ++ Rows.packListsSpec.plain.varTypes Try.prog) (ds ++ gs)).all (· ≤ reachBytes) = true := hsz0
  have hW' := hW
  have hlt0 := hW.lt
  obtain ⟨p, q, hA0, hV, he, hfz, hnd⟩ := hW
  have hA : DataW.TrodAll enc Try.prog W 0 (fun _ => true) true Try.f7.params.toList args.toList ds p := hA0
  rw [Try.params7] at hA hval hsz
  obtain ⟨rfl, rfl⟩ := trodVars_none hV
  rw [List.append_nil] at he
  subst he
  obtain ⟨v0, vs0, d0, ds0, p0, q0, hargs, rfl, rfl, h0, r0⟩ := trodAll_cons hA
  obtain ⟨v1, vs1, d1, ds1, p1, q1, rfl, rfl, rfl, h1, r1⟩ := trodAll_cons r0
  obtain ⟨v2, vs2, d2, ds2, p2, q2, rfl, rfl, rfl, h2, r2⟩ := trodAll_cons r1
  obtain ⟨v3, vs3, d3, ds3, p3, q3, rfl, rfl, rfl, h3, r3⟩ := trodAll_cons r2
  obtain ⟨rfl, rfl, rfl⟩ := trodAll_nil r3
  obtain rfl : args = #[v0, v1, v2, v3] := by cases args; simp_all
  have k0 : ∀ x ∈ p0, x.block < W.heap.size := fun x hx => hlt0 x (by simp [hx])
  have k1 : ∀ x ∈ p1, x.block < W.heap.size := fun x hx => hlt0 x (by simp [hx])
  have k2 : ∀ x ∈ p2, x.block < W.heap.size := fun x hx => hlt0 x (by simp [hx])
  have k3 : ∀ x ∈ p3, x.block < W.heap.size := fun x hx => hlt0 x (by simp [hx])
  obtain ⟨A0, c0, rows0, rfl, hlc0, hcm0, hrow0, hseg0, hz0, hdat0⟩ := Le.open_rows0 8 No.leafs Try.underlying34 (by kernel_rfl) (by kernel_rfl) (by kernel_rfl) (hval 0 34 v0 rfl rfl) h0 k0
  obtain ⟨l0, hll0, hls0⟩ := No.nodes_of hrow0
  rw [hls0] at hseg0
  rw [← hll0] at hlc0 hW' hdat0 ⊢
  have hreach0 : l0.length ≤ 879609302220 := by
    obtain ⟨es, sp, ⟨hd, he1, he2⟩ | ⟨hd, he1, he2⟩⟩ := hdat0
    · have h := sized_slice hsz (j := 0) (t := 34) (e := 54) rfl (by rw [hd]; rfl) Try.underlying34
      rw [No.bytes_node] at h
      simp only [reachBytes] at h
      omega
    · rw [he1] at hll0
      simp at hll0
      simp [hll0]
  obtain ⟨a1, rfl, rfl, rfl, w1⟩ := open_int Try.underlying3 (hval 1 3 v1 rfl rfl) h1
  obtain ⟨a2, rfl, rfl, rfl⟩ := open_bool Try.underlying4 (hval 2 4 v2 rfl rfl) h2
  obtain ⟨a3, rfl, rfl, rfl, w3⟩ := open_int Try.underlying3 (hval 3 3 v3 rfl rfl) h3
  clear hA0 hval0
  refine (Pk.lists_walk A0 l0 c0 a1 a2 a3 W (by omega) hlc0 hz0 hseg0).mono fun e W' ⟨he, hb⟩ => ?_
  subst he
  exact ⟨_, rfl, Li.law_post laidOut rfl hW' (by kernel_rfl) rfl rfl rfl rfl Try.underlying4 hb⟩

theorem over : Rows.packListsRow.holds Try.pinned (OpenSpec.ofChange Rows.packListsSpec) :=
  OpenClaim.holds_of_wide 7 Try.f7 rfl rfl rfl rfl rfl rfl rfl ⟨rfl, rfl, rfl, rfl, rfl⟩ rfl rfl rfl rfl rfl (by kernel_rfl) Try.func7 (by kernel_rfl)
    (of_decide_eq_true (by kernel_rfl)) (by unfold Func.isWrapper; first | (rw [if_pos (by decide +kernel)]; kernel_rfl) | (rw [if_neg (by decide +kernel)]; exact ⟨rfl, rfl⟩))
    (fun os started H enc _ => lifted os started H enc)

theorem proved : Rows.PackListsSaid := over
#print axioms proved
end Go.Proofs.Ytoboecenlangmaa.PackLists
end
