import Derived.Test.YtoboecenlangmaaMo3
import Derived.Test.YtoboecenlangmaaSi
import Derived.Test.YtoboecenlangmaaMo2
import Derived.Test.YtoboecenlangmaaMo1
import Derived.Test.YtoboecenlangmaaNr
import Derived.Barred
import Derived.RowKit
import Derived.Test.YtoboecenlangmaaNp
import Derived.Test.YtoboecenlangmaaGlueG
import Derived.Test.YtoboecenlangmaaGlueF
import Derived.Test.YtoboecenlangmaaAlp
import Derived.Test.YtoboecenlangmaaGlueC
import Derived.Test.YtoboecenlangmaaNodeF
import Derived.Deep.LoopGhost
import Derived.Deep.MidRow
import Derived.OneCell
import Derived.BigQuiet
import Derived.Test.YtoboecenlangmaaAlg
import Derived.Deep.RegionLaw
import Derived.Test.YtoboecenlangmaaMem
import Derived.ProofKit
import Derived.OpenShut
import Derived.Deep.Slices
import Derived.SizedLaws
import Derived.KernelRfl
import Derived.Test.YtoboecenlangmaaNodeE
import Derived.Test.YtoboecenlangmaaAlm
import Derived.Carry
/- Merged texts. Conditions: those that each theorem names. -/
section
namespace Go.Proofs.Ytoboecenlangmaa.Pk
open Go.ChangeShapes Go.WideShapes Go.ChangeAt Go.RowKit
open Me Np No
set_option linter.unusedVariables false
set_option linter.unusedSimpArgs false

/-- What the first loop of Places holds: the glue so far. -/
structure InvK (l : List Nd) (W : World) (R : List Gl.G) (a : Nat) (v : Value) (wr : World) : Prop where
  rest : ∃ ys s, Stand l a ys ∧ skF l ys s = R ∧ s.length ≤ a ∧ wr.ownsRow W.heap.size 40 5 v s.length (s.flatMap Gl.G.vals)
  low : Below W.heap.size W wr
/-- What the second one holds. -/
structure InvL (l : List Nd) (f : Nat → Int) (W : World) (gx : Nat) (R : Plc) (a : Nat) (v u : Value) (wr : World) : Prop where
  rest : ∃ ys s A c, v = .slice A s.sz.length c ∧ s.sz.length ≤ c ∧ Seg W W.heap.size A (s.sz.map (Value.int .i64)) ∧ Stand l a ys ∧ plF l f ys s = R ∧ PlIn l f s ys s.out.length ∧ s.out.length ≤ a ∧ MP W gx s.x u s.out wr
theorem cells5 {W wr : World} {b o : Nat} {y : Nd} (h : NodeAt W b o y) (hl : Below W.heap.size W wr) (hb : b < W.heap.size) : wr.cell? ⟨b, o, none⟩ = some (.int .i64 y.kind) ∧ wr.cell? ⟨b, o + 7, none⟩ = some (.int .i64 y.gn) ∧ wr.cell? ⟨b, o + 8, none⟩ = some (.int .i64 y.gs) ∧ wr.cell? ⟨b, o + 9, none⟩ = some (.int .i64 y.gh) ∧ wr.cell? ⟨b, o + 10, none⟩ = some (.int .i64 y.ga) ∧ wr.cell? ⟨b, o + 11, none⟩ = some (.int .i64 y.gb) :=
  ⟨(h.below hl hb) 0 _ rfl, (h.below hl hb) 7 _ rfl, (h.below hl hb) 8 _ rfl, (h.below hl hb) 9 _ rfl, (h.below hl hb) 10 _ rfl, (h.below hl hb) 11 _ rfl⟩
set_option maxHeartbeats 4000000 in
set_option maxRecDepth 100000 in
theorem places_ok (A : Option Addr) (ns l : List Nd) (c k : Nat) (x : Nd) (xs : List Nat) (f : Nat → Int) (w : World) (hcap : ns.length ≤ c) (hl0 : ns.length ≤ 2000) (hseg : Seg w w.heap.size A (ns.flatMap ncs)) (hx : ns[k]? = some x) (h45 : x.kind = 4 ∨ x.kind = 5)
    (hI : Calls Try.prog 24 #[.slice A ns.length c, .int .i64 (k : Int)] w fun e' w' => ∃ v, e' = .returned (.tuple #[v, .int .i64 0]) ∧ w'.ownsRow w.heap.size 54 19 v l.length (l.flatMap ncs) ∧ Below w.heap.size w w')
    (hc : chk l = 0) (hxs : Its xs l 0) (hf : ∀ k, -281474976710656 ≤ f k ∧ f k ≤ 281474976710656)
    (hsz : ∀ (k : Nat) (n : Nd), l[k]? = some n → ¬ n.kind = 6 → ¬ n.kind = 11 → ∀ (A : Option Addr) (c : Nat) (w : World), l.length ≤ c → Seg w w.heap.size A (l.flatMap ncs) → Calls Try.prog 51 #[.slice A l.length c, .int .i64 (k : Int), .bool (x.kind == 5)] w fun e w' => e = .returned (.int .i64 (f k)) ∧ Below w.heap.size w w') :
    Calls Try.prog 23 #[.slice A ns.length c, .int .i64 (k : Int)] w (PlOut (plcR x l f xs).1 (plcR x l f xs).2 w) := by
  have hl := (chk_run hc).1
  have HI := Lib.hid hI
  have HF := Lib.hid hf
  have HIT := Lib.hid (fun (A : Option Addr) (c a m : Nat) (w1 : World) (hs : Seg w1 w1.heap.size A (l.flatMap ncs)) hb hm => item_ok A l c a m w1 (by omega) hs hc hb hm)
  have HST := Lib.hid (stand0 hc hxs)
  have HSL : (skF l xs []).length ≤ 2000 := by
    have h1 := skF_len l xs []
    have h2 := hxs.len
    simp only [List.length_nil] at h1
    omega
  have HSS := Lib.hid (fun (A : Option Addr) (c : Nat) (w1 : World) (hr : Gl.Row w1 A (skF l xs [])) => Gl.sizes_any A (skF l xs []) c x.sign x.order x.num x.den w1 (by unfold maxLen; omega) hr)
  obtain ⟨G, hG⟩ : ∃ G, skF l xs [] = G := ⟨_, rfl⟩
  rw [hG] at HSS HSL
  have HG := Lib.hid hG
  obtain ⟨PR, hPR⟩ : ∃ PR, plcR x l f xs = PR := ⟨_, rfl⟩
  rw [hPR]
  have HPR := Lib.hid hPR
  obtain ⟨dn, hdn⟩ : ∃ dn, (x.kind == 5) = dn := ⟨_, rfl⟩
  rw [hdn] at hsz
  have HSZ := Lib.hid hsz
  have e4 : (x.kind != 4) = dn := by
    rw [← hdn]
    rcases h45 with h | h <;> simp [h]
  have e5 : (x.kind != 5) = !dn := by
    rw [← hdn]
    rcases h45 with h | h <;> simp [h]
  obtain ⟨b0, off0, rfl, hb0, hnode⟩ := seg_node hseg hx
  have hkl : k < ns.length := (List.getElem?_eq_some_iff.1 hx).1
  clear hseg hx hc hxs hsz hI hf hG hPR h45
  generalize hlen : l.length = len at *
  have HL := Lib.hid hlen
  clear hlen
  generalize ns.length = lns at *
  cases dn
  all_goals
    simp only [Bool.not_false, Bool.not_true] at e5
    go_enter Try.func23, Try.ntmps23
    go_wp2_with fail
    refine HI.out.mono ?_
    rintro e w1 ⟨v, rfl, ho, hb1⟩
    have hnode1 := hnode.below hb1 hb0
    have ho2 := ho
    rw [← HL.out] at ho2
    obtain ⟨Ai, ci, hvi, hci, _, hsi⟩ := Seg.of_own ho2
    rw [HL.out] at hvi hci
    subst hvi
    clear ho ho2
    go_wp2_with (first | (refine wpList_load_node rfl _ rfl _ _ rfl _ (by repeat (first | apply NodeAt.row | (apply Blk.new'; first | rfl | (simp; done)) | (apply Blk.node; apply Blk.new'; first | rfl | (simp; done)) | assumption | apply NodeAt.alloc)) ?_) | (refine wpList_alloc_node rfl rfl ?_) | (refine wpList_store_node rfl _ _ rfl _ _ _ rfl rfl _ (by repeat (first | (apply Blk.new'; first | rfl | (simp; done)) | assumption | apply Blk.alloc)) ?_))
    have hW0 : Below w.heap.size w (w1.alloc (.cells (nc x) 54)) := andAlloc hb1 _
    have hBL : Blk (w1.alloc (.cells (nc x) 54)) w1.heap.size 54 (nc x) := Blk.new' rfl
    have hSG : Seg (w1.alloc (.cells (nc x) 54)) (w1.alloc (.cells (nc x) 54)).heap.size Ai (l.flatMap ncs) := Seg.belowW hsi (andAlloc (Below.refl _ _) _)
    clear hb1 hnode1 hsi
    generalize w1.alloc (.cells (nc x) 54) = W at hW0 hBL hSG ⊢
    generalize w1.heap.size = g8 at hBL ⊢
    have HW0 := Lib.hid hW0
    have HBL := Lib.hid hBL
    have HSG := Lib.hid hSG
    clear hW0 hBL hSG
    go_loopw [9, 10] (fun v9 v10 wr => ∃ a : Nat, v10 = .int .i64 (a : Int) ∧ InvK l W G a v9 wr) (fun _ v10 _ => len - (intOf v10).toNat)
    case atStart => exact ⟨0, rfl, ⟨xs, [], HST.out, HG.out, by simp, World.ownsRow_nil _ _ _ _⟩, Below.refl _ _⟩
    case round =>
      obtain ⟨a, rfl, hK⟩ := hrel
      obtain ⟨ys, s, hst, hR, h1, hO⟩ := hK.rest
      have HLOW := Lib.hid hK.low
      have hal := hst.le
      rw [HL.out] at hal
      by_cases hlt : a < len
      · obtain ⟨m, zs, y, rfl, hm, hm1, ham, hst', _, hy, h6, h11⟩ := hst.step (by rw [HL.out]; exact hl) (by rw [HL.out]; exact hlt)
        rw [HL.out] at ham
        obtain ⟨b, off, rfl, hb, hnd⟩ := seg_node HSG.out hy
        obtain ⟨c0, c7, c8, c9, c10, c11⟩ := cells5 hnd HLOW.out hb
        have HS := Lib.hid (And.intro hst' (And.intro hR hO))
        have HX := Lib.hid (And.intro hy hm)
        have HB := Lib.hid (beg_of hy h6 h11)
        have HH := Lib.hid h1
        have hal1 : (a : Int) + m ≤ len := by omega
        clear hst' hR hO hy hm hnd hK hst h1 h6 h11
        by_cases k7 : y.kind = 7
        · have e7 : (y.kind == 7) = true := by simp [k7]
          have HK := Lib.hid (skstep_yes (s := s) HX.out.1 k7)
          clear k7
          go_wp2_with (first
            | (refine wpList_ex (o := ⟨some 53, _, _, _, _, _⟩) (v := .slice (some ⟨wr.heap.size, 0, none⟩) 1 1) (w' := wr.alloc (.cells #[.int .i64 y.gn, .int .i64 y.gs, .int .i64 y.gh, .int .i64 y.ga, .int .i64 y.gb] 40)) rfl (by kernel_rfl) ?_)
            | (at_builtin; refine wpList_push rfl (.tmp 47) (.tmp 53) 22 rfl W.heap.size 40 _ 5 40 Try.underlying22 info_glue rfl (by decide) (by decide) _ _ _ rfl HS.out.2.2 HLOW.out.size #[.int .i64 y.gn, .int .i64 y.gs, .int .i64 y.gh, .int .i64 y.ga, .int .i64 y.gb] rfl rfl rfl rfl (by have := HH.out; omega) ?_; intro v3 W3 hown3 hg3 hnn3; have HO3 := Lib.hid hown3; have HL3 := Lib.hid (below_grown (Nat.le_refl _) (andAlloc HLOW.out _) hg3 (fun q hq => (HS.out.2.2.lt q hq).1)); clear hown3 hg3 hnn3)
            | (go_at_call 48; refine (HIT.out _ ci a m _ (Seg.belowW HSG.out HL3.out) HB.out HX.out.2).mono ?_; rintro e w5 ⟨rfl, hb5⟩; have HB5 := Lib.hid hb5; clear hb5))
          go_roundw
          case rel =>
            refine ⟨a + m, by go_num, ⟨zs, _, HS.out.1, HS.out.2.1, ?_, ?_⟩, andThen HL3.out HB5.out⟩
            · rw [HK.out]; have := HH.out; simp only [List.length_append, List.length_cons, List.length_nil]; omega
            · rw [HK.out]
              have h := own_below HO3.out HB5.out
              simpa [List.flatMap_append, gOf, Gl.G.vals] using h
          case measure => simp [intOf]; omega
        · have e7 : (y.kind == 7) = false := by simp [k7]
          have HK := Lib.hid (skstep_no (s := s) HX.out.1 k7)
          clear k7
          go_wp2_with (go_at_call 48; refine (HIT.out _ ci a m _ (Seg.belowW HSG.out HLOW.out) HB.out HX.out.2).mono ?_; rintro e w5 ⟨rfl, hb5⟩; have HB5 := Lib.hid hb5; clear hb5)
          go_roundw
          case rel =>
            refine ⟨a + m, by go_num, ⟨zs, _, HS.out.1, HS.out.2.1, ?_, ?_⟩, andThen HLOW.out HB5.out⟩
            · rw [HK.out]; have := HH.out; omega
            · rw [HK.out]; exact own_below HS.out.2.2 HB5.out
          case measure => simp [intOf]; omega
      · obtain rfl : a = len := by omega
        have he : ys = [] := (show Stand l l.length ys from HL.out ▸ hst).done
        subst he
        have hsG : s = G := hR
        subst hsG
        obtain ⟨AG, cG, hvG, hcG, _, hsG⟩ := Seg.of_own hO
        subst hvG
        have HRW := Lib.hid (show Gl.Row wr AG s from hsG)
        have hnx : NodeAt wr g8 0 x := (Blk.node HBL.out).below HLOW.out HBL.out.lt
        clear hst hR hO hsG h1 hK hal
        have hlw1 := HLOW.out
        have c12 : wr.cell? ⟨g8, 12, none⟩ = some (.int .i64 x.sign) := Blk.cell (HBL.out.below hlw1 HBL.out.lt) 12
        have c13 : wr.cell? ⟨g8, 13, none⟩ = some (.int .i64 x.order) := Blk.cell (HBL.out.below hlw1 HBL.out.lt) 13
        have c14 : wr.cell? ⟨g8, 14, none⟩ = some (.int .i64 x.num) := Blk.cell (HBL.out.below hlw1 HBL.out.lt) 14
        have c15 : wr.cell? ⟨g8, 15, none⟩ = some (.int .i64 x.den) := Blk.cell (HBL.out.below hlw1 HBL.out.lt) 15
        clear hlw1
        have HSZO := Lib.hid (HSS.out AG cG wr HRW.out)
        by_cases hE : Gl.szE s x.sign x.order x.num x.den = 0
        · have hpr : PR = ((plF l f xs ⟨0, Gl.szL s x.sign x.order x.num x.den, []⟩).out, 0) := by
            rw [← HPR.out]
            unfold plcR
            rw [HG.out, if_pos hE]
          have HPP := Lib.hid hpr
          have hszi := Gl.szL_in hE
          have HSI := Lib.hid hszi
          have HE := Lib.hid hE
          clear hpr hszi hE HPR
          go_wp2_with fail
          refine HSZO.out.mono ?_
          rintro e w5 ⟨hs5, hb5⟩
          rw [if_pos HE.out] at hs5
          obtain ⟨v5, rfl, own5⟩ := hs5
          have own5' := own5
          rw [← HSI.out.1] at own5'
          obtain ⟨As, cs, hvs, hcs, _, hss⟩ := Seg.of_own own5'
          subst hvs
          have HB5 := Lib.hid (andThen HLOW.out hb5)
          have HSS5 := Lib.hid hss
          clear own5 own5' hb5 hss c12 c13 c14 c15 HSZO
          generalize hZ : Gl.szL s x.sign x.order x.num x.den = Z at *
          generalize hPF : plF l f xs ⟨0, Z, []⟩ = PF at *
          have HPF := Lib.hid hPF
          clear hPF hZ hnx hnode hb0 hkl
          obtain ⟨gx, hgx⟩ : ∃ gx, w5.heap.size = gx := ⟨_, rfl⟩
          go_wp2_with fail
          go_loopw [11, 14, 15] (fun v11 v14 v15 wr2 => ∃ j : Nat, v15 = .int .i64 (j : Int) ∧ InvL l f w5 w5.heap.size PF j v11 v14 wr2) (fun _ _ v15 _ => a - (intOf v15).toNat)
          case atStart => exact ⟨0, rfl, xs, ⟨0, Z, []⟩, As, cs, rfl, hcs, HSS5.out, HST.out, HPF.out, ⟨by rw [HG.out]; exact HSI.out.1, HSI.out.2, by simp, rfl⟩, Nat.zero_le _, Blk.new' rfl, World.ownsRow_nil _ _ _ _, andAlloc (Below.refl _ _) _, Nat.le_refl _⟩
          case round =>
            obtain ⟨j, rfl, hL⟩ := hrel
            obtain ⟨ys, ⟨x2, sz2, out2⟩, A2, c2, rfl, hc2, hsg2, hst, hR, hP, hlen2, hM⟩ := hL.rest
            rw [hgx] at hM ⊢
            simp only at hc2 hsg2 hR hP hlen2 hM ⊢
            have hx0 : wr.cell? ⟨gx, 0, none⟩ = some (.int .i64 x2) := Blk.cell hM.blk 0
            have HMP := Lib.hid hM
            have hxb := hP.x
            simp only at hxb
            have hal := hst.le
            rw [HL.out] at hal
            by_cases hlt2 : j < a
            · obtain ⟨m, zs, y, rfl, hm, hm1, ham, hst', _, hy, h6, h11⟩ := hst.step (by rw [HL.out]; exact hl) (by rw [HL.out]; exact hlt2)
              rw [HL.out] at ham
              obtain ⟨b, off, rfl, hb, hnd⟩ := seg_node HSG.out hy
              have HND := Lib.hid (fun w' (h : Below w5.heap.size w5 w') => show w'.cell? ⟨b, off + j * 19, none⟩ = some (.int .i64 y.kind) from (cells5 hnd (andThen HB5.out h) hb).1)
              have HS := Lib.hid (And.intro hst' hR)
              have HX := Lib.hid (And.intro hy hm)
              have HB := Lib.hid (beg_of hy h6 h11)
              have hal1 : (j : Int) + m ≤ a := by omega
              by_cases k7 : y.kind = 7
              · have e7 : (y.kind == 7) = true := by simp [k7]
                obtain ⟨z, r, hz, hzb, hst1, hin1⟩ := hP.skip hy k7
                simp only at hz
                subst hz
                obtain ⟨b2, off2, rfl, hb2, hz2⟩ := Si.seg_get hsg2 (k := 0) (u := .int .i64 z) rfl
                have HZ2 := Lib.hid (fun w' (h : Below w5.heap.size w5 w') => show w'.cell? ⟨b2, off2, none⟩ = some (.int .i64 z) from (h.cell (p := ⟨b2, off2, none⟩) hb2).trans hz2)
                have HST1 := Lib.hid (And.intro hst1 hin1)
                have HSG2 := Lib.hid (And.intro hb2 hsg2)
                have hx1 : -2305843009213693952 ≤ x2 := by omega
                have hx3 : x2 ≤ 2305843009213693952 := by omega
                have hz1 : -2305843009213693952 ≤ z := by omega
                have hz3 : z ≤ 2305843009213693952 := by omega
                simp only [List.length_cons] at hc2 ⊢
                have HLE := Lib.hid hlen2
                clear hM hst' hR hy hm hnd hL hst hP h6 h11 k7 hz2 hst1 hin1 hsg2 hlen2 hxb hzb hb2
                go_wp2_with (first
                  | (at_builtin; refine wpList_push rfl (.tmp 82) (.tmp 84) 26 rfl (gx + 1) 3 _ 1 8 Try.underlying26 info_int rfl (by decide) (by decide) _ _ _ rfl HMP.out.own HMP.out.blk.lt #[.int .i64 x2] rfl rfl rfl rfl (by have := HLE.out; omega) ?_; intro v3 W3 hown3 hg3 hnn3; have HM3 := Lib.hid ((HMP.out.below (andAlloc (Below.refl _ _) _)).push hown3 hg3); have cy3 := HND.out _ HM3.out.low; have cz3 := HZ2.out _ HM3.out.low; clear hown3 hg3 hnn3)
                  | (go_at_call 50; refine (grow_any gx x2 z _ HM3.out.blk hx1 hx3 hz1 hz3).mono ?_; rintro e w7 ⟨rfl, hb7, hg7⟩; have HM7 := Lib.hid (HM3.out.turn hb7 hg7); clear hb7 hg7)
                  | (go_at_call 48; refine (HIT.out _ ci j m _ (Seg.belowW HSG.out (andThen HB5.out HM7.out.low)) HB.out HX.out.2).mono ?_; rintro e w8 ⟨rfl, hb8⟩; have HB8 := Lib.hid hb8; clear hb8))
                go_roundw
                case rel =>
                  refine ⟨j + m, by go_num, ⟨zs, ⟨x2 + z, r, out2 ++ [x2]⟩, if c2 = 1 then some ⟨b2, off2, none⟩ else some ⟨b2, off2 + 1, none⟩, c2 - 1, ?_, by simp only; omega, ?_, HS.out.1, ?_, ?_, ?_, ?_⟩⟩
                  · rfl
                  · simp only
                    have h := HSG2.out.2
                    split
                    · have : r = [] := List.eq_nil_of_length_eq_zero (by omega)
                      subst this
                      exact .inl rfl
                    · have h2 := Seg.drop h 1
                      simpa using h2
                  · have h := HS.out.2
                    rw [plF_cons, HST1.out.1] at h
                    exact h
                  · have h := HST1.out.2
                    rw [HST1.out.1] at h
                    simpa using h
                  · have := HLE.out
                    simp only [List.length_append, List.length_cons, List.length_nil]
                    omega
                  · exact HM7.out.below HB8.out
                case measure => simp [intOf]; omega
              · have e7 : (y.kind == 7) = false := by simp [k7]
                obtain ⟨hst1, hin1⟩ := hP.other hy k7 (HF.out j)
                have HST1 := Lib.hid (And.intro hst1 hin1)
                have hfj := HF.out j
                have hx1 : -2305843009213693952 ≤ x2 := by omega
                have hx3 : x2 ≤ 2305843009213693952 := by omega
                have hz1 : -2305843009213693952 ≤ f j := by omega
                have hz3 : f j ≤ 2305843009213693952 := by omega
                have HK6 := Lib.hid (And.intro h6 h11)
                have HLE := Lib.hid hlen2
                have HSG2 := Lib.hid hsg2
                clear hM hst' hR hy hm hnd hL hst hP h6 h11 k7 hst1 hin1 hsg2 hlen2 hxb hfj
                go_wp2_with (first
                  | (at_builtin; refine wpList_push rfl (.tmp 82) (.tmp 84) 26 rfl (gx + 1) 3 _ 1 8 Try.underlying26 info_int rfl (by decide) (by decide) _ _ _ rfl HMP.out.own HMP.out.blk.lt #[.int .i64 x2] rfl rfl rfl rfl (by have := HLE.out; omega) ?_; intro v3 W3 hown3 hg3 hnn3; have HM3 := Lib.hid ((HMP.out.below (andAlloc (Below.refl _ _) _)).push hown3 hg3); have cy3 := HND.out _ HM3.out.low; have cg3 : W3.cell? ⟨g8, 0, none⟩ = some (.int .i64 x.kind) := Blk.cell (HBL.out.below (andThen HB5.out HM3.out.low) HBL.out.lt) 0; clear hown3 hg3 hnn3)
                  | (go_at_call 51; refine (HSZ.out j y HX.out.1 HK6.out.1 HK6.out.2 _ ci _ hci (Seg.belowW HSG.out (andThen HB5.out HM3.out.low))).mono ?_; rintro e w6 ⟨rfl, hb6⟩; have HM6 := Lib.hid (HM3.out.below hb6); clear hb6)
                  | (go_at_call 50; refine (grow_any gx x2 (f j) _ HM6.out.blk hx1 hx3 hz1 hz3).mono ?_; rintro e w7 ⟨rfl, hb7, hg7⟩; have HM7 := Lib.hid (HM6.out.turn hb7 hg7); clear hb7 hg7)
                  | (go_at_call 48; refine (HIT.out _ ci j m _ (Seg.belowW HSG.out (andThen HB5.out HM7.out.low)) HB.out HX.out.2).mono ?_; rintro e w8 ⟨rfl, hb8⟩; have HB8 := Lib.hid hb8; clear hb8))
                go_roundw
                case rel =>
                  refine ⟨j + m, by go_num, ⟨zs, ⟨x2 + f j, sz2, out2 ++ [x2]⟩, A2, c2, rfl, hc2, HSG2.out, HS.out.1, ?_, ?_, ?_, ?_⟩⟩
                  · have h := HS.out.2
                    rw [plF_cons, HST1.out.1] at h
                    exact h
                  · have h := HST1.out.2
                    rw [HST1.out.1] at h
                    simpa using h
                  · have := HLE.out
                    simp only [List.length_append, List.length_cons, List.length_nil]
                    omega
                  · exact HM7.out.below HB8.out
                case measure => simp [intOf]; omega
            · obtain rfl : j = a := by omega
              have he : ys = [] := (show Stand l l.length ys from HL.out ▸ hst).done
              subst he
              have hPo : PF.out = out2 := by
                have h : (⟨x2, sz2, out2⟩ : Plc) = PF := hR
                rw [← h]
              have HPO := Lib.hid hPo
              clear hst hR hP hM hL hPo hsg2
              go_wp2_with fail
              go_ret2
              rw [HPP.out]
              refine ⟨u14, rfl, ?_, andThen HW0.out (andThen HB5.out HMP.out.low)⟩
              simp only
              rw [HPO.out]
              exact own_base HMP.out.own (by have := HMP.out.gl; have := HW0.out.size; have := HB5.out.size; omega)
        · have hpr : PR = ([], Gl.szE s x.sign x.order x.num x.den) := by
            rw [← HPR.out]
            unfold plcR
            rw [HG.out, if_neg hE]
          have HPP := Lib.hid hpr
          have HE := Lib.hid hE
          clear hpr hE HPR
          go_wp2_with fail
          refine HSZO.out.mono ?_
          rintro e w5 ⟨hs5, hb5⟩
          rw [if_neg HE.out] at hs5
          subst hs5
          clear HSZO
          generalize Gl.szE s x.sign x.order x.num x.den = E at *
          have e0 : (E != 0) = true := by simp [HE.out]
          go_wp2_with fail
          go_ret2
          rw [HPP.out]
          exact PlOut.no (andThen HW0.out (andThen HLOW.out hb5)) _
end Go.Proofs.Ytoboecenlangmaa.Pk
end
section
namespace Go.Proofs.Ytoboecenlangmaa.Pk
open Go.ChangeShapes Go.WideShapes Go.ChangeAt Go.RowKit
open Me Np No
set_option linter.unusedVariables false
set_option linter.unusedSimpArgs false

def bitN : Nd := { nz 1 with char := 97, wd := 327680, ht := 262144 }
def gluN : Nd := { nz 7 with gn := 65536, gs := 131072, gh := 65536 }
def l3 : List Nd := [bitN, gluN, bitN]
theorem bit_right : right bitN = true := right_s bitN 1 rfl rfl rfl rfl
theorem glu_right : right gluN = true := right_s gluN 7 rfl rfl rfl rfl
theorem end_right : right (nz 6) = true := right_s (nz 6) 6 rfl rfl rfl rfl
theorem l3_chk : chk l3 = 0 := by
  have h : Np.run l3 ([], 0) = some ([], 1) := by
    simp only [l3, Np.run, stp, bit_right, glu_right]
    rfl
  unfold chk
  rw [h]
  rfl
theorem l3_its : Its [0, 1, 2] l3 0 := ⟨rfl, 1, rfl, rfl, 1, rfl, rfl, 1, rfl, rfl⟩
theorem l3_part : partD l3 = (l3, []) := by
  unfold partD
  rw [itsD_of l3_its]
  rfl
theorem l3_al : alD l3 false 0 = 327680 ∧ alD l3 false 1 = 65536 ∧ alD l3 false 2 = 327680 :=
  ⟨alD_of ⟨bitN, rfl, rfl⟩, alD_of ⟨gluN, rfl, rfl⟩, alD_of ⟨bitN, rfl, rfl⟩⟩
theorem l3_tot : totD l3 false [0, 1, 2] = ⟨720896, [131072, 0, 0, 0], [65536, 0, 0, 0]⟩ := by
  have h : ∀ al : Nat → Int, al 0 = 327680 → al 1 = 65536 → al 2 = 327680 → tsum l3 al [0, 1, 2] tz = ⟨720896, [131072, 0, 0, 0], [65536, 0, 0, 0]⟩ := by
    intro al h0 h1 h2
    simp only [tsum, h0, h1, h2]
    rfl
  exact h _ l3_al.1 l3_al.2.1 l3_al.2.2
theorem l3_ext : extD l3 false [0, 1, 2] = (262144, 0) := by
  have h0 : roD l3 0 = (262144, 0) := roD_of ⟨bitN, rfl, rfl⟩
  have h1 : roD l3 1 = (0, 0) := roD_of ⟨gluN, rfl, rfl⟩
  have h2 : roD l3 2 = (262144, 0) := roD_of ⟨bitN, rfl, rfl⟩
  have h : ∀ ra : Nat → Int × Int, ra 0 = (262144, 0) → ra 1 = (0, 0) → ra 2 = (262144, 0) → rfold ra [0, 1, 2] (0, 0) = (262144, 0) := by
    intro ra h0 h1 h2
    simp only [rfold, h0, h1, h2]
    rfl
  exact h _ h0 h1 h2
theorem l3_msr : Msr l3 false 720896 131072 0 0 0 65536 0 0 0 0 262144 0 0 := by
  have ht := fun A k w h hs => totals_any A l3 k [0, 1, 2] false w l3_chk h hs l3_its
  have hR : totR l3 false [0, 1, 2] = ⟨720896, [131072, 0, 0, 0], [65536, 0, 0, 0]⟩ := by
    unfold totR
    rw [l3_tot]
    rfl
  have hu := fun A k w h hs => extent_good A l3 k [0, 1, 2] false w l3_chk h hs l3_its
  simp only [hR, l3_tot] at ht
  simp only [l3_ext] at hu
  exact ⟨ht, hu, fun _ => rfl, fun _ => ⟨rfl, rfl, rfl, rfl, rfl, rfl, rfl, rfl⟩, fun _ => .inl rfl, fun _ => ⟨rfl, rfl⟩⟩
/-- The box around them. -/
def boxN : Nd := fitN (hN 851968 262144 0) (1, 0, 131072, 131072)
theorem box_right : right boxN = true := right_s boxN 4 rfl rfl rfl rfl
theorem box_chk : chk (wrapL boxN l3) = 0 := by
  have h : Np.run (wrapL boxN l3) ([], 0) = some ([], 2) := by
    simp only [wrapL, l3, List.cons_append, List.nil_append, Np.run, stp, bit_right, glu_right, box_right, end_right]
    rfl
  unfold chk
  rw [h]
  rfl
theorem live_hpack (A : Option Addr) (k : Nat) (w : World) (hk : 3 ≤ k) (hs : Seg w w.heap.size A (l3.flatMap ncs)) : Calls Try.prog 20 #[.slice A 3 k, .int .i64 851968, .bool true] w (HOut (wrapL boxN l3, [], 100, 0, 0) w) := by
  have h := hpack_t A l3 l3 [] (wrapL boxN l3) k 851968 w l3_chk hk hs rfl l3_part 720896 131072 0 0 0 65536 0 0 0 0 262144 0 0 0 851968 l3_msr rfl (fun A c' w hs => (wrap_ok boxN A l3 c' w hs box_right rfl (by decide) l3_chk box_chk).mono (by rintro e w' ⟨v, rfl, h, hb⟩; exact ⟨v, rfl, h, hb⟩))
  have e : hpkR 0 0 (dimB 851968) 0 (wrapL boxN l3) [] (setV (fitN (hN 851968 262144 0) (Gl.fit 131072 0 0 0 65536 0 0 0 (851968 - 720896))) 131072 65536 ((l3.length : Int) == 0) (851968 - 720896) (0, 0)).1 (setV (fitN (hN 851968 262144 0) (Gl.fit 131072 0 0 0 65536 0 0 0 (851968 - 720896))) 131072 65536 ((l3.length : Int) == 0) (851968 - 720896) (0, 0)).2 = (wrapL boxN l3, [], 100, 0, 0) := by kernel_rfl
  rw [e] at h
  exact h
theorem live_sizes : Gl.szE [gOf gluN] 1 0 131072 131072 = 0 ∧ Gl.szL [gOf gluN] 1 0 131072 131072 = [196608] := by
  have hr : Gl.rowE [gOf gluN] = 0 := by decide
  have ha : Gl.argOk 1 0 = true := by decide
  have hg : Gl.rngOk 1 131072 131072 = true := by decide
  have hz : Gl.run 1 0 131072 131072 [gOf gluN] = some ⟨131072, 131072, [196608]⟩ := by kernel_rfl
  exact Gl.szE_some hr ha hg hz
theorem live_places (A : Option Addr) (k : Nat) (w : World) (hk : 5 ≤ k) (hs : Seg w w.heap.size A ((wrapL boxN l3).flatMap ncs)) : Calls Try.prog 23 #[.slice A 5 k, .int .i64 0] w (PlOut [0, 327680, 524288] 0 w) := by
  obtain ⟨f, hf, hv, hz⟩ := size_case l3 false l3_chk
  have f0 : f 0 = 327680 := hv 0 bitN rfl (.inr (by decide))
  have f2 : f 2 = 327680 := hv 2 bitN rfl (.inr (by decide))
  have hin : innerL (wrapL boxN l3) 0 5 = l3 := rfl
  have hI := inside_ok A (wrapL boxN l3) k 0 5 boxN w hk hs box_chk rfl rfl rfl rfl
  rw [hin] at hI
  have h := places_ok A (wrapL boxN l3) l3 k 0 boxN [0, 1, 2] f w hk (by decide) hs rfl (.inl rfl) hI l3_chk l3_its hf hz
  have e : plcR boxN l3 f [0, 1, 2] = ([0, 327680, 524288], 0) := by
    unfold plcR
    have hg : skF l3 [0, 1, 2] [] = [gOf gluN] := rfl
    rw [hg]
    have h1 : Gl.szE [gOf gluN] boxN.sign boxN.order boxN.num boxN.den = 0 := live_sizes.1
    have h2 : Gl.szL [gOf gluN] boxN.sign boxN.order boxN.num boxN.den = [196608] := live_sizes.2
    rw [h1, h2, if_pos rfl]
    have h3 : ∀ f : Nat → Int, f 0 = 327680 → f 2 = 327680 → (plF l3 f [0, 1, 2] ⟨0, [196608], []⟩).out = [0, 327680, 524288] := by
      intro f h0 h2
      show [(0 : Int), 0 + f 0, 0 + f 0 + 196608] = _
      rw [h0]
      rfl
    rw [h3 f f0 f2]
  rw [e] at h
  exact h
end Go.Proofs.Ytoboecenlangmaa.Pk
end
section
namespace Go.Proofs.Ytoboecenlangmaa.Pk
open Go.ChangeShapes Go.WideShapes Go.ChangeAt Go.RowKit
open Me Np No
set_option linter.unusedVariables false
set_option linter.unusedSimpArgs false

theorem num6_any (x : Int) (w : World) : Calls Try.prog 21 #[.int .i64 x] w fun e w' => e = .returned (.int .i64 x) ∧ w = w' := by
  go_enter Try.func21, Try.ntmps21
  go_wp2
  go_ret
  exact ⟨rfl, rfl⟩
section
attribute [local go_sem ↓] bldN_eq
set_option maxRecDepth 100000 in
theorem bit_any (w : World) : Calls Try.prog 46 #[] w fun e w' => e = .returned (.agg (nc bitN)) ∧ Below w.heap.size w w' := by
  have hbn : ∀ w, (bldN #[(0, .int .i64 1), (2, .int .u8 97), (3, .int .i64 327680), (4, .int .i64 262144)]).run Try.prog w = .ok (.agg (nc bitN)) w := fun w => by rw [← bldN_eq]; exact run_build w 54 _ _ (by kernel_rfl)
  go_enter Try.func46, Try.ntmps46
  go_wp2_with (first | (refine wpList_alloc_node rfl rfl ?_) | (refine wpList_store_node rfl _ _ rfl _ _ _ rfl rfl _ (by repeat (first | (apply Blk.new'; first | rfl | (simp; done)) | assumption | apply Blk.alloc)) ?_))
  exact bodyPost_ret (v := .agg (nc bitN)) (results_node rfl _ _ _ _ rfl (by repeat (first | apply NodeAt.row | (apply Blk.new'; first | rfl | (simp; done)) | (apply Blk.node; apply Blk.new'; first | rfl | (simp; done)) | assumption | apply NodeAt.alloc))) rfl ⟨rfl, (by repeat (first | (refine below_setRow ?_ _ _ ?_; rotate_left; focus (simp; done)) | exact Below.refl _ _ | refine andAlloc ?_ _))⟩
set_option maxRecDepth 100000 in
theorem glu_any (w : World) : Calls Try.prog 47 #[] w fun e w' => e = .returned (.agg (nc gluN)) ∧ Below w.heap.size w w' := by
  have hbn : ∀ w, (bldN #[(0, .int .i64 7), (7, .agg #[.int .i64 65536, .int .i64 131072, .int .i64 65536, .int .i64 0, .int .i64 0])]).run Try.prog w = .ok (.agg (nc gluN)) w := fun w => by rw [← bldN_eq]; exact run_build w 54 _ _ (by kernel_rfl)
  go_enter Try.func47, Try.ntmps47
  go_wp2_with (first | (refine wpList_alloc_node rfl rfl ?_) | (refine wpList_build_eq (o := ⟨some 1, _, _, _, _, _⟩) rfl _ _ rfl #[.int .i64 65536, .int .i64 131072, .int .i64 65536, .int .i64 0, .int .i64 0] (by kernel_rfl) ?_) | (refine wpList_build_eq (o := ⟨some 2, _, _, _, _, _⟩) rfl _ _ rfl (nc gluN) (by kernel_rfl) ?_) | (refine wpList_store_node rfl _ _ rfl _ _ _ rfl rfl _ (by repeat (first | (apply Blk.new'; first | rfl | (simp; done)) | assumption | apply Blk.alloc)) ?_))
  exact bodyPost_ret (v := .agg (nc gluN)) (results_node rfl _ _ _ _ rfl (by repeat (first | apply NodeAt.row | (apply Blk.new'; first | rfl | (simp; done)) | (apply Blk.node; apply Blk.new'; first | rfl | (simp; done)) | assumption | apply NodeAt.alloc))) rfl ⟨rfl, (by repeat (first | (refine below_setRow ?_ _ _ ?_; rotate_left; focus (simp; done)) | exact Below.refl _ _ | refine andAlloc ?_ _))⟩
end
theorem l3_seg {w : World} {g : Nat} (hg : g = w.heap.size) : Seg (w.alloc (.cells (l3.flatMap ncs).toArray 54)) (w.alloc (.cells (l3.flatMap ncs).toArray 54)).heap.size (some ⟨g, 0, none⟩) (l3.flatMap ncs) := by
  subst hg
  refine .inr ⟨w.heap.size, 0, rfl, by simp, fun j u hu => ?_⟩
  rw [Nat.zero_add, (Blk.new w _ _).cell j]
  simpa using hu
theorem blk_seg {w : World} {g B : Nat} {t : TypeId} {cs : Array Value} {xs : List Value} (h : Blk w g t cs) (hB : g < B) (hx : cs.toList = xs) : Seg w B (some ⟨g, 0, none⟩) xs :=
  .inr ⟨g, 0, rfl, hB, fun j u hu => by rw [Nat.zero_add, h.cell j]; rw [← hx] at hu; simpa using hu⟩
set_option maxRecDepth 100000 in
theorem live_any (w : World) : Calls Try.prog 22 #[] w fun e w' => e = .returned (.bool true) ∧ Below w.heap.size w w' := by
  go_enter Try.func22, Try.ntmps22
  go_wp2_with fail
  refine (bit_any _).mono ?_
  rintro e w1 ⟨rfl, hb1⟩
  go_wp2_with fail
  refine (glu_any _).mono ?_
  rintro e w2 ⟨rfl, hb2⟩
  go_wp2_with fail
  refine (bit_any _).mono ?_
  rintro e w3 ⟨rfl, hb3⟩
  have hl3 : Below w.heap.size w w3 := andThen (andThen hb1 hb2) hb3
  clear hb1 hb2 hb3
  go_wp2_with (first | (refine wpList_ex (o := ⟨some 12, _, _, _, _, _⟩) (v := .slice (some ⟨w3.heap.size, 0, none⟩) 3 3) (w' := w3.alloc (.cells (l3.flatMap ncs).toArray 54)) rfl (by kernel_rfl) ?_))
  refine (live_hpack (some ⟨w3.heap.size, 0, none⟩) 3 _ (by omega) (l3_seg rfl)).mono ?_
  rintro e w4 ⟨va, vb, rfl, ho, hb4⟩
  have HL4 := Lib.hid (andThen (andAlloc hl3 (.cells (l3.flatMap ncs).toArray 54)) hb4)
  obtain ⟨Aa, ca, e0, hca, _, hsa⟩ := Seg.of_own ho.one
  simp only at e0
  subst e0
  clear hb4 hl3 ho
  simp only
  go_wp2_with fail
  refine (live_places Aa ca w4 hca hsa).mono ?_
  rintro e w5 ⟨v5, rfl, ho5, hb5⟩
  obtain ⟨A5, c5, e5, hc5, _, hs5⟩ := Seg.of_own ho5
  subst e5
  have HL5 := Lib.hid (andThen HL4.out hb5)
  clear hb5 ho5 hsa
  go_wp2_with (go_at_call 21; refine (num6_any _ _).mono ?_; rintro e w' ⟨rfl, rfl⟩)
  have hb6 : Below w5.heap.size w5 (w5.alloc (.cells #[.int .i64 0, .int .i64 327680, .int .i64 524288] 3)) := andAlloc (Below.refl _ _) _
  refine (Si.same_ints A5 (some ⟨w5.heap.size, 0, none⟩) [0, 327680, 524288] [0, 327680, 524288] c5 3 _ (by decide) (by decide) (Seg.belowW hs5 hb6) (blk_seg (Blk.new' rfl) (by simp) rfl)).mono ?_
  rintro e w6 ⟨rfl, hb7⟩
  go_wp2_with fail
  go_ret
  exact ⟨rfl, andThen (andThen HL5.out hb6) hb7⟩
end Go.Proofs.Ytoboecenlangmaa.Pk
end
section
namespace Go.Proofs.Ytoboecenlangmaa.Pk
open Go.ChangeShapes Go.WideShapes Go.ChangeAt Go.RowKit
open Me Np No
set_option linter.unusedVariables false
set_option linter.unusedSimpArgs false

theorem seg_own {w : World} {base n c : Nat} {A : Option Addr} {xs : List Value} (h : w.ownsRow base 54 19 (.slice A n c) n xs) : Seg w w.heap.size A xs := by
  obtain ⟨A1, c1, e, _, _, hs⟩ := Seg.of_own h
  injection e with e _ _
  subst e
  exact hs
theorem val_own {w : World} {base : Nat} {e : TypeId} {size n : Nat} {v : Value} {xs : List Value} (h : w.ownsRow base e size v n xs) : ∃ A c, v = .slice A n c ∧ n ≤ c := by
  obtain ⟨A, c, h1, h2, _⟩ := Seg.of_own h
  exact ⟨A, c, h1, h2⟩
theorem opens_beg {n : Nd} (h : opensB n = true) : ¬ n.kind = 6 ∧ ¬ n.kind = 11 := by
  constructor
  · intro e; simp [opensB, e] at h
  · intro e; simp [opensB, e] at h
theorem num6_q (x : Int) (w : World) : Calls Try.prog 21 #[.int .i64 x] w fun e w' => e = .returned (.int .i64 x) ∧ w' = w :=
  (num6_any x w).mono fun _ _ h => ⟨h.1, h.2.symm⟩
/-- The first node of a row of one's own. -/
theorem head_cells {w : World} {base k : Nat} {A : Option Addr} {L : List Nd} {n : Nd} {r : List Nd} (ho : w.ownsRow base 54 19 (.slice A L.length k) L.length (L.flatMap ncs)) (hL : L = n :: r) :
    ∃ b off : Nat, A = some ⟨b, off, none⟩ ∧ ∀ w', Below w.heap.size w w' → w'.cell? ⟨b, off + 3, none⟩ = some (.int .i64 n.wd) ∧ w'.cell? ⟨b, off + 4, none⟩ = some (.int .i64 n.ht) ∧ w'.cell? ⟨b, off + 5, none⟩ = some (.int .i64 n.dp) ∧ w'.cell? ⟨b, off + 12, none⟩ = some (.int .i64 n.sign) := by
  obtain ⟨b, off, hA, hb, hn⟩ := seg_node (seg_own ho) (k := 0) (n := n) (by rw [hL]; rfl)
  refine ⟨b, off, hA, fun w' h => ?_⟩
  have h2 := hn.below h hb
  rw [Nat.zero_mul, Nat.add_zero] at h2
  exact ⟨h2 3 _ rfl, h2 4 _ rfl, h2 5 _ rfl, h2 12 _ rfl⟩
end Go.Proofs.Ytoboecenlangmaa.Pk
end
section
namespace Go.Proofs.Ytoboecenlangmaa.Al
open Go.ChangeShapes Go.WideShapes Go.ChangeAt Go.RowKit
open Me Np No Pk
set_option linter.unusedVariables false
set_option linter.unusedSimpArgs false

/-- Two contracts of one call tell of one end. -/
theorem agree {P : Program} {f : FuncId} {args : Array Value} {w : World} {R R' : Value → World → Prop}
    (h : Calls P f args w fun e w' => ∃ v, e = .returned v ∧ R v w') (h' : Calls P f args w fun e w' => ∃ v, e = .returned v ∧ R' v w') (hi : P.inits.idxOf? f = none) : ∃ v w', R v w' ∧ R' v w' := by
  have k : Calls P f args w fun | .returned v, w' => R v w' | _, _ => False := h.mono (by rintro e w' ⟨v, rfl, hr⟩; exact hr)
  have k' : Calls P f args w fun | .returned v, w' => R' v w' | _, _ => False := h'.mono (by rintro e w' ⟨v, rfl, hr⟩; exact hr)
  obtain ⟨n, v, w1, e1, r1⟩ := k.done hi
  obtain ⟨m, v', w2, e2, r2⟩ := k'.done hi
  have a := runN_ended e1 m
  have b := runN_ended e2 n
  rw [Nat.add_comm, a] at b
  injection b with ho hw
  injection ho with hv
  subst hv hw
  exact ⟨_, _, r1, r2⟩

/-- p: the error, and how wide. -/
def HW (l : List Nd) (p : Int × Int) : Prop :=
  (p.1 = 0 → dimB p.2 = true) ∧ ∃ R, R.2.2.2.2 = p.1 ∧ R.1.length ≤ 2002 ∧ R.2.1.length ≤ 2000 ∧ (p.1 = 0 → ∃ n r, R.1 = n :: r ∧ n.wd = p.2) ∧ (¬ p.1 = 0 → R.1 = []) ∧
    ∀ (A : Option Addr) (k : Nat) (w : World), l.length ≤ k → Seg w w.heap.size A (l.flatMap ncs) → Calls Try.prog 20 #[.slice A l.length k, .int .i64 0, .bool false] w (HOut R w)
theorem hw_ex (l : List Nd) (hl : l.length ≤ 9223372036854775806) : ∃ p, HW l p := by
  obtain ⟨R, h1, h2, hG, hc⟩ := hpk1_case l 0 false hl
  rcases hG with ⟨S, O, x, a, b, c, d, p, q, r, s, h, v, W, F, hS, hch, M, hW, hd, hF, hw, hR⟩ | ⟨hN1, _, _, _, hN⟩
  · refine ⟨(0, W), fun _ => hd, R, ?_, h1, h2, fun _ => ⟨_, _, by rw [hR]; rfl, rfl⟩, fun h => absurd rfl h, hc⟩
    rw [hR]
  · exact ⟨(R.2.2.2.2, 0), fun h => absurd h hN, R, rfl, h1, h2, fun h => absurd h hN, fun _ => hN1, hc⟩
open Classical in
noncomputable def wd (l : List Nd) : Int × Int := if h : ∃ p, HW l p then Classical.choose h else (0, 0)
theorem wd_is (l : List Nd) (hl : l.length ≤ 9223372036854775806) : HW l (wd l) := by
  have h := hw_ex l hl
  unfold wd
  rw [dif_pos h]
  exact Classical.choose_spec h
/-- What is known of one call is known of all. -/
theorem wd_of (w : World) (l : List Nd) (hl : l.length ≤ 9223372036854775806) (n : Nd) (r O : List Nd) (b o : Int)
    (hc : ∀ (A : Option Addr) (k : Nat) (w : World), l.length ≤ k → Seg w w.heap.size A (l.flatMap ncs) → Calls Try.prog 20 #[.slice A l.length k, .int .i64 0, .bool false] w (HOut (n :: r, O, b, o, 0) w)) : wd l = (0, n.wd) := by
  obtain ⟨_, R, hE, _, _, hg, _, hcall⟩ := wd_is l hl
  have hs : Seg (w.alloc (.cells (l.flatMap ncs).toArray 54)) (w.alloc (.cells (l.flatMap ncs).toArray 54)).heap.size (some ⟨w.heap.size, 0, none⟩) (l.flatMap ncs) :=
    .inr ⟨w.heap.size, 0, rfl, by simp, fun j u hu => by rw [Nat.zero_add, (Blk.new w _ _).cell j]; simpa using hu⟩
  have k1 := hcall (some ⟨w.heap.size, 0, none⟩) l.length _ (Nat.le_refl _) hs
  have k2 := hc (some ⟨w.heap.size, 0, none⟩) l.length _ (Nat.le_refl _) hs
  generalize w.alloc (.cells (l.flatMap ncs).toArray 54) = W at k1 k2
  obtain ⟨v, w', r1, r2⟩ := agree (R := fun v w' => ∃ x u, v = .tuple #[x, u, .int .i64 R.2.2.1, .int .i64 R.2.2.2.1, .int .i64 R.2.2.2.2] ∧ Own2 w' W.heap.size x u R.1 R.2.1)
    (R' := fun v w' => ∃ x u, v = .tuple #[x, u, .int .i64 b, .int .i64 o, .int .i64 0] ∧ Own2 w' W.heap.size x u (n :: r) O)
    (k1.mono (by rintro e w' ⟨x, u, rfl, ho, _⟩; exact ⟨_, rfl, x, u, rfl, ho⟩)) (k2.mono (by rintro e w' ⟨x, u, rfl, ho, _⟩; exact ⟨_, rfl, x, u, rfl, ho⟩)) (by kernel_rfl)
  obtain ⟨x, u, rfl, o1⟩ := r1
  obtain ⟨x', u', hv, o2⟩ := r2
  injection hv with hv
  injection hv with hv
  simp only [List.cons.injEq, Value.int.injEq, true_and, and_true] at hv
  obtain ⟨rfl, rfl, _, _, hz⟩ := hv
  rw [hz] at hE
  obtain ⟨n', r', hR1, hn'⟩ := hg hE.symm
  have q1 := o1.one
  have q2 := o2.one
  obtain ⟨A1, c1, rfl, _⟩ := val_own q1
  have hlen : R.1.length = (n :: r).length := by
    have e1 := q1.1
    have e2 := q2.1
    obtain ⟨A2, c2, e3, _⟩ := val_own q2
    injection e3
  rw [hlen] at q1
  have q1' : w'.ownsRow W.heap.size 54 19 (.slice A1 R.1.length c1) R.1.length (R.1.flatMap ncs) := by rw [hlen]; exact q1
  rw [hlen] at q2
  obtain ⟨b1, o1', hA1, hc1⟩ := head_cells q1' hR1
  obtain ⟨b2, o2', hA2, hc2⟩ := head_cells q2 rfl
  rw [hA1] at hA2
  simp only [Option.some.injEq, Addr.mk.injEq, and_true] at hA2
  obtain ⟨rfl, rfl⟩ := hA2
  have e1 := (hc1 w' (Below.refl _ _)).1
  have e2 := (hc2 w' (Below.refl _ _)).1
  rw [e1] at e2
  simp only [Option.some.injEq, Value.int.injEq, true_and] at e2
  exact Prod.ext hE.symm (hn'.symm.trans e2)

/-! ### a Kern alone -/
def kernN (x : Int) : Nd := { nz 8 with wd := x }
theorem kern_wd (w : World) (x : Int) (hx : dimB x = true) (hr : right (kernN x) = true) (hb : right (fitN (hN x 0 0) (0, 0, 0, 0)) = true) : wd [kernN x] = (0, x) := by
  have hc : chk [kernN x] = 0 := by
    have h : Np.run [kernN x] ([], 0) = some ([], 1) := by
      simp only [Np.run, stp, hr]
      rfl
    unfold chk
    rw [h]
    rfl
  have hi : Its [0] [kernN x] 0 := ⟨rfl, 1, rfl, rfl⟩
  have hS : partD [kernN x] = ([kernN x], []) := by
    unfold partD
    rw [itsD_of hi]
    rfl
  have ha : alD [kernN x] false 0 = x := alD_of ⟨kernN x, rfl, rfl⟩
  have ht : totD [kernN x] false [0] = ⟨x, [0, 0, 0, 0], [0, 0, 0, 0]⟩ := by
    have h : ∀ al : Nat → Int, al 0 = x → tsum [kernN x] al [0] tz = ⟨x, [0, 0, 0, 0], [0, 0, 0, 0]⟩ := by
      intro al h0
      simp only [tsum, h0]
      simp [kernN, nz, tz, tstep]
    exact h _ ha
  have he : extD [kernN x] false [0] = (0, 0) := by
    have h0 : roD [kernN x] 0 = (0, 0) := roD_of ⟨kernN x, rfl, rfl⟩
    have h : ∀ ra : Nat → Int × Int, ra 0 = (0, 0) → rfold ra [0] (0, 0) = (0, 0) := by
      intro ra h0
      simp only [rfold, h0]
      rfl
    exact h _ h0
  have hm : Msr [kernN x] false x 0 0 0 0 0 0 0 0 0 0 0 0 := by
    have h1 := fun A k w h hs => totals_any A [kernN x] k [0] false w hc h hs hi
    have hR : totR [kernN x] false [0] = ⟨x, [0, 0, 0, 0], [0, 0, 0, 0]⟩ := by
      unfold totR
      rw [ht, if_pos hx]
    have hu := fun A k w h hs => extent_good A [kernN x] k [0] false w hc h hs hi
    simp only [hR, ht, hx] at h1
    simp only [he] at hu
    exact ⟨h1, hu, fun _ => hx, fun _ => ⟨rfl, rfl, rfl, rfl, rfl, rfl, rfl, rfl⟩, fun _ => .inl rfl, fun _ => ⟨rfl, rfl⟩⟩
  have hbc : chk (wrapL (fitN (hN x 0 0) (0, 0, 0, 0)) [kernN x]) = 0 := by
    have h : Np.run (wrapL (fitN (hN x 0 0) (0, 0, 0, 0)) [kernN x]) ([], 0) = some ([], 2) := by
      simp only [wrapL, List.cons_append, List.nil_append, Np.run, stp, hr, hb, end_right]
      rfl
    unfold chk
    rw [h]
    rfl
  have hf : Gl.fit 0 0 0 0 0 0 0 0 (x - x) = (0, 0, 0, 0) := by rw [Int.sub_self]; rfl
  refine wd_of w [kernN x] (by simp) (fitN (hN x 0 0) (0, 0, 0, 0)) ([kernN x] ++ [nz 6]) [] 0 0 fun A k w hk hs => ?_
  have h := hpack_f A [kernN x] [kernN x] [] (wrapL (fitN (hN x 0 0) (0, 0, 0, 0)) [kernN x]) k 0 w hc hk hs rfl hS x 0 0 0 0 0 0 0 0 0 0 0 0 0 x hm (by omega) (fun A c' w hs => by
    rw [hf]
    exact (wrap_ok (fitN (hN x 0 0) (0, 0, 0, 0)) A [kernN x] c' w hs hb rfl (by simp [fitN, hN, nz]) hc hbc).mono (by rintro e w' ⟨v, rfl, h, hb⟩; exact ⟨v, rfl, h, hb⟩))
  have e : hpkR 0 0 (dimB x) 0 (wrapL (fitN (hN x 0 0) (0, 0, 0, 0)) [kernN x]) [] (setV (fitN (hN x 0 0) (Gl.fit 0 0 0 0 0 0 0 0 (x - x))) 0 0 (([kernN x].length : Int) == 0) (x - x) (0, 0)).1 (setV (fitN (hN x 0 0) (Gl.fit 0 0 0 0 0 0 0 0 (x - x))) 0 0 (([kernN x].length : Int) == 0) (x - x) (0, 0)).2 = (wrapL (fitN (hN x 0 0) (0, 0, 0, 0)) [kernN x], [], 0, 0, 0) := by
    rw [hf, Int.sub_self, hx]
    rfl
  rw [e] at h
  exact h
theorem kern_four (w : World) : wd [kernN 327680] = (0, 327680) ∧ wd [kernN 196608] = (0, 196608) ∧ wd [kernN 131072] = (0, 131072) ∧ wd [kernN 458752] = (0, 458752) :=
  ⟨kern_wd w _ rfl (right_s _ 8 rfl rfl rfl rfl) (right_s _ 4 rfl rfl rfl rfl), kern_wd w _ rfl (right_s _ 8 rfl rfl rfl rfl) (right_s _ 4 rfl rfl rfl rfl), kern_wd w _ rfl (right_s _ 8 rfl rfl rfl rfl) (right_s _ 4 rfl rfl rfl rfl), kern_wd w _ rfl (right_s _ 8 rfl rfl rfl rfl) (right_s _ 4 rfl rfl rfl rfl)⟩
end Go.Proofs.Ytoboecenlangmaa.Al
end
section
namespace Go.Proofs.Ytoboecenlangmaa.Al
open Go.RowKit (wrap64)
open Gl

/-- What is left of a width when the columns a .. a + k - 1 are taken away. -/
def less (f : Nat → Int) : Nat → Nat → Int → Int
  | _, 0, n => n
  | a, k + 1, n => less f (a + 1) k (wrap64 (n - f a))
/-- What a row asks of column j: of its cell that ends there. -/
def ask (f : Nat → Int) (j : Nat) : Nat → List (Int × Nat) → Option Int
  | _, [] => none
  | a, c :: r => if j < a + c.2 - 1 then none else if a + c.2 - 1 = j then some (less f a (j - a) c.1) else ask f j (a + c.2) r
def mx : Option Int → Option Int → Option Int
  | m, none => m
  | none, some n => some n
  | some m, some n => some (if m < n then n else m)
def colM (f : Nat → Int) (j : Nat) : Option Int → List (List (Int × Nat)) → Option Int
  | m, [] => m
  | m, r :: rs => colM f j (mx m (ask f j 0 r)) rs
def gz : G := ⟨0, 0, 0, 0, 0⟩
structure Co where
  w : List Int
  g : List Bool
  s : List G
def Co.f (c : Co) (i : Nat) : Int := wrap64 (c.w.getD i 0 + (c.s.getD (i + 1) gz).n)
def Co.next (rows : List (List (Int × Nat))) (c : Co) (j : Nat) : Co :=
  match colM c.f j none rows with
  | none => ⟨c.w ++ [0], c.g ++ [true], c.s.set (j + 1) gz⟩
  | some n => ⟨c.w ++ [n], c.g ++ [false], c.s⟩
def cols (rows : List (List (Int × Nat))) (ss : List G) : Nat → Co
  | 0 => ⟨[], [], ss⟩
  | j + 1 => (cols rows ss j).next rows j

theorem less_snoc (f : Nat → Int) : ∀ (k a : Nat) (n : Int), less f a (k + 1) n = wrap64 (less f a k n - f (a + k))
  | 0, a, n => rfl
  | k + 1, a, n => by
    rw [less, less_snoc f k (a + 1)]
    show _ = wrap64 (less f (a + 1) k (wrap64 (n - f a)) - f (a + (k + 1)))
    rw [show a + 1 + k = a + (k + 1) by omega]
theorem less_congr {f g : Nat → Int} : ∀ (k a : Nat) (n : Int), (∀ i, a ≤ i → i < a + k → f i = g i) → less f a k n = less g a k n
  | 0, _, _, _ => rfl
  | k + 1, a, n, h => by
    rw [less, less, h a (by omega) (by omega)]
    exact less_congr k (a + 1) _ fun i h1 h2 => h i (by omega) (by omega)
theorem ask_congr {f g : Nat → Int} {j : Nat} (h : ∀ i, i < j → f i = g i) : ∀ (r : List (Int × Nat)) (a : Nat), ask f j a r = ask g j a r
  | [], _ => rfl
  | c :: r, a => by
    unfold ask
    rw [ask_congr h r, less_congr (f := f) (g := g) (j - a) a c.1 fun i h1 h2 => h i (by omega)]
theorem colM_congr {f g : Nat → Int} {j : Nat} (h : ∀ i, i < j → f i = g i) : ∀ (rs : List (List (Int × Nat))) (m : Option Int), colM f j m rs = colM g j m rs
  | [], _ => rfl
  | r :: rs, m => by rw [colM, colM, ask_congr h, colM_congr h rs]

/-! ### the greatest -/
theorem mx_none {a b : Option Int} : mx a b = none ↔ a = none ∧ b = none := by
  cases a <;> cases b <;> simp [mx]
theorem mx_ge {a b : Option Int} {x : Int} (h : mx a b = some x) : (∀ y, a = some y → y ≤ x) ∧ ∀ y, b = some y → y ≤ x := by
  cases a <;> cases b <;> simp [mx] at h ⊢ <;> omega
theorem mx_is {a b : Option Int} {x : Int} (h : mx a b = some x) : a = some x ∨ b = some x := by
  cases a <;> cases b <;> simp [mx] at h ⊢ <;> omega
theorem colM_none {f : Nat → Int} {j : Nat} : ∀ {rs : List (List (Int × Nat))} {m : Option Int}, colM f j m rs = none ↔ m = none ∧ ∀ r ∈ rs, ask f j 0 r = none
  | [], m => by simp [colM]
  | r :: rs, m => by
    rw [colM, colM_none (rs := rs), mx_none]
    simp [and_assoc]
theorem colM_ge {f : Nat → Int} {j : Nat} {x : Int} : ∀ {rs : List (List (Int × Nat))} {m : Option Int}, colM f j m rs = some x → (∀ y, m = some y → y ≤ x) ∧ ∀ r ∈ rs, ∀ y, ask f j 0 r = some y → y ≤ x
  | [], m, h => ⟨fun y hy => by rw [colM] at h; rw [h] at hy; injection hy; omega, by simp⟩
  | r :: rs, m, h => by
    obtain ⟨h1, h2⟩ := colM_ge (rs := rs) (by simpa only [colM] using h)
    have h3 : ∀ z, mx m (ask f j 0 r) = some z → z ≤ x := h1
    have h4 : (∀ y, m = some y → y ≤ x) ∧ ∀ y, ask f j 0 r = some y → y ≤ x := by
      cases hm : mx m (ask f j 0 r) with
      | none =>
        rw [mx_none] at hm
        rw [hm.1, hm.2]
        exact ⟨by simp, by simp⟩
      | some z =>
        obtain ⟨h5, h6⟩ := mx_ge hm
        have := h3 z hm
        exact ⟨fun y hy => by have := h5 y hy; omega, fun y hy => by have := h6 y hy; omega⟩
    refine ⟨h4.1, fun r' hr => ?_⟩
    rcases List.mem_cons.1 hr with rfl | hr
    · exact h4.2
    · exact h2 r' hr
theorem colM_is {f : Nat → Int} {j : Nat} {x : Int} : ∀ {rs : List (List (Int × Nat))} {m : Option Int}, colM f j m rs = some x → m = some x ∨ ∃ r ∈ rs, ask f j 0 r = some x
  | [], m, h => .inl h
  | r :: rs, m, h => by
    rcases colM_is (rs := rs) (by simpa only [colM] using h) with h1 | ⟨r', h1, h2⟩
    · rcases mx_is h1 with h2 | h2
      · exact .inl h2
      · exact .inr ⟨r, by simp, h2⟩
    · exact .inr ⟨r', by simp [h1], h2⟩
theorem colM_same {f : Nat → Int} {j : Nat} {rs qs : List (List (Int × Nat))} (h : ∀ r, r ∈ rs ↔ r ∈ qs) : colM f j none rs = colM f j none qs := by
  cases h1 : colM f j none rs with
  | none =>
    rw [colM_none] at h1
    exact (colM_none.2 ⟨rfl, fun r hr => h1.2 r ((h r).2 hr)⟩).symm
  | some x =>
    cases h2 : colM f j none qs with
    | none =>
      rw [colM_none] at h2
      rcases colM_is h1 with h3 | ⟨r, h3, h4⟩
      · cases h3
      · rw [h2.2 r ((h r).1 h3)] at h4; cases h4
    | some y =>
      have h3 : y ≤ x := by
        rcases colM_is h2 with h3 | ⟨r, h3, h4⟩
        · cases h3
        · exact (colM_ge h1).2 r ((h r).2 h3) y h4
      have h4 : x ≤ y := by
        rcases colM_is h1 with h5 | ⟨r, h5, h6⟩
        · cases h5
        · exact (colM_ge h2).2 r ((h r).1 h5) x h6
      rw [show x = y by omega]
theorem cols_same {rs qs : List (List (Int × Nat))} (h : ∀ r, r ∈ rs ↔ r ∈ qs) (ss : List G) : ∀ j, cols rs ss j = cols qs ss j
  | 0 => rfl
  | j + 1 => by
    rw [cols, cols, cols_same h ss j]
    unfold Co.next
    rw [colM_same h]

/-! ### columns, one by one -/
section
variable (rs : List (List (Int × Nat))) (ss : List G)
theorem cols_len : ∀ j, (cols rs ss j).w.length = j ∧ (cols rs ss j).g.length = j ∧ (cols rs ss j).s.length = ss.length
  | 0 => ⟨rfl, rfl, rfl⟩
  | j + 1 => by
    obtain ⟨h1, h2, h3⟩ := cols_len j
    rw [cols]
    unfold Co.next
    split <;> simp [h1, h2, h3]
theorem cols_step (j : Nat) : (∀ i, i < j → (cols rs ss (j + 1)).w[i]? = (cols rs ss j).w[i]?) ∧ (∀ i, i < j → (cols rs ss (j + 1)).g[i]? = (cols rs ss j).g[i]?) ∧ (∀ i, i ≠ j + 1 → (cols rs ss (j + 1)).s[i]? = (cols rs ss j).s[i]?) := by
  obtain ⟨h1, h2, h3⟩ := cols_len rs ss j
  rw [cols]
  unfold Co.next
  split
  · refine ⟨fun i hi => ?_, fun i hi => ?_, fun i hi => ?_⟩
    · exact List.getElem?_append_left (by omega)
    · exact List.getElem?_append_left (by omega)
    · exact List.getElem?_set_ne (by omega)
  · exact ⟨fun i hi => List.getElem?_append_left (by omega), fun i hi => List.getElem?_append_left (by omega), fun i hi => rfl⟩
theorem cols_keep {j : Nat} : ∀ {n : Nat}, j ≤ n → (∀ i, i < j → (cols rs ss n).w[i]? = (cols rs ss j).w[i]?) ∧ (∀ i, i < j → (cols rs ss n).g[i]? = (cols rs ss j).g[i]?) ∧ (∀ i, i ≤ j → (cols rs ss n).s[i]? = (cols rs ss j).s[i]?)
  | 0, h => by
    obtain rfl : j = 0 := by omega
    exact ⟨fun _ _ => rfl, fun _ _ => rfl, fun _ _ => rfl⟩
  | n + 1, h => by
    rcases Nat.lt_or_ge n j with h1 | h1
    · obtain rfl : j = n + 1 := by omega
      exact ⟨fun _ _ => rfl, fun _ _ => rfl, fun _ _ => rfl⟩
    · obtain ⟨a, b, c⟩ := cols_keep h1
      obtain ⟨a1, b1, c1⟩ := cols_step rs ss n
      exact ⟨fun i hi => (a1 i (by omega)).trans (a i hi), fun i hi => (b1 i (by omega)).trans (b i hi), fun i hi => (c1 i (by omega)).trans (c i hi)⟩
/-- The skips behind what is already measured stay. -/
theorem cols_late (j : Nat) : ∀ i, j < i → (cols rs ss j).s[i]? = ss[i]? := by
  induction j with
  | zero => intro i _; rfl
  | succ j ih =>
    intro i hi
    rw [(cols_step rs ss j).2.2 i (by omega)]
    exact ih i (by omega)
theorem cols_f {j n : Nat} (h : j ≤ n) (i : Nat) (hi : i < j) : (cols rs ss n).f i = (cols rs ss j).f i := by
  obtain ⟨a, _, c⟩ := cols_keep rs ss h
  unfold Co.f
  rw [List.getD_eq_getElem?_getD, List.getD_eq_getElem?_getD, List.getD_eq_getElem?_getD, List.getD_eq_getElem?_getD, a i hi, c (i + 1) (by omega)]
/-- Column j, in the end. -/
theorem cols_at {j n : Nat} (h : j < n) : (cols rs ss n).w[j]? = some ((colM (cols rs ss n).f j none rs).getD 0) ∧ (cols rs ss n).g[j]? = some (colM (cols rs ss n).f j none rs).isNone := by
  obtain ⟨a, b, _⟩ := cols_keep rs ss (j := j + 1) (n := n) h
  obtain ⟨h1, h2, h3⟩ := cols_len rs ss j
  rw [a j (by omega), b j (by omega), colM_congr (f := (cols rs ss n).f) (g := (cols rs ss j).f) (fun i hi => cols_f rs ss (by omega) i hi), cols]
  unfold Co.next
  split
  · rename_i he
    rw [he]
    exact ⟨by rw [List.getElem?_append_right (by omega), h1]; simp, by rw [List.getElem?_append_right (by omega), h2]; simp⟩
  · rename_i x he
    rw [he]
    exact ⟨by rw [List.getElem?_append_right (by omega), h1]; simp, by rw [List.getElem?_append_right (by omega), h2]; simp⟩
/-- The skip behind it. -/
theorem cols_skip {j n : Nat} (h : j < n) {g : G} (hg : ss[j + 1]? = some g) : (cols rs ss n).s[j + 1]? = some (if (colM (cols rs ss n).f j none rs).isNone = true then gz else g) := by
  obtain ⟨_, _, c⟩ := cols_keep rs ss (j := j + 1) (n := n) h
  obtain ⟨h1, h2, h3⟩ := cols_len rs ss j
  have hl : j + 1 < ss.length := by
    rcases Nat.lt_or_ge (j + 1) ss.length with h4 | h4
    · exact h4
    · rw [List.getElem?_eq_none h4] at hg; cases hg
  rw [c (j + 1) (by omega), colM_congr (f := (cols rs ss n).f) (g := (cols rs ss j).f) (fun i hi => cols_f rs ss (by omega) i hi), cols]
  unfold Co.next
  split
  · rename_i he
    rw [he]
    show ((cols rs ss j).s.set (j + 1) gz)[j + 1]? = _
    rw [List.getElem?_set_self (by omega)]
    rfl
  · rename_i x he
    rw [he]
    show (cols rs ss j).s[j + 1]? = _
    rw [cols_late rs ss j (j + 1) (by omega), hg]
    rfl
end

/-! ### sums -/
def sumF (f : Nat → Int) : Nat → Nat → Int
  | _, 0 => 0
  | a, k + 1 => f a + sumF f (a + 1) k
theorem sumF_snoc (f : Nat → Int) : ∀ (k a : Nat), sumF f a (k + 1) = sumF f a k + f (a + k)
  | 0, a => by simp [sumF]
  | k + 1, a => by
    rw [sumF, sumF_snoc f k (a + 1), sumF]
    rw [show a + 1 + k = a + (k + 1) by omega]
    omega
theorem sumF_bd {f : Nat → Int} {B : Int} : ∀ (k a : Nat), (∀ i, a ≤ i → i < a + k → -B ≤ f i ∧ f i ≤ B) → -(k * B) ≤ sumF f a k ∧ sumF f a k ≤ k * B
  | 0, a, _ => by simp [sumF]
  | k + 1, a, h => by
    have h1 := sumF_bd k (a + 1) fun i h1 h2 => h i (by omega) (by omega)
    have h2 := h a (by omega) (by omega)
    rw [sumF, Int.natCast_add, Int.add_mul]
    omega
theorem less_sum {f : Nat → Int} {n : Int} (hn : -4294967296 ≤ n ∧ n ≤ 4294967296) (a : Nat) : ∀ (k : Nat), k ≤ 1000 → (∀ i, a ≤ i → i < a + k → -4294967296 ≤ f i ∧ f i ≤ 4294967296) → less f a k n = n - sumF f a k
  | 0, _, _ => by simp [less, sumF]
  | k + 1, hk, h => by
    have h1 := less_sum hn a k (by omega) fun i h1 h2 => h i h1 (by omega)
    have h2 := sumF_bd (B := 4294967296) k a fun i h1 h2 => h i h1 (by omega)
    have h3 := h (a + k) (by omega) (by omega)
    rw [less_snoc, h1, sumF_snoc]
    unfold wrap64
    omega

/-! ### a row's cells -/
/-- Where cell k begins. -/
def pos : List (Int × Nat) → Nat → Nat
  | _, 0 => 0
  | [], _ => 0
  | c :: r, k + 1 => c.2 + pos r k
theorem ask_get {f : Nat → Int} {j : Nat} : ∀ {r : List (Int × Nat)} {k : Nat} {c : Int × Nat} (a : Nat), (∀ x ∈ r, 1 ≤ x.2) → r[k]? = some c → a + pos r k + c.2 - 1 = j → ask f j a r = some (less f (a + pos r k) (c.2 - 1) c.1)
  | [], k, c, a, _, h, _ => by simp at h
  | x :: r, 0, c, a, h1, h, hj => by
    simp at h
    subst h
    have := h1 x (by simp)
    simp only [pos, Nat.add_zero] at hj ⊢
    rw [ask, if_neg (by omega), if_pos hj]
    rw [show j - a = x.2 - 1 by omega]
  | x :: r, k + 1, c, a, h1, h, hj => by
    have h2 := h1 x (by simp)
    have h3 := h1 c (by simpa using List.mem_cons_of_mem _ (List.mem_of_getElem? (by simpa using h)))
    simp only [pos] at hj ⊢
    have ih := ask_get (f := f) (j := j) (r := r) (k := k) (c := c) (a + x.2) (fun y hy => h1 y (by simp [hy])) (by simpa using h) (by omega)
    rw [ask, if_neg (by omega), if_neg (by omega), ih]
    rw [show a + x.2 + pos r k = a + (x.2 + pos r k) by omega]
theorem ask_some {f : Nat → Int} {j : Nat} {y : Int} : ∀ {r : List (Int × Nat)} (a : Nat), (∀ x ∈ r, 1 ≤ x.2) → ask f j a r = some y → ∃ k c, r[k]? = some c ∧ a + pos r k + c.2 - 1 = j ∧ y = less f (a + pos r k) (c.2 - 1) c.1
  | [], a, _, h => by simp [ask] at h
  | x :: r, a, h1, h => by
    have h2 := h1 x (by simp)
    rw [ask] at h
    split at h
    · cases h
    · split at h
      · rename_i h3
        injection h with h
        refine ⟨0, x, rfl, by simpa [pos] using h3, ?_⟩
        rw [← h]
        simp only [pos, Nat.add_zero]
        rw [show j - a = x.2 - 1 by omega]
      · obtain ⟨k, c, h3, h4, h5⟩ := ask_some (a + x.2) (fun y hy => h1 y (by simp [hy])) h
        refine ⟨k + 1, c, by simpa using h3, by simp only [pos]; omega, ?_⟩
        rw [h5]
        simp only [pos]
        rw [show a + x.2 + pos r k = a + (x.2 + pos r k) by omega]
end Go.Proofs.Ytoboecenlangmaa.Al
end
section
namespace Go.Proofs.Ytoboecenlangmaa.Al
open Np
open Gl (G)
open Go.RowKit (wrap64)
set_option linter.unusedVariables false

abbrev RD := List (List Nd × Int) × List Nd
noncomputable def celE (cols : Int) : Int → List (List Nd × Int) → Int
  | _, [] => 0
  | a, c :: r => if c.2 < 1 ∨ cols - a < c.2 then 220 else if (wd c.1).1 = 0 then celE cols (a + c.2) r else (wd c.1).1
noncomputable def rowErr (cols : Int) (r : RD) : Int := if celE cols 0 r.1 = 0 then chk r.2 else celE cols 0 r.1
noncomputable def rowsE (cols : Int) : List RD → Int
  | [] => 0
  | r :: rs => if rowErr cols r = 0 then rowsE cols rs else rowErr cols r
noncomputable def ckE (ss : List G) (rs : List RD) : Int :=
  if ss.length < 2 ∨ 257 < ss.length ∨ 2000 < rs.length then 220 else if ss.all G.ok = true then rowsE ((ss.length : Int) - 1) rs else 30
noncomputable def wids (r : RD) : List Int := r.1.map fun c => (wd c.1).2
noncomputable def cel (r : RD) : List (Int × Nat) := r.1.map fun c => ((wd c.1).2, c.2.toNat)
/-- Where cell k begins. -/
def posI : List (List Nd × Int) → Nat → Int
  | _, 0 => 0
  | [], _ => 0
  | c :: r, k + 1 => c.2 + posI r k

theorem posI_succ : ∀ {r : List (List Nd × Int)} {k : Nat} {c : List Nd × Int}, r[k]? = some c → posI r (k + 1) = posI r k + c.2
  | [], k, c, h => by simp at h
  | x :: r, 0, c, h => by
    simp at h
    subst h
    simp [posI]
  | x :: r, k + 1, c, h => by
    rw [posI, posI_succ (r := r) (k := k) (c := c) (by simpa using h), posI]
    omega
theorem celE_drop {cols : Int} {r : List (List Nd × Int)} {k : Nat} {c : List Nd × Int} (hk : r[k]? = some c) (a : Int) : celE cols a (r.drop k) = if c.2 < 1 ∨ cols - a < c.2 then 220 else if (wd c.1).1 = 0 then celE cols (a + c.2) (r.drop (k + 1)) else (wd c.1).1 := by
  have hlt : k < r.length := by
    rcases Nat.lt_or_ge k r.length with h | h
    · exact h
    · rw [List.getElem?_eq_none h] at hk; cases hk
  rw [List.drop_eq_getElem_cons hlt]
  rw [List.getElem?_eq_getElem hlt] at hk
  injection hk with hk
  rw [hk]
  rfl
theorem rowsE_take {cols : Int} : ∀ {rs : List RD} {i : Nat} {r : RD}, rs[i]? = some r → (∀ q ∈ rs.take i, rowErr cols q = 0) → ¬ rowErr cols r = 0 → rowsE cols rs = rowErr cols r
  | [], i, r, h, _, _ => by simp at h
  | x :: rs, 0, r, h, _, hr => by
    simp at h
    subst h
    rw [rowsE, if_neg hr]
  | x :: rs, i + 1, r, h, ha, hr => by
    rw [rowsE, if_pos (ha x (by simp))]
    exact rowsE_take (i := i) (by simpa using h) (fun q hq => ha q (by simp [hq])) hr
theorem rowsE_zero {cols : Int} : ∀ {rs : List RD}, (∀ q ∈ rs, rowErr cols q = 0) → rowsE cols rs = 0
  | [], _ => rfl
  | x :: rs, h => by
    rw [rowsE, if_pos (h x (by simp))]
    exact rowsE_zero fun q hq => h q (by simp [hq])
theorem rowsE_all {cols : Int} : ∀ {rs : List RD}, rowsE cols rs = 0 → ∀ q ∈ rs, rowErr cols q = 0
  | [], _, q, hq => by simp at hq
  | x :: rs, h, q, hq => by
    rw [rowsE] at h
    split at h
    · rename_i h0
      rcases List.mem_cons.1 hq with rfl | hq
      · exact h0
      · exact rowsE_all h q hq
    · rename_i h0
      exact absurd h h0
/-- A row that is good. -/
theorem celE_good {cols : Int} : ∀ {r : List (List Nd × Int)} {a : Int}, a ≤ cols → celE cols a r = 0 → (∀ c ∈ r, 1 ≤ c.2 ∧ (wd c.1).1 = 0) ∧ ∀ k, a + posI r k ≤ cols
  | [], a, ha, _ => ⟨by simp, fun k => by cases k <;> simp [posI, ha]⟩
  | c :: r, a, ha, h => by
    rw [celE] at h
    split at h
    · cases h
    · rename_i h1
      split at h
      · rename_i h2
        obtain ⟨h3, h4⟩ := celE_good (a := a + c.2) (by omega) h
        refine ⟨fun x hx => ?_, fun k => ?_⟩
        · rcases List.mem_cons.1 hx with rfl | hx
          · exact ⟨by omega, h2⟩
          · exact h3 x hx
        · cases k with
          | zero => simp [posI, ha]
          | succ k => have := h4 k; rw [posI]; omega
      · rename_i h2
        exact absurd h h2
theorem cel_pos : ∀ {r : List (List Nd × Int)} {ex : List Nd} {k : Nat}, (∀ c ∈ r, 1 ≤ c.2) → ((pos (cel (r, ex)) k : Nat) : Int) = posI r k
  | [], ex, k, _ => by cases k <;> rfl
  | c :: r, ex, 0, _ => rfl
  | c :: r, ex, k + 1, h => by
    have h1 := h c (by simp)
    have ih := cel_pos (r := r) (ex := ex) (k := k) fun x hx => h x (by simp [hx])
    show ((c.2.toNat + pos (cel (r, ex)) k : Nat) : Int) = c.2 + posI r k
    rw [Int.natCast_add, ih]
    omega
end Go.Proofs.Ytoboecenlangmaa.Al
end
section
namespace Go.Proofs.Ytoboecenlangmaa.Al
open Go.ChangeShapes Go.WideShapes Go.ChangeAt Go.RowKit
open Me Np No
open Gl (G Row)
set_option linter.unusedVariables false
set_option linter.unusedSimpArgs false

structure Ir where
  (A : Option Addr) (c : Nat) (xs : List Int)
def Ir.vals (x : Ir) : List Value := [.slice x.A x.xs.length x.c]
theorem Ir.vals_length (x : Ir) : x.vals.length = 1 := rfl
def intV (x : Int) : Value := .int .i64 x
structure IrsOk (w : World) (S : Nat → Prop) (A : Option Addr) (irs : List Ir) : Prop where
  seg : SegS w S A (irs.flatMap Ir.vals)
  rows : ∀ x ∈ irs, SegS w S x.A (x.xs.map intV)
def CkOut (ss : List G) (ds : List RD) (w : World) (e : Ending) (w' : World) : Prop :=
  ∃ v, e = .returned (.tuple #[v, .int .i64 (ckE ss ds)]) ∧ Below w.heap.size w w' ∧ (ckE ss ds = 0 → ∃ A c irs, v = .slice A irs.length c ∧ IrsOk w' (fun _ => True) A irs ∧ irs.map Ir.xs = ds.map wids)
theorem CkOut.no {ss : List G} {ds : List RD} {w w' : World} {E : Int} (h : ckE ss ds = E) (h0 : ¬ E = 0) (hb : Below w.heap.size w w') : CkOut ss ds w (.returned (.tuple #[.slice none 0 0, .int .i64 E])) w' :=
  ⟨_, by rw [h], hb, fun e => absurd (h ▸ e) h0⟩
theorem CkOut.yes {ss : List G} {ds : List RD} {w w' : World} {v : Value} (h : ckE ss ds = 0) (hb : Below w.heap.size w w') (hi : ∃ A c irs, v = .slice A irs.length c ∧ IrsOk w' (fun _ => True) A irs ∧ irs.map Ir.xs = ds.map wids) : CkOut ss ds w (.returned (.tuple #[v, .int .i64 0])) w' :=
  ⟨_, by rw [h], hb, fun _ => hi⟩

theorem check_size (A : Option Addr) (ss : List G) (c : Nat) (B : Option Addr) (rs : List Rw) (k : Nat) (w : World) (h63 : ss.length ≤ maxLen) (hr63 : rs.length ≤ maxLen) (h : ss.length < 2 ∨ 257 < ss.length ∨ 2000 < rs.length) :
    Calls Try.prog 68 #[.slice A ss.length c, .slice B rs.length k] w (CkOut ss (rs.map Rw.d) w) := by
  have hE : ckE ss (rs.map Rw.d) = 220 := by unfold ckE; rw [if_pos (by simpa using h)]
  have HE := Lib.hid hE
  clear hE
  unfold maxLen at h63 hr63
  by_cases h1 : (ss.length : Int) < 2
  · clear h
    go_enter Try.func68, Try.ntmps68
    go_wp2_with fail
    go_returns
    exact CkOut.no HE.out (by decide) (Below.refl _ _)
  · by_cases h2 : (257 : Int) < ss.length
    · clear h
      go_enter Try.func68, Try.ntmps68
      go_wp2_with fail
      go_returns
      exact CkOut.no HE.out (by decide) (Below.refl _ _)
    · have h3 : (2000 : Int) < rs.length := by omega
      clear h
      go_enter Try.func68, Try.ntmps68
      go_wp2_with fail
      go_returns
      exact CkOut.no HE.out (by decide) (Below.refl _ _)
end Go.Proofs.Ytoboecenlangmaa.Al
end
section
namespace Go.Proofs.Ytoboecenlangmaa.Al
open Go.ChangeShapes Go.WideShapes Go.ChangeAt Go.RowKit
open Me Np No
open Gl (G Row)
set_option linter.unusedVariables false
set_option linter.unusedSimpArgs false

theorem info_i : (Try.prog.info? 3).map (fun i => (i.zero, i.size, i.bytes)) = some (some (.int .i64 0), 1, 8) := by kernel_rfl
theorem info_is : (Try.prog.info? 26).map (fun i => (i.zero, i.size, i.bytes)) = some (some (.slice none 0 0), 1, 24) := by kernel_rfl
theorem make_none (n : Nat) (hn : n ≤ 4398046511103) (u : World) : (Instr.makeSlice 26 (.int .i64 0) (.int .i64 (n : Int))).run Try.prog u = .ok (.slice (some ⟨u.heap.size, 0, none⟩) 0 n) (u.alloc (.cells (madeCells #[.int .i64 0] n) 3)) := by
  obtain ⟨i, hi, hz, hsi, hbi⟩ := info_parts info_i
  have h := run_make (P := Try.prog) u 26 3 i (.int .i64 0) Try.underlying26 hi hz .i64 .i64 0 (n : Int) (Int.le_refl _) (by omega) (by rw [hbi]; omega) (by omega)
  simpa [hsi, Value.cells] using h
structure CI (w : World) (rs : List Rw) (cols : Int) (i : Nat) (v : Value) (done : List Ir) (wr : World) : Prop where
  own : wr.ownsRow w.heap.size 26 1 v i (done.flatMap Ir.vals)
  dat : done.map Ir.xs = (rs.take i).map fun r => wids r.d
  ok : ∀ x ∈ done, SegS wr (fun b => w.heap.size ≤ b ∧ v.ownBlock ≠ some b) x.A (x.xs.map intV)
  err : ∀ q ∈ (rs.map Rw.d).take i, rowErr cols q = 0
  low : Below w.heap.size w wr
structure CJ (W0 : World) (r : Rw) (cols : Int) (k : Nat) (a : Int) (v : Value) (wr : World) : Prop where
  blk : Blk wr W0.heap.size 36 #[.slice r.A r.cs.length r.c, .slice r.E r.ex.length r.k]
  own : wr.ownsRow (W0.heap.size + 1) 3 1 v k (((wids r.d).take k).map intV)
  err : celE cols 0 r.d.1 = celE cols a (r.d.1.drop k)
  a0 : 0 ≤ a
  a1 : a ≤ cols
  low : Below W0.heap.size W0 wr
theorem CJ.next {W0 wr w5 W8 : World} {r : Rw} {cols a : Int} {k : Nat} {v v' : Value} {x : Cl} (h : CJ W0 r cols k a v wr) (hx : r.cs[k]? = some x) (hb : Below wr.heap.size wr w5) (h1 : ¬ x.sp < 1) (h2 : ¬ cols - a < x.sp) (hE : (wd x.l).1 = 0)
    (hown : W8.ownsRow (W0.heap.size + 1) 3 1 v' (k + 1) (((wids r.d).take k).map intV ++ [.int .i64 (wd x.l).2])) (hg : (w5.alloc (.cells #[.int .i64 (wd x.l).2] 3)).grownBy W8 v.ownBlock) : CJ W0 r cols (k + 1) (a + x.sp) v' W8 := by
  have hl := h.blk.lt
  have hs := hb.size
  have hd : r.d.1[k]? = some x.d := by show (r.cs.map Cl.d)[k]? = _; rw [List.getElem?_map, hx]; rfl
  have hw : (wids r.d)[k]? = some (wd x.l).2 := by unfold wids; rw [List.getElem?_map, hd]; rfl
  refine ⟨?_, ?_, ?_, by have := h.a0; omega, by omega, ?_⟩
  · exact (hg.block _ (by simp; omega) (fun e => by have := (h.own.lt _ e.symm).1; omega)).trans ((Blk.below h.blk hb hl).alloc _)
  · rw [List.take_add_one, hw, List.map_append]
    exact hown
  · rw [h.err, celE_drop hd, if_neg (by show ¬ (x.sp < 1 ∨ cols - a < x.sp); omega)]
    exact if_pos hE
  · exact below_grown (Nat.le_refl _) (andAlloc (andThen h.low hb) _) hg fun q hq => by have := (h.own.lt q hq).1; omega
/-- A row that is not good. -/
theorem ck_bad {w W0 : World} {ss : List G} {rs : List Rw} {cols E : Int} {i : Nat} {v : Value} {done : List Ir} {r : Rw} (h : CI w rs cols i v done W0) (hr : rs[i]? = some r) (hck : ckE ss (rs.map Rw.d) = rowsE cols (rs.map Rw.d)) (hE : rowErr cols r.d = E) (h0 : ¬ E = 0) : ckE ss (rs.map Rw.d) = E := by
  rw [hck, rowsE_take (i := i) (r := r.d) (by rw [List.getElem?_map, hr]; rfl) h.err (by rw [hE]; exact h0), hE]
/-- .. at its cell k. -/
theorem CJ.bad {W0 wr : World} {r : Rw} {cols a E : Int} {k : Nat} {v : Value} {x : Cl} (h : CJ W0 r cols k a v wr) (hx : r.cs[k]? = some x) (h0 : ¬ E = 0) (hE : (if x.sp < 1 ∨ cols - a < x.sp then 220 else (wd x.l).1) = E) : rowErr cols r.d = E := by
  have hd : r.d.1[k]? = some x.d := by show (r.cs.map Cl.d)[k]? = _; rw [List.getElem?_map, hx]; rfl
  have h1 : celE cols 0 r.d.1 = E := by
    rw [h.err, celE_drop hd]
    show (if x.sp < 1 ∨ cols - a < x.sp then 220 else if (wd x.l).1 = 0 then celE cols (a + x.sp) (r.d.1.drop (k + 1)) else (wd x.l).1) = E
    by_cases h2 : x.sp < 1 ∨ cols - a < x.sp
    · rw [if_pos h2] at hE ⊢
      exact hE
    · rw [if_neg h2] at hE ⊢
      rw [if_neg (by rw [hE]; exact h0), hE]
  unfold rowErr
  rw [h1, if_neg h0]
theorem CJ.good {W0 wr : World} {r : Rw} {cols a : Int} {v : Value} (h : CJ W0 r cols r.cs.length a v wr) : rowErr cols r.d = chk r.ex := by
  have h1 : celE cols 0 r.d.1 = 0 := by
    rw [h.err, List.drop_of_length_le (by show (r.cs.map Cl.d).length ≤ _; simp)]
    rfl
  unfold rowErr
  rw [if_pos h1]
  rfl

theorem take_map2 {α β γ : Type} {f : α → γ} {g : β → γ} {l : List α} {k : Nat} {x : α} {dn : List β} {y : β} (h : dn.map g = (l.take k).map f) (hx : l[k]? = some x) (hy : g y = f x) : (dn ++ [y]).map g = (l.take (k + 1)).map f := by
  rw [List.map_append, h, List.take_add_one, hx, List.map_append]
  simp [hy]
theorem CI.next {w W0 wr w5 W9 : World} {rs : List Rw} {cols a : Int} {i : Nat} {v v' : Value} {done : List Ir} {r : Rw} {A9 : Option Addr} {c9 : Nat} (h : CI w rs cols i v done W0) (hr : rs[i]? = some r) (hJ : CJ W0 r cols r.cs.length a (.slice A9 r.cs.length c9) wr) (he : rowErr cols r.d = 0) (hb : Below wr.heap.size wr w5)
    (hown : W9.ownsRow w.heap.size 26 1 v' (i + 1) (done.flatMap Ir.vals ++ [.slice A9 r.cs.length r.cs.length])) (hg : (w5.alloc (.cells #[.slice A9 r.cs.length r.cs.length] 26)).grownBy W9 v.ownBlock)
    (hv : v'.ownBlock = v.ownBlock ∨ ∃ q, v'.ownBlock = some q ∧ (w5.alloc (.cells #[.slice A9 r.cs.length r.cs.length] 26)).heap.size ≤ q) : CI w rs cols (i + 1) v' (done ++ [⟨A9, r.cs.length, wids r.d⟩]) W9 := by
  have hs := hb.size
  have hs0 := hJ.low.size
  have hlw := h.low.size
  have hwl : (wids r.d).length = r.cs.length := by show ((r.cs.map Cl.d).map _).length = _; simp
  have hvl : ∀ q, v.ownBlock = some q → w.heap.size ≤ q ∧ q < W0.heap.size := fun q hq => h.own.lt q hq
  have hv8 : ∀ b, v'.ownBlock = some b → v.ownBlock = some b ∨ w5.heap.size < b := fun b hb => by
    rcases hv with hv | ⟨q, hv, hq⟩
    · exact .inl (hv ▸ hb)
    · rw [hv] at hb
      injection hb with hb
      simp at hq
      exact .inr (by omega)
  refine ⟨by simpa [List.flatMap_append, Ir.vals, hwl] using hown, take_map2 h.dat hr rfl, ?_, ?_, below_grown (Nat.le_refl _) (andAlloc (andThen (andThen h.low hJ.low) hb) _) hg fun q hq => (hvl q hq).1⟩
  · intro y hy
    rcases List.mem_append.1 hy with hy | hy
    · have h1 := (h.ok y hy).mono (S' := fun b => (w.heap.size ≤ b ∧ v.ownBlock ≠ some b) ∧ b < W0.heap.size) fun b hb hs => ⟨hs, hb⟩
      have k1 : Kp (fun b => (w.heap.size ≤ b ∧ v.ownBlock ≠ some b) ∧ b < W0.heap.size) W0 W9 :=
        (((Kp.below _ hJ.low).trans (Kp.below _ hb)).trans (Kp.alloc _ _ _)).trans (Kp.grown hg fun b _ hs e => hs.1.2 e.symm)
      refine (h1.keep k1).mono fun b _ hs => ⟨hs.1.1, fun e => ?_⟩
      rcases hv8 b e with h2 | h2
      · exact hs.1.2 h2
      · have := hs.2; omega
    · obtain rfl := List.mem_singleton.1 hy
      obtain ⟨A1, c1, e1, _, _, _, h4⟩ := SegS.own (S := fun b => W0.heap.size < b) hJ.own (fun b hb => (hJ.own.lt b hb).1)
      injection e1 with e1 _ e2
      subst e1 e2
      rw [List.take_of_length_le (by rw [hwl]; exact Nat.le_refl _)] at h4
      have h1 := h4.mono (S' := fun b => W0.heap.size < b ∧ b < wr.heap.size) fun b hb hs => ⟨hs, hb⟩
      have k1 : Kp (fun b => W0.heap.size < b ∧ b < wr.heap.size) wr W9 := ((Kp.below _ hb).trans (Kp.alloc _ _ _)).trans (Kp.grown hg fun b _ hs e => by have := hvl b e.symm; omega)
      refine (h1.keep k1).mono fun b _ hs => ⟨by omega, fun e => ?_⟩
      rcases hv8 b e with h2 | h2
      · have := hvl b h2; omega
      · omega
  · intro q hq
    rw [List.take_add_one, List.getElem?_map, hr] at hq
    rcases List.mem_append.1 hq with hq | hq
    · exact h.err q hq
    · simp at hq
      subst hq
      exact he

set_option maxHeartbeats 4000000 in
set_option maxRecDepth 100000 in
theorem check_go (A : Option Addr) (ss : List G) (c : Nat) (B : Option Addr) (rs : List Rw) (kk : Nat) (w : World) (hS : Row w A ss) (hR : RsOk w (fun _ => True) B kk rs) (h2 : 2 ≤ ss.length) (h257 : ss.length ≤ 257) (h2000 : rs.length ≤ 2000) :
    Calls Try.prog 68 #[.slice A ss.length c, .slice B rs.length kk] w (CkOut ss (rs.map Rw.d) w) := by
  have hE : ckE ss (rs.map Rw.d) = if ss.all G.ok = true then rowsE ((ss.length : Int) - 1) (rs.map Rw.d) else 30 := by unfold ckE; rw [if_neg (by simp; omega)]
  have HE := Lib.hid hE
  have HS := Lib.hid hS
  have HR := Lib.hid hR
  clear hE hS hR
  have t1 : ¬ (ss.length : Int) < 2 := by omega
  have t2 : ¬ (257 : Int) < ss.length := by omega
  have t3 : ¬ (2000 : Int) < rs.length := by omega
  generalize hn : ss.length = n at *
  have HN := Lib.hid hn
  clear hn
  generalize hm : rs.length = m at *
  have HM := Lib.hid hm
  clear hm
  go_enter Try.func68, Try.ntmps68
  go_wp2_with fail
  go_loopw [37] (fun v37 wr => ∃ i : Nat, i ≤ n ∧ v37 = .int .i64 (i : Int) ∧ (ss.take i).all G.ok = true ∧ Below w.heap.size w wr) (fun v37 _ => n - (intOf v37).toNat)
  case atStart => exact ⟨0, by omega, rfl, by simp, Below.refl _ _⟩
  case round =>
    obtain ⟨i, hi, rfl, hall, hb⟩ := hrel
    have HA := Lib.hid hall
    have HB := Lib.hid hb
    clear hall
    by_cases hlt : i < n
    · obtain ⟨g, hg⟩ := get_some (l := ss) (i := i) (by rw [HN.out]; exact hlt)
      obtain ⟨b, off, rfl, c0, c1, c2, c3, c4⟩ := HS.out.cells hb hg
      have hsz := hb.size
      have HG := Lib.hid hg
      clear hb hg
      cases hok : g.ok
      · have H30 := Lib.hid (show Gl.chk g.n g.s g.h g.a g.b = 30 by have := G.chk_bad hok; unfold G.chk at this; exact this)
        have HC' := Lib.hid (show ckE ss (rs.map Rw.d) = 30 by
          rw [HE.out, if_neg]
          intro h
          have h1 := List.all_eq_true.1 h g (List.mem_of_getElem? HG.out)
          rw [hok] at h1
          cases h1)
        clear hok
        go_wp2_with (go_at_call 103; refine (Gl.check_any _ _ _ _ _ _).mono ?_; rintro e w' ⟨rfl, rfl⟩; rw [H30.out])
        go_returns
        exact CkOut.no HC'.out (by decide) (andAlloc (andAlloc HB.out _) _)
      · have H0 := Lib.hid (show Gl.chk g.n g.s g.h g.a g.b = 0 by have := G.chk_ok hok; unfold G.chk at this; exact this)
        have HOK := Lib.hid hok
        clear hok
        go_wp2_with (go_at_call 103; refine (Gl.check_any _ _ _ _ _ _).mono ?_; rintro e w' ⟨rfl, rfl⟩; rw [H0.out])
        go_roundw
        case rel => exact ⟨i + 1, by omega, by go_num, by rw [List.take_add_one, HG.out, List.all_append, HA.out]; simp [HOK.out], andAlloc (andAlloc HB.out _) _⟩
        case measure => simp [intOf]; omega
    · obtain rfl : i = n := by omega
      have HE2 := Lib.hid (show ckE ss (rs.map Rw.d) = rowsE ((i : Int) - 1) (rs.map Rw.d) by rw [HE.out, if_pos]; have := HA.out; rwa [List.take_of_length_le (by rw [HN.out]; exact Nat.le_refl _)] at this)
      obtain ⟨n, rfl⟩ : ∃ z, z = i := ⟨_, rfl⟩
      clear HA HE hi hlt hb
      go_wp2_with fail
      go_loopw [9, 49] (fun v9 v49 wr => ∃ (i : Nat) (done : List Ir), i ≤ m ∧ v49 = .int .i64 (i : Int) ∧ CI w rs ((n : Int) - 1) i v9 done wr) (fun _ v49 _ => m - (intOf v49).toNat)
      case atStart => exact ⟨0, [], by omega, rfl, ⟨World.ownsRow_nil _ _ _ _, rfl, by simp, by simp, HB.out⟩⟩
      case round =>
        obtain ⟨i, done, hi, rfl, hI⟩ := hrel
        have HI := Lib.hid hI
        obtain ⟨W0, rfl⟩ : ∃ W, W = wr := ⟨_, rfl⟩
        by_cases hlt : i < m
        · obtain ⟨r, hr⟩ := get_some (l := rs) (i := i) (by rw [HM.out]; exact hlt)
          have hw := HR.out.below hI.low
          obtain ⟨b, off, rfl, hb, hc0, hc1⟩ := hw.row hr
          have HRO := Lib.hid (hw.get hr)
          have HRK := Lib.hid hr
          have hrl := HRO.out.len
          have hmk := make_none r.cs.length hrl
          clear hI hw hr
          go_upto_region 16 with fail
          have hJ0 : CJ W0 r ((n : Int) - 1) 0 0 (.slice (some ⟨W0.heap.size + 1, 0, none⟩) 0 r.cs.length) ((W0.alloc (.cells #[.slice r.A r.cs.length r.c, .slice r.E r.ex.length r.k] 36)).alloc (.cells (madeCells #[.int .i64 0] r.cs.length) 3)) :=
            ⟨(Blk.new _ _ _).alloc _, by simpa using World.ownsRow_made (base := W0.heap.size + 1) (e := 3) (size := 1) (W0.alloc (.cells #[.slice r.A r.cs.length r.c, .slice r.E r.ex.length r.k] 36)) (madeCells #[.int .i64 0] r.cs.length) r.cs.length (by simp) (by simp [maxLen]; omega) (by rw [size_madeCells, Nat.mul_one]), rfl, by omega, by omega, andAlloc (andAlloc (Below.refl _ _) _) _⟩
          have HJ0 := Lib.hid hJ0
          have hg0 := hJ0.blk.cell 0
          have hg1 := hJ0.blk.cell 1
          have hgl := hJ0.blk.lt
          clear hJ0 hmk
          generalize (W0.alloc (.cells #[.slice r.A r.cs.length r.c, .slice r.E r.ex.length r.k] 36)).alloc (.cells (madeCells #[.int .i64 0] r.cs.length) 3) = W2 at *
          have hg0' : W2.cell? ⟨W0.heap.size, 0, none⟩ = some (.slice r.A r.cs.length r.c) := hg0.trans rfl
          clear hg0 hg1
          go_wp2_with fail
          clear hg0'
          go_loopw [12, 13, 60] (fun v12 v13 v60 wr => ∃ (k : Nat) (a : Int), k ≤ r.cs.length ∧ v60 = .int .i64 (k : Int) ∧ v12 = .int .i64 a ∧ CJ W0 r ((n : Int) - 1) k a v13 wr) (fun _ _ v60 _ => r.cs.length - (intOf v60).toNat)
          case atStart => exact ⟨0, 0, by omega, rfl, rfl, HJ0.out⟩
          case round =>
            obtain ⟨k, a, hk, rfl, rfl, hC⟩ := hrel
            have HC := Lib.hid hC
            have ha0 := hC.a0
            have ha1 := hC.a1
            by_cases hlt2 : k < r.cs.length
            · obtain ⟨x, hx⟩ := get_some hlt2
              have hro := HRO.out.keep (Kp.below _ hC.low)
              obtain ⟨b2, off2, hA2, hb2, hx0, hx1⟩ := hro.cell hx
              have HXO := Lib.hid (hro.get hx)
              have HXK := Lib.hid hx
              have hkl : (k : Int) < (r.cs.length : Int) := by omega
              have hxl := HXO.out.len
              rw [hA2]
              clear hro hx hC
              by_cases q1 : x.sp < 1
              · have HBAD := Lib.hid (ck_bad HI.out HRK.out HE2.out (CJ.bad (E := 220) HC.out HXK.out (by decide) (if_pos (.inl q1))) (by decide))
                go_wp2_with fail
                go_returns
                exact CkOut.no HBAD.out (by decide) (andAlloc (andThen HI.out.low HC.out.low) _)
              · have hw1 : IntKind.i64.wrap ((n : Int) - 1) = (n : Int) - 1 := IntWalk.i64_in _ (by omega)
                have hw2 : IntKind.i64.wrap ((n : Int) - 1 - a) = (n : Int) - 1 - a := IntWalk.i64_in _ (by omega)
                by_cases q2 : (n : Int) - 1 - a < x.sp
                · have HBAD := Lib.hid (ck_bad HI.out HRK.out HE2.out (CJ.bad (E := 220) HC.out HXK.out (by decide) (if_pos (.inr q2))) (by decide))
                  go_wp2_with fail
                  go_returns
                  exact CkOut.no HBAD.out (by decide) (andAlloc (andThen HI.out.low HC.out.low) _)
                · have hw3 : IntKind.i64.wrap (a + x.sp) = a + x.sp := IntWalk.i64_in _ (by omega)
                  obtain ⟨hdim, ⟨Lb, Lo, bad, ov, E⟩, hRE, hl1, hl2, hgd, hbd, hcall⟩ := wd_is x.l (by omega)
                  simp only at hRE hl1 hl2 hgd hbd
                  have HCALL := Lib.hid (fun (w' : World) (hb : Below wr.heap.size wr w') => hcall x.A x.c w' HXO.out.cap (Seg.belowW HXO.out.seg.seg hb))
                  have HRE := Lib.hid hRE
                  clear hcall hRE
                  by_cases q3 : E = 0
                  · have q4 : (E != 0) = false := by simp [q3]
                    obtain ⟨n0, r0, hLb, hn0⟩ := hgd (by rw [← HRE.out]; exact q3)
                    have hla : 0 < Lb.length := by rw [hLb]; simp
                    have hlb : (0 : Int) < (Lb.length : Int) := by omega
                    have HLB := Lib.hid (And.intro hLb hn0)
                    clear hLb hn0 hgd hbd hdim
                    go_wp2_with fail
                    refine (HCALL.out _ (andAlloc (Below.refl _ _) _)).mono ?_
                    rintro e w5 ⟨vb, vo, rfl, oao, hb5⟩
                    obtain ⟨Ab, xb, f0, hxb⟩ := Pk.val_own oao.one
                    obtain ⟨Ao, xo, f1, _⟩ := Pk.val_own oao.two
                    simp only at f0 f1
                    subst f0 f1
                    obtain ⟨b1, o1, rfl, hce⟩ := Pk.head_cells oao.one HLB.out.1
                    have hcw := (hce w5 (Below.refl _ _)).1
                    rw [HLB.out.2] at hcw
                    have HB5 := Lib.hid (andThen (andAlloc (Below.refl wr.heap.size wr) (.cells #[.slice x.A x.l.length x.c, .int .i64 x.sp] 38)) hb5)
                    have hown := Lib.hid (own_below HC.out.own (andAlloc HB5.out (.cells #[.int .i64 (wd x.l).2] 3)))
                    have hl8 : (k + 1) * 8 ≤ 140737488355328 := by omega
                    have hz5 := HB5.out.size
                    have hzr := HC.out.blk.lt
                    clear oao hb5 hce HLB hxb
                    simp only
                    go_wp2_with (at_builtin; refine wpList_push2 rfl (.tmp 93) (.tmp 98) 26 rfl (W0.heap.size + 1) 3 (.int .i64 0) 1 8 Try.underlying26 info_i rfl (by decide) (by decide) u13 k (((wids r.d).take k).map intV) rfl hown.out (by simp; omega) ⟨w5.heap.size, 0, none⟩ 1 [.int .i64 (wd x.l).2] rfl rfl (new_cells (Blk.new _ _ _)) (by simp [Value.oneCell']) hl8 ?_; intro v8 W8 hown8 hg8 _)
                    have HNX := Lib.hid (CJ.next HC.out HXK.out HB5.out (by omega) (by omega) (by rw [← HRE.out]; exact q3) hown8 hg8)
                    clear hown8 hg8
                    go_wp2_with fail
                    go_roundw
                    case rel => exact ⟨k + 1, a + x.sp, by omega, by go_num, by go_num, HNX.out⟩
                    case measure => simp [intOf]; omega
                  · have HBAD := Lib.hid (ck_bad HI.out HRK.out HE2.out (CJ.bad (E := E) HC.out HXK.out q3 ((if_neg (by omega)).trans HRE.out.symm)) q3)
                    have q4 : (E != 0) = true := by simp [q3]
                    clear hgd hbd hdim
                    go_wp2_with fail
                    refine (HCALL.out _ (andAlloc (Below.refl _ _) _)).mono ?_
                    rintro e w5 ⟨vb, vo, rfl, oao, hb5⟩
                    have HB5 := Lib.hid (andThen (andAlloc (Below.refl wr.heap.size wr) (.cells #[.slice x.A x.l.length x.c, .int .i64 x.sp] 38)) hb5)
                    clear oao hb5
                    simp only
                    go_wp2_with fail
                    go_returns
                    exact CkOut.no HBAD.out q3 (andThen (andThen HI.out.low HC.out.low) HB5.out)
            · obtain rfl : k = r.cs.length := by omega
              have hg1 : wr.cell? ⟨W0.heap.size, 1, none⟩ = some (.slice r.E r.ex.length r.k) := (hC.blk.cell 1).trans rfl
              have hown := hC.own
              obtain ⟨A9, c9, rfl, hc9, _⟩ := SegS.own (S := fun _ => True) hC.own (fun _ _ => trivial)
              have HEX := Lib.hid (HRO.out.extra.keep (Kp.below _ hC.low))
              have hCK := check_any r.E r.ex r.k wr (by have := HEX.out.len; omega) HEX.out.seg.seg
              have hGD := hC.good
              have HCK := Lib.hid hCK
              have HGD := Lib.hid hGD
              clear hCK hGD hC hown
              generalize hce : chk r.ex = ce at HCK HGD
              by_cases q3 : ce = 0
              · have q4 : (ce != 0) = false := by simp [q3]
                go_wp2_with fail
                refine HCK.out.mono ?_
                rintro e w5 ⟨rfl, hb5⟩
                have HB5 := Lib.hid hb5
                clear hb5
                have hls : (r.cs.length : Int) ≤ (c9 : Int) := by omega
                have hown := Lib.hid (own_below (own_below HI.out.own (andThen HC.out.low HB5.out)) (andAlloc (Below.refl w5.heap.size w5) (.cells #[.slice A9 r.cs.length r.cs.length] 26)))
                have hl24 : (i + 1) * 24 ≤ 140737488355328 := by omega
                have hz5 := HB5.out.size
                have hzr := HC.out.blk.lt
                have hsw := HI.out.low.size
                go_wp2_with (at_builtin; refine wpList_push2 rfl (.tmp 107) (.tmp 114) 124 rfl w.heap.size 26 (.slice none 0 0) 1 24 Try.underlying124 info_is rfl (by decide) (by decide) u9 i (done.flatMap Ir.vals) rfl hown.out (by simp; omega) ⟨w5.heap.size, 0, none⟩ 1 [.slice A9 r.cs.length r.cs.length] rfl rfl (new_cells (Blk.new _ _ _)) (by simp [Value.oneCell']) hl24 ?_; intro v9 W9 hown9 hg9 hv9)
                have HNX := Lib.hid (CI.next HI.out HRK.out HC.out (by rw [HGD.out]; exact q3) HB5.out hown9 hg9 hv9)
                clear hown9 hg9 hv9
                go_roundw
                case rel => exact ⟨i + 1, _, by omega, by go_num, HNX.out⟩
                case measure => simp [intOf]; omega
              · have HBAD := Lib.hid (ck_bad HI.out HRK.out HE2.out HGD.out q3)
                have q4 : (ce != 0) = true := by simp [q3]
                go_wp2_with fail
                refine HCK.out.mono ?_
                rintro e w5 ⟨rfl, hb5⟩
                have HB5 := Lib.hid hb5
                clear hb5
                go_wp2_with fail
                go_returns
                exact CkOut.no HBAD.out q3 (andThen (andThen HI.out.low HC.out.low) HB5.out)
        · obtain rfl : i = m := by omega
          have h0 : ckE ss (rs.map Rw.d) = 0 := by
            rw [HE2.out]
            refine rowsE_zero fun q hq => hI.err q ?_
            rwa [List.take_of_length_le (by rw [List.length_map, HM.out]; exact Nat.le_refl _)]
          obtain ⟨A9, c9, rfl, _, _, _, hs9⟩ := SegS.own (S := fun _ => True) hI.own (fun _ _ => trivial)
          have hdl : done.length = i := by
            have h1 := congrArg List.length hI.dat
            rw [List.length_map, List.length_map, List.length_take, HM.out] at h1
            omega
          have H9 := Lib.hid (And.intro h0 (And.intro hs9 hdl))
          clear hI h0 hs9
          go_wp2_with fail
          go_returns
          refine CkOut.yes H9.out.1 HI.out.low ⟨A9, c9, done, (by rw [H9.out.2.2]; rfl), ⟨H9.out.2.1, fun x hx => (HI.out.ok x hx).mono fun _ _ _ => trivial⟩, ?_⟩
          have h1 := HI.out.dat
          rw [List.take_of_length_le (by rw [HM.out]; exact Nat.le_refl _)] at h1
          rw [h1, List.map_map]
          rfl
theorem check_al (A : Option Addr) (ss : List G) (c : Nat) (B : Option Addr) (rs : List Rw) (k : Nat) (w : World) (hS : Row w A ss) (hR : RsOk w (fun _ => True) B k rs) (h63 : ss.length ≤ maxLen) :
    Calls Try.prog 68 #[.slice A ss.length c, .slice B rs.length k] w (CkOut ss (rs.map Rw.d) w) := by
  by_cases h : ss.length < 2 ∨ 257 < ss.length ∨ 2000 < rs.length
  · exact check_size A ss c B rs k w h63 (by have := hR.len; simp [maxLen]; omega) h
  · exact check_go A ss c B rs k w hS hR (by omega) (by omega) (by omega)
end Go.Proofs.Ytoboecenlangmaa.Al
end
section
namespace Go.Proofs.Ytoboecenlangmaa.Al
open Go.ChangeShapes Go.WideShapes Go.ChangeAt Go.RowKit
open Me Np No
open Gl (G Row)
set_option linter.unusedVariables false
set_option linter.unusedSimpArgs false

theorem own_apart {w : World} {b1 b2 : Nat} {e1 e2 : TypeId} {s1 s2 n1 n2 : Nat} {v1 v2 : Value} {x1 x2 : List Value} (h1 : w.ownsRow b1 e1 s1 v1 n1 x1) (h2 : w.ownsRow b2 e2 s2 v2 n2 x2) (hne : e1 ≠ e2) : v1.ownBlock = none ∨ v1.ownBlock ≠ v2.ownBlock := by
  rcases h1.2 with ⟨rfl, _⟩ | ⟨g, cap, cur, rfl, _, hg, _⟩
  · exact .inl rfl
  · refine .inr ?_
    rcases h2.2 with ⟨rfl, _⟩ | ⟨g', cap', cur', rfl, _, hg', _⟩
    · intro e; cases e
    · intro e
      have e' : g = g' := by simpa [Value.ownBlock] using e
      subst e'
      rw [hg] at hg'
      simp only [Option.some.injEq, Obj.cells.injEq] at hg'
      exact hne hg'.2.1
theorem own_blk {w : World} {b : Nat} {e t : TypeId} {s n g : Nat} {v : Value} {xs : List Value} {cs : Array Value} (h : w.ownsRow b e s v n xs) (k : Blk w g t cs) (hne : e ≠ t) : v.ownBlock ≠ some g := by
  rcases h.2 with ⟨rfl, _⟩ | ⟨g', cap, cur, rfl, _, hg, _⟩
  · intro e; cases e
  · intro e'
    have e1 : g' = g := by simpa [Value.ownBlock] using e'
    subst e1
    have k' : w.heap[g']? = some (.cells cs t (0, 0)) := k
    rw [k'] at hg
    simp only [Option.some.injEq, Obj.cells.injEq] at hg
    exact hne hg.2.1.symm
theorem gr_refl (w : World) (r : Option Nat) : w.grownBy w r := ⟨rfl, rfl, rfl, Nat.le_refl _, fun _ _ _ => rfl⟩
theorem gr_trans {w a b : World} {r : Option Nat} (h : w.grownBy a r) (k : a.grownBy b r) : w.grownBy b r :=
  ⟨k.os.trans h.os, k.tape.trans h.tape, k.output.trans h.output, Nat.le_trans h.size k.size, fun q hq hne => (k.block q (by have := h.size; omega) hne).trans (h.block q hq hne)⟩
theorem gr_set (w : World) (g j : Nat) (u : Value) : w.grownBy (w.setCell ⟨g, j, none⟩ u) (some g) := ⟨rfl, rfl, rfl, by simp, fun k _ hk => heap_setCell_other w ⟨g, j, none⟩ k u (fun e => hk (by simp [e]))⟩
theorem gr_cells (g : Nat) : ∀ (vs : List Value) (o : Nat) (w : World), w.grownBy (w.setCells g o vs) (some g)
  | [], _, w => gr_refl w _
  | v :: r, o, w => gr_trans (gr_set w g o v) (gr_cells g r (o + 1) _)
/-- A list, written over from a place on. -/
def ovr : List Value → Nat → List Value → List Value
  | xs, _, [] => xs
  | xs, o, v :: r => ovr (xs.set o v) (o + 1) r
theorem ovr_length : ∀ (vs : List Value) (xs : List Value) (o : Nat), (ovr xs o vs).length = xs.length
  | [], _, _ => rfl
  | v :: r, xs, o => by rw [ovr, ovr_length r, List.length_set]
theorem ovr_out : ∀ (vs : List Value) (xs : List Value) (o i : Nat), i < o ∨ o + vs.length ≤ i → (ovr xs o vs)[i]? = xs[i]?
  | [], _, _, _, _ => rfl
  | v :: r, xs, o, i, h => by
    simp only [List.length_cons] at h
    rw [ovr, ovr_out r _ _ _ (by omega), List.getElem?_set_ne (by omega)]
theorem ovr_in : ∀ (vs : List Value) (xs : List Value) (o i : Nat), o + vs.length ≤ xs.length → i < vs.length → (ovr xs o vs)[o + i]? = vs[i]?
  | [], _, _, _, _, h => by simp at h
  | v :: r, xs, o, 0, h, _ => by
    simp only [List.length_cons] at h
    show (ovr (xs.set o v) (o + 1) r)[o]? = some v
    rw [ovr_out r (xs.set o v) (o + 1) o (by omega), List.getElem?_set_self (by omega)]
  | v :: r, xs, o, i + 1, h, hi => by
    simp only [List.length_cons] at h hi
    rw [ovr, show o + (i + 1) = o + 1 + i by omega, ovr_in r _ _ _ (by rw [List.length_set]; omega) (by omega)]
    rfl
theorem ovr_glue (l : List G) (k : Nat) (x : G) (hk : k < l.length) : ovr (l.flatMap G.vals) (k * 5) x.vals = (l.set k x).flatMap G.vals := by
  apply List.ext_getElem?
  intro i
  have h1 := flat_length Gl.G.vals_len l
  have h2 := flat_length Gl.G.vals_len (l.set k x)
  rw [List.length_set] at h2
  have hx : x.vals.length = 5 := x.vals_len
  rcases Nat.lt_or_ge i (l.length * 5) with hi | hi
  · obtain ⟨r, q, hr, hq, rfl⟩ : ∃ r q, r < l.length ∧ q < 5 ∧ i = r * 5 + q := ⟨i / 5, i % 5, by omega, by omega, by omega⟩
    obtain ⟨y, hy⟩ : ∃ y, l[r]? = some y := ⟨l[r], List.getElem?_eq_getElem hr⟩
    by_cases hrk : r = k
    · subst hrk
      rw [ovr_in _ _ _ _ (by rw [h1, hx]; omega) (by rw [hx]; exact hq)]
      exact (flat_get Gl.G.vals_len _ r x q (by rw [List.getElem?_set_self hr]) hq).symm
    · rw [ovr_out _ _ _ _ (by rw [hx]; omega), flat_get Gl.G.vals_len _ r y q hy hq, flat_get Gl.G.vals_len _ r y q (by rw [List.getElem?_set_ne (by omega)]; exact hy) hq]
  · rw [List.getElem?_eq_none (by rw [ovr_length]; omega), List.getElem?_eq_none (by omega)]
theorem own_ovrs {base : Nat} {e : TypeId} {size g n cap : Nat} : ∀ (vs : List Value) (o : Nat) (w : World) (xs : List Value), w.ownsRow base e size (.slice (some ⟨g, 0, none⟩) n cap) n xs → (w.setCells g o vs).ownsRow base e size (.slice (some ⟨g, 0, none⟩) n cap) n (ovr xs o vs)
  | [], _, _, _, h => h
  | v :: r, o, w, xs, h => own_ovrs r (o + 1) _ _ (h.stored o v).1
theorem own_here {w : World} {base g n cap size : Nat} {e : TypeId} {xs : List Value} (h : w.ownsRow base e size (.slice (some ⟨g, 0, none⟩) n cap) n xs) (k : Nat) (hk : k < n) : w.there g (k * size) size := by
  intro j hj
  have hl := h.1
  have hlt : k * size + j < xs.length := by
    rw [hl]
    have : (k + 1) * size ≤ n * size := Nat.mul_le_mul_right _ hk
    rw [Nat.add_mul] at this
    omega
  refine ⟨?_, h.frozenAt _⟩
  rw [h.cellAt _ (by rw [← hl]; exact hlt)]
  rw [List.getElem?_eq_getElem hlt]
  rfl

theorem own_some {w : World} {base n size : Nat} {e : TypeId} {v : Value} {xs : List Value} (h : w.ownsRow base e size v n xs) (hn : 0 < n) : ∃ g c, v = .slice (some ⟨g, 0, none⟩) n c ∧ n ≤ c := by
  rcases h.2 with ⟨_, h0⟩ | ⟨g, cap, cur, rfl, _, _, hc, _⟩
  · omega
  · exact ⟨g, cap, rfl, hc⟩
def boolV (b : Bool) : Value := .bool b
/-- The sheet: skips, widths, which are gone. -/
structure MJ (w1 : World) (gs : Nat) (S : List G) (W : List Int) (D : List Bool) (vs vw vd : Value) (wr : World) : Prop where
  blk : Blk wr gs 84 #[vs, vw, vd]
  os : wr.ownsRow w1.heap.size 40 5 vs S.length (S.flatMap G.vals)
  ow : wr.ownsRow w1.heap.size 3 1 vw W.length (W.map intV)
  od : wr.ownsRow w1.heap.size 4 1 vd D.length (D.map boolV)
  low : Below w1.heap.size w1 wr
  ge : w1.heap.size ≤ gs
section
variable {w1 wr W8 : World} {gs : Nat} {S : List G} {W : List Int} {D : List Bool} {vs vw vd v8 : Value}
theorem MJ.below (h : MJ w1 gs S W D vs vw vd wr) (hb : Below wr.heap.size wr W8) : MJ w1 gs S W D vs vw vd W8 :=
  ⟨h.blk.below hb h.blk.lt, own_below h.os hb, own_below h.ow hb, own_below h.od hb, andThen h.low hb, h.ge⟩
theorem MJ.bW {x : Value} {t : TypeId} (h : MJ w1 gs S W D vs vw vd wr) (hg : (wr.alloc (.cells #[x] t)).grownBy W8 vw.ownBlock) : Blk W8 gs 84 #[vs, vw, vd] := by
  have hgl := h.blk.lt
  have h0 := h.below (andAlloc (Below.refl wr.heap.size wr) (.cells #[x] t))
  exact (hg.block gs (by simp; omega) (Ne.symm (own_blk h0.ow h0.blk (by decide)))).trans h0.blk
theorem MJ.bD {x : Value} {t : TypeId} (h : MJ w1 gs S W D vs vw vd wr) (hg : (wr.alloc (.cells #[x] t)).grownBy W8 vd.ownBlock) : Blk W8 gs 84 #[vs, vw, vd] := by
  have hgl := h.blk.lt
  have h0 := h.below (andAlloc (Below.refl wr.heap.size wr) (.cells #[x] t))
  exact (hg.block gs (by simp; omega) (Ne.symm (own_blk h0.od h0.blk (by decide)))).trans h0.blk
theorem MJ.pushW {x : Int} (h : MJ w1 gs S W D vs vw vd wr) (hown : W8.ownsRow w1.heap.size 3 1 v8 (W.length + 1) (W.map intV ++ [.int .i64 x])) (hg : (wr.alloc (.cells #[.int .i64 x] 3)).grownBy W8 vw.ownBlock) : MJ w1 gs S (W ++ [x]) D vs v8 vd (W8.setCell ⟨gs, 1, none⟩ v8) := by
  have hgl := h.blk.lt
  have h0 := h.below (andAlloc (Below.refl wr.heap.size wr) (.cells #[.int .i64 x] 3))
  have n0 := own_blk h0.ow h0.blk (by decide)
  have n1 := own_apart h0.os h0.ow (by decide)
  have n2 := own_apart h0.od h0.ow (by decide)
  have b8 : Blk W8 gs 84 #[vs, vw, vd] := (hg.block gs (by simp; omega) (Ne.symm n0)).trans h0.blk
  have s8 := h0.os.kept hg n1
  have d8 := h0.od.kept hg n2
  have l8 : Below w1.heap.size w1 W8 := below_grown (Nat.le_refl _) h0.low hg fun q hq => (h0.ow.lt q hq).1
  refine ⟨?_, ownsRow_setCell_other s8 (own_blk s8 b8 (by decide)) _, ?_, ownsRow_setCell_other d8 (own_blk d8 b8 (by decide)) _, l8.setCell h.ge _, h.ge⟩
  · simpa using b8.set 1 v8
  · rw [List.length_append, List.map_append]
    exact ownsRow_setCell_other hown (own_blk hown b8 (by decide)) _
theorem MJ.pushD {x : Bool} (h : MJ w1 gs S W D vs vw vd wr) (hown : W8.ownsRow w1.heap.size 4 1 v8 (D.length + 1) (D.map boolV ++ [.bool x])) (hg : (wr.alloc (.cells #[.bool x] 4)).grownBy W8 vd.ownBlock) : MJ w1 gs S W (D ++ [x]) vs vw v8 (W8.setCell ⟨gs, 2, none⟩ v8) := by
  have hgl := h.blk.lt
  have h0 := h.below (andAlloc (Below.refl wr.heap.size wr) (.cells #[.bool x] 4))
  have n0 := own_blk h0.od h0.blk (by decide)
  have n1 := own_apart h0.os h0.od (by decide)
  have n2 := own_apart h0.ow h0.od (by decide)
  have b8 : Blk W8 gs 84 #[vs, vw, vd] := (hg.block gs (by simp; omega) (Ne.symm n0)).trans h0.blk
  have s8 := h0.os.kept hg n1
  have d8 := h0.ow.kept hg n2
  have l8 : Below w1.heap.size w1 W8 := below_grown (Nat.le_refl _) h0.low hg fun q hq => (h0.od.lt q hq).1
  refine ⟨?_, ownsRow_setCell_other s8 (own_blk s8 b8 (by decide)) _, ownsRow_setCell_other d8 (own_blk d8 b8 (by decide)) _, ?_, l8.setCell h.ge _, h.ge⟩
  · simpa using b8.set 2 v8
  · rw [List.length_append, List.map_append]
    exact ownsRow_setCell_other hown (own_blk hown b8 (by decide)) _
theorem MJ.skip {g c k : Nat} {x : G} (h : MJ w1 gs S W D (.slice (some ⟨g, 0, none⟩) S.length c) vw vd wr) (hk : k < S.length) : MJ w1 gs (S.set k x) W D (.slice (some ⟨g, 0, none⟩) S.length c) vw vd (wr.setCells g (k * 5) x.vals) := by
  have hg := gr_cells g x.vals (k * 5) wr
  have n0 := own_blk h.os h.blk (by decide)
  have n1 := own_apart h.ow h.os (by decide)
  have n2 := own_apart h.od h.os (by decide)
  have hgg : (Value.slice (some ⟨g, 0, none⟩) S.length c).ownBlock = some g := rfl
  rw [hgg] at n0 n1 n2
  refine ⟨(hg.block gs h.blk.lt (Ne.symm n0)).trans h.blk, ?_, h.ow.kept hg n1, h.od.kept hg n2, below_grown (Nat.le_refl _) h.low hg fun q hq => ?_, h.ge⟩
  · rw [List.length_set, ← ovr_glue S k x hk]
    exact own_ovrs _ _ _ _ h.os
  · exact (h.os.lt q hq).1
/-- Where the skips stand. -/
theorem MJ.s0 (h : MJ w1 gs S W D vs vw vd wr) (hl : 0 < S.length) : ∃ g c, vs = .slice (some ⟨g, 0, none⟩) S.length c ∧ S.length ≤ c := by
  rcases id h.os.2 with ⟨rfl, h0⟩ | ⟨g, cap, cur, rfl, _, _, hn, _⟩
  · omega
  · exact ⟨g, cap, rfl, hn⟩
theorem MJ.getW (h : MJ w1 gs S W D vs vw vd wr) {i : Nat} {x : Int} (hi : W[i]? = some x) : ∃ b off c, vw = .slice (some ⟨b, off, none⟩) W.length c ∧ W.length ≤ c ∧ wr.cell? ⟨b, off + i, none⟩ = some (.int .i64 x) := by
  obtain ⟨A, c, rfl, hc, _, _, hs⟩ := SegS.own (S := fun _ => True) h.ow (fun _ _ => trivial)
  rcases hs with h0 | ⟨b, off, rfl, _, _, hx⟩
  · have h1 : W = [] := by simpa using h0
    rw [h1] at hi
    simp at hi
  · exact ⟨b, off, c, rfl, hc, hx i _ (by rw [List.getElem?_map, hi]; rfl)⟩
theorem MJ.getS (h : MJ w1 gs S W D vs vw vd wr) {i : Nat} {x : G} (hi : S[i]? = some x) : ∃ b off c, vs = .slice (some ⟨b, off, none⟩) S.length c ∧ S.length ≤ c ∧ wr.cell? ⟨b, off + i * 5, none⟩ = some (.int .i64 x.n) := by
  obtain ⟨A, c, rfl, hc, _, _, hs⟩ := SegS.own (S := fun _ => True) h.os (fun _ _ => trivial)
  obtain ⟨b, off, rfl, _, hx⟩ := hs.seg.row Gl.G.vals_len hi (by decide)
  exact ⟨b, off, c, rfl, hc, by simpa using hx 0 _ rfl⟩
end
end Go.Proofs.Ytoboecenlangmaa.Al
end
section
namespace Go.Proofs.Ytoboecenlangmaa.Al
open Go.ChangeShapes Go.WideShapes Go.ChangeAt Go.RowKit
open Me Np No
open Gl (G Row)
set_option linter.unusedVariables false
set_option linter.unusedSimpArgs false

noncomputable def mdC (ss : List G) (ds : List RD) : Co := cols (ds.map cel) ss (ss.length - 1)
noncomputable def mdE (ss : List G) (ds : List RD) : Int := if ckE ss ds = 0 then (if (mdC ss ds).w.all dimB = true then 0 else 20) else ckE ss ds
/-- What made answers: the sheet, in memory of its own. -/
def MdOutC (E : Int) (C : Co) (w : World) (e : Ending) (w' : World) : Prop :=
  ∃ v, e = .returned (.tuple #[v, .int .i64 E]) ∧ Below w.heap.size w w' ∧ (E = 0 → ∃ (w1 : World) (g : Nat) (vs vw vd : Value), w.heap.size ≤ w1.heap.size ∧ v = .pointer (some ⟨g, 0, none⟩) ∧ MJ w1 g C.s C.w C.g vs vw vd w')
abbrev MdOut (ss : List G) (ds : List RD) (w : World) (e : Ending) (w' : World) : Prop := MdOutC (mdE ss ds) (mdC ss ds) w e w'
theorem MdOut.no {ss : List G} {ds : List RD} {w w' : World} {E : Int} (h : mdE ss ds = E) (h0 : ¬ E = 0) (hb : Below w.heap.size w w') : MdOut ss ds w (.returned (.tuple #[.pointer none, .int .i64 E])) w' :=
  ⟨_, by rw [h], hb, fun e => absurd (h ▸ e) h0⟩
theorem dimen_al (z : Int) (w : World) : Calls Try.prog 69 #[.int .i64 z] w fun e w' => e = .returned (.bool (dimB z)) ∧ w = w' := by
  by_cases h0 : -1073741823 ≤ z
  · by_cases h1 : z ≤ 1073741823
    · have HD := Lib.hid (show dimB z = true by simp [dimB, h0, h1])
      go_enter Try.func69, Try.ntmps69
      go_wp2_with fail
      go_ret
      exact ⟨by rw [HD.out]; rfl, rfl⟩
    · have HD := Lib.hid (show dimB z = false by simp [dimB, h1])
      go_enter Try.func69, Try.ntmps69
      go_wp2_with fail
      go_ret
      exact ⟨by rw [HD.out]; rfl, rfl⟩
  · have HD := Lib.hid (show dimB z = false by simp [dimB, h0])
    go_enter Try.func69, Try.ntmps69
    go_wp2_with fail
    go_ret
    exact ⟨by rw [HD.out]; rfl, rfl⟩
theorem info_b : (Try.prog.info? 4).map (fun i => (i.zero, i.size, i.bytes)) = some (some (.bool false), 1, 1) := by kernel_rfl
theorem cols_none {rs : List (List (Int × Nat))} {ss : List G} {j : Nat} (h : colM (cols rs ss j).f j none rs = none) : cols rs ss (j + 1) = ⟨(cols rs ss j).w ++ [0], (cols rs ss j).g ++ [true], (cols rs ss j).s.set (j + 1) gz⟩ := by
  rw [cols]
  unfold Co.next
  rw [h]
theorem cols_some {rs : List (List (Int × Nat))} {ss : List G} {j : Nat} {y : Int} (h : colM (cols rs ss j).f j none rs = some y) : cols rs ss (j + 1) = ⟨(cols rs ss j).w ++ [y], (cols rs ss j).g ++ [false], (cols rs ss j).s⟩ := by
  rw [cols]
  unfold Co.next
  rw [h]
theorem MdOut.yes {E : Int} {C : Co} {w w1 w' : World} {g : Nat} {vs vw vd : Value} (h : E = 0) (hb : Below w.heap.size w w') (h1 : w.heap.size ≤ w1.heap.size) (hj : MJ w1 g C.s C.w C.g vs vw vd w') : MdOutC E C w (.returned (.tuple #[.pointer (some ⟨g, 0, none⟩), .int .i64 0])) w' :=
  ⟨_, by rw [h], hb, fun _ => ⟨w1, g, vs, vw, vd, h1, rfl, hj⟩⟩
theorem info_g : (Try.prog.info? 40).map (fun i => (i.zero, i.size, i.bytes)) = some (some (.agg #[.int .i64 0, .int .i64 0, .int .i64 0, .int .i64 0, .int .i64 0]), 5, 40) := by kernel_rfl
theorem glue_one (l : List G) : ∀ u ∈ l.flatMap G.vals, u.oneCell' = true := by
  intro u hu
  obtain ⟨g, _, hg⟩ := List.mem_flatMap.1 hu
  simp only [G.vals, List.mem_cons, List.not_mem_nil, or_false] at hg
  rcases hg with rfl | rfl | rfl | rfl | rfl <;> rfl
theorem wpList_append_src {P : Program} {ops : Array Oper} {rest : List Oper} {o : Oper} {a : Act} {w : World} {Q : Exit → Act → World → Prop} (hgd : o.guard = none) (s x : Operand) (t : TypeId)
    (ho : o.op = .call { callee := .builtin .append, args := #[s, x], argTypes := #[t, t] })
    (base : Nat) (e : TypeId) (z : Value) (size bytes : Nat) (ht : P.underlying t = some (.slice e)) (hinfo : (P.info? e).map (fun i => (i.zero, i.size, i.bytes)) = some (some z, size, bytes))
    (hzs : z.cells.size = size) (hsz : 0 < size)
    (v : Value) (n : Nat) (xs : List Value) (hs : a.eval s = v) (hown : w.ownsRow base e size v n xs)
    (ad : Addr) (m c : Nat) (news : List Value) (hx : a.eval x = .slice (some ad) m c) (hl : news.length = m * size) (hnews : ∀ j u, news[j]? = some u → w.cell? (ad.add j) = some u) (h1 : ∀ u ∈ news, u.oneCell' = true)
    (h63 : n + m ≤ maxLen) (hbytes : (n + m) * bytes ≤ 140737488355328) (hbase : base ≤ w.heap.size)
    (h : ∀ v' w', w'.ownsRow base e size v' (n + m) (xs ++ news) → w.grownBy w' v.ownBlock → wpList P ops Q rest (a.put o.dst v') w') :
    wpList P ops Q (o :: rest) a w :=
  wpList_plain hgd fun K hK => by
    obtain ⟨i, hi, hz, hsi, hbi⟩ := info_parts hinfo
    obtain ⟨v', w', hr, h2, h3, _⟩ := run_append_own (P := P) w base t o.type e i z size bytes ht hi hz hsi hbi hzs hsz v n xs hown ad m c news hl hnews h1 h63 hbytes hbase
    unfold Oper.wp execOp
    simp only [ho, resolve, invoke, builtin, Sem.run_bind, Sem.run_pure, Result.andThen_ok, List.map_toArray, List.map_cons, List.map_nil, hs, hx, hr]
    exact hK _ _ (h v' w' h2 h3)

set_option maxHeartbeats 4000000 in
set_option maxRecDepth 100000 in
theorem made_bad (A : Option Addr) (ss : List G) (c : Nat) (B : Option Addr) (rs : List Rw) (k : Nat) (w : World) (hS : Row w A ss) (hR : RsOk w (fun _ => True) B k rs) (h63 : ss.length ≤ maxLen) (hE : ¬ ckE ss (rs.map Rw.d) = 0) :
    Calls Try.prog 35 #[.slice A ss.length c, .slice B rs.length k] w (MdOut ss (rs.map Rw.d) w) := by
  have HM := Lib.hid (show mdE ss (rs.map Rw.d) = ckE ss (rs.map Rw.d) from if_neg hE)
  have HC := Lib.hid (check_al A ss c B rs k w hS hR h63)
  have HN := Lib.hid hE
  have q1 : (ckE ss (rs.map Rw.d) != 0) = true := by simp [hE]
  clear hS hR hE
  go_enter Try.func35, Try.ntmps35
  go_wp2_with fail
  refine HC.out.mono ?_
  rintro e w1 ⟨v, rfl, hb1, _⟩
  go_wp2_with fail
  go_returns
  exact MdOut.no HM.out HN.out hb1
theorem ask_drop {f : Nat → Int} {j a k : Nat} {r : List (Int × Nat)} {c : Int × Nat} (hk : r[k]? = some c) : ask f j a (r.drop k) = if j < a + c.2 - 1 then none else if a + c.2 - 1 = j then some (less f a (j - a) c.1) else ask f j (a + c.2) (r.drop (k + 1)) := by
  have hlt : k < r.length := by
    rcases Nat.lt_or_ge k r.length with h | h
    · exact h
    · rw [List.getElem?_eq_none h] at hk; cases hk
  rw [List.drop_eq_getElem_cons hlt]
  rw [List.getElem?_eq_getElem hlt] at hk
  injection hk with hk
  rw [hk]
  rfl
theorem ask_before {f : Nat → Int} {j : Nat} : ∀ {r : List (Int × Nat)} {a : Nat}, j < a → (∀ x ∈ r, 1 ≤ x.2) → ask f j a r = none
  | [], _, _, _ => rfl
  | c :: r, a, h, h1 => by
    have := h1 c (by simp)
    rw [ask, if_pos (by omega)]
theorem pos_zero : ∀ r : List (Int × Nat), pos r 0 = 0
  | [] => rfl
  | _ :: _ => rfl
theorem wrapEq (x : Int) : IntKind.i64.wrap x = wrap64 x := by rw [IntKind.wrap_i64, wrap64]
theorem IrsOk.get {w : World} {A : Option Addr} {irs : List Ir} (h : IrsOk w (fun _ => True) A irs) {i q : Nat} {ir : Ir} {x : Int} (hi : irs[i]? = some ir) (hq : ir.xs[q]? = some x) :
    ∃ b off b7 off7, A = some ⟨b, off, none⟩ ∧ ir.A = some ⟨b7, off7, none⟩ ∧ b < w.heap.size ∧ b7 < w.heap.size ∧ w.cell? ⟨b, off + i, none⟩ = some (.slice ir.A ir.xs.length ir.c) ∧ w.cell? ⟨b7, off7 + q, none⟩ = some (.int .i64 x) := by
  obtain ⟨b, off, hA, hb, hc⟩ := h.seg.seg.row Ir.vals_length hi (by decide)
  have h0 := hc 0 _ rfl
  rw [Nat.mul_one, Nat.add_zero] at h0
  rcases h.rows ir (List.mem_of_getElem? hi) with h1 | ⟨b7, off7, hA7, hb7, _, hx⟩
  · have h2 : ir.xs = [] := by simpa using h1
    rw [h2] at hq
    simp at hq
  · exact ⟨b, off, b7, off7, hA, hA7, hb, hb7, h0, hx q _ (by rw [List.getElem?_map, hq]; rfl)⟩
theorem pos_succ : ∀ {r : List (Int × Nat)} {k : Nat} {c : Int × Nat}, r[k]? = some c → pos r (k + 1) = pos r k + c.2
  | [], k, c, h => by simp at h
  | x :: r, 0, c, h => by
    simp at h
    subst h
    simp [pos]
  | x :: r, k + 1, c, h => by
    rw [pos, pos_succ (r := r) (k := k) (c := c) (by simpa using h), pos]
    omega
theorem colM_drop {f : Nat → Int} {j i : Nat} {m : Option Int} {rs : List (List (Int × Nat))} {r : List (Int × Nat)} (hi : rs[i]? = some r) : colM f j m (rs.drop i) = colM f j (mx m (ask f j 0 r)) (rs.drop (i + 1)) := by
  have hlt : i < rs.length := by
    rcases Nat.lt_or_ge i rs.length with h | h
    · exact h
    · rw [List.getElem?_eq_none h] at hi; cases hi
  rw [List.drop_eq_getElem_cons hlt]
  rw [List.getElem?_eq_getElem hlt] at hi
  injection hi with hi
  rw [hi]
  rfl
theorem mx_right (m : Option Int) : mx m none = m := by cases m <;> rfl
/-- What is known of a good alignment's rows. -/
theorem row_good {ss : List G} {ds : List RD} (h : ckE ss ds = 0) {q : RD} (hq : q ∈ ds) : (∀ c ∈ q.1, 1 ≤ c.2 ∧ (wd c.1).1 = 0) ∧ (∀ k, posI q.1 k ≤ (ss.length : Int) - 1) ∧ chk q.2 = 0 := by
  unfold ckE at h
  split at h
  · cases h
  · rename_i h1
    split at h
    · have h2 := rowsE_all h q hq
      unfold rowErr at h2
      split at h2
      · rename_i h3
        obtain ⟨a, b⟩ := celE_good (by omega) h3
        exact ⟨a, fun k => by have := b k; omega, h2⟩
      · rename_i h3
        exact absurd h2 h3
    · cases h
/-- Cell k of a good row. -/
theorem cel_good {ss : List G} {ds : List RD} (h : ckE ss ds = 0) {r : Rw} (hr : r.d ∈ ds) {k : Nat} {x : Cl} (hx : r.cs[k]? = some x) :
    (cel r.d)[k]? = some ((wd x.l).2, x.sp.toNat) ∧ (∀ c ∈ cel r.d, 1 ≤ c.2) ∧ 1 ≤ x.sp ∧ ((pos (cel r.d) k : Nat) : Int) + x.sp ≤ (ss.length : Int) - 1 := by
  obtain ⟨h1, h2, _⟩ := row_good h hr
  have hd : r.d.1[k]? = some x.d := by show (r.cs.map Cl.d)[k]? = _; rw [List.getElem?_map, hx]; rfl
  have h3 : ∀ c ∈ r.d.1, 1 ≤ c.2 := fun c hc => (h1 c hc).1
  have h4 := h3 x.d (List.mem_of_getElem? hd)
  have h5 := h2 (k + 1)
  rw [posI_succ hd] at h5
  have h6 : ((pos (cel r.d) k : Nat) : Int) = posI r.d.1 k := cel_pos (ex := r.d.2) h3
  refine ⟨by unfold cel; rw [List.getElem?_map, hd]; rfl, fun c hc => ?_, h4, ?_⟩
  · unfold cel at hc
    obtain ⟨y, hy, rfl⟩ := List.mem_map.1 hc
    have := h3 y hy
    show 1 ≤ y.2.toNat
    omega
  · rw [h6]
    exact h5
theorem seg_add {w : World} {B b off : Nat} {xs : List Value} (h : Seg w B (some ⟨b, off, none⟩) xs) : ∀ j u, xs[j]? = some u → w.cell? ((⟨b, off, none⟩ : Addr).add j) = some u := by
  intro j u hu
  rcases h with rfl | ⟨b', off', he, _, hc⟩
  · simp at hu
  · simp only [Option.some.injEq, Addr.mk.injEq, and_true] at he
    obtain ⟨rfl, rfl⟩ := he
    have hadd : (⟨b, off, none⟩ : Addr).add j = ⟨b, off + j, none⟩ := by unfold Addr.add; split <;> simp_all
    rw [hadd]
    exact hc j u hu

set_option maxHeartbeats 4000000 in
set_option maxRecDepth 100000 in
theorem made_go (A : Option Addr) (ss : List G) (c : Nat) (B : Option Addr) (rs : List Rw) (k : Nat) (w : World) (hS : Row w A ss) (hR : RsOk w (fun _ => True) B k rs) (h63 : ss.length ≤ maxLen) (hE : ckE ss (rs.map Rw.d) = 0) :
    Calls Try.prog 35 #[.slice A ss.length c, .slice B rs.length k] w (MdOut ss (rs.map Rw.d) w) := by
  have hbd : 2 ≤ ss.length ∧ ss.length ≤ 257 ∧ rs.length ≤ 2000 := by
    unfold ckE at hE
    split at hE
    · cases hE
    · rename_i h
      simp at h
      omega
  have hc0 := check_al A ss c B rs k w hS hR h63
  unfold CkOut at hc0
  rw [hE] at hc0
  have HC := Lib.hid hc0
  have HS := Lib.hid hS
  have HR := Lib.hid hR
  have HE := Lib.hid hE
  clear hS hR hE hc0 h63
  obtain ⟨h2, h257, h2000⟩ := hbd
  generalize hn : ss.length = n at *
  have HN := Lib.hid hn
  clear hn
  generalize hm : rs.length = m at *
  have HM := Lib.hid hm
  clear hm
  go_enter Try.func35, Try.ntmps35
  go_wp2_with fail
  refine HC.out.mono ?_
  rintro e w1 ⟨v, rfl, hb1, hir⟩
  obtain ⟨A6, c6, irs, rfl, hir, hird⟩ := hir trivial
  have HIR := Lib.hid (And.intro hir hird)
  have HB1 := Lib.hid hb1
  obtain ⟨b, off, rfl, hbb⟩ : ∃ b off, A = some ⟨b, off, none⟩ ∧ b < w.heap.size := by
    obtain ⟨g, hg⟩ := get_some (l := ss) (i := 0) (by rw [HN.out]; omega)
    obtain ⟨b, off, hA, hb, _⟩ := Seg.row Gl.G.vals_len HS.out hg (by decide)
    exact ⟨b, off, hA, hb⟩
  have HSC := Lib.hid (seg_add (Seg.belowW HS.out hb1))
  clear hir hird hb1
  go_upto_region 5 with (at_builtin; refine wpList_append_src rfl (.const (.slice none 0 0)) (.tmp 31) 22 rfl w1.heap.size 40 (.agg #[.int .i64 0, .int .i64 0, .int .i64 0, .int .i64 0, .int .i64 0]) 5 40 Try.underlying22 info_g rfl (by decide) (.slice none 0 0) 0 [] rfl (World.ownsRow_nil _ _ _ _) ⟨b, off, none⟩ n c (ss.flatMap G.vals) rfl (by rw [flat_length Gl.G.vals_len, HN.out]) HSC.out (glue_one _) (by simp [maxLen]; omega) (by omega) (Nat.le_refl _) ?_; intro v4 w4 hown4 hg4; rw [Nat.zero_add, List.nil_append] at hown4; obtain ⟨g4, c4, rfl, hc4⟩ := own_some hown4 (by omega))
  have hJ0 : MJ w1 w4.heap.size ss [] [] (.slice (some ⟨g4, 0, none⟩) n c4) (.slice none 0 0) (.slice none 0 0) (w4.alloc (.cells #[.slice (some ⟨g4, 0, none⟩) n c4, .slice none 0 0, .slice none 0 0] 84)) :=
    ⟨Blk.new _ _ _, by rw [HN.out]; exact hown4.alloc _, World.ownsRow_nil _ _ _ _, World.ownsRow_nil _ _ _ _, andAlloc (below_grown (Nat.le_refl _) (Below.refl _ _) hg4 (by intro q hq; cases hq)) _, hg4.size⟩
  have HJ0 := Lib.hid hJ0
  clear hJ0 hown4 hg4 HSC HC
  generalize w4.alloc (.cells #[.slice (some ⟨g4, 0, none⟩) n c4, .slice none 0 0, .slice none 0 0] 84) = W5 at *
  generalize w4.heap.size = gs at *
  have hw1 : IntKind.i64.wrap ((n : Int) - 1) = (n : Int) - 1 := IntWalk.i64_in _ (by omega)
  go_wp2_with fail
  go_loopw [38] (fun v38 wr => ∃ (j : Nat) (vs vw vd : Value), j ≤ n - 1 ∧ v38 = .int .i64 (j : Int) ∧ MJ w1 gs (cols ((rs.map Rw.d).map cel) ss j).s (cols ((rs.map Rw.d).map cel) ss j).w (cols ((rs.map Rw.d).map cel) ss j).g vs vw vd wr) (fun v38 _ => n - (intOf v38).toNat)
  case atStart => exact ⟨0, _, _, _, by omega, rfl, HJ0.out⟩
  case round =>
    obtain ⟨j, vs, vw, vd, hj, rfl, hJ⟩ := hrel
    by_cases hlt : j < n - 1
    · have hjn : (j : Int) < (n : Int) - 1 := by omega
      have HJ := Lib.hid hJ
      obtain ⟨W0, rfl⟩ : ∃ W, W = wr := ⟨_, rfl⟩
      have hL0 := andThen HB1.out hJ.low
      clear hJ
      have HL0 := Lib.hid hL0
      clear hL0
      go_wp2_with fail
      go_loopw [10, 11, 43] (fun v10 v11 v43 wr => ∃ (i : Nat) (mm : Option Int), i ≤ m ∧ v43 = .int .i64 (i : Int) ∧ v10 = .int .i64 (mm.getD 0) ∧ v11 = .bool mm.isSome ∧ colM (cols ((rs.map Rw.d).map cel) ss j).f j none ((rs.map Rw.d).map cel) = colM (cols ((rs.map Rw.d).map cel) ss j).f j mm (((rs.map Rw.d).map cel).drop i) ∧ Below W0.heap.size W0 wr) (fun _ _ v43 _ => m - (intOf v43).toNat)
      case atStart => exact ⟨0, none, by omega, rfl, rfl, rfl, rfl, Below.refl _ _⟩
      case round =>
        obtain ⟨i, mm, hi, rfl, rfl, rfl, hcm, hbw⟩ := hrel
        have HCM := Lib.hid hcm
        have HBW := Lib.hid hbw
        by_cases hlt2 : i < m
        · obtain ⟨r, hr⟩ := get_some (l := rs) (i := i) (by rw [HM.out]; exact hlt2)
          have hw := HR.out.below (andThen HL0.out hbw)
          obtain ⟨b1, off1, rfl, hb1, hc0, hc1⟩ := hw.row hr
          have HRO := Lib.hid (hw.get hr)
          have HRK := Lib.hid hr
          have hii : (i : Int) < (m : Int) := by omega
          clear hcm hbw hw hr
          obtain ⟨W1, rfl⟩ : ∃ W, W = wr := ⟨_, rfl⟩
          go_wp2_with fail
          go_step3
          go_wp2_with fail
          go_step3
          have hg0 : (W1.alloc (.cells #[.slice r.A r.cs.length r.c, .slice r.E r.ex.length r.k] 36)).cell? ⟨W1.heap.size, 0, none⟩ = some (.slice r.A r.cs.length r.c) := (Blk.new _ _ _).cell 0
          have HB2 := Lib.hid (andAlloc (Below.refl W1.heap.size W1) (.cells #[.slice r.A r.cs.length r.c, .slice r.E r.ex.length r.k] 36))
          generalize W1.alloc (.cells #[.slice r.A r.cs.length r.c, .slice r.E r.ex.length r.k] 36) = W2 at *
          go_wp2_with fail
          clear hg0
          have hrl := HRO.out.len
          have HRM := Lib.hid (show r.d ∈ rs.map Rw.d from List.mem_map.2 ⟨r, List.mem_of_getElem? HRK.out, rfl⟩)
          go_loopg [10, 11, 14, 51] r.cs.length (fun g v10 v11 v14 v51 wr => ∃ (q : Nat) (m2 : Option Int), q + g = r.cs.length ∧ v51 = .int .i64 (q : Int) ∧ v14 = .int .i64 ((pos (cel r.d) q : Nat) : Int) ∧ v10 = .int .i64 (m2.getD 0) ∧ v11 = .bool m2.isSome ∧ mx mm (ask (cols ((rs.map Rw.d).map cel) ss j).f j 0 (cel r.d)) = mx m2 (ask (cols ((rs.map Rw.d).map cel) ss j).f j (pos (cel r.d) q) ((cel r.d).drop q)) ∧ Below W1.heap.size W1 wr)
          case atStart => exact ⟨0, mm, by omega, rfl, by rw [pos_zero]; rfl, rfl, rfl, by rw [pos_zero, List.drop_zero], HB2.out⟩
          case round =>
            obtain ⟨q, m2, hqg, rfl, rfl, rfl, rfl, hask, hbq⟩ := hrel
            have HASK := Lib.hid hask
            have HBQ := Lib.hid hbq
            by_cases hlt3 : q < r.cs.length
            · obtain ⟨x, hx⟩ := get_some hlt3
              obtain ⟨hcl, hsp, hx1, hxp⟩ := cel_good HE.out HRM.out hx
              rw [HN.out] at hxp
              have hro := HRO.out.keep (Kp.below _ hbq)
              obtain ⟨b2, off2, hA2, hb2, hx0, hx2⟩ := hro.cell hx
              have HXK := Lib.hid hx
              have HCL := Lib.hid hcl
              have HSP := Lib.hid hsp
              have hqi : (q : Int) < (r.cs.length : Int) := by omega
              rw [hA2]
              obtain ⟨sp, hspn⟩ : ∃ s : Nat, x.sp = (s : Int) := ⟨x.sp.toNat, by omega⟩
              have HSN := Lib.hid hspn
              rw [hspn] at hx2 hx1 hxp
              clear hask hbq hcl hsp hx hro
              obtain ⟨Wk, rfl⟩ : ∃ W, W = wr := ⟨_, rfl⟩
              generalize hpa : pos (cel r.d) q = a at hxp HASK ⊢
              have HPA := Lib.hid hpa
              clear hpa
              have hw2 : IntKind.i64.wrap ((a : Int) + (sp : Int)) = (a : Int) + (sp : Int) := IntWalk.i64_in _ (by omega)
              have hw3 : IntKind.i64.wrap ((a : Int) + (sp : Int) - 1) = (a : Int) + (sp : Int) - 1 := IntWalk.i64_in _ (by omega)
              have HAD := Lib.hid (ask_drop (f := (cols ((rs.map Rw.d).map cel) ss j).f) (j := j) (a := a) HCL.out)
              by_cases c1 : (j : Int) < (a : Int) + (sp : Int) - 1
              · have HNX := Lib.hid (show colM (cols ((rs.map Rw.d).map cel) ss j).f j none ((rs.map Rw.d).map cel) = colM (cols ((rs.map Rw.d).map cel) ss j).f j m2 (((rs.map Rw.d).map cel).drop (i + 1)) by
                  rw [HCM.out, colM_drop (r := cel r.d) (by rw [List.getElem?_map, List.getElem?_map, HRK.out]; rfl), HASK.out, HAD.out, if_pos (by rw [HSN.out]; show j < a + (sp : Int).toNat - 1; omega), mx_right])
                go_wp2_with fail
                go_roundw
                case rel => exact ⟨i + 1, m2, by omega, by go_num, rfl, rfl, HNX.out, andAlloc (andThen HBW.out HBQ.out) _⟩
                case measure => simp [intOf]; omega
              · by_cases c2 : (a : Int) + (sp : Int) - 1 = (j : Int)
                · have HAY := Lib.hid (show ask (cols ((rs.map Rw.d).map cel) ss j).f j a ((cel r.d).drop q) = some (less (cols ((rs.map Rw.d).map cel) ss j).f a (j - a) (wd x.l).2) by
                    rw [HAD.out, if_neg (by rw [HSN.out]; show ¬ j < a + (sp : Int).toNat - 1; omega), if_pos (by rw [HSN.out]; show a + (sp : Int).toNat - 1 = j; omega)])
                  have c3 : ((a : Int) + (sp : Int) - 1 == (j : Int)) = true := by rw [beq_iff_eq]; exact c2
                  obtain ⟨ir, hir⟩ : ∃ ir, irs[i]? = some ir ∧ ir.xs = wids r.d := by
                    have h1 : (irs.map Ir.xs)[i]? = some (wids r.d) := by rw [HIR.out.2, List.getElem?_map, List.getElem?_map, HRK.out]; rfl
                    rw [List.getElem?_map] at h1
                    obtain ⟨ir, h2, h3⟩ := Option.map_eq_some_iff.1 h1
                    exact ⟨ir, h2, h3⟩
                  have hxw : ir.xs[q]? = some (wd x.l).2 := by
                    rw [hir.2]
                    show (r.d.1.map _)[q]? = _
                    rw [List.getElem?_map]
                    show Option.map _ ((r.cs.map Cl.d)[q]?) = _
                    rw [List.getElem?_map, HXK.out]
                    rfl
                  have hxl : ir.xs.length = r.cs.length := by rw [hir.2]; show ((r.cs.map Cl.d).map _).length = _; simp
                  have hil : irs.length = m := by have := congrArg List.length HIR.out.2; simpa [HM.out] using this
                  obtain ⟨b6, off6, b7, off7, rfl, hA7, hb6, hb7, hy0, hy1⟩ := HIR.out.1.get hir.1 hxw
                  have hlow := andThen (andThen HJ.out.low HBW.out) HBQ.out
                  have hy2 : Wk.cell? ⟨b6, off6 + i, none⟩ = some (.slice (some ⟨b7, off7, none⟩) r.cs.length ir.c) := (hlow.cell (p := ⟨b6, off6 + i, none⟩) hb6).trans (by rw [hy0, hA7, hxl])
                  have hy3 : Wk.cell? ⟨b7, off7 + q, none⟩ = some (.int .i64 (wd x.l).2) := (hlow.cell (p := ⟨b7, off7 + q, none⟩) hb7).trans hy1
                  have hb6' : b6 < Wk.heap.size := Nat.lt_of_lt_of_le hb6 hlow.size
                  have hb7' : b7 < Wk.heap.size := Nat.lt_of_lt_of_le hb7 hlow.size
                  have hii2 : (i : Int) < (irs.length : Int) := by omega
                  have HJ3 := Lib.hid (HJ.out.below (andAlloc (andThen HBW.out HBQ.out) (.cells #[.slice x.A x.l.length x.c, .int .i64 (sp : Int)] 38)))
                  have HL3 := Lib.hid (andAlloc (andThen HBW.out HBQ.out) (.cells #[.slice x.A x.l.length x.c, .int .i64 (sp : Int)] 38))
                  have HL3q := Lib.hid (andAlloc HBQ.out (.cells #[.slice x.A x.l.length x.c, .int .i64 (sp : Int)] 38))
                  clear hir hxw hxl hil hy0 hy1 hlow hA7
                  generalize irs.length = il at *
                  generalize hwd : (wd x.l).2 = n0 at *
                  clear hwd
                  go_upto_region 20 with fail
                  clear hy2 hy3
                  generalize Wk.alloc (.cells #[.slice x.A x.l.length x.c, .int .i64 (sp : Int)] 38) = W3 at *
                  go_wp2_with fail
                  go_loopw [18, 19] (fun v18 v19 wr => ∃ (p : Nat) (z : Int), a ≤ p ∧ p ≤ j ∧ v19 = .int .i64 (p : Int) ∧ v18 = .int .i64 z ∧ less (cols ((rs.map Rw.d).map cel) ss j).f a (j - a) n0 = less (cols ((rs.map Rw.d).map cel) ss j).f p (j - p) z ∧ Below W3.heap.size W3 wr) (fun _ v19 _ => j - (intOf v19).toNat)
                  case atStart => exact ⟨a, n0, by omega, by omega, rfl, rfl, rfl, Below.refl _ _⟩
                  case round =>
                    obtain ⟨p, z, hap, hpj, rfl, rfl, hls, hbp⟩ := hrel
                    have HLS := Lib.hid hls
                    have HBP := Lib.hid hbp
                    clear hls
                    by_cases hlt4 : p < j
                    · have hpj2 : (p : Int) < (j : Int) := by omega
                      obtain ⟨wp, hwp⟩ := get_some (l := (cols ((rs.map Rw.d).map cel) ss j).w) (i := p) (by rw [(cols_len _ ss j).1]; exact hlt4)
                      obtain ⟨gp, hgp⟩ := get_some (l := (cols ((rs.map Rw.d).map cel) ss j).s) (i := p + 1) (by rw [(cols_len _ ss j).2.2, HN.out]; omega)
                      have hj3 := HJ3.out.below HBP.out
                      obtain ⟨bw, ow, cw, hvw, hcw, hxw⟩ := hj3.getW hwp
                      obtain ⟨bs, os, cs, hvs, hcs, hxs⟩ := hj3.getS hgp
                      have hs0 : wr.cell? ⟨gs, 0, none⟩ = some (.slice (some ⟨bs, os, none⟩) n cs) := (hj3.blk.cell 0).trans (by rw [hvs, (cols_len _ ss j).2.2, HN.out]; rfl)
                      have hs1 : wr.cell? ⟨gs, 1, none⟩ = some (.slice (some ⟨bw, ow, none⟩) j cw) := (hj3.blk.cell 1).trans (by rw [hvw, (cols_len _ ss j).1]; rfl)
                      have HF := Lib.hid (show (cols ((rs.map Rw.d).map cel) ss j).f p = wrap64 (wp + gp.n) by unfold Co.f; rw [List.getD_eq_getElem?_getD, List.getD_eq_getElem?_getD, hwp, hgp]; rfl)
                      have hw5 : IntKind.i64.wrap ((p : Int) + 1) = (p : Int) + 1 := IntWalk.i64_in _ (by omega)
                      have hpn : (p : Int) + 1 < (n : Int) := by omega
                      have htn : ((p : Int) + 1).toNat = p + 1 := by omega
                      clear hwp hgp hj3 hvw hvs
                      go_upto_region 23 with fail
                      go_quiet (fail)
                      go_wp2_with fail
                      go_roundw
                      case rel =>
                        refine ⟨p + 1, wrap64 (z - wrap64 (wp + gp.n)), by omega, by omega, by go_num, rfl, ?_, below_drewN HBP.out _⟩
                        rw [HLS.out, show j - p = (j - (p + 1)) + 1 by omega, less, HF.out]
                      case measure => simp [intOf]; omega
                    · obtain rfl : p = j := by omega
                      have HLZ := Lib.hid (show less (cols ((rs.map Rw.d).map cel) ss p).f a (p - a) n0 = z by rw [HLS.out, Nat.sub_self]; rfl)
                      have HPS := Lib.hid (show pos (cel r.d) (q + 1) = p + 1 by rw [pos_succ HCL.out, HPA.out, HSN.out]; show a + (sp : Int).toNat = p + 1; omega)
                      have HNX := Lib.hid (show mx mm (ask (cols ((rs.map Rw.d).map cel) ss p).f p 0 (cel r.d)) = mx (mx m2 (some z)) (ask (cols ((rs.map Rw.d).map cel) ss p).f p (pos (cel r.d) (q + 1)) ((cel r.d).drop (q + 1))) by
                        rw [HPS.out, ask_before (by omega) (fun c hc => HSP.out c (List.mem_of_mem_drop hc)), mx_right, HASK.out, HAY.out, HLZ.out])
                      have hw6 : IntKind.i64.wrap ((p : Int) + 1) = (p : Int) + 1 := IntWalk.i64_in _ (by omega)
                      rcases m2 with _ | y
                      · go_wp2_with fail
                        rw [← hA2]
                        go_roundg (r.cs.length - (q + 1))
                        case rel => exact ⟨q + 1, some z, by omega, by go_num, by rw [HPS.out]; go_num, by go_num, by go_num, HNX.out, andThen HL3q.out HBP.out⟩
                        case measure => omega
                      · by_cases hyz : y < z
                        · have HYZ := Lib.hid hyz
                          go_wp2_with fail
                          rw [← hA2]
                          go_roundg (r.cs.length - (q + 1))
                          case rel => exact ⟨q + 1, some z, by omega, by go_num, by rw [HPS.out]; go_num, by go_num, by go_num, by rw [HNX.out]; simp only [mx]; rw [if_pos (by have := HYZ.out; omega)], andThen HL3q.out HBP.out⟩
                          case measure => omega
                        · have HYZ := Lib.hid hyz
                          go_wp2_with fail
                          rw [← hA2]
                          go_roundg (r.cs.length - (q + 1))
                          case rel => exact ⟨q + 1, some y, by omega, by go_num, by rw [HPS.out]; go_num, by go_num, by go_num, by rw [HNX.out]; simp only [mx]; rw [if_neg (by have := HYZ.out; omega)], andThen HL3q.out HBP.out⟩
                          case measure => omega
                · have c3 : ((a : Int) + (sp : Int) - 1 == (j : Int)) = false := by rw [beq_eq_false_iff_ne]; exact c2
                  have hw4 : IntKind.i64.wrap ((a : Int) + (sp : Int) - 1 + 1) = (a : Int) + (sp : Int) := (IntWalk.i64_in _ (by omega)).trans (by omega)
                  have HPS := Lib.hid (show pos (cel r.d) (q + 1) = a + sp by rw [pos_succ HCL.out, HPA.out, HSN.out]; rfl)
                  have HNX := Lib.hid (show mx mm (ask (cols ((rs.map Rw.d).map cel) ss j).f j 0 (cel r.d)) = mx m2 (ask (cols ((rs.map Rw.d).map cel) ss j).f j (pos (cel r.d) (q + 1)) ((cel r.d).drop (q + 1))) by
                    rw [HASK.out, HAD.out, if_neg (by rw [HSN.out]; show ¬ j < a + (sp : Int).toNat - 1; omega), if_neg (by rw [HSN.out]; show ¬ a + (sp : Int).toNat - 1 = j; omega), HPS.out, HSN.out]
                    rfl)
                  go_wp2_with fail
                  rw [← hA2]
                  go_roundg (r.cs.length - (q + 1))
                  case rel => exact ⟨q + 1, m2, by omega, by go_num, by rw [HPS.out]; go_num, by go_num, by go_num, HNX.out, andAlloc HBQ.out _⟩
                  case measure => omega
            · obtain rfl : q = r.cs.length := by omega
              have HNX := Lib.hid (show colM (cols ((rs.map Rw.d).map cel) ss j).f j none ((rs.map Rw.d).map cel) = colM (cols ((rs.map Rw.d).map cel) ss j).f j m2 (((rs.map Rw.d).map cel).drop (i + 1)) by
                rw [HCM.out, colM_drop (r := cel r.d) (by rw [List.getElem?_map, List.getElem?_map, HRK.out]; rfl), HASK.out, List.drop_of_length_le (by unfold cel; show ((r.cs.map Cl.d).map _).length ≤ _; simp)]
                show _ = colM _ j m2 _
                rw [show ask (cols ((rs.map Rw.d).map cel) ss j).f j (pos (cel r.d) r.cs.length) [] = none from rfl, mx_right])
              go_wp2_with fail
              try rw [Exit.noGoto_normal]
              try simp only [go_sem]
              go_wp2_with fail
              go_roundw
              case rel => exact ⟨i + 1, m2, by omega, by go_num, rfl, rfl, HNX.out, andThen HBW.out HBQ.out⟩
              case measure => simp [intOf]; omega
        · obtain rfl : i = m := by omega
          have HCE := Lib.hid (show colM (cols ((rs.map Rw.d).map cel) ss j).f j none ((rs.map Rw.d).map cel) = mm by
            rw [HCM.out, List.drop_of_length_le (by simp [HM.out])]
            rfl)
          have HJ2 := Lib.hid (HJ.out.below HBW.out)
          obtain ⟨W1, rfl⟩ : ∃ W, W = wr := ⟨_, rfl⟩
          have hls := (cols_len ((rs.map Rw.d).map cel) ss j).2.2
          have hlw := (cols_len ((rs.map Rw.d).map cel) ss j).1
          have hld := (cols_len ((rs.map Rw.d).map cel) ss j).2.1
          rw [HN.out] at hls
          obtain ⟨gk, ck, rfl, hck⟩ := HJ2.out.s0 (by omega)
          have HLN := Lib.hid (And.intro hls (And.intro hlw hld))
          have hs0 : W1.cell? ⟨gs, 0, none⟩ = some (.slice (some ⟨gk, 0, none⟩) n ck) := (HJ2.out.blk.cell 0).trans (by rw [hls]; rfl)
          have hw7 : IntKind.i64.wrap ((j : Int) + 1) = (j : Int) + 1 := IntWalk.i64_in _ (by omega)
          clear hls hlw hld hcm hbw
          rcases mm with _ | y
          · try simp only [Option.getD_none, Option.isSome_none]
            have hjn2 : (j : Int) + 1 < (n : Int) := by omega
            have htn : ((j : Int) + 1).toNat = j + 1 := by omega
            have HT := Lib.hid (show W1.there gk ((j + 1) * 5) 5 from own_here HJ2.out.os (j + 1) (by rw [HLN.out.1]; omega))
            obtain ⟨u0, k0⟩ := Option.isSome_iff_exists.1 (HT.out 0 (by decide)).1
            obtain ⟨u1, k1⟩ := Option.isSome_iff_exists.1 (HT.out 1 (by decide)).1
            obtain ⟨u2, k2⟩ := Option.isSome_iff_exists.1 (HT.out 2 (by decide)).1
            obtain ⟨u3, k3⟩ := Option.isSome_iff_exists.1 (HT.out 3 (by decide)).1
            obtain ⟨u4, k4⟩ := Option.isSome_iff_exists.1 (HT.out 4 (by decide)).1
            have f0 := (HT.out 0 (by decide)).2
            have f1 := (HT.out 1 (by decide)).2
            have f2 := (HT.out 2 (by decide)).2
            have f3 := (HT.out 3 (by decide)).2
            have f4 := (HT.out 4 (by decide)).2
            rw [Nat.add_zero] at k0 f0
            go_upto_region 31 with fail
            clear k0 k1 k2 k3 k4 f0 f1 f2 f3 f4
            have HJ4 := Lib.hid (MJ.skip (k := j + 1) (x := gz) HJ2.out (by rw [HLN.out.1]; omega))
            have HNX := Lib.hid (cols_none HCE.out)
            clear hs0
            generalize hW3 : W1.setCells gk ((j + 1) * 5) gz.vals = W3 at HJ4
            have hW3' : ((((W1.setCell ⟨gk, (j + 1) * 5, none⟩ (.int .i64 0)).setCell ⟨gk, (j + 1) * 5 + 1, none⟩ (.int .i64 0)).setCell ⟨gk, (j + 1) * 5 + 2, none⟩ (.int .i64 0)).setCell ⟨gk, (j + 1) * 5 + 3, none⟩ (.int .i64 0)).setCell ⟨gk, (j + 1) * 5 + 4, none⟩ (.int .i64 0) = W3 := hW3
            try rw [hW3']
            clear hW3 hW3'
            have hq0 : W3.cell? ⟨gs, 1, none⟩ = some vw := (HJ4.out.blk.cell 1).trans rfl
            have hq1 := HJ4.out.blk.free 1
            have hq2 := HJ4.out.blk.lt
            have hsz := HJ4.out.low.size
            have hown1 := Lib.hid (show (W3.alloc (.cells #[.int .i64 0] 3)).ownsRow w1.heap.size 3 1 vw j ((cols ((rs.map Rw.d).map cel) ss j).w.map intV) by have := HJ4.out.ow.alloc (.cells #[.int .i64 0] 3); rw [HLN.out.2.1] at this; exact this)
            go_upto_region 32 with (at_builtin; refine wpList_push2 rfl (.tmp 125) (.tmp 127) 26 rfl w1.heap.size 3 (.int .i64 0) 1 8 Try.underlying26 info_i rfl (by decide) (by decide) vw j ((cols ((rs.map Rw.d).map cel) ss j).w.map intV) rfl hown1.out (by simp; omega) ⟨W3.heap.size, 0, none⟩ 1 [.int .i64 0] rfl rfl (new_cells (Blk.new _ _ _)) (by simp [Value.oneCell']) (by omega) ?_; intro v8 W8 hown8 hg8 _; obtain ⟨A8, c8, rfl, _⟩ := SegS.own (S := fun _ => True) hown8 (fun _ _ => trivial); have hb8 := HJ4.out.bW hg8; have y1 := (hb8.cell 1).trans rfl; have y2 := hb8.free 1; have y3 := hb8.lt)
            have HJ8 := Lib.hid (MJ.pushW (x := 0) HJ4.out (by rw [HLN.out.2.1]; exact hown8) hg8)
            clear hq0 hq1 hq2 hown8 hg8 hb8 y1 y2 y3
            generalize W8.setCell ⟨gs, 1, none⟩ (.slice A8 (j + 1) c8) = W9 at *
            have hq0 : W9.cell? ⟨gs, 2, none⟩ = some vd := (HJ8.out.blk.cell 2).trans rfl
            have hq1 := HJ8.out.blk.free 2
            have hq2 := HJ8.out.blk.lt
            have hsz9 := HJ8.out.low.size
            have hown2 := Lib.hid (show (W9.alloc (.cells #[.bool true] 4)).ownsRow w1.heap.size 4 1 vd j ((cols ((rs.map Rw.d).map cel) ss j).g.map boolV) by have := HJ8.out.od.alloc (.cells #[.bool true] 4); rw [HLN.out.2.2] at this; exact this)
            go_wp2_with (at_builtin; refine wpList_push2 rfl (.tmp 135) (.tmp 138) 27 rfl w1.heap.size 4 (.bool false) 1 1 Try.underlying27 info_b rfl (by decide) (by decide) vd j ((cols ((rs.map Rw.d).map cel) ss j).g.map boolV) rfl hown2.out (by simp; omega) ⟨W9.heap.size, 0, none⟩ 1 [.bool true] rfl rfl (new_cells (Blk.new _ _ _)) (by simp [Value.oneCell']) (by omega) ?_; intro vb Wb hownb hgb _; obtain ⟨Ab, cb, rfl, _⟩ := SegS.own (S := fun _ => True) hownb (fun _ _ => trivial); have hbb := HJ8.out.bD hgb; have y1 := (hbb.cell 2).trans rfl; have y2 := hbb.free 2; have y3 := hbb.lt)
            have HJb := Lib.hid (MJ.pushD (x := true) HJ8.out (by rw [HLN.out.2.2]; exact hownb) hgb)
            clear hq0 hq1 hq2 hownb hgb hbb y1 y2 y3
            go_roundw
            case rel => exact ⟨j + 1, _, _, _, by omega, by go_num, by rw [HNX.out]; exact HJb.out⟩
            case measure => simp [intOf]; omega
          · try simp only [Option.getD_some, Option.isSome_some]
            have HNX := Lib.hid (cols_some HCE.out)
            clear hs0
            go_upto_region 31 with fail
            have hq0 : W1.cell? ⟨gs, 1, none⟩ = some vw := (HJ2.out.blk.cell 1).trans rfl
            have hq1 := HJ2.out.blk.free 1
            have hq2 := HJ2.out.blk.lt
            have hsz := HJ2.out.low.size
            have hown1 := Lib.hid (show (W1.alloc (.cells #[.int .i64 y] 3)).ownsRow w1.heap.size 3 1 vw j ((cols ((rs.map Rw.d).map cel) ss j).w.map intV) by have := HJ2.out.ow.alloc (.cells #[.int .i64 y] 3); rw [HLN.out.2.1] at this; exact this)
            go_upto_region 32 with (at_builtin; refine wpList_push2 rfl (.tmp 125) (.tmp 127) 26 rfl w1.heap.size 3 (.int .i64 0) 1 8 Try.underlying26 info_i rfl (by decide) (by decide) vw j ((cols ((rs.map Rw.d).map cel) ss j).w.map intV) rfl hown1.out (by simp; omega) ⟨W1.heap.size, 0, none⟩ 1 [.int .i64 y] rfl rfl (new_cells (Blk.new _ _ _)) (by simp [Value.oneCell']) (by omega) ?_; intro v8 W8 hown8 hg8 _; obtain ⟨A8, c8, rfl, _⟩ := SegS.own (S := fun _ => True) hown8 (fun _ _ => trivial); have hb8 := HJ2.out.bW hg8; have y1 := (hb8.cell 1).trans rfl; have y2 := hb8.free 1; have y3 := hb8.lt)
            have HJ8 := Lib.hid (MJ.pushW (x := y) HJ2.out (by rw [HLN.out.2.1]; exact hown8) hg8)
            clear hq0 hq1 hq2 hown8 hg8 hb8 y1 y2 y3
            generalize W8.setCell ⟨gs, 1, none⟩ (.slice A8 (j + 1) c8) = W9 at *
            have hq0 : W9.cell? ⟨gs, 2, none⟩ = some vd := (HJ8.out.blk.cell 2).trans rfl
            have hq1 := HJ8.out.blk.free 2
            have hq2 := HJ8.out.blk.lt
            have hsz9 := HJ8.out.low.size
            have hown2 := Lib.hid (show (W9.alloc (.cells #[.bool false] 4)).ownsRow w1.heap.size 4 1 vd j ((cols ((rs.map Rw.d).map cel) ss j).g.map boolV) by have := HJ8.out.od.alloc (.cells #[.bool false] 4); rw [HLN.out.2.2] at this; exact this)
            go_wp2_with (at_builtin; refine wpList_push2 rfl (.tmp 135) (.tmp 138) 27 rfl w1.heap.size 4 (.bool false) 1 1 Try.underlying27 info_b rfl (by decide) (by decide) vd j ((cols ((rs.map Rw.d).map cel) ss j).g.map boolV) rfl hown2.out (by simp; omega) ⟨W9.heap.size, 0, none⟩ 1 [.bool false] rfl rfl (new_cells (Blk.new _ _ _)) (by simp [Value.oneCell']) (by omega) ?_; intro vb Wb hownb hgb _; obtain ⟨Ab, cb, rfl, _⟩ := SegS.own (S := fun _ => True) hownb (fun _ _ => trivial); have hbb := HJ8.out.bD hgb; have y1 := (hbb.cell 2).trans rfl; have y2 := hbb.free 2; have y3 := hbb.lt)
            have HJb := Lib.hid (MJ.pushD (x := false) HJ8.out (by rw [HLN.out.2.2]; exact hownb) hgb)
            clear hq0 hq1 hq2 hownb hgb hbb y1 y2 y3
            go_roundw
            case rel => exact ⟨j + 1, _, _, _, by omega, by go_num, by rw [HNX.out]; exact HJb.out⟩
            case measure => simp [intOf]; omega
    · obtain rfl : j = n - 1 := by omega
      have hC : cols ((rs.map Rw.d).map cel) ss (n - 1) = mdC ss (rs.map Rw.d) := by unfold mdC; rw [HN.out]
      rw [hC] at hJ
      have hlw : (mdC ss (rs.map Rw.d)).w.length = n - 1 := by rw [← hC]; exact (cols_len _ ss _).1
      have HMD := Lib.hid (show mdE ss (rs.map Rw.d) = if (mdC ss (rs.map Rw.d)).w.all dimB = true then 0 else 20 from if_pos HE.out)
      have HJ := Lib.hid hJ
      obtain ⟨W1, rfl⟩ : ∃ W, W = wr := ⟨_, rfl⟩
      clear hJ hC
      generalize hCC : mdC ss (rs.map Rw.d) = C at HMD HJ hlw
      have HCC := Lib.hid hCC
      clear hCC
      obtain ⟨gw, cw, rfl, hcw⟩ := own_some HJ.out.ow (by omega)
      have hs1 : W1.cell? ⟨gs, 1, none⟩ = some (.slice (some ⟨gw, 0, none⟩) (n - 1) cw) := (HJ.out.blk.cell 1).trans (by rw [hlw]; rfl)
      have hcells : ∀ i x, C.w[i]? = some x → W1.cell? ⟨gw, i, none⟩ = some (.int .i64 x) := fun i x hx => by
        have hi : i < C.w.length := by
          rcases Nat.lt_or_ge i C.w.length with h | h
          · exact h
          · rw [List.getElem?_eq_none h] at hx; cases hx
        rw [HJ.out.ow.cellAt i (by omega), List.getElem?_map, hx]
        rfl
      have HCE := Lib.hid hcells
      have HLW := Lib.hid hlw
      clear hcells hlw
      go_wp2_with fail
      clear hs1
      go_loopw [148] (fun v148 wr => ∃ i : Nat, i ≤ n - 1 ∧ v148 = .int .i64 (i : Int) ∧ (C.w.take i).all dimB = true ∧ Below W1.heap.size W1 wr) (fun v148 _ => n - 1 - (intOf v148).toNat)
      case atStart => exact ⟨0, by omega, rfl, by simp, Below.refl _ _⟩
      case round =>
        obtain ⟨i, hi, rfl, hall, hbw⟩ := hrel
        have HBW := Lib.hid hbw
        clear hbw
        have HAL := Lib.hid hall
        clear hall
        by_cases hlt2 : i < n - 1
        · obtain ⟨x, hx⟩ := get_some (l := C.w) (i := i) (by rw [HLW.out]; exact hlt2)
          have hcx : wr.cell? ⟨gw, i, none⟩ = some (.int .i64 x) := (HBW.out.cell (p := ⟨gw, i, none⟩) (HJ.out.ow.lt gw rfl).2).trans (HCE.out i x hx)
          have hii : (i : Int) < ((n - 1 : Nat) : Int) := by omega
          have HX := Lib.hid hx
          clear hx
          cases hd : dimB x
          · have HD := Lib.hid hd
            have HBAD := Lib.hid (show mdE ss (rs.map Rw.d) = 20 by
              rw [HMD.out, if_neg]
              intro h
              have h1 := List.all_eq_true.1 h x (List.mem_of_getElem? HX.out)
              rw [HD.out] at h1
              cases h1)
            clear hd
            go_wp2_with (go_at_call 69; refine (dimen_al _ _).mono ?_; rintro e w' ⟨rfl, rfl⟩; rw [HD.out])
            go_returns
            exact MdOut.no HBAD.out (by decide) (andThen (andThen HB1.out HJ.out.low) HBW.out)
          · have HD := Lib.hid hd
            clear hd
            go_wp2_with (go_at_call 69; refine (dimen_al _ _).mono ?_; rintro e w' ⟨rfl, rfl⟩; rw [HD.out])
            go_roundw
            case rel => exact ⟨i + 1, by omega, by go_num, by rw [List.take_add_one, HX.out, List.all_append, HAL.out]; simp [HD.out], HBW.out⟩
            case measure => simp [intOf]; omega
        · have HG := Lib.hid (show mdE ss (rs.map Rw.d) = 0 by
            rw [HMD.out, if_pos]
            have := HAL.out
            rwa [List.take_of_length_le (by rw [HLW.out]; omega)] at this)
          go_wp2_with fail
          go_returns
          show MdOutC (mdE ss (rs.map Rw.d)) (mdC ss (rs.map Rw.d)) w _ _
          rw [HCC.out]
          exact MdOut.yes HG.out (andThen (andThen HB1.out HJ.out.low) HBW.out) HB1.out.size (HJ.out.below HBW.out)
theorem made_al (A : Option Addr) (ss : List G) (c : Nat) (B : Option Addr) (rs : List Rw) (k : Nat) (w : World) (hS : Row w A ss) (hR : RsOk w (fun _ => True) B k rs) (h63 : ss.length ≤ maxLen) :
    Calls Try.prog 35 #[.slice A ss.length c, .slice B rs.length k] w (MdOut ss (rs.map Rw.d) w) := by
  by_cases hE : ckE ss (rs.map Rw.d) = 0
  · exact made_go A ss c B rs k w hS hR h63 hE
  · exact made_bad A ss c B rs k w hS hR h63 hE
end Go.Proofs.Ytoboecenlangmaa.Al
end
section
namespace Go.Proofs.Ytoboecenlangmaa.Al
open Go.ChangeShapes Go.WideShapes Go.ChangeAt Go.RowKit
open Me Np No
open Gl (G Row)
set_option linter.unusedVariables false
set_option linter.unusedSimpArgs false

def WdOut (E : Int) (C : Co) (w : World) (e : Ending) (w' : World) : Prop :=
  ∃ A1 n1 c1 A2 n2 c2, e = .returned (.tuple #[.slice A1 n1 c1, .slice A2 n2 c2, .int .i64 E]) ∧ Below w.heap.size w w' ∧
    ((E = 0 ∧ w'.ownsRow w.heap.size 3 1 (.slice A1 n1 c1) n1 (C.w.map intV) ∧ n1 = C.w.length ∧ w'.ownsRow w.heap.size 4 1 (.slice A2 n2 c2) n2 (C.g.map boolV) ∧ n2 = C.g.length) ∨ (¬ E = 0 ∧ A1 = none ∧ n1 = 0 ∧ c1 = 0 ∧ A2 = none ∧ n2 = 0 ∧ c2 = 0))
theorem base_of {w : World} {base base' : Nat} {e : TypeId} {size n : Nat} {v : Value} {xs : List Value} (h : w.ownsRow base e size v n xs) (hb : base' ≤ base) : w.ownsRow base' e size v n xs := by
  rcases h with ⟨h1, h2⟩
  refine ⟨h1, ?_⟩
  rcases h2 with h2 | ⟨g, cap, cur, h3, h4, h5⟩
  · exact .inl h2
  · exact .inr ⟨g, cap, cur, h3, by omega, h5⟩
theorem widths_of (A : Option Addr) (n c : Nat) (B : Option Addr) (m k : Nat) (w : World) (E : Int) (C : Co) (h : Calls Try.prog 35 #[.slice A n c, .slice B m k] w (MdOutC E C w)) :
    Calls Try.prog 12 #[.slice A n c, .slice B m k] w (WdOut E C w) := by
  have H := Lib.hid h
  clear h
  by_cases hE : E = 0
  · have q : (E != 0) = false := by simp [hE]
    have HE := Lib.hid hE
    clear hE
    go_enter Try.func12, Try.ntmps12
    go_wp2_with fail
    refine H.out.mono ?_
    rintro e w1 ⟨v, rfl, hb1, hj0⟩
    obtain ⟨w0, g, vs, vw, vd, hw0, rfl, hj⟩ := hj0 HE.out
    clear hj0
    obtain ⟨A1, c1, rfl, _⟩ := SegS.own (S := fun _ => True) hj.ow (fun _ _ => trivial)
    obtain ⟨A2, c2, rfl, _⟩ := SegS.own (S := fun _ => True) hj.od (fun _ _ => trivial)
    have HJ := Lib.hid (And.intro (base_of hj.ow hw0) (base_of hj.od hw0))
    have HB := Lib.hid hb1
    have k1 : w1.cell? ⟨g, 1, none⟩ = some (.slice A1 C.w.length c1) := (hj.blk.cell 1).trans rfl
    have k2 : w1.cell? ⟨g, 2, none⟩ = some (.slice A2 C.g.length c2) := (hj.blk.cell 2).trans rfl
    clear hj hb1
    go_upto_region 4 with fail
    go_quiet (fail)
    go_wp2_with fail
    go_returns
    exact ⟨A1, _, c1, A2, _, c2, by rw [HE.out]; rfl, below_drewN HB.out _, .inl ⟨HE.out, HJ.out.1, rfl, HJ.out.2, rfl⟩⟩
  · have q : (E != 0) = true := by simp [hE]
    have HE := Lib.hid hE
    clear hE
    go_enter Try.func12, Try.ntmps12
    go_wp2_with fail
    refine H.out.mono ?_
    rintro e w1 ⟨v, rfl, hb1, _⟩
    go_wp2_with fail
    go_returns
    exact ⟨none, 0, 0, none, 0, 0, rfl, hb1, .inr ⟨HE.out, rfl, rfl, rfl, rfl, rfl, rfl⟩⟩
theorem widths_al (A : Option Addr) (ss : List G) (c : Nat) (B : Option Addr) (rs : List Rw) (k : Nat) (w : World) (hS : Row w A ss) (hR : RsOk w (fun _ => True) B k rs) (h63 : ss.length ≤ maxLen) :
    Calls Try.prog 12 #[.slice A ss.length c, .slice B rs.length k] w (WdOut (mdE ss (rs.map Rw.d)) (mdC ss (rs.map Rw.d)) w) :=
  widths_of A ss.length c B rs.length k w _ _ (made_al A ss c B rs k w hS hR h63)
theorem num21 (x : Int) (w : World) : Calls Try.prog 13 #[.int .i64 x] w fun e w' => e = .returned (.int .i64 x) ∧ w = w' := by
  go_enter Try.func13, Try.ntmps13
  go_wp2
  go_ret
  exact ⟨rfl, rfl⟩
def KnP (x : Int) (w : World) (e : Ending) (w' : World) : Prop := ∃ g, e = .returned (.slice (some ⟨g, 0, none⟩) 1 1) ∧ LsOk w' (fun _ => True) (some ⟨g, 0, none⟩) 1 [kernN x] ∧ Below w.heap.size w w'
section
attribute [local go_sem ↓] bldN_eq
theorem kern_ok (w : World) (x : Int) : LsOk (w.alloc (.cells (ncs (kernN x)).toArray 54)) (fun _ => True) (some ⟨w.heap.size, 0, none⟩) 1 [kernN x] :=
  ⟨by simp, by simp, (by intro h; cases h), .inr ⟨w.heap.size, 0, rfl, by simp, trivial, fun j u hu => by rw [Nat.zero_add, (Blk.new w _ _).cell j]; simpa using hu⟩⟩
set_option maxHeartbeats 1000000 in
set_option maxRecDepth 100000 in
theorem kern5 (w : World) : Calls Try.prog 36 #[.int .i64 5] w (KnP 327680 w) := by
  have hb1 : ∀ w, (bldN #[(0, .int .i64 8), (3, .int .i64 327680)]).run Try.prog w = .ok (.agg (nc (kernN 327680))) w := fun w => by rw [← bldN_eq]; exact run_build w 54 _ _ (by kernel_rfl)
  go_enter Try.func36, Try.ntmps36
  go_wp2_with (first | (refine wpList_ex (o := ⟨some 6, _, _, _, _, _⟩) (v := .slice (some ⟨w.heap.size, 0, none⟩) 1 1) (w' := w.alloc (.cells ([kernN 327680].flatMap ncs).toArray 54)) rfl (by kernel_rfl) ?_))
  go_ret
  exact ⟨_, rfl, kern_ok w 327680, andAlloc (Below.refl _ _) _⟩
set_option maxHeartbeats 1000000 in
set_option maxRecDepth 100000 in
theorem kern3 (w : World) : Calls Try.prog 36 #[.int .i64 3] w (KnP 196608 w) := by
  have hb1 : ∀ w, (bldN #[(0, .int .i64 8), (3, .int .i64 196608)]).run Try.prog w = .ok (.agg (nc (kernN 196608))) w := fun w => by rw [← bldN_eq]; exact run_build w 54 _ _ (by kernel_rfl)
  go_enter Try.func36, Try.ntmps36
  go_wp2_with (first | (refine wpList_ex (o := ⟨some 6, _, _, _, _, _⟩) (v := .slice (some ⟨w.heap.size, 0, none⟩) 1 1) (w' := w.alloc (.cells ([kernN 196608].flatMap ncs).toArray 54)) rfl (by kernel_rfl) ?_))
  go_ret
  exact ⟨_, rfl, kern_ok w 196608, andAlloc (Below.refl _ _) _⟩
set_option maxHeartbeats 1000000 in
set_option maxRecDepth 100000 in
theorem kern2 (w : World) : Calls Try.prog 36 #[.int .i64 2] w (KnP 131072 w) := by
  have hb1 : ∀ w, (bldN #[(0, .int .i64 8), (3, .int .i64 131072)]).run Try.prog w = .ok (.agg (nc (kernN 131072))) w := fun w => by rw [← bldN_eq]; exact run_build w 54 _ _ (by kernel_rfl)
  go_enter Try.func36, Try.ntmps36
  go_wp2_with (first | (refine wpList_ex (o := ⟨some 6, _, _, _, _, _⟩) (v := .slice (some ⟨w.heap.size, 0, none⟩) 1 1) (w' := w.alloc (.cells ([kernN 131072].flatMap ncs).toArray 54)) rfl (by kernel_rfl) ?_))
  go_ret
  exact ⟨_, rfl, kern_ok w 131072, andAlloc (Below.refl _ _) _⟩
set_option maxHeartbeats 1000000 in
set_option maxRecDepth 100000 in
theorem kern7 (w : World) : Calls Try.prog 36 #[.int .i64 7] w (KnP 458752 w) := by
  have hb1 : ∀ w, (bldN #[(0, .int .i64 8), (3, .int .i64 458752)]).run Try.prog w = .ok (.agg (nc (kernN 458752))) w := fun w => by rw [← bldN_eq]; exact run_build w 54 _ _ (by kernel_rfl)
  go_enter Try.func36, Try.ntmps36
  go_wp2_with (first | (refine wpList_ex (o := ⟨some 6, _, _, _, _, _⟩) (v := .slice (some ⟨w.heap.size, 0, none⟩) 1 1) (w' := w.alloc (.cells ([kernN 458752].flatMap ncs).toArray 54)) rfl (by kernel_rfl) ?_))
  go_ret
  exact ⟨_, rfl, kern_ok w 458752, andAlloc (Below.refl _ _) _⟩
end
/-- The law's own rows. -/
def kRow (g a b : Nat) (x y : Int) : Rw := ⟨some ⟨g, 0, none⟩, 2, [⟨some ⟨a, 0, none⟩, 1, [kernN x], 1⟩, ⟨some ⟨b, 0, none⟩, 1, [kernN y], 1⟩], none, 0, []⟩
def kSk : List G := [gz, ⟨65536, 0, 0, 0, 0⟩, gz]
theorem kRow_ok {w : World} {g a b : Nat} {x y : Int} (h : Blk w g 38 #[.slice (some ⟨a, 0, none⟩) 1 1, .int .i64 1, .slice (some ⟨b, 0, none⟩) 1 1, .int .i64 1]) (ha : LsOk w (fun _ => True) (some ⟨a, 0, none⟩) 1 [kernN x]) (hb : LsOk w (fun _ => True) (some ⟨b, 0, none⟩) 1 [kernN y]) : (kRow g a b x y).Ok w (fun _ => True) := by
  refine ⟨by simp [kRow], by simp [kRow], .inr ⟨g, 0, rfl, h.lt, trivial, fun j u hu => ?_⟩, ?_, ⟨by simp [kRow], by simp [kRow], fun _ => rfl, .inl rfl⟩⟩
  · rw [Nat.zero_add, h.cell j]
    simpa [kRow, Cl.vals] using hu
  · intro z hz
    rcases List.mem_cons.1 hz with rfl | hz
    · exact ha
    · obtain rfl := List.mem_singleton.1 hz
      exact hb
theorem k_data (w : World) (g1 a b g2 c d : Nat) : mdE kSk ([kRow g1 a b 327680 196608, kRow g2 c d 131072 458752].map Rw.d) = 0 ∧ (mdC kSk ([kRow g1 a b 327680 196608, kRow g2 c d 131072 458752].map Rw.d)).w = [327680, 458752] ∧ (mdC kSk ([kRow g1 a b 327680 196608, kRow g2 c d 131072 458752].map Rw.d)).g = [false, false] := by
  obtain ⟨e1, e2, e3, e4⟩ := kern_four w
  have hd : [kRow g1 a b 327680 196608, kRow g2 c d 131072 458752].map Rw.d = [([([kernN 327680], 1), ([kernN 196608], 1)], []), ([([kernN 131072], 1), ([kernN 458752], 1)], [])] := rfl
  rw [hd]
  have hc0 : chk [] = 0 := by decide
  have hck : ckE kSk [([([kernN 327680], 1), ([kernN 196608], 1)], []), ([([kernN 131072], 1), ([kernN 458752], 1)], [])] = 0 := by
    have hg : kSk.all G.ok = true := by decide
    unfold ckE
    rw [if_neg (by decide), if_pos hg]
    simp only [rowsE, rowErr, celE, e1, e2, e3, e4, hc0]
    simp [kSk]
  have hcc : ([([([kernN 327680], 1), ([kernN 196608], 1)], []), ([([kernN 131072], 1), ([kernN 458752], 1)], [])] : List RD).map cel = [[(327680, 1), (196608, 1)], [(131072, 1), (458752, 1)]] := by
    simp [cel, e1, e2, e3, e4]
  have hco : mdC kSk [([([kernN 327680], 1), ([kernN 196608], 1)], []), ([([kernN 131072], 1), ([kernN 458752], 1)], [])] = ⟨[327680, 458752], [false, false], kSk⟩ := by
    unfold mdC
    rw [hcc]
    rfl
  refine ⟨?_, by rw [hco], by rw [hco]⟩
  unfold mdE
  rw [if_pos hck, hco]
  rfl
end Go.Proofs.Ytoboecenlangmaa.Al
end
section
namespace Go.Proofs.Ytoboecenlangmaa.Al
open Go.ChangeShapes Go.WideShapes Go.ChangeAt Go.RowKit
open Me Np No
open Gl (G Row)
set_option linter.unusedVariables false
set_option linter.unusedSimpArgs false

theorem seg_two {w : World} {l : List Int} {A : Option Addr} (h : Seg w w.heap.size A (l.map intV)) : Seg w w.heap.size A (l.map (Value.int .i64)) := h
set_option maxHeartbeats 4000000 in
set_option maxRecDepth 100000 in
theorem knows21 (w : World) : Calls Try.prog 14 #[] w fun e w' => e = .returned (.bool true) ∧ Below w.heap.size w w' := by
  go_enter Try.func14, Try.ntmps14
  go_wp2_with fail
  obtain ⟨W0, hW0⟩ : ∃ W, W = w.alloc (.cells #[.int .i64 0, .int .i64 0, .int .i64 0, .int .i64 0, .int .i64 0, .int .i64 65536, .int .i64 0, .int .i64 0, .int .i64 0, .int .i64 0, .int .i64 0, .int .i64 0, .int .i64 0, .int .i64 0, .int .i64 0] 40) := ⟨_, rfl⟩
  have hb0 : Below w.heap.size w W0 := by rw [hW0]; exact andAlloc (Below.refl _ _) _
  have hs0 : Blk W0 w.heap.size 40 #[.int .i64 0, .int .i64 0, .int .i64 0, .int .i64 0, .int .i64 0, .int .i64 65536, .int .i64 0, .int .i64 0, .int .i64 0, .int .i64 0, .int .i64 0, .int .i64 0, .int .i64 0, .int .i64 0, .int .i64 0] := by rw [hW0]; exact Blk.new _ _ _
  rw [← hW0]
  clear hW0
  refine (kern5 _).mono ?_
  rintro e w1 ⟨k1, rfl, h1, b1⟩
  go_wp2_with fail
  refine (kern3 _).mono ?_
  rintro e w2 ⟨k2, rfl, h2, b2⟩
  go_wp2_with fail
  obtain ⟨W3, hW3⟩ : ∃ W, W = w2.alloc (.cells #[.slice (some ⟨k1, 0, none⟩) 1 1, .int .i64 1, .slice (some ⟨k2, 0, none⟩) 1 1, .int .i64 1] 38) := ⟨_, rfl⟩
  have b3 : Below w2.heap.size w2 W3 := by rw [hW3]; exact andAlloc (Below.refl _ _) _
  have s3 : Blk W3 w2.heap.size 38 #[.slice (some ⟨k1, 0, none⟩) 1 1, .int .i64 1, .slice (some ⟨k2, 0, none⟩) 1 1, .int .i64 1] := by rw [hW3]; exact Blk.new _ _ _
  rw [← hW3]
  clear hW3
  refine (kern2 _).mono ?_
  rintro e w4 ⟨k3, rfl, h3, b4⟩
  go_wp2_with fail
  refine (kern7 _).mono ?_
  rintro e w5 ⟨k4, rfl, h4, b5⟩
  go_wp2_with fail
  obtain ⟨W6, hW6⟩ : ∃ W, W = w5.alloc (.cells #[.slice (some ⟨k3, 0, none⟩) 1 1, .int .i64 1, .slice (some ⟨k4, 0, none⟩) 1 1, .int .i64 1] 38) := ⟨_, rfl⟩
  have b6 : Below w5.heap.size w5 W6 := by rw [hW6]; exact andAlloc (Below.refl _ _) _
  have s6 : Blk W6 w5.heap.size 38 #[.slice (some ⟨k3, 0, none⟩) 1 1, .int .i64 1, .slice (some ⟨k4, 0, none⟩) 1 1, .int .i64 1] := by rw [hW6]; exact Blk.new _ _ _
  have z6 : w5.heap.size + 1 = W6.heap.size := by rw [hW6]; simp
  rw [← hW6, z6]
  clear hW6 z6
  obtain ⟨W7, hW7⟩ : ∃ W, W = W6.alloc (.cells #[.slice (some ⟨w2.heap.size, 0, none⟩) 2 2, .slice none 0 0, .slice (some ⟨w5.heap.size, 0, none⟩) 2 2, .slice none 0 0] 36) := ⟨_, rfl⟩
  have b7 : Below W6.heap.size W6 W7 := by rw [hW7]; exact andAlloc (Below.refl _ _) _
  have s7 : Blk W7 W6.heap.size 36 #[.slice (some ⟨w2.heap.size, 0, none⟩) 2 2, .slice none 0 0, .slice (some ⟨w5.heap.size, 0, none⟩) 2 2, .slice none 0 0] := by rw [hW7]; exact Blk.new _ _ _
  rw [← hW7]
  clear hW7
  have c57 := andThen b6 b7
  have c47 := andThen b5 c57
  have c37 := andThen b4 c47
  have c27 := andThen b3 c37
  have c17 := andThen b2 c27
  have c07 := andThen b1 c17
  have hR1 : (kRow w2.heap.size k1 k2 327680 196608).Ok W7 (fun _ => True) := kRow_ok (s3.below c37 s3.lt) (h1.keep (Kp.below _ c17)) (h2.keep (Kp.below _ c27))
  have hR2 : (kRow w5.heap.size k3 k4 131072 458752).Ok W7 (fun _ => True) := kRow_ok (s6.below b7 s6.lt) (h3.keep (Kp.below _ c47)) (h4.keep (Kp.below _ c57))
  have hRR : RsOk W7 (fun _ => True) (some ⟨W6.heap.size, 0, none⟩) 2 [kRow w2.heap.size k1 k2 327680 196608, kRow w5.heap.size k3 k4 131072 458752] :=
    ⟨by simp, by simp, .inr ⟨W6.heap.size, 0, rfl, s7.lt, trivial, fun j u hu => by rw [Nat.zero_add, s7.cell j]; simpa [kRow, Rw.vals] using hu⟩, fun r hr => by
      rcases List.mem_cons.1 hr with rfl | hr
      · exact hR1
      · obtain rfl := List.mem_singleton.1 hr
        exact hR2⟩
  have s0' := hs0.below c07 hs0.lt
  have hSK : Row W7 (some ⟨w.heap.size, 0, none⟩) kSk := .inr ⟨w.heap.size, 0, rfl, s0'.lt, fun j u hu => by rw [Nat.zero_add, s0'.cell j]; simpa [kSk, gz, G.vals] using hu⟩
  have hw := widths_al (some ⟨w.heap.size, 0, none⟩) kSk 3 (some ⟨W6.heap.size, 0, none⟩) [kRow w2.heap.size k1 k2 327680 196608, kRow w5.heap.size k3 k4 131072 458752] 2 W7 hSK hRR (by decide)
  obtain ⟨q1, q2, q3⟩ := k_data w w2.heap.size k1 k2 w5.heap.size k3 k4
  rw [q1] at hw
  generalize mdC kSk ([kRow w2.heap.size k1 k2 327680 196608, kRow w5.heap.size k3 k4 131072 458752].map Rw.d) = C at hw q2 q3
  have HW := Lib.hid (show Calls Try.prog 12 #[.slice (some ⟨w.heap.size, 0, none⟩) 3 3, .slice (some ⟨W6.heap.size, 0, none⟩) 2 2] W7 (WdOut 0 C W7) from hw)
  have HLW := Lib.hid (andThen hb0 c07)
  have HQ := Lib.hid (And.intro q2 q3)
  clear hw q1 q2 q3 hSK s0' hRR hR1 hR2 c57 c47 c37 c27 c17 c07 h1 h2 h3 h4 s3 s6 s7 hs0 b1 b2 b3 b4 b5 b6 b7 hb0
  refine HW.out.mono ?_
  rintro e w8 ⟨A1, n1, c1, A2, n2, c2, rfl, hb8, hcase⟩
  rcases hcase with ⟨_, o1, hn1, o2, hn2⟩ | ⟨h, _⟩
  case inr => exact absurd rfl h
  rw [HQ.out.1] at o1 hn1
  rw [HQ.out.2] at o2 hn2
  simp only [List.length_cons, List.length_nil, Nat.zero_add, Nat.reduceAdd] at hn1 hn2
  subst hn1 hn2
  obtain ⟨g2, c2', e2, hc2⟩ := own_some o2 (by decide)
  injection e2 with e2 _ e3
  subst e2 e3
  have d0 : w8.cell? ⟨g2, 0, none⟩ = some (.bool false) := o2.cellAt 0 (by decide)
  have d1 : w8.cell? ⟨g2, 1, none⟩ = some (.bool false) := o2.cellAt 1 (by decide)
  have dl := (o2.lt g2 rfl).2
  obtain ⟨A1', c1', e4, _, _, _, hs1⟩ := SegS.own (S := fun _ => True) o1 (fun _ _ => trivial)
  injection e4 with e4 _ e5
  subst e4 e5
  have hb9 := andAlloc (Below.refl w8.heap.size w8) (.cells #[.int .i64 327680, .int .i64 458752] 3)
  have HSI := Lib.hid (Si.same_ints A1 (some ⟨w8.heap.size, 0, none⟩) [327680, 458752] [327680, 458752] c1 2 (w8.alloc (.cells #[.int .i64 327680, .int .i64 458752] 3)) (by decide) (by decide) (Seg.belowW hs1.seg hb9) (.inr ⟨w8.heap.size, 0, rfl, by simp, fun j u hu => by rw [Nat.zero_add, (Blk.new w8 _ _).cell j]; simpa using hu⟩))
  have HB8 := Lib.hid (andThen HLW.out hb8)
  clear o1 o2 hs1 hb8 hb9 HW
  go_wp2_with (first | (go_at_call 13; refine (num21 _ _).mono ?_; rintro e wz ⟨rfl, rfl⟩) | (refine HSI.out.mono ?_; rintro e wz ⟨rfl, hbz⟩; have y0 := (hbz.cell (p := ⟨g2, 0, none⟩) (by simp; omega)).trans ((Below.cell (andAlloc (Below.refl w8.heap.size w8) (.cells #[.int .i64 327680, .int .i64 458752] 3)) (p := ⟨g2, 0, none⟩) dl).trans d0); have y1 := (hbz.cell (p := ⟨g2, 1, none⟩) (by simp; omega)).trans ((Below.cell (andAlloc (Below.refl w8.heap.size w8) (.cells #[.int .i64 327680, .int .i64 458752] 3)) (p := ⟨g2, 1, none⟩) dl).trans d1)))
  go_ret
  exact ⟨rfl, andThen (andAlloc HB8.out _) hbz⟩
end Go.Proofs.Ytoboecenlangmaa.Al
end
section
namespace Go.Proofs.Ytoboecenlangmaa.Al
open Go.ChangeShapes Go.WideShapes Go.ChangeAt Go.RowKit
open Me Np No
open Gl (G Row)
set_option linter.unusedVariables false
set_option linter.unusedSimpArgs false

theorem place21 (a : Int) (len : Nat) (h0 : (0 : Int) < len) (h1 : (len : Int) ≤ 5000) : ∃ k : Nat, (wrap64 (a.tmod len + len)).tmod len = (k : Int) ∧ k < len := by
  have t1 := Int.tmod_lt_of_pos a h0
  have t2 := Int.lt_tmod_of_pos a h0
  rw [IntWalk.wrap64_in _ (by omega)]
  have t3 := Int.tmod_lt_of_pos (a.tmod len + len) h0
  have t4 := Int.tmod_nonneg (a := a.tmod len + len) len (by omega)
  exact ⟨((a.tmod len + len).tmod len).toNat, by omega, by omega⟩
theorem md_same {ss : List G} {ds es : List RD} (h : mdE ss ds = 0) (hm : ∀ q, q ∈ ds ↔ q ∈ es) (hl : es.length ≤ 2000) : mdE ss es = 0 ∧ mdC ss es = mdC ss ds := by
  have hck : ckE ss ds = 0 := by
    unfold mdE at h
    split at h
    · assumption
    · rename_i h1
      exact absurd h h1
  have hce : ckE ss es = 0 := by
    unfold ckE at hck ⊢
    split at hck
    · cases hck
    · rename_i h1
      rw [if_neg (by omega)]
      split at hck
      · rename_i h2
        rw [if_pos h2]
        have := rowsE_all hck
        exact rowsE_zero fun q hq => this q ((hm q).2 hq)
      · cases hck
  have hcc : mdC ss es = mdC ss ds := by
    unfold mdC
    refine (cols_same (fun r => ?_) ss _).symm
    constructor
    · intro hr
      obtain ⟨q, hq, rfl⟩ := List.mem_map.1 hr
      exact List.mem_map.2 ⟨q, (hm q).1 hq, rfl⟩
    · intro hr
      obtain ⟨q, hq, rfl⟩ := List.mem_map.1 hr
      exact List.mem_map.2 ⟨q, (hm q).2 hq, rfl⟩
  refine ⟨?_, hcc⟩
  unfold mdE at h ⊢
  rw [if_pos hck] at h
  rw [if_pos hce, hcc]
  exact h
/-- What given answers, as it is read. -/
theorem GI.rows {w w1 : World} {rs : List Rw} {v : Value} {dn : List Rw} (h : GI w rs rs.length v dn w1) (hl : rs.length ≤ 2932031007402) : ∃ A c, v = .slice A dn.length c ∧ dn.length = rs.length ∧ RsOk w1 (fun _ => True) A c dn ∧ dn.map Rw.d = rs.map Rw.d := by
  have hd := h.dat
  rw [List.take_length] at hd
  have hn : dn.length = rs.length := by have := congrArg List.length hd; simpa using this
  obtain ⟨A, c, hv, hc, _, _, hs⟩ := SegS.own (S := fun _ => True) h.own (fun _ _ => trivial)
  exact ⟨A, c, by rw [hv, hn], hn, ⟨by omega, by omega, hs, fun r hr => (h.ok r hr).mono fun _ _ _ => trivial⟩, hd⟩
theorem rowv_one (l : List Rw) : ∀ u ∈ l.flatMap Rw.vals, u.oneCell' = true := by
  intro u hu
  obtain ⟨g, _, hg⟩ := List.mem_flatMap.1 hu
  simp only [Rw.vals, List.mem_cons, List.not_mem_nil, or_false] at hg
  rcases hg with rfl | rfl <;> rfl
theorem mdC_w {ss : List G} {ds : List RD} : (mdC ss ds).w.length = ss.length - 1 := (cols_len _ ss _).1

set_option maxHeartbeats 8000000 in
set_option maxRecDepth 100000 in
theorem order_walk (A : Option Addr) (ss : List G) (c : Nat) (B : Option Addr) (rs : List Rw) (k : Nat) (turn twice : Int) (w : World) (hS : Row w A ss) (h63 : ss.length ≤ maxLen) (hR : RsOk w (fun _ => True) B k rs) :
    Calls Try.prog 4 #[.slice A ss.length c, .slice B rs.length k, .int .i64 turn, .int .i64 twice] w fun e w' => e = .returned (.bool true) ∧ Below w.heap.size w w' := by
  have HG := Lib.hid (given_any B rs k w hR)
  have HS := Lib.hid hS
  have HRL := Lib.hid hR.len
  have HW := Lib.hid (fun (dn : List Rw) (w1 : World) (A1 : Option Addr) (c1 : Nat) (hb : Below w.heap.size w w1) (h : RsOk w1 (fun _ => True) A1 c1 dn) => widths_al A ss c A1 dn c1 w1 (Seg.belowW hS hb) h h63)
  clear hS hR
  generalize hsl : ss.length = sl at *
  have HSL := Lib.hid hsl
  clear hsl
  go_enter Try.func4, Try.ntmps4
  go_wp2_with fail
  refine HG.out.mono ?_
  rintro e w1 ⟨v, dn, rfl, hgi⟩
  obtain ⟨A1, c1, rfl, hn, hro, hdd⟩ := hgi.rows HRL.out
  have HRO := Lib.hid hro
  have HDD := Lib.hid hdd
  have HB1 := Lib.hid hgi.low
  have hws := HW.out dn w1 A1 c1 HB1.out hro
  have hdl := hro.len
  have hdc := hro.cap
  have HNN := Lib.hid hn
  clear hgi hro hdd HG hn
  generalize hE : mdE ss (dn.map Rw.d) = E at hws
  have HE := Lib.hid hE
  have HWS := Lib.hid hws
  clear hE hws
  go_wp2_with fail
  refine HWS.out.mono ?_
  rintro e w2 ⟨B1, n1, d1, B2, n2, d2, rfl, hb2, hcase⟩
  have HB2 := Lib.hid (andThen HB1.out hb2)
  have HB12 := Lib.hid hb2
  have HCS := Lib.hid hcase
  clear hb2 hcase
  by_cases q1 : E = 0
  · have q2 : (E != 0) = false := by simp [q1]
    by_cases q3 : dn.length = 0
    · have q4 : ((dn.length : Int) == 0) = true := by simp [q3]
      have q5 : dn.length < 2000 := by omega
      generalize dn.length = dl at *
      go_wp2_with (first | (go_at_call 13; refine (num21 _ _).mono ?_; rintro e wz ⟨rfl, rfl⟩) | (go_at_call 14; refine (knows21 _).mono ?_; rintro e wz ⟨rfl, hbz⟩))
      go_ret
      exact ⟨rfl, andThen HB2.out hbz⟩
    · have q4 : ((dn.length : Int) == 0) = false := by rw [beq_eq_false_iff_ne]; omega
      by_cases q5 : 2000 ≤ (dn.length : Int)
      · generalize dn.length = dl at *
        go_wp2_with (first | (go_at_call 13; refine (num21 _ _).mono ?_; rintro e wz ⟨rfl, rfl⟩) | (go_at_call 14; refine (knows21 _).mono ?_; rintro e wz ⟨rfl, hbz⟩))
        go_ret
        exact ⟨rfl, andThen HB2.out hbz⟩
      · have hpos : (0 : Int) < dn.length := by omega
        obtain ⟨k1, hk1, hk1l⟩ := place21 turn dn.length hpos (by omega)
        obtain ⟨k2, hk2, hk2l⟩ := place21 twice dn.length hpos (by omega)
        obtain ⟨r2, hr2⟩ := get_some (l := dn) (i := k2) hk2l
        obtain ⟨b, off, rfl, hbb, _, _⟩ := HRO.out.row hr2
        have HR2 := Lib.hid hr2
        have hk2i : (k2 : Int) < dn.length := by omega
        clear hr2
        go_wp2_with (first | (go_at_call 13; refine (num21 _ _).mono ?_; rintro e wz ⟨rfl, rfl⟩) | (go_at_call 14; refine (knows21 _).mono ?_; rintro e w3 ⟨rfl, hb3⟩))
        have HL13 := Lib.hid (andThen HB12.out hb3)
        have HB23 := Lib.hid hb3
        have HB3 := Lib.hid (andThen HB2.out hb3)
        have HR3 := Lib.hid (HRO.out.below HL13.out)
        have HS3 := Lib.hid HR3.out.seg.seg
        have hkl2 : (k1 : Int) ≤ (dn.length : Int) := by omega
        have hkc : (k1 : Int) ≤ (c1 : Int) := by omega
        have hlc : (dn.length : Int) ≤ (c1 : Int) := by omega
        have hif : (if c1 = k1 then (some (⟨b, off, none⟩ : Addr)) else some ⟨b, off + k1 * 2, none⟩) = some ⟨b, off + k1 * 2, none⟩ := if_neg (by omega)
        have HIF := Lib.hid hif
        have HA0 := Lib.hid (by simpa using World.ownsRow_made w3 #[] 0 (e := 36) (size := 2) (Nat.le_refl _) (by simp [maxLen]) (by simp) : (w3.alloc (.cells #[] 36)).ownsRow w3.heap.size 36 2 (.slice (some ⟨w3.heap.size, 0, none⟩) 0 0) 0 [])
        have HLW := Lib.hid (show Below w3.heap.size w3 (w3.alloc (.cells #[] 36)).drew from below_drewN (andAlloc (Below.refl _ _) _) 1)
        have HD0 := Lib.hid (fun (w' : World) (hb : Below w3.heap.size w3 w') => Me.seg_cells (show Seg w' w3.heap.size (some ⟨b, off + k1 * 2, none⟩) ((dn.drop k1).flatMap Rw.vals) by rw [flat_drop Rw.vals_length]; exact (HS3.out.below hb).drop (k1 * 2)))
        have HT0 := Lib.hid (fun (w' : World) (hb : Below w3.heap.size w3 w') => Me.seg_cells (show Seg w' w3.heap.size (some ⟨b, off, none⟩) ((dn.take k1).flatMap Rw.vals) by rw [flat_take Rw.vals_length]; exact (HS3.out.below hb).take (k1 * 2)))
        clear hif hb3
        generalize hdn : dn.length = dl at *
        have HDL := Lib.hid hdn
        clear hdn
        go_region_law (first
          | (refine Me.step_append_src rfl (.tmp 55) (.tmp 58) 24 rfl w3.heap.size 36 (.agg #[.slice none 0 0, .slice none 0 0]) 2 48 Try.underlying24 info_row rfl (by decide) (.slice (some ⟨w3.heap.size, 0, none⟩) 0 0) 0 [] rfl HA0.out ⟨b, off + k1 * 2, none⟩ (dl - k1) (c1 - k1) ((dn.drop k1).flatMap Rw.vals) ?_ ?_ (HD0.out _ HLW.out) (rowv_one _) ?_ ?_ ?_ ?_; (first | rfl | exact congrArg (fun p => Value.slice p (dl - k1) (c1 - k1)) HIF.out); (rw [flat_length Rw.vals_length, List.length_drop, HDL.out]); (simp only [maxLen]; omega); omega; simp; intro v1 W1 hown1 hg1)
          | (refine Me.step_append_src rfl (.tmp 59) (.tmp 62) 24 rfl w3.heap.size 36 (.agg #[.slice none 0 0, .slice none 0 0]) 2 48 Try.underlying24 info_row rfl (by decide) v1 (0 + (dl - k1)) _ rfl hown1 ⟨b, off, none⟩ k1 c1 ((dn.take k1).flatMap Rw.vals) ?_ ?_ (HT0.out _ (below_grown (Nat.le_refl _) HLW.out hg1 (fun g hg => ?_))) (rowv_one _) ?_ ?_ ?_ ?_; rfl; (rw [flat_length Rw.vals_length, List.length_take, HDL.out, Nat.min_eq_left (by omega)]); (have hg' : some w3.heap.size = some g := hg; injection hg' with hg'; omega); (simp only [maxLen]; omega); omega; (have hh := hg1.size; simp at hh; omega); intro v2 W2 hown2 hg2))
        have hW1 : Below w3.heap.size w3 W1 := below_grown (Nat.le_refl _) HLW.out hg1 (fun g hg => by
          have hg' : some w3.heap.size = some g := hg
          injection hg' with hg'
          omega)
        have hW2 : Below w3.heap.size w3 W2 := below_grown (Nat.le_refl _) hW1 hg2 (fun g hg => (hown1.lt g hg).1)
        have hn2 : 0 + (dl - k1) + k1 = dl := by omega
        rw [hn2, List.nil_append, ← List.flatMap_append] at hown2
        obtain ⟨b', off', e1, hb', y0, y1⟩ := (HR3.out.below hW2).row HR2.out
        simp only [Option.some.injEq, Addr.mk.injEq, and_true] at e1
        obtain ⟨rfl, rfl⟩ := e1
        have HW2 := Lib.hid hW2
        have hz2 := hW2.size
        have hown3 := Lib.hid (hown2.alloc (.cells #[.slice r2.A r2.cs.length r2.c, .slice r2.E r2.ex.length r2.k] 36))
        have hl48 : (dl + 1) * 48 ≤ 140737488355328 := by omega
        clear hW1 hW2 hown1 hg1 hown2 hg2 hn2 HIF HA0 HLW HD0 HT0 hkl2 hkc hlc
        go_wp2_with (at_builtin; refine wpList_push2 rfl (.tmp 64) (.tmp 78) 24 rfl w3.heap.size 36 (.agg #[.slice none 0 0, .slice none 0 0]) 2 48 Try.underlying24 info_row rfl (by decide) (by decide) v2 dl ((dn.drop k1 ++ dn.take k1).flatMap Rw.vals) rfl hown3.out (by simp; omega) ⟨W2.heap.size, 0, none⟩ 1 [.slice r2.A r2.cs.length r2.c, .slice r2.E r2.ex.length r2.k] rfl rfl (new_cells (Blk.new _ _ _)) (by simp [Value.oneCell']) hl48 ?_; intro v4 W4 hown4 hg4 _; obtain ⟨A4, c4, rfl, hc4, _, _, hs4⟩ := SegS.own (S := fun _ => True) hown4 (fun _ _ => trivial); have HX4 := Lib.hid (And.intro hc4 (And.intro hs4 (below_grown (Nat.le_refl _) (andAlloc HW2.out (.cells #[.slice r2.A r2.cs.length r2.c, .slice r2.E r2.ex.length r2.k] 36)) hg4 (fun q hq => (hown3.out.lt q hq).1)))); clear hown4 hg4 hc4 hs4)
        have hlo : ((dn.drop k1 ++ dn.take k1) ++ [r2]).length = dl + 1 := by simp [HDL.out]; omega
        have hr4 : RsOk W4 (fun _ => True) A4 c4 ((dn.drop k1 ++ dn.take k1) ++ [r2]) := ⟨by rw [hlo]; exact HX4.out.1, by rw [hlo]; omega, by rw [List.flatMap_append]; simpa [Rw.vals] using HX4.out.2.1, fun r hr => by
          refine (HR3.out.below HX4.out.2.2).rows r ?_
          rcases List.mem_append.1 hr with hr | hr
          · rcases List.mem_append.1 hr with hr | hr
            · exact List.mem_of_mem_drop hr
            · exact List.mem_of_mem_take hr
          · obtain rfl := List.mem_singleton.1 hr
            exact List.mem_of_getElem? HR2.out⟩
        have hw4 := HW.out _ W4 A4 c4 (andThen HB3.out HX4.out.2.2) hr4
        rw [hlo] at hw4
        obtain ⟨m1, m2⟩ := md_same (ss := ss) (ds := dn.map Rw.d) (es := ((dn.drop k1 ++ dn.take k1) ++ [r2]).map Rw.d) (by rw [HE.out]; exact q1) (fun q => by
          have hr2m := List.mem_of_getElem? HR2.out
          constructor
          · intro hq
            obtain ⟨r, hr, rfl⟩ := List.mem_map.1 hq
            refine List.mem_map.2 ⟨r, List.mem_append_left _ ?_, rfl⟩
            rw [← List.take_append_drop k1 dn] at hr
            rcases List.mem_append.1 hr with hr | hr
            · exact List.mem_append_right _ hr
            · exact List.mem_append_left _ hr
          · intro hq
            obtain ⟨r, hr, rfl⟩ := List.mem_map.1 hq
            refine List.mem_map.2 ⟨r, ?_, rfl⟩
            rcases List.mem_append.1 hr with hr | hr
            · rcases List.mem_append.1 hr with hr | hr
              · exact List.mem_of_mem_drop hr
              · exact List.mem_of_mem_take hr
            · obtain rfl := List.mem_singleton.1 hr
              exact hr2m) (by rw [List.length_map, hlo]; omega)
        rw [m1, m2] at hw4
        have HW4 := Lib.hid hw4
        have HB4 := Lib.hid (andThen HB3.out HX4.out.2.2)
        have HB24 := Lib.hid (andThen HL13.out HX4.out.2.2)
        have HB34 := Lib.hid HX4.out.2.2
        clear hw4 hr4 m1 m2 HX4 hlo y0 y1
        refine HW4.out.mono ?_
        rintro e w5 ⟨D1, p1, e1, D2, p2, e2, rfl, hb5, hcase5⟩
        rcases hcase5 with ⟨_, o5, hp1, _, _⟩ | ⟨h, _⟩
        case inr => exact absurd rfl h
        rcases HCS.out with ⟨_, o1, hn1, _, _⟩ | ⟨h, _⟩
        case inr => exact absurd q1 h
        have hwl : (mdC ss (dn.map Rw.d)).w.length ≤ 2097152 := by
          have hck : ckE ss (dn.map Rw.d) = 0 := by
            have h := HE.out
            rw [q1] at h
            unfold mdE at h
            split at h
            · assumption
            · rename_i h1
              exact absurd h h1
          rw [mdC_w]
          unfold ckE at hck
          split at hck
          · cases hck
          · omega
        generalize (mdC ss (dn.map Rw.d)).w = ws at o1 hn1 o5 hp1 hwl
        subst hn1 hp1
        obtain ⟨x1, y1, v1', _, _, _, s1⟩ := SegS.own (S := fun _ => True) o1 (fun _ _ => trivial)
        injection v1' with v1' _ v2'
        subst v1' v2'
        obtain ⟨x1, y1, v1', _, _, _, s5⟩ := SegS.own (S := fun _ => True) o5 (fun _ _ => trivial)
        injection v1' with v1' _ v2'
        subst v1' v2'
        have HSI := Lib.hid (Si.same_ints B1 D1 ws ws d1 e1 w5 hwl hwl (Seg.belowW s1.seg (andThen HB23.out (andThen HB34.out hb5))) s5.seg)
        have HB5 := Lib.hid (andThen HB4.out hb5)
        clear o1 o5 s1 s5 hb5 hwl
        generalize ws.length = wl at *
        go_wp2_with (first | (go_at_call 13; refine (num21 _ _).mono ?_; rintro e wz ⟨rfl, rfl⟩) | (refine HSI.out.mono ?_; rintro e wz ⟨rfl, hbz⟩))
        go_ret
        exact ⟨by simp, andThen HB5.out hbz⟩
  · have q2 : (E != 0) = true := by simp [q1]
    go_wp2_with (first | (go_at_call 13; refine (num21 _ _).mono ?_; rintro e wz ⟨rfl, rfl⟩) | (go_at_call 14; refine (knows21 _).mono ?_; rintro e wz ⟨rfl, hbz⟩))
    go_ret
    exact ⟨rfl, andThen HB2.out hbz⟩
end Go.Proofs.Ytoboecenlangmaa.Al
end
section
namespace Go.Proofs.Ytoboecenlangmaa.Rd
open Go.ChangeShapes Go.WideShapes Go.RowKit Go.Deep
set_option linter.unusedVariables false

section
variable {H : Type} (enc : TypeId × Value → H) (P : Program) (w : World)
/-- These cells read as this type; all that is read lies in memory that is there, and is within reach. -/
def Rd (t : TypeId) (cs : List Value) : Prop :=
  ∃ (fuel : Nat) (x : DataW H × List MemPlace), DataW.trod enc P w 0 (fun _ => true) true fuel t cs = some x ∧ (∀ p ∈ x.2, p.block < w.heap.size) ∧ ∀ n ∈ x.1.weights P t, n ≤ reachBytes
end

section
variable {H : Type} {enc : TypeId × Value → H} {P : Program} {w : World}
theorem Rd.struct {t : TypeId} {fs : Array Field} {cs : List Value} (ht : P.underlying t = some (.struct fs)) (h : Rd enc P w t cs) :
    cs.length = P.cellsOf t ∧ ∀ (i : Nat) (f : Field), fs[i]? = some f → Rd enc P w f.type ((cs.drop f.offset).take (P.cellsOf f.type)) := by
  obtain ⟨fuel, x, h, hp, hw⟩ := h
  obtain ⟨xs, n, _, rfl, hl, hxl, hat⟩ := DataW.trod_struct ht h
  refine ⟨hl, fun i f hf => ?_⟩
  have h1 := hat i f hf
  have hi : i < xs.length := by
    rw [hxl]
    rcases Nat.lt_or_ge i fs.size with h2 | h2
    · exact h2
    · rw [Array.getElem?_eq_none h2] at hf; cases hf
  rw [List.getElem?_eq_getElem hi] at h1
  refine ⟨n, xs[i], h1, fun p hpp => hp p (List.mem_flatMap.2 ⟨_, List.getElem_mem hi, hpp⟩), fun k hk => ?_⟩
  apply hw
  have e1 : (DataW.agg (xs.map (·.1))).weights P t = DataW.weightsEach P (fs.toList.map (·.type)) (xs.map (·.1)) := by simp [DataW.weights, ht]
  show k ∈ (DataW.agg (xs.map (·.1))).weights P t
  rw [e1]
  exact DataW.weights_mem_each (j := i) (t := f.type) (d := xs[i].1) (by simp [hf]) (by simp [List.getElem?_eq_getElem hi]) k hk
theorem weightsAll_mem {e : TypeId} {d : DataW H} {n : Nat} (hn : n ∈ d.weights P e) : ∀ {l : List (DataW H)}, d ∈ l → n ∈ DataW.weightsAll P e l
  | a :: l, h => by
    simp only [DataW.weightsAll, List.mem_append]
    rcases List.mem_cons.1 h with rfl | h
    · exact .inl hn
    · exact .inr (weightsAll_mem hn h)
/-- A slice: where it lies, and its elements. -/
theorem Rd.slice {t e : TypeId} {cs : List Value} (ht : P.underlying t = some (.slice e)) (h : Rd enc P w t cs) :
    ∃ (A : Option Addr) (c : Nat) (rows : List (List Value)), cs = [.slice A rows.length c] ∧ rows.length ≤ c ∧ c ≤ maxLen ∧ c * P.bytesOf e ≤ reachBytes ∧ Me.Seg w w.heap.size A rows.flatten ∧ (A = none → c = 0) ∧
      ∀ x ∈ rows, x.length = P.cellsOf e ∧ Rd enc P w e x := by
  obtain ⟨fuel, x, hf, hp, hw⟩ := h
  rcases open_slice ht hf with ⟨h0, hx⟩ | ⟨a, len0, m, m', nn, D, Pl, hcs, _, hlc, hcm, hm, hx, hi⟩
  · subst h0
    exact ⟨none, 0, [], rfl, Nat.le_refl _, by simp [maxLen], by simp, .inl rfl, fun _ => rfl, by simp⟩
  · subst hcs
    simp only [if_true] at hm
    subst hm
    subst hx
    have hrow : ∀ i, i < m' → ∃ cs, w.cells? 0 (a.add (i * P.cellsOf e)) (P.cellsOf e) = some cs ∧ Rd enc P w e cs := by
      intro i hil
      obtain ⟨cs, h1, h2⟩ := hi i hil
      refine ⟨cs, h1, nn, _, h2, fun p hpp => hp p (List.mem_append_right _ (List.mem_flatMap.2 ⟨i, List.mem_range.2 hil, hpp⟩)), fun k hk => hw k ?_⟩
      simp only [DataW.weights, ht]
      refine List.mem_cons_of_mem _ (List.mem_append.2 ?_)
      rcases Nat.lt_or_ge i len0 with h3 | h3
      · exact .inl (weightsAll_mem hk (List.mem_map.2 ⟨i, List.mem_range.2 h3, rfl⟩))
      · refine .inr (weightsAll_mem hk (List.mem_map.2 ⟨i - len0, List.mem_range.2 (by omega), ?_⟩))
        show D (len0 + (i - len0)) = D i
        rw [Nat.add_sub_cancel' h3]
    let R : Nat → List Value := fun i => (w.cells? 0 (a.add (i * P.cellsOf e)) (P.cellsOf e)).getD []
    have hR : ∀ i, i < m' → (R i).length = P.cellsOf e ∧ Rd enc P w e (R i) ∧ ∀ j, j < P.cellsOf e → w.cell? ((a.add (i * P.cellsOf e)).add j) = (R i)[j]? := by
      intro i hil
      obtain ⟨cs, h1, h2⟩ := hrow i hil
      have e1 : R i = cs := by simp [R, h1]
      rw [e1]
      exact ⟨(World.cells?_some h1).2.1, h2, (World.cells?_some h1).2.2⟩
    have hlen : ∀ i, i < len0 → (R i).length = P.cellsOf e := fun i hil => (hR i (by omega)).1
    refine ⟨some a, m', (List.range len0).map R, by simp, by simpa using hlc, hcm, ?_, ?_, (by intro hh; cases hh), ?_⟩
    · have h5 := hw ((((List.range len0).map D).length + ((List.range (m' - len0)).map fun j => D (len0 + j)).length) * P.bytesOf e) (by simp [DataW.weights, ht])
      simp only [List.length_map, List.length_range] at h5
      rwa [show len0 + (m' - len0) = m' by omega] at h5
    · by_cases hz : ((List.range len0).map R).flatten = []
      · exact .inl hz
      · have hpos : 0 < len0 * P.cellsOf e := by
          rcases Nat.eq_zero_or_pos (len0 * P.cellsOf e) with h1 | h1
          · exfalso
            apply hz
            rw [List.flatten_eq_nil_iff]
            intro l hl'
            obtain ⟨i, hi', rfl⟩ := List.mem_map.1 hl'
            have hil := List.mem_range.1 hi'
            have h2 := hlen i hil
            rcases Nat.mul_eq_zero.1 h1 with h3 | h3
            · omega
            · rw [h3] at h2; exact List.eq_nil_of_length_eq_zero h2
          · exact h1
        have hlen0 : 0 < len0 := Nat.pos_of_mul_pos_right hpos
        have hce : 0 < P.cellsOf e := Nat.pos_of_mul_pos_left hpos
        have hcell0 : ∃ u, w.cell? a = some u := by
          obtain ⟨h1, _, h2⟩ := hR 0 (by omega)
          have h3 := h2 0 hce
          have h4 : (a.add (0 * P.cellsOf e)).add 0 = a := by simp [Addr.add]
          rw [h4] at h3
          refine ⟨_, h3.trans (List.getElem?_eq_getElem (by rw [hlen 0 hlen0]; exact hce))⟩
        obtain ⟨u0, hu0⟩ := hcell0
        have hspot : a.spot = none := World.cell?_spot hu0
        obtain ⟨b, off, sp⟩ := a
        simp only at hspot
        subst hspot
        refine .inr ⟨b, off, rfl, ?_, ?_⟩
        · have hm0 : 0 < m' * P.cellsOf e := Nat.mul_pos (by omega) hce
          exact hp (.cell b off) (List.mem_append_left _ (List.mem_map.2 ⟨0, List.mem_range.2 hm0, rfl⟩))
        · intro j u hu
          have hall : ∀ (k : Nat) (l : List Nat), (∀ i ∈ l, i < len0) → ∀ j u, ((l.map R).flatten)[j]? = some u → ∃ i q, l[i]? ≠ none ∧ j = i * P.cellsOf e + q ∧ q < P.cellsOf e ∧ ∃ z, l[i]? = some z ∧ (R z)[q]? = some u := by
            intro k l
            induction l with
            | nil => intro _ j u h; simp at h
            | cons z l ih =>
              intro hl' j u h
              simp only [List.map_cons, List.flatten_cons] at h
              have hz1 := hlen z (hl' z (by simp))
              rcases Nat.lt_or_ge j (P.cellsOf e) with hj | hj
              · rw [List.getElem?_append_left (by omega)] at h
                exact ⟨0, j, by simp, by omega, hj, z, by simp, h⟩
              · rw [List.getElem?_append_right (by omega), hz1] at h
                obtain ⟨i, q, h1, h2, h3, y, h4, h5⟩ := ih (fun i hi' => hl' i (by simp [hi'])) _ _ h
                refine ⟨i + 1, q, by simpa using h1, ?_, h3, y, by simpa using h4, h5⟩
                rw [Nat.add_mul]; omega
          obtain ⟨i, q, _, hj, hq, z, hz1, hz2⟩ := hall 0 (List.range len0) (fun i hi' => List.mem_range.1 hi') j u hu
          have hzi : z = i ∧ i < len0 := by
            have hil : i < len0 := by
              rcases Nat.lt_or_ge i len0 with h1 | h1
              · exact h1
              · rw [List.getElem?_eq_none (by simpa using h1)] at hz1; cases hz1
            rw [List.getElem?_range hil] at hz1
            injection hz1 with hz1
            exact ⟨hz1.symm, hil⟩
          obtain ⟨rfl, hil⟩ := hzi
          have h6 := (hR z (by omega)).2.2 q hq
          rw [hz2] at h6
          rw [← h6, hj]
          congr 1
          unfold Addr.add
          by_cases h7 : z * P.cellsOf e = 0 <;> by_cases h8 : q = 0 <;> simp [h7, h8, Nat.add_assoc]
    · intro x hx
      obtain ⟨i, hi', rfl⟩ := List.mem_map.1 hx
      have := hR i (by have := List.mem_range.1 hi'; omega)
      exact ⟨this.1, this.2.1⟩
theorem Rd.int {t : TypeId} {k : IntKind} {cs : List Value} (hu : P.underlying t = some (.int k)) (h : Rd enc P w t cs) : ∃ z : Int, cs = [.int k z] ∧ (Lit.int k z).wf = true := by
  obtain ⟨fuel, x, h, _, _⟩ := h
  obtain ⟨z, h1, _, h2⟩ := DataW.trod_int hu h
  exact ⟨z, h1, h2⟩
/-- An argument. -/
theorem Rd.arg {ts : List TypeId} {ds : List (DataW H)} {j : Nat} {t : TypeId} {v : Value} {d : DataW H} {ps : List MemPlace} (h : DataW.Trod enc P w 0 (fun _ => true) true t v d ps) (hlt : ∀ x ∈ ps, x.block < w.heap.size)
    (hsz : (DataW.weightsEach P ts ds).all (· ≤ reachBytes) = true) (ht : ts[j]? = some t) (hd : ds[j]? = some d) : Rd enc P w t v.cells.toList := by
  obtain ⟨fuel, hf⟩ := h
  exact ⟨fuel, _, hf, hlt, fun n hn => by simpa using List.all_eq_true.1 hsz _ (DataW.weights_mem_each ht hd n hn)⟩
end
end Go.Proofs.Ytoboecenlangmaa.Rd
end
section
namespace Go.Proofs.Ytoboecenlangmaa.Le
open Go.ChangeShapes Go.WideShapes Go.RowKit Go.Deep

/-- The types of a type's cells. -/
def lv (P : Program) : Nat → TypeId → List TypeId
  | 0, t => [t]
  | n + 1, t => match P.underlying t with
    | some (.struct fs) => fs.toList.flatMap fun f => lv P n f.type
    | some (.array k e) => (List.replicate k (lv P n e)).flatten
    | _ => [t]

/-- The cells' types are where the type's own table says. -/
def good (P : Program) : Nat → TypeId → Bool
  | 0, t => P.cellsOf t == 1
  | n + 1, t => match P.underlying t with
    | some (.struct fs) => (P.cellsOf t == (lv P (n + 1) t).length) && fs.toList.all (fun f => good P n f.type) &&
        (List.range (lv P (n + 1) t).length).all fun i => (List.range fs.size).any fun j => match fs[j]? with
          | some f => decide (f.offset ≤ i) && decide (i < f.offset + P.cellsOf f.type) && decide (f.offset + P.cellsOf f.type ≤ P.cellsOf t) && decide ((lv P n f.type)[i - f.offset]? = (lv P (n + 1) t)[i]?)
          | none => false
    | some (.array k e) => (P.cellsOf t == (lv P (n + 1) t).length) && good P n e &&
        (List.range (lv P (n + 1) t).length).all fun i => (List.range k).any fun j => decide (j * P.cellsOf e ≤ i) && decide (i < j * P.cellsOf e + P.cellsOf e) && decide (j * P.cellsOf e + P.cellsOf e ≤ P.cellsOf t) && decide ((lv P n e)[i - j * P.cellsOf e]? = (lv P (n + 1) t)[i]?)
    | _ => P.cellsOf t == 1

section
variable {H : Type} {enc : TypeId × Value → H} {P : Program} {w : World} {base : Nat} {spare : Nat → Bool} {held : Bool}

theorem slice_get {cs : List Value} {o c i : Nat} (h0 : o ≤ i) (h1 : i < o + c) : ((cs.drop o).take c)[i - o]? = cs[i]? := by
  rw [List.getElem?_take, if_pos (by omega), List.getElem?_drop]
  congr 1
  omega

/-- Each cell reads as its leaf's type. -/
theorem leaves : ∀ (n : Nat) {t : TypeId} {fuel : Nat} {cs : List Value} {x : DataW H × List MemPlace}, good P n t = true → cs.length = P.cellsOf t → DataW.trod enc P w base spare held fuel t cs = some x →
    ∀ (i : Nat) (u : TypeId), (lv P n t)[i]? = some u → ∃ (v : Value) (m : Nat) (y : DataW H × List MemPlace), cs[i]? = some v ∧ DataW.trod enc P w base spare held m u [v] = some y
  | 0, t, fuel, cs, x, hg, hl, h, i, u, hu => by
    simp only [lv] at hu
    match i, hu with
    | 0, hu =>
      simp at hu
      subst hu
      unfold good at hg
      rw [beq_iff_eq] at hg
      rw [hg] at hl
      match cs, hl with
      | [v], _ => exact ⟨v, fuel, x, rfl, h⟩
    | i + 1, hu => simp at hu
  | n + 1, t, fuel, cs, x, hg, hl, h, i, u, hu => by
    have hilt : i < (lv P (n + 1) t).length := by
      rcases Nat.lt_or_ge i (lv P (n + 1) t).length with h1 | h1
      · exact h1
      · rw [List.getElem?_eq_none h1] at hu; cases hu
    unfold good at hg
    split at hg
    · rename_i fs hfs
      simp only [Bool.and_eq_true, List.all_eq_true] at hg
      obtain ⟨⟨_, hgf⟩, hcov⟩ := hg
      have hc := hcov i (List.mem_range.2 hilt)
      simp only [List.any_eq_true] at hc
      obtain ⟨j, hj, hc⟩ := hc
      split at hc
      · rename_i f hf
        simp only [Bool.and_eq_true, decide_eq_true_eq] at hc
        obtain ⟨⟨⟨h1, h2⟩, h4⟩, h3⟩ := hc
        obtain ⟨xs, n', _, _, hcl, hxl, hat⟩ := DataW.trod_struct hfs h
        have hjl : j < fs.size := by
          rcases Nat.lt_or_ge j fs.size with hh | hh
          · exact hh
          · rw [Array.getElem?_eq_none hh] at hf; cases hf
        have hxj : xs[j]? = some (xs[j]'(by omega)) := List.getElem?_eq_getElem (by omega)
        have ht := (hat j f hf).trans hxj
        have hmem : f ∈ fs.toList := by
          have := Array.mem_of_getElem? hf
          simpa using this
        have hlen : ((cs.drop f.offset).take (P.cellsOf f.type)).length = P.cellsOf f.type := by
          rw [List.length_take, List.length_drop]
          omega
        obtain ⟨v, m, y, hv, hy⟩ := leaves n (hgf f hmem) hlen ht (i - f.offset) u (by rw [h3]; exact hu)
        exact ⟨v, m, y, by rw [← slice_get h1 h2]; exact hv, hy⟩
      · cases hc
    · rename_i k e he
      simp only [Bool.and_eq_true, List.all_eq_true] at hg
      obtain ⟨⟨_, hge⟩, hcov⟩ := hg
      have hc := hcov i (List.mem_range.2 hilt)
      simp only [List.any_eq_true, List.mem_range, Bool.and_eq_true, decide_eq_true_eq] at hc
      obtain ⟨j, hj, ⟨⟨h1, h2⟩, h4⟩, h3⟩ := hc
      obtain ⟨xs, n', _, _, hcl, hxl, hat⟩ := DataW.trod_array he h
      have hxj : xs[j]? = some (xs[j]'(by omega)) := List.getElem?_eq_getElem (by omega)
      have ht := (hat j hj).trans hxj
      have hlen : ((cs.drop (j * P.cellsOf e)).take (P.cellsOf e)).length = P.cellsOf e := by
        rw [List.length_take, List.length_drop]
        omega
      obtain ⟨v, m, y, hv, hy⟩ := leaves n hge hlen ht (i - j * P.cellsOf e) u (by rw [h3]; exact hu)
      exact ⟨v, m, y, by rw [← slice_get h1 h2]; exact hv, hy⟩
    · rename_i hns hna
      have hlv : lv P (n + 1) t = [t] := by
        unfold lv
        split
        · rename_i fs hfs; exact absurd hfs (hns fs)
        · rename_i k e he; exact absurd he (hna k e)
        · rfl
      rw [hlv] at hu
      match i, hu with
      | 0, hu =>
        simp at hu
        subst hu
        rw [beq_iff_eq] at hg
        rw [hg] at hl
        match cs, hl with
        | [v], _ => exact ⟨v, fuel, x, rfl, h⟩
      | i + 1, hu => simp at hu
end

section
variable {H : Type} {enc : TypeId × Value → H} {P : Program} {w : World} {base : Nat} {spare : Nat → Bool} {held : Bool}

/-- What is known of a row of cells of type t. -/
def Cells (enc : TypeId × Value → H) (P : Program) (w : World) (base : Nat) (spare : Nat → Bool) (held : Bool) (ls : List TypeId) (cs : List Value) : Prop :=
  cs.length = ls.length ∧ ∀ (i : Nat) (u : TypeId), ls[i]? = some u → ∃ (v : Value) (m : Nat) (y : DataW H × List MemPlace), cs[i]? = some v ∧ DataW.trod enc P w base spare held m u [v] = some y

/-- A struct that comes by value. -/
theorem open_flat {r : Reach} {b0 : Nat} {t : TypeId} {fs : Array Field} {v : Value} {d : DataW H} {ps : List MemPlace} (n : Nat) (ls : List TypeId) (hs : P.underlying t = some (.struct fs)) (hg : good P n t = true) (hl : lv P n t = ls) (hc : P.cellsOf t = ls.length)
    (hv : Value.okWide P w r b0 t v) (h : DataW.Trod enc P w base spare held t v d ps) : ∃ cs : List Value, v = .agg cs.toArray ∧ Cells enc P w base spare held ls cs := by
  obtain ⟨cs, rfl, hsz⟩ := okWide_struct hs hv
  obtain ⟨fuel, hf⟩ := h
  refine ⟨cs.toList, by simp, by simp [hsz, hc], fun i u hu => ?_⟩
  exact leaves n hg (by simp [hsz]) (by simpa [Value.cells] using hf) i u (by rw [hl]; exact hu)

/-- A slice that comes in: where it lies, and its elements' cells. -/
theorem open_rows0 {r : Reach} {b0 : Nat} {t e : TypeId} {v : Value} {d : DataW H} {ps : List MemPlace} (n : Nat) (ls : List TypeId) (ht : P.underlying t = some (.slice e)) (hg : good P n e = true) (hl : lv P n e = ls) (hc : P.cellsOf e = ls.length)
    (hv : Value.okWide P w r b0 t v) (h : DataW.Trod enc P w base (fun _ => true) held t v d ps) (hlt : ∀ x ∈ ps, x.block < w.heap.size) :
    ∃ (A : Option Addr) (c : Nat) (rows : List (List Value)), v = .slice A rows.length c ∧ rows.length ≤ c ∧ c ≤ maxLen ∧ (∀ cs ∈ rows, Cells enc P w base (fun _ => true) held ls cs) ∧ Me.Seg w w.heap.size A rows.flatten ∧ (A = none → c = 0) ∧
      (∃ es sp : List (DataW H), (d = .slice es sp ∧ es.length = rows.length ∧ es.length + sp.length = c) ∨ (d = .nil ∧ rows = [] ∧ c = 0)) := by
  obtain ⟨fuel, hf⟩ := h
  obtain ⟨a0, len0, cap0, rfl⟩ := okWide_slice ht hv
  rw [show Value.cells (.slice a0 len0 cap0) = #[.slice a0 len0 cap0] from rfl] at hf
  rcases open_slice ht hf with ⟨h0, hx⟩ | ⟨a, len, cap, m, nn, D, Pl, hcs, _, hlc, hcm, hm, hx, hi⟩
  · simp at h0
    obtain ⟨rfl, rfl, rfl⟩ := h0
    simp only [Prod.mk.injEq] at hx
    exact ⟨none, 0, [], rfl, Nat.le_refl _, by simp [maxLen], by simp, .inl rfl, fun _ => rfl, [], [], .inr ⟨hx.1, rfl, rfl⟩⟩
  · simp at hcs
    obtain ⟨rfl, rfl, rfl⟩ := hcs
    simp only [if_true] at hm
    subst hm
    simp only [Prod.mk.injEq] at hx
    obtain ⟨hd, hps⟩ := hx
    have hrow : ∀ i, i < len0 → ∃ cs, w.cells? base (a.add (i * P.cellsOf e)) (P.cellsOf e) = some cs ∧ Cells enc P w base (fun _ => true) held ls cs := by
      intro i hil
      obtain ⟨cs, h1, h2⟩ := hi i (by omega)
      obtain ⟨_, h3, _⟩ := World.cells?_some h1
      exact ⟨cs, h1, by rw [h3, hc], fun j u hu => leaves n hg h3 h2 j u (by rw [hl]; exact hu)⟩
    let R : Nat → List Value := fun i => (w.cells? base (a.add (i * P.cellsOf e)) (P.cellsOf e)).getD []
    have hR : ∀ i, i < len0 → Cells enc P w base (fun _ => true) held ls (R i) ∧ ∀ j, j < P.cellsOf e → w.cell? ((a.add (i * P.cellsOf e)).add j) = (R i)[j]? := by
      intro i hil
      obtain ⟨cs, h1, h2⟩ := hrow i hil
      have e1 : R i = cs := by simp [R, h1]
      rw [e1]
      exact ⟨h2, (World.cells?_some h1).2.2⟩
    have hlen : ∀ i, i < len0 → (R i).length = P.cellsOf e := fun i hil => by rw [hc]; exact (hR i hil).1.1
    refine ⟨some a, m, (List.range len0).map R, by simp, by simpa using hlc, hcm, ?_, ?_, (by intro hh; cases hh), (List.range len0).map D, (List.range (m - len0)).map fun j => D (len0 + j), .inl ⟨hd, by simp, by simp; omega⟩⟩
    · intro cs hcs
      obtain ⟨i, hi', rfl⟩ := List.mem_map.1 hcs
      exact (hR i (List.mem_range.1 hi')).1
    · by_cases hz : ((List.range len0).map R).flatten = []
      · exact .inl hz
      · have hpos : 0 < len0 * P.cellsOf e := by
          rcases Nat.eq_zero_or_pos (len0 * P.cellsOf e) with h1 | h1
          · exfalso
            apply hz
            rw [List.flatten_eq_nil_iff]
            intro l hl'
            obtain ⟨i, hi', rfl⟩ := List.mem_map.1 hl'
            have hil := List.mem_range.1 hi'
            have h2 := hlen i hil
            rcases Nat.mul_eq_zero.1 h1 with h3 | h3
            · omega
            · rw [h3] at h2; exact List.eq_nil_of_length_eq_zero h2
          · exact h1
        have hlen0 : 0 < len0 := Nat.pos_of_mul_pos_right hpos
        have hce : 0 < P.cellsOf e := Nat.pos_of_mul_pos_left hpos
        have hcell0 : ∃ u, w.cell? a = some u := by
          obtain ⟨h1, h2⟩ := hR 0 hlen0
          have h3 := h2 0 hce
          have h4 : (a.add (0 * P.cellsOf e)).add 0 = a := by simp [Addr.add]
          rw [h4] at h3
          refine ⟨_, h3.trans (List.getElem?_eq_getElem (by rw [hlen 0 hlen0]; exact hce))⟩
        obtain ⟨u0, hu0⟩ := hcell0
        have hspot : a.spot = none := World.cell?_spot hu0
        obtain ⟨b, off, sp⟩ := a
        simp only at hspot
        subst hspot
        refine .inr ⟨b, off, rfl, ?_, ?_⟩
        · have hm0 := Nat.mul_le_mul_right (P.cellsOf e) hlc
          have := hlt (.cell b off) (by rw [hps]; exact List.mem_append_left _ (List.mem_map.2 ⟨0, List.mem_range.2 (by omega), rfl⟩))
          exact this
        · intro j u hu
          have hall : ∀ (k : Nat) (l : List Nat), (∀ i ∈ l, i < len0) → ∀ j u, ((l.map R).flatten)[j]? = some u → ∃ i q, l[i]? ≠ none ∧ j = i * P.cellsOf e + q ∧ q < P.cellsOf e ∧ ∃ z, l[i]? = some z ∧ (R z)[q]? = some u := by
            intro k l
            induction l with
            | nil => intro _ j u h; simp at h
            | cons z l ih =>
              intro hl' j u h
              simp only [List.map_cons, List.flatten_cons] at h
              have hz1 := hlen z (hl' z (by simp))
              rcases Nat.lt_or_ge j (P.cellsOf e) with hj | hj
              · rw [List.getElem?_append_left (by omega)] at h
                exact ⟨0, j, by simp, by omega, hj, z, by simp, h⟩
              · rw [List.getElem?_append_right (by omega), hz1] at h
                obtain ⟨i, q, h1, h2, h3, y, h4, h5⟩ := ih (fun i hi' => hl' i (by simp [hi'])) _ _ h
                refine ⟨i + 1, q, by simpa using h1, ?_, h3, y, by simpa using h4, h5⟩
                rw [Nat.add_mul]; omega
          obtain ⟨i, q, _, hj, hq, z, hz1, hz2⟩ := hall 0 (List.range len0) (fun i hi' => List.mem_range.1 hi') j u hu
          have hzi : z = i ∧ i < len0 := by
            have hil : i < len0 := by
              rcases Nat.lt_or_ge i len0 with h1 | h1
              · exact h1
              · rw [List.getElem?_eq_none (by simpa using h1)] at hz1; cases hz1
            rw [List.getElem?_range hil] at hz1
            injection hz1 with hz1
            exact ⟨hz1.symm, hil⟩
          obtain ⟨rfl, hil⟩ := hzi
          have h6 := (hR z hil).2 q hq
          rw [hz2] at h6
          rw [← h6, hj]
          congr 1
          unfold Addr.add
          by_cases h7 : z * P.cellsOf e = 0 <;> by_cases h8 : q = 0 <;> simp [h7, h8, Nat.add_assoc]
theorem open_rows {r : Reach} {b0 : Nat} {t e : TypeId} {v : Value} {d : DataW H} {ps : List MemPlace} (n : Nat) (ls : List TypeId) (ht : P.underlying t = some (.slice e)) (hg : good P n e = true) (hl : lv P n e = ls) (hc : P.cellsOf e = ls.length)
    (hv : Value.okWide P w r b0 t v) (h : DataW.Trod enc P w base (fun _ => true) held t v d ps) (hlt : ∀ x ∈ ps, x.block < w.heap.size) :
    ∃ (A : Option Addr) (c : Nat) (rows : List (List Value)), v = .slice A rows.length c ∧ rows.length ≤ c ∧ c ≤ maxLen ∧ (∀ cs ∈ rows, Cells enc P w base (fun _ => true) held ls cs) ∧ Me.Seg w w.heap.size A rows.flatten ∧
      (∃ es sp : List (DataW H), (d = .slice es sp ∧ es.length = rows.length ∧ es.length + sp.length = c) ∨ (d = .nil ∧ rows = [] ∧ c = 0)) := by
  obtain ⟨A, c, rows, h1, h2, h3, h4, h5, _, h6⟩ := open_rows0 n ls ht hg hl hc hv h hlt
  exact ⟨A, c, rows, h1, h2, h3, h4, h5, h6⟩
end

section
variable {H : Type} {enc : TypeId × Value → H} {P : Program} {w : World} {base : Nat} {spare : Nat → Bool} {held : Bool}
/-- Cells that are all integers of one kind. -/
theorem cells_ints {ti : TypeId} {k : IntKind} (hu : P.underlying ti = some (.int k)) : ∀ {n : Nat} {cs : List Value}, Cells enc P w base spare held (List.replicate n ti) cs →
    ∃ zs : List Int, zs.length = n ∧ cs = zs.map (Value.int k) ∧ ∀ z ∈ zs, (Lit.int k z).wf = true
  | 0, cs, h => ⟨[], rfl, by simpa using h.1, by simp⟩
  | n + 1, cs, h => by
    obtain ⟨hl, hc⟩ := h
    match cs, hl with
    | c :: cs, hl =>
      obtain ⟨v, m, y, hv, hy⟩ := hc 0 ti (by simp [List.replicate_succ])
      simp at hv
      subst hv
      obtain ⟨z, hz, _, hw⟩ := DataW.trod_int hu hy
      simp at hz
      subst hz
      obtain ⟨zs, h1, h2, h3⟩ := cells_ints hu (n := n) (cs := cs) ⟨by simpa [List.replicate_succ] using hl, fun i u hi => by
        obtain ⟨v, m, y, hv, hy⟩ := hc (i + 1) u (by simpa [List.replicate_succ] using hi)
        exact ⟨v, m, y, by simpa using hv, hy⟩⟩
      exact ⟨z :: zs, by simp [h1], by simp [h2], by
        intro x hx
        rcases List.mem_cons.1 hx with rfl | hx
        · exact hw
        · exact h3 x hx⟩
theorem wf_bd {z : Int} (h : (Lit.int .i64 z).wf = true) : -9223372036854775808 ≤ z ∧ z ≤ 9223372036854775807 := by
  simp [Lit.wf, IntKind.min, IntKind.max, IntKind.signed, IntKind.bits] at h
  omega
end
end Go.Proofs.Ytoboecenlangmaa.Le
end
section
namespace Go.Proofs.Ytoboecenlangmaa.No
open Go.ChangeShapes Go.WideShapes Go.ChangeAt Go.RowKit
open Me Np
set_option linter.unusedVariables false

def leafs : List TypeId := [3, 3, 5, 3, 3, 3, 3, 3, 3, 3, 3, 3, 3, 3, 3, 3, 3, 3, 9]
theorem node_of {H : Type} {enc : TypeId × Value → H} {w : World} {base : Nat} {spare : Nat → Bool} {held : Bool} {cs : List Value} (h : Le.Cells enc Try.prog w base spare held leafs cs) : ∃ n : Nd, cs = ncs n := by
  obtain ⟨hl, hc⟩ := h
  have hl : cs.length = 19 := hl
  obtain ⟨v0, m0, y0, e0, t0⟩ := hc 0 3 rfl
  obtain ⟨z0, g0, _⟩ := DataW.trod_int Try.underlying3 t0
  simp only [List.cons.injEq, and_true] at g0
  subst g0
  obtain ⟨v1, m1, y1, e1, t1⟩ := hc 1 3 rfl
  obtain ⟨z1, g1, _⟩ := DataW.trod_int Try.underlying3 t1
  simp only [List.cons.injEq, and_true] at g1
  subst g1
  obtain ⟨v2, m2, y2, e2, t2⟩ := hc 2 5 rfl
  obtain ⟨z2, g2, _⟩ := DataW.trod_int Try.underlying5 t2
  simp only [List.cons.injEq, and_true] at g2
  subst g2
  obtain ⟨v3, m3, y3, e3, t3⟩ := hc 3 3 rfl
  obtain ⟨z3, g3, _⟩ := DataW.trod_int Try.underlying3 t3
  simp only [List.cons.injEq, and_true] at g3
  subst g3
  obtain ⟨v4, m4, y4, e4, t4⟩ := hc 4 3 rfl
  obtain ⟨z4, g4, _⟩ := DataW.trod_int Try.underlying3 t4
  simp only [List.cons.injEq, and_true] at g4
  subst g4
  obtain ⟨v5, m5, y5, e5, t5⟩ := hc 5 3 rfl
  obtain ⟨z5, g5, _⟩ := DataW.trod_int Try.underlying3 t5
  simp only [List.cons.injEq, and_true] at g5
  subst g5
  obtain ⟨v6, m6, y6, e6, t6⟩ := hc 6 3 rfl
  obtain ⟨z6, g6, _⟩ := DataW.trod_int Try.underlying3 t6
  simp only [List.cons.injEq, and_true] at g6
  subst g6
  obtain ⟨v7, m7, y7, e7, t7⟩ := hc 7 3 rfl
  obtain ⟨z7, g7, _⟩ := DataW.trod_int Try.underlying3 t7
  simp only [List.cons.injEq, and_true] at g7
  subst g7
  obtain ⟨v8, m8, y8, e8, t8⟩ := hc 8 3 rfl
  obtain ⟨z8, g8, _⟩ := DataW.trod_int Try.underlying3 t8
  simp only [List.cons.injEq, and_true] at g8
  subst g8
  obtain ⟨v9, m9, y9, e9, t9⟩ := hc 9 3 rfl
  obtain ⟨z9, g9, _⟩ := DataW.trod_int Try.underlying3 t9
  simp only [List.cons.injEq, and_true] at g9
  subst g9
  obtain ⟨v10, m10, y10, e10, t10⟩ := hc 10 3 rfl
  obtain ⟨z10, g10, _⟩ := DataW.trod_int Try.underlying3 t10
  simp only [List.cons.injEq, and_true] at g10
  subst g10
  obtain ⟨v11, m11, y11, e11, t11⟩ := hc 11 3 rfl
  obtain ⟨z11, g11, _⟩ := DataW.trod_int Try.underlying3 t11
  simp only [List.cons.injEq, and_true] at g11
  subst g11
  obtain ⟨v12, m12, y12, e12, t12⟩ := hc 12 3 rfl
  obtain ⟨z12, g12, _⟩ := DataW.trod_int Try.underlying3 t12
  simp only [List.cons.injEq, and_true] at g12
  subst g12
  obtain ⟨v13, m13, y13, e13, t13⟩ := hc 13 3 rfl
  obtain ⟨z13, g13, _⟩ := DataW.trod_int Try.underlying3 t13
  simp only [List.cons.injEq, and_true] at g13
  subst g13
  obtain ⟨v14, m14, y14, e14, t14⟩ := hc 14 3 rfl
  obtain ⟨z14, g14, _⟩ := DataW.trod_int Try.underlying3 t14
  simp only [List.cons.injEq, and_true] at g14
  subst g14
  obtain ⟨v15, m15, y15, e15, t15⟩ := hc 15 3 rfl
  obtain ⟨z15, g15, _⟩ := DataW.trod_int Try.underlying3 t15
  simp only [List.cons.injEq, and_true] at g15
  subst g15
  obtain ⟨v16, m16, y16, e16, t16⟩ := hc 16 3 rfl
  obtain ⟨z16, g16, _⟩ := DataW.trod_int Try.underlying3 t16
  simp only [List.cons.injEq, and_true] at g16
  subst g16
  obtain ⟨v17, m17, y17, e17, t17⟩ := hc 17 3 rfl
  obtain ⟨z17, g17, _⟩ := DataW.trod_int Try.underlying3 t17
  simp only [List.cons.injEq, and_true] at g17
  subst g17
  obtain ⟨v18, m18, y18, e18, t18⟩ := hc 18 9 rfl
  obtain ⟨z18, g18, _⟩ := DataW.trod_string Try.underlying9 t18
  simp only [List.cons.injEq, and_true] at g18
  subst g18
  refine ⟨⟨z0, z1, z2, z3, z4, z5, z6, z7, z8, z9, z10, z11, z12, z13, z14, z15, z16, z17, z18⟩, ?_⟩
  apply List.ext_getElem?
  intro i
  match i with
  | 0 => exact e0
  | 1 => exact e1
  | 2 => exact e2
  | 3 => exact e3
  | 4 => exact e4
  | 5 => exact e5
  | 6 => exact e6
  | 7 => exact e7
  | 8 => exact e8
  | 9 => exact e9
  | 10 => exact e10
  | 11 => exact e11
  | 12 => exact e12
  | 13 => exact e13
  | 14 => exact e14
  | 15 => exact e15
  | 16 => exact e16
  | 17 => exact e17
  | 18 => exact e18
  | i + 19 =>
    rw [List.getElem?_eq_none (by omega), List.getElem?_eq_none (by rw [ncs_length]; omega)]
theorem nodes_of {H : Type} {enc : TypeId × Value → H} {w : World} {base : Nat} {spare : Nat → Bool} {held : Bool} : ∀ {rows : List (List Value)}, (∀ cs ∈ rows, Le.Cells enc Try.prog w base spare held leafs cs) → ∃ l : List Nd, l.length = rows.length ∧ rows.flatten = l.flatMap ncs
  | [], _ => ⟨[], rfl, rfl⟩
  | cs :: rows, h => by
    obtain ⟨n, hn⟩ := node_of (h cs (by simp))
    obtain ⟨l, h1, h2⟩ := nodes_of (rows := rows) (fun c hc => h c (by simp [hc]))
    exact ⟨n :: l, by simp [h1], by simp [hn, h2]⟩
theorem bytes_node : Try.prog.bytesOf 54 = 160 := by kernel_rfl
end Go.Proofs.Ytoboecenlangmaa.No
end
section
namespace Go.Proofs.Ytoboecenlangmaa.Al
open Go.ChangeShapes Go.WideShapes Go.RowKit
open Me Np No
open Gl (G Row)
open Rd (Rd)
set_option linter.unusedVariables false

section
variable {H : Type} {enc : TypeId × Value → H} {w : World}
theorem cells_of {t : TypeId} {ls : List TypeId} {cs : List Value} (h : Rd enc Try.prog w t cs) (hg : Le.good Try.prog 8 t = true) (hl : Le.lv Try.prog 8 t = ls) (hc : Try.prog.cellsOf t = ls.length) (hn : cs.length = Try.prog.cellsOf t) : Le.Cells enc Try.prog w 0 (fun _ => true) true ls cs := by
  obtain ⟨fuel, x, hf, _⟩ := h
  exact ⟨by rw [hn, hc], fun i u hu => Le.leaves 8 hg hn hf i u (by rw [hl]; exact hu)⟩
theorem list_in {v : Value} (h : Rd enc Try.prog w 34 [v]) : ∃ (A : Option Addr) (c : Nat) (l : List Nd), v = .slice A l.length c ∧ LsOk w (fun _ => True) A c l := by
  obtain ⟨A, c, rows, hv, hc, _, hby, hs, hz, hr⟩ := h.slice Try.underlying34
  rw [No.bytes_node] at hby
  simp only [reachBytes] at hby
  have hce : Try.prog.cellsOf 54 = 19 := by kernel_rfl
  obtain ⟨l, hl1, hl2⟩ := No.nodes_of (rows := rows) (fun x hx => cells_of (hr x hx).2 (by kernel_rfl) (by kernel_rfl) (by rw [hce]; rfl) (hr x hx).1)
  injection hv with hv _
  refine ⟨A, c, l, by rw [hv, hl1], ⟨by rw [hl1]; exact hc, by omega, hz, ?_⟩⟩
  rw [hl2] at hs
  exact SegS.of hs (Nat.le_refl _) fun _ _ => trivial
theorem take_one {cs : List Value} {i n : Nat} {v : Value} (h : cs[i]? = some v) (hn : n = 1) : (cs.drop i).take n = [v] := by
  subst hn
  have hlt : i < cs.length := by
    rcases Nat.lt_or_ge i cs.length with h1 | h1
    · exact h1
    · rw [List.getElem?_eq_none h1] at h; cases h
  rw [List.drop_eq_getElem_cons hlt, List.take_succ_cons, List.take_zero]
  rw [List.getElem?_eq_getElem hlt] at h
  injection h with h
  rw [h]
theorem one_int : Try.prog.cellsOf 3 = 1 := by kernel_rfl
theorem one_nodes : Try.prog.cellsOf 34 = 1 := by kernel_rfl
theorem one_cells : Try.prog.cellsOf 76 = 1 := by kernel_rfl
theorem cell_in {cs : List Value} (hl : cs.length = 2) (h : Rd enc Try.prog w 79 cs) : ∃ x : Cl, cs = x.vals ∧ LsOk w (fun _ => True) x.A x.c x.l := by
  match cs, hl with
  | [v0, v1], _ =>
    obtain ⟨_, hf⟩ := h.struct Try.underlying79
    have h0 : Rd enc Try.prog w 34 (([v0, v1].drop 0).take (Try.prog.cellsOf 34)) := hf 0 _ rfl
    have h1 : Rd enc Try.prog w 3 (([v0, v1].drop 1).take (Try.prog.cellsOf 3)) := hf 1 _ rfl
    rw [take_one (v := v0) rfl one_nodes] at h0
    rw [take_one (v := v1) rfl one_int] at h1
    obtain ⟨A, c, l, rfl, hls⟩ := list_in h0
    obtain ⟨z, hz, _⟩ := h1.int Try.underlying3
    injection hz with hz _
    subst hz
    exact ⟨⟨A, c, l, z⟩, rfl, hls⟩
theorem cells_in : ∀ {rows : List (List Value)}, (∀ x ∈ rows, x.length = 2 ∧ Rd enc Try.prog w 79 x) → ∃ l : List Cl, l.length = rows.length ∧ rows.flatten = l.flatMap Cl.vals ∧ ∀ x ∈ l, LsOk w (fun _ => True) x.A x.c x.l
  | [], _ => ⟨[], rfl, rfl, by simp⟩
  | r :: rows, h => by
    obtain ⟨x, hx, hk⟩ := cell_in (h r (by simp)).1 (h r (by simp)).2
    obtain ⟨l, h1, h2, h3⟩ := cells_in (rows := rows) fun y hy => h y (by simp [hy])
    refine ⟨x :: l, by simp [h1], by simp [hx, h2], fun y hy => ?_⟩
    rcases List.mem_cons.1 hy with rfl | hy
    · exact hk
    · exact h3 y hy
theorem row_in {cs : List Value} (hl : cs.length = 2) (h : Rd enc Try.prog w 78 cs) : ∃ r : Rw, cs = r.vals ∧ r.Ok w (fun _ => True) := by
  match cs, hl with
  | [v0, v1], _ =>
    obtain ⟨_, hf⟩ := h.struct Try.underlying78
    have h0 : Rd enc Try.prog w 76 (([v0, v1].drop 0).take (Try.prog.cellsOf 76)) := hf 0 _ rfl
    have h1 : Rd enc Try.prog w 34 (([v0, v1].drop 1).take (Try.prog.cellsOf 34)) := hf 1 _ rfl
    rw [take_one (v := v0) rfl one_cells] at h0
    rw [take_one (v := v1) rfl one_nodes] at h1
    obtain ⟨A, c, rows, hv, hc, _, hby, hs, hz, hr⟩ := h0.slice Try.underlying76
    have hb32 : Try.prog.bytesOf 79 = 32 := by kernel_rfl
    rw [hb32] at hby
    simp only [reachBytes] at hby
    have hce : Try.prog.cellsOf 79 = 2 := by kernel_rfl
    obtain ⟨l, h2, h3, h4⟩ := cells_in (rows := rows) fun x hx => ⟨by rw [(hr x hx).1, hce], (hr x hx).2⟩
    obtain ⟨E, k, ex, rfl, hx⟩ := list_in h1
    injection hv with hv _
    subst hv
    refine ⟨⟨A, c, l, E, k, ex⟩, by rw [← h2]; rfl, ⟨by show l.length ≤ c; omega, by show l.length ≤ _; omega, ?_, h4, hx⟩⟩
    rw [h3] at hs
    exact SegS.of hs (Nat.le_refl _) fun _ _ => trivial
theorem rows_in : ∀ {rows : List (List Value)}, (∀ x ∈ rows, x.length = 2 ∧ Rd enc Try.prog w 78 x) → ∃ l : List Rw, l.length = rows.length ∧ rows.flatten = l.flatMap Rw.vals ∧ ∀ x ∈ l, x.Ok w (fun _ => True)
  | [], _ => ⟨[], rfl, rfl, by simp⟩
  | r :: rows, h => by
    obtain ⟨x, hx, hk⟩ := row_in (h r (by simp)).1 (h r (by simp)).2
    obtain ⟨l, h1, h2, h3⟩ := rows_in (rows := rows) fun y hy => h y (by simp [hy])
    refine ⟨x :: l, by simp [h1], by simp [hx, h2], fun y hy => ?_⟩
    rcases List.mem_cons.1 hy with rfl | hy
    · exact hk
    · exact h3 y hy
/-- Rows. -/
theorem arg_rows {v : Value} (h : Rd enc Try.prog w 23 [v]) : ∃ (A : Option Addr) (c : Nat) (rs : List Rw), v = .slice A rs.length c ∧ RsOk w (fun _ => True) A c rs := by
  obtain ⟨A, c, rows, hv, hc, _, hby, hs, hz, hr⟩ := h.slice Try.underlying23
  have hb48 : Try.prog.bytesOf 78 = 48 := by kernel_rfl
  rw [hb48] at hby
  simp only [reachBytes] at hby
  have hce : Try.prog.cellsOf 78 = 2 := by kernel_rfl
  obtain ⟨l, h2, h3, h4⟩ := rows_in (rows := rows) fun x hx => ⟨by rw [(hr x hx).1, hce], (hr x hx).2⟩
  injection hv with hv _
  refine ⟨A, c, l, by rw [hv, h2], ⟨by omega, by omega, ?_, h4⟩⟩
  rw [h3] at hs
  exact SegS.of hs (Nat.le_refl _) fun _ _ => trivial
theorem glue_in {cs : List Value} (hl : cs.length = 5) (h : Le.Cells enc Try.prog w 0 (fun _ => true) true (List.replicate 5 3) cs) : ∃ g : G, cs = g.vals := by
  obtain ⟨zs, h1, h2, _⟩ := Le.cells_ints Try.underlying3 h
  match zs, h1 with
  | [a, b, c, d, e], _ => exact ⟨⟨a, b, c, d, e⟩, h2⟩
theorem glues_in : ∀ {rows : List (List Value)}, (∀ x ∈ rows, x.length = 5 ∧ Le.Cells enc Try.prog w 0 (fun _ => true) true (List.replicate 5 3) x) → ∃ l : List G, l.length = rows.length ∧ rows.flatten = l.flatMap G.vals
  | [], _ => ⟨[], rfl, rfl⟩
  | r :: rows, h => by
    obtain ⟨x, hx⟩ := glue_in (h r (by simp)).1 (h r (by simp)).2
    obtain ⟨l, h1, h2⟩ := glues_in (rows := rows) fun y hy => h y (by simp [hy])
    exact ⟨x :: l, by simp [h1], by simp [hx, h2]⟩
/-- Skips. -/
theorem arg_glues {v : Value} (h : Rd enc Try.prog w 22 [v]) : ∃ (A : Option Addr) (c : Nat) (ss : List G), v = .slice A ss.length c ∧ Row w A ss ∧ ss.length ≤ maxLen := by
  obtain ⟨A, c, rows, hv, hc, hm, hby, hs, hz, hr⟩ := h.slice Try.underlying22
  have hce : Try.prog.cellsOf 40 = 5 := by kernel_rfl
  obtain ⟨l, h2, h3⟩ := glues_in (rows := rows) fun x hx => ⟨by rw [(hr x hx).1, hce], cells_of (hr x hx).2 (by kernel_rfl) (by kernel_rfl) (by rw [hce]; rfl) (hr x hx).1⟩
  injection hv with hv _
  refine ⟨A, c, l, by rw [hv, h2], ?_, by omega⟩
  rw [h3] at hs
  exact hs
end
end Go.Proofs.Ytoboecenlangmaa.Al
end
section
namespace Go.Proofs.Ytoboecenlangmaa.Li
open Go.ChangeShapes Go.WideShapes Go.ChangeAt Go.RowKit

section
variable {H : Type} {enc : TypeId × Value → H} {P : Program}

theorem trodAll_below (hl : laidOutB P = true) {W W' : World} (hb : Below W.heap.size W W') {sp : Nat → Bool} :
    ∀ {ts : List TypeId} {vs : List Value} {ds : List (DataW H)} {p : List MemPlace}, ts.all (fun t => P.readableRec t && decide (t < P.types.size)) = true → DataW.TrodAll enc P W 0 (fun _ => true) true ts vs ds p →
      (∀ x ∈ p, x.block < W.heap.size) → (∀ x ∈ p, sp x.block = true) → DataW.TrodAll enc P W' 0 sp true ts vs ds p
  | [], _, _, _, _, h, _, _ => by
    obtain ⟨rfl, rfl, rfl⟩ := trodAll_nil h
    exact trodAll_mk0
  | t :: ts, _, _, _, hr, h, hlt, hs => by
    obtain ⟨v, vs1, d, ds1, a, b, rfl, rfl, rfl, h1, h2⟩ := trodAll_cons h
    simp only [List.all_cons, Bool.and_eq_true, decide_eq_true_eq] at hr
    refine trodAll_cons_mk (WideElems.Trod_stays hl hr.1.1 hr.1.2 h1 (fun x hx => hb.same (hlt x (by simp [hx]))) (fun x hx => hs x (by simp [hx]))) ?_
    exact trodAll_below hl hb (by simpa using hr.2) h2 (fun x hx => hlt x (by simp [hx])) (fun x hx => hs x (by simp [hx]))

theorem law_post {f : Func} {s : ChangeSpec} {apart fresh handsOn again : Bool} {W W' : World} {args : Array Value} {ds gs : List (DataW H)} {before : List MemPlace} {tb : TypeId}
    (hl : laidOutB P = true) (hv : s.vars = []) (hW : DataW.Whole enc P f.params.toList s.vars apart W args.toList ds gs before) (hr : f.params.toList.all (fun t => P.readableRec t && decide (t < P.types.size)) = true)
    (hres : (s.fn H (ds ++ gs)).results = [.lit (.bool true)]) (hargs : (s.fn H (ds ++ gs)).args = ds) (hvars : (s.fn H (ds ++ gs)).vars = []) (hrt : f.resultTypes = #[tb]) (htb : P.underlying tb = some .bool)
    (hb : Below W.heap.size W W') : s.post enc P f apart fresh handsOn again W args (.bool true) W' := by
  have hlt0 := hW.lt
  obtain ⟨p, q, hA, hV, he, hfz, hnd⟩ := id hW
  rw [hv] at hV
  obtain ⟨rfl, rfl⟩ := trodVars_none hV
  rw [List.append_nil] at he
  subst he
  have hlt : ∀ x ∈ before, x.block < W.heap.size := fun x hx => hlt0 x hx
  have hR : ∀ (b : Nat) (sp : Nat → Bool) (hd : Bool), DataW.TrodAll enc P W' b sp hd f.resultTypes.toList ((Value.bool true).resultList f.resultTypes.size) (s.fn H (ds ++ [])).results [] := by
    intro b sp hd
    rw [hrt, hres]
    exact trodAll_mk1 (shut_bool htb _)
  have hVW : ∀ sp : Nat → Bool, DataW.TrodVars enc P W' sp s.vars (s.fn H (ds ++ [])).vars [] := by
    intro sp
    rw [hv, hvars]
    rfl
  have hAW : ∀ sp : Nat → Bool, (∀ x ∈ before, sp x.block = true) → DataW.TrodAll enc P W' 0 sp true f.params.toList args.toList (s.fn H (ds ++ [])).args before := by
    intro sp hs
    rw [hargs]
    exact trodAll_below hl hb hr hA hlt hs
  refine ⟨ds, [], before, [], before, [], hW, hR _ _ _, hAW _ (fun x hx => by simpa using hlt x hx), hVW _, World.keptBut_mono (fun x hx => ⟨hx, .inr (.inl hx)⟩) (hb.frame (· ∈ before)), fun _ => ⟨?_, ?_⟩⟩
  · exact ok_one hrt rfl (okWide_bool_mk htb _)
  · refine ⟨_, _, [] ++ before ++ [], ⟨[] ++ before, [], trodAll_append (hAW _ (fun _ _ => rfl)) (hR _ _ _), hVW _, rfl, ?_, ?_⟩, ?_⟩
    · intro b off hx
      have hx' : MemPlace.cell b off ∈ before := by simpa using hx
      rw [hb.frozen (hlt _ hx')]
      exact hfz b off hx'
    · intro ha
      simpa using hnd ha
    · intro x hx _
      simpa using hx
end
end Go.Proofs.Ytoboecenlangmaa.Li
end
