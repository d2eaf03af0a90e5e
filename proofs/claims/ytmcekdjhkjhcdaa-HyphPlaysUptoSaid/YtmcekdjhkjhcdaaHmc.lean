import Derived.Test.YtmcekdjhkjhcdaaHmb

import Derived.BigQuiet
/- The document's Except (printed by gen_hmb.py). Conditions: those that each theorem names. -/
namespace Go.Proofs.Ytmcekdjhkjhcdaa.Hy
open Go.ChangeShapes Go.WideShapes Go.ChangeAt Go.RowKit
open Me Hp
set_option linter.unusedVariables false
set_option linter.unusedSimpArgs false
/-- Only the counter of draws has moved. -/
theorem DOut.redrawn {B q : Nat} {xv : Value} {L X : List Xc} {w w' : World} (h : DOut B q xv L X w w') (w2 : World) (e : w2.heap = w'.heap) (e2 : w2.os = w'.os := by rfl) (e3 : w2.tape = w'.tape := by rfl) (e4 : w2.output = w'.output := by rfl) : DOut B q xv L X w w2 := by
  obtain ⟨h1, pv', xv', h2, h3⟩ := h
  have hb : Below w'.heap.size w' w2 := ⟨e2, e3, e4, by rw [e]; exact Nat.le_refl _, fun k _ => by rw [e]⟩
  refine ⟨⟨by rw [e2]; exact h1.os, by rw [e3]; exact h1.tape, by rw [e4]; exact h1.output, by rw [e]; exact h1.size, fun k hk => by rw [e]; exact h1.block k hk⟩, pv', xv', h2.below hb, ⟨fun k hk a b => by rw [e]; exact h3.same k hk a b, h3.at_⟩⟩
/-- An exception's place takes another one. -/
theorem DAt.xput_fin {B q gP cP k : Nat} {L X : List Xc} {pv u : Value} {w W : World} {x : Xc} (hB : B ≤ w.heap.size) (hd : DAt W B q L X pv (.slice (some ⟨gP, 0, none⟩) X.length cP)) (hlow : Below w.heap.size w W) (hBq : B ≤ q) (hk : k < X.length) (hu : W.ownsRow B 3 1 u x.2.length (x.2.map iv)) :
    DOut B q (.slice (some ⟨gP, 0, none⟩) X.length cP) L (X.set k x) w ((W.setCell ⟨gP, k * 2, none⟩ (.string (S x.1))).setCell ⟨gP, k * 2 + 1, none⟩ u) := by
  obtain ⟨us, h1, h2, h3⟩ := hd.xr
  have hgl := h2.lt gP rfl
  have s1 := h2.stored (k * 2) (.string (S x.1))
  have s2 := s1.1.stored (k * 2 + 1) u
  have hr : ∀ g', (some gP : Option Nat) = some g' → ∃ cs, Blk W g' 86 cs := fun g' e => own_typed h2 g' (by rw [← e]; rfl)
  have a := grown_set W gP (k * 2) (.string (S x.1))
  have b := grown_set (W.setCell ⟨gP, k * 2, none⟩ (.string (S x.1))) gP (k * 2 + 1) u
  have hgr : W.grownBy ((W.setCell ⟨gP, k * 2, none⟩ (.string (S x.1))).setCell ⟨gP, k * 2 + 1, none⟩ u) (some gP) :=
    ⟨b.os.trans a.os, b.tape.trans a.tape, b.output.trans a.output, Nat.le_trans a.size b.size, fun k hk hne => (b.block k (Nat.lt_of_lt_of_le hk a.size) hne).trans (a.block k hk hne)⟩
  have hqb : some q ≠ some gP := by
    intro e
    obtain ⟨cs, hb⟩ := hr q e.symm
    have a : W.heap[q]? = some (.cells _ 86 (0, 0)) := hb
    have b : W.heap[q]? = some (.cells _ 97 (0, 0)) := hd.blk
    rw [a] at b
    simp only [Option.some.injEq, Obj.cells.injEq] at b
    exact absurd b.2.1 (by decide)
  refine ⟨below_set (below_set (hlow.mono hB) hgl.1 _ _) hgl.1 _ _, pv, _, ⟨hd.blk.grown hgr hqb, hBq, ?_, us.set k u, by rw [List.length_set, List.length_set]; exact h1, ?_, ?_⟩, fun i hi p1 p2 => (hgr.block i (Nat.lt_of_lt_of_le hi hlow.size) p2).trans (hlow.block i hi), .inl rfl⟩
  · obtain ⟨vs, p1, p2, p3⟩ := hd.pr
    exact ⟨vs, p1, own_kept_type p2 hgr hr (by decide), fun i y z hy hz => own_kept_type (p3 i y z hy hz) hgr hr (by decide)⟩
  · have s3 := s2.1
    rw [xcells_set h1 hk] at s3
    rw [List.length_set]
    exact s3
  · intro i z t hz ht
    rcases get_set hz with ⟨rfl, rfl⟩ | ⟨hne, hz⟩
    · rcases get_set ht with ⟨_, rfl⟩ | ⟨hne, _⟩
      · exact own_kept_type hu hgr hr (by decide)
      · exact absurd rfl hne
    · rcases get_set ht with ⟨rfl, _⟩ | ⟨_, ht⟩
      · exact absurd rfl hne
      · exact own_kept_type (h3 i z t hz ht) hgr hr (by decide)
theorem except_row : (Try.prog.info? 86).map (fun i => (i.zero, i.size, i.bytes)) = some (some (.agg #[.string ⟨#[]⟩, .slice none 0 0]), 2, 40) := by kernel_rfl
/-- The new row is in its place. -/
theorem DAt.except_fin {B q : Nat} {L X : List Xc} {pv xv v' : Value} {w w1 w' : World} {x : Xc} {u : Value} (h : DAt w B q L X pv xv) (hb1 : Below w.heap.size w w1) (hB : B ≤ w.heap.size) {us : List Value} (hus : us.length = X.length)
    (hi : ∀ (k : Nat) (y : Xc) (z : Value), X[k]? = some y → us[k]? = some z → w.ownsRow B 3 1 z y.2.length (y.2.map iv)) (hu : w1.ownsRow w.heap.size 3 1 u x.2.length (x.2.map iv)) (hlow : Below w1.heap.size w1 w') {K : Nat} (hK : K ≤ X.length) {n : Nat} (hn : n = X.length + 1)
    (ho : w'.ownsRow w1.heap.size 86 2 v' n ((xcells X us).take (K * 2) ++ [.string (S x.1), u] ++ (xcells X us).drop (K * 2))) :
    Below B w (w'.setCell ⟨q, 1, none⟩ v') ∧ DAt (w'.setCell ⟨q, 1, none⟩ v') B q L (insAt X K x) pv v' ∧ Frm w q xv (w'.setCell ⟨q, 1, none⟩ v') v' := by
  subst hn
  have hlow0 : Below w.heap.size w w' := andThen hb1 hlow
  have hd := h.below hlow0
  have hne : ∀ {t : TypeId} {n z : Nat} {v : Value} {xs : List Value}, w'.ownsRow B t z v n xs → t ≠ 97 → (w'.setCell ⟨q, 1, none⟩ v').ownsRow B t z v n xs := fun ho ht => ho.kept (grown_set w' q 1 v') (own_not_blk ho hd.blk ht)
  have hr : RowS 86 (w'.setCell ⟨q, 1, none⟩ v') B (insAt X K x) v' := by
    refine RowS.ins hus hK (hne (own_base ho (Nat.le_trans hB hb1.size)) (by decide)) (fun k y z hy hz => hne (own_below (hi k y z hy hz) hlow0) (by decide)) (hne (own_base (own_below hu hlow) hB) (by decide))
  have hx : RowS 48 (w'.setCell ⟨q, 1, none⟩ v') B L pv := by
    obtain ⟨vs, h1, h2, h3⟩ := hd.pr
    exact ⟨vs, h1, hne h2 (by decide), fun k y z hy hz => hne (h3 k y z hy hz) (by decide)⟩
  refine ⟨below_set (hlow0.mono hB) h.low _ _, ⟨hd.blk.set 1 v', h.low, hx, hr⟩, fun k hk h1 h2 => (heap_setCell_other w' ⟨q, 1, none⟩ k v' (fun e => h1 (by simpa using e))).trans (hlow0.block k hk), ?_⟩
  have hvo : ∀ k, v'.ownBlock = some k → w1.heap.size ≤ k := fun k hk => (ho.lt k hk).1
  rcases ho.2 with ⟨rfl, h0⟩ | ⟨g, cap, cur, rfl, hg, _⟩
  · omega
  · exact .inr ⟨g, rfl, Nat.le_trans hb1.size hg⟩
set_option maxHeartbeats 8000000 in
set_option maxRecDepth 100000 in
theorem rexcept_any (B q : Nat) (L X : List Xc) (pv xv : Value) (s : ByteArray) (w : World) (hs : s.size ≤ 1048576) (h : DAt w B q L X pv xv) (hL : Sor X) (hB : B ≤ w.heap.size) (hf : X.length ≤ 1000) :
    Calls Try.prog 87 #[.pointer (some ⟨q, 0, none⟩), .string s] w fun e w' => e = .returned (.int .i64 (xtellE X s.data.toList)) ∧ DOut B q xv L (xtell X s.data.toList) w w' := by
  have HR := Lib.hid (parted_any s w hs)
  have HD := Lib.hid h
  have HSO := Lib.hid hL
  obtain ⟨us, hus, hou, hu1, hui⟩ := h.xr.one
  have HUI := Lib.hid (And.intro hus hui)
  have HC1 := Lib.hid (xcells_one (X := X) hu1)
  have HCL := Lib.hid (xcells_length hus)
  have HOU := Lib.hid hou
  have HB := Lib.hid hB
  have SAME := Lib.hid (show ∀ W, Below w.heap.size w W → ∀ T, X = T → DOut B q xv L T w W from fun W hW T hT => by
    subst hT
    exact ⟨hW.mono hB, _, _, h.below hW, Frm.of_below q xv hW⟩)
  clear h hL hou hu1 hui hus hB
  go_enter Try.func87, Try.ntmps87
  go_wp2_with fail
  refine HR.out.mono ?_
  clear HR
  rintro e w1 ⟨hb1, sig, A3, n0, c3, ok, rfl, hr⟩
  rcases hr with ⟨rfl, hp⟩ | ⟨rfl, x, hp, rfl, rfl, -, -, hown⟩
  · have HE := Lib.hid (show (70 : Int) = xtellE X s.data.toList by unfold xtellE; rw [hp])
    have HT := Lib.hid (show X = xtell X s.data.toList by unfold xtell; rw [hp])
    have HB1 := Lib.hid hb1
    clear hb1 hp
    go_wp2_with fail
    go_ret
    exact ⟨ret_in HE.out, SAME.out _ (andAlloc HB1.out _) _ HT.out⟩
  · skip
    have HP := Lib.hid hp
    have HB1 := Lib.hid hb1
    have hKle := xk_le X x.1
    generalize hn3 : x.2.length = n3 at *
    have HOW := Lib.hid hown
    have HN3 := Lib.hid hn3
    have HDA := Lib.hid (fun W (h : Below w1.heap.size w1 W) => (HD.out.below hb1).below h)
    have FIN := Lib.hid (fun v' w' n (hn : n = X.length + 1) (hlow : Below w1.heap.size w1 w') => DAt.except_fin (v' := v') HD.out hb1 HB.out HUI.out.1 HUI.out.2 (by rw [hn3]; exact hown) hlow hKle hn)
    have HSG := Lib.hid (fun W (h : Below w1.heap.size w1 W) => show ∀ A c, xv = .slice A X.length c → Seg W W.heap.size A (xcells X us) from fun A c e => by
      obtain ⟨A', c', e2, _, _, hs⟩ := Seg.of_own (own_below (own_below HOU.out hb1) h)
      rw [e] at e2
      injection e2 with e3 _ e4
      subst e3
      exact hs)
    have SAME := Lib.hid (fun W (h : Below w1.heap.size w1 W) T (hT : X = T) => SAME.out W (andThen hb1 h) T hT)
    generalize hZ : S x.1 = Z at *
    have HZ := Lib.hid hZ
    generalize hC : xcells X us = C at *
    clear hown hb1 hp hn3 hZ hC
    generalize hKK : xk X x.1 = K at *
    have HKK := Lib.hid hKK
    generalize hln : X.length = ln at *
    have HLN := Lib.hid hln
    clear hKK hln
    go_upto_region 4 with fail
    have HPB := Lib.hid (fun W (h : Below (w1.alloc (.cells #[.string Z, .slice A3 n3 c3] 86)).heap.size (w1.alloc (.cells #[.string Z, .slice A3 n3 c3] 86)) W) => (Blk.new w1 86 #[.string Z, .slice A3 n3 c3]).below h (by simp))
    have hbl5 : Below w1.heap.size w1 (w1.alloc (.cells #[.string Z, .slice A3 n3 c3] 86)) := andAlloc (Below.refl w1.heap.size w1) _
    have HBL5 := Lib.hid hbl5
    have HD5 := Lib.hid (fun W (h : Below (w1.alloc (.cells #[.string Z, .slice A3 n3 c3] 86)).heap.size (w1.alloc (.cells #[.string Z, .slice A3 n3 c3] 86)) W) => HDA.out W (andThen hbl5 h))
    clear hbl5
    generalize w1.alloc (.cells #[.string Z, .slice A3 n3 c3] 86) = w5 at HPB HD5 HBL5 ⊢
    generalize w1.heap.size = g5 at HPB ⊢
    go_wp2_with fail
    go_loopw [7] (fun v7 wr => ∃ k : Nat, v7 = .int .i64 (k : Int) ∧ k ≤ K ∧ Below w5.heap.size w5 wr) (fun v7 _ => K + 1 - (intOf v7).toNat)
    case atStart => exact ⟨0, rfl, Nat.zero_le _, Below.refl _ _⟩
    case round =>
      obtain ⟨k, rfl, hk, hlow⟩ := hrel
      have HLO := Lib.hid (andThen HBL5.out hlow)
      have hdr := HD5.out wr hlow
      have cq : wr.cell? ⟨q, 1, none⟩ = some xv := hdr.blk.cell 1
      have cz : wr.cell? ⟨g5, 0, none⟩ = some (.string Z) := (HPB.out wr hlow).cell 0
      have HPB := Lib.hid (fun W (h : Below wr.heap.size wr W) => HPB.out W (andThen hlow h))
      have HLOW := Lib.hid hlow
      have hql : q < wr.heap.size := hdr.blk.lt
      have hgl5 : g5 < wr.heap.size := (HPB.out wr (Below.refl _ _)).lt
      clear hlow
      by_cases hkl : k < ln
      · obtain ⟨y, hy⟩ := get_some (l := X) (k := k) (by rw [HLN.out]; exact hkl)
        obtain ⟨usr, _, hor, _⟩ := hdr.xr
        obtain ⟨gP, cP, uy, rfl, hnc, hBg, hgl, cy, cyu, _⟩ := hdr.xr.get hy
        have HOR := Lib.hid hor
        rw [HLN.out] at hnc cq
        have HSG := Lib.hid (fun W h => HSG.out W h (some ⟨gP, 0, none⟩) cP (by rw [HLN.out]))
        have HY := Lib.hid hy
        have hint : (k : Int) < (ln : Int) := by omega
        have hdk : decide ((k : Int) < (ln : Int)) = true := decide_eq_true hint
        have hcm : Op.bytesLess (S y.1).toList Z.toList = lw y.1 x.1 := by rw [← HZ.out, S_lst, S_lst]; rfl
        have hce : ((S y.1).toList == Z.toList) = decide (y.1 = x.1) := by
          rw [← HZ.out, S_lst, S_lst]
          by_cases e : y.1 = x.1
          · rw [e, decide_eq_true rfl]; exact beq_self_eq_true _
          · rw [decide_eq_false e, beq_eq_false_iff_ne]; exact e
        have hon := fun h : lw y.1 x.1 = true => xk_on HSO.out (by rw [HKK.out]; exact hk) hy h
        have hst := fun h : lw y.1 x.1 = false => xk_stop (by rw [HKK.out]; exact hk) hy h
        rw [HKK.out] at hon hst
        have HDR := Lib.hid hdr
        clear hy hdr
        generalize hYY : S y.1 = Y at *
        cases hl : lw y.1 x.1
        · rw [hl] at hcm
          have hkK := hst hl
          subst hkK
          clear hon hst hl
          go_wp2_with fail
          go_quiet (fail)
          go_wp2_with fail
          by_cases he : y.1 = x.1
          · rw [decide_eq_true he] at hce
            have HH := Lib.hid (show xhas X x.1 = true by rw [xhas_is (by rw [HKK.out]; exact HY.out)]; exact decide_eq_true he)
            clear he hcm

            have HE := Lib.hid (show (0 : Int) = xtellE X s.data.toList by unfold xtellE; rw [HP.out]; simp only [HH.out, if_true])
            have HT := Lib.hid (show X.set k x = xtell X s.data.toList by rw [← HKK.out]; unfold xtell; rw [HP.out]; simp only [HH.out, if_true]; unfold xput; rw [if_pos HH.out])
            have HU := Lib.hid (own_below HOW.out HLO.out)
            have PUT := Lib.hid (DAt.xput_fin (x := x) (u := .slice A3 n3 c3) (k := k) HB.out HDR.out (andThen HB1.out HLO.out) HD.out.low (by rw [HLN.out]; exact hkl) (by rw [HN3.out]; exact own_base HU.out HB.out))
            rw [HZ.out, HT.out] at PUT
            have hf0 := HOR.out.frozenAt (k * 2)
            have hf1 := HOR.out.frozenAt (k * 2 + 1)
            have cz1 : wr.cell? ⟨g5, 1, none⟩ = some (.slice A3 n3 c3) := (HPB.out wr (Below.refl _ _)).cell 1
            go_wp2_with fail
            go_quiet (fail)
            go_upto_region 10 with fail
            generalize hW : World.drewN wr _ = W
            have cq : W.cell? ⟨q, 1, none⟩ = some (.slice (some ⟨gP, 0, none⟩) ln cP) := by rw [← hW]; exact cq
            have cz : W.cell? ⟨g5, 0, none⟩ = some (.string Z) := by rw [← hW]; exact cz
            have cz1 : W.cell? ⟨g5, 1, none⟩ = some (.slice A3 n3 c3) := by rw [← hW]; exact cz1
            have cy : W.cell? ⟨gP, k * 2, none⟩ = some (.string Y) := by rw [← hW]; exact cy
            have cyu : W.cell? ⟨gP, k * 2 + 1, none⟩ = some uy := by rw [← hW]; exact cyu
            have hf0 : W.frozen? ⟨gP, k * 2, none⟩ = false := by rw [← hW]; exact hf0
            have hf1 : W.frozen? ⟨gP, k * 2 + 1, none⟩ = false := by rw [← hW]; exact hf1
            have PUT := Lib.hid (show DOut B q (.slice (some ⟨gP, 0, none⟩) ln cP) L (xtell X s.data.toList) w ((W.setCell ⟨gP, k * 2, none⟩ (.string Z)).setCell ⟨gP, k * 2 + 1, none⟩ (.slice A3 n3 c3)) by rw [← hW]; have h := PUT.out; rw [HLN.out] at h; exact h.redrawn _ rfl)
            clear hW
            go_region
            go_wp2_with fail
            go_ret
            exact ⟨ret_in HE.out, by rw [HLN.out]; exact PUT.out.redrawn _ rfl⟩
          · rw [decide_eq_false he] at hce
            have HNH := Lib.hid (show xhas X x.1 = false by rw [xhas_is (by rw [HKK.out]; exact HY.out)]; exact decide_eq_false he)
            clear he hcm
            have hkc : k ≤ cP := by omega
            have hkn : k ≤ ln := by omega
            have hkci : (k : Int) ≤ (cP : Int) := by omega
            by_cases h5 : ln = 1000
            · have hl5 : ((ln : Int) == 1000) = true := by rw [beq_iff_eq]; omega
              have HE := Lib.hid (show (6 : Int) = xtellE X s.data.toList by unfold xtellE; rw [HP.out]; simp only [HNH.out, Bool.false_eq_true, if_false]; rw [if_pos (by rw [HLN.out]; exact h5)])
              have HT := Lib.hid (show X = xtell X s.data.toList by unfold xtell; rw [HP.out]; simp only [HNH.out, Bool.false_eq_true, if_false]; rw [if_pos (by rw [HLN.out]; exact h5)])
              clear h5
              go_wp2_with fail
              go_quiet (fail)
              go_wp2_with fail
              go_ret
              exact ⟨ret_in HE.out, SAME.out _ (by repeat (first | exact HLO.out | refine andAlloc ?_ _ | refine below_drewN ?_ _ | refine Below.drew ?_)) _ HT.out⟩
            · have hl5 : ((ln : Int) == 1000) = false := by rw [beq_eq_false_iff_ne]; omega
              have HE := Lib.hid (show (0 : Int) = xtellE X s.data.toList by unfold xtellE; rw [HP.out]; simp only [HNH.out, Bool.false_eq_true, if_false]; rw [if_neg (by rw [HLN.out]; exact h5)])
              have HT := Lib.hid (show insAt X k x = xtell X s.data.toList by rw [← HKK.out]; unfold xtell; rw [HP.out]; simp only [HNH.out, Bool.false_eq_true, if_false]; rw [if_neg (by rw [HLN.out]; exact h5)]; unfold xput; rw [HNH.out]; rfl)
              skip
              go_wp2_with fail
              go_quiet (fail)
              go_upto_region 14 with fail
              generalize hW : World.drewN wr _ = W
              have hlowW : Below w5.heap.size w5 W := by rw [← hW]; exact below_drewN HLOW.out _
              have HLO := Lib.hid (andThen HBL5.out hlowW)
              have cq : W.cell? ⟨q, 1, none⟩ = some (.slice (some ⟨gP, 0, none⟩) ln cP) := by rw [← hW]; exact cq
              have hql : q < W.heap.size := by rw [← hW]; exact hql
              have HPB := Lib.hid (fun W' (h : Below W.heap.size W W') => HPB.out W' (by rw [← hW] at h; exact andThen (below_drewN (Below.refl _ _) _) h))
              clear hlowW hW
              have HO0 := Lib.hid (own_made0 (t := 86) W)
              have HLA := Lib.hid (andAlloc (Below.refl W.heap.size W) (.cells #[] 86))
              have HSG0 := Lib.hid ((HSG.out _ (andThen HLO.out HLA.out)).take (k * 2))
              have HN0 := Lib.hid (show (C.take (k * 2)).length = k * 2 by rw [List.length_take, HCL.out]; omega)
              have HC0 := Lib.hid (fun u (hu : u ∈ C.take (k * 2)) => HC1.out u (List.mem_of_mem_take hu))
              have hm0 : 0 + k ≤ maxLen := by unfold maxLen; omega
              have hm1 : (0 + k) * 40 ≤ 140737488355328 := by omega
              have HA0 := Lib.hid (show ((some ⟨gP, 0, none⟩) : Option Addr) = none → cP = 0 from fun e => by cases e)
              go_upto_region 15 with (at_builtin; refine wpList_append_low rfl _ _ 95 rfl 86 _ 2 40 Try.underlying95 except_row rfl (by decide) W HLA.out _ 0 [] rfl HO0.out _ (some ⟨gP, 0, none⟩) k cP (C.take (k * 2)) rfl HN0.out HSG0.out HA0.out HC0.out hm0 hm1 ?_; intro v8 w8 hown8 hlow8; rw [Nat.zero_add, List.nil_append] at hown8; have HO8 := Lib.hid hown8; have HL8 := Lib.hid hlow8; have cp0 := (HPB.out w8 hlow8).cell 0; have cp1 := (HPB.out w8 hlow8).cell 1; clear hown8 hlow8)
              go_upto_region 16 with (at_builtin; refine wpList_push_low rfl _ _ 95 rfl 86 _ 2 40 Try.underlying95 except_row rfl (by decide) (by decide) W (andAlloc HL8.out _) _ k (C.take (k * 2)) rfl (HO8.out.alloc _) #[.string Z, .slice A3 n3 c3] rfl rfl rfl (Blk.new _ _ _) (by omega) ?_; intro v9 w9 hown9 hlow9; have HO9 := Lib.hid hown9; have HL9 := Lib.hid hlow9; have cq9 : w9.cell? ⟨q, 1, none⟩ = some (.slice (some ⟨gP, 0, none⟩) ln cP) := (by have h := (HDA.out w9 (andThen HLO.out hlow9)).blk.cell 1; first | exact h | (rw [HLN.out] at h; exact h)); have cqf := (HDA.out w9 (andThen HLO.out hlow9)).blk.free 1; clear hown9 hlow9)
              clear cp0 cp1
              have hck : ¬ cP = k := by omega
              have HND := Lib.hid (show (C.drop (k * 2)).length = (ln - k) * 2 by have := HCL.out; rw [List.length_drop]; omega)
              go_wp2_with (at_builtin; refine wpList_append_low rfl _ _ 95 rfl 86 _ 2 40 Try.underlying95 except_row rfl (by decide) W HL9.out _ (k + 1) (C.take (k * 2) ++ [Value.string Z, .slice A3 n3 c3]) rfl HO9.out _ (some ⟨gP, k * 2, none⟩) (ln - k) (cP - k) (C.drop (k * 2)) rfl HND.out (by have h := (HSG.out w9 (andThen HLO.out HL9.out)).drop (k * 2); rw [Nat.zero_add] at h; exact h) (by intro e; first | (cases e; done) | rfl) (fun u hu => HC1.out u (List.mem_of_mem_drop hu)) (by unfold maxLen; omega) (by omega) ?_; intro v10 w10 hown10 hlow10; obtain ⟨A10, c10, rfl, -, -, -⟩ := own_sl hown10; have HO10 := Lib.hid hown10; have HL10 := Lib.hid hlow10; have cq10 := (HDA.out w10 (andThen HLO.out hlow10)).blk.cell 1; have cqf10 := (HDA.out w10 (andThen HLO.out hlow10)).blk.free 1; clear hown10 hlow10)
              go_ret
              skip
              have hF := FIN.out _ w10 (k + 1 + (ln - k)) (by omega) (andThen HLO.out HL10.out) (own_base HO10.out HLO.out.size)
              rw [HT.out] at hF
              exact ⟨ret_in HE.out, hF.1, Exists.intro _ (Exists.intro _ hF.2)⟩
        · rw [hl] at hcm
          have hkK := hon hl
          clear hon hst hl hce
          go_wp2_with fail
          go_quiet (fail)
          go_wp2_with fail
          go_roundw
          case rel => exact ⟨k + 1, by go_num, hkK, by repeat (first | exact HLOW.out | refine below_drewN ?_ _ | refine Below.drew ?_)⟩
          case measure => clear hint hdk; simp [intOf]; omega
      · have HNH := Lib.hid (show xhas X x.1 = false from xhas_end (by rw [HLN.out, HKK.out]; omega))
        have hkK : k = K := by omega
        subst hkK
        have hkn : k ≤ ln := by omega
        have hdk : decide (k < ln) = false := decide_eq_false (by omega)
        have hkl2 : k = ln := by omega
        have HKL := Lib.hid hkl2
        clear hkl2 hkl
        obtain ⟨us2, -, ho2, -⟩ := hdr.xr
        rcases ho2.2 with ⟨hnil, h0⟩ | ⟨gP, cP, cur, hrow, hBg, hg, hnc, hcm, -⟩
        · rw [HLN.out] at h0
          have hk0 : k = 0 := by have := HKL.out; omega
          subst hnil
          subst hk0
          subst h0
          clear ho2 hdr
          · have h5 : ¬ (0 : Nat) = 1000 := by decide
            have HE := Lib.hid (show (0 : Int) = xtellE X s.data.toList by unfold xtellE; rw [HP.out]; simp only [HNH.out, Bool.false_eq_true, if_false]; rw [if_neg (by rw [HLN.out]; exact h5)])
            have HT := Lib.hid (show insAt X 0 x = xtell X s.data.toList by rw [← HKK.out]; unfold xtell; rw [HP.out]; simp only [HNH.out, Bool.false_eq_true, if_false]; rw [if_neg (by rw [HLN.out]; exact h5)]; unfold xput; rw [HNH.out]; rfl)
            skip
            go_wp2_with fail
            go_quiet (fail)
            go_wp2_with fail
            go_quiet (fail)
            go_upto_region 14 with fail
            generalize hW : World.drewN wr _ = W
            have hlowW : Below w5.heap.size w5 W := by rw [← hW]; exact below_drewN HLOW.out _
            have HLO := Lib.hid (andThen HBL5.out hlowW)
            have cq : W.cell? ⟨q, 1, none⟩ = some (.slice none 0 0) := by rw [← hW]; exact cq
            have hql : q < W.heap.size := by rw [← hW]; exact hql
            have HPB := Lib.hid (fun W' (h : Below W.heap.size W W') => HPB.out W' (by rw [← hW] at h; exact andThen (below_drewN (Below.refl _ _) _) h))
            clear hlowW hW
            go_upto_region 15 with fail
            have HO8 := Lib.hid (own_made0 (t := 86) W)
            have HL8 := Lib.hid (andAlloc (Below.refl W.heap.size W) (.cells #[] 86))
            have hb8 : Below W.heap.size W (W.alloc (.cells #[] 86)) := andAlloc (Below.refl W.heap.size W) _
            have cp0 := (HPB.out _ hb8).cell 0
            have cp1 := (HPB.out _ hb8).cell 1
            generalize W.alloc (.cells #[] 86) = w8 at HO8 HL8 cp0 cp1 hb8 ⊢
            go_upto_region 16 with (at_builtin; refine wpList_push_low rfl _ _ 95 rfl 86 _ 2 40 Try.underlying95 except_row rfl (by decide) (by decide) W (andAlloc HL8.out _) _ 0 (C.take (0 * 2)) rfl (HO8.out.alloc _) #[.string Z, .slice A3 n3 c3] rfl rfl rfl (Blk.new _ _ _) (by omega) ?_; intro v9 w9 hown9 hlow9; have HO9 := Lib.hid hown9; have HL9 := Lib.hid hlow9; have cq9 : w9.cell? ⟨q, 1, none⟩ = some (.slice none 0 0) := (by have h := (HDA.out w9 (andThen HLO.out hlow9)).blk.cell 1; first | exact h | (rw [HLN.out] at h; exact h)); have cqf := (HDA.out w9 (andThen HLO.out hlow9)).blk.free 1; clear hown9 hlow9)
            clear cp0 cp1
            have HNIL := Lib.hid (show C.drop (0 * 2) = [] from List.eq_nil_of_length_eq_zero (by have := HCL.out; rw [List.length_drop]; omega))
            have HND := Lib.hid (show (C.drop (0 * 2)).length = (0 - 0) * 2 by have := HCL.out; rw [List.length_drop]; omega)
            go_wp2_with (at_builtin; refine wpList_append_low rfl _ _ 95 rfl 86 _ 2 40 Try.underlying95 except_row rfl (by decide) W HL9.out _ (0 + 1) (C.take (0 * 2) ++ [Value.string Z, .slice A3 n3 c3]) rfl HO9.out 0 none (0 - 0) (0 - 0) (C.drop (0 * 2)) rfl HND.out (.inl HNIL.out) (by intro e; first | (cases e; done) | rfl) (fun u hu => HC1.out u (List.mem_of_mem_drop hu)) (by unfold maxLen; omega) (by omega) ?_; intro v10 w10 hown10 hlow10; obtain ⟨A10, c10, rfl, -, -, -⟩ := own_sl hown10; have HO10 := Lib.hid hown10; have HL10 := Lib.hid hlow10; have cq10 := (HDA.out w10 (andThen HLO.out hlow10)).blk.cell 1; have cqf10 := (HDA.out w10 (andThen HLO.out hlow10)).blk.free 1; clear hown10 hlow10)
            go_ret
            skip
            have hF := FIN.out _ w10 (0 + 1 + (0 - 0)) (by omega) (andThen HLO.out HL10.out) (own_base HO10.out HLO.out.size)
            rw [HT.out] at hF
            exact ⟨ret_in HE.out, hF.1, Exists.intro _ (Exists.intro _ hF.2)⟩
        · rw [HLN.out] at hrow hnc
          subst hrow
          have HSG := Lib.hid (fun W h => HSG.out W h (some ⟨gP, 0, none⟩) cP rfl)
          have hkc : k ≤ cP := by omega
          have hkci : (k : Int) ≤ (cP : Int) := by omega
          clear ho2 hdr hg hcm
          by_cases h5 : ln = 1000
          · have hl5 : ((ln : Int) == 1000) = true := by rw [beq_iff_eq]; omega
            have HE := Lib.hid (show (6 : Int) = xtellE X s.data.toList by unfold xtellE; rw [HP.out]; simp only [HNH.out, Bool.false_eq_true, if_false]; rw [if_pos (by rw [HLN.out]; exact h5)])
            have HT := Lib.hid (show X = xtell X s.data.toList by unfold xtell; rw [HP.out]; simp only [HNH.out, Bool.false_eq_true, if_false]; rw [if_pos (by rw [HLN.out]; exact h5)])
            clear h5
            go_wp2_with fail
            go_quiet (fail)
            go_wp2_with fail
            go_quiet (fail)
            go_wp2_with fail
            go_ret
            exact ⟨ret_in HE.out, SAME.out _ (by repeat (first | exact HLO.out | refine andAlloc ?_ _ | refine below_drewN ?_ _ | refine Below.drew ?_)) _ HT.out⟩
          · have hl5 : ((ln : Int) == 1000) = false := by rw [beq_eq_false_iff_ne]; omega
            have HE := Lib.hid (show (0 : Int) = xtellE X s.data.toList by unfold xtellE; rw [HP.out]; simp only [HNH.out, Bool.false_eq_true, if_false]; rw [if_neg (by rw [HLN.out]; exact h5)])
            have HT := Lib.hid (show insAt X k x = xtell X s.data.toList by rw [← HKK.out]; unfold xtell; rw [HP.out]; simp only [HNH.out, Bool.false_eq_true, if_false]; rw [if_neg (by rw [HLN.out]; exact h5)]; unfold xput; rw [HNH.out]; rfl)
            skip
            go_wp2_with fail
            go_quiet (fail)
            go_wp2_with fail
            go_quiet (fail)
            go_upto_region 14 with fail
            generalize hW : World.drewN wr _ = W
            have hlowW : Below w5.heap.size w5 W := by rw [← hW]; exact below_drewN HLOW.out _
            have HLO := Lib.hid (andThen HBL5.out hlowW)
            have cq : W.cell? ⟨q, 1, none⟩ = some (.slice (some ⟨gP, 0, none⟩) ln cP) := by rw [← hW]; exact cq
            have hql : q < W.heap.size := by rw [← hW]; exact hql
            have HPB := Lib.hid (fun W' (h : Below W.heap.size W W') => HPB.out W' (by rw [← hW] at h; exact andThen (below_drewN (Below.refl _ _) _) h))
            clear hlowW hW
            have HO0 := Lib.hid (own_made0 (t := 86) W)
            have HLA := Lib.hid (andAlloc (Below.refl W.heap.size W) (.cells #[] 86))
            have HSG0 := Lib.hid ((HSG.out _ (andThen HLO.out HLA.out)).take (k * 2))
            have HN0 := Lib.hid (show (C.take (k * 2)).length = k * 2 by rw [List.length_take, HCL.out]; omega)
            have HC0 := Lib.hid (fun u (hu : u ∈ C.take (k * 2)) => HC1.out u (List.mem_of_mem_take hu))
            have hm0 : 0 + k ≤ maxLen := by unfold maxLen; omega
            have hm1 : (0 + k) * 40 ≤ 140737488355328 := by omega
            have HA0 := Lib.hid (show ((some ⟨gP, 0, none⟩) : Option Addr) = none → cP = 0 from fun e => by cases e)
            go_upto_region 15 with (at_builtin; refine wpList_append_low rfl _ _ 95 rfl 86 _ 2 40 Try.underlying95 except_row rfl (by decide) W HLA.out _ 0 [] rfl HO0.out _ (some ⟨gP, 0, none⟩) k cP (C.take (k * 2)) rfl HN0.out HSG0.out HA0.out HC0.out hm0 hm1 ?_; intro v8 w8 hown8 hlow8; rw [Nat.zero_add, List.nil_append] at hown8; have HO8 := Lib.hid hown8; have HL8 := Lib.hid hlow8; have cp0 := (HPB.out w8 hlow8).cell 0; have cp1 := (HPB.out w8 hlow8).cell 1; clear hown8 hlow8)
            go_upto_region 16 with (at_builtin; refine wpList_push_low rfl _ _ 95 rfl 86 _ 2 40 Try.underlying95 except_row rfl (by decide) (by decide) W (andAlloc HL8.out _) _ k (C.take (k * 2)) rfl (HO8.out.alloc _) #[.string Z, .slice A3 n3 c3] rfl rfl rfl (Blk.new _ _ _) (by omega) ?_; intro v9 w9 hown9 hlow9; have HO9 := Lib.hid hown9; have HL9 := Lib.hid hlow9; have cq9 : w9.cell? ⟨q, 1, none⟩ = some (.slice (some ⟨gP, 0, none⟩) ln cP) := (by have h := (HDA.out w9 (andThen HLO.out hlow9)).blk.cell 1; first | exact h | (rw [HLN.out] at h; exact h)); have cqf := (HDA.out w9 (andThen HLO.out hlow9)).blk.free 1; clear hown9 hlow9)
            clear cp0 cp1
            by_cases hck : cP = k
            · skip
              have HNIL := Lib.hid (show C.drop (k * 2) = [] from List.eq_nil_of_length_eq_zero (by have := HCL.out; have := HKL.out; rw [List.length_drop]; omega))
              have HND := Lib.hid (show (C.drop (k * 2)).length = (ln - k) * 2 by have := HCL.out; rw [List.length_drop]; omega)
              go_wp2_with (at_builtin; refine wpList_append_low rfl _ _ 95 rfl 86 _ 2 40 Try.underlying95 except_row rfl (by decide) W HL9.out _ (k + 1) (C.take (k * 2) ++ [Value.string Z, .slice A3 n3 c3]) rfl HO9.out 0 _ _ _ (C.drop (k * 2)) rfl HND.out (.inl HNIL.out) (by intro e; first | (cases e; done) | rfl) (fun u hu => HC1.out u (List.mem_of_mem_drop hu)) (by unfold maxLen; omega) (by omega) ?_; intro v10 w10 hown10 hlow10; obtain ⟨A10, c10, rfl, -, -, -⟩ := own_sl hown10; have HO10 := Lib.hid hown10; have HL10 := Lib.hid hlow10; have cq10 := (HDA.out w10 (andThen HLO.out hlow10)).blk.cell 1; have cqf10 := (HDA.out w10 (andThen HLO.out hlow10)).blk.free 1; clear hown10 hlow10)
              go_ret
              subst hck
              have hF := FIN.out _ w10 (cP + 1 + (ln - cP)) (by omega) (andThen HLO.out HL10.out) (own_base HO10.out HLO.out.size)
              rw [HT.out] at hF
              exact ⟨ret_in HE.out, hF.1, Exists.intro _ (Exists.intro _ hF.2)⟩
            · skip
              have HNIL := Lib.hid (show C.drop (k * 2) = [] from List.eq_nil_of_length_eq_zero (by have := HCL.out; have := HKL.out; rw [List.length_drop]; omega))
              have HND := Lib.hid (show (C.drop (k * 2)).length = (ln - k) * 2 by have := HCL.out; rw [List.length_drop]; omega)
              go_wp2_with (at_builtin; refine wpList_append_low rfl _ _ 95 rfl 86 _ 2 40 Try.underlying95 except_row rfl (by decide) W HL9.out _ (k + 1) (C.take (k * 2) ++ [Value.string Z, .slice A3 n3 c3]) rfl HO9.out 0 _ _ _ (C.drop (k * 2)) rfl HND.out (.inl HNIL.out) (by intro e; first | (cases e; done) | rfl) (fun u hu => HC1.out u (List.mem_of_mem_drop hu)) (by unfold maxLen; omega) (by omega) ?_; intro v10 w10 hown10 hlow10; obtain ⟨A10, c10, rfl, -, -, -⟩ := own_sl hown10; have HO10 := Lib.hid hown10; have HL10 := Lib.hid hlow10; have cq10 := (HDA.out w10 (andThen HLO.out hlow10)).blk.cell 1; have cqf10 := (HDA.out w10 (andThen HLO.out hlow10)).blk.free 1; clear hown10 hlow10)
              go_ret
              skip
              have hF := FIN.out _ w10 (k + 1 + (ln - k)) (by omega) (andThen HLO.out HL10.out) (own_base HO10.out HLO.out.size)
              rw [HT.out] at hF
              exact ⟨ret_in HE.out, hF.1, Exists.intro _ (Exists.intro _ hF.2)⟩
end Go.Proofs.Ytmcekdjhkjhcdaa.Hy
