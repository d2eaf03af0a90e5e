import Derived.Test.YtmcekdjhkjhcdaaHdw
/- The contract of Pattern. Conditions: those that each theorem names. -/
namespace Go.Proofs.Ytmcekdjhkjhcdaa.Hy
open Go.ChangeShapes Go.WideShapes Go.ChangeAt Go.RowKit
open Me Hp
set_option linter.unusedVariables false
set_option linter.unusedSimpArgs false

/-- What Pattern answers and leaves. -/
def patP (B p : Nat) (P : List Pt) (v xv : Value) (s : ByteArray) (w : World) (e : Ending) (w' : World) : Prop := e = .returned (.int .i64 (tellE P s.data.toList)) ∧ Below B w w' ∧ ∃ v', HyAt w' B p (tell P s.data.toList) v' xv ∧ Frm w p v w' v'
theorem tell_none {P : List Pt} {t : Nm} (h : rd t = none) : tell P t = P ∧ tellE P t = 70 := by
  unfold tell tellE
  rw [h]
  exact ⟨rfl, rfl⟩
theorem tell_twice {P : List Pt} {t : Nm} {p : Pt} {l : List Int} (h : rd t = some p) (hl : luk P p.1 = some l) : tell P t = P ∧ tellE P t = 11 := by
  unfold tell tellE
  rw [h]
  simp [hl]
theorem tell_full {P : List Pt} {t : Nm} {p : Pt} (h : rd t = some p) (hl : luk P p.1 = none) (h5 : P.length = 5000) : tell P t = P ∧ tellE P t = 6 := by
  unfold tell tellE
  rw [h]
  simp [hl, h5]
theorem tell_new {P : List Pt} {t : Nm} {p : Pt} (h : rd t = some p) (hl : luk P p.1 = none) (h5 : P.length ≠ 5000) : tell P t = P ++ [p] ∧ tellE P t = 0 := by
  unfold tell tellE
  rw [h]
  simp [hl, h5]
theorem patP_same {B p : Nat} {P : List Pt} {v xv : Value} {s : ByteArray} {w w' : World} {e : Ending} {n : Int} (h : tell P s.data.toList = P ∧ tellE P s.data.toList = n) (he : e = .returned (.int .i64 n)) (hB : B ≤ w.heap.size) (hb : Below w.heap.size w w') (hh : HyAt w' B p P v xv) : patP B p P v xv s w e w' := by
  obtain ⟨h1, h2⟩ := h
  refine ⟨by rw [he, h2], hb.mono hB, v, by rw [h1]; exact hh, Frm.of_below p v hb⟩
theorem HyAt.size {w : World} {B p : Nat} {P : List Pt} {v xv : Value} (h : HyAt w B p P v xv) : B ≤ w.heap.size := by
  have h1 := h.tr.blk.lt
  have h2 := h.tr.low
  omega
theorem Zget {Z : ByteArray} {σ : Nm} (hZ : Z = S σ) {i : Nat} (h : i < Z.size) : σ[i]? = some Z[i] := by
  subst hZ
  exact get_list _ _ h
theorem take_ne {σ : Nm} (h : 1 ≤ σ.length) (i : Nat) : σ.take (i + 1) ≠ [] := by
  intro e
  rw [List.take_eq_nil_iff] at e
  rcases e with e | e
  · omega
  · rw [e] at h; simp at h
set_option maxHeartbeats 2000000 in
set_option maxRecDepth 100000 in
theorem pattern_any (B p : Nat) (P : List Pt) (v xv : Value) (s : ByteArray) (w : World) (hs : s.size ≤ 1048576) (h : HyAt w B p P v xv) : Calls Try.prog 60 #[.pointer (some ⟨p, 0, none⟩), .string s] w (patP B p P v xv s w) := by
  have HG := Lib.hid (good_any B p P v xv w h)
  have HP := Lib.hid (parse_any s w hs)
  have HB := Lib.hid h.size
  have HH := Lib.hid h
  clear h hs
  obtain ⟨w0, hw0⟩ : ∃ w0, w0 = w := ⟨_, rfl⟩
  have HW0 := Lib.hid hw0
  obtain ⟨v0, hv0⟩ : ∃ v0, v0 = v := ⟨_, rfl⟩
  have HV00 := Lib.hid hv0
  clear hw0 hv0
  go_enter Try.func60, Try.ntmps60
  go_wp2_with (go_at_call 61; refine HG.out.mono ?_; rintro e w' ⟨rfl, rfl⟩)
  refine HP.out.mono ?_
  rintro e w1 ⟨hb1, hres⟩
  have HB1 := Lib.hid hb1
  have HH1 := Lib.hid (HH.out.below hb1)
  clear hb1 HH HG HP
  cases hr : rd s.data.toList with
  | none =>
    rw [hr] at hres
    subst hres
    have HT := Lib.hid (tell_none (P := P) hr)
    clear hr
    go_wp2_with fail
    go_ret
    exact patP_same HT.out rfl HB.out HB1.out HH1.out
  | some pl =>
    rw [hr] at hres
    obtain ⟨σ, l⟩ := pl
    obtain ⟨g6, c6, rfl, hg6, hown6⟩ := hres
    have HR := Lib.hid hr
    have hi := rd_is hr
    have HI := Lib.hid hi
    have HO6 := Lib.hid (own_base hown6 HB.out)
    have hm63 : σ.length ≤ 63 := hi.le
    have hm1 : 1 ≤ σ.length := hi.pos
    simp only
    obtain ⟨Z, hZ⟩ : ∃ Z, Z = S σ := ⟨_, rfl⟩
    rw [← hZ]
    have hzs : Z.size = σ.length := by rw [hZ]; rfl
    have HZ := Lib.hid hZ
    clear hr hi hown6 hZ hg6
    go_upto_block 0 with fail
    go_cut [8] from 25 to 43 (fun v8 wx => v8 = .int .i64 (ix (nsOf P) σ : Int) ∧ ∃ nq, wx = w1.drewN nq)
    case first =>
      go_wp2_with fail
      go_loopw [8, 25] (fun v8 v25 wr => ∃ i nq, i ≤ σ.length ∧ v25 = .int .i64 (i : Int) ∧ σ.take i ∈ nsOf P ∧ v8 = .int .i64 (ix (nsOf P) (σ.take i) : Int) ∧ wr = w1.drewN nq) (fun _ v25 _ => σ.length - (intOf v25).toNat)
      case atStart => exact ⟨0, 0, by omega, rfl, HH1.out.tr.tri.nil_mem, by rw [List.take_zero, ix_nil HH1.out.tr.tri]; rfl, rfl⟩
      case round =>
        obtain ⟨i, nq, hi, rfl, hmem, rfl, hwr⟩ := hrel
        have HWR := Lib.hid hwr
        have HH2 := Lib.hid (show HyAt wr B p P v xv by rw [hwr]; exact HH1.out.below (below_drewN (Below.refl _ _) _))
        clear hwr HH1
        by_cases hlt : i < Z.size
        · obtain ⟨g, c, rfl, hgc, hBg, hgl, hcm, hn0, hpg⟩ := HH2.out.tr.slice
          have hget := Zget HZ.out hlt
          have hok := (HI.out.ok _ (List.mem_of_getElem? hget)).1
          obtain ⟨sg0, sg1, _⟩ := sgn_ok _ hok
          obtain ⟨q, hq⟩ : ∃ q : Nat, sgn Z[i] = q := ⟨(sgn Z[i]).toNat, by omega⟩
          have hnx := HH2.out.tr.next hmem hok hq
          have hix := ix_lt HH2.out.tr.tri (σ.take i)
          have HTK := Lib.hid (take_succ' hget)
          have HSG := Lib.hid (fun w => sign_any Z[i] w)
          rw [hq] at HSG
          rw [← HTK.out] at hnx
          have hc0 := HH2.out.tr.blk.cell 0
          have hcn := hnx.1
          have hq27 : (q : Int) < 27 := by omega
          have hixi : (ix (nsOf P) (σ.take i) : Int) < ((nsOf P).length : Int) := by omega
          have HMEM := Lib.hid hmem
          have HTRI := Lib.hid HH2.out.tr.tri
          have HHH := Lib.hid HH2.out
          clear hmem hok sg0 sg1 hq hnx hget
          generalize hat : ix (nsOf P) (σ.take i) = at_ at hc0 hcn hix hixi
          generalize hnext : ix (nsOf P) (σ.take (i + 1)) = nx_ at hcn
          generalize hnl : (nsOf P).length = nl at hc0 hixi
          have HAT := Lib.hid hat
          have HNX := Lib.hid hnext
          clear hat hnext
          by_cases hz : (nx_ : Int) = 0
          · go_wp2_with fail
            go_quiet ((go_at_call 121; refine Calls.quiet_of_same (HSG.out _)))
            go_wp2_with fail
            go_meet
            case rel =>
              refine ⟨?_, _, (by rw [HWR.out, World.drewN_drewN])⟩
              have h1 : σ.take (i + 1) ∉ nsOf P := (ix_zero HTRI.out (take_ne hm1 i)).1 (by rw [HNX.out]; omega)
              rw [ix_no fun h => h1 (up_take HTRI.out _ _ h)]
              simp
          · go_wp2_with fail
            go_quiet ((go_at_call 121; refine Calls.quiet_of_same (HSG.out _)))
            go_wp2_with fail
            go_roundw
            case rel =>
              refine ⟨i + 1, _, by omega, by go_num, ?_, by rw [HNX.out], (by rw [HWR.out, World.drewN_drewN])⟩
              cases Decidable.em (σ.take (i + 1) ∈ nsOf P) with
              | inl h => exact h
              | inr h => exact absurd (by rw [← HNX.out, ix_no h]; rfl) hz
            case measure => simp [intOf]; omega
        · obtain rfl : i = σ.length := by omega
          rw [List.take_length]
          go_wp2_with fail
          go_meet
          case rel => exact ⟨rfl, _, HWR.out⟩
    case rest =>
      obtain ⟨rfl, nq, hwr⟩ := hcut
      have HWR := Lib.hid hwr
      have hbw : Below w1.heap.size w1 wc := by rw [hwr]; exact below_drewN (Below.refl _ _) _
      have HH2 := Lib.hid (HH1.out.below hbw)
      have HO2 := Lib.hid (own_below HO6.out hbw)
      have HB2 := Lib.hid (andThen HB1.out hbw)
      clear hwr HH1 HO6 HB1 hbw
      obtain ⟨g, c, rfl, hgc, hBg, hgl, hcm, hn0, hpg⟩ := HH2.out.tr.slice
      have hc0 := HH2.out.tr.blk.cell 0
      have hc1 := HH2.out.tr.blk.cell 1
      have hixi : (ix (nsOf P) σ : Int) < ((nsOf P).length : Int) := by have := ix_lt HH2.out.tr.tri σ; omega
      have HIX := Lib.hid (rfl : ix (nsOf P) σ = ix (nsOf P) σ)
      have HPOS := Lib.hid fun hm => ix_pos HH2.out.tr.tri (s := σ) hm (by intro e; rw [e] at hm1; simp at hm1)
      have HNO := Lib.hid (fun hm => ix_no (ns := nsOf P) (s := σ) hm)
      have HVAL := Lib.hid (fun hm => HH2.out.tr.val (s := σ) hm)
      generalize ix (nsOf P) σ = a at HIX HPOS HNO HVAL hixi ⊢
      generalize hnl : (nsOf P).length = nl at hc0 hixi
      go_upto_block 2 with fail
      go_cut [] from 44 to 63 (fun wx => luk P σ = none ∧ P.length ≠ 5000 ∧ wx = wc)
      case first =>
        cases hlk : luk P σ with
        | some l' =>
          have hm : σ ∈ nsOf P := HH2.out.tr.keys _ ((luk_some HH2.out.pats.nodup).1 hlk)
          have hpos := HPOS.out hm
          obtain ⟨u, hu, hv⟩ := HVAL.out hm
          unfold valAt at hv
          rw [hlk] at hv
          obtain ⟨hne, hown⟩ := hv
          have hl1 : l'.length = (l'.length - 1) + 1 := by
            have := HH2.out.pats.is _ ((luk_some HH2.out.pats.nodup).1 hlk)
            simp only at this
            omega
          rw [hl1] at hown
          obtain ⟨g7, c7, rfl, _⟩ := own_split hown
          have HT := Lib.hid (tell_twice HR.out hlk)
          have hposi : (0 : Int) < (a : Int) := by omega
          clear hlk hown hne hl1
          go_wp2_with fail
          go_ret
          exact patP_same HT.out rfl HB.out HB2.out (by have h := HH2.out; rw [hnl] at h; exact h)
        | none =>
          have HLK := Lib.hid hlk
          clear hlk
          by_cases hm : σ ∈ nsOf P
          · have hposi : (0 : Int) < (a : Int) := by have := HPOS.out hm; omega
            obtain ⟨u, hu, hv⟩ := HVAL.out hm
            unfold valAt at hv
            rw [HLK.out] at hv
            obtain rfl : u = .slice none 0 0 := hv
            by_cases h5 : (P.length : Int) = 5000
            · have HT := Lib.hid (tell_full HR.out HLK.out (by omega))
              go_wp2_with fail
              go_ret
              exact patP_same HT.out rfl HB.out HB2.out (by have h := HH2.out; rw [hnl] at h; exact h)
            · have H5 := Lib.hid (show P.length ≠ 5000 by omega)
              go_wp2_with fail
              go_meet
              case rel => exact ⟨HLK.out, H5.out, rfl⟩
          · have hposi : (a : Int) = 0 := by have := HNO.out hm; omega
            have hpos2 : a = 0 := by omega
            subst hpos2
            by_cases h5 : (P.length : Int) = 5000
            · have HT := Lib.hid (tell_full HR.out HLK.out (by omega))
              go_wp2_with fail
              go_ret
              exact patP_same HT.out rfl HB.out HB2.out (by have h := HH2.out; rw [hnl] at h; exact h)
            · have H5 := Lib.hid (show P.length ≠ 5000 by omega)
              go_wp2_with fail
              go_meet
              case rel => exact ⟨HLK.out, H5.out, rfl⟩
      case rest =>
        obtain ⟨hlk, h5, hw2⟩ := hcut
        subst hw2
        have HLK := Lib.hid hlk
        have HPN := Lib.hid (HH2.out.pats.snoc HR.out hlk h5)
        have HT := Lib.hid (tell_new HR.out hlk h5)
        have hm0 : Mid w0 v0 B p (nsOf P) P (.slice (some ⟨g, 0, none⟩) (nsOf P).length c) xv (.slice (some ⟨g6, 0, none⟩) l.length c6) l wc := ⟨HH2.out.tr, HO2.out, by rw [HW0.out]; exact HB2.out.mono HB.out, HH2.out.size, by rw [HW0.out, HV00.out]; exact Frm.of_below _ _ HB2.out⟩
        have HM0 := Lib.hid hm0
        have hP5 : P.length < 5000 := by have := HH2.out.pats.few; omega
        have hns : (nsOf P).length ≤ 315001 := HH2.out.pats.size
        clear hm0 hlk h5 hc0 hc1 hixi HIX HPOS HNO HVAL hgc hBg hgl hcm hn0 hpg hnl
        have HTRI := Lib.hid (fun i (hi : i ≤ σ.length) => insTo_fine HH2.out.tr.tri (fun c hc => (HI.out.ok c hc).1) i hi)
        generalize hnsn : nsOf P = ns0 at HM0 hns HTRI
        have HNSN := Lib.hid hnsn
        clear hnsn HH2 HO2 HB2
        go_wp2_with fail
        go_loopw [8, 66] (fun v8 v66 wr => ∃ i v, i ≤ σ.length ∧ v66 = .int .i64 (i : Int) ∧ v8 = .int .i64 (ix (insTo ns0 σ i) (σ.take i) : Int) ∧ Mid w0 v0 B p (insTo ns0 σ i) P v xv (.slice (some ⟨g6, 0, none⟩) l.length c6) l wr) (fun _ v66 _ => σ.length - (intOf v66).toNat)
        case atStart => exact ⟨0, _, by omega, rfl, by rw [List.take_zero]; exact congrArg (Value.int .i64) (by rw [show ix (insTo ns0 σ 0) [] = 0 from ix_nil (HTRI.out 0 (by omega)).1]; rfl), HM0.out⟩
        case round =>
          obtain ⟨i, v, hi, rfl, rfl, hM⟩ := hrel
          obtain ⟨hTri, hTk, _, _, hLen⟩ := HTRI.out i hi
          obtain ⟨g, c, rfl, hgc, hBg, hgl, hcm, hn0, hpg⟩ := hM.tr.slice
          have hc0 := hM.tr.blk.cell 0
          have hc1 := hM.tr.blk.cell 1
          have hfp := hM.tr.blk.free
          have HM := Lib.hid hM
          have HTR := Lib.hid hTri
          have HTK := Lib.hid hTk
          clear hM hTri hTk
          have hix := ix_lt HTR.out (σ.take i)
          by_cases hlt : i < Z.size
          · have hget := Zget HZ.out hlt
            have hok := (HI.out.ok _ (List.mem_of_getElem? hget)).1
            obtain ⟨sg0, sg1, _⟩ := sgn_ok _ hok
            obtain ⟨q, hq⟩ : ∃ q : Nat, sgn Z[i] = q := ⟨(sgn Z[i]).toNat, by omega⟩
            have hnx := HM.out.tr.next HTK.out hok hq
            have HSG := Lib.hid (fun w => sign_any Z[i] w)
            rw [hq] at HSG
            have HTE := Lib.hid (take_succ' hget)
            have hcn := hnx.1
            have hfz := hnx.2
            rw [← HTE.out] at hcn
            have hq27 : (q : Int) < 27 := by omega
            have hixi : (ix (insTo ns0 σ i) (σ.take i) : Int) < ((insTo ns0 σ i).length : Int) := by omega
            have HOK := Lib.hid hok
            have HQ := Lib.hid hq
            have HINS := Lib.hid (show insTo ns0 σ (i + 1) = grow (insTo ns0 σ i) (σ.take (i + 1)) from rfl)
            clear hok sg0 sg1 hq hnx hget
            have HTR1 := Lib.hid (HTRI.out (i + 1) (by omega))
            have HMI := Lib.hid (HTRI.out i hi).2.1
            generalize hI : insTo ns0 σ i = ns at HM HTR HTK HINS HMI hcn hixi hc0 hix hgc hn0 hLen ⊢
            clear hI
            have hIA : ix (insTo ns0 σ (i + 1)) (σ.take i) = ix ns (σ.take i) ∧ σ.take i ∈ insTo ns0 σ (i + 1) := by
              rw [HINS.out]
              unfold grow
              split
              · exact ⟨rfl, HMI.out⟩
              · exact ⟨ix_append HMI.out _, by simp [HMI.out]⟩
            have HIA := Lib.hid hIA
            clear hIA
            go_upto_if 83 with (go_at_call 121; refine (HSG.out _).mono ?_; rintro e w' ⟨rfl, rfl⟩)
            go_cut [] from 73 to 107 (fun wx => ∃ v', Mid w0 v0 B p (insTo ns0 σ (i + 1)) P v' xv (.slice (some ⟨g6, 0, none⟩) l.length c6) l wx)
            case first =>
              by_cases hmem : σ.take (i + 1) ∈ ns
              · have hz : ¬ (ix ns (σ.take (i + 1)) : Int) = 0 := by have := ix_pos HTR.out hmem (take_ne hm1 i); omega
                have hg1 : insTo ns0 σ (i + 1) = ns := by rw [HINS.out]; unfold grow; rw [if_pos hmem]
                have HG1 := Lib.hid hg1
                clear hg1 hmem
                go_wp2_with fail
                go_meet
                case rel => exact ⟨_, by rw [HG1.out]; exact HM.out⟩
              · have hz : (ix ns (σ.take (i + 1)) : Int) = 0 := by rw [ix_no hmem]; rfl
                have hg1 : insTo ns0 σ (i + 1) = ns ++ [σ.take i ++ [Z[i]]] := by rw [HINS.out]; unfold grow; rw [if_neg hmem, HTE.out]
                have HG1 := Lib.hid hg1
                have HNM := Lib.hid (show σ.take i ++ [Z[i]] ∉ ns by rw [← HTE.out]; exact hmem)
                rw [hz] at hcn
                have hfz0 := hfz (ix ns (σ.take i) * 28 + q)
                obtain ⟨vs, hhalf⟩ := (HM.out.half (σ.take i) Z[i] HQ.out (z := (ns.length : Int)) rfl)
                have HHALF := Lib.hid hhalf
                clear hg1 hmem hhalf hfz
                clear HM hc1 hgl
                go_upto_region 23 with fail
                go_cut [] from 84 to 97 (fun wx => Half w0 v0 B p ns P g c xv (.slice (some ⟨g6, 0, none⟩) l.length c6) l (σ.take i) Z[i] vs wx)
                case first =>
                  clear HNM HG1 hLen hn0 hgc hix HINS HTK HTR HQ HOK HTE HSG hi hBg hcm hpg HTRI HM0 HNSN HWR HLK HPN HT hns hm63 hm1 hP5 HI HR HB HIA HTR1 HMI hz
                  go_region
                  go_wp2_with fail
                  go_meet
                  case rel => exact HHALF.out.below (below_drewN (Below.refl _ _) 1)
                case rest =>
                  have hp0 := hcut.blk.cell 0
                  have hfp0 := hcut.blk.free 0
                  obtain ⟨vv, hvv⟩ : ∃ vv, vv = Value.slice (some ⟨g, 0, none⟩) ns.length c := ⟨_, rfl⟩
                  have hown3 := hcut.own
                  rw [← hvv] at hown3 hp0
                  have HO3 := Lib.hid hown3
                  have HH3 := Lib.hid hcut
                  have HVV := Lib.hid hvv
                  have hnlt : ns.length ≤ 315064 := by omega
                  clear hcut HHALF hcn hfp hc0 hfz0 hown3 hvv
                  go_wp2_with (at_builtin; refine wpList_push_at rfl _ _ 103 rfl B 141 _ 28 240 Try.underlying103 info_state rfl (by decide) (by decide) _ _ _ rfl HO3.out HH3.out.size _ rfl rfl rfl (by simp) (by omega) ?_; intro v7 w7 hown7 hg7 hn7; have HM7 := Lib.hid (HH3.out.done HTK.out HOK.out HNM.out rfl (congrArg Value.ownBlock HVV.out) hown7 hg7 hn7); have hb7 := HH3.out.blkG (congrArg Value.ownBlock HVV.out) hg7; have hp7 := hb7.cell 0; have hf7 := hb7.free 0; obtain ⟨g7, c7, rfl⟩ := own_succ hown7; clear hown7 hg7 hn7 hb7)
                  go_meet
                  case rel => exact ⟨_, by rw [HG1.out]; exact HM7.out⟩
            case rest =>
              obtain ⟨v', hM2⟩ := hcut
              obtain ⟨g2, c2, rfl, hgc2, _, hgl2, _, hn02, _⟩ := hM2.tr.slice
              have hc02 := hM2.tr.blk.cell 0
              have hcn2 := (hM2.tr.next HIA.out.2 HOK.out HQ.out).1
              have hix2 : (ix (insTo ns0 σ (i + 1)) (σ.take i) : Int) < ((insTo ns0 σ (i + 1)).length : Int) := by have := ix_lt hM2.tr.tri (σ.take i); omega
              rw [← HTE.out] at hcn2
              rw [HIA.out.1] at hcn2 hix2
              have HM2 := Lib.hid hM2
              clear hM2 HM hcn hc0 hfp hfz hc1 hgl
              go_wp2_with fail
              go_roundw
              case rel => exact ⟨i + 1, _, by omega, by go_num, rfl, HM2.out⟩
              case measure => simp [intOf]; omega
          · obtain rfl : i = σ.length := by omega
            rw [List.take_length] at hix HTK ⊢
            obtain ⟨u7, hu7, _⟩ := HM.out.tr.val HTK.out
            have hf7 : w0 = w0 := rfl
            have hfz : wr.frozen? ⟨g, ix (insTo ns0 σ σ.length) σ * 28 + 27, none⟩ = false := by
              obtain ⟨vs, _, h2, _⟩ := HM.out.tr.row
              exact h2.frozenAt _
            have hixi : (ix (insTo ns0 σ σ.length) σ : Int) < ((insTo ns0 σ σ.length).length : Int) := by omega
            have hfp1 := hfp 1
            have HFIN := Lib.hid (HM.out.fin HTK.out HPN.out (by rw [nsOf_snoc, HNSN.out]) HLK.out (by intro e; cases e) (z := (P.length : Int) + 1) rfl)
            have hP6 : (P.length : Int) < 5000 := by omega
            clear HM hfp hgl hgc hn0 hix hf7 HM0 HTRI
            go_wp2_with fail
            go_ret
            have hh := HFIN.out
            refine ⟨by rw [HT.out.2]; rfl, by rw [← HW0.out]; exact hh.2.1, _, by rw [HT.out.1]; exact hh.1, by rw [← HW0.out, ← HV00.out]; exact hh.2.2⟩
end Go.Proofs.Ytmcekdjhkjhcdaa.Hy
