import Derived.Test.YtoboecenlangmaaGreatMn1
import Derived.Deep.LoopGhost
import Derived.StillTailTactics
import Derived.Deep.QuietTactic
import Derived.BigQuiet
import Derived.Test.YtoboecenlangmaaGreatNodeKb
import Derived.Deep.RegionWith
import Derived.Test.YtoboecenlangmaaGreatNy
import Derived.Test.YtoboecenlangmaaGreatRows
import Derived.Test.YtoboecenlangmaaGreatMem
import Derived.WalkKit
import Derived.ProofKit
import Derived.OpenShut
import Derived.WalkSpells
import Derived.WalkLawsBesides
import Derived.Outline
import Derived.Lib.Hide
import Derived.Deep.DeepCutAuto
import Derived.Handy
import Derived.Test.YtoboecenlangmaaGreatGlueI
import Derived.Deep.Slices
import Derived.SizedLaws
import Derived.KernelRfl
import Derived.Carry
/- Merged texts. Conditions: those that each theorem names. -/
section
namespace Go.Proofs.YtoboecenlangmaaGreat.Dv
open Go.ChangeShapes Go.WideShapes Go.ChangeAt Go.RowKit
open Me Np No Pk
set_option linter.unusedVariables false
set_option linter.unusedSimpArgs false
attribute [local go_sem ↓] ldN_eq

theorem stand_at {l : List Nd} {a i : Nat} {xs : List Nat} (h : Stand l a (xs.drop i)) (hi : i ≤ xs.length) : (xs ++ [l.length])[i]? = some a := by
  have hits := h.its
  have hle := h.le
  rcases Nat.lt_or_ge i xs.length with hlt | hge
  · rw [List.getElem?_append_left hlt]
    have e : xs.drop i = xs[i] :: xs.drop (i + 1) := List.drop_eq_getElem_cons hlt
    rw [e] at hits
    obtain ⟨h1, _⟩ := hits
    rw [List.getElem?_eq_getElem hlt, h1]
  · obtain rfl : i = xs.length := by omega
    rw [List.drop_length] at hits
    have h2 : l.drop a = [] := hits
    have h3 : l.length ≤ a := List.drop_eq_nil_iff.1 h2
    rw [List.getElem?_append_right (Nat.le_refl _)]
    simp
    omega
theorem inn_take {l : List Nd} {a m : Nat} (h : a + m ≤ l.length - 2) : (((l.drop 1).take (l.length - 2)).drop a).take m = (l.drop (1 + a)).take m := by
  rw [List.drop_take, List.take_take, List.drop_drop, Nat.min_eq_left (by omega)]
/-- Part of a list of nodes. -/
theorem SegW.part {w : World} {B C : Nat} {q : Option Nat} {b off : Nat} {l : List Nd} (h : SegW w B C q (some ⟨b, off, none⟩) (l.flatMap ncs)) (k m : Nat) : SegW w B C q (some ⟨b, off + k * 19, none⟩) (((l.drop k).take m).flatMap ncs) := by
  rw [flat_take ncs_length, flat_drop ncs_length]
  exact (h.drop (k * 19)).take _
theorem SegW.get {w : World} {B C : Nat} {q : Option Nat} {A : Option Addr} {xs : List Value} {k : Nat} {u : Value} (h : SegW w B C q A xs) (hk : xs[k]? = some u) : ∃ b off : Nat, A = some ⟨b, off, none⟩ ∧ w.cell? ⟨b, off + k, none⟩ = some u := by
  rcases h with h | ⟨b, off, h1, _, _, _, _, h6⟩
  · rw [h] at hk; simp at hk
  · exact ⟨b, off, h1, h6 k u hk⟩
theorem cat_step4 {n : Nd} {P : List Int} {Ks : Nat → List Stn} {i : Nat} {x h v : Int} (hk : n.kind = 4) (hx : P[i]? = some x) (hv : W64i v) : (catK n P Ks i).map (mvS h v) ++ (Ks i).map (mvS (wrap64 (h + x)) v) = (catK n P Ks (i + 1)).map (mvS h v) := by
  have e : addK n P Ks i = (Ks i).map (shS x 0) := by unfold addK; rw [if_pos hk, if_pos hk, List.getD_eq_getElem?_getD, hx]; rfl
  have e2 : mvS (wrap64 (h + x)) v = mvS (wrap64 (h + x)) (wrap64 (v + 0)) := by rw [Int.add_zero, show wrap64 v = v from hv]
  show _ = (catK n P Ks i ++ addK n P Ks i).map (mvS h v)
  rw [List.map_append, e, e2, mv_sh_map]
theorem cat_step5 {n : Nd} {P : List Int} {Ks : Nat → List Stn} {i : Nat} {x h v : Int} (hk : n.kind = 5) (hx : P[i]? = some x) (hh : W64i h) : (catK n P Ks i).map (mvS h v) ++ (Ks i).map (mvS h (wrap64 (wrap64 (v - n.ht) + x))) = (catK n P Ks (i + 1)).map (mvS h v) := by
  have h4 : ¬ n.kind = 4 := by omega
  have e : addK n P Ks i = (Ks i).map (shS 0 (-n.ht + x)) := by unfold addK; rw [if_neg h4, if_neg h4, List.getD_eq_getElem?_getD, hx]; rfl
  have e2 : mvS h (wrap64 (wrap64 (v - n.ht) + x)) = mvS (wrap64 (h + 0)) (wrap64 (v + (-n.ht + x))) := by rw [Int.add_zero, show wrap64 h = h from hh, wrap_wrap]; congr 2; omega
  show _ = (catK n P Ks i ++ addK n P Ks i).map (mvS h v)
  rw [List.map_append, e, e2, mv_sh_map]
/-- What the loop over a box holds. -/
structure LpB (inn : List Nd) (n : Nd) (xs : List Nat) (P : List Int) (Ks : Nat → List Stn) (w0 : World) (base B C : Nat) (out : List Stn) (q : Option Nat) (h v : Int) (W : World) (i : Nat) (wr : World) : Prop where
  rest : ∃ outi qi a, WS w0 base B C outi 0 qi wr ∧ Nq q qi W ∧ KpW B C q W wr ∧ outi = out ++ (catK n P Ks i).map (mvS h v) ∧ Stand inn a (xs.drop i) ∧ outi.length ≤ out.length + a
set_option maxHeartbeats 8000000 in
set_option maxRecDepth 100000 in
theorem box_of (l inn : List Nd) (n : Nd) (xs : List Nat) (P : List Int) (E : Int) (Ks : Nat → List Stn) (Fs : Nat → Int → Int → Prop) (hn : l[0]? = some n) (h2 : 2 ≤ l.length) (hlen : l.length ≤ 2002) (hinn : inn = (l.drop 1).take (l.length - 2)) (hk : n.kind = 4 ∨ n.kind = 5) (hci : chk inn = 0) (hxs : Its xs inn 0)
    (hP : ∀ (A : Option Addr) (c : Nat) (w : World), l.length ≤ c → Seg w w.heap.size A (l.flatMap ncs) → Calls Tryz.prog 55 #[.slice A l.length c, .int .i64 0] w (PlOut P E w))
    (hPl : E = 0 → P.length = xs.length)
    (hI : ∀ i y m, xs[i]? = some y → endc (inn.drop y) 0 = some m → (n.kind = 4 → AcrC ((inn.drop y).take m) n (Ks i) (Fs i)) ∧ (n.kind = 5 → DwnC ((inn.drop y).take m) n (Ks i) (Fs i))) :
    BoxC l (catK n P Ks xs.length) (fun h v => (dimB h && dimB v) = true ∧ E = 0 ∧ ∀ i x, P[i]? = some x → (n.kind = 4 → Fs i (wrap64 (h + x)) v) ∧ (n.kind = 5 → Fs i h (wrap64 (wrap64 (v - n.ht) + x)))) := by
  intro w0 base B C out q A c h v w hcap hh hv hbd hseg hws
  obtain ⟨b, off, rfl⟩ : ∃ b off, A = some ⟨b, off, none⟩ := by
    rcases hseg with h | ⟨b, off, h, _⟩
    · obtain ⟨r, rfl⟩ : ∃ r, l = n :: r := by cases l with | nil => simp at hn | cons x r => simp at hn; exact ⟨r, by rw [hn]⟩
      have := congrArg List.length h
      simp [ncs_length] at this
    · exact ⟨b, off, h⟩
  obtain ⟨d, hd⟩ : ∃ d, (dimB h && dimB v) = d := ⟨_, rfl⟩
  have HD := Lib.hid hd
  have HWS := Lib.hid hws
  have HSG := Lib.hid hseg
  have HN := Lib.hid hn
  have HK := Lib.hid hk
  have HP := Lib.hid (fun w1 (hs : SegW w1 B C q (some ⟨b, off, none⟩) (l.flatMap ncs)) => hP (some ⟨b, off, none⟩) c w1 hcap hs.seg)
  have HPL := Lib.hid hPl
  have HI := Lib.hid hI
  have HC := Lib.hid (And.intro hci hxs)
  have HH := Lib.hid (And.intro hh hv)
  have HIN := Lib.hid hinn
  have hil : inn.length = l.length - 2 := by rw [hinn, List.length_take, List.length_drop]; omega
  have HIL := Lib.hid hil
  clear hd hws hseg hn hk hP hPl hI hci hxs hh hv hinn hil
  generalize hll : l.length = len at *
  have HL := Lib.hid hll
  clear hll
  go_enter Tryz.func116, Tryz.ntmps116
  go_upto_if 19 with (go_at_call 68; refine Calls.mono (dimen2_any _ h v _ ?_) ?_; (· exact Blk.new' rfl); rw [HD.out]; rintro r w1 ⟨rfl, rfl⟩)
  have hW : Below w.heap.size w (w.alloc (.cells #[.int .i64 h, .int .i64 v] 3)) := andAlloc (Below.refl _ _) _
  generalize w.alloc (.cells #[.int .i64 h, .int .i64 v] 3) = W1 at hW ⊢
  generalize w.heap.size = g1 at ⊢
  have HW1 := Lib.hid hW
  clear hW
  go_cut [] (fun wx => ∃ e', WS w0 base B C out e' q wx ∧ KpW B C q w wx ∧ (d = true → e' = 0))
  case first =>
    cases d
    · go_wp2_with fail
      refine (fail_any (HWS.out.below HW1.out) 20 (by decide)).mono ?_
      rintro r w1 ⟨rfl, e', hws, hkp, he⟩
      have HS := Lib.hid (And.intro hws hkp)
      clear hws hkp he
      go_wp2_with fail
      go_meet
      exact ⟨e', HS.out.1, (KpW.of_below HW1.out).trans (.inl rfl) HS.out.2, fun h => by cases h⟩
    · go_wp2_with fail
      go_meet
      exact ⟨0, HWS.out.below HW1.out, KpW.of_below HW1.out, fun _ => rfl⟩
  case rest =>
    obtain ⟨e1, hws1, hkp1, hd1⟩ := hcut
    have HD1 := Lib.hid hd1
    clear hd1
    have HS1 := Lib.hid (And.intro hws1 hkp1)
    clear hws1 hkp1
    go_upto_if 28 with (go_at_call 55; refine (HP.out _ (HSG.out.keep HS1.out.2 (.inl rfl))).mono ?_; rintro r w2 ⟨vp, rfl, hop, hb2⟩; have HOP := Lib.hid hop; have HB2 := Lib.hid hb2; clear hop hb2)
    obtain ⟨Ap, cp, rfl, hcp⟩ := own_val HOP.out
    have HS2 := Lib.hid (And.intro (HS1.out.1.below HB2.out) (HS1.out.2.trans (.inl rfl) (KpW.of_below HB2.out)))
    have HPF := Lib.hid (SegW.fresh HS1.out.1 HOP.out)
    go_cut [] (fun wx => ∃ e2, WS w0 base B C out e2 q wx ∧ KpW B C q w2 wx ∧ (e2 = 0 → E = 0) ∧ (E = 0 → e2 = e1))
    case first =>
      by_cases hE : E = 0
      · have tE : (E != 0) = false := by simp [hE]
        have HE := Lib.hid hE
        clear hE
        go_wp2_with fail
        go_meet
        exact ⟨e1, HS2.out.1, KpW.refl _ _ _ _, fun _ => HE.out, fun _ => rfl⟩
      · have tE : (E != 0) = true := by simp [hE]
        have HE := Lib.hid hE
        clear hE
        go_wp2_with fail
        refine (fail_any HS2.out.1 E HE.out).mono ?_
        rintro r w3 ⟨rfl, e', hws, hkp, he⟩
        have HS := Lib.hid (And.intro hws (And.intro hkp he))
        clear hws hkp he
        go_wp2_with fail
        go_meet
        exact ⟨e', HS.out.1, HS.out.2.1, fun h => absurd h HS.out.2.2, fun h => absurd h HE.out⟩
    case rest =>
      obtain ⟨e2, hws2, hkp2, hee, hee2⟩ := hcut
      have HE2 := Lib.hid hee2
      clear hee2
      have c1 := Blk.cell hws2.wk 1
      have HS3 := Lib.hid (And.intro hws2 (And.intro (HS2.out.2.trans (.inl rfl) hkp2) hee))
      have HSG3 := Lib.hid (HSG.out.keep (HS2.out.2.trans (.inl rfl) hkp2) (.inl rfl))
      have HPF3 := Lib.hid (HPF.out.keep hkp2 (.inl rfl))
      clear hws2 hkp2 hee HS1 HS2 HPF HOP HB2 HP
      have c1' : wc.cell? ⟨B, 1, none⟩ = some (.int .i64 e2) := c1
      clear c1
      by_cases he2 : e2 = 0
      · subst he2
        have HE := Lib.hid (HS3.out.2.2 rfl)
        have HPN := Lib.hid (HPL.out HE.out)
        go_wp2_with fail
        have hsi : SegW wc B C q (some ⟨b, off + 19, none⟩) (inn.flatMap ncs) := by
          have := HSG3.out.part 1 (len - 2)
          rw [← HIN.out] at this
          exact this
        have e21 : inn.length = len - 1 - 1 := by rw [HIL.out]; omega
        have hit := items_any (some ⟨b, off + 19, none⟩) inn (c - 1) xs wc HC.out.1 HC.out.2 (by rw [e21]; omega) hsi.seg
        rw [e21] at hit
        refine hit.mono ?_
        clear hit
        rintro r w4 ⟨vb, rfl, hob, hb4⟩
        obtain ⟨nb, hnb⟩ : ∃ nb, nb = xs.length + 1 := ⟨_, rfl⟩
        rw [← hnb] at hob
        obtain ⟨Ab, cb, rfl, hcb⟩ := own_val hob
        have hnb9 : nb ≤ 3000 := by have := HC.out.2.len; rw [e21] at this; omega
        have HNB := Lib.hid hnb
        clear hnb
        have HBF4 := Lib.hid (SegW.fresh HS3.out.1 hob)
        have HPF4 := Lib.hid (HPF3.out.below hb4)
        have HSG4 := Lib.hid (HSG3.out.below hb4)
        have HS4 := Lib.hid (And.intro (HS3.out.1.below hb4) (HS3.out.2.1.trans (.inl rfl) (KpW.of_below hb4)))
        have E21 := Lib.hid e21
        clear hob hb4 hsi e21 HS3 HSG3 HPF3 c1'
        go_wp2_with fail
        obtain ⟨W4, hW4⟩ : ∃ W4, W4 = w4 := ⟨_, rfl⟩
        subst hW4
        go_loopg [46] P.length (fun g v46 wr => ∃ i, i + g = P.length ∧ v46 = .int .i64 (i : Int) ∧ LpB inn n xs P Ks w0 base B C out q h v W4 i wr)
        case atStart => exact ⟨0, by omega, rfl, ⟨out, q, 0, HS4.out.1, Nq.refl _ _, KpW.refl _ _ _ _, by simp [catK], stand0 HC.out.1 HC.out.2, by omega⟩⟩
        case round =>
          obtain ⟨i, hig, rfl, hL⟩ := hrel
          obtain ⟨outi, qi, a, hws, hnq, hkp, hout, hst, hol⟩ := hL.rest
          by_cases hlt : i < P.length
          · have hi2 : i < xs.length := by rw [← HPN.out]; exact hlt
            have hal : a < inn.length := by
              have h1 := hst.le
              rcases Nat.lt_or_ge a inn.length with h | h
              · exact h
              · obtain rfl : a = inn.length := by omega
                have := congrArg List.length hst.done
                rw [List.length_drop] at this
                simp at this
                omega
            obtain ⟨m, zs, y, hys, hm, hm1, ham, hst', _, hy, h6, h11⟩ := hst.step (by rw [E21.out]; omega) hal
            have hzs : zs = xs.drop (i + 1) := by
              have e : xs.drop i = xs[i] :: xs.drop (i + 1) := List.drop_eq_getElem_cons hi2
              rw [e] at hys
              injection hys with _ h
              exact h.symm
            rw [hzs] at hst'
            have hb1 := stand_at hst (by omega)
            have hb2 := stand_at hst' (by omega)
            have hxi : xs[i]? = some a := by rwa [List.getElem?_append_left hi2] at hb1
            obtain ⟨x, hx⟩ : ∃ x, P[i]? = some x := ⟨_, List.getElem?_eq_getElem hlt⟩
            obtain ⟨bp, op, rfl, hcp1⟩ := (HPF4.out.keep hkp hnq).get (k := i) (u := .int .i64 x) (by rw [List.getElem?_map, hx]; rfl)
            rw [E21.out] at hb1 hb2 ham
            obtain ⟨bb, ob, rfl, hcb1⟩ := (HBF4.out.keep hkp hnq).get (k := i) (u := .int .i64 (a : Int)) (by rw [List.getElem?_map, hb1]; rfl)
            obtain ⟨z, hz⟩ : ∃ z, z = a + m := ⟨_, rfl⟩
            rw [← hz] at hb2 ham hst'
            obtain ⟨bb', ob', hab, hcb2⟩ := (HBF4.out.keep hkp hnq).get (k := i + 1) (u := .int .i64 (z : Int)) (by rw [List.getElem?_map, hb2]; rfl)
            injection hab with hab
            injection hab with hab1 hab2
            subst hab1 hab2
            obtain ⟨b', off', hab, _, hnode⟩ := seg_node (HSG4.out.keep hkp hnq).seg (k := 0) HN.out
            injection hab with hab
            injection hab with hab1 hab2
            subst hab1 hab2
            rw [Nat.zero_mul, Nat.add_zero] at hnode
            have hc0 : wr.cell? ⟨b, off, none⟩ = some (.int .i64 n.kind) := hnode 0 _ rfl
            have hc4 : wr.cell? ⟨b, off + 4, none⟩ = some (.int .i64 n.ht) := hnode 4 _ rfl
            have hcc : wr.cell? ⟨bb, ob + (i + 1), none⟩ = some (.int .i64 (z : Int)) := hcb2
            have hit : SegW wr B C qi (some ⟨b, off + 19 + a * 19, none⟩) (((inn.drop a).take m).flatMap ncs) := by
              have := (HSG4.out.keep hkp hnq).part (1 + a) m
              rw [HIN.out, ← HL.out, inn_take (by rw [HL.out]; omega)]
              rw [show off + 19 + a * 19 = off + (1 + a) * 19 by omega]
              exact this
            have hil : ((inn.drop a).take m).length = z - a := by rw [List.length_take, List.length_drop, E21.out]; omega
            have HX := Lib.hid (And.intro hx (And.intro hxi hm))
            have HWR := Lib.hid (And.intro hws (And.intro hnq hkp))
            have HOU := Lib.hid (And.intro hout hol)
            have HIT := Lib.hid (And.intro hit hil)
            have HST := Lib.hid hst'
            have HND := Lib.hid hnode
            have hld := run_ldN hnode
            have hz1 : (a : Int) ≤ z := by omega
            have hz2 : (z : Int) ≤ len - 1 - 1 := by omega
            have hi3 : (i : Int) < P.length := by omega
            have hi4 : (i : Int) + 1 < nb := by have := HNB.out; omega
            have hi5 : (i : Int) < nb := by omega
            have HZ := Lib.hid (And.intro hz (And.intro hm1 ham))
            clear hx hxi hm hws hnq hkp hout hol hit hil hst' hnode hz hm1 ham hL hst hys hy h6 h11 hzs hb1 hb2 hcb2 hal
            rcases HK.out with hk | hk
            · rw [hk] at hc0
              have HKK := Lib.hid hk
              clear hk
              go_upto_region 11 with fail
              clear hld
              go_quiet (fail)
              have hb5 := below_drewN (Below.refl wr.heap.size wr) nq
              have hc0' : (wr.drewN nq).cell? ⟨b, off, none⟩ = some (.int .i64 4) := hc0
              generalize wr.drewN nq = w5 at hb5 hc0' ⊢
              have HB5 := Lib.hid hb5
              have hld5 := run_ldN (HND.out.below hb5 HND.out.lt)
              clear hb5 hc0 hc4 hcp1 hcb1 hcc
              go_wp2_with fail
              have hcall := (HI.out i a m HX.out.2.1 HX.out.2.2).1 HKK.out w0 base B C outi qi (some ⟨b, off + 19 + a * 19, none⟩) (c - 1 - a) (wrap64 (h + x)) v w5 (by rw [HIT.out.2]; omega) (W64i.of _) HH.out.2 (by rw [HIT.out.2]; have := HOU.out.2; omega) (HIT.out.1.below HB5.out) (HWR.out.1.below HB5.out)
              rw [HIT.out.2] at hcall
              refine hcall.mono ?_
              clear hcall
              rintro r w6 ⟨rfl, out6, e6, q6, hws6, hnq6, hkp6, ho6, hl6, hg6⟩
              have HG6 := Lib.hid hg6
              clear hg6
              have c6 : w6.cell? ⟨B, 1, none⟩ = some (.int .i64 e6) := Blk.cell hws6.wk 1
              have HS6 := Lib.hid (And.intro hws6 (And.intro hnq6 (And.intro hkp6 (And.intro ho6 hl6))))
              clear hws6 hnq6 hkp6 ho6 hl6 hc0' hld5
              have nq1 := HWR.out.2.1.trans HS6.out.2.1 (Nat.le_trans HWR.out.2.2.size HB5.out.size)
              have kp1 := (HWR.out.2.2.trans HWR.out.2.1 (KpW.of_below HB5.out)).trans HWR.out.2.1 HS6.out.2.2.1
              have HQ := Lib.hid (And.intro nq1 kp1)
              clear nq1 kp1
              have HLN := Lib.hid (show out6.length ≤ out.length + z by have h1 := HS6.out.2.2.2.2; have h2 := HOU.out.2; have h3 := HIT.out.2; omega)
              by_cases he6 : e6 = 0
              · subst he6
                have HO6 := Lib.hid (show out6 = out ++ (catK n P Ks (i + 1)).map (mvS h v) by rw [HS6.out.2.2.2.1 rfl, HOU.out.1, List.append_assoc, cat_step4 HKK.out HX.out.1 HH.out.2])
                go_wp2_with fail
                go_roundg (P.length - (i + 1))
                case measure => omega
                case rel => exact ⟨i + 1, by omega, by go_num, ⟨out6, q6, z, HS6.out.1, HQ.out.1, HQ.out.2, HO6.out, HST.out, HLN.out⟩⟩
              · have t6 : (e6 != 0) = true := by simp [he6]
                have HE6 := Lib.hid he6
                clear he6
                go_wp2_with fail
                go_returns
                exact ⟨rfl, out6, e6, q6, HS6.out.1, HQ.out.1.far HS4.out.2.size, HS4.out.2.trans (.inl rfl) HQ.out.2, fun h => absurd h HE6.out, by have := HLN.out; have := HZ.out; omega, fun g => absurd (HG6.out ((g.2.2 i x HX.out.1).1 HKK.out)) HE6.out⟩
            · rw [hk] at hc0
              have HKK := Lib.hid hk
              clear hk
              go_upto_region 11 with fail
              clear hld
              go_quiet (fail)
              have hb5 := below_drewN (Below.refl wr.heap.size wr) nq
              have hc0' : (wr.drewN nq).cell? ⟨b, off, none⟩ = some (.int .i64 5) := hc0
              have hc4' : (wr.drewN nq).cell? ⟨b, off + 4, none⟩ = some (.int .i64 n.ht) := hc4
              generalize wr.drewN nq = w5 at hb5 hc0' hc4' ⊢
              have HB5 := Lib.hid hb5
              have hld5 := run_ldN (HND.out.below hb5 HND.out.lt)
              clear hb5 hc0 hc4 hcp1 hcb1 hcc
              go_upto_region 14 with fail
              have hld6 : (ldN ⟨b, off, none⟩).run Tryz.prog w5.drew = .ok (.agg (nc n)) w5.drew := run_ldN (w := w5.drew) ((HND.out.below HB5.out HND.out.lt).drewN 1)
              have h20 : (0 : Int) < (len : Int) := by omega
              have h21 : 0 < len := by omega
              go_still_tail 14, (by kernel_rfl)
              change wpList _ _ _ _ _ w5.drew
              have hb5' := Below.drew (Below.refl w5.heap.size w5)
              have HB5' := Lib.hid (andThen HB5.out hb5')
              generalize w5.drew = w5' at HB5' ⊢
              clear hb5'
              go_wp2_with fail
              have hcall := (HI.out i a m HX.out.2.1 HX.out.2.2).2 HKK.out w0 base B C outi qi (some ⟨b, off + 19 + a * 19, none⟩) (c - 1 - a) h (wrap64 (wrap64 (v - n.ht) + x)) w5' (by rw [HIT.out.2]; omega) HH.out.1 (W64i.of _) (by rw [HIT.out.2]; have := HOU.out.2; omega) (HIT.out.1.below HB5'.out) (HWR.out.1.below HB5'.out)
              rw [HIT.out.2] at hcall
              refine hcall.mono ?_
              clear hcall
              rintro r w6 ⟨rfl, out6, e6, q6, hws6, hnq6, hkp6, ho6, hl6, hg6⟩
              have HG6 := Lib.hid hg6
              clear hg6
              have c6 : w6.cell? ⟨B, 1, none⟩ = some (.int .i64 e6) := Blk.cell hws6.wk 1
              have HS6 := Lib.hid (And.intro hws6 (And.intro hnq6 (And.intro hkp6 (And.intro ho6 hl6))))
              clear hws6 hnq6 hkp6 ho6 hl6 hc0' hld5 hc4'
              have nq1 := HWR.out.2.1.trans HS6.out.2.1 (Nat.le_trans HWR.out.2.2.size HB5'.out.size)
              have kp1 := (HWR.out.2.2.trans HWR.out.2.1 (KpW.of_below HB5'.out)).trans HWR.out.2.1 HS6.out.2.2.1
              have HQ := Lib.hid (And.intro nq1 kp1)
              clear nq1 kp1
              have HLN := Lib.hid (show out6.length ≤ out.length + z by have h1 := HS6.out.2.2.2.2; have h2 := HOU.out.2; have h3 := HIT.out.2; omega)
              by_cases he6 : e6 = 0
              · subst he6
                have HO6 := Lib.hid (show out6 = out ++ (catK n P Ks (i + 1)).map (mvS h v) by rw [HS6.out.2.2.2.1 rfl, HOU.out.1, List.append_assoc, cat_step5 HKK.out HX.out.1 HH.out.1])
                go_wp2_with fail
                go_roundg (P.length - (i + 1))
                case measure => omega
                case rel => exact ⟨i + 1, by omega, by go_num, ⟨out6, q6, z, HS6.out.1, HQ.out.1, HQ.out.2, HO6.out, HST.out, HLN.out⟩⟩
              · have t6 : (e6 != 0) = true := by simp [he6]
                have HE6 := Lib.hid he6
                clear he6
                go_wp2_with fail
                go_returns
                exact ⟨rfl, out6, e6, q6, HS6.out.1, HQ.out.1.far HS4.out.2.size, HS4.out.2.trans (.inl rfl) HQ.out.2, fun h => absurd h HE6.out, by have := HLN.out; have := HZ.out; omega, fun g => absurd (HG6.out ((g.2.2 i x HX.out.1).2 HKK.out)) HE6.out⟩
          · obtain rfl : i = P.length := by omega
            have hol2 : outi.length ≤ out.length + len := by
              have := hst.le
              rw [E21.out] at this
              omega
            have HR := Lib.hid (And.intro hws (And.intro hnq (And.intro hkp (And.intro hout hol2))))
            clear hws hnq hkp hout hst hol hol2 hL
            go_wp2_with fail
            go_returns
            exact ⟨rfl, outi, 0, qi, HR.out.1, HR.out.2.1.far HS4.out.2.size, HS4.out.2.trans (.inl rfl) HR.out.2.2.1, fun _ => by rw [← HPN.out]; exact HR.out.2.2.2.1, HR.out.2.2.2.2, fun _ => rfl⟩
      · have t2 : (e2 != 0) = true := by simp [he2]
        have HE := Lib.hid he2
        clear he2
        go_wp2_with fail
        go_returns
        exact ⟨rfl, out, e2, q, HS3.out.1, Nq.refl _ _, HS3.out.2.1, fun h => absurd h HE.out, by omega, fun g => by rw [HE2.out g.2.1]; exact HD1.out (HD.out.symm.trans g.1)⟩
end Go.Proofs.YtoboecenlangmaaGreat.Dv
end
section
namespace Go.Proofs.YtoboecenlangmaaGreat.Dv
open Go.ChangeShapes Go.WideShapes Go.ChangeAt Go.RowKit
open Me Np No Pk
set_option linter.unusedVariables false
set_option linter.unusedSimpArgs false

theorem mv_box (K : List Stn) {h v : Int} (hh : W64i h) (y : Int) : K.map (mvS h (wrap64 (v + y))) = (K.map (shS 0 y)).map (mvS h v) := by
  have e : mvS h (wrap64 (v + y)) = mvS (wrap64 (h + 0)) (wrap64 (v + y)) := by rw [Int.add_zero, show wrap64 h = h from hh]
  rw [e, mv_sh_map]
set_option maxHeartbeats 4000000 in
set_option maxRecDepth 100000 in
theorem acr_char (it : List Nd) (bx n : Nd) (hn : it[0]? = some n) (hk : n.kind = 1) : AcrC it bx [⟨1, n.font, n.char, 0, 0, 0, 0, ⟨#[]⟩⟩] (fun h v => (dimB h && dimB v) = true) := by
  intro w0 base B C out q A c h v w hcap hh hv hbd hseg hws
  have hpos : 0 < it.length := (List.getElem?_eq_some_iff.1 hn).1
  obtain ⟨b, off, rfl, hb, hnode⟩ := seg_node hseg.seg (k := 0) hn
  rw [Nat.zero_mul, Nat.add_zero] at hnode
  have HSG := Lib.hid hseg
  have HWS := Lib.hid hws
  have HH := Lib.hid (And.intro hh hv)
  have HK := Lib.hid hk
  clear hws hseg hh hv hk
  generalize hll : it.length = len at *
  have HL := Lib.hid hll
  clear hll
  go_enter Tryz.func175, Tryz.ntmps175
  go_upto_region 2 with (first | (refine wpList_load_node rfl _ rfl _ _ rfl _ (by repeat (first | apply NodeAt.row | (apply Blk.new'; first | rfl | (simp; done)) | (apply Blk.node; apply Blk.new'; first | rfl | (simp; done)) | assumption | apply NodeAt.alloc)) ?_) | (refine wpList_alloc_node rfl rfl ?_) | (refine wpList_store_node rfl _ _ rfl _ _ _ rfl rfl _ (by repeat (first | (apply Blk.new'; first | rfl | (simp; done)) | assumption | apply Blk.alloc)) ?_))
  rw [setRow_new _ _ _ _ _ rfl]
  have hW := andAlloc (andAlloc (Below.refl w.heap.size w) (.cells (nc bx) 101)) (.cells (nc n) 101)
  have h7 : NodeAt ((w.alloc (.cells (nc bx) 101)).alloc (.cells (nc n) 101)) w.heap.size 0 bx := (Blk.new w 101 (nc bx)).node.alloc _
  have h10 : NodeAt ((w.alloc (.cells (nc bx) 101)).alloc (.cells (nc n) 101)) (w.heap.size + 1) 0 n := (Blk.new' (by simp)).node
  have hsz : (w.alloc (.cells (nc bx) 101)).heap.size = w.heap.size + 1 := by simp
  rw [hsz]
  generalize (w.alloc (.cells (nc bx) 101)).alloc (.cells (nc n) 101) = W at hW h7 h10 ⊢
  generalize w.heap.size + 1 = g10 at h10 ⊢
  generalize hg7 : w.heap.size = g7 at h7 ⊢
  have HW := Lib.hid hW
  have HG := Lib.hid hg7
  clear hW hsz hg7
  have k0 : W.cell? ⟨g10, 0, none⟩ = some (.int .i64 1) := by have := h10 0 _ rfl; rw [HK.out] at this; exact this
  have k1 : W.cell? ⟨g10, 1, none⟩ = some (.int .i64 n.font) := by have := h10 1 _ rfl; rw [Nat.zero_add] at this; exact this
  have k2 : W.cell? ⟨g10, 2, none⟩ = some (.int .u8 n.char) := by have := h10 2 _ rfl; rw [Nat.zero_add] at this; exact this
  go_wp2_with fail
  refine (put_any (HWS.out.below HW.out) _ _ _ h v _ _ _ (by omega)).mono ?_
  rintro r w1 ⟨rfl, hw⟩
  have HR := Lib.hid (Wal.more (show Wal w0 base B C out q (([⟨1, n.font, n.char, 0, 0, 0, 0, ⟨#[]⟩⟩] : List Stn).map (mvS h v)) 1 ((dimB h && dimB v) = true) W (.returned (.tuple #[])) w1 by rw [List.map_cons, List.map_nil, mv_zero HH.out.1 HH.out.2 _ rfl rfl]; exact ⟨rfl, hw⟩) (show 1 ≤ len by omega))
  clear hw
  go_wp2_with fail
  go_returns
  exact HR.out.back HW.out
set_option maxHeartbeats 4000000 in
set_option maxRecDepth 100000 in
theorem acr_lig (it : List Nd) (bx n : Nd) (hn : it[0]? = some n) (hk : n.kind = 2) : AcrC it bx [⟨1, n.font, n.char, 0, 0, 0, 0, ⟨#[]⟩⟩] (fun h v => (dimB h && dimB v) = true) := by
  intro w0 base B C out q A c h v w hcap hh hv hbd hseg hws
  have hpos : 0 < it.length := (List.getElem?_eq_some_iff.1 hn).1
  obtain ⟨b, off, rfl, hb, hnode⟩ := seg_node hseg.seg (k := 0) hn
  rw [Nat.zero_mul, Nat.add_zero] at hnode
  have HSG := Lib.hid hseg
  have HWS := Lib.hid hws
  have HH := Lib.hid (And.intro hh hv)
  have HK := Lib.hid hk
  clear hws hseg hh hv hk
  generalize hll : it.length = len at *
  have HL := Lib.hid hll
  clear hll
  go_enter Tryz.func175, Tryz.ntmps175
  go_upto_region 2 with (first | (refine wpList_load_node rfl _ rfl _ _ rfl _ (by repeat (first | apply NodeAt.row | (apply Blk.new'; first | rfl | (simp; done)) | (apply Blk.node; apply Blk.new'; first | rfl | (simp; done)) | assumption | apply NodeAt.alloc)) ?_) | (refine wpList_alloc_node rfl rfl ?_) | (refine wpList_store_node rfl _ _ rfl _ _ _ rfl rfl _ (by repeat (first | (apply Blk.new'; first | rfl | (simp; done)) | assumption | apply Blk.alloc)) ?_))
  rw [setRow_new _ _ _ _ _ rfl]
  have hW := andAlloc (andAlloc (Below.refl w.heap.size w) (.cells (nc bx) 101)) (.cells (nc n) 101)
  have h7 : NodeAt ((w.alloc (.cells (nc bx) 101)).alloc (.cells (nc n) 101)) w.heap.size 0 bx := (Blk.new w 101 (nc bx)).node.alloc _
  have h10 : NodeAt ((w.alloc (.cells (nc bx) 101)).alloc (.cells (nc n) 101)) (w.heap.size + 1) 0 n := (Blk.new' (by simp)).node
  have hsz : (w.alloc (.cells (nc bx) 101)).heap.size = w.heap.size + 1 := by simp
  rw [hsz]
  generalize (w.alloc (.cells (nc bx) 101)).alloc (.cells (nc n) 101) = W at hW h7 h10 ⊢
  generalize w.heap.size + 1 = g10 at h10 ⊢
  generalize hg7 : w.heap.size = g7 at h7 ⊢
  have HW := Lib.hid hW
  have HG := Lib.hid hg7
  clear hW hsz hg7
  have k0 : W.cell? ⟨g10, 0, none⟩ = some (.int .i64 2) := by have := h10 0 _ rfl; rw [HK.out] at this; exact this
  have k1 : W.cell? ⟨g10, 1, none⟩ = some (.int .i64 n.font) := by have := h10 1 _ rfl; rw [Nat.zero_add] at this; exact this
  have k2 : W.cell? ⟨g10, 2, none⟩ = some (.int .u8 n.char) := by have := h10 2 _ rfl; rw [Nat.zero_add] at this; exact this
  go_wp2_with fail
  refine (put_any (HWS.out.below HW.out) _ _ _ h v _ _ _ (by omega)).mono ?_
  rintro r w1 ⟨rfl, hw⟩
  have HR := Lib.hid (Wal.more (show Wal w0 base B C out q (([⟨1, n.font, n.char, 0, 0, 0, 0, ⟨#[]⟩⟩] : List Stn).map (mvS h v)) 1 ((dimB h && dimB v) = true) W (.returned (.tuple #[])) w1 by rw [List.map_cons, List.map_nil, mv_zero HH.out.1 HH.out.2 _ rfl rfl]; exact ⟨rfl, hw⟩) (show 1 ≤ len by omega))
  clear hw
  go_wp2_with fail
  go_returns
  exact HR.out.back HW.out
set_option maxHeartbeats 4000000 in
set_option maxRecDepth 100000 in
theorem acr_special (it : List Nd) (bx n : Nd) (hn : it[0]? = some n) (hk : n.kind = 14) : AcrC it bx [⟨14, 0, 0, 0, 0, 0, 0, n.text⟩] (fun h v => (dimB h && dimB v) = true) := by
  intro w0 base B C out q A c h v w hcap hh hv hbd hseg hws
  have hpos : 0 < it.length := (List.getElem?_eq_some_iff.1 hn).1
  obtain ⟨b, off, rfl, hb, hnode⟩ := seg_node hseg.seg (k := 0) hn
  rw [Nat.zero_mul, Nat.add_zero] at hnode
  have HSG := Lib.hid hseg
  have HWS := Lib.hid hws
  have HH := Lib.hid (And.intro hh hv)
  have HK := Lib.hid hk
  clear hws hseg hh hv hk
  generalize hll : it.length = len at *
  have HL := Lib.hid hll
  clear hll
  go_enter Tryz.func175, Tryz.ntmps175
  go_upto_region 2 with (first | (refine wpList_load_node rfl _ rfl _ _ rfl _ (by repeat (first | apply NodeAt.row | (apply Blk.new'; first | rfl | (simp; done)) | (apply Blk.node; apply Blk.new'; first | rfl | (simp; done)) | assumption | apply NodeAt.alloc)) ?_) | (refine wpList_alloc_node rfl rfl ?_) | (refine wpList_store_node rfl _ _ rfl _ _ _ rfl rfl _ (by repeat (first | (apply Blk.new'; first | rfl | (simp; done)) | assumption | apply Blk.alloc)) ?_))
  rw [setRow_new _ _ _ _ _ rfl]
  have hW := andAlloc (andAlloc (Below.refl w.heap.size w) (.cells (nc bx) 101)) (.cells (nc n) 101)
  have h7 : NodeAt ((w.alloc (.cells (nc bx) 101)).alloc (.cells (nc n) 101)) w.heap.size 0 bx := (Blk.new w 101 (nc bx)).node.alloc _
  have h10 : NodeAt ((w.alloc (.cells (nc bx) 101)).alloc (.cells (nc n) 101)) (w.heap.size + 1) 0 n := (Blk.new' (by simp)).node
  have hsz : (w.alloc (.cells (nc bx) 101)).heap.size = w.heap.size + 1 := by simp
  rw [hsz]
  generalize (w.alloc (.cells (nc bx) 101)).alloc (.cells (nc n) 101) = W at hW h7 h10 ⊢
  generalize w.heap.size + 1 = g10 at h10 ⊢
  generalize hg7 : w.heap.size = g7 at h7 ⊢
  have HW := Lib.hid hW
  have HG := Lib.hid hg7
  clear hW hsz hg7
  have k0 : W.cell? ⟨g10, 0, none⟩ = some (.int .i64 14) := by have := h10 0 _ rfl; rw [HK.out] at this; exact this
  have k18 : W.cell? ⟨g10, 18, none⟩ = some (.string n.text) := by have := h10 18 _ rfl; rw [Nat.zero_add] at this; exact this
  go_wp2_with fail
  refine (put_any (HWS.out.below HW.out) _ _ _ h v _ _ _ (by omega)).mono ?_
  rintro r w1 ⟨rfl, hw⟩
  have HR := Lib.hid (Wal.more (show Wal w0 base B C out q (([⟨14, 0, 0, 0, 0, 0, 0, n.text⟩] : List Stn).map (mvS h v)) 1 ((dimB h && dimB v) = true) W (.returned (.tuple #[])) w1 by rw [List.map_cons, List.map_nil, mv_zero HH.out.1 HH.out.2 _ rfl rfl]; exact ⟨rfl, hw⟩) (show 1 ≤ len by omega))
  clear hw
  go_wp2_with fail
  go_returns
  exact HR.out.back HW.out
set_option maxHeartbeats 4000000 in
set_option maxRecDepth 100000 in
theorem dwn_special (it : List Nd) (bx n : Nd) (hn : it[0]? = some n) (hk : n.kind = 14) : DwnC it bx [⟨14, 0, 0, 0, 0, 0, 0, n.text⟩] (fun h v => (dimB h && dimB v) = true) := by
  intro w0 base B C out q A c h v w hcap hh hv hbd hseg hws
  have hpos : 0 < it.length := (List.getElem?_eq_some_iff.1 hn).1
  obtain ⟨b, off, rfl, hb, hnode⟩ := seg_node hseg.seg (k := 0) hn
  rw [Nat.zero_mul, Nat.add_zero] at hnode
  have HSG := Lib.hid hseg
  have HWS := Lib.hid hws
  have HH := Lib.hid (And.intro hh hv)
  have HK := Lib.hid hk
  clear hws hseg hh hv hk
  generalize hll : it.length = len at *
  have HL := Lib.hid hll
  clear hll
  go_enter Tryz.func176, Tryz.ntmps176
  go_upto_region 2 with (first | (refine wpList_load_node rfl _ rfl _ _ rfl _ (by repeat (first | apply NodeAt.row | (apply Blk.new'; first | rfl | (simp; done)) | (apply Blk.node; apply Blk.new'; first | rfl | (simp; done)) | assumption | apply NodeAt.alloc)) ?_) | (refine wpList_alloc_node rfl rfl ?_) | (refine wpList_store_node rfl _ _ rfl _ _ _ rfl rfl _ (by repeat (first | (apply Blk.new'; first | rfl | (simp; done)) | assumption | apply Blk.alloc)) ?_))
  rw [setRow_new _ _ _ _ _ rfl]
  have hW := andAlloc (andAlloc (Below.refl w.heap.size w) (.cells (nc bx) 101)) (.cells (nc n) 101)
  have h7 : NodeAt ((w.alloc (.cells (nc bx) 101)).alloc (.cells (nc n) 101)) w.heap.size 0 bx := (Blk.new w 101 (nc bx)).node.alloc _
  have h10 : NodeAt ((w.alloc (.cells (nc bx) 101)).alloc (.cells (nc n) 101)) (w.heap.size + 1) 0 n := (Blk.new' (by simp)).node
  have hsz : (w.alloc (.cells (nc bx) 101)).heap.size = w.heap.size + 1 := by simp
  rw [hsz]
  generalize (w.alloc (.cells (nc bx) 101)).alloc (.cells (nc n) 101) = W at hW h7 h10 ⊢
  generalize w.heap.size + 1 = g10 at h10 ⊢
  generalize hg7 : w.heap.size = g7 at h7 ⊢
  have HW := Lib.hid hW
  have HG := Lib.hid hg7
  clear hW hsz hg7
  have k0 : W.cell? ⟨g10, 0, none⟩ = some (.int .i64 14) := by have := h10 0 _ rfl; rw [HK.out] at this; exact this
  have k18 : W.cell? ⟨g10, 18, none⟩ = some (.string n.text) := by have := h10 18 _ rfl; rw [Nat.zero_add] at this; exact this
  go_wp2_with fail
  refine (put_any (HWS.out.below HW.out) _ _ _ h v _ _ _ (by omega)).mono ?_
  rintro r w1 ⟨rfl, hw⟩
  have HR := Lib.hid (Wal.more (show Wal w0 base B C out q (([⟨14, 0, 0, 0, 0, 0, 0, n.text⟩] : List Stn).map (mvS h v)) 1 ((dimB h && dimB v) = true) W (.returned (.tuple #[])) w1 by rw [List.map_cons, List.map_nil, mv_zero HH.out.1 HH.out.2 _ rfl rfl]; exact ⟨rfl, hw⟩) (show 1 ≤ len by omega))
  clear hw
  go_wp2_with fail
  go_returns
  exact HR.out.back HW.out
set_option maxHeartbeats 4000000 in
set_option maxRecDepth 100000 in
theorem acr_box4 (it : List Nd) (bx n : Nd) (K : List Stn) (hn : it[0]? = some n) (hk : n.kind = 4) (hB : BoxC it K FF) : AcrC it bx (K.map (shS 0 n.shift)) FF := by
  intro w0 base B C out q A c h v w hcap hh hv hbd hseg hws
  have hpos : 0 < it.length := (List.getElem?_eq_some_iff.1 hn).1
  obtain ⟨b, off, rfl, hb, hnode⟩ := seg_node hseg.seg (k := 0) hn
  rw [Nat.zero_mul, Nat.add_zero] at hnode
  have HSG := Lib.hid hseg
  have HWS := Lib.hid hws
  have HH := Lib.hid (And.intro hh hv)
  have HK := Lib.hid hk
  clear hws hseg hh hv hk
  generalize hll : it.length = len at *
  have HL := Lib.hid hll
  clear hll
  go_enter Tryz.func175, Tryz.ntmps175
  go_upto_region 2 with (first | (refine wpList_load_node rfl _ rfl _ _ rfl _ (by repeat (first | apply NodeAt.row | (apply Blk.new'; first | rfl | (simp; done)) | (apply Blk.node; apply Blk.new'; first | rfl | (simp; done)) | assumption | apply NodeAt.alloc)) ?_) | (refine wpList_alloc_node rfl rfl ?_) | (refine wpList_store_node rfl _ _ rfl _ _ _ rfl rfl _ (by repeat (first | (apply Blk.new'; first | rfl | (simp; done)) | assumption | apply Blk.alloc)) ?_))
  rw [setRow_new _ _ _ _ _ rfl]
  have hW := andAlloc (andAlloc (Below.refl w.heap.size w) (.cells (nc bx) 101)) (.cells (nc n) 101)
  have h7 : NodeAt ((w.alloc (.cells (nc bx) 101)).alloc (.cells (nc n) 101)) w.heap.size 0 bx := (Blk.new w 101 (nc bx)).node.alloc _
  have h10 : NodeAt ((w.alloc (.cells (nc bx) 101)).alloc (.cells (nc n) 101)) (w.heap.size + 1) 0 n := (Blk.new' (by simp)).node
  have hsz : (w.alloc (.cells (nc bx) 101)).heap.size = w.heap.size + 1 := by simp
  rw [hsz]
  generalize (w.alloc (.cells (nc bx) 101)).alloc (.cells (nc n) 101) = W at hW h7 h10 ⊢
  generalize w.heap.size + 1 = g10 at h10 ⊢
  generalize hg7 : w.heap.size = g7 at h7 ⊢
  have HW := Lib.hid hW
  have HG := Lib.hid hg7
  clear hW hsz hg7
  have k0 : W.cell? ⟨g10, 0, none⟩ = some (.int .i64 4) := by have := h10 0 _ rfl; rw [HK.out] at this; exact this
  have k6 : W.cell? ⟨g10, 6, none⟩ = some (.int .i64 n.shift) := by have := h10 6 _ rfl; rw [Nat.zero_add] at this; exact this
  go_wp2_with fail
  have hb' := hB w0 base B C out q (some ⟨b, off, none⟩) c h (wrap64 (v + n.shift)) W (by rw [HL.out]; exact hcap) HH.out.1 (W64i.of _) (by rw [HL.out]; exact hbd) (HSG.out.below HW.out) (HWS.out.below HW.out)
  rw [HL.out] at hb'
  refine hb'.mono ?_
  clear hb'
  rintro r w1 ⟨rfl, hw⟩
  have HR := Lib.hid (show Wal w0 base B C out q ((K.map (shS 0 n.shift)).map (mvS h v)) len _ W (.returned (.tuple #[])) w1 by rw [← mv_box K HH.out.1 n.shift]; exact ⟨rfl, hw⟩)
  clear hw
  go_wp2_with fail
  go_returns
  exact HR.out.back HW.out
set_option maxHeartbeats 4000000 in
set_option maxRecDepth 100000 in
theorem dwn_box4 (it : List Nd) (bx n : Nd) (K : List Stn) (hn : it[0]? = some n) (hk : n.kind = 4) (hB : BoxC it K FF) : DwnC it bx (K.map (shS n.shift n.ht)) FF := by
  intro w0 base B C out q A c h v w hcap hh hv hbd hseg hws
  have hpos : 0 < it.length := (List.getElem?_eq_some_iff.1 hn).1
  obtain ⟨b, off, rfl, hb, hnode⟩ := seg_node hseg.seg (k := 0) hn
  rw [Nat.zero_mul, Nat.add_zero] at hnode
  have HSG := Lib.hid hseg
  have HWS := Lib.hid hws
  have HH := Lib.hid (And.intro hh hv)
  have HK := Lib.hid hk
  clear hws hseg hh hv hk
  generalize hll : it.length = len at *
  have HL := Lib.hid hll
  clear hll
  go_enter Tryz.func176, Tryz.ntmps176
  go_upto_region 2 with (first | (refine wpList_load_node rfl _ rfl _ _ rfl _ (by repeat (first | apply NodeAt.row | (apply Blk.new'; first | rfl | (simp; done)) | (apply Blk.node; apply Blk.new'; first | rfl | (simp; done)) | assumption | apply NodeAt.alloc)) ?_) | (refine wpList_alloc_node rfl rfl ?_) | (refine wpList_store_node rfl _ _ rfl _ _ _ rfl rfl _ (by repeat (first | (apply Blk.new'; first | rfl | (simp; done)) | assumption | apply Blk.alloc)) ?_))
  rw [setRow_new _ _ _ _ _ rfl]
  have hW := andAlloc (andAlloc (Below.refl w.heap.size w) (.cells (nc bx) 101)) (.cells (nc n) 101)
  have h7 : NodeAt ((w.alloc (.cells (nc bx) 101)).alloc (.cells (nc n) 101)) w.heap.size 0 bx := (Blk.new w 101 (nc bx)).node.alloc _
  have h10 : NodeAt ((w.alloc (.cells (nc bx) 101)).alloc (.cells (nc n) 101)) (w.heap.size + 1) 0 n := (Blk.new' (by simp)).node
  have hsz : (w.alloc (.cells (nc bx) 101)).heap.size = w.heap.size + 1 := by simp
  rw [hsz]
  generalize (w.alloc (.cells (nc bx) 101)).alloc (.cells (nc n) 101) = W at hW h7 h10 ⊢
  generalize w.heap.size + 1 = g10 at h10 ⊢
  generalize hg7 : w.heap.size = g7 at h7 ⊢
  have HW := Lib.hid hW
  have HG := Lib.hid hg7
  clear hW hsz hg7
  have k0 : W.cell? ⟨g10, 0, none⟩ = some (.int .i64 4) := by have := h10 0 _ rfl; rw [HK.out] at this; exact this
  have k6 : W.cell? ⟨g10, 6, none⟩ = some (.int .i64 n.shift) := by have := h10 6 _ rfl; rw [Nat.zero_add] at this; exact this
  have k4 : W.cell? ⟨g10, 4, none⟩ = some (.int .i64 n.ht) := by have := h10 4 _ rfl; rw [Nat.zero_add] at this; exact this
  go_wp2_with fail
  have hb' := hB w0 base B C out q (some ⟨b, off, none⟩) c (wrap64 (h + n.shift)) (wrap64 (v + n.ht)) W (by rw [HL.out]; exact hcap) (W64i.of _) (W64i.of _) (by rw [HL.out]; exact hbd) (HSG.out.below HW.out) (HWS.out.below HW.out)
  rw [HL.out] at hb'
  refine hb'.mono ?_
  clear hb'
  rintro r w1 ⟨rfl, hw⟩
  have HR := Lib.hid (show Wal w0 base B C out q ((K.map (shS n.shift n.ht)).map (mvS h v)) len _ W (.returned (.tuple #[])) w1 by rw [← mv_sh_map h v n.shift n.ht K]; exact ⟨rfl, hw⟩)
  clear hw
  go_wp2_with fail
  go_returns
  exact HR.out.back HW.out
set_option maxHeartbeats 4000000 in
set_option maxRecDepth 100000 in
theorem acr_box5 (it : List Nd) (bx n : Nd) (K : List Stn) (hn : it[0]? = some n) (hk : n.kind = 5) (hB : BoxC it K FF) : AcrC it bx (K.map (shS 0 n.shift)) FF := by
  intro w0 base B C out q A c h v w hcap hh hv hbd hseg hws
  have hpos : 0 < it.length := (List.getElem?_eq_some_iff.1 hn).1
  obtain ⟨b, off, rfl, hb, hnode⟩ := seg_node hseg.seg (k := 0) hn
  rw [Nat.zero_mul, Nat.add_zero] at hnode
  have HSG := Lib.hid hseg
  have HWS := Lib.hid hws
  have HH := Lib.hid (And.intro hh hv)
  have HK := Lib.hid hk
  clear hws hseg hh hv hk
  generalize hll : it.length = len at *
  have HL := Lib.hid hll
  clear hll
  go_enter Tryz.func175, Tryz.ntmps175
  go_upto_region 2 with (first | (refine wpList_load_node rfl _ rfl _ _ rfl _ (by repeat (first | apply NodeAt.row | (apply Blk.new'; first | rfl | (simp; done)) | (apply Blk.node; apply Blk.new'; first | rfl | (simp; done)) | assumption | apply NodeAt.alloc)) ?_) | (refine wpList_alloc_node rfl rfl ?_) | (refine wpList_store_node rfl _ _ rfl _ _ _ rfl rfl _ (by repeat (first | (apply Blk.new'; first | rfl | (simp; done)) | assumption | apply Blk.alloc)) ?_))
  rw [setRow_new _ _ _ _ _ rfl]
  have hW := andAlloc (andAlloc (Below.refl w.heap.size w) (.cells (nc bx) 101)) (.cells (nc n) 101)
  have h7 : NodeAt ((w.alloc (.cells (nc bx) 101)).alloc (.cells (nc n) 101)) w.heap.size 0 bx := (Blk.new w 101 (nc bx)).node.alloc _
  have h10 : NodeAt ((w.alloc (.cells (nc bx) 101)).alloc (.cells (nc n) 101)) (w.heap.size + 1) 0 n := (Blk.new' (by simp)).node
  have hsz : (w.alloc (.cells (nc bx) 101)).heap.size = w.heap.size + 1 := by simp
  rw [hsz]
  generalize (w.alloc (.cells (nc bx) 101)).alloc (.cells (nc n) 101) = W at hW h7 h10 ⊢
  generalize w.heap.size + 1 = g10 at h10 ⊢
  generalize hg7 : w.heap.size = g7 at h7 ⊢
  have HW := Lib.hid hW
  have HG := Lib.hid hg7
  clear hW hsz hg7
  have k0 : W.cell? ⟨g10, 0, none⟩ = some (.int .i64 5) := by have := h10 0 _ rfl; rw [HK.out] at this; exact this
  have k6 : W.cell? ⟨g10, 6, none⟩ = some (.int .i64 n.shift) := by have := h10 6 _ rfl; rw [Nat.zero_add] at this; exact this
  go_wp2_with fail
  have hb' := hB w0 base B C out q (some ⟨b, off, none⟩) c h (wrap64 (v + n.shift)) W (by rw [HL.out]; exact hcap) HH.out.1 (W64i.of _) (by rw [HL.out]; exact hbd) (HSG.out.below HW.out) (HWS.out.below HW.out)
  rw [HL.out] at hb'
  refine hb'.mono ?_
  clear hb'
  rintro r w1 ⟨rfl, hw⟩
  have HR := Lib.hid (show Wal w0 base B C out q ((K.map (shS 0 n.shift)).map (mvS h v)) len _ W (.returned (.tuple #[])) w1 by rw [← mv_box K HH.out.1 n.shift]; exact ⟨rfl, hw⟩)
  clear hw
  go_wp2_with fail
  go_returns
  exact HR.out.back HW.out
set_option maxHeartbeats 4000000 in
set_option maxRecDepth 100000 in
theorem dwn_box5 (it : List Nd) (bx n : Nd) (K : List Stn) (hn : it[0]? = some n) (hk : n.kind = 5) (hB : BoxC it K FF) : DwnC it bx (K.map (shS n.shift n.ht)) FF := by
  intro w0 base B C out q A c h v w hcap hh hv hbd hseg hws
  have hpos : 0 < it.length := (List.getElem?_eq_some_iff.1 hn).1
  obtain ⟨b, off, rfl, hb, hnode⟩ := seg_node hseg.seg (k := 0) hn
  rw [Nat.zero_mul, Nat.add_zero] at hnode
  have HSG := Lib.hid hseg
  have HWS := Lib.hid hws
  have HH := Lib.hid (And.intro hh hv)
  have HK := Lib.hid hk
  clear hws hseg hh hv hk
  generalize hll : it.length = len at *
  have HL := Lib.hid hll
  clear hll
  go_enter Tryz.func176, Tryz.ntmps176
  go_upto_region 2 with (first | (refine wpList_load_node rfl _ rfl _ _ rfl _ (by repeat (first | apply NodeAt.row | (apply Blk.new'; first | rfl | (simp; done)) | (apply Blk.node; apply Blk.new'; first | rfl | (simp; done)) | assumption | apply NodeAt.alloc)) ?_) | (refine wpList_alloc_node rfl rfl ?_) | (refine wpList_store_node rfl _ _ rfl _ _ _ rfl rfl _ (by repeat (first | (apply Blk.new'; first | rfl | (simp; done)) | assumption | apply Blk.alloc)) ?_))
  rw [setRow_new _ _ _ _ _ rfl]
  have hW := andAlloc (andAlloc (Below.refl w.heap.size w) (.cells (nc bx) 101)) (.cells (nc n) 101)
  have h7 : NodeAt ((w.alloc (.cells (nc bx) 101)).alloc (.cells (nc n) 101)) w.heap.size 0 bx := (Blk.new w 101 (nc bx)).node.alloc _
  have h10 : NodeAt ((w.alloc (.cells (nc bx) 101)).alloc (.cells (nc n) 101)) (w.heap.size + 1) 0 n := (Blk.new' (by simp)).node
  have hsz : (w.alloc (.cells (nc bx) 101)).heap.size = w.heap.size + 1 := by simp
  rw [hsz]
  generalize (w.alloc (.cells (nc bx) 101)).alloc (.cells (nc n) 101) = W at hW h7 h10 ⊢
  generalize w.heap.size + 1 = g10 at h10 ⊢
  generalize hg7 : w.heap.size = g7 at h7 ⊢
  have HW := Lib.hid hW
  have HG := Lib.hid hg7
  clear hW hsz hg7
  have k0 : W.cell? ⟨g10, 0, none⟩ = some (.int .i64 5) := by have := h10 0 _ rfl; rw [HK.out] at this; exact this
  have k6 : W.cell? ⟨g10, 6, none⟩ = some (.int .i64 n.shift) := by have := h10 6 _ rfl; rw [Nat.zero_add] at this; exact this
  have k4 : W.cell? ⟨g10, 4, none⟩ = some (.int .i64 n.ht) := by have := h10 4 _ rfl; rw [Nat.zero_add] at this; exact this
  go_wp2_with fail
  have hb' := hB w0 base B C out q (some ⟨b, off, none⟩) c (wrap64 (h + n.shift)) (wrap64 (v + n.ht)) W (by rw [HL.out]; exact hcap) (W64i.of _) (W64i.of _) (by rw [HL.out]; exact hbd) (HSG.out.below HW.out) (HWS.out.below HW.out)
  rw [HL.out] at hb'
  refine hb'.mono ?_
  clear hb'
  rintro r w1 ⟨rfl, hw⟩
  have HR := Lib.hid (show Wal w0 base B C out q ((K.map (shS n.shift n.ht)).map (mvS h v)) len _ W (.returned (.tuple #[])) w1 by rw [← mv_sh_map h v n.shift n.ht K]; exact ⟨rfl, hw⟩)
  clear hw
  go_wp2_with fail
  go_returns
  exact HR.out.back HW.out
set_option maxHeartbeats 4000000 in
set_option maxRecDepth 100000 in
theorem acr_rule0 (it : List Nd) (bx n : Nd) (hn : it[0]? = some n) (hk : n.kind = 3) (hsub : n.sub = 0) : AcrC it bx ((ruK (wrap64 (n.ht + n.dp)) n.wd).map (shS 0 n.dp)) FF := by
  intro w0 base B C out q A c h v w hcap hh hv hbd hseg hws
  have hpos : 0 < it.length := (List.getElem?_eq_some_iff.1 hn).1
  obtain ⟨b, off, rfl, hb, hnode⟩ := seg_node hseg.seg (k := 0) hn
  rw [Nat.zero_mul, Nat.add_zero] at hnode
  have HSG := Lib.hid hseg
  have HWS := Lib.hid hws
  have HH := Lib.hid (And.intro hh hv)
  have HK := Lib.hid hk
  clear hws hseg hh hv hk
  generalize hll : it.length = len at *
  have HL := Lib.hid hll
  clear hll
  go_enter Tryz.func175, Tryz.ntmps175
  go_upto_region 2 with (first | (refine wpList_load_node rfl _ rfl _ _ rfl _ (by repeat (first | apply NodeAt.row | (apply Blk.new'; first | rfl | (simp; done)) | (apply Blk.node; apply Blk.new'; first | rfl | (simp; done)) | assumption | apply NodeAt.alloc)) ?_) | (refine wpList_alloc_node rfl rfl ?_) | (refine wpList_store_node rfl _ _ rfl _ _ _ rfl rfl _ (by repeat (first | (apply Blk.new'; first | rfl | (simp; done)) | assumption | apply Blk.alloc)) ?_))
  rw [setRow_new _ _ _ _ _ rfl]
  have hW := andAlloc (andAlloc (Below.refl w.heap.size w) (.cells (nc bx) 101)) (.cells (nc n) 101)
  have h7 : NodeAt ((w.alloc (.cells (nc bx) 101)).alloc (.cells (nc n) 101)) w.heap.size 0 bx := (Blk.new w 101 (nc bx)).node.alloc _
  have h10 : NodeAt ((w.alloc (.cells (nc bx) 101)).alloc (.cells (nc n) 101)) (w.heap.size + 1) 0 n := (Blk.new' (by simp)).node
  have hsz : (w.alloc (.cells (nc bx) 101)).heap.size = w.heap.size + 1 := by simp
  rw [hsz]
  generalize (w.alloc (.cells (nc bx) 101)).alloc (.cells (nc n) 101) = W at hW h7 h10 ⊢
  generalize w.heap.size + 1 = g10 at h10 ⊢
  generalize hg7 : w.heap.size = g7 at h7 ⊢
  have HW := Lib.hid hW
  have HG := Lib.hid hg7
  clear hW hsz hg7
  have k0 : W.cell? ⟨g10, 0, none⟩ = some (.int .i64 3) := by have := h10 0 _ rfl; rw [HK.out] at this; exact this
  have k4 : W.cell? ⟨g10, 4, none⟩ = some (.int .i64 n.ht) := by have := h10 4 _ rfl; rw [Nat.zero_add] at this; exact this
  have k5 : W.cell? ⟨g10, 5, none⟩ = some (.int .i64 n.dp) := by have := h10 5 _ rfl; rw [Nat.zero_add] at this; exact this
  have k3 : W.cell? ⟨g10, 3, none⟩ = some (.int .i64 n.wd) := by have := h10 3 _ rfl; rw [Nat.zero_add] at this; exact this
  have k17 : W.cell? ⟨g10, 17, none⟩ = some (.int .i64 0) := by have := h10 17 _ rfl; rw [hsub, Nat.zero_add] at this; exact this
  have b4 : W.cell? ⟨g7, 4, none⟩ = some (.int .i64 bx.ht) := by have := h7 4 _ rfl; rw [Nat.zero_add] at this; exact this
  have b5 : W.cell? ⟨g7, 5, none⟩ = some (.int .i64 bx.dp) := by have := h7 5 _ rfl; rw [Nat.zero_add] at this; exact this
  clear hsub h7 h10
  go_upto_region 10 with fail
  go_quiet (fail)
  have hd := below_drewN (Below.refl W.heap.size W) nq
  have e3 : (W.drewN nq).cell? ⟨g10, 3, none⟩ = some (.int .i64 n.wd) := k3
  have e17 : (W.drewN nq).cell? ⟨g10, 17, none⟩ = some (.int .i64 0) := k17
  have e4 : (W.drewN nq).cell? ⟨g7, 4, none⟩ = some (.int .i64 bx.ht) := b4
  have e5 : (W.drewN nq).cell? ⟨g7, 5, none⟩ = some (.int .i64 bx.dp) := b5
  generalize W.drewN nq = W1 at hd e3 e17 e4 e5 ⊢
  have HW1 := Lib.hid (andThen HW.out hd)
  clear hd k0 k3 k4 k5 k17 b4 b5
  obtain ⟨W2, hW2⟩ : ∃ W2, W2 = W1 := ⟨_, rfl⟩
  subst hW2
  have HW2 := Lib.hid HW1.out
  go_wp2_with fail
  refine (rule_any (HWS.out.below HW2.out) h (wrap64 (v + n.dp)) (wrap64 (n.ht + n.dp)) n.wd HH.out.1 (W64i.of _) (by omega)).mono ?_
  rintro r w1 ⟨rfl, hw⟩
  have HR := Lib.hid (Wal.more (show Wal w0 base B C out q (((ruK (wrap64 (n.ht + n.dp)) n.wd).map (shS 0 n.dp)).map (mvS h v)) 1 False W2 (.returned (.tuple #[])) w1 by rw [← mv_box _ HH.out.1 n.dp]; exact ⟨rfl, hw⟩) (show 1 ≤ len by omega))
  clear hw
  go_wp2_with fail
  go_returns
  exact HR.out.back HW2.out
set_option maxHeartbeats 4000000 in
set_option maxRecDepth 100000 in
theorem dwn_rule0 (it : List Nd) (bx n : Nd) (hn : it[0]? = some n) (hk : n.kind = 3) (hsub : n.sub = 0) : DwnC it bx ((ruK (wrap64 (n.ht + n.dp)) n.wd).map (shS 0 (n.ht + n.dp))) FF := by
  intro w0 base B C out q A c h v w hcap hh hv hbd hseg hws
  have hpos : 0 < it.length := (List.getElem?_eq_some_iff.1 hn).1
  obtain ⟨b, off, rfl, hb, hnode⟩ := seg_node hseg.seg (k := 0) hn
  rw [Nat.zero_mul, Nat.add_zero] at hnode
  have HSG := Lib.hid hseg
  have HWS := Lib.hid hws
  have HH := Lib.hid (And.intro hh hv)
  have HK := Lib.hid hk
  clear hws hseg hh hv hk
  generalize hll : it.length = len at *
  have HL := Lib.hid hll
  clear hll
  go_enter Tryz.func176, Tryz.ntmps176
  go_upto_region 2 with (first | (refine wpList_load_node rfl _ rfl _ _ rfl _ (by repeat (first | apply NodeAt.row | (apply Blk.new'; first | rfl | (simp; done)) | (apply Blk.node; apply Blk.new'; first | rfl | (simp; done)) | assumption | apply NodeAt.alloc)) ?_) | (refine wpList_alloc_node rfl rfl ?_) | (refine wpList_store_node rfl _ _ rfl _ _ _ rfl rfl _ (by repeat (first | (apply Blk.new'; first | rfl | (simp; done)) | assumption | apply Blk.alloc)) ?_))
  rw [setRow_new _ _ _ _ _ rfl]
  have hW := andAlloc (andAlloc (Below.refl w.heap.size w) (.cells (nc bx) 101)) (.cells (nc n) 101)
  have h7 : NodeAt ((w.alloc (.cells (nc bx) 101)).alloc (.cells (nc n) 101)) w.heap.size 0 bx := (Blk.new w 101 (nc bx)).node.alloc _
  have h10 : NodeAt ((w.alloc (.cells (nc bx) 101)).alloc (.cells (nc n) 101)) (w.heap.size + 1) 0 n := (Blk.new' (by simp)).node
  have hsz : (w.alloc (.cells (nc bx) 101)).heap.size = w.heap.size + 1 := by simp
  rw [hsz]
  generalize (w.alloc (.cells (nc bx) 101)).alloc (.cells (nc n) 101) = W at hW h7 h10 ⊢
  generalize w.heap.size + 1 = g10 at h10 ⊢
  generalize hg7 : w.heap.size = g7 at h7 ⊢
  have HW := Lib.hid hW
  have HG := Lib.hid hg7
  clear hW hsz hg7
  have k0 : W.cell? ⟨g10, 0, none⟩ = some (.int .i64 3) := by have := h10 0 _ rfl; rw [HK.out] at this; exact this
  have k4 : W.cell? ⟨g10, 4, none⟩ = some (.int .i64 n.ht) := by have := h10 4 _ rfl; rw [Nat.zero_add] at this; exact this
  have k5 : W.cell? ⟨g10, 5, none⟩ = some (.int .i64 n.dp) := by have := h10 5 _ rfl; rw [Nat.zero_add] at this; exact this
  have k3 : W.cell? ⟨g10, 3, none⟩ = some (.int .i64 n.wd) := by have := h10 3 _ rfl; rw [Nat.zero_add] at this; exact this
  have k17 : W.cell? ⟨g10, 17, none⟩ = some (.int .i64 0) := by have := h10 17 _ rfl; rw [hsub, Nat.zero_add] at this; exact this
  have b3 : W.cell? ⟨g7, 3, none⟩ = some (.int .i64 bx.wd) := by have := h7 3 _ rfl; rw [Nat.zero_add] at this; exact this
  clear hsub h7 h10
  obtain ⟨W2, hW2⟩ : ∃ W2, W2 = W := ⟨_, rfl⟩
  subst hW2
  have HW2 := Lib.hid HW.out
  go_wp2_with fail
  refine (rule_any (HWS.out.below HW2.out) h (wrap64 (wrap64 (v + n.ht) + n.dp)) (wrap64 (n.ht + n.dp)) n.wd HH.out.1 (W64i.of _) (by omega)).mono ?_
  rintro r w1 ⟨rfl, hw⟩
  have HR := Lib.hid (Wal.more (show Wal w0 base B C out q (((ruK (wrap64 (n.ht + n.dp)) n.wd).map (shS 0 (n.ht + n.dp))).map (mvS h v)) 1 False W2 (.returned (.tuple #[])) w1 by rw [← mv_box _ HH.out.1 (n.ht + n.dp), ← Int.add_assoc, ← wrap_wrap]; exact ⟨rfl, hw⟩) (show 1 ≤ len by omega))
  clear hw
  go_wp2_with fail
  go_returns
  exact HR.out.back HW2.out
set_option maxHeartbeats 4000000 in
set_option maxRecDepth 100000 in
theorem acr_rule1 (it : List Nd) (bx n : Nd) (hn : it[0]? = some n) (hk : n.kind = 3) (hsub : n.sub = 1) : AcrC it bx ((ruK (wrap64 (n.ht + n.dp)) n.wd).map (shS 0 n.dp)) FF := by
  intro w0 base B C out q A c h v w hcap hh hv hbd hseg hws
  have hpos : 0 < it.length := (List.getElem?_eq_some_iff.1 hn).1
  obtain ⟨b, off, rfl, hb, hnode⟩ := seg_node hseg.seg (k := 0) hn
  rw [Nat.zero_mul, Nat.add_zero] at hnode
  have HSG := Lib.hid hseg
  have HWS := Lib.hid hws
  have HH := Lib.hid (And.intro hh hv)
  have HK := Lib.hid hk
  clear hws hseg hh hv hk
  generalize hll : it.length = len at *
  have HL := Lib.hid hll
  clear hll
  go_enter Tryz.func175, Tryz.ntmps175
  go_upto_region 2 with (first | (refine wpList_load_node rfl _ rfl _ _ rfl _ (by repeat (first | apply NodeAt.row | (apply Blk.new'; first | rfl | (simp; done)) | (apply Blk.node; apply Blk.new'; first | rfl | (simp; done)) | assumption | apply NodeAt.alloc)) ?_) | (refine wpList_alloc_node rfl rfl ?_) | (refine wpList_store_node rfl _ _ rfl _ _ _ rfl rfl _ (by repeat (first | (apply Blk.new'; first | rfl | (simp; done)) | assumption | apply Blk.alloc)) ?_))
  rw [setRow_new _ _ _ _ _ rfl]
  have hW := andAlloc (andAlloc (Below.refl w.heap.size w) (.cells (nc bx) 101)) (.cells (nc n) 101)
  have h7 : NodeAt ((w.alloc (.cells (nc bx) 101)).alloc (.cells (nc n) 101)) w.heap.size 0 bx := (Blk.new w 101 (nc bx)).node.alloc _
  have h10 : NodeAt ((w.alloc (.cells (nc bx) 101)).alloc (.cells (nc n) 101)) (w.heap.size + 1) 0 n := (Blk.new' (by simp)).node
  have hsz : (w.alloc (.cells (nc bx) 101)).heap.size = w.heap.size + 1 := by simp
  rw [hsz]
  generalize (w.alloc (.cells (nc bx) 101)).alloc (.cells (nc n) 101) = W at hW h7 h10 ⊢
  generalize w.heap.size + 1 = g10 at h10 ⊢
  generalize hg7 : w.heap.size = g7 at h7 ⊢
  have HW := Lib.hid hW
  have HG := Lib.hid hg7
  clear hW hsz hg7
  have k0 : W.cell? ⟨g10, 0, none⟩ = some (.int .i64 3) := by have := h10 0 _ rfl; rw [HK.out] at this; exact this
  have k4 : W.cell? ⟨g10, 4, none⟩ = some (.int .i64 n.ht) := by have := h10 4 _ rfl; rw [Nat.zero_add] at this; exact this
  have k5 : W.cell? ⟨g10, 5, none⟩ = some (.int .i64 n.dp) := by have := h10 5 _ rfl; rw [Nat.zero_add] at this; exact this
  have k3 : W.cell? ⟨g10, 3, none⟩ = some (.int .i64 n.wd) := by have := h10 3 _ rfl; rw [Nat.zero_add] at this; exact this
  have k17 : W.cell? ⟨g10, 17, none⟩ = some (.int .i64 1) := by have := h10 17 _ rfl; rw [hsub, Nat.zero_add] at this; exact this
  have b4 : W.cell? ⟨g7, 4, none⟩ = some (.int .i64 bx.ht) := by have := h7 4 _ rfl; rw [Nat.zero_add] at this; exact this
  have b5 : W.cell? ⟨g7, 5, none⟩ = some (.int .i64 bx.dp) := by have := h7 5 _ rfl; rw [Nat.zero_add] at this; exact this
  clear hsub h7 h10
  go_upto_region 10 with fail
  go_quiet (fail)
  have hd := below_drewN (Below.refl W.heap.size W) nq
  have e3 : (W.drewN nq).cell? ⟨g10, 3, none⟩ = some (.int .i64 n.wd) := k3
  have e17 : (W.drewN nq).cell? ⟨g10, 17, none⟩ = some (.int .i64 1) := k17
  have e4 : (W.drewN nq).cell? ⟨g7, 4, none⟩ = some (.int .i64 bx.ht) := b4
  have e5 : (W.drewN nq).cell? ⟨g7, 5, none⟩ = some (.int .i64 bx.dp) := b5
  generalize W.drewN nq = W1 at hd e3 e17 e4 e5 ⊢
  have HW1 := Lib.hid (andThen HW.out hd)
  clear hd k0 k3 k4 k5 k17 b4 b5
  obtain ⟨W2, hW2⟩ : ∃ W2, W2 = W1 := ⟨_, rfl⟩
  subst hW2
  have HW2 := Lib.hid HW1.out
  go_wp2_with fail
  refine (rule_any (HWS.out.below HW2.out) h (wrap64 (v + n.dp)) (wrap64 (n.ht + n.dp)) n.wd HH.out.1 (W64i.of _) (by omega)).mono ?_
  rintro r w1 ⟨rfl, hw⟩
  have HR := Lib.hid (Wal.more (show Wal w0 base B C out q (((ruK (wrap64 (n.ht + n.dp)) n.wd).map (shS 0 n.dp)).map (mvS h v)) 1 False W2 (.returned (.tuple #[])) w1 by rw [← mv_box _ HH.out.1 n.dp]; exact ⟨rfl, hw⟩) (show 1 ≤ len by omega))
  clear hw
  go_wp2_with fail
  go_returns
  exact HR.out.back HW2.out
set_option maxHeartbeats 4000000 in
set_option maxRecDepth 100000 in
theorem dwn_rule1 (it : List Nd) (bx n : Nd) (hn : it[0]? = some n) (hk : n.kind = 3) (hsub : n.sub = 1) : DwnC it bx ((ruK (wrap64 (n.ht + n.dp)) bx.wd).map (shS 0 (n.ht + n.dp))) FF := by
  intro w0 base B C out q A c h v w hcap hh hv hbd hseg hws
  have hpos : 0 < it.length := (List.getElem?_eq_some_iff.1 hn).1
  obtain ⟨b, off, rfl, hb, hnode⟩ := seg_node hseg.seg (k := 0) hn
  rw [Nat.zero_mul, Nat.add_zero] at hnode
  have HSG := Lib.hid hseg
  have HWS := Lib.hid hws
  have HH := Lib.hid (And.intro hh hv)
  have HK := Lib.hid hk
  clear hws hseg hh hv hk
  generalize hll : it.length = len at *
  have HL := Lib.hid hll
  clear hll
  go_enter Tryz.func176, Tryz.ntmps176
  go_upto_region 2 with (first | (refine wpList_load_node rfl _ rfl _ _ rfl _ (by repeat (first | apply NodeAt.row | (apply Blk.new'; first | rfl | (simp; done)) | (apply Blk.node; apply Blk.new'; first | rfl | (simp; done)) | assumption | apply NodeAt.alloc)) ?_) | (refine wpList_alloc_node rfl rfl ?_) | (refine wpList_store_node rfl _ _ rfl _ _ _ rfl rfl _ (by repeat (first | (apply Blk.new'; first | rfl | (simp; done)) | assumption | apply Blk.alloc)) ?_))
  rw [setRow_new _ _ _ _ _ rfl]
  have hW := andAlloc (andAlloc (Below.refl w.heap.size w) (.cells (nc bx) 101)) (.cells (nc n) 101)
  have h7 : NodeAt ((w.alloc (.cells (nc bx) 101)).alloc (.cells (nc n) 101)) w.heap.size 0 bx := (Blk.new w 101 (nc bx)).node.alloc _
  have h10 : NodeAt ((w.alloc (.cells (nc bx) 101)).alloc (.cells (nc n) 101)) (w.heap.size + 1) 0 n := (Blk.new' (by simp)).node
  have hsz : (w.alloc (.cells (nc bx) 101)).heap.size = w.heap.size + 1 := by simp
  rw [hsz]
  generalize (w.alloc (.cells (nc bx) 101)).alloc (.cells (nc n) 101) = W at hW h7 h10 ⊢
  generalize w.heap.size + 1 = g10 at h10 ⊢
  generalize hg7 : w.heap.size = g7 at h7 ⊢
  have HW := Lib.hid hW
  have HG := Lib.hid hg7
  clear hW hsz hg7
  have k0 : W.cell? ⟨g10, 0, none⟩ = some (.int .i64 3) := by have := h10 0 _ rfl; rw [HK.out] at this; exact this
  have k4 : W.cell? ⟨g10, 4, none⟩ = some (.int .i64 n.ht) := by have := h10 4 _ rfl; rw [Nat.zero_add] at this; exact this
  have k5 : W.cell? ⟨g10, 5, none⟩ = some (.int .i64 n.dp) := by have := h10 5 _ rfl; rw [Nat.zero_add] at this; exact this
  have k3 : W.cell? ⟨g10, 3, none⟩ = some (.int .i64 n.wd) := by have := h10 3 _ rfl; rw [Nat.zero_add] at this; exact this
  have k17 : W.cell? ⟨g10, 17, none⟩ = some (.int .i64 1) := by have := h10 17 _ rfl; rw [hsub, Nat.zero_add] at this; exact this
  have b3 : W.cell? ⟨g7, 3, none⟩ = some (.int .i64 bx.wd) := by have := h7 3 _ rfl; rw [Nat.zero_add] at this; exact this
  clear hsub h7 h10
  obtain ⟨W2, hW2⟩ : ∃ W2, W2 = W := ⟨_, rfl⟩
  subst hW2
  have HW2 := Lib.hid HW.out
  go_wp2_with fail
  refine (rule_any (HWS.out.below HW2.out) h (wrap64 (wrap64 (v + n.ht) + n.dp)) (wrap64 (n.ht + n.dp)) bx.wd HH.out.1 (W64i.of _) (by omega)).mono ?_
  rintro r w1 ⟨rfl, hw⟩
  have HR := Lib.hid (Wal.more (show Wal w0 base B C out q (((ruK (wrap64 (n.ht + n.dp)) bx.wd).map (shS 0 (n.ht + n.dp))).map (mvS h v)) 1 False W2 (.returned (.tuple #[])) w1 by rw [← mv_box _ HH.out.1 (n.ht + n.dp), ← Int.add_assoc, ← wrap_wrap]; exact ⟨rfl, hw⟩) (show 1 ≤ len by omega))
  clear hw
  go_wp2_with fail
  go_returns
  exact HR.out.back HW2.out
set_option maxHeartbeats 4000000 in
set_option maxRecDepth 100000 in
theorem acr_rule2 (it : List Nd) (bx n : Nd) (hn : it[0]? = some n) (hk : n.kind = 3) (hsub : n.sub = 2) : AcrC it bx ((ruK (wrap64 (bx.ht + bx.dp)) n.wd).map (shS 0 bx.dp)) FF := by
  intro w0 base B C out q A c h v w hcap hh hv hbd hseg hws
  have hpos : 0 < it.length := (List.getElem?_eq_some_iff.1 hn).1
  obtain ⟨b, off, rfl, hb, hnode⟩ := seg_node hseg.seg (k := 0) hn
  rw [Nat.zero_mul, Nat.add_zero] at hnode
  have HSG := Lib.hid hseg
  have HWS := Lib.hid hws
  have HH := Lib.hid (And.intro hh hv)
  have HK := Lib.hid hk
  clear hws hseg hh hv hk
  generalize hll : it.length = len at *
  have HL := Lib.hid hll
  clear hll
  go_enter Tryz.func175, Tryz.ntmps175
  go_upto_region 2 with (first | (refine wpList_load_node rfl _ rfl _ _ rfl _ (by repeat (first | apply NodeAt.row | (apply Blk.new'; first | rfl | (simp; done)) | (apply Blk.node; apply Blk.new'; first | rfl | (simp; done)) | assumption | apply NodeAt.alloc)) ?_) | (refine wpList_alloc_node rfl rfl ?_) | (refine wpList_store_node rfl _ _ rfl _ _ _ rfl rfl _ (by repeat (first | (apply Blk.new'; first | rfl | (simp; done)) | assumption | apply Blk.alloc)) ?_))
  rw [setRow_new _ _ _ _ _ rfl]
  have hW := andAlloc (andAlloc (Below.refl w.heap.size w) (.cells (nc bx) 101)) (.cells (nc n) 101)
  have h7 : NodeAt ((w.alloc (.cells (nc bx) 101)).alloc (.cells (nc n) 101)) w.heap.size 0 bx := (Blk.new w 101 (nc bx)).node.alloc _
  have h10 : NodeAt ((w.alloc (.cells (nc bx) 101)).alloc (.cells (nc n) 101)) (w.heap.size + 1) 0 n := (Blk.new' (by simp)).node
  have hsz : (w.alloc (.cells (nc bx) 101)).heap.size = w.heap.size + 1 := by simp
  rw [hsz]
  generalize (w.alloc (.cells (nc bx) 101)).alloc (.cells (nc n) 101) = W at hW h7 h10 ⊢
  generalize w.heap.size + 1 = g10 at h10 ⊢
  generalize hg7 : w.heap.size = g7 at h7 ⊢
  have HW := Lib.hid hW
  have HG := Lib.hid hg7
  clear hW hsz hg7
  have k0 : W.cell? ⟨g10, 0, none⟩ = some (.int .i64 3) := by have := h10 0 _ rfl; rw [HK.out] at this; exact this
  have k4 : W.cell? ⟨g10, 4, none⟩ = some (.int .i64 n.ht) := by have := h10 4 _ rfl; rw [Nat.zero_add] at this; exact this
  have k5 : W.cell? ⟨g10, 5, none⟩ = some (.int .i64 n.dp) := by have := h10 5 _ rfl; rw [Nat.zero_add] at this; exact this
  have k3 : W.cell? ⟨g10, 3, none⟩ = some (.int .i64 n.wd) := by have := h10 3 _ rfl; rw [Nat.zero_add] at this; exact this
  have k17 : W.cell? ⟨g10, 17, none⟩ = some (.int .i64 2) := by have := h10 17 _ rfl; rw [hsub, Nat.zero_add] at this; exact this
  have b4 : W.cell? ⟨g7, 4, none⟩ = some (.int .i64 bx.ht) := by have := h7 4 _ rfl; rw [Nat.zero_add] at this; exact this
  have b5 : W.cell? ⟨g7, 5, none⟩ = some (.int .i64 bx.dp) := by have := h7 5 _ rfl; rw [Nat.zero_add] at this; exact this
  clear hsub h7 h10
  go_upto_region 10 with fail
  go_quiet (fail)
  have hd := below_drewN (Below.refl W.heap.size W) nq
  have e3 : (W.drewN nq).cell? ⟨g10, 3, none⟩ = some (.int .i64 n.wd) := k3
  have e17 : (W.drewN nq).cell? ⟨g10, 17, none⟩ = some (.int .i64 2) := k17
  have e4 : (W.drewN nq).cell? ⟨g7, 4, none⟩ = some (.int .i64 bx.ht) := b4
  have e5 : (W.drewN nq).cell? ⟨g7, 5, none⟩ = some (.int .i64 bx.dp) := b5
  generalize W.drewN nq = W1 at hd e3 e17 e4 e5 ⊢
  have HW1 := Lib.hid (andThen HW.out hd)
  clear hd k0 k3 k4 k5 k17 b4 b5
  go_upto_region 12 with fail
  go_quiet (fail)
  have hd := below_drewN (Below.refl W1.heap.size W1) nq
  have f3 : (W1.drewN nq).cell? ⟨g10, 3, none⟩ = some (.int .i64 n.wd) := e3
  generalize W1.drewN nq = W2 at hd f3 ⊢
  have HW2 := Lib.hid (andThen HW1.out hd)
  clear hd e3 e17 e4 e5
  go_wp2_with fail
  refine (rule_any (HWS.out.below HW2.out) h (wrap64 (v + bx.dp)) (wrap64 (bx.ht + bx.dp)) n.wd HH.out.1 (W64i.of _) (by omega)).mono ?_
  rintro r w1 ⟨rfl, hw⟩
  have HR := Lib.hid (Wal.more (show Wal w0 base B C out q (((ruK (wrap64 (bx.ht + bx.dp)) n.wd).map (shS 0 bx.dp)).map (mvS h v)) 1 False W2 (.returned (.tuple #[])) w1 by rw [← mv_box _ HH.out.1 bx.dp]; exact ⟨rfl, hw⟩) (show 1 ≤ len by omega))
  clear hw
  go_wp2_with fail
  go_returns
  exact HR.out.back HW2.out
set_option maxHeartbeats 4000000 in
set_option maxRecDepth 100000 in
theorem dwn_rule2 (it : List Nd) (bx n : Nd) (hn : it[0]? = some n) (hk : n.kind = 3) (hsub : n.sub = 2) : DwnC it bx ((ruK (wrap64 (n.ht + n.dp)) n.wd).map (shS 0 (n.ht + n.dp))) FF := by
  intro w0 base B C out q A c h v w hcap hh hv hbd hseg hws
  have hpos : 0 < it.length := (List.getElem?_eq_some_iff.1 hn).1
  obtain ⟨b, off, rfl, hb, hnode⟩ := seg_node hseg.seg (k := 0) hn
  rw [Nat.zero_mul, Nat.add_zero] at hnode
  have HSG := Lib.hid hseg
  have HWS := Lib.hid hws
  have HH := Lib.hid (And.intro hh hv)
  have HK := Lib.hid hk
  clear hws hseg hh hv hk
  generalize hll : it.length = len at *
  have HL := Lib.hid hll
  clear hll
  go_enter Tryz.func176, Tryz.ntmps176
  go_upto_region 2 with (first | (refine wpList_load_node rfl _ rfl _ _ rfl _ (by repeat (first | apply NodeAt.row | (apply Blk.new'; first | rfl | (simp; done)) | (apply Blk.node; apply Blk.new'; first | rfl | (simp; done)) | assumption | apply NodeAt.alloc)) ?_) | (refine wpList_alloc_node rfl rfl ?_) | (refine wpList_store_node rfl _ _ rfl _ _ _ rfl rfl _ (by repeat (first | (apply Blk.new'; first | rfl | (simp; done)) | assumption | apply Blk.alloc)) ?_))
  rw [setRow_new _ _ _ _ _ rfl]
  have hW := andAlloc (andAlloc (Below.refl w.heap.size w) (.cells (nc bx) 101)) (.cells (nc n) 101)
  have h7 : NodeAt ((w.alloc (.cells (nc bx) 101)).alloc (.cells (nc n) 101)) w.heap.size 0 bx := (Blk.new w 101 (nc bx)).node.alloc _
  have h10 : NodeAt ((w.alloc (.cells (nc bx) 101)).alloc (.cells (nc n) 101)) (w.heap.size + 1) 0 n := (Blk.new' (by simp)).node
  have hsz : (w.alloc (.cells (nc bx) 101)).heap.size = w.heap.size + 1 := by simp
  rw [hsz]
  generalize (w.alloc (.cells (nc bx) 101)).alloc (.cells (nc n) 101) = W at hW h7 h10 ⊢
  generalize w.heap.size + 1 = g10 at h10 ⊢
  generalize hg7 : w.heap.size = g7 at h7 ⊢
  have HW := Lib.hid hW
  have HG := Lib.hid hg7
  clear hW hsz hg7
  have k0 : W.cell? ⟨g10, 0, none⟩ = some (.int .i64 3) := by have := h10 0 _ rfl; rw [HK.out] at this; exact this
  have k4 : W.cell? ⟨g10, 4, none⟩ = some (.int .i64 n.ht) := by have := h10 4 _ rfl; rw [Nat.zero_add] at this; exact this
  have k5 : W.cell? ⟨g10, 5, none⟩ = some (.int .i64 n.dp) := by have := h10 5 _ rfl; rw [Nat.zero_add] at this; exact this
  have k3 : W.cell? ⟨g10, 3, none⟩ = some (.int .i64 n.wd) := by have := h10 3 _ rfl; rw [Nat.zero_add] at this; exact this
  have k17 : W.cell? ⟨g10, 17, none⟩ = some (.int .i64 2) := by have := h10 17 _ rfl; rw [hsub, Nat.zero_add] at this; exact this
  have b3 : W.cell? ⟨g7, 3, none⟩ = some (.int .i64 bx.wd) := by have := h7 3 _ rfl; rw [Nat.zero_add] at this; exact this
  clear hsub h7 h10
  obtain ⟨W2, hW2⟩ : ∃ W2, W2 = W := ⟨_, rfl⟩
  subst hW2
  have HW2 := Lib.hid HW.out
  go_wp2_with fail
  refine (rule_any (HWS.out.below HW2.out) h (wrap64 (wrap64 (v + n.ht) + n.dp)) (wrap64 (n.ht + n.dp)) n.wd HH.out.1 (W64i.of _) (by omega)).mono ?_
  rintro r w1 ⟨rfl, hw⟩
  have HR := Lib.hid (Wal.more (show Wal w0 base B C out q (((ruK (wrap64 (n.ht + n.dp)) n.wd).map (shS 0 (n.ht + n.dp))).map (mvS h v)) 1 False W2 (.returned (.tuple #[])) w1 by rw [← mv_box _ HH.out.1 (n.ht + n.dp), ← Int.add_assoc, ← wrap_wrap]; exact ⟨rfl, hw⟩) (show 1 ≤ len by omega))
  clear hw
  go_wp2_with fail
  go_returns
  exact HR.out.back HW2.out
set_option maxHeartbeats 4000000 in
set_option maxRecDepth 100000 in
theorem acr_rule3 (it : List Nd) (bx n : Nd) (hn : it[0]? = some n) (hk : n.kind = 3) (hsub : n.sub = 3) : AcrC it bx ((ruK (wrap64 (bx.ht + bx.dp)) n.wd).map (shS 0 bx.dp)) FF := by
  intro w0 base B C out q A c h v w hcap hh hv hbd hseg hws
  have hpos : 0 < it.length := (List.getElem?_eq_some_iff.1 hn).1
  obtain ⟨b, off, rfl, hb, hnode⟩ := seg_node hseg.seg (k := 0) hn
  rw [Nat.zero_mul, Nat.add_zero] at hnode
  have HSG := Lib.hid hseg
  have HWS := Lib.hid hws
  have HH := Lib.hid (And.intro hh hv)
  have HK := Lib.hid hk
  clear hws hseg hh hv hk
  generalize hll : it.length = len at *
  have HL := Lib.hid hll
  clear hll
  go_enter Tryz.func175, Tryz.ntmps175
  go_upto_region 2 with (first | (refine wpList_load_node rfl _ rfl _ _ rfl _ (by repeat (first | apply NodeAt.row | (apply Blk.new'; first | rfl | (simp; done)) | (apply Blk.node; apply Blk.new'; first | rfl | (simp; done)) | assumption | apply NodeAt.alloc)) ?_) | (refine wpList_alloc_node rfl rfl ?_) | (refine wpList_store_node rfl _ _ rfl _ _ _ rfl rfl _ (by repeat (first | (apply Blk.new'; first | rfl | (simp; done)) | assumption | apply Blk.alloc)) ?_))
  rw [setRow_new _ _ _ _ _ rfl]
  have hW := andAlloc (andAlloc (Below.refl w.heap.size w) (.cells (nc bx) 101)) (.cells (nc n) 101)
  have h7 : NodeAt ((w.alloc (.cells (nc bx) 101)).alloc (.cells (nc n) 101)) w.heap.size 0 bx := (Blk.new w 101 (nc bx)).node.alloc _
  have h10 : NodeAt ((w.alloc (.cells (nc bx) 101)).alloc (.cells (nc n) 101)) (w.heap.size + 1) 0 n := (Blk.new' (by simp)).node
  have hsz : (w.alloc (.cells (nc bx) 101)).heap.size = w.heap.size + 1 := by simp
  rw [hsz]
  generalize (w.alloc (.cells (nc bx) 101)).alloc (.cells (nc n) 101) = W at hW h7 h10 ⊢
  generalize w.heap.size + 1 = g10 at h10 ⊢
  generalize hg7 : w.heap.size = g7 at h7 ⊢
  have HW := Lib.hid hW
  have HG := Lib.hid hg7
  clear hW hsz hg7
  have k0 : W.cell? ⟨g10, 0, none⟩ = some (.int .i64 3) := by have := h10 0 _ rfl; rw [HK.out] at this; exact this
  have k4 : W.cell? ⟨g10, 4, none⟩ = some (.int .i64 n.ht) := by have := h10 4 _ rfl; rw [Nat.zero_add] at this; exact this
  have k5 : W.cell? ⟨g10, 5, none⟩ = some (.int .i64 n.dp) := by have := h10 5 _ rfl; rw [Nat.zero_add] at this; exact this
  have k3 : W.cell? ⟨g10, 3, none⟩ = some (.int .i64 n.wd) := by have := h10 3 _ rfl; rw [Nat.zero_add] at this; exact this
  have k17 : W.cell? ⟨g10, 17, none⟩ = some (.int .i64 3) := by have := h10 17 _ rfl; rw [hsub, Nat.zero_add] at this; exact this
  have b4 : W.cell? ⟨g7, 4, none⟩ = some (.int .i64 bx.ht) := by have := h7 4 _ rfl; rw [Nat.zero_add] at this; exact this
  have b5 : W.cell? ⟨g7, 5, none⟩ = some (.int .i64 bx.dp) := by have := h7 5 _ rfl; rw [Nat.zero_add] at this; exact this
  clear hsub h7 h10
  go_upto_region 10 with fail
  go_quiet (fail)
  have hd := below_drewN (Below.refl W.heap.size W) nq
  have e3 : (W.drewN nq).cell? ⟨g10, 3, none⟩ = some (.int .i64 n.wd) := k3
  have e17 : (W.drewN nq).cell? ⟨g10, 17, none⟩ = some (.int .i64 3) := k17
  have e4 : (W.drewN nq).cell? ⟨g7, 4, none⟩ = some (.int .i64 bx.ht) := b4
  have e5 : (W.drewN nq).cell? ⟨g7, 5, none⟩ = some (.int .i64 bx.dp) := b5
  generalize W.drewN nq = W1 at hd e3 e17 e4 e5 ⊢
  have HW1 := Lib.hid (andThen HW.out hd)
  clear hd k0 k3 k4 k5 k17 b4 b5
  go_upto_region 12 with fail
  go_quiet (fail)
  have hd := below_drewN (Below.refl W1.heap.size W1) nq
  have f3 : (W1.drewN nq).cell? ⟨g10, 3, none⟩ = some (.int .i64 n.wd) := e3
  generalize W1.drewN nq = W2 at hd f3 ⊢
  have HW2 := Lib.hid (andThen HW1.out hd)
  clear hd e3 e17 e4 e5
  go_wp2_with fail
  refine (rule_any (HWS.out.below HW2.out) h (wrap64 (v + bx.dp)) (wrap64 (bx.ht + bx.dp)) n.wd HH.out.1 (W64i.of _) (by omega)).mono ?_
  rintro r w1 ⟨rfl, hw⟩
  have HR := Lib.hid (Wal.more (show Wal w0 base B C out q (((ruK (wrap64 (bx.ht + bx.dp)) n.wd).map (shS 0 bx.dp)).map (mvS h v)) 1 False W2 (.returned (.tuple #[])) w1 by rw [← mv_box _ HH.out.1 bx.dp]; exact ⟨rfl, hw⟩) (show 1 ≤ len by omega))
  clear hw
  go_wp2_with fail
  go_returns
  exact HR.out.back HW2.out
set_option maxHeartbeats 4000000 in
set_option maxRecDepth 100000 in
theorem dwn_rule3 (it : List Nd) (bx n : Nd) (hn : it[0]? = some n) (hk : n.kind = 3) (hsub : n.sub = 3) : DwnC it bx ((ruK (wrap64 (n.ht + n.dp)) bx.wd).map (shS 0 (n.ht + n.dp))) FF := by
  intro w0 base B C out q A c h v w hcap hh hv hbd hseg hws
  have hpos : 0 < it.length := (List.getElem?_eq_some_iff.1 hn).1
  obtain ⟨b, off, rfl, hb, hnode⟩ := seg_node hseg.seg (k := 0) hn
  rw [Nat.zero_mul, Nat.add_zero] at hnode
  have HSG := Lib.hid hseg
  have HWS := Lib.hid hws
  have HH := Lib.hid (And.intro hh hv)
  have HK := Lib.hid hk
  clear hws hseg hh hv hk
  generalize hll : it.length = len at *
  have HL := Lib.hid hll
  clear hll
  go_enter Tryz.func176, Tryz.ntmps176
  go_upto_region 2 with (first | (refine wpList_load_node rfl _ rfl _ _ rfl _ (by repeat (first | apply NodeAt.row | (apply Blk.new'; first | rfl | (simp; done)) | (apply Blk.node; apply Blk.new'; first | rfl | (simp; done)) | assumption | apply NodeAt.alloc)) ?_) | (refine wpList_alloc_node rfl rfl ?_) | (refine wpList_store_node rfl _ _ rfl _ _ _ rfl rfl _ (by repeat (first | (apply Blk.new'; first | rfl | (simp; done)) | assumption | apply Blk.alloc)) ?_))
  rw [setRow_new _ _ _ _ _ rfl]
  have hW := andAlloc (andAlloc (Below.refl w.heap.size w) (.cells (nc bx) 101)) (.cells (nc n) 101)
  have h7 : NodeAt ((w.alloc (.cells (nc bx) 101)).alloc (.cells (nc n) 101)) w.heap.size 0 bx := (Blk.new w 101 (nc bx)).node.alloc _
  have h10 : NodeAt ((w.alloc (.cells (nc bx) 101)).alloc (.cells (nc n) 101)) (w.heap.size + 1) 0 n := (Blk.new' (by simp)).node
  have hsz : (w.alloc (.cells (nc bx) 101)).heap.size = w.heap.size + 1 := by simp
  rw [hsz]
  generalize (w.alloc (.cells (nc bx) 101)).alloc (.cells (nc n) 101) = W at hW h7 h10 ⊢
  generalize w.heap.size + 1 = g10 at h10 ⊢
  generalize hg7 : w.heap.size = g7 at h7 ⊢
  have HW := Lib.hid hW
  have HG := Lib.hid hg7
  clear hW hsz hg7
  have k0 : W.cell? ⟨g10, 0, none⟩ = some (.int .i64 3) := by have := h10 0 _ rfl; rw [HK.out] at this; exact this
  have k4 : W.cell? ⟨g10, 4, none⟩ = some (.int .i64 n.ht) := by have := h10 4 _ rfl; rw [Nat.zero_add] at this; exact this
  have k5 : W.cell? ⟨g10, 5, none⟩ = some (.int .i64 n.dp) := by have := h10 5 _ rfl; rw [Nat.zero_add] at this; exact this
  have k3 : W.cell? ⟨g10, 3, none⟩ = some (.int .i64 n.wd) := by have := h10 3 _ rfl; rw [Nat.zero_add] at this; exact this
  have k17 : W.cell? ⟨g10, 17, none⟩ = some (.int .i64 3) := by have := h10 17 _ rfl; rw [hsub, Nat.zero_add] at this; exact this
  have b3 : W.cell? ⟨g7, 3, none⟩ = some (.int .i64 bx.wd) := by have := h7 3 _ rfl; rw [Nat.zero_add] at this; exact this
  clear hsub h7 h10
  obtain ⟨W2, hW2⟩ : ∃ W2, W2 = W := ⟨_, rfl⟩
  subst hW2
  have HW2 := Lib.hid HW.out
  go_wp2_with fail
  refine (rule_any (HWS.out.below HW2.out) h (wrap64 (wrap64 (v + n.ht) + n.dp)) (wrap64 (n.ht + n.dp)) bx.wd HH.out.1 (W64i.of _) (by omega)).mono ?_
  rintro r w1 ⟨rfl, hw⟩
  have HR := Lib.hid (Wal.more (show Wal w0 base B C out q (((ruK (wrap64 (n.ht + n.dp)) bx.wd).map (shS 0 (n.ht + n.dp))).map (mvS h v)) 1 False W2 (.returned (.tuple #[])) w1 by rw [← mv_box _ HH.out.1 (n.ht + n.dp), ← Int.add_assoc, ← wrap_wrap]; exact ⟨rfl, hw⟩) (show 1 ≤ len by omega))
  clear hw
  go_wp2_with fail
  go_returns
  exact HR.out.back HW2.out
set_option maxHeartbeats 4000000 in
set_option maxRecDepth 100000 in
theorem acr_other (it : List Nd) (bx n : Nd) (hn : it[0]? = some n) (hk : ¬ n.kind = 1 ∧ ¬ n.kind = 2 ∧ ¬ n.kind = 4 ∧ ¬ n.kind = 5 ∧ ¬ n.kind = 3 ∧ ¬ n.kind = 14 ∧ ¬ n.kind = 10) : AcrC it bx [] FF := by
  intro w0 base B C out q A c h v w hcap hh hv hbd hseg hws
  have hpos : 0 < it.length := (List.getElem?_eq_some_iff.1 hn).1
  obtain ⟨b, off, rfl, hb, hnode⟩ := seg_node hseg.seg (k := 0) hn
  rw [Nat.zero_mul, Nat.add_zero] at hnode
  have HSG := Lib.hid hseg
  have HWS := Lib.hid hws
  have HH := Lib.hid (And.intro hh hv)
  have HK := Lib.hid hk
  clear hws hseg hh hv hk
  generalize hll : it.length = len at *
  have HL := Lib.hid hll
  clear hll
  go_enter Tryz.func175, Tryz.ntmps175
  go_upto_region 2 with (first | (refine wpList_load_node rfl _ rfl _ _ rfl _ (by repeat (first | apply NodeAt.row | (apply Blk.new'; first | rfl | (simp; done)) | (apply Blk.node; apply Blk.new'; first | rfl | (simp; done)) | assumption | apply NodeAt.alloc)) ?_) | (refine wpList_alloc_node rfl rfl ?_) | (refine wpList_store_node rfl _ _ rfl _ _ _ rfl rfl _ (by repeat (first | (apply Blk.new'; first | rfl | (simp; done)) | assumption | apply Blk.alloc)) ?_))
  rw [setRow_new _ _ _ _ _ rfl]
  have hW := andAlloc (andAlloc (Below.refl w.heap.size w) (.cells (nc bx) 101)) (.cells (nc n) 101)
  have h7 : NodeAt ((w.alloc (.cells (nc bx) 101)).alloc (.cells (nc n) 101)) w.heap.size 0 bx := (Blk.new w 101 (nc bx)).node.alloc _
  have h10 : NodeAt ((w.alloc (.cells (nc bx) 101)).alloc (.cells (nc n) 101)) (w.heap.size + 1) 0 n := (Blk.new' (by simp)).node
  have hsz : (w.alloc (.cells (nc bx) 101)).heap.size = w.heap.size + 1 := by simp
  rw [hsz]
  generalize (w.alloc (.cells (nc bx) 101)).alloc (.cells (nc n) 101) = W at hW h7 h10 ⊢
  generalize w.heap.size + 1 = g10 at h10 ⊢
  generalize hg7 : w.heap.size = g7 at h7 ⊢
  have HW := Lib.hid hW
  have HG := Lib.hid hg7
  clear hW hsz hg7
  have k0 : W.cell? ⟨g10, 0, none⟩ = some (.int .i64 n.kind) := (h10 0 _ rfl)
  have f1 : (n.kind == 1) = false := by simp [HK.out.1]
  have f2 : (n.kind == 2) = false := by simp [HK.out.2.1]
  have f4 : (n.kind == 4) = false := by simp [HK.out.2.2.1]
  have f5 : (n.kind == 5) = false := by simp [HK.out.2.2.2.1]
  have f3 : (n.kind == 3) = false := by simp [HK.out.2.2.2.2.1]
  have f14 : (n.kind == 14) = false := by simp [HK.out.2.2.2.2.2.1]
  have f10 : (n.kind == 10) = false := by simp [HK.out.2.2.2.2.2.2]
  go_wp2_with fail
  go_returns
  exact (Wal.refl (HWS.out.below HW.out) len _).back HW.out
set_option maxHeartbeats 4000000 in
set_option maxRecDepth 100000 in
theorem dwn_other (it : List Nd) (bx n : Nd) (hn : it[0]? = some n) (hk : ¬ n.kind = 4 ∧ ¬ n.kind = 5 ∧ ¬ n.kind = 3 ∧ ¬ n.kind = 14) : DwnC it bx [] FF := by
  intro w0 base B C out q A c h v w hcap hh hv hbd hseg hws
  have hpos : 0 < it.length := (List.getElem?_eq_some_iff.1 hn).1
  obtain ⟨b, off, rfl, hb, hnode⟩ := seg_node hseg.seg (k := 0) hn
  rw [Nat.zero_mul, Nat.add_zero] at hnode
  have HSG := Lib.hid hseg
  have HWS := Lib.hid hws
  have HH := Lib.hid (And.intro hh hv)
  have HK := Lib.hid hk
  clear hws hseg hh hv hk
  generalize hll : it.length = len at *
  have HL := Lib.hid hll
  clear hll
  go_enter Tryz.func176, Tryz.ntmps176
  go_upto_region 2 with (first | (refine wpList_load_node rfl _ rfl _ _ rfl _ (by repeat (first | apply NodeAt.row | (apply Blk.new'; first | rfl | (simp; done)) | (apply Blk.node; apply Blk.new'; first | rfl | (simp; done)) | assumption | apply NodeAt.alloc)) ?_) | (refine wpList_alloc_node rfl rfl ?_) | (refine wpList_store_node rfl _ _ rfl _ _ _ rfl rfl _ (by repeat (first | (apply Blk.new'; first | rfl | (simp; done)) | assumption | apply Blk.alloc)) ?_))
  rw [setRow_new _ _ _ _ _ rfl]
  have hW := andAlloc (andAlloc (Below.refl w.heap.size w) (.cells (nc bx) 101)) (.cells (nc n) 101)
  have h7 : NodeAt ((w.alloc (.cells (nc bx) 101)).alloc (.cells (nc n) 101)) w.heap.size 0 bx := (Blk.new w 101 (nc bx)).node.alloc _
  have h10 : NodeAt ((w.alloc (.cells (nc bx) 101)).alloc (.cells (nc n) 101)) (w.heap.size + 1) 0 n := (Blk.new' (by simp)).node
  have hsz : (w.alloc (.cells (nc bx) 101)).heap.size = w.heap.size + 1 := by simp
  rw [hsz]
  generalize (w.alloc (.cells (nc bx) 101)).alloc (.cells (nc n) 101) = W at hW h7 h10 ⊢
  generalize w.heap.size + 1 = g10 at h10 ⊢
  generalize hg7 : w.heap.size = g7 at h7 ⊢
  have HW := Lib.hid hW
  have HG := Lib.hid hg7
  clear hW hsz hg7
  have k0 : W.cell? ⟨g10, 0, none⟩ = some (.int .i64 n.kind) := (h10 0 _ rfl)
  have f4 : (n.kind == 4) = false := by simp [HK.out.1]
  have f5 : (n.kind == 5) = false := by simp [HK.out.2.1]
  have f3 : (n.kind == 3) = false := by simp [HK.out.2.2.1]
  have f14 : (n.kind == 14) = false := by simp [HK.out.2.2.2]
  go_wp2_with fail
  go_returns
  exact (Wal.refl (HWS.out.below HW.out) len _).back HW.out
end Go.Proofs.YtoboecenlangmaaGreat.Dv
end
section
namespace Go.Proofs.YtoboecenlangmaaGreat.Np
set_option linter.unusedVariables false
set_option linter.unusedSimpArgs false

theorem stp_off {st B s1 : List Int} {d d1 e : Int} {x : Nd} (h : stp (st ++ B, d) x = some (s1, d1)) (hx : st ≠ [] ∨ (¬ x.kind = 6 ∧ ¬ x.kind = 11)) (he : e ≤ d) : ∃ st1 e1, s1 = st1 ++ B ∧ stp (st, e) x = some (st1, e1) ∧ e1 ≤ d1 := by
  by_cases hR : right x = true
  · by_cases k6 : x.kind = 6
    · cases st with
      | nil => rcases hx with hx | hx; exact absurd rfl hx; exact absurd k6 hx.1
      | cons t r =>
        by_cases ht : 0 < t
        · simp [stp, hR, k6, ht] at h
        · simp [stp, hR, k6, ht] at h
          obtain ⟨rfl, rfl⟩ := h
          exact ⟨r, e, rfl, by simp [stp, hR, k6, ht], he⟩
    · by_cases k11 : x.kind = 11
      · cases st with
        | nil => rcases hx with hx | hx; exact absurd rfl hx; exact absurd k11 hx.2
        | cons t r =>
          by_cases ht : t < 1
          · simp [stp, hR, k6, k11, ht] at h
          · simp [stp, hR, k6, k11, ht] at h
            obtain ⟨rfl, rfl⟩ := h
            exact ⟨(t - 1) :: r, e, rfl, by simp [stp, hR, k6, k11, ht], he⟩
      · cases hb : blocked (st ++ B) x
        · have hb' : blocked st x = false := by
            cases st with
            | nil => rfl
            | cons t r => exact hb
          rw [stp_other hR k6 k11 hb] at h
          simp only [Option.some.injEq, Prod.mk.injEq] at h
          obtain ⟨h1, h2⟩ := h
          refine ⟨if opensB x = true then (if x.kind = 10 then 2 else -1) :: st else st, max e (st.length + 1), ?_, ?_, ?_⟩
          · rw [← h1]; split <;> rfl
          · rw [stp_other hR k6 k11 hb']
          · rw [List.length_append] at h2; push_cast at h2; omega
        · rw [stp_blocked hR k6 k11 hb] at h
          cases h
  · simp [stp, hR] at h
/-- An item, run by itself. -/
theorem run_off : ∀ {l : List Nd} {st B s1 : List Int} {d d1 e : Int}, run l (st ++ B, d) = some (s1, d1) → endc l st.length = some l.length → (st ≠ [] ∨ ∃ x, l.head? = some x ∧ ¬ x.kind = 6 ∧ ¬ x.kind = 11) → e ≤ d → ∃ e1, s1 = B ∧ run l (st, e) = some ([], e1) ∧ e1 ≤ d1
  | [], st, B, s1, d, d1, e, h, hm, hx, he => by simp [endc] at hm
  | x :: l, st, B, s1, d, d1, e, h, hm, hx, he => by
    simp only [run] at h
    cases hs : stp (st ++ B, d) x with
    | none => rw [hs] at h; cases h
    | some s2 =>
      obtain ⟨sa, d2⟩ := s2
      rw [hs] at h
      simp only at h
      have hx' : st ≠ [] ∨ (¬ x.kind = 6 ∧ ¬ x.kind = 11) := by
        rcases hx with hx | ⟨y, hy, h1, h2⟩
        · exact .inl hx
        · simp only [List.head?_cons, Option.some.injEq] at hy
          subst hy
          exact .inr ⟨h1, h2⟩
      obtain ⟨st2, e2, rfl, hs2, hle⟩ := stp_off hs hx' he
      have hc := stp_cnt hs2
      simp only [endc] at hm
      rw [← hc] at hm
      by_cases h0 : (st2.length : Int) = 0
      · rw [if_pos h0] at hm
        injection hm with hm
        have hl : l = [] := List.eq_nil_of_length_eq_zero (by simp only [List.length_cons] at hm; omega)
        have hst : st2 = [] := List.eq_nil_of_length_eq_zero (by omega)
        subst hl hst
        simp only [run, Option.some.injEq, Prod.mk.injEq] at h
        obtain ⟨rfl, rfl⟩ := h
        exact ⟨e2, rfl, by simp only [run, hs2], hle⟩
      · rw [if_neg h0] at hm
        rw [Option.map_eq_some_iff] at hm
        obtain ⟨k, hk, hkl⟩ := hm
        have hkl' : k = l.length := by simp only [List.length_cons] at hkl; omega
        subst hkl'
        obtain ⟨e1, h1, h2, h3⟩ := run_off h hk (.inl (fun e => h0 (by rw [e]; rfl))) hle
        exact ⟨e1, h1, by simp only [run, hs2]; exact h2, h3⟩
theorem chk_of_run {l : List Nd} {d : Int} (hl : l.length ≤ 2000) (h : run l ([], 0) = some ([], d)) (hd : d ≤ 40) : chk l = 0 := by
  unfold chk
  rw [if_neg (by omega), h]
  simp only [if_true]
  rw [if_neg (by omega)]
theorem thr_chk : ∀ {ss : List Nat} {l : List Nd} {t : Int} {st0 : List Int} {d : Int} {s' : St} {k r : Nat} (j : Nat), D3 ss l k r → run l (t :: st0, d) = some s' → s'.1.length ≤ st0.length → s'.2 ≤ 40 → 0 ≤ d → t = 2 - (k : Int) → r ≤ 2000 → chk (thr ss l k j) = 0
  | [], l, t, st0, d, s', k, r, j, h, hr, hs, h40, h0, ht, h2 => rfl
  | m :: ss, l, t, st0, d, s', k, r, j, h, hr, hs, h40, h0, ht, h2 => by
    obtain ⟨x, l', r', rfl, h6, h | h⟩ := h
    · obtain ⟨rfl, h11, hk, rfl, h3⟩ := h
      simp only [run] at hr
      cases h1 : stp (t :: st0, d) x with
      | none => rw [h1] at hr; cases hr
      | some s1 =>
        rw [h1] at hr
        simp only at hr
        unfold stp at h1
        split at h1
        · try rw [if_neg h6, if_pos h11] at h1
          simp only at h1
          split at h1
          · cases h1
          · simp only [Option.some.injEq] at h1
            subst h1
            show chk (thr ss l' (k + 1) j) = 0
            exact thr_chk (t := t - 1) j h3 hr hs h40 h0 (by push_cast; omega) (by omega)
        · cases h1
    · obtain ⟨hm0, h11, hsm, hk, rfl, hm, h3⟩ := h
      obtain ⟨m', d1, h4, h5, h7⟩ := run_inner (st := []) (st0 := t :: st0) (l := x :: l') hr (by simp; omega) (.inr ⟨x, rfl, h6, h11⟩)
      have h4' : endc (x :: l') 0 = some m' := h4
      rw [hm] at h4'
      injection h4' with h4'
      subst h4'
      have hf := (run_free h5).1
      have htl := thr_chk (t := t) j h3 h7 hs h40 (by omega) ht (by omega)
      have hln := thr_len (j := j) h3
      have hb := endc_bd hm
      obtain ⟨m1, rfl⟩ : ∃ m1, m = m1 + 1 := ⟨m - 1, by omega⟩
      simp only [thr]
      by_cases hjk : j = k
      · rw [if_pos hjk]
        have hf2 := (run_free h7).1
        obtain ⟨e1, _, h8, h9⟩ := run_off (st := []) (B := t :: st0) (e := 0) h5 (by have := endc_just hm; rw [List.length_take, Nat.min_eq_left hb.2]; exact this) (.inr ⟨x, by simp, h6, h11⟩) h0
        refine chk_join (chk_of_run ?_ h8 (by omega)) htl ?_
        · rw [List.length_take]; omega
        · rw [List.length_take]; omega
      · rw [if_neg hjk, List.nil_append]
        exact htl
/-- A Disc's lists are lists. -/
theorem disc_chk {it : List Nd} {n : Nd} {ss : List Nat} {m : Nat} (j : Nat) (hc : chk it = 0) (hn : it[0]? = some n) (h10 : n.kind = 10) (hd : D3 ss (it.drop 1) 0 m) (hm : m ≤ 2000) : chk (thr ss (it.drop 1) 0 j) = 0 := by
  obtain ⟨hl, d, hr, h40⟩ := chk_run hc
  cases it with
  | nil => simp at hn
  | cons x r =>
    simp only [List.getElem?_cons_zero, Option.some.injEq] at hn
    subst hn
    simp only [run] at hr
    cases h1 : stp ([], 0) x with
    | none => rw [h1] at hr; cases hr
    | some s1 =>
      rw [h1] at hr
      simp only at hr
      have ho : opensB x = true := by simp [opensB, h10]
      unfold stp at h1
      split at h1
      · rw [if_neg (by omega), if_neg (by omega)] at h1
        split at h1
        · cases h1
        · simp only [Option.some.injEq] at h1
          try rw [if_pos ho, if_pos h10] at h1
          subst h1
          exact thr_chk (t := 2) (st0 := []) j hd hr (by simp) h40 (by simp; omega) (by simp) hm
      · cases h1
end Go.Proofs.YtoboecenlangmaaGreat.Np
namespace Go.Proofs.YtoboecenlangmaaGreat.Pk
open Np
theorem plF_len (ns : List Nd) (f : Nat → Int) : ∀ (ys : List Nat) (s : Plc), (∀ y ∈ ys, ∃ n, ns[y]? = some n) → (plF ns f ys s).out.length = s.out.length + ys.length
  | [], s, h => by simp [plF]
  | a :: ys, s, h => by
    rw [plF_cons, plF_len ns f ys _ (fun y hy => h y (by simp [hy]))]
    obtain ⟨n, hn⟩ := h a (by simp)
    have h2 : (plstep ns f s a).out.length = s.out.length + 1 := by
      unfold plstep
      rw [hn]
      simp only
      split <;> simp
    simp only [List.length_cons]
    omega
end Go.Proofs.YtoboecenlangmaaGreat.Pk
end
section
namespace Go.Proofs.YtoboecenlangmaaGreat.Dv
open Go.ChangeShapes Go.WideShapes Go.ChangeAt Go.RowKit
open Me Np No Pk
set_option linter.unusedVariables false
set_option linter.unusedSimpArgs false

/-- How far the items go, and what they add. -/
def dsum (T : Nat → Int) : Nat → Int
  | 0 => 0
  | i + 1 => dsum T i + T i
def catD (T : Nat → Int) (Ks : Nat → List Stn) : Nat → List Stn
  | 0 => []
  | i + 1 => catD T Ks i ++ (Ks i).map (shS (dsum T i) 0)
theorem catD_step {T : Nat → Int} {Ks : Nat → List Stn} {i : Nat} {h v : Int} (hv : W64i v) : (catD T Ks i).map (mvS h v) ++ (Ks i).map (mvS (wrap64 (h + dsum T i)) v) = (catD T Ks (i + 1)).map (mvS h v) := by
  have e2 : mvS (wrap64 (h + dsum T i)) v = mvS (wrap64 (h + dsum T i)) (wrap64 (v + 0)) := by rw [Int.add_zero, show wrap64 v = v from hv]
  show _ = (catD T Ks i ++ (Ks i).map (shS (dsum T i) 0)).map (mvS h v)
  rw [List.map_append, e2, mv_sh_map]
theorem ncs_one (n : Nd) : [n].flatMap ncs = (nc n).toList := by
  simp
  rfl
/-- What the loop over a Disc's items holds. -/
structure LpD (inn : List Nd) (xs : List Nat) (T : Nat → Int) (Ks : Nat → List Stn) (w0 : World) (base B C : Nat) (out : List Stn) (q : Option Nat) (h v : Int) (W : World) (i : Nat) (wr : World) : Prop where
  rest : ∃ outi qi a, WS w0 base B C outi 0 qi wr ∧ Nq q qi W ∧ KpW B C q W wr ∧ outi = out ++ (catD T Ks i).map (mvS h v) ∧ Stand inn a (xs.drop i) ∧ outi.length ≤ out.length + a
attribute [local go_sem ↓] ldN_eq
set_option maxHeartbeats 8000000 in
set_option maxRecDepth 100000 in
theorem acr_disc (it inn : List Nd) (bx n : Nd) (xs : List Nat) (T : Nat → Int) (Ks : Nat → List Stn) (L3 : Nat → List Nd) (hn : it[0]? = some n) (hk : n.kind = 10) (hlen : it.length ≤ 2000) (hinn : L3 2 = inn) (hil : inn.length ≤ it.length) (hci : chk inn = 0) (hxs : Its xs inn 0)
    (hP : ∀ (A : Option Addr) (c : Nat) (w : World), it.length ≤ c → Seg w w.heap.size A (it.flatMap ncs) → Calls Tryz.prog 170 #[.slice A it.length c, .int .i64 0] w fun e w' => ∃ vs, e = .returned (.tuple #[vs 0, vs 1, vs 2, .int .i64 0]) ∧ Own3 w' w.heap.size vs L3 ∧ Below w.heap.size w w')
    (hI : ∀ i y m, xs[i]? = some y → endc (inn.drop y) 0 = some m → AcrC ((inn.drop y).take m) bx (Ks i) FF ∧ ∀ (A : Option Addr) (k : Nat) (w : World), m ≤ k → Seg w w.heap.size A (((inn.drop y).take m).flatMap ncs) → Calls Tryz.prog 44 #[.slice A m k, .bool false] w fun e w' => ∃ a b c d p q r s e1, e = .returned (.tuple #[.agg #[.int .i64 (T i), .int .i64 a, .int .i64 b, .int .i64 c, .int .i64 d, .int .i64 p, .int .i64 q, .int .i64 r, .int .i64 s], .int .i64 e1]) ∧ Below w.heap.size w w') :
    AcrC it bx (catD T Ks xs.length) FF := by
  intro w0 base B C out q A c h v w hcap hh hv hbd hseg hws
  have hpos : 0 < it.length := (List.getElem?_eq_some_iff.1 hn).1
  obtain ⟨b, off, rfl, hb, hnode⟩ := seg_node hseg.seg (k := 0) hn
  rw [Nat.zero_mul, Nat.add_zero] at hnode
  have HSG := Lib.hid hseg
  have HWS := Lib.hid hws
  have HH := Lib.hid (And.intro hh hv)
  have HK := Lib.hid hk
  have HP := Lib.hid (fun w1 (hs : SegW w1 B C q (some ⟨b, off, none⟩) (it.flatMap ncs)) => hP (some ⟨b, off, none⟩) c w1 hcap hs.seg)
  have HI := Lib.hid hI
  have HC := Lib.hid (And.intro hci hxs)
  have HIN := Lib.hid hinn
  have HIL := Lib.hid hil
  clear hws hseg hh hv hk hP hI hci hxs hinn hil
  generalize hll : it.length = len at *
  have HL := Lib.hid hll
  clear hll
  go_enter Tryz.func175, Tryz.ntmps175
  go_upto_region 2 with (first | (refine wpList_load_node rfl _ rfl _ _ rfl _ (by repeat (first | apply NodeAt.row | (apply Blk.new'; first | rfl | (simp; done)) | (apply Blk.node; apply Blk.new'; first | rfl | (simp; done)) | assumption | apply NodeAt.alloc)) ?_) | (refine wpList_alloc_node rfl rfl ?_) | (refine wpList_store_node rfl _ _ rfl _ _ _ rfl rfl _ (by repeat (first | (apply Blk.new'; first | rfl | (simp; done)) | assumption | apply Blk.alloc)) ?_))
  rw [setRow_new _ _ _ _ _ rfl]
  have hW := andAlloc (andAlloc (Below.refl w.heap.size w) (.cells (nc bx) 101)) (.cells (nc n) 101)
  have h7 : NodeAt ((w.alloc (.cells (nc bx) 101)).alloc (.cells (nc n) 101)) w.heap.size 0 bx := (Blk.new w 101 (nc bx)).node.alloc _
  have h10 : NodeAt ((w.alloc (.cells (nc bx) 101)).alloc (.cells (nc n) 101)) (w.heap.size + 1) 0 n := (Blk.new' (by simp)).node
  have hsz : (w.alloc (.cells (nc bx) 101)).heap.size = w.heap.size + 1 := by simp
  rw [hsz]
  have hfn := fresh_ne HWS.out
  generalize (w.alloc (.cells (nc bx) 101)).alloc (.cells (nc n) 101) = W at hW h7 h10 ⊢
  generalize w.heap.size + 1 = g10 at h10 ⊢
  generalize hg7 : w.heap.size = g7 at h7 hfn ⊢
  have HW := Lib.hid hW
  have HBX := Lib.hid (show SegW W B C q (some ⟨g7, 0, none⟩) ([bx].flatMap ncs) from .inr ⟨g7, 0, rfl, h7.lt, hfn.1, hfn.2.1, hfn.2.2, fun j u hu => h7 j u (ncs_one bx ▸ hu)⟩)
  clear hW hsz hfn h7
  have k0 : W.cell? ⟨g10, 0, none⟩ = some (.int .i64 10) := by have := h10 0 _ rfl; rw [HK.out] at this; exact this
  clear h10
  have HWS1 := Lib.hid (HWS.out.below HW.out)
  have HSG1 := Lib.hid (HSG.out.below HW.out)
  have HG7 := Lib.hid hg7
  clear hg7 HWS HSG
  go_wp2_with fail
  refine (HP.out W HSG1.out).mono ?_
  rintro r w1 ⟨vs, rfl, ho3, hb1⟩
  have ho2 := ho3.own 2 (by decide)
  rw [HIN.out] at ho2
  obtain ⟨Aw, cw, e2, hcw⟩ := own_val ho2
  rw [e2] at ho2 ⊢
  generalize vs 0 = v13
  generalize vs 1 = v14
  have HWF := Lib.hid (SegW.fresh HWS1.out ho2)
  have HS1 := Lib.hid (And.intro (HWS1.out.below hb1) (KpW.of_below (B := B) (C := C) (q := q) (andThen HW.out hb1)))
  have HBX1 := Lib.hid (HBX.out.below hb1)
  clear ho3 e2 ho2 hb1 HWS1 HSG1 HP HBX k0
  go_wp2_with fail
  have hit := items_any Aw inn cw xs w1 HC.out.1 HC.out.2 hcw HWF.out.seg
  refine hit.mono ?_
  clear hit
  rintro r w4 ⟨vb, rfl, hob, hb4⟩
  obtain ⟨nb, hnb⟩ : ∃ nb, nb = xs.length + 1 := ⟨_, rfl⟩
  rw [← hnb] at hob
  obtain ⟨Ab, cb, rfl, hcb⟩ := own_val hob
  have hnb9 : nb ≤ 3000 := by have := HC.out.2.len; have := HIL.out; omega
  have HNB := Lib.hid hnb
  clear hnb
  have HBF4 := Lib.hid (SegW.fresh HS1.out.1 hob)
  have HWF4 := Lib.hid (HWF.out.below hb4)
  have HBX4 := Lib.hid (HBX1.out.below hb4)
  have HS4 := Lib.hid (And.intro (HS1.out.1.below hb4) (HS1.out.2.trans (.inl rfl) (KpW.of_below hb4)))
  clear hob hb4 HS1 HWF HBX1
  obtain ⟨xl, hxl⟩ : ∃ xl, xl = xs.length := ⟨_, rfl⟩
  have hxb : (nb : Int) - 1 = xl := by have := HNB.out; omega
  have HXL := Lib.hid hxl
  clear hxl
  generalize hil2 : inn.length = il at *
  have HI2 := Lib.hid hil2
  clear hil2
  go_wp2_with fail
  obtain ⟨W4, hW4⟩ : ∃ W4, W4 = w4 := ⟨_, rfl⟩
  subst hW4
  go_loopg [3, 98] xl (fun g v3 v98 wr => ∃ i, i + g = xl ∧ v3 = .int .i64 (wrap64 (h + dsum T i)) ∧ v98 = .int .i64 (i : Int) ∧ LpD inn xs T Ks w0 base B C out q h v W4 i wr)
  case atStart => exact ⟨0, by omega, by rw [show dsum T 0 = 0 from rfl, Int.add_zero, show wrap64 h = h from HH.out.1], rfl, ⟨out, q, 0, HS4.out.1, Nq.refl _ _, KpW.refl _ _ _ _, by simp [catD], stand0 HC.out.1 HC.out.2, by omega⟩⟩
  case round =>
    obtain ⟨i, hig, rfl, rfl, hL⟩ := hrel
    obtain ⟨outi, qi, a, hws, hnq, hkp, hout, hst, hol⟩ := hL.rest
    by_cases hlt : i < xl
    · have hi2 : i < xs.length := by rw [← HXL.out]; exact hlt
      have hal : a < inn.length := by
        have h1 := hst.le
        rcases Nat.lt_or_ge a inn.length with h | h
        · exact h
        · obtain rfl : a = inn.length := by omega
          have := congrArg List.length hst.done
          rw [List.length_drop] at this
          simp at this
          omega
      obtain ⟨m, zs, y, hys, hm, hm1, ham, hst', _, hy, h6, h11⟩ := hst.step (by rw [HI2.out]; have := HIL.out; omega) hal
      have hzs : zs = xs.drop (i + 1) := by
        have e : xs.drop i = xs[i] :: xs.drop (i + 1) := List.drop_eq_getElem_cons hi2
        rw [e] at hys
        injection hys with _ h
        exact h.symm
      rw [hzs] at hst'
      have hb1 := stand_at hst (by omega)
      have hb2 := stand_at hst' (by omega)
      have hxi : xs[i]? = some a := by rwa [List.getElem?_append_left hi2] at hb1
      rw [HI2.out] at hb1 hb2 ham hal
      obtain ⟨bb, ob, rfl, hcb1⟩ := (HBF4.out.keep hkp hnq).get (k := i) (u := .int .i64 (a : Int)) (by rw [List.getElem?_map, hb1]; rfl)
      obtain ⟨z, hz⟩ : ∃ z, z = a + m := ⟨_, rfl⟩
      rw [← hz] at hb2 ham hst'
      obtain ⟨bb', ob', hab, hcb2⟩ := (HBF4.out.keep hkp hnq).get (k := i + 1) (u := .int .i64 (z : Int)) (by rw [List.getElem?_map, hb2]; rfl)
      injection hab with hab
      injection hab with hab1 hab2
      subst hab1 hab2
      obtain ⟨bw, ow, rfl, _, _⟩ := seg_node (HWF4.out.keep hkp hnq).seg (k := a) hy
      obtain ⟨b', off', hab, _, hnbx⟩ := seg_node (HBX4.out.keep hkp hnq).seg (k := 0) (n := bx) rfl
      injection hab with hab
      injection hab with hab1 hab2
      subst hab1 hab2
      have hcc : wr.cell? ⟨bb, ob + (i + 1), none⟩ = some (.int .i64 (z : Int)) := hcb2
      have hit : SegW wr B C qi (some ⟨bw, ow + a * 19, none⟩) (((inn.drop a).take m).flatMap ncs) := (HWF4.out.keep hkp hnq).part a m
      have hil : ((inn.drop a).take m).length = z - a := by rw [List.length_take, List.length_drop, HI2.out]; omega
      have HX := Lib.hid (And.intro hxi hm)
      have HWR := Lib.hid (And.intro hws (And.intro hnq hkp))
      have HOU := Lib.hid (And.intro hout hol)
      have HIT := Lib.hid (And.intro hit hil)
      have HST := Lib.hid hst'
      have HND := Lib.hid hnbx
      have hz1 : (a : Int) ≤ z := by omega
      have hz2 : (z : Int) ≤ il := by omega
      have hac : (a : Int) < cw := by omega
      have hac2 : a < cw := by omega
      have hzc : (z : Int) ≤ cw := by omega
      have hmz : m = z - a := by omega
      have HMZ := Lib.hid hmz
      clear hmz
      have hi4 : (i : Int) + 1 < nb := by have := HNB.out; omega
      have hi5 : (i : Int) < nb := by omega
      have hi3 : (i : Int) < xl := by omega
      have HZ := Lib.hid (And.intro hz (And.intro hm1 ham))
      clear hxi hm hws hnq hkp hout hol hit hil hst' hnbx hz hm1 ham hL hst hys hy h6 h11 hzs hb1 hb2 hcb2 hal
      go_upto_region 22 with fail
      go_quiet (fail)
      have hb5 := below_drewN (Below.refl wr.heap.size wr) nq
      generalize wr.drewN nq = w5 at hb5 ⊢
      have HB5 := Lib.hid hb5
      have hld5 := run_ldN (HND.out.below hb5 HND.out.lt)
      clear hb5 hcb1 hcc
      go_wp2_with fail
      have hcall := (HI.out i a m HX.out.1 HX.out.2).1 w0 base B C outi qi (some ⟨bw, ow + a * 19, none⟩) (cw - a) (wrap64 (h + dsum T i)) v w5 (by rw [HIT.out.2]; omega) (W64i.of _) HH.out.2 (by rw [HIT.out.2]; have := HOU.out.2; have := HIL.out; omega) (HIT.out.1.below HB5.out) (HWR.out.1.below HB5.out)
      rw [HIT.out.2] at hcall
      refine hcall.mono ?_
      clear hcall
      rintro r w6 ⟨rfl, out6, e6, q6, hws6, hnq6, hkp6, ho6, hl6, _⟩
      have c6 : w6.cell? ⟨B, 1, none⟩ = some (.int .i64 e6) := Blk.cell hws6.wk 1
      have HS6 := Lib.hid (And.intro hws6 (And.intro hnq6 (And.intro hkp6 (And.intro ho6 hl6))))
      have HSG6 := Lib.hid ((HIT.out.1.below HB5.out).keep hkp6 hnq6)
      clear hws6 hnq6 hkp6 ho6 hl6 hld5
      have nq1 := HWR.out.2.1.trans HS6.out.2.1 (Nat.le_trans HWR.out.2.2.size HB5.out.size)
      have kp1 := (HWR.out.2.2.trans HWR.out.2.1 (KpW.of_below HB5.out)).trans HWR.out.2.1 HS6.out.2.2.1
      have HQ := Lib.hid (And.intro nq1 kp1)
      clear nq1 kp1
      have HLN := Lib.hid (show out6.length ≤ out.length + z by have h1 := HS6.out.2.2.2.2; have h2 := HOU.out.2; have h3 := HIT.out.2; omega)
      by_cases he6 : e6 = 0
      · subst he6
        have HO6 := Lib.hid (show out6 = out ++ (catD T Ks (i + 1)).map (mvS h v) by rw [HS6.out.2.2.2.1 rfl, HOU.out.1, List.append_assoc, catD_step HH.out.2])
        go_wp2_with fail
        have htt := (HI.out i a m HX.out.1 HX.out.2).2 (some ⟨bw, ow + a * 19, none⟩) (cw - a) w6 (by have := HMZ.out; omega) HSG6.out.seg
        rw [HMZ.out] at htt
        refine htt.mono ?_
        clear htt
        rintro r w7 ⟨ta, tb, tc, td, tp, tq, tr, ts, te, rfl, hb7⟩
        have HB7 := Lib.hid (andAlloc hb7 (.cells #[.int .i64 (T i), .int .i64 ta, .int .i64 tb, .int .i64 tc, .int .i64 td, .int .i64 tp, .int .i64 tq, .int .i64 tr, .int .i64 ts] 109))
        clear hb7 c6
        go_wp2_with fail
        go_roundg (xl - (i + 1))
        case measure => omega
        case rel => exact ⟨i + 1, by omega, by rw [wrap_wrap, Int.add_assoc]; rfl, by go_num, ⟨out6, q6, z, HS6.out.1.below HB7.out, HQ.out.1, HQ.out.2.trans HQ.out.1 (KpW.of_below HB7.out), HO6.out, HST.out, HLN.out⟩⟩
      · have t6 : (e6 != 0) = true := by simp [he6]
        have HE6 := Lib.hid he6
        clear he6
        go_wp2_with fail
        go_returns
        exact ⟨rfl, out6, e6, q6, HS6.out.1, HQ.out.1.far HS4.out.2.size, HS4.out.2.trans (.inl rfl) HQ.out.2, fun h => absurd h HE6.out, by have := HLN.out; have := HZ.out; have := HIL.out; omega, False.elim⟩
    · obtain rfl : i = xl := by omega
      have hol2 : outi.length ≤ out.length + len := by
        have := hst.le
        rw [HI2.out] at this
        have := HIL.out
        omega
      have HR := Lib.hid (And.intro hws (And.intro hnq (And.intro hkp (And.intro hout hol2))))
      clear hws hnq hkp hout hst hol hol2 hL
      go_wp2_with fail
      go_returns
      exact ⟨rfl, outi, 0, qi, HR.out.1, HR.out.2.1.far HS4.out.2.size, HS4.out.2.trans (.inl rfl) HR.out.2.2.1, fun _ => by rw [← HXL.out]; exact HR.out.2.2.2.1, HR.out.2.2.2.2, fun _ => rfl⟩
end Go.Proofs.YtoboecenlangmaaGreat.Dv
end
section
namespace Go.Proofs.YtoboecenlangmaaGreat.Si
open Go.ChangeShapes Go.WideShapes Go.ChangeAt Go.RowKit
open Me
set_option linter.unusedVariables false
set_option linter.unusedSimpArgs false

theorem ret_b {a b : Bool} (h : a = b) : Ending.returned (.bool a) = .returned (.bool b) := by rw [h]
theorem get_some {α : Type} {l : List α} {k : Nat} (h : k < l.length) : ∃ x, l[k]? = some x := ⟨l[k], List.getElem?_eq_getElem h⟩
theorem seg_get {w : World} {B : Nat} {A : Option Addr} {xs : List Value} (h : Seg w B A xs) {k : Nat} {u : Value} (hk : xs[k]? = some u) : ∃ b off : Nat, A = some ⟨b, off, none⟩ ∧ b < B ∧ w.cell? ⟨b, off + k, none⟩ = some u := by
  obtain ⟨b, off, hA, hb, hc⟩ := h.open_ (by intro e; rw [e] at hk; simp at hk)
  exact ⟨b, off, hA, hb, hc k u hk⟩
set_option maxRecDepth 100000 in
theorem same_ints (A1 A2 : Option Addr) (l1 l2 : List Int) (c1 c2 : Nat) (w : World) (h1 : l1.length ≤ 2097152) (h2 : l2.length ≤ 2097152) (hs1 : Seg w w.heap.size A1 (l1.map (Value.int .i64))) (hs2 : Seg w w.heap.size A2 (l2.map (Value.int .i64))) :
    Calls Tryz.prog 11 #[.slice A1 l1.length c1, .slice A2 l2.length c2] w fun e w' => e = .returned (.bool (decide (l1 = l2))) ∧ Below w.heap.size w w' := by
  by_cases hl : (l1.length : Int) = l2.length
  · have hl' : l1.length = l2.length := by omega
    have HS := Lib.hid (And.intro hs1 hs2)
    have HL := Lib.hid hl'
    rw [← hl']
    clear hs1 hs2 hl hl'
    go_enter Tryz.func11, Tryz.ntmps11
    go_wp2_with fail
    go_loopw [5] (fun v5 wr => ∃ k nq : Nat, k ≤ l1.length ∧ v5 = .int .i64 (k : Int) ∧ l1.take k = l2.take k ∧ wr = w.drewN nq) (fun v5 _ => l1.length - (intOf v5).toNat)
    case atStart => exact ⟨0, 0, by omega, rfl, by simp, rfl⟩
    case round =>
      obtain ⟨k, nq, hk, rfl, heq, hwr⟩ := hrel
      have HWR := Lib.hid hwr
      have HEQ := Lib.hid heq
      by_cases hlt : k < l1.length
      · obtain ⟨x, hx⟩ := get_some hlt
        obtain ⟨y, hy⟩ := get_some (l := l2) (k := k) (by rw [← HL.out]; exact hlt)
        obtain ⟨b1, o1, rfl, hb1, hc1⟩ := seg_get HS.out.1 (k := k) (u := Value.int .i64 x) (by rw [List.getElem?_map, hx]; rfl)
        obtain ⟨b2, o2, rfl, hb2, hc2⟩ := seg_get HS.out.2 (k := k) (u := Value.int .i64 y) (by rw [List.getElem?_map, hy]; rfl)
        have hc1' : wr.cell? ⟨b1, o1 + k, none⟩ = some (.int .i64 x) := by rw [hwr]; exact hc1
        have hc2' : wr.cell? ⟨b2, o2 + k, none⟩ = some (.int .i64 y) := by rw [hwr]; exact hc2
        have HXY := Lib.hid (And.intro hx hy)
        have hlti : (k : Int) < (l1.length : Int) := by omega
        clear hc1 hc2 hwr heq hx hy
        by_cases hxy : x = y
        · subst hxy
          go_wp2_with fail
          go_quiet (fail)
          go_wp2_with fail
          go_roundw
          case rel =>
            refine ⟨k + 1, _, by omega, by go_num, ?_, by rw [HWR.out, World.drewN_drewN]⟩
            rw [List.take_add_one, List.take_add_one, HEQ.out, HXY.out.1, HXY.out.2]
          case measure => simp [intOf]; omega
        · have HN := Lib.hid hxy
          go_wp2_with fail
          go_quiet (fail)
          go_wp2_with fail
          go_ret
          refine ⟨?_, by rw [HWR.out, World.drewN_drewN]; exact below_drewN (Below.refl _ _) _⟩
          refine ret_b (decide_eq_false fun e => HN.out ?_).symm
          have := HXY.out.1
          rw [e, HXY.out.2] at this
          injection this with this
          exact this.symm
      · obtain rfl : k = l1.length := by omega
        go_wp2_with fail
        go_ret
        refine ⟨?_, below_drewN (Below.refl _ _) _⟩
        refine ret_b (decide_eq_true ?_).symm
        have := HEQ.out
        rw [List.take_length, HL.out, List.take_length] at this
        exact this
  · have HL := Lib.hid hl
    clear hs1 hs2
    go_enter Tryz.func11, Tryz.ntmps11
    go_wp2_with fail
    go_ret
    refine ⟨ret_b (decide_eq_false fun e => HL.out (by rw [e])).symm, Below.refl _ _⟩
end Go.Proofs.YtoboecenlangmaaGreat.Si
end
section
namespace Go.Proofs.YtoboecenlangmaaGreat.Pk
open Go.ChangeShapes Go.WideShapes Go.ChangeAt Go.RowKit
open Me Np No
set_option linter.unusedVariables false
set_option linter.unusedSimpArgs false

/-- What the first loop of Places holds: the glue so far. -/
structure InvK (l : List Nd) (W : World) (R : List Gl.G) (a : Nat) (v : Value) (wr : World) : Prop where
  rest : ∃ ys s, Stand l a ys ∧ skF l ys s = R ∧ s.length ≤ a ∧ wr.ownsRow W.heap.size 96 5 v s.length (s.flatMap Gl.G.vals)
  low : Below W.heap.size W wr
/-- What the second one holds. -/
structure InvL (l : List Nd) (f : Nat → Int) (W : World) (gx : Nat) (R : Plc) (a : Nat) (v u : Value) (wr : World) : Prop where
  rest : ∃ ys s A c, v = .slice A s.sz.length c ∧ s.sz.length ≤ c ∧ Seg W W.heap.size A (s.sz.map (Value.int .i64)) ∧ Stand l a ys ∧ plF l f ys s = R ∧ PlIn l f s ys s.out.length ∧ s.out.length ≤ a ∧ MP W gx s.x u s.out wr
theorem cells5 {W wr : World} {b o : Nat} {y : Nd} (h : NodeAt W b o y) (hl : Below W.heap.size W wr) (hb : b < W.heap.size) : wr.cell? ⟨b, o, none⟩ = some (.int .i64 y.kind) ∧ wr.cell? ⟨b, o + 7, none⟩ = some (.int .i64 y.gn) ∧ wr.cell? ⟨b, o + 8, none⟩ = some (.int .i64 y.gs) ∧ wr.cell? ⟨b, o + 9, none⟩ = some (.int .i64 y.gh) ∧ wr.cell? ⟨b, o + 10, none⟩ = some (.int .i64 y.ga) ∧ wr.cell? ⟨b, o + 11, none⟩ = some (.int .i64 y.gb) :=
  ⟨(h.below hl hb) 0 _ rfl, (h.below hl hb) 7 _ rfl, (h.below hl hb) 8 _ rfl, (h.below hl hb) 9 _ rfl, (h.below hl hb) 10 _ rfl, (h.below hl hb) 11 _ rfl⟩
set_option maxHeartbeats 4000000 in
set_option maxRecDepth 100000 in
theorem places_ok (A : Option Addr) (ns l : List Nd) (c k : Nat) (x : Nd) (xs : List Nat) (f : Nat → Int) (w : World) (hcap : ns.length ≤ c) (hl0 : ns.length ≤ 2000) (hseg : Seg w w.heap.size A (ns.flatMap ncs)) (hx : ns[k]? = some x) (h45 : x.kind = 4 ∨ x.kind = 5)
    (hI : Calls Tryz.prog 101 #[.slice A ns.length c, .int .i64 (k : Int)] w fun e' w' => ∃ v, e' = .returned (.tuple #[v, .int .i64 0]) ∧ w'.ownsRow w.heap.size 101 19 v l.length (l.flatMap ncs) ∧ Below w.heap.size w w')
    (hc : chk l = 0) (hxs : Its xs l 0) (hf : ∀ k, -281474976710656 ≤ f k ∧ f k ≤ 281474976710656)
    (hsz : ∀ (k : Nat) (n : Nd), l[k]? = some n → ¬ n.kind = 6 → ¬ n.kind = 11 → ∀ (A : Option Addr) (c : Nat) (w : World), l.length ≤ c → Seg w w.heap.size A (l.flatMap ncs) → Calls Tryz.prog 104 #[.slice A l.length c, .int .i64 (k : Int), .bool (x.kind == 5)] w fun e w' => e = .returned (.int .i64 (f k)) ∧ Below w.heap.size w w') :
    Calls Tryz.prog 55 #[.slice A ns.length c, .int .i64 (k : Int)] w (PlOut (plcR x l f xs).1 (plcR x l f xs).2 w) := by
  have hl := (chk_run hc).1
  have HI := Lib.hid hI
  have HF := Lib.hid hf
  have HIT := Lib.hid (fun (A : Option Addr) (c a m : Nat) (w1 : World) (hs : Seg w1 w1.heap.size A (l.flatMap ncs)) hb hm => item_ok A l c a m w1 (by omega) hs hc hb hm)
  have HST := Lib.hid (stand0 hc hxs)
  have HSL : (skF l xs []).length ≤ 2000 := by
    have h1 := skF_len l xs []
    have h2 := hxs.len
    simp only [List.length_nil] at h1
    omega
  have HSS := Lib.hid (fun (A : Option Addr) (c : Nat) (w1 : World) (hr : Gl.Row w1 A (skF l xs [])) => Gl.sizes_any A (skF l xs []) c x.sign x.order x.num x.den w1 (by unfold maxLen; omega) hr)
  obtain ⟨G, hG⟩ : ∃ G, skF l xs [] = G := ⟨_, rfl⟩
  rw [hG] at HSS HSL
  have HG := Lib.hid hG
  obtain ⟨PR, hPR⟩ : ∃ PR, plcR x l f xs = PR := ⟨_, rfl⟩
  rw [hPR]
  have HPR := Lib.hid hPR
  obtain ⟨dn, hdn⟩ : ∃ dn, (x.kind == 5) = dn := ⟨_, rfl⟩
  rw [hdn] at hsz
  have HSZ := Lib.hid hsz
  have e4 : (x.kind != 4) = dn := by
    rw [← hdn]
    rcases h45 with h | h <;> simp [h]
  have e5 : (x.kind != 5) = !dn := by
    rw [← hdn]
    rcases h45 with h | h <;> simp [h]
  obtain ⟨b0, off0, rfl, hb0, hnode⟩ := seg_node hseg hx
  have hkl : k < ns.length := (List.getElem?_eq_some_iff.1 hx).1
  clear hseg hx hc hxs hsz hI hf hG hPR h45
  generalize hlen : l.length = len at *
  have HL := Lib.hid hlen
  clear hlen
  generalize ns.length = lns at *
  cases dn
  all_goals
    simp only [Bool.not_false, Bool.not_true] at e5
    go_enter Tryz.func55, Tryz.ntmps55
    go_wp2_with fail
    refine HI.out.mono ?_
    rintro e w1 ⟨v, rfl, ho, hb1⟩
    have hnode1 := hnode.below hb1 hb0
    have ho2 := ho
    rw [← HL.out] at ho2
    obtain ⟨Ai, ci, hvi, hci, _, hsi⟩ := Seg.of_own ho2
    rw [HL.out] at hvi hci
    subst hvi
    clear ho ho2
    go_wp2_with (first | (refine wpList_load_node rfl _ rfl _ _ rfl _ (by repeat (first | apply NodeAt.row | (apply Blk.new'; first | rfl | (simp; done)) | (apply Blk.node; apply Blk.new'; first | rfl | (simp; done)) | assumption | apply NodeAt.alloc)) ?_) | (refine wpList_alloc_node rfl rfl ?_) | (refine wpList_store_node rfl _ _ rfl _ _ _ rfl rfl _ (by repeat (first | (apply Blk.new'; first | rfl | (simp; done)) | assumption | apply Blk.alloc)) ?_))
    have hW0 : Below w.heap.size w (w1.alloc (.cells (nc x) 101)) := andAlloc hb1 _
    have hBL : Blk (w1.alloc (.cells (nc x) 101)) w1.heap.size 101 (nc x) := Blk.new' rfl
    have hSG : Seg (w1.alloc (.cells (nc x) 101)) (w1.alloc (.cells (nc x) 101)).heap.size Ai (l.flatMap ncs) := Seg.belowW hsi (andAlloc (Below.refl _ _) _)
    clear hb1 hnode1 hsi
    generalize w1.alloc (.cells (nc x) 101) = W at hW0 hBL hSG ⊢
    generalize w1.heap.size = g8 at hBL ⊢
    have HW0 := Lib.hid hW0
    have HBL := Lib.hid hBL
    have HSG := Lib.hid hSG
    clear hW0 hBL hSG
    go_loopw [9, 10] (fun v9 v10 wr => ∃ a : Nat, v10 = .int .i64 (a : Int) ∧ InvK l W G a v9 wr) (fun _ v10 _ => len - (intOf v10).toNat)
    case atStart => exact ⟨0, rfl, ⟨xs, [], HST.out, HG.out, by simp, World.ownsRow_nil _ _ _ _⟩, Below.refl _ _⟩
    case round =>
      obtain ⟨a, rfl, hK⟩ := hrel
      obtain ⟨ys, s, hst, hR, h1, hO⟩ := hK.rest
      have HLOW := Lib.hid hK.low
      have hal := hst.le
      rw [HL.out] at hal
      by_cases hlt : a < len
      · obtain ⟨m, zs, y, rfl, hm, hm1, ham, hst', _, hy, h6, h11⟩ := hst.step (by rw [HL.out]; exact hl) (by rw [HL.out]; exact hlt)
        rw [HL.out] at ham
        obtain ⟨b, off, rfl, hb, hnd⟩ := seg_node HSG.out hy
        obtain ⟨c0, c7, c8, c9, c10, c11⟩ := cells5 hnd HLOW.out hb
        have HS := Lib.hid (And.intro hst' (And.intro hR hO))
        have HX := Lib.hid (And.intro hy hm)
        have HB := Lib.hid (beg_of hy h6 h11)
        have HH := Lib.hid h1
        have hal1 : (a : Int) + m ≤ len := by omega
        clear hst' hR hO hy hm hnd hK hst h1 h6 h11
        by_cases k7 : y.kind = 7
        · have e7 : (y.kind == 7) = true := by simp [k7]
          have HK := Lib.hid (skstep_yes (s := s) HX.out.1 k7)
          clear k7
          go_wp2_with (first
            | (refine wpList_ex (o := ⟨some 53, _, _, _, _, _⟩) (v := .slice (some ⟨wr.heap.size, 0, none⟩) 1 1) (w' := wr.alloc (.cells #[.int .i64 y.gn, .int .i64 y.gs, .int .i64 y.gh, .int .i64 y.ga, .int .i64 y.gb] 96)) rfl (by kernel_rfl) ?_)
            | (at_builtin; refine wpList_push rfl (.tmp 47) (.tmp 53) 22 rfl W.heap.size 96 _ 5 40 Tryz.underlying22 info_glue rfl (by decide) (by decide) _ _ _ rfl HS.out.2.2 HLOW.out.size #[.int .i64 y.gn, .int .i64 y.gs, .int .i64 y.gh, .int .i64 y.ga, .int .i64 y.gb] rfl rfl rfl rfl (by have := HH.out; omega) ?_; intro v3 W3 hown3 hg3 hnn3; have HO3 := Lib.hid hown3; have HL3 := Lib.hid (below_grown (Nat.le_refl _) (andAlloc HLOW.out _) hg3 (fun q hq => (HS.out.2.2.lt q hq).1)); clear hown3 hg3 hnn3)
            | (go_at_call 80; refine (HIT.out _ ci a m _ (Seg.belowW HSG.out HL3.out) HB.out HX.out.2).mono ?_; rintro e w5 ⟨rfl, hb5⟩; have HB5 := Lib.hid hb5; clear hb5))
          go_roundw
          case rel =>
            refine ⟨a + m, by go_num, ⟨zs, _, HS.out.1, HS.out.2.1, ?_, ?_⟩, andThen HL3.out HB5.out⟩
            · rw [HK.out]; have := HH.out; simp only [List.length_append, List.length_cons, List.length_nil]; omega
            · rw [HK.out]
              have h := own_below HO3.out HB5.out
              simpa [List.flatMap_append, gOf, Gl.G.vals] using h
          case measure => simp [intOf]; omega
        · have e7 : (y.kind == 7) = false := by simp [k7]
          have HK := Lib.hid (skstep_no (s := s) HX.out.1 k7)
          clear k7
          go_wp2_with (go_at_call 80; refine (HIT.out _ ci a m _ (Seg.belowW HSG.out HLOW.out) HB.out HX.out.2).mono ?_; rintro e w5 ⟨rfl, hb5⟩; have HB5 := Lib.hid hb5; clear hb5)
          go_roundw
          case rel =>
            refine ⟨a + m, by go_num, ⟨zs, _, HS.out.1, HS.out.2.1, ?_, ?_⟩, andThen HLOW.out HB5.out⟩
            · rw [HK.out]; have := HH.out; omega
            · rw [HK.out]; exact own_below HS.out.2.2 HB5.out
          case measure => simp [intOf]; omega
      · obtain rfl : a = len := by omega
        have he : ys = [] := (show Stand l l.length ys from HL.out ▸ hst).done
        subst he
        have hsG : s = G := hR
        subst hsG
        obtain ⟨AG, cG, hvG, hcG, _, hsG⟩ := Seg.of_own hO
        subst hvG
        have HRW := Lib.hid (show Gl.Row wr AG s from hsG)
        have hnx : NodeAt wr g8 0 x := (Blk.node HBL.out).below HLOW.out HBL.out.lt
        clear hst hR hO hsG h1 hK hal
        have hlw1 := HLOW.out
        have c12 : wr.cell? ⟨g8, 12, none⟩ = some (.int .i64 x.sign) := Blk.cell (HBL.out.below hlw1 HBL.out.lt) 12
        have c13 : wr.cell? ⟨g8, 13, none⟩ = some (.int .i64 x.order) := Blk.cell (HBL.out.below hlw1 HBL.out.lt) 13
        have c14 : wr.cell? ⟨g8, 14, none⟩ = some (.int .i64 x.num) := Blk.cell (HBL.out.below hlw1 HBL.out.lt) 14
        have c15 : wr.cell? ⟨g8, 15, none⟩ = some (.int .i64 x.den) := Blk.cell (HBL.out.below hlw1 HBL.out.lt) 15
        clear hlw1
        have HSZO := Lib.hid (HSS.out AG cG wr HRW.out)
        by_cases hE : Gl.szE s x.sign x.order x.num x.den = 0
        · have hpr : PR = ((plF l f xs ⟨0, Gl.szL s x.sign x.order x.num x.den, []⟩).out, 0) := by
            rw [← HPR.out]
            unfold plcR
            rw [HG.out, if_pos hE]
          have HPP := Lib.hid hpr
          have hszi := Gl.szL_in hE
          have HSI := Lib.hid hszi
          have HE := Lib.hid hE
          clear hpr hszi hE HPR
          go_wp2_with fail
          refine HSZO.out.mono ?_
          rintro e w5 ⟨hs5, hb5⟩
          rw [if_pos HE.out] at hs5
          obtain ⟨v5, rfl, own5⟩ := hs5
          have own5' := own5
          rw [← HSI.out.1] at own5'
          obtain ⟨As, cs, hvs, hcs, _, hss⟩ := Seg.of_own own5'
          subst hvs
          have HB5 := Lib.hid (andThen HLOW.out hb5)
          have HSS5 := Lib.hid hss
          clear own5 own5' hb5 hss c12 c13 c14 c15 HSZO
          generalize hZ : Gl.szL s x.sign x.order x.num x.den = Z at *
          generalize hPF : plF l f xs ⟨0, Z, []⟩ = PF at *
          have HPF := Lib.hid hPF
          clear hPF hZ hnx hnode hb0 hkl
          obtain ⟨gx, hgx⟩ : ∃ gx, w5.heap.size = gx := ⟨_, rfl⟩
          go_wp2_with fail
          go_loopw [11, 14, 15] (fun v11 v14 v15 wr2 => ∃ j : Nat, v15 = .int .i64 (j : Int) ∧ InvL l f w5 w5.heap.size PF j v11 v14 wr2) (fun _ _ v15 _ => a - (intOf v15).toNat)
          case atStart => exact ⟨0, rfl, xs, ⟨0, Z, []⟩, As, cs, rfl, hcs, HSS5.out, HST.out, HPF.out, ⟨by rw [HG.out]; exact HSI.out.1, HSI.out.2, by simp, rfl⟩, Nat.zero_le _, Blk.new' rfl, World.ownsRow_nil _ _ _ _, andAlloc (Below.refl _ _) _, Nat.le_refl _⟩
          case round =>
            obtain ⟨j, rfl, hL⟩ := hrel
            obtain ⟨ys, ⟨x2, sz2, out2⟩, A2, c2, rfl, hc2, hsg2, hst, hR, hP, hlen2, hM⟩ := hL.rest
            rw [hgx] at hM ⊢
            simp only at hc2 hsg2 hR hP hlen2 hM ⊢
            have hx0 : wr.cell? ⟨gx, 0, none⟩ = some (.int .i64 x2) := Blk.cell hM.blk 0
            have HMP := Lib.hid hM
            have hxb := hP.x
            simp only at hxb
            have hal := hst.le
            rw [HL.out] at hal
            by_cases hlt2 : j < a
            · obtain ⟨m, zs, y, rfl, hm, hm1, ham, hst', _, hy, h6, h11⟩ := hst.step (by rw [HL.out]; exact hl) (by rw [HL.out]; exact hlt2)
              rw [HL.out] at ham
              obtain ⟨b, off, rfl, hb, hnd⟩ := seg_node HSG.out hy
              have HND := Lib.hid (fun w' (h : Below w5.heap.size w5 w') => show w'.cell? ⟨b, off + j * 19, none⟩ = some (.int .i64 y.kind) from (cells5 hnd (andThen HB5.out h) hb).1)
              have HS := Lib.hid (And.intro hst' hR)
              have HX := Lib.hid (And.intro hy hm)
              have HB := Lib.hid (beg_of hy h6 h11)
              have hal1 : (j : Int) + m ≤ a := by omega
              by_cases k7 : y.kind = 7
              · have e7 : (y.kind == 7) = true := by simp [k7]
                obtain ⟨z, r, hz, hzb, hst1, hin1⟩ := hP.skip hy k7
                simp only at hz
                subst hz
                obtain ⟨b2, off2, rfl, hb2, hz2⟩ := Si.seg_get hsg2 (k := 0) (u := .int .i64 z) rfl
                have HZ2 := Lib.hid (fun w' (h : Below w5.heap.size w5 w') => show w'.cell? ⟨b2, off2, none⟩ = some (.int .i64 z) from (h.cell (p := ⟨b2, off2, none⟩) hb2).trans hz2)
                have HST1 := Lib.hid (And.intro hst1 hin1)
                have HSG2 := Lib.hid (And.intro hb2 hsg2)
                have hx1 : -2305843009213693952 ≤ x2 := by omega
                have hx3 : x2 ≤ 2305843009213693952 := by omega
                have hz1 : -2305843009213693952 ≤ z := by omega
                have hz3 : z ≤ 2305843009213693952 := by omega
                simp only [List.length_cons] at hc2 ⊢
                have HLE := Lib.hid hlen2
                clear hM hst' hR hy hm hnd hL hst hP h6 h11 k7 hz2 hst1 hin1 hsg2 hlen2 hxb hzb hb2
                go_wp2_with (first
                  | (at_builtin; refine wpList_push rfl (.tmp 82) (.tmp 84) 26 rfl (gx + 1) 3 _ 1 8 Tryz.underlying26 info_int rfl (by decide) (by decide) _ _ _ rfl HMP.out.own HMP.out.blk.lt #[.int .i64 x2] rfl rfl rfl rfl (by have := HLE.out; omega) ?_; intro v3 W3 hown3 hg3 hnn3; have HM3 := Lib.hid ((HMP.out.below (andAlloc (Below.refl _ _) _)).push hown3 hg3); have cy3 := HND.out _ HM3.out.low; have cz3 := HZ2.out _ HM3.out.low; clear hown3 hg3 hnn3)
                  | (go_at_call 103; refine (grow_any gx x2 z _ HM3.out.blk hx1 hx3 hz1 hz3).mono ?_; rintro e w7 ⟨rfl, hb7, hg7⟩; have HM7 := Lib.hid (HM3.out.turn hb7 hg7); clear hb7 hg7)
                  | (go_at_call 80; refine (HIT.out _ ci j m _ (Seg.belowW HSG.out (andThen HB5.out HM7.out.low)) HB.out HX.out.2).mono ?_; rintro e w8 ⟨rfl, hb8⟩; have HB8 := Lib.hid hb8; clear hb8))
                go_roundw
                case rel =>
                  refine ⟨j + m, by go_num, ⟨zs, ⟨x2 + z, r, out2 ++ [x2]⟩, if c2 = 1 then some ⟨b2, off2, none⟩ else some ⟨b2, off2 + 1, none⟩, c2 - 1, ?_, by simp only; omega, ?_, HS.out.1, ?_, ?_, ?_, ?_⟩⟩
                  · rfl
                  · simp only
                    have h := HSG2.out.2
                    split
                    · have : r = [] := List.eq_nil_of_length_eq_zero (by omega)
                      subst this
                      exact .inl rfl
                    · have h2 := Seg.drop h 1
                      simpa using h2
                  · have h := HS.out.2
                    rw [plF_cons, HST1.out.1] at h
                    exact h
                  · have h := HST1.out.2
                    rw [HST1.out.1] at h
                    simpa using h
                  · have := HLE.out
                    simp only [List.length_append, List.length_cons, List.length_nil]
                    omega
                  · exact HM7.out.below HB8.out
                case measure => simp [intOf]; omega
              · have e7 : (y.kind == 7) = false := by simp [k7]
                obtain ⟨hst1, hin1⟩ := hP.other hy k7 (HF.out j)
                have HST1 := Lib.hid (And.intro hst1 hin1)
                have hfj := HF.out j
                have hx1 : -2305843009213693952 ≤ x2 := by omega
                have hx3 : x2 ≤ 2305843009213693952 := by omega
                have hz1 : -2305843009213693952 ≤ f j := by omega
                have hz3 : f j ≤ 2305843009213693952 := by omega
                have HK6 := Lib.hid (And.intro h6 h11)
                have HLE := Lib.hid hlen2
                have HSG2 := Lib.hid hsg2
                clear hM hst' hR hy hm hnd hL hst hP h6 h11 k7 hst1 hin1 hsg2 hlen2 hxb hfj
                go_wp2_with (first
                  | (at_builtin; refine wpList_push rfl (.tmp 82) (.tmp 84) 26 rfl (gx + 1) 3 _ 1 8 Tryz.underlying26 info_int rfl (by decide) (by decide) _ _ _ rfl HMP.out.own HMP.out.blk.lt #[.int .i64 x2] rfl rfl rfl rfl (by have := HLE.out; omega) ?_; intro v3 W3 hown3 hg3 hnn3; have HM3 := Lib.hid ((HMP.out.below (andAlloc (Below.refl _ _) _)).push hown3 hg3); have cy3 := HND.out _ HM3.out.low; have cg3 : W3.cell? ⟨g8, 0, none⟩ = some (.int .i64 x.kind) := Blk.cell (HBL.out.below (andThen HB5.out HM3.out.low) HBL.out.lt) 0; clear hown3 hg3 hnn3)
                  | (go_at_call 104; refine (HSZ.out j y HX.out.1 HK6.out.1 HK6.out.2 _ ci _ hci (Seg.belowW HSG.out (andThen HB5.out HM3.out.low))).mono ?_; rintro e w6 ⟨rfl, hb6⟩; have HM6 := Lib.hid (HM3.out.below hb6); clear hb6)
                  | (go_at_call 103; refine (grow_any gx x2 (f j) _ HM6.out.blk hx1 hx3 hz1 hz3).mono ?_; rintro e w7 ⟨rfl, hb7, hg7⟩; have HM7 := Lib.hid (HM6.out.turn hb7 hg7); clear hb7 hg7)
                  | (go_at_call 80; refine (HIT.out _ ci j m _ (Seg.belowW HSG.out (andThen HB5.out HM7.out.low)) HB.out HX.out.2).mono ?_; rintro e w8 ⟨rfl, hb8⟩; have HB8 := Lib.hid hb8; clear hb8))
                go_roundw
                case rel =>
                  refine ⟨j + m, by go_num, ⟨zs, ⟨x2 + f j, sz2, out2 ++ [x2]⟩, A2, c2, rfl, hc2, HSG2.out, HS.out.1, ?_, ?_, ?_, ?_⟩⟩
                  · have h := HS.out.2
                    rw [plF_cons, HST1.out.1] at h
                    exact h
                  · have h := HST1.out.2
                    rw [HST1.out.1] at h
                    simpa using h
                  · have := HLE.out
                    simp only [List.length_append, List.length_cons, List.length_nil]
                    omega
                  · exact HM7.out.below HB8.out
                case measure => simp [intOf]; omega
            · obtain rfl : j = a := by omega
              have he : ys = [] := (show Stand l l.length ys from HL.out ▸ hst).done
              subst he
              have hPo : PF.out = out2 := by
                have h : (⟨x2, sz2, out2⟩ : Plc) = PF := hR
                rw [← h]
              have HPO := Lib.hid hPo
              clear hst hR hP hM hL hPo hsg2
              go_wp2_with fail
              go_ret2
              rw [HPP.out]
              refine ⟨u14, rfl, ?_, andThen HW0.out (andThen HB5.out HMP.out.low)⟩
              simp only
              rw [HPO.out]
              exact own_base HMP.out.own (by have := HMP.out.gl; have := HW0.out.size; have := HB5.out.size; omega)
        · have hpr : PR = ([], Gl.szE s x.sign x.order x.num x.den) := by
            rw [← HPR.out]
            unfold plcR
            rw [HG.out, if_neg hE]
          have HPP := Lib.hid hpr
          have HE := Lib.hid hE
          clear hpr hE HPR
          go_wp2_with fail
          refine HSZO.out.mono ?_
          rintro e w5 ⟨hs5, hb5⟩
          rw [if_neg HE.out] at hs5
          subst hs5
          clear HSZO
          generalize Gl.szE s x.sign x.order x.num x.den = E at *
          have e0 : (E != 0) = true := by simp [HE.out]
          go_wp2_with fail
          go_ret2
          rw [HPP.out]
          exact PlOut.no (andThen HW0.out (andThen HLOW.out hb5)) _
end Go.Proofs.YtoboecenlangmaaGreat.Pk
end
section
namespace Go.Proofs.YtoboecenlangmaaGreat.Dv
open Go.ChangeShapes Go.WideShapes Go.ChangeAt Go.RowKit
open Me Np No Pk
set_option linter.unusedVariables false
set_option linter.unusedSimpArgs false

theorem stand_nth {l : List Nd} (hl : l.length ≤ 2000) : ∀ (i : Nat) {a : Nat} {xs : List Nat}, Stand l a xs → ∀ y, xs[i]? = some y → Stand l y (xs.drop i)
  | 0, a, xs, h, y, hy => by
    cases xs with
    | nil => simp at hy
    | cons z zs =>
      simp at hy
      subst hy
      obtain ⟨h1, _⟩ := h.its
      subst h1
      exact h
  | i + 1, a, xs, h, y, hy => by
    cases xs with
    | nil => simp at hy
    | cons z zs =>
      have hal : a < l.length := by
        have h1 := h.le
        rcases Nat.lt_or_ge a l.length with h2 | h2
        · exact h2
        · obtain rfl : a = l.length := by omega
          have := h.done
          simp at this
      obtain ⟨m, ws, x, hys, hm, hm1, ham, hst, _⟩ := h.step hl hal
      injection hys with _ e
      subst e
      exact stand_nth hl i hst y (by simpa using hy)
/-- An item of a list: by itself it is one. -/
theorem item_nth {l : List Nd} {xs : List Nat} (hc : chk l = 0) (hx : Its xs l 0) {i y m : Nat} (hy : xs[i]? = some y) (hm : endc (l.drop y) 0 = some m) : chk ((l.drop y).take m) = 0 ∧ endc ((l.drop y).take m) 0 = some ((l.drop y).take m).length ∧ ((l.drop y).take m).length = m ∧ y + m ≤ l.length ∧ ∃ x, ((l.drop y).take m)[0]? = some x ∧ ¬ x.kind = 6 ∧ ¬ x.kind = 11 := by
  have hl := (chk_run hc).1
  have hst := stand_nth hl i (stand0 hc hx) y hy
  have hb := endc_bd hm
  rw [List.length_drop] at hb
  obtain ⟨m', zs, x, _, hm', hm1, ham, _, hci, hx0, h6, h11⟩ := hst.step hl (by omega)
  rw [hm] at hm'
  injection hm' with e
  subst e
  have hlen : ((l.drop y).take m).length = m := by rw [List.length_take, List.length_drop]; omega
  refine ⟨hci, ?_, hlen, ham, x, ?_, h6, h11⟩
  · rw [hlen]; exact endc_just hm
  · rw [List.getElem?_take, if_pos (by omega), List.getElem?_drop]; exact hx0
def Good (it : List Nd) : Prop := chk it = 0 ∧ endc it 0 = some it.length ∧ ∃ x, it[0]? = some x ∧ ¬ x.kind = 6 ∧ ¬ x.kind = 11
theorem box_step (l : List Nd) (n : Nd) (hg : Good l) (hn : l[0]? = some n) (hk : n.kind = 4 ∨ n.kind = 5)
    (hit : ∀ it : List Nd, it.length + 2 ≤ l.length → Good it → ∀ bx : Nd, (∃ K, AcrC it bx K FF) ∧ (∃ K, DwnC it bx K FF)) : ∃ K, BoxC l K FF := by
  obtain ⟨hc, hm, _⟩ := hg
  have ho : opensB n = true := by rcases hk with h | h <;> simp [opensB, h]
  have h10 : ¬ n.kind = 10 := by omega
  have h6 : ¬ n.kind = 6 := by omega
  have h11 : ¬ n.kind = 11 := by omega
  have hl := (chk_run hc).1
  have hm0 : endc (l.drop 0) 0 = some l.length := by rw [List.drop_zero]; exact hm
  have h2 := endc_two hn ho hm0
  obtain ⟨hr, _, _, hci⟩ := item_wrap hc hm rfl hn h2 h10
  obtain ⟨xs, hxs⟩ := its_of_chk hci
  obtain ⟨f, hf, _, hz⟩ := size_case ((l.drop 1).take (l.length - 2)) (n.kind == 5) hci
  have hP := fun A c w hcap hs => places_ok A l ((l.drop 1).take (l.length - 2)) c 0 n xs f w hcap hl hs hn hk (inside_ok A l c 0 l.length n w hcap hs hc (Pk.beg_of hn h6 h11) hn ho hm0) hci hxs hf hz
  have hPl : (plcR n ((l.drop 1).take (l.length - 2)) f xs).2 = 0 → (plcR n ((l.drop 1).take (l.length - 2)) f xs).1.length = xs.length := by
    intro h0
    unfold plcR at h0 ⊢
    split at h0
    · rename_i h1
      rw [if_pos h1]
      rw [plF_len _ _ _ _ (fun y hy => ?_)]
      · simp
      · obtain ⟨x, hx, _⟩ := its_beg hci hxs y hy
        exact ⟨_, List.getElem?_eq_getElem (by have := (hxs.lt y hy).2; omega)⟩
    · rename_i h1
      exact absurd h0 h1
  have hex : ∀ i : Nat, ∃ K : List Stn, ∀ y m, xs[i]? = some y → endc (((l.drop 1).take (l.length - 2)).drop y) 0 = some m → (n.kind = 4 → AcrC ((((l.drop 1).take (l.length - 2)).drop y).take m) n K FF) ∧ (n.kind = 5 → DwnC ((((l.drop 1).take (l.length - 2)).drop y).take m) n K FF) := by
    intro i
    cases hy : xs[i]? with
    | none => exact ⟨[], fun y m h => by cases h⟩
    | some y =>
      cases hm' : endc (((l.drop 1).take (l.length - 2)).drop y) 0 with
      | none =>
        refine ⟨[], fun y' m h h' => ?_⟩
        injection h with h
        subst h
        rw [hm'] at h'
        cases h'
      | some m =>
        obtain ⟨g1, g2, g3, g4, g5⟩ := item_nth hci hxs hy hm'
        have hln : ((((l.drop 1).take (l.length - 2)).drop y).take m).length + 2 ≤ l.length := by rw [g3]; rw [List.length_take, List.length_drop] at g4; omega
        obtain ⟨⟨K1, h1⟩, ⟨K2, h3⟩⟩ := hit _ hln ⟨g1, g2, g5⟩ n
        rcases hk with hk | hk
        · refine ⟨K1, fun y' m' h h' => ?_⟩
          injection h with h
          subst h
          rw [hm'] at h'
          injection h' with h'
          subst h'
          exact ⟨fun _ => h1, fun h => by omega⟩
        · refine ⟨K2, fun y' m' h h' => ?_⟩
          injection h with h
          subst h
          rw [hm'] at h'
          injection h' with h'
          subst h'
          exact ⟨fun h => by omega, fun _ => h3⟩
  obtain ⟨Ks, hKs⟩ := Classical.skolem.1 hex
  exact ⟨_, (box_of l _ n xs _ _ Ks (fun _ => FF) hn h2 (by omega) rfl hk hci hxs hP hPl hKs).weak⟩
theorem rule_sub {n : Nd} (h : right n = true) (hk : n.kind = 3) : n.sub = 0 ∨ n.sub = 1 ∨ n.sub = 2 ∨ n.sub = 3 := by
  have := right_kind (k := 3) h hk
  simp [goodK, gRule, winB] at this
  omega
theorem tot_ex (l : List Nd) (hc : chk l = 0) : ∃ x a b c d p q r s e1, ∀ (A : Option Addr) (k : Nat) (w : World), l.length ≤ k → Seg w w.heap.size A (l.flatMap ncs) → Calls Tryz.prog 44 #[.slice A l.length k, .bool false] w fun e w' => e = .returned (.tuple #[.agg #[.int .i64 x, .int .i64 a, .int .i64 b, .int .i64 c, .int .i64 d, .int .i64 p, .int .i64 q, .int .i64 r, .int .i64 s], .int .i64 e1]) ∧ Below w.heap.size w w' := by
  obtain ⟨xs, hx⟩ := its_of_chk hc
  have hT := totR_len l false xs
  obtain ⟨⟨x, st, sh⟩, hTe⟩ : ∃ T, totR l false xs = T := ⟨_, rfl⟩
  rw [hTe] at hT
  match st, sh, hT.1, hT.2 with
  | [a, b, c, d], [p, q, r, s], _, _ =>
  have ht := fun A k w h hs => totals_any A l k xs false w hc h hs hx
  simp only [hTe] at ht
  exact ⟨x, a, b, c, d, p, q, r, s, _, ht⟩
theorem disc_step (it : List Nd) (bx n : Nd) (hg : Good it) (hn : it[0]? = some n) (hk : n.kind = 10)
    (hit : ∀ one : List Nd, one.length + 2 ≤ it.length → Good one → ∀ bx : Nd, (∃ K, AcrC one bx K FF) ∧ (∃ K, DwnC one bx K FF)) : ∃ K, AcrC it bx K FF := by
  obtain ⟨hc, hm, _⟩ := hg
  have hl := (chk_run hc).1
  have hm0 : endc (it.drop 0) 0 = some it.length := by rw [List.drop_zero]; exact hm
  obtain ⟨h2, ss, hd⟩ := disc_steps hc hn hk hm0
  have hd1 : D3 ss (it.drop 1) 0 (it.length - 2) := hd
  have hci := disc_chk 2 hc hn hk hd1 (by omega)
  have hln := thr_len (j := 2) hd1
  obtain ⟨xs, hxs⟩ := its_of_chk hci
  have hP := fun A c w hcap hs => parts_ok A it c 0 it.length n ss w hcap hs hc (Pk.beg_of hn (by omega) (by omega)) hn hk hm0 hd h2
  have hex : ∀ i : Nat, ∃ p : List Stn × Int, ∀ y m, xs[i]? = some y → endc ((thr ss (it.drop 1) 0 2).drop y) 0 = some m → AcrC (((thr ss (it.drop 1) 0 2).drop y).take m) bx p.1 FF ∧ ∀ (A : Option Addr) (k : Nat) (w : World), m ≤ k → Seg w w.heap.size A ((((thr ss (it.drop 1) 0 2).drop y).take m).flatMap ncs) → Calls Tryz.prog 44 #[.slice A m k, .bool false] w fun e w' => ∃ a b c d p' q r s e1, e = .returned (.tuple #[.agg #[.int .i64 p.2, .int .i64 a, .int .i64 b, .int .i64 c, .int .i64 d, .int .i64 p', .int .i64 q, .int .i64 r, .int .i64 s], .int .i64 e1]) ∧ Below w.heap.size w w' := by
    intro i
    cases hy : xs[i]? with
    | none => exact ⟨([], 0), fun y m h => by cases h⟩
    | some y =>
      cases hm' : endc ((thr ss (it.drop 1) 0 2).drop y) 0 with
      | none =>
        refine ⟨([], 0), fun y' m h h' => ?_⟩
        injection h with h
        subst h
        rw [hm'] at h'
        cases h'
      | some m =>
        obtain ⟨g1, g2, g3, g4, g5⟩ := item_nth hci hxs hy hm'
        obtain ⟨⟨K1, h1⟩, _⟩ := hit (((thr ss (it.drop 1) 0 2).drop y).take m) (by omega) ⟨g1, g2, g5⟩ bx
        obtain ⟨x, a, b, c, d, p, q, r, s, e1, M⟩ := tot_ex (((thr ss (it.drop 1) 0 2).drop y).take m) g1
        refine ⟨(K1, x), fun y' m' h' h'' => ?_⟩
        injection h' with h'
        subst h'
        rw [hm'] at h''
        injection h'' with h''
        subst h''
        refine ⟨h1, fun A k w hk hs => ?_⟩
        have ht := M A k w (by rw [g3]; exact hk) hs
        rw [g3] at ht
        exact ht.mono fun e w' h => ⟨a, b, c, d, p, q, r, s, e1, h.1, h.2⟩
  obtain ⟨Ks, hKs⟩ := Classical.skolem.1 hex
  exact ⟨_, acr_disc it _ bx n xs (fun i => (Ks i).2) (fun i => (Ks i).1) (thr ss (it.drop 1) 0) hn hk hl rfl (by omega) hci hxs hP hKs⟩
theorem walk_ex : ∀ (N : Nat) (it : List Nd), it.length ≤ N → Good it → ∀ bx : Nd, (∃ K, AcrC it bx K FF) ∧ (∃ K, DwnC it bx K FF)
  | 0, it, hN, hg, bx => by
    obtain ⟨x, hx, _⟩ := hg.2.2
    have := (List.getElem?_eq_some_iff.1 hx).1
    omega
  | N + 1, it, hN, hg, bx => by
    obtain ⟨n, hn, h6, h11⟩ := hg.2.2
    have ih : ∀ one : List Nd, one.length + 2 ≤ it.length → Good one → ∀ bx : Nd, (∃ K, AcrC one bx K FF) ∧ (∃ K, DwnC one bx K FF) := fun one h hg bx => walk_ex N one (by omega) hg bx
    have hr := chk_right hg.1 n (List.mem_of_getElem? hn)
    by_cases k4 : n.kind = 4
    · obtain ⟨K, hB⟩ := box_step it n hg hn (.inl k4) ih
      exact ⟨⟨_, acr_box4 it bx n K hn k4 hB⟩, ⟨_, dwn_box4 it bx n K hn k4 hB⟩⟩
    by_cases k5 : n.kind = 5
    · obtain ⟨K, hB⟩ := box_step it n hg hn (.inr k5) ih
      exact ⟨⟨_, acr_box5 it bx n K hn k5 hB⟩, ⟨_, dwn_box5 it bx n K hn k5 hB⟩⟩
    by_cases k3 : n.kind = 3
    · rcases rule_sub hr k3 with h | h | h | h
      · exact ⟨⟨_, acr_rule0 it bx n hn k3 h⟩, ⟨_, dwn_rule0 it bx n hn k3 h⟩⟩
      · exact ⟨⟨_, acr_rule1 it bx n hn k3 h⟩, ⟨_, dwn_rule1 it bx n hn k3 h⟩⟩
      · exact ⟨⟨_, acr_rule2 it bx n hn k3 h⟩, ⟨_, dwn_rule2 it bx n hn k3 h⟩⟩
      · exact ⟨⟨_, acr_rule3 it bx n hn k3 h⟩, ⟨_, dwn_rule3 it bx n hn k3 h⟩⟩
    by_cases k14 : n.kind = 14
    · exact ⟨⟨_, (acr_special it bx n hn k14).weak⟩, ⟨_, (dwn_special it bx n hn k14).weak⟩⟩
    have hd : ∃ K, DwnC it bx K FF := ⟨_, dwn_other it bx n hn ⟨k4, k5, k3, k14⟩⟩
    by_cases k1 : n.kind = 1
    · exact ⟨⟨_, (acr_char it bx n hn k1).weak⟩, hd⟩
    by_cases k2 : n.kind = 2
    · exact ⟨⟨_, (acr_lig it bx n hn k2).weak⟩, hd⟩
    by_cases k10 : n.kind = 10
    · exact ⟨disc_step it bx n hg hn k10 ih, hd⟩
    exact ⟨⟨_, acr_other it bx n hn ⟨k1, k2, k4, k5, k3, k14, k10⟩⟩, hd⟩
/-- Every box has its stands. -/
theorem box_ex (l : List Nd) (n : Nd) (hg : Good l) (hn : l[0]? = some n) (hk : n.kind = 4 ∨ n.kind = 5) : ∃ K, BoxC l K FF := box_step l n hg hn hk (fun it _ hg bx => walk_ex it.length it (Nat.le_refl _) hg bx)
end Go.Proofs.YtoboecenlangmaaGreat.Dv
end
section
namespace Go.Proofs.YtoboecenlangmaaGreat.Dv
open Go.ChangeShapes Go.WideShapes Go.ChangeAt Go.RowKit
open Me Np No Pk
set_option linter.unusedVariables false
set_option linter.unusedSimpArgs false

/-- What Stands answers: K, moved; or an error. -/
def StO (K : List Stn) (G : Prop) (h v : Int) (w : World) (e : Ending) (w' : World) : Prop := ∃ vo out E, e = .returned (.tuple #[vo, .int .i64 E]) ∧ w'.ownsRow w.heap.size 148 8 vo out.length (out.flatMap Stn.cs) ∧ Below w.heap.size w w' ∧ ((E = 0 ∧ out = K.map (mvS h v)) ∨ (¬ E = 0 ∧ out = [])) ∧ (G → E = 0)
theorem StO.no {w w' : World} (K : List Stn) (G : Prop) (h v E : Int) (hE : ¬ E = 0) (hG : G → E = 0) (hb : Below w.heap.size w w') : StO K G h v w (.returned (.tuple #[.slice none 0 0, .int .i64 E])) w' := ⟨_, [], E, rfl, World.ownsRow_nil _ _ _ _, hb, .inr ⟨hE, rfl⟩, hG⟩
set_option maxHeartbeats 4000000 in
set_option maxRecDepth 100000 in
theorem stands_err (K : List Stn) (A : Option Addr) (l : List Nd) (c : Nat) (h v : Int) (w : World) (hl : l.length ≤ 9223372036854775806) (hc : ¬ chk l = 0) (hseg : Seg w w.heap.size A (l.flatMap ncs)) :
    Calls Tryz.prog 65 #[.slice A l.length c, .int .i64 h, .int .i64 v] w (StO K False h v w) := by
  have t1 : (chk l != 0) = true := by simp [hc]
  have HC := Lib.hid (check_any A l c w (by omega) hseg)
  have HE := Lib.hid hc
  clear hseg hc
  generalize l.length = len at *
  generalize chk l = E at *
  go_enter Tryz.func65, Tryz.ntmps65
  go_wp2_with fail
  refine HC.out.mono ?_
  rintro e w1 ⟨rfl, hb1⟩
  have HB1 := Lib.hid hb1
  clear hb1
  go_wp2_with fail
  go_returns
  exact StO.no K False h v E HE.out False.elim HB1.out
theorem ws_start (w2 : World) : WS w2 (w2.heap.size + 2) (w2.heap.size + 1) w2.heap.size [] 0 none ((w2.alloc (.cells #[.slice none 0 0] 144)).alloc (.cells #[clo w2.heap.size, .int .i64 0] 201)) :=
  ⟨Blk.new' (by simp), ⟨.slice none 0 0, (Blk.new w2 _ _).alloc _, World.ownsRow_nil _ _ _ _, rfl⟩, andAlloc (andAlloc (Below.refl _ _) _) _, by simp⟩
theorem segw_start {w W : World} {B C : Nat} {A : Option Addr} {xs : List Value} (h : Seg w w.heap.size A xs) (hb : Below w.heap.size w W) (hB : w.heap.size ≤ B) (hC : w.heap.size ≤ C) : SegW W B C none A xs := by
  rcases h with h | ⟨b, off, h1, h2, h3⟩
  · exact .inl h
  · exact .inr ⟨b, off, h1, Nat.lt_of_lt_of_le h2 hb.size, by omega, by omega, (fun e => by cases e), fun j u hu => (hb.cell (p := ⟨b, off + j, none⟩) h2).trans (h3 j u hu)⟩
/-- One box and nothing else. -/
def OneBox (l : List Nd) : Prop := ∃ n, l[0]? = some n ∧ (n.kind = 4 ∨ n.kind = 5) ∧ endc l 0 = some l.length
set_option maxHeartbeats 4000000 in
set_option maxRecDepth 100000 in
theorem stands_bad (K : List Stn) (A : Option Addr) (l : List Nd) (c : Nat) (h v : Int) (w : World) (hcap : l.length ≤ c) (hc : chk l = 0) (hseg : Seg w w.heap.size A (l.flatMap ncs)) (hno : ¬ OneBox l) :
    Calls Tryz.prog 65 #[.slice A l.length c, .int .i64 h, .int .i64 v] w (StO K False h v w) := by
  have hl := (chk_run hc).1
  have HC := Lib.hid (check_any A l c w (by omega) hseg)
  rw [hc] at HC
  cases hl0 : l with
  | nil =>
    subst hl0
    clear hno hseg hl
    simp only [List.length_nil] at *
    go_enter Tryz.func65, Tryz.ntmps65
    go_wp2_with fail
    refine HC.out.mono ?_
    rintro e w1 ⟨rfl, hb1⟩
    have HB1 := Lib.hid hb1
    clear hb1
    go_wp2_with fail
    go_returns
    exact StO.no K False h v 1 (by decide) False.elim HB1.out
  | cons n r =>
    rw [← hl0]
    have hn : l[0]? = some n := by rw [hl0]; rfl
    have hpos : 0 < l.length := by rw [hl0]; simp
    obtain ⟨b, off, rfl, hb, hnode⟩ := seg_node hseg (k := 0) hn
    rw [Nat.zero_mul, Nat.add_zero] at hnode
    have HND := Lib.hid (fun w1 (hb1 : Below w.heap.size w w1) => hnode.below hb1 hb)
    have HSG := Lib.hid hseg
    by_cases hk : n.kind = 4 ∨ n.kind = 5
    · obtain ⟨xs, hxs⟩ := its_of_chk hc
      have h2 : ¬ xs.length + 1 = 2 := by
        intro e
        refine hno ⟨n, hn, hk, ?_⟩
        match xs, e with
        | [x], _ =>
          obtain ⟨h1, m, h3, h4⟩ := hxs
          have h5 : l.drop m = [] := h4
          have := endc_bd h3
          have h6 := List.drop_eq_nil_iff.1 h5
          rw [h3]
          congr 1
          omega
      have HIT := Lib.hid (fun w1 (hb1 : Below w.heap.size w w1) => items_any (some ⟨b, off, none⟩) l c xs w1 hc hxs hcap (Seg.belowW hseg hb1))
      have t2 : (((xs.length + 1 : Nat) : Int) != 2) = true := by simp; omega
      have HK := Lib.hid hk
      clear hseg hno hn hc hxs h2 hnode hk hl0
      obtain ⟨nb, hnb⟩ : ∃ nb, nb = xs.length + 1 := ⟨_, rfl⟩
      rw [← hnb] at t2
      rw [← hnb] at HIT
      have hl1 : ((l.length : Int) == 0) = false := beq_eq_false_iff_ne.2 (by omega)
      generalize l.length = len at *
      go_enter Tryz.func65, Tryz.ntmps65
      go_wp2_with fail
      refine HC.out.mono ?_
      rintro e w1 ⟨rfl, hb1⟩
      have hc0 : w1.cell? ⟨b, off, none⟩ = some (.int .i64 n.kind) := HND.out w1 hb1 0 _ rfl
      have HB1 := Lib.hid hb1
      clear hb1
      rcases HK.out with hk | hk
      all_goals
        rw [hk] at hc0
        clear hk
        go_wp2_with fail
        refine (HIT.out w1 HB1.out).mono ?_
        rintro e w2 ⟨vb, rfl, hob, hb2⟩
        obtain ⟨Ab, cb, rfl, _⟩ := own_val hob
        have HB2 := Lib.hid (andThen HB1.out hb2)
        clear hob hb2
        go_wp2_with fail
        go_returns
        exact StO.no K False h v 1 (by decide) False.elim HB2.out
    · have f4 : (n.kind != 4) = true := by simp; omega
      have f5 : (n.kind != 5) = true := by simp; omega
      have hl1 : ((l.length : Int) == 0) = false := beq_eq_false_iff_ne.2 (by omega)
      clear hseg hno hn hc hnode hk hl0
      generalize l.length = len at *
      go_enter Tryz.func65, Tryz.ntmps65
      go_wp2_with fail
      refine HC.out.mono ?_
      rintro e w1 ⟨rfl, hb1⟩
      have hc0 : w1.cell? ⟨b, off, none⟩ = some (.int .i64 n.kind) := HND.out w1 hb1 0 _ rfl
      have HB1 := Lib.hid hb1
      clear hb1
      go_wp2_with fail
      go_returns
      exact StO.no K False h v 1 (by decide) False.elim HB1.out
set_option maxHeartbeats 4000000 in
set_option maxRecDepth 100000 in
theorem stands_ok (K : List Stn) (A : Option Addr) (l : List Nd) (c : Nat) (h v : Int) (w : World) (hcap : l.length ≤ c) (hc : chk l = 0) (hseg : Seg w w.heap.size A (l.flatMap ncs)) (hone : OneBox l) (F : Int → Int → Prop) (hK : BoxC l K F) (hh : W64i h) (hv : W64i v) :
    Calls Tryz.prog 65 #[.slice A l.length c, .int .i64 h, .int .i64 v] w (StO K (F h v) h v w) := by
  have hl := (chk_run hc).1
  obtain ⟨n, hn, hk, hm⟩ := hone
  have HC := Lib.hid (check_any A l c w (by omega) hseg)
  rw [hc] at HC
  have hpos : 0 < l.length := (List.getElem?_eq_some_iff.1 hn).1
  obtain ⟨b, off, rfl, hb, hnode⟩ := seg_node hseg (k := 0) hn
  rw [Nat.zero_mul, Nat.add_zero] at hnode
  have hxs : Its [0] l 0 := ⟨rfl, l.length, hm, by rw [List.drop_length]; rfl⟩
  have HND := Lib.hid (fun w1 (hb1 : Below w.heap.size w w1) => hnode.below hb1 hb)
  have HIT := Lib.hid (fun w1 (hb1 : Below w.heap.size w w1) => items_any (some ⟨b, off, none⟩) l c [0] w1 hc hxs hcap (Seg.belowW hseg hb1))
  have HSG := Lib.hid hseg
  have HK := Lib.hid hk
  have HBX := Lib.hid hK
  have HH := Lib.hid (And.intro hh hv)
  have hl1 : ((l.length : Int) == 0) = false := beq_eq_false_iff_ne.2 (by omega)
  clear hseg hn hc hxs hnode hk hK hh hv hm
  generalize hlen : l.length = len at *
  have HL := Lib.hid hlen
  clear hlen
  simp only [List.length_cons, List.length_nil, Nat.zero_add, Nat.reduceAdd] at HIT
  go_enter Tryz.func65, Tryz.ntmps65
  go_wp2_with fail
  refine HC.out.mono ?_
  rintro e w1 ⟨rfl, hb1⟩
  have hc0 : w1.cell? ⟨b, off, none⟩ = some (.int .i64 n.kind) := HND.out w1 hb1 0 _ rfl
  have HB1 := Lib.hid hb1
  clear hb1
  rcases HK.out with hk | hk
  all_goals
    rw [hk] at hc0
    clear hk
    go_wp2_with fail
    refine (HIT.out w1 HB1.out).mono ?_
    rintro e w2 ⟨vb, rfl, hob, hb2⟩
    obtain ⟨Ab, cb, rfl, _⟩ := own_val hob
    have HB2 := Lib.hid (andThen HB1.out hb2)
    clear hob hb2 hc0
    go_wp2_with fail
    have hws := ws_start w2
    unfold clo at hws
    have hb3 := andAlloc (andAlloc HB2.out (.cells #[.slice none 0 0] 144)) (.cells #[.func (.func 115) #[] #[.pointer (some ⟨w2.heap.size, 0, none⟩)], .int .i64 0] 201)
    have hsg := segw_start HSG.out hb3 (B := w2.heap.size + 1) (C := w2.heap.size) (by have := HB2.out.size; omega) HB2.out.size
    generalize (w2.alloc (.cells #[.slice none 0 0] 144)).alloc (.cells #[.func (.func 115) #[] #[.pointer (some ⟨w2.heap.size, 0, none⟩)], .int .i64 0] 201) = W at hws hb3 hsg ⊢
    have hcall := HBX.out w2 _ _ _ [] none (some ⟨b, off, none⟩) c h v W (by rw [HL.out]; exact hcap) HH.out.1 HH.out.2 (by rw [HL.out]; simp; omega) hsg hws
    rw [HL.out] at hcall
    have HBB := Lib.hid HB2.out.size
    generalize w2.heap.size + 1 = gB at hcall ⊢
    generalize w2.heap.size = gC at hcall HBB ⊢
    clear hws hsg hb3
    refine hcall.mono ?_
    clear hcall
    rintro r w3 ⟨rfl, out', e', q', hws, hnq, hkp, ho, hl', hg⟩
    have HGG := Lib.hid hg
    clear hg
    have c1 : w3.cell? ⟨gB, 1, none⟩ = some (.int .i64 e') := Blk.cell hws.wk 1
    obtain ⟨vo, hvo, hoo, hq⟩ := hws.vr
    obtain ⟨Ao, co, rfl, _⟩ := own_val hoo
    have c2 : w3.cell? ⟨gC, 0, none⟩ = some (.slice Ao out'.length co) := Blk.cell hvo 0
    have HR := Lib.hid (And.intro hws (And.intro hoo ho))
    have HB3 := Lib.hid (andThen HB2.out hws.low)
    clear hws hnq hkp ho hl' hvo hoo hq
    by_cases he : e' = 0
    · subst he
      go_wp2_with fail
      go_returns
      exact ⟨_, out', 0, rfl, Gl.own_base HR.out.2.1 (by have h1 := HBB.out; have h2 := HR.out.1.lo; omega), HB3.out, .inl ⟨rfl, by simpa using HR.out.2.2 trivial⟩, fun _ => rfl⟩
    · have t5 : (e' != 0) = true := by simp [he]
      have HE := Lib.hid he
      clear he
      go_upto_region 10 with fail
      go_quiet (fail)
      have hd := below_drewN (Below.refl w3.heap.size w3) nq
      generalize w3.drewN nq = w5 at hd ⊢
      have HB5 := Lib.hid (andThen HB3.out hd)
      clear hd c1 c2
      go_wp2_with fail
      go_returns
      exact StO.no K _ h v e' HE.out HGG.out HB5.out
/-- Stands, in all cases. -/
theorem stands_all (l : List Nd) (hl : l.length ≤ 9223372036854775806) : ∃ K : List Stn, ∀ (A : Option Addr) (c : Nat) (h v : Int) (w : World), l.length ≤ c → W64i h → W64i v → Seg w w.heap.size A (l.flatMap ncs) →
    Calls Tryz.prog 65 #[.slice A l.length c, .int .i64 h, .int .i64 v] w (StO K False h v w) := by
  by_cases hc : chk l = 0
  · by_cases ho : OneBox l
    · obtain ⟨n, hn, hk, hm⟩ := ho
      obtain ⟨K, hK⟩ := box_ex l n ⟨hc, hm, n, hn, by omega, by omega⟩ hn hk
      exact ⟨K, fun A c h v w hcap hh hv hs => stands_ok K A l c h v w hcap hc hs ⟨n, hn, hk, hm⟩ FF hK hh hv⟩
    · exact ⟨[], fun A c h v w hcap hh hv hs => stands_bad [] A l c h v w hcap hc hs ho⟩
  · exact ⟨[], fun A c h v w hcap hh hv hs => stands_err [] A l c h v w hl hc hs⟩
end Go.Proofs.YtoboecenlangmaaGreat.Dv
end
section
namespace Go.Proofs.YtoboecenlangmaaGreat.Dv
open Go.ChangeShapes Go.WideShapes Go.ChangeAt Go.RowKit
open Me Np No Pk
set_option linter.unusedVariables false
set_option linter.unusedSimpArgs false

def chN : Nd := { nz 1 with char := 97, wd := 327680, ht := 262144 }
theorem ch_right : right chN = true := right_s chN 1 rfl rfl rfl rfl
theorem en_right : right (nz 6) = true := right_s (nz 6) 6 rfl rfl rfl rfl
def hbN : Nd := { nz 4 with wd := 655360, ht := 327680 }
def l2 : List Nd := [chN, chN]
def l4 : List Nd := wrapL hbN l2
theorem hb_right : right hbN = true := right_s hbN 4 rfl rfl rfl rfl
theorem l2_chk : chk l2 = 0 := by
  have h : Np.run l2 ([], 0) = some ([], 1) := by
    simp only [l2, Np.run, stp, ch_right]
    rfl
  exact chk_of_run (by decide) h (by decide)
theorem l4_chk : chk l4 = 0 := by
  have h : Np.run l4 ([], 0) = some ([], 2) := by
    simp only [l4, l2, wrapL, List.cons_append, List.nil_append, Np.run, stp, ch_right, hb_right, en_right]
    rfl
  exact chk_of_run (by decide) h (by decide)
theorem l2_its : Its [0, 1] l2 0 := ⟨rfl, 1, rfl, rfl, 1, rfl, rfl⟩
def chS : Stn := ⟨1, 0, 97, 0, 0, 0, 0, ⟨#[]⟩⟩
theorem l4_places (A : Option Addr) (c : Nat) (w : World) (hk : l4.length ≤ c) (hs : Seg w w.heap.size A (l4.flatMap ncs)) : Calls Tryz.prog 55 #[.slice A l4.length c, .int .i64 0] w (PlOut [0, 327680] 0 w) := by
  obtain ⟨f, hf, hv, hz⟩ := size_case l2 false l2_chk
  have f0 : f 0 = 327680 := hv 0 chN rfl (.inr (by decide))
  have hin : innerL l4 0 4 = l2 := rfl
  have hI := inside_ok A l4 c 0 4 hbN w hk hs l4_chk rfl rfl rfl rfl
  rw [hin] at hI
  have h := places_ok A l4 l2 c 0 hbN [0, 1] f w hk (by decide) hs rfl (.inl rfl) hI l2_chk l2_its hf hz
  have e : plcR hbN l2 f [0, 1] = ([0, 327680], 0) := by
    unfold plcR
    have hg : skF l2 [0, 1] [] = [] := rfl
    rw [hg]
    have h1 : Gl.szE [] hbN.sign hbN.order hbN.num hbN.den = 0 := by decide
    have h2 : Gl.szL [] hbN.sign hbN.order hbN.num hbN.den = [] := by decide
    rw [h1, h2, if_pos rfl]
    have h3 : ∀ f : Nat → Int, f 0 = 327680 → (plF l2 f [0, 1] ⟨0, [], []⟩).out = [0, 327680] := by
      intro f h0
      show [(0 : Int), 0 + f 0] = _
      rw [h0]
      rfl
    rw [h3 f f0]
  rw [e] at h
  exact h
theorem l4_box : ∃ F : Int → Int → Prop, F 0 327680 ∧ BoxC l4 [shS 0 0 chS, shS 327680 0 chS] F := by
  refine ⟨_, ?_, box_of l4 l2 hbN [0, 1] [0, 327680] 0 (fun _ => [chS]) (fun _ h v => (dimB h && dimB v) = true) rfl (by decide) (by decide) rfl (.inl rfl) l2_chk l2_its l4_places (fun _ => rfl) ?_⟩
  · refine ⟨by decide, rfl, fun i x hx => ⟨fun _ => ?_, fun h => by cases h⟩⟩
    match i, hx with
    | 0, hx => simp at hx; subst hx; show (dimB (wrap64 (0 + 0)) && dimB 327680) = true; rw [show wrap64 (0 + 0) = 0 by unfold wrap64; omega]; rfl
    | 1, hx => simp at hx; subst hx; show (dimB (wrap64 (0 + 327680)) && dimB 327680) = true; rw [show wrap64 (0 + 327680) = 327680 by unfold wrap64; omega]; rfl
  · intro i y m hy hm
    refine ⟨fun _ => ?_, fun h => by cases h⟩
    match i, hy with
    | 0, hy =>
      simp at hy
      subst hy
      have e : m = 1 := by have : endc (l2.drop 0) 0 = some 1 := rfl; rw [this] at hm; injection hm with hm; exact hm.symm
      subst e
      exact acr_char [chN] hbN chN rfl rfl
    | 1, hy =>
      simp at hy
      subst hy
      have e : m = 1 := by have : endc (l2.drop 1) 0 = some 1 := rfl; rw [this] at hm; injection hm with hm; exact hm.symm
      subst e
      exact acr_char [chN] hbN chN rfl rfl
theorem num23_any (x : Int) (w : World) : Calls Tryz.prog 28 #[.int .i64 x] w fun e w' => e = .returned (.int .i64 x) ∧ w = w' := by
  go_enter Tryz.func28, Tryz.ntmps28
  go_wp2
  go_ret
  exact ⟨rfl, rfl⟩
theorem new_seg (W : World) (xs : List Value) (t : TypeId) : Seg (W.alloc (.cells xs.toArray t)) (W.alloc (.cells xs.toArray t)).heap.size (some ⟨W.heap.size, 0, none⟩) xs := by
  refine .inr ⟨W.heap.size, 0, rfl, by simp, fun j u hu => ?_⟩
  rw [Nat.zero_add, (Blk.new W _ _).cell j]
  simpa using hu
def BxP (w : World) (e : Ending) (w' : World) : Prop := ∃ g, e = .returned (.slice (some ⟨g, 0, none⟩) 4 4) ∧ Seg w' w'.heap.size (some ⟨g, 0, none⟩) (l4.flatMap ncs) ∧ Below w.heap.size w w'
section
attribute [local go_sem ↓] bldN_eq
set_option maxHeartbeats 1000000 in
set_option maxRecDepth 100000 in
theorem box23_any (w : World) : Calls Tryz.prog 71 #[] w (BxP w) := by
  have hb1 : ∀ w, (bldN #[(0, .int .i64 1), (2, .int .u8 97), (3, .int .i64 327680), (4, .int .i64 262144)]).run Tryz.prog w = .ok (.agg (nc chN)) w := fun w => by rw [← bldN_eq]; exact run_build w 101 _ _ (by kernel_rfl)
  have hb2 : ∀ w, (bldN #[(0, .int .i64 4), (3, .int .i64 655360), (4, .int .i64 327680)]).run Tryz.prog w = .ok (.agg (nc hbN)) w := fun w => by rw [← bldN_eq]; exact run_build w 101 _ _ (by kernel_rfl)
  have hb3 := fun w => run_bldN 6 w
  go_enter Tryz.func71, Tryz.ntmps71
  go_upto_region 2 with (first | (refine wpList_alloc_node rfl rfl ?_) | (refine wpList_store_node rfl _ _ rfl _ _ _ rfl rfl _ (by repeat (first | (apply Blk.new'; first | rfl | (simp; done)) | assumption | apply Blk.alloc)) ?_))
  rw [setRow_new _ _ _ _ _ rfl]
  have hW := andAlloc (Below.refl w.heap.size w) (.cells (nc chN) 101)
  have hnd : NodeAt (w.alloc (.cells (nc chN) 101)) w.heap.size 0 chN := (Blk.new w 101 (nc chN)).node
  generalize w.alloc (.cells (nc chN) 101) = W at hW hnd ⊢
  have HW := Lib.hid hW
  generalize w.heap.size = g1 at hnd ⊢
  clear hW
  go_wp2_with (first | (refine wpList_load_node rfl _ rfl _ _ rfl _ (by repeat (first | apply NodeAt.row | (apply Blk.new'; first | rfl | (simp; done)) | (apply Blk.node; apply Blk.new'; first | rfl | (simp; done)) | assumption | apply NodeAt.alloc)) ?_) | (refine wpList_ex (o := ⟨some 7, _, _, _, _, _⟩) (v := .slice (some ⟨W.heap.size, 0, none⟩) 4 4) (w' := W.alloc (.cells (l4.flatMap ncs).toArray 101)) rfl (by kernel_rfl) ?_))
  go_ret
  exact ⟨_, rfl, new_seg _ _ _, andAlloc HW.out _⟩
end
theorem stands_l4 : ([shS 0 0 chS, shS 327680 0 chS].map (mvS 0 327680)) = [⟨1, 0, 97, 0, 327680, 0, 0, ⟨#[]⟩⟩, ⟨1, 0, 97, 327680, 327680, 0, 0, ⟨#[]⟩⟩] := by
  have a1 : wrap64 (0 + (0 + 0)) = 0 := by unfold wrap64; omega
  have a2 : wrap64 (327680 + (0 + 0)) = 327680 := by unfold wrap64; omega
  have a3 : wrap64 (0 + (327680 + 0)) = 327680 := by unfold wrap64; omega
  simp only [List.map_cons, List.map_nil, mvS, shS, chS, a1, a2, a3]
set_option maxHeartbeats 1000000 in
set_option maxRecDepth 100000 in
theorem knows23 (w : World) : Calls Tryz.prog 33 #[] w fun e w' => e = .returned (.bool true) ∧ Below w.heap.size w w' := by
  obtain ⟨F, hF, hB⟩ := l4_box
  have HF := Lib.hid hF
  have HS := Lib.hid (fun g w1 (hs : Seg w1 w1.heap.size (some ⟨g, 0, none⟩) (l4.flatMap ncs)) => stands_ok [shS 0 0 chS, shS 327680 0 chS] (some ⟨g, 0, none⟩) l4 4 0 327680 w1 (by decide) l4_chk hs ⟨hbN, rfl, .inl rfl, rfl⟩ F hB (by unfold W64i wrap64; omega) (by unfold W64i wrap64; omega))
  clear hF hB
  rw [show l4.length = 4 from rfl] at HS
  go_enter Tryz.func33, Tryz.ntmps33
  go_wp2_with fail
  refine (box23_any _).mono ?_
  rintro e w1 ⟨g, rfl, hs, hb1⟩
  have HSG := Lib.hid hs
  have HB1 := Lib.hid hb1
  clear hs hb1
  go_wp2_with fail
  refine (HS.out g w1 HSG.out).mono ?_
  rintro e w2 ⟨vo, out, E, rfl, ho, hb2, hcase, hG⟩
  obtain rfl : E = 0 := hG HF.out
  obtain rfl : out = _ := by
    rcases hcase with ⟨_, h⟩ | ⟨h, _⟩
    · exact h
    · exact absurd rfl h
  rw [stands_l4] at ho
  obtain ⟨Ao, co, rfl, _, _, hsg⟩ := Seg.of_own ho
  obtain ⟨bo, oo, rfl, _, hcl⟩ := hsg.open_ (by simp [Stn.cs])
  have c3 : w2.cell? ⟨bo, oo + 3, none⟩ = some (.int .i64 0) := hcl 3 _ rfl
  have c10 : w2.cell? ⟨bo, oo + 8 + 2, none⟩ = some (.int .u8 97) := hcl 10 _ rfl
  have c11 : w2.cell? ⟨bo, oo + 8 + 3, none⟩ = some (.int .i64 327680) := hcl 11 _ rfl
  have c12 : w2.cell? ⟨bo, oo + 8 + 4, none⟩ = some (.int .i64 327680) := hcl 12 _ rfl
  have HB2 := Lib.hid (andThen HB1.out hb2)
  clear ho hb2 hcase hG hsg hcl
  simp only [List.length_cons, List.length_nil, Nat.zero_add, Nat.reduceAdd]
  go_wp2_with (go_at_call 28; refine (num23_any _ _).mono ?_; rintro e w' ⟨rfl, rfl⟩)
  go_ret
  exact ⟨rfl, HB2.out⟩
end Go.Proofs.YtoboecenlangmaaGreat.Dv
end
section
namespace Go.Proofs.YtoboecenlangmaaGreat.Rd
open Go.ChangeShapes Go.WideShapes Go.RowKit Go.Deep
set_option linter.unusedVariables false

section
variable {H : Type} (enc : TypeId × Value → H) (P : Program) (w : World)
/-- These cells read as this type; all that is read lies in memory that is there, and is within reach. -/
def Rd (t : TypeId) (cs : List Value) : Prop :=
  ∃ (fuel : Nat) (x : DataW H × List MemPlace), DataW.trod enc P w 0 (fun _ => true) true fuel t cs = some x ∧ (∀ p ∈ x.2, p.block < w.heap.size) ∧ ∀ n ∈ x.1.weights P t, n ≤ reachBytes
end

section
variable {H : Type} {enc : TypeId × Value → H} {P : Program} {w : World}
theorem Rd.struct {t : TypeId} {fs : Array Field} {cs : List Value} (ht : P.underlying t = some (.struct fs)) (h : Rd enc P w t cs) :
    cs.length = P.cellsOf t ∧ ∀ (i : Nat) (f : Field), fs[i]? = some f → Rd enc P w f.type ((cs.drop f.offset).take (P.cellsOf f.type)) := by
  obtain ⟨fuel, x, h, hp, hw⟩ := h
  obtain ⟨xs, n, _, rfl, hl, hxl, hat⟩ := DataW.trod_struct ht h
  refine ⟨hl, fun i f hf => ?_⟩
  have h1 := hat i f hf
  have hi : i < xs.length := by
    rw [hxl]
    rcases Nat.lt_or_ge i fs.size with h2 | h2
    · exact h2
    · rw [Array.getElem?_eq_none h2] at hf; cases hf
  rw [List.getElem?_eq_getElem hi] at h1
  refine ⟨n, xs[i], h1, fun p hpp => hp p (List.mem_flatMap.2 ⟨_, List.getElem_mem hi, hpp⟩), fun k hk => ?_⟩
  apply hw
  have e1 : (DataW.agg (xs.map (·.1))).weights P t = DataW.weightsEach P (fs.toList.map (·.type)) (xs.map (·.1)) := by simp [DataW.weights, ht]
  show k ∈ (DataW.agg (xs.map (·.1))).weights P t
  rw [e1]
  exact DataW.weights_mem_each (j := i) (t := f.type) (d := xs[i].1) (by simp [hf]) (by simp [List.getElem?_eq_getElem hi]) k hk
theorem weightsAll_mem {e : TypeId} {d : DataW H} {n : Nat} (hn : n ∈ d.weights P e) : ∀ {l : List (DataW H)}, d ∈ l → n ∈ DataW.weightsAll P e l
  | a :: l, h => by
    simp only [DataW.weightsAll, List.mem_append]
    rcases List.mem_cons.1 h with rfl | h
    · exact .inl hn
    · exact .inr (weightsAll_mem hn h)
/-- A slice: where it lies, and its elements. -/
theorem Rd.slice {t e : TypeId} {cs : List Value} (ht : P.underlying t = some (.slice e)) (h : Rd enc P w t cs) :
    ∃ (A : Option Addr) (c : Nat) (rows : List (List Value)), cs = [.slice A rows.length c] ∧ rows.length ≤ c ∧ c ≤ maxLen ∧ c * P.bytesOf e ≤ reachBytes ∧ Me.Seg w w.heap.size A rows.flatten ∧ (A = none → c = 0) ∧
      ∀ x ∈ rows, x.length = P.cellsOf e ∧ Rd enc P w e x := by
  obtain ⟨fuel, x, hf, hp, hw⟩ := h
  rcases open_slice ht hf with ⟨h0, hx⟩ | ⟨a, len0, m, m', nn, D, Pl, hcs, _, hlc, hcm, hm, hx, hi⟩
  · subst h0
    exact ⟨none, 0, [], rfl, Nat.le_refl _, by simp [maxLen], by simp, .inl rfl, fun _ => rfl, by simp⟩
  · subst hcs
    simp only [if_true] at hm
    subst hm
    subst hx
    have hrow : ∀ i, i < m' → ∃ cs, w.cells? 0 (a.add (i * P.cellsOf e)) (P.cellsOf e) = some cs ∧ Rd enc P w e cs := by
      intro i hil
      obtain ⟨cs, h1, h2⟩ := hi i hil
      refine ⟨cs, h1, nn, _, h2, fun p hpp => hp p (List.mem_append_right _ (List.mem_flatMap.2 ⟨i, List.mem_range.2 hil, hpp⟩)), fun k hk => hw k ?_⟩
      simp only [DataW.weights, ht]
      refine List.mem_cons_of_mem _ (List.mem_append.2 ?_)
      rcases Nat.lt_or_ge i len0 with h3 | h3
      · exact .inl (weightsAll_mem hk (List.mem_map.2 ⟨i, List.mem_range.2 h3, rfl⟩))
      · refine .inr (weightsAll_mem hk (List.mem_map.2 ⟨i - len0, List.mem_range.2 (by omega), ?_⟩))
        show D (len0 + (i - len0)) = D i
        rw [Nat.add_sub_cancel' h3]
    let R : Nat → List Value := fun i => (w.cells? 0 (a.add (i * P.cellsOf e)) (P.cellsOf e)).getD []
    have hR : ∀ i, i < m' → (R i).length = P.cellsOf e ∧ Rd enc P w e (R i) ∧ ∀ j, j < P.cellsOf e → w.cell? ((a.add (i * P.cellsOf e)).add j) = (R i)[j]? := by
      intro i hil
      obtain ⟨cs, h1, h2⟩ := hrow i hil
      have e1 : R i = cs := by simp [R, h1]
      rw [e1]
      exact ⟨(World.cells?_some h1).2.1, h2, (World.cells?_some h1).2.2⟩
    have hlen : ∀ i, i < len0 → (R i).length = P.cellsOf e := fun i hil => (hR i (by omega)).1
    refine ⟨some a, m', (List.range len0).map R, by simp, by simpa using hlc, hcm, ?_, ?_, (by intro hh; cases hh), ?_⟩
    · have h5 := hw ((((List.range len0).map D).length + ((List.range (m' - len0)).map fun j => D (len0 + j)).length) * P.bytesOf e) (by simp [DataW.weights, ht])
      simp only [List.length_map, List.length_range] at h5
      rwa [show len0 + (m' - len0) = m' by omega] at h5
    · by_cases hz : ((List.range len0).map R).flatten = []
      · exact .inl hz
      · have hpos : 0 < len0 * P.cellsOf e := by
          rcases Nat.eq_zero_or_pos (len0 * P.cellsOf e) with h1 | h1
          · exfalso
            apply hz
            rw [List.flatten_eq_nil_iff]
            intro l hl'
            obtain ⟨i, hi', rfl⟩ := List.mem_map.1 hl'
            have hil := List.mem_range.1 hi'
            have h2 := hlen i hil
            rcases Nat.mul_eq_zero.1 h1 with h3 | h3
            · omega
            · rw [h3] at h2; exact List.eq_nil_of_length_eq_zero h2
          · exact h1
        have hlen0 : 0 < len0 := Nat.pos_of_mul_pos_right hpos
        have hce : 0 < P.cellsOf e := Nat.pos_of_mul_pos_left hpos
        have hcell0 : ∃ u, w.cell? a = some u := by
          obtain ⟨h1, _, h2⟩ := hR 0 (by omega)
          have h3 := h2 0 hce
          have h4 : (a.add (0 * P.cellsOf e)).add 0 = a := by simp [Addr.add]
          rw [h4] at h3
          refine ⟨_, h3.trans (List.getElem?_eq_getElem (by rw [hlen 0 hlen0]; exact hce))⟩
        obtain ⟨u0, hu0⟩ := hcell0
        have hspot : a.spot = none := World.cell?_spot hu0
        obtain ⟨b, off, sp⟩ := a
        simp only at hspot
        subst hspot
        refine .inr ⟨b, off, rfl, ?_, ?_⟩
        · have hm0 : 0 < m' * P.cellsOf e := Nat.mul_pos (by omega) hce
          exact hp (.cell b off) (List.mem_append_left _ (List.mem_map.2 ⟨0, List.mem_range.2 hm0, rfl⟩))
        · intro j u hu
          have hall : ∀ (k : Nat) (l : List Nat), (∀ i ∈ l, i < len0) → ∀ j u, ((l.map R).flatten)[j]? = some u → ∃ i q, l[i]? ≠ none ∧ j = i * P.cellsOf e + q ∧ q < P.cellsOf e ∧ ∃ z, l[i]? = some z ∧ (R z)[q]? = some u := by
            intro k l
            induction l with
            | nil => intro _ j u h; simp at h
            | cons z l ih =>
              intro hl' j u h
              simp only [List.map_cons, List.flatten_cons] at h
              have hz1 := hlen z (hl' z (by simp))
              rcases Nat.lt_or_ge j (P.cellsOf e) with hj | hj
              · rw [List.getElem?_append_left (by omega)] at h
                exact ⟨0, j, by simp, by omega, hj, z, by simp, h⟩
              · rw [List.getElem?_append_right (by omega), hz1] at h
                obtain ⟨i, q, h1, h2, h3, y, h4, h5⟩ := ih (fun i hi' => hl' i (by simp [hi'])) _ _ h
                refine ⟨i + 1, q, by simpa using h1, ?_, h3, y, by simpa using h4, h5⟩
                rw [Nat.add_mul]; omega
          obtain ⟨i, q, _, hj, hq, z, hz1, hz2⟩ := hall 0 (List.range len0) (fun i hi' => List.mem_range.1 hi') j u hu
          have hzi : z = i ∧ i < len0 := by
            have hil : i < len0 := by
              rcases Nat.lt_or_ge i len0 with h1 | h1
              · exact h1
              · rw [List.getElem?_eq_none (by simpa using h1)] at hz1; cases hz1
            rw [List.getElem?_range hil] at hz1
            injection hz1 with hz1
            exact ⟨hz1.symm, hil⟩
          obtain ⟨rfl, hil⟩ := hzi
          have h6 := (hR z (by omega)).2.2 q hq
          rw [hz2] at h6
          rw [← h6, hj]
          congr 1
          unfold Addr.add
          by_cases h7 : z * P.cellsOf e = 0 <;> by_cases h8 : q = 0 <;> simp [h7, h8, Nat.add_assoc]
    · intro x hx
      obtain ⟨i, hi', rfl⟩ := List.mem_map.1 hx
      have := hR i (by have := List.mem_range.1 hi'; omega)
      exact ⟨this.1, this.2.1⟩
theorem Rd.int {t : TypeId} {k : IntKind} {cs : List Value} (hu : P.underlying t = some (.int k)) (h : Rd enc P w t cs) : ∃ z : Int, cs = [.int k z] ∧ (Lit.int k z).wf = true := by
  obtain ⟨fuel, x, h, _, _⟩ := h
  obtain ⟨z, h1, _, h2⟩ := DataW.trod_int hu h
  exact ⟨z, h1, h2⟩
/-- An argument. -/
theorem Rd.arg {ts : List TypeId} {ds : List (DataW H)} {j : Nat} {t : TypeId} {v : Value} {d : DataW H} {ps : List MemPlace} (h : DataW.Trod enc P w 0 (fun _ => true) true t v d ps) (hlt : ∀ x ∈ ps, x.block < w.heap.size)
    (hsz : (DataW.weightsEach P ts ds).all (· ≤ reachBytes) = true) (ht : ts[j]? = some t) (hd : ds[j]? = some d) : Rd enc P w t v.cells.toList := by
  obtain ⟨fuel, hf⟩ := h
  exact ⟨fuel, _, hf, hlt, fun n hn => by simpa using List.all_eq_true.1 hsz _ (DataW.weights_mem_each ht hd n hn)⟩
end
end Go.Proofs.YtoboecenlangmaaGreat.Rd
end
section
namespace Go.Proofs.YtoboecenlangmaaGreat.Li
open Go.ChangeShapes Go.WideShapes Go.ChangeAt Go.RowKit

section
variable {H : Type} {enc : TypeId × Value → H} {P : Program}

theorem trodAll_below (hl : laidOutB P = true) {W W' : World} (hb : Below W.heap.size W W') {sp : Nat → Bool} :
    ∀ {ts : List TypeId} {vs : List Value} {ds : List (DataW H)} {p : List MemPlace}, ts.all (fun t => P.readableRec t && decide (t < P.types.size)) = true → DataW.TrodAll enc P W 0 (fun _ => true) true ts vs ds p →
      (∀ x ∈ p, x.block < W.heap.size) → (∀ x ∈ p, sp x.block = true) → DataW.TrodAll enc P W' 0 sp true ts vs ds p
  | [], _, _, _, _, h, _, _ => by
    obtain ⟨rfl, rfl, rfl⟩ := trodAll_nil h
    exact trodAll_mk0
  | t :: ts, _, _, _, hr, h, hlt, hs => by
    obtain ⟨v, vs1, d, ds1, a, b, rfl, rfl, rfl, h1, h2⟩ := trodAll_cons h
    simp only [List.all_cons, Bool.and_eq_true, decide_eq_true_eq] at hr
    refine trodAll_cons_mk (WideElems.Trod_stays hl hr.1.1 hr.1.2 h1 (fun x hx => hb.same (hlt x (by simp [hx]))) (fun x hx => hs x (by simp [hx]))) ?_
    exact trodAll_below hl hb (by simpa using hr.2) h2 (fun x hx => hlt x (by simp [hx])) (fun x hx => hs x (by simp [hx]))

theorem law_post {f : Func} {s : ChangeSpec} {apart fresh handsOn again : Bool} {W W' : World} {args : Array Value} {ds gs : List (DataW H)} {before : List MemPlace} {tb : TypeId}
    (hl : laidOutB P = true) (hv : s.vars = []) (hW : DataW.Whole enc P f.params.toList s.vars apart W args.toList ds gs before) (hr : f.params.toList.all (fun t => P.readableRec t && decide (t < P.types.size)) = true)
    (hres : (s.fn H (ds ++ gs)).results = [.lit (.bool true)]) (hargs : (s.fn H (ds ++ gs)).args = ds) (hvars : (s.fn H (ds ++ gs)).vars = []) (hrt : f.resultTypes = #[tb]) (htb : P.underlying tb = some .bool)
    (hb : Below W.heap.size W W') : s.post enc P f apart fresh handsOn again W args (.bool true) W' := by
  have hlt0 := hW.lt
  obtain ⟨p, q, hA, hV, he, hfz, hnd⟩ := id hW
  rw [hv] at hV
  obtain ⟨rfl, rfl⟩ := trodVars_none hV
  rw [List.append_nil] at he
  subst he
  have hlt : ∀ x ∈ before, x.block < W.heap.size := fun x hx => hlt0 x hx
  have hR : ∀ (b : Nat) (sp : Nat → Bool) (hd : Bool), DataW.TrodAll enc P W' b sp hd f.resultTypes.toList ((Value.bool true).resultList f.resultTypes.size) (s.fn H (ds ++ [])).results [] := by
    intro b sp hd
    rw [hrt, hres]
    exact trodAll_mk1 (shut_bool htb _)
  have hVW : ∀ sp : Nat → Bool, DataW.TrodVars enc P W' sp s.vars (s.fn H (ds ++ [])).vars [] := by
    intro sp
    rw [hv, hvars]
    rfl
  have hAW : ∀ sp : Nat → Bool, (∀ x ∈ before, sp x.block = true) → DataW.TrodAll enc P W' 0 sp true f.params.toList args.toList (s.fn H (ds ++ [])).args before := by
    intro sp hs
    rw [hargs]
    exact trodAll_below hl hb hr hA hlt hs
  refine ⟨ds, [], before, [], before, [], hW, hR _ _ _, hAW _ (fun x hx => by simpa using hlt x hx), hVW _, World.keptBut_mono (fun x hx => ⟨hx, .inr (.inl hx)⟩) (hb.frame (· ∈ before)), fun _ => ⟨?_, ?_⟩⟩
  · exact ok_one hrt rfl (okWide_bool_mk htb _)
  · refine ⟨_, _, [] ++ before ++ [], ⟨[] ++ before, [], trodAll_append (hAW _ (fun _ _ => rfl)) (hR _ _ _), hVW _, rfl, ?_, ?_⟩, ?_⟩
    · intro b off hx
      have hx' : MemPlace.cell b off ∈ before := by simpa using hx
      rw [hb.frozen (hlt _ hx')]
      exact hfz b off hx'
    · intro ha
      simpa using hnd ha
    · intro x hx _
      simpa using hx
end
end Go.Proofs.YtoboecenlangmaaGreat.Li
end
section
namespace Go.Proofs.YtoboecenlangmaaGreat.Le
open Go.ChangeShapes Go.WideShapes Go.RowKit Go.Deep

/-- The types of a type's cells. -/
def lv (P : Program) : Nat → TypeId → List TypeId
  | 0, t => [t]
  | n + 1, t => match P.underlying t with
    | some (.struct fs) => fs.toList.flatMap fun f => lv P n f.type
    | some (.array k e) => (List.replicate k (lv P n e)).flatten
    | _ => [t]

/-- The cells' types are where the type's own table says. -/
def good (P : Program) : Nat → TypeId → Bool
  | 0, t => P.cellsOf t == 1
  | n + 1, t => match P.underlying t with
    | some (.struct fs) => (P.cellsOf t == (lv P (n + 1) t).length) && fs.toList.all (fun f => good P n f.type) &&
        (List.range (lv P (n + 1) t).length).all fun i => (List.range fs.size).any fun j => match fs[j]? with
          | some f => decide (f.offset ≤ i) && decide (i < f.offset + P.cellsOf f.type) && decide (f.offset + P.cellsOf f.type ≤ P.cellsOf t) && decide ((lv P n f.type)[i - f.offset]? = (lv P (n + 1) t)[i]?)
          | none => false
    | some (.array k e) => (P.cellsOf t == (lv P (n + 1) t).length) && good P n e &&
        (List.range (lv P (n + 1) t).length).all fun i => (List.range k).any fun j => decide (j * P.cellsOf e ≤ i) && decide (i < j * P.cellsOf e + P.cellsOf e) && decide (j * P.cellsOf e + P.cellsOf e ≤ P.cellsOf t) && decide ((lv P n e)[i - j * P.cellsOf e]? = (lv P (n + 1) t)[i]?)
    | _ => P.cellsOf t == 1

section
variable {H : Type} {enc : TypeId × Value → H} {P : Program} {w : World} {base : Nat} {spare : Nat → Bool} {held : Bool}

theorem slice_get {cs : List Value} {o c i : Nat} (h0 : o ≤ i) (h1 : i < o + c) : ((cs.drop o).take c)[i - o]? = cs[i]? := by
  rw [List.getElem?_take, if_pos (by omega), List.getElem?_drop]
  congr 1
  omega

/-- Each cell reads as its leaf's type. -/
theorem leaves : ∀ (n : Nat) {t : TypeId} {fuel : Nat} {cs : List Value} {x : DataW H × List MemPlace}, good P n t = true → cs.length = P.cellsOf t → DataW.trod enc P w base spare held fuel t cs = some x →
    ∀ (i : Nat) (u : TypeId), (lv P n t)[i]? = some u → ∃ (v : Value) (m : Nat) (y : DataW H × List MemPlace), cs[i]? = some v ∧ DataW.trod enc P w base spare held m u [v] = some y
  | 0, t, fuel, cs, x, hg, hl, h, i, u, hu => by
    simp only [lv] at hu
    match i, hu with
    | 0, hu =>
      simp at hu
      subst hu
      unfold good at hg
      rw [beq_iff_eq] at hg
      rw [hg] at hl
      match cs, hl with
      | [v], _ => exact ⟨v, fuel, x, rfl, h⟩
    | i + 1, hu => simp at hu
  | n + 1, t, fuel, cs, x, hg, hl, h, i, u, hu => by
    have hilt : i < (lv P (n + 1) t).length := by
      rcases Nat.lt_or_ge i (lv P (n + 1) t).length with h1 | h1
      · exact h1
      · rw [List.getElem?_eq_none h1] at hu; cases hu
    unfold good at hg
    split at hg
    · rename_i fs hfs
      simp only [Bool.and_eq_true, List.all_eq_true] at hg
      obtain ⟨⟨_, hgf⟩, hcov⟩ := hg
      have hc := hcov i (List.mem_range.2 hilt)
      simp only [List.any_eq_true] at hc
      obtain ⟨j, hj, hc⟩ := hc
      split at hc
      · rename_i f hf
        simp only [Bool.and_eq_true, decide_eq_true_eq] at hc
        obtain ⟨⟨⟨h1, h2⟩, h4⟩, h3⟩ := hc
        obtain ⟨xs, n', _, _, hcl, hxl, hat⟩ := DataW.trod_struct hfs h
        have hjl : j < fs.size := by
          rcases Nat.lt_or_ge j fs.size with hh | hh
          · exact hh
          · rw [Array.getElem?_eq_none hh] at hf; cases hf
        have hxj : xs[j]? = some (xs[j]'(by omega)) := List.getElem?_eq_getElem (by omega)
        have ht := (hat j f hf).trans hxj
        have hmem : f ∈ fs.toList := by
          have := Array.mem_of_getElem? hf
          simpa using this
        have hlen : ((cs.drop f.offset).take (P.cellsOf f.type)).length = P.cellsOf f.type := by
          rw [List.length_take, List.length_drop]
          omega
        obtain ⟨v, m, y, hv, hy⟩ := leaves n (hgf f hmem) hlen ht (i - f.offset) u (by rw [h3]; exact hu)
        exact ⟨v, m, y, by rw [← slice_get h1 h2]; exact hv, hy⟩
      · cases hc
    · rename_i k e he
      simp only [Bool.and_eq_true, List.all_eq_true] at hg
      obtain ⟨⟨_, hge⟩, hcov⟩ := hg
      have hc := hcov i (List.mem_range.2 hilt)
      simp only [List.any_eq_true, List.mem_range, Bool.and_eq_true, decide_eq_true_eq] at hc
      obtain ⟨j, hj, ⟨⟨h1, h2⟩, h4⟩, h3⟩ := hc
      obtain ⟨xs, n', _, _, hcl, hxl, hat⟩ := DataW.trod_array he h
      have hxj : xs[j]? = some (xs[j]'(by omega)) := List.getElem?_eq_getElem (by omega)
      have ht := (hat j hj).trans hxj
      have hlen : ((cs.drop (j * P.cellsOf e)).take (P.cellsOf e)).length = P.cellsOf e := by
        rw [List.length_take, List.length_drop]
        omega
      obtain ⟨v, m, y, hv, hy⟩ := leaves n hge hlen ht (i - j * P.cellsOf e) u (by rw [h3]; exact hu)
      exact ⟨v, m, y, by rw [← slice_get h1 h2]; exact hv, hy⟩
    · rename_i hns hna
      have hlv : lv P (n + 1) t = [t] := by
        unfold lv
        split
        · rename_i fs hfs; exact absurd hfs (hns fs)
        · rename_i k e he; exact absurd he (hna k e)
        · rfl
      rw [hlv] at hu
      match i, hu with
      | 0, hu =>
        simp at hu
        subst hu
        rw [beq_iff_eq] at hg
        rw [hg] at hl
        match cs, hl with
        | [v], _ => exact ⟨v, fuel, x, rfl, h⟩
      | i + 1, hu => simp at hu
end

section
variable {H : Type} {enc : TypeId × Value → H} {P : Program} {w : World} {base : Nat} {spare : Nat → Bool} {held : Bool}

/-- What is known of a row of cells of type t. -/
def Cells (enc : TypeId × Value → H) (P : Program) (w : World) (base : Nat) (spare : Nat → Bool) (held : Bool) (ls : List TypeId) (cs : List Value) : Prop :=
  cs.length = ls.length ∧ ∀ (i : Nat) (u : TypeId), ls[i]? = some u → ∃ (v : Value) (m : Nat) (y : DataW H × List MemPlace), cs[i]? = some v ∧ DataW.trod enc P w base spare held m u [v] = some y

/-- A struct that comes by value. -/
theorem open_flat {r : Reach} {b0 : Nat} {t : TypeId} {fs : Array Field} {v : Value} {d : DataW H} {ps : List MemPlace} (n : Nat) (ls : List TypeId) (hs : P.underlying t = some (.struct fs)) (hg : good P n t = true) (hl : lv P n t = ls) (hc : P.cellsOf t = ls.length)
    (hv : Value.okWide P w r b0 t v) (h : DataW.Trod enc P w base spare held t v d ps) : ∃ cs : List Value, v = .agg cs.toArray ∧ Cells enc P w base spare held ls cs := by
  obtain ⟨cs, rfl, hsz⟩ := okWide_struct hs hv
  obtain ⟨fuel, hf⟩ := h
  refine ⟨cs.toList, by simp, by simp [hsz, hc], fun i u hu => ?_⟩
  exact leaves n hg (by simp [hsz]) (by simpa [Value.cells] using hf) i u (by rw [hl]; exact hu)

/-- A slice that comes in: where it lies, and its elements' cells. -/
theorem open_rows0 {r : Reach} {b0 : Nat} {t e : TypeId} {v : Value} {d : DataW H} {ps : List MemPlace} (n : Nat) (ls : List TypeId) (ht : P.underlying t = some (.slice e)) (hg : good P n e = true) (hl : lv P n e = ls) (hc : P.cellsOf e = ls.length)
    (hv : Value.okWide P w r b0 t v) (h : DataW.Trod enc P w base (fun _ => true) held t v d ps) (hlt : ∀ x ∈ ps, x.block < w.heap.size) :
    ∃ (A : Option Addr) (c : Nat) (rows : List (List Value)), v = .slice A rows.length c ∧ rows.length ≤ c ∧ c ≤ maxLen ∧ (∀ cs ∈ rows, Cells enc P w base (fun _ => true) held ls cs) ∧ Me.Seg w w.heap.size A rows.flatten ∧ (A = none → c = 0) ∧
      (∃ es sp : List (DataW H), (d = .slice es sp ∧ es.length = rows.length ∧ es.length + sp.length = c) ∨ (d = .nil ∧ rows = [] ∧ c = 0)) := by
  obtain ⟨fuel, hf⟩ := h
  obtain ⟨a0, len0, cap0, rfl⟩ := okWide_slice ht hv
  rw [show Value.cells (.slice a0 len0 cap0) = #[.slice a0 len0 cap0] from rfl] at hf
  rcases open_slice ht hf with ⟨h0, hx⟩ | ⟨a, len, cap, m, nn, D, Pl, hcs, _, hlc, hcm, hm, hx, hi⟩
  · simp at h0
    obtain ⟨rfl, rfl, rfl⟩ := h0
    simp only [Prod.mk.injEq] at hx
    exact ⟨none, 0, [], rfl, Nat.le_refl _, by simp [maxLen], by simp, .inl rfl, fun _ => rfl, [], [], .inr ⟨hx.1, rfl, rfl⟩⟩
  · simp at hcs
    obtain ⟨rfl, rfl, rfl⟩ := hcs
    simp only [if_true] at hm
    subst hm
    simp only [Prod.mk.injEq] at hx
    obtain ⟨hd, hps⟩ := hx
    have hrow : ∀ i, i < len0 → ∃ cs, w.cells? base (a.add (i * P.cellsOf e)) (P.cellsOf e) = some cs ∧ Cells enc P w base (fun _ => true) held ls cs := by
      intro i hil
      obtain ⟨cs, h1, h2⟩ := hi i (by omega)
      obtain ⟨_, h3, _⟩ := World.cells?_some h1
      exact ⟨cs, h1, by rw [h3, hc], fun j u hu => leaves n hg h3 h2 j u (by rw [hl]; exact hu)⟩
    let R : Nat → List Value := fun i => (w.cells? base (a.add (i * P.cellsOf e)) (P.cellsOf e)).getD []
    have hR : ∀ i, i < len0 → Cells enc P w base (fun _ => true) held ls (R i) ∧ ∀ j, j < P.cellsOf e → w.cell? ((a.add (i * P.cellsOf e)).add j) = (R i)[j]? := by
      intro i hil
      obtain ⟨cs, h1, h2⟩ := hrow i hil
      have e1 : R i = cs := by simp [R, h1]
      rw [e1]
      exact ⟨h2, (World.cells?_some h1).2.2⟩
    have hlen : ∀ i, i < len0 → (R i).length = P.cellsOf e := fun i hil => by rw [hc]; exact (hR i hil).1.1
    refine ⟨some a, m, (List.range len0).map R, by simp, by simpa using hlc, hcm, ?_, ?_, (by intro hh; cases hh), (List.range len0).map D, (List.range (m - len0)).map fun j => D (len0 + j), .inl ⟨hd, by simp, by simp; omega⟩⟩
    · intro cs hcs
      obtain ⟨i, hi', rfl⟩ := List.mem_map.1 hcs
      exact (hR i (List.mem_range.1 hi')).1
    · by_cases hz : ((List.range len0).map R).flatten = []
      · exact .inl hz
      · have hpos : 0 < len0 * P.cellsOf e := by
          rcases Nat.eq_zero_or_pos (len0 * P.cellsOf e) with h1 | h1
          · exfalso
            apply hz
            rw [List.flatten_eq_nil_iff]
            intro l hl'
            obtain ⟨i, hi', rfl⟩ := List.mem_map.1 hl'
            have hil := List.mem_range.1 hi'
            have h2 := hlen i hil
            rcases Nat.mul_eq_zero.1 h1 with h3 | h3
            · omega
            · rw [h3] at h2; exact List.eq_nil_of_length_eq_zero h2
          · exact h1
        have hlen0 : 0 < len0 := Nat.pos_of_mul_pos_right hpos
        have hce : 0 < P.cellsOf e := Nat.pos_of_mul_pos_left hpos
        have hcell0 : ∃ u, w.cell? a = some u := by
          obtain ⟨h1, h2⟩ := hR 0 hlen0
          have h3 := h2 0 hce
          have h4 : (a.add (0 * P.cellsOf e)).add 0 = a := by simp [Addr.add]
          rw [h4] at h3
          refine ⟨_, h3.trans (List.getElem?_eq_getElem (by rw [hlen 0 hlen0]; exact hce))⟩
        obtain ⟨u0, hu0⟩ := hcell0
        have hspot : a.spot = none := World.cell?_spot hu0
        obtain ⟨b, off, sp⟩ := a
        simp only at hspot
        subst hspot
        refine .inr ⟨b, off, rfl, ?_, ?_⟩
        · have hm0 := Nat.mul_le_mul_right (P.cellsOf e) hlc
          have := hlt (.cell b off) (by rw [hps]; exact List.mem_append_left _ (List.mem_map.2 ⟨0, List.mem_range.2 (by omega), rfl⟩))
          exact this
        · intro j u hu
          have hall : ∀ (k : Nat) (l : List Nat), (∀ i ∈ l, i < len0) → ∀ j u, ((l.map R).flatten)[j]? = some u → ∃ i q, l[i]? ≠ none ∧ j = i * P.cellsOf e + q ∧ q < P.cellsOf e ∧ ∃ z, l[i]? = some z ∧ (R z)[q]? = some u := by
            intro k l
            induction l with
            | nil => intro _ j u h; simp at h
            | cons z l ih =>
              intro hl' j u h
              simp only [List.map_cons, List.flatten_cons] at h
              have hz1 := hlen z (hl' z (by simp))
              rcases Nat.lt_or_ge j (P.cellsOf e) with hj | hj
              · rw [List.getElem?_append_left (by omega)] at h
                exact ⟨0, j, by simp, by omega, hj, z, by simp, h⟩
              · rw [List.getElem?_append_right (by omega), hz1] at h
                obtain ⟨i, q, h1, h2, h3, y, h4, h5⟩ := ih (fun i hi' => hl' i (by simp [hi'])) _ _ h
                refine ⟨i + 1, q, by simpa using h1, ?_, h3, y, by simpa using h4, h5⟩
                rw [Nat.add_mul]; omega
          obtain ⟨i, q, _, hj, hq, z, hz1, hz2⟩ := hall 0 (List.range len0) (fun i hi' => List.mem_range.1 hi') j u hu
          have hzi : z = i ∧ i < len0 := by
            have hil : i < len0 := by
              rcases Nat.lt_or_ge i len0 with h1 | h1
              · exact h1
              · rw [List.getElem?_eq_none (by simpa using h1)] at hz1; cases hz1
            rw [List.getElem?_range hil] at hz1
            injection hz1 with hz1
            exact ⟨hz1.symm, hil⟩
          obtain ⟨rfl, hil⟩ := hzi
          have h6 := (hR z hil).2 q hq
          rw [hz2] at h6
          rw [← h6, hj]
          congr 1
          unfold Addr.add
          by_cases h7 : z * P.cellsOf e = 0 <;> by_cases h8 : q = 0 <;> simp [h7, h8, Nat.add_assoc]
theorem open_rows {r : Reach} {b0 : Nat} {t e : TypeId} {v : Value} {d : DataW H} {ps : List MemPlace} (n : Nat) (ls : List TypeId) (ht : P.underlying t = some (.slice e)) (hg : good P n e = true) (hl : lv P n e = ls) (hc : P.cellsOf e = ls.length)
    (hv : Value.okWide P w r b0 t v) (h : DataW.Trod enc P w base (fun _ => true) held t v d ps) (hlt : ∀ x ∈ ps, x.block < w.heap.size) :
    ∃ (A : Option Addr) (c : Nat) (rows : List (List Value)), v = .slice A rows.length c ∧ rows.length ≤ c ∧ c ≤ maxLen ∧ (∀ cs ∈ rows, Cells enc P w base (fun _ => true) held ls cs) ∧ Me.Seg w w.heap.size A rows.flatten ∧
      (∃ es sp : List (DataW H), (d = .slice es sp ∧ es.length = rows.length ∧ es.length + sp.length = c) ∨ (d = .nil ∧ rows = [] ∧ c = 0)) := by
  obtain ⟨A, c, rows, h1, h2, h3, h4, h5, _, h6⟩ := open_rows0 n ls ht hg hl hc hv h hlt
  exact ⟨A, c, rows, h1, h2, h3, h4, h5, h6⟩
end

section
variable {H : Type} {enc : TypeId × Value → H} {P : Program} {w : World} {base : Nat} {spare : Nat → Bool} {held : Bool}
/-- Cells that are all integers of one kind. -/
theorem cells_ints {ti : TypeId} {k : IntKind} (hu : P.underlying ti = some (.int k)) : ∀ {n : Nat} {cs : List Value}, Cells enc P w base spare held (List.replicate n ti) cs →
    ∃ zs : List Int, zs.length = n ∧ cs = zs.map (Value.int k) ∧ ∀ z ∈ zs, (Lit.int k z).wf = true
  | 0, cs, h => ⟨[], rfl, by simpa using h.1, by simp⟩
  | n + 1, cs, h => by
    obtain ⟨hl, hc⟩ := h
    match cs, hl with
    | c :: cs, hl =>
      obtain ⟨v, m, y, hv, hy⟩ := hc 0 ti (by simp [List.replicate_succ])
      simp at hv
      subst hv
      obtain ⟨z, hz, _, hw⟩ := DataW.trod_int hu hy
      simp at hz
      subst hz
      obtain ⟨zs, h1, h2, h3⟩ := cells_ints hu (n := n) (cs := cs) ⟨by simpa [List.replicate_succ] using hl, fun i u hi => by
        obtain ⟨v, m, y, hv, hy⟩ := hc (i + 1) u (by simpa [List.replicate_succ] using hi)
        exact ⟨v, m, y, by simpa using hv, hy⟩⟩
      exact ⟨z :: zs, by simp [h1], by simp [h2], by
        intro x hx
        rcases List.mem_cons.1 hx with rfl | hx
        · exact hw
        · exact h3 x hx⟩
theorem wf_bd {z : Int} (h : (Lit.int .i64 z).wf = true) : -9223372036854775808 ≤ z ∧ z ≤ 9223372036854775807 := by
  simp [Lit.wf, IntKind.min, IntKind.max, IntKind.signed, IntKind.bits] at h
  omega
end
end Go.Proofs.YtoboecenlangmaaGreat.Le
end
