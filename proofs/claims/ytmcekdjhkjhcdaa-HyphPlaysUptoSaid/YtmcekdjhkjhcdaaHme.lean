import Derived.Test.YtmcekdjhkjhcdaaHmd
import Derived.Test.YtmcekdjhkjhcdaaHyi
/- The text of an exception, in plain Lean; the document's text of one, and its Exceptions. Conditions: those that each theorem names. -/
namespace Go.Proofs.Ytmcekdjhkjhcdaa.Hy
open Go.ChangeShapes Go.WideShapes Go.ChangeAt Go.RowKit
open Me Hp
set_option linter.unusedVariables false
set_option linter.unusedSimpArgs false
def xpc (w : Nm) (ps : List Int) (j : Nat) : Nm := (if (j : Int) ∈ ps then [45] else []) ++ [w.getD j 0]
/-- The text, up to a letter. -/
def xtq (w : Nm) (ps : List Int) (i : Nat) : Nm := (List.range i).flatMap (xpc w ps)
theorem xtq_succ (w : Nm) (ps : List Int) (i : Nat) : xtq w ps (i + 1) = xtq w ps i ++ xpc w ps i := by simp [xtq, List.range_succ]
theorem xtq_len (w : Nm) (ps : List Int) : ∀ i, (xtq w ps i).length ≤ 2 * i
  | 0 => by simp [xtq]
  | i + 1 => by
    rw [xtq_succ, List.length_append]
    have := xtq_len w ps i
    unfold xpc
    rw [List.length_append]
    split <;> simp <;> omega
/-- The texts of exceptions. -/
def xtx (X : List Xc) : List Nm := X.map fun x => xtq x.1 x.2 x.1.length
theorem xtx_take {X : List Xc} {k : Nat} {x : Xc} (h : X[k]? = some x) : (xtx (X.take (k + 1))).map tv = (xtx (X.take k)).map tv ++ [tv (xtq x.1 x.2 x.1.length)] := by
  unfold xtx
  rw [List.take_add_one, h]
  simp
/-- How far one stands among the points. -/
structure PtAt (ps : List Int) (i k : Nat) : Prop where
  le : k ≤ ps.length
  lo : ∀ j x, j < k → ps[j]? = some x → x < (i : Int)
  hi : ∀ j x, k ≤ j → ps[j]? = some x → (i : Int) ≤ x
theorem PtAt.zero {ps : List Int} (h : ∀ p ∈ ps, 0 ≤ p) : PtAt ps 0 0 := ⟨Nat.zero_le _, fun j x hj => by omega, fun j x _ hx => h x (List.mem_of_getElem? hx)⟩
theorem PtAt.yes {ps : List Int} {i k : Nat} (h : PtAt ps i k) (hr : ps.Pairwise (· < ·)) (hk : ps[k]? = some (i : Int)) : (i : Int) ∈ ps ∧ PtAt ps (i + 1) (k + 1) := by
  have hkl := (List.getElem?_eq_some_iff.1 hk).1
  refine ⟨List.mem_of_getElem? hk, ⟨hkl, fun j x hj hx => ?_, fun j x hj hx => ?_⟩⟩
  · rcases Nat.lt_or_ge j k with h1 | h1
    · have := h.lo j x h1 hx
      omega
    · obtain rfl : j = k := by omega
      rw [hk] at hx
      injection hx with hx
      omega
  · have hjl := (List.getElem?_eq_some_iff.1 hx).1
    have h1 := List.pairwise_iff_getElem.1 hr k j hkl hjl (by omega)
    rw [(List.getElem?_eq_some_iff.1 hk).2, (List.getElem?_eq_some_iff.1 hx).2] at h1
    omega
theorem PtAt.no {ps : List Int} {i k : Nat} (h : PtAt ps i k) (hr : ps.Pairwise (· < ·)) (hk : ∀ x, ps[k]? = some x → x ≠ (i : Int)) : (i : Int) ∉ ps ∧ PtAt ps (i + 1) k := by
  have hno : (i : Int) ∉ ps := by
    intro hm
    obtain ⟨j, hj⟩ := List.mem_iff_getElem?.1 hm
    rcases Nat.lt_or_ge j k with h1 | h1
    · have := h.lo j _ h1 hj
      omega
    · have hjl := (List.getElem?_eq_some_iff.1 hj).1
      rcases Nat.lt_or_ge k j with h2 | h2
      · have hkl : k < ps.length := by omega
        have h3 := List.pairwise_iff_getElem.1 hr k j hkl hjl h2
        have h4 := h.hi k _ (Nat.le_refl _) (List.getElem?_eq_getElem hkl)
        rw [(List.getElem?_eq_some_iff.1 hj).2] at h3
        omega
      · obtain rfl : j = k := by omega
        exact hk _ hj rfl
  refine ⟨hno, ⟨h.le, fun j x hj hx => by have := h.lo j x hj hx; omega, fun j x hj hx => ?_⟩⟩
  have h1 := h.hi j x hj hx
  have h2 : x ≠ (i : Int) := fun e => hno (e ▸ List.mem_of_getElem? hx)
  omega
set_option maxHeartbeats 4000000 in
set_option maxRecDepth 100000 in
theorem rxtext_any (x : Xc) (A3 : Option Addr) (c3 : Nat) (w : World) (hx : IsX x) (hrow : Seg w w.heap.size A3 (x.2.map iv)) :
    Calls Try.prog 139 #[.agg #[.string (S x.1), .slice A3 x.2.length c3]] w fun e w' => e = .returned (.string (S (xtq x.1 x.2 x.1.length))) ∧ Below w.heap.size w w' := by
  obtain ⟨s, ps⟩ := x
  obtain ⟨hw, hbd, hri⟩ := hx
  obtain ⟨hw1, hw2, hw3⟩ := wordB_is hw
  simp only at hbd hri hw1 hw2 hrow ⊢
  have HC3 := Lib.hid (fun (W : World) (hb : Below w.heap.size w W) (k : Nat) (v : Int) (hv : ps[k]? = some v) => (show ∃ b off, A3 = some ⟨b, off, none⟩ ∧ W.cell? ⟨b, off + k, none⟩ = some (.int .i64 v) from by
    have hv2 : (ps.map iv)[k]? = some (.int .i64 v) := by rw [List.getElem?_map, hv]; rfl
    obtain ⟨b, off, e, hbl, hc⟩ := hrow.open_ (by intro e; rw [e] at hv2; simp at hv2)
    exact ⟨b, off, e, (hb.cell (p := ⟨b, off + k, none⟩) hbl).trans (hc k _ hv2)⟩))
  have HRI := Lib.hid hri
  have HP0 := Lib.hid (PtAt.zero (ps := ps) fun p hp => by have := (hbd p hp).1; omega)
  have hpl : ps.length ≤ 63 := x_few (x := (s, ps)) ⟨hw, hbd, hri⟩
  have hSs : (S s).size = s.length := rfl
  have HSS := Lib.hid hSs
  generalize hZ : S s = Z at *
  have HZ := Lib.hid hZ
  have hzl : Z.size ≤ 63 := by omega
  generalize hpn : ps.length = pn at *
  have HPN := Lib.hid hpn
  clear hw hw3 hbd hri hrow hSs hZ hpn
  go_enter Try.func139, Try.ntmps139
  go_upto_region 1 with fail
  have HB := Lib.hid (Blk.new w 86 #[.string Z, .slice A3 pn c3])
  have HLO := Lib.hid (andAlloc (Below.refl w.heap.size w) (.cells #[.string Z, .slice A3 pn c3] 86))
  generalize w.alloc (.cells #[.string Z, .slice A3 pn c3] 86) = w5 at HB HLO ⊢
  generalize hg5 : w.heap.size = g5 at HB ⊢
  go_wp2_with fail
  go_loopw [3, 4, 5] (fun v3 v4 v5 wr => ∃ i k : Nat, i ≤ Z.size ∧ v5 = .int .i64 (i : Int) ∧ v4 = .int .i64 (k : Int) ∧ v3 = .string (S (xtq s ps i)) ∧ PtAt ps i k ∧ Below w5.heap.size w5 wr) (fun _ _ v5 _ => Z.size - (intOf v5).toNat)
  case atStart => exact ⟨0, 0, by omega, rfl, rfl, rfl, HP0.out, Below.refl _ _⟩
  case round =>
    obtain ⟨i, k, hi, rfl, rfl, rfl, hp, hlow⟩ := hrel
    have hbr := HB.out.below hlow HB.out.lt
    have c0 : wr.cell? ⟨g5, 0, none⟩ = some (.string Z) := hbr.cell 0
    have c1 : wr.cell? ⟨g5, 1, none⟩ = some (.slice A3 pn c3) := hbr.cell 1
    have hgr : g5 < wr.heap.size := hbr.lt
    have HLOW := Lib.hid hlow
    have hlw : Below w.heap.size w wr := andThen HLO.out hlow
    have hkp : k ≤ pn := by have := hp.le; rw [HPN.out] at this; exact this
    clear hbr hlow
    by_cases hlt : i < Z.size
    · have hii : (i : Int) < (Z.size : Int) := by omega
      have his : i < s.length := by have := HSS.out; omega
      have hT : (S (xtq s ps i)).size ≤ 1048576 := by rw [S_size]; have := xtq_len s ps i; omega
      have HX := Lib.hid (show S (xtq s ps (i + 1)) = S (xtq s ps i) ++ S (if (i : Int) ∈ ps then [45] else []) ++ S [s.getD i 0] by
        rw [xtq_succ]
        unfold xpc
        rw [S_app, S_app, List.append_assoc])
      have HEX := Lib.hid (by rw [← HZ.out]; exact ext_one his : Z.extract i (i + 1) = S [s.getD i 0])
      have hez : (Z.extract i (i + 1)).size ≤ 63 := by rw [ByteArray.size_extract]; omega
      have HLW := Lib.hid hlw
      have HP := Lib.hid hp
      clear hlw hp
      generalize hTT : S (xtq s ps i) = T at hT HX
      have HTT := Lib.hid hTT
      clear hTT
      by_cases hkn : k < pn
      · obtain ⟨v, hv⟩ := get_some (l := ps) (k := k) (by rw [HPN.out]; exact hkn)
        obtain ⟨b, off, rfl, hcv⟩ := HC3.out wr HLW.out k v hv
        have hki : (k : Int) < (pn : Int) := by omega
        by_cases hvi : v = (i : Int)
        · subst hvi
          obtain ⟨hm, hp2⟩ := HP.out.yes HRI.out hv
          have HM := Lib.hid hm
          have HP2 := Lib.hid hp2
          have hz1 : ¬ 9223372036854775807 < T.size + (⟨#[45]⟩ : ByteArray).size := by show ¬ 9223372036854775807 < _ + 1; omega
          have hz2 : ¬ 9223372036854775807 < (T ++ ⟨#[45]⟩).size + (Z.extract i (i + 1)).size := by rw [ByteArray.size_append]; show ¬ 9223372036854775807 < _ + 1 + _; omega
          clear hm hp2 hv hkn
          go_wp2_with fail
          go_roundw
          case rel => exact ⟨i + 1, k + 1, by omega, by go_num, by go_num, by rw [HX.out, if_pos HM.out, HEX.out]; rfl, HP2.out, HLOW.out⟩
          case measure => clear hii hki; simp [intOf]; omega
        · obtain ⟨hm, hp2⟩ := HP.out.no HRI.out (fun y hy => by rw [hv] at hy; injection hy with hy; rw [← hy]; exact hvi)
          have HM := Lib.hid hm
          have HP2 := Lib.hid hp2
          have hvb : (v == (i : Int)) = false := by rw [beq_eq_false_iff_ne]; exact hvi
          have hz2 : ¬ 9223372036854775807 < T.size + (Z.extract i (i + 1)).size := by omega
          clear hm hp2 hv hkn hvi
          go_wp2_with fail
          go_roundw
          case rel => exact ⟨i + 1, k, by omega, by go_num, by go_num, by rw [HX.out, if_neg HM.out, HEX.out, S_nil], HP2.out, HLOW.out⟩
          case measure => clear hii hki; simp [intOf]; omega
      · obtain ⟨hm, hp2⟩ := HP.out.no HRI.out (fun y hy => by have := (List.getElem?_eq_some_iff.1 hy).1; rw [HPN.out] at this; omega)
        have HM := Lib.hid hm
        have HP2 := Lib.hid hp2
        have hki : ¬ (k : Int) < (pn : Int) := by omega
        have hz2 : ¬ 9223372036854775807 < T.size + (Z.extract i (i + 1)).size := by omega
        clear hm hp2 hkn
        go_wp2_with fail
        go_roundw
        case rel => exact ⟨i + 1, k, by omega, by go_num, by go_num, by rw [HX.out, if_neg HM.out, HEX.out, S_nil], HP2.out, HLOW.out⟩
        case measure => clear hii hki; simp [intOf]; omega
    · obtain rfl : i = Z.size := by omega
      have HF := Lib.hid hlw
      have HSL := Lib.hid (show s.length = Z.size from HSS.out.symm)
      clear hlw hp
      go_wp2_with fail
      go_ret
      subst hg5
      exact ⟨by rw [HSL.out]; rfl, HF.out⟩
set_option maxHeartbeats 4000000 in
set_option maxRecDepth 100000 in
theorem rexceptions_any (B q : Nat) (L X : List Xc) (pv xv : Value) (w : World) (h : DAt w B q L X pv xv) (hf : X.length ≤ 1000) (hi : ∀ x ∈ X, IsX x) :
    Calls Try.prog 94 #[.pointer (some ⟨q, 0, none⟩)] w fun e w' => ∃ v, e = .returned v ∧ w'.ownsRow w.heap.size 9 1 v X.length ((xtx X).map tv) ∧ Below w.heap.size w w' := by
  have HD := Lib.hid (fun W (hb : Below w.heap.size w W) => h.below hb)
  have HI := Lib.hid hi
  obtain ⟨A, cP, rfl, hnc, hcm, hA⟩ := h.xr.slice
  generalize hln : X.length = n at *
  have HLN := Lib.hid hln
  clear h hi hln
  go_enter Try.func94, Try.ntmps94
  go_wp2_with fail
  go_loopw [3, 4] (fun v3 v4 wr => ∃ k : Nat, k ≤ n ∧ v4 = .int .i64 (k : Int) ∧ wr.ownsRow w.heap.size 9 1 v3 k ((xtx (X.take k)).map tv) ∧ Below w.heap.size w wr) (fun _ v4 _ => n - (intOf v4).toNat)
  case atStart => exact ⟨0, by omega, rfl, World.ownsRow_nil _ _ _ _, Below.refl _ _⟩
  case round =>
    obtain ⟨k, hk, rfl, hown, hlow⟩ := hrel
    have hd := HD.out wr hlow
    have cq : wr.cell? ⟨q, 1, none⟩ = some (.slice A n cP) := hd.blk.cell 1
    have hq : q < wr.heap.size := hd.blk.lt
    have HOW := Lib.hid hown
    have HLO := Lib.hid hlow
    clear hown hlow
    by_cases hlt : k < n
    · obtain ⟨p, hp⟩ := get_some (l := X) (k := k) (by rw [HLN.out]; exact hlt)
      obtain ⟨gP, cP', u, he, _, _, hgl, cy, cu, hu⟩ := hd.xr.get hp
      injection he with he e2 e3
      subst he
      subst e3
      clear e2
      obtain ⟨Au, cu2, rfl, _, _, hsu⟩ := Seg.of_own hu
      have hix := HI.out p (List.mem_of_getElem? hp)
      have HT := Lib.hid (fun W (hb : Below wr.heap.size wr W) => rxtext_any p Au cu2 W hix ((hsu.below hb).more hb.size))
      have HX := Lib.hid (xtx_take hp)
      have hkn : (k : Int) < (n : Int) := by omega
      clear hp hu hsu hd hix
      generalize hYY : S p.1 = Y at *
      generalize hTX : xtq p.1 p.2 p.1.length = TX at *
      generalize p.2.length = m at *
      go_wp2_with fail
      refine (HT.out wr (Below.refl _ _)).mono ?_
      rintro e w6 ⟨rfl, hb6⟩
      have HO6 := Lib.hid (own_below HOW.out hb6)
      have HL6 := Lib.hid (andThen HLO.out hb6)
      clear hb6
      go_wp2_with (at_builtin; refine wpList_push rfl _ _ 41 rfl w.heap.size 9 _ 1 16 Try.underlying41 info_text rfl (by decide) (by decide) _ _ _ rfl HO6.out HL6.out.size _ rfl rfl rfl (by simp) (by omega) ?_; intro v7 w7 hown7 hg7 hn7; have HD7 := Lib.hid (And.intro hown7 (below_grown (Nat.le_refl _) (andAlloc HL6.out _) hg7 (fun k hk => (HO6.out.lt k hk).1))); clear hown7 hg7 hn7)
      go_roundw
      case rel => exact ⟨k + 1, by omega, by go_num, by rw [HX.out]; exact HD7.out.1, HD7.out.2⟩
      case measure => clear hkn; simp [intOf]; omega
    · obtain rfl : k = n := by omega
      have hkn : ¬ (k : Int) < (k : Int) := by omega
      have HX := Lib.hid (show X.take k = X from List.take_of_length_le (by rw [HLN.out]; exact Nat.le_refl _))
      clear hd
      go_wp2_with fail
      go_ret
      exact ⟨_, rfl, by have h := HOW.out; rw [HX.out] at h; exact h, HLO.out⟩
end Go.Proofs.Ytmcekdjhkjhcdaa.Hy
