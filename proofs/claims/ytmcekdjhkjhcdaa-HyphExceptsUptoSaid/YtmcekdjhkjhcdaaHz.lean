import Derived.Test.YtmcekdjhkjhcdaaHyi
import Derived.Test.YtmcekdjhkjhcdaaHx
/- HyphExcepts' walk. Conditions: those that each theorem names. -/
namespace Go.Proofs.Ytmcekdjhkjhcdaa.Hy
open Go.ChangeShapes Go.WideShapes Go.ChangeAt Go.RowKit
open Me Hp
set_option linter.unusedVariables false
set_option linter.unusedSimpArgs false

theorem ne_exh : (86 : Nat) ≠ 106 := by decide
theorem blk_ne {w : World} {k p : Nat} {t t' : TypeId} {cs c2 : Array Value} (hb : Blk w k t cs) (hp : Blk w p t' c2) (hne : t ≠ t') : k ≠ p := by
  rintro rfl
  have a : w.heap[k]? = some (.cells _ t (0, 0)) := hb
  have b : w.heap[k]? = some (.cells _ t' (0, 0)) := hp
  rw [a] at b
  simp only [Option.some.injEq, Obj.cells.injEq] at b
  exact hne b.2.1
/-- What Except with no exception ahead leaves as it was. -/
theorem Frm.blk {w w' : World} {p k : Nat} {t : TypeId} {cs c2 : Array Value} {xv' : Value} (h : Frm w p (.slice none 0 0) w' xv') (hb : Blk w k t cs) (hp : Blk w p 106 c2) (hne : t ≠ 106) : Blk w' k t cs :=
  (h.same k hb.lt (blk_ne hb hp hne) (by simp [Value.ownBlock])).trans hb
theorem Frm.own {w w' : World} {p B n : Nat} {c2 : Array Value} {u xv' : Value} {xs : List Value} (h : Frm w p (.slice none 0 0) w' xv') (ho : w.ownsRow B 3 1 u n xs) (hp : Blk w p 106 c2) : w'.ownsRow B 3 1 u n xs := by
  rcases ho.2 with ⟨h1, h2⟩ | ⟨g, cap, cur, h', hb', hg, hnc, hcm, hcs, htake⟩
  · exact ⟨ho.1, .inl ⟨h1, h2⟩⟩
  · have hk := Frm.blk h (show Blk w g 3 cur from hg) hp ne_hyph.symm
    exact ⟨ho.1, .inr ⟨g, cap, cur, h', hb', hk, hnc, hcm, hcs, htake⟩⟩
theorem Frm.seg {w w' : World} {p B : Nat} {A : Option Addr} {xv' : Value} {xs : List Value} (h : Frm w p (.slice none 0 0) w' xv') (hs : Seg w w.heap.size A xs) (hA : ∀ a, A = some a → B ≤ a.block) (hp : p < B) : Seg w' w.heap.size A xs := by
  rcases hs with hs | ⟨b, off, rfl, hb, hc⟩
  · exact .inl hs
  · refine .inr ⟨b, off, rfl, hb, fun j u hu => ?_⟩
    have := h.same b hb (by have := hA _ rfl; simp only at this; omega) (by simp [Value.ownBlock])
    rw [← hc j u hu]
    simp only [World.cell?, this]
theorem seg_belowW {w w' : World} {A : Option Addr} {xs : List Value} (h : Seg w w.heap.size A xs) (hb : Below w.heap.size w w') : Seg w' w'.heap.size A xs := (h.below hb).more hb.size
set_option maxRecDepth 100000 in
set_option maxHeartbeats 4000000 in
theorem excepts_walk (A : Option Addr) (ts : List ByteArray) (c : Nat) (t s : ByteArray) (w : World) (hn : ts.length ≤ 1048576) (hcap : ts.length ≤ c) (hs : ∀ t ∈ ts, t.size ≤ 1048576) (hts : t.size ≤ 1048576) (hss : s.size ≤ 1048576)
    (hseg : Seg w w.heap.size A (ts.map sv)) :
    Calls Try.prog 12 #[.slice A ts.length c, .string t, .string s] w fun e w' => e = .returned (.bool true) ∧ Below w.heap.size w w' := by
  have HT := Lib.hid (told_any A ts c w hn hcap hs hseg)
  clear hs hseg
  go_enter Try.func12, Try.ntmps12
  go_wp2_with fail
  refine HT.out.mono ?_
  rintro e w1 ⟨hb1, p, v, rfl, hh⟩
  have HH1 := Lib.hid hh
  have HB1 := Lib.hid hb1
  clear hb1 hh HT
  generalize told (txs ts) = P0 at HH1
  go_wp2_with fail
  refine (Points_any w.heap.size p P0 [] v (.slice none 0 0) s 1 1 w1 hss HH1.out (XAt.nil _ _)).mono ?_
  rintro e w2 ⟨hb2, u2, rfl, ho2⟩
  have HO2 := Lib.hid ho2
  have HB2 := Lib.hid (And.intro (andThen HB1.out hb2) (HH1.out.below hb2))
  have HP2 := Lib.hid (show p < w2.heap.size by have := HH1.out.tr.blk.lt; have := hb2.size; omega)
  have HB1S := Lib.hid HB1.out.size
  clear hb2 ho2 HH1 HB1
  go_wp2_with fail
  refine (parted_any t w2 hts).mono ?_
  rintro e w3 ⟨hb3, sig, A3, n3, c3, ok, rfl, h3⟩
  have H3 := Lib.hid h3
  have HO3 := Lib.hid (own_below HO2.out hb3)
  have HB3 := Lib.hid (And.intro (andThen HB2.out.1 hb3) (And.intro (HB2.out.2.below hb3) (show p < w2.heap.size ∧ w2.heap.size ≤ w3.heap.size from ⟨HP2.out, hb3.size⟩)))
  clear h3 hb3 HO2 HB2 HP2
  go_wp2_with fail
  have HBX := Lib.hid (Blk.new w3 86 #[.string sig, .slice A3 n3 c3])
  have HB4 := Lib.hid (And.intro (andAlloc HB3.out.1 (.cells #[.string sig, .slice A3 n3 c3] 86)) (HB3.out.2.1.below (andAlloc (Below.refl _ _) (.cells #[.string sig, .slice A3 n3 c3] 86))))
  have HO4 := Lib.hid (HO3.out.alloc (.cells #[.string sig, .slice A3 n3 c3] 86))
  have HSG := Lib.hid (fun (l : List Int) (h : Seg w3 w3.heap.size A3 (l.map iv)) => (h.below (andAlloc (Below.refl _ _) (.cells #[.string sig, .slice A3 n3 c3] 86))).more (B' := (w3.alloc (.cells #[.string sig, .slice A3 n3 c3] 86)).heap.size) (by simp))
  have HLT := Lib.hid HB3.out.2.2
  refine (except_any w.heap.size p P0 [] v (.slice none 0 0) t _ hts HB4.out.2 (XAt.nil _ _) HB4.out.1.size (fun x _ _ => ins_end [] x rfl)).mono ?_
  clear HB3 HO3
  generalize w3.alloc (.cells #[.string sig, .slice A3 n3 c3] 86) = w4 at HBX HB4 HO4 HSG
  generalize w3.heap.size = gx at HBX HSG HLT H3
  rintro e w5 ⟨rfl, hX⟩
  obtain ⟨hlow, xv, hy, hxa, hfr⟩ := hX
  have HBP := Lib.hid HB4.out.2.tr.blk
  have HBX5 := Lib.hid (Frm.blk hfr HBX.out HBP.out ne_exh)
  have HO5 := Lib.hid (Frm.own hfr HO4.out HBP.out)
  have HY5 := Lib.hid (And.intro hy hxa)
  have HFR := Lib.hid hfr
  have HB5 := Lib.hid (HB4.out.1.trans hlow)
  have HS5 := Lib.hid hlow.size
  clear hlow hy hxa hfr HBX HO4
  rcases H3.out with ⟨rfl, hpar⟩ | ⟨rfl, x, hpar, rfl, rfl, hseg, hA⟩
  · obtain ⟨e1, e2⟩ := xtell_none hpar
    rw [e2]
    clear e1 e2 hpar HLT HSG H3 HBX5 HO5 HY5
    go_wp2_with (go_at_call 23; refine (num_any _ _).mono ?_; rintro e w' ⟨rfl, rfl⟩)
    refine (knows_any _).mono ?_
    rintro e w6 ⟨rfl, hb6⟩
    have HB6 := Lib.hid (andThen HB5.out hb6)
    clear hb6
    go_wp2_with (go_at_call 23; refine (num_any _ _).mono ?_; rintro e w' ⟨rfl, rfl⟩)
    go_ret
    exact ⟨rfl, HB6.out⟩
  · obtain ⟨e1, e2⟩ := xtell_one hpar
    rw [e2]
    rw [e1] at HY5
    have HIS := Lib.hid (par_is hpar)
    have HA3 := Lib.hid (And.intro (HSG.out _ hseg) hA)
    clear e1 e2 hpar hseg hA HSG H3
    go_wp2_with (go_at_call 23; refine (num_any _ _).mono ?_; rintro e w' ⟨rfl, rfl⟩)
    refine (knows_any _).mono ?_
    rintro e w6 ⟨rfl, hb6⟩
    have HA6 := Lib.hid (seg_belowW ((Frm.seg HFR.out HA3.out.1 HA3.out.2 HLT.out.1).more HS5.out) hb6)
    have HBX6 := Lib.hid (HBX5.out.below hb6 HBX5.out.lt)
    have HO6 := Lib.hid (own_below HO5.out hb6)
    have HY6 := Lib.hid (And.intro (HY5.out.1.below hb6) (HY5.out.2.below hb6))
    have HB6 := Lib.hid (andThen HB5.out hb6)
    have hcx0 := HBX6.out.cell 0
    have hZs : (S x.1).size ≤ 1048576 := by have := (wordB_is HIS.out.word).2.1; rw [S_size]; omega
    have HPX := Lib.hid (Points_any w.heap.size p P0 [x] v xv (S x.1) 1 1 w6 hZs HY6.out.1 HY6.out.2)
    rw [show (S x.1).data.toList = x.1 from rfl, (ptsX_one P0 HIS.out).1, (ptsX_one P0 HIS.out).2] at HPX
    clear hb6 HA3 HBX5 HO5 HY5 HB5 HFR hZs
    go_wp2_with fail
    refine HPX.out.mono ?_
    rintro e w7 ⟨hb7, u7, rfl, ho7⟩
    have HA7 := Lib.hid (seg_belowW HA6.out hb7)
    have HBX7 := Lib.hid (HBX6.out.below hb7 HBX6.out.lt)
    have HO7 := Lib.hid (And.intro (own_below HO6.out hb7) ho7)
    have HY7 := Lib.hid (And.intro (HY6.out.1.below hb7) (HY6.out.2.below hb7))
    have HB7 := Lib.hid (andThen HB6.out hb7)
    clear hb7 ho7 HA6 HBX6 HO6 HY6 HB6 HPX hcx0
    go_wp2_with fail
    refine (Points_any w.heap.size p P0 [x] v xv s 1 1 w7 hss HY7.out.1 HY7.out.2).mono ?_
    rintro e w8 ⟨hb8, u8, rfl, ho8⟩
    have HA8 := Lib.hid (seg_belowW HA7.out hb8)
    have HO8 := Lib.hid (And.intro (own_below HO7.out.1 hb8) (And.intro (own_below HO7.out.2 hb8) ho8))
    have HB8 := Lib.hid (andThen HB7.out hb8)
    have hbx := HBX7.out.below hb8 HBX7.out.lt
    have HBX8 := Lib.hid hbx
    have hcx0 := hbx.cell 0
    have hcx1 := hbx.cell 1
    obtain ⟨A7, c7, hu7, hs7⟩ : ∃ A c, u7 = .slice A x.2.length c ∧ Seg w8 w8.heap.size A (x.2.map iv) := by
      obtain ⟨A, c, h1, h2, h3⟩ := seg_own HO8.out.2.1
      exact ⟨A, c, h1, h3⟩
    subst hu7
    have hxl : x.2.length ≤ 1048576 := by have := x_few HIS.out; omega
    have HS7 := Lib.hid (same_ints A7 A3 x.2 x.2 c7 c3 w8 hxl hxl hs7 HA8.out)
    rw [decide_eq_true rfl] at HS7
    clear hb8 ho8 HA7 HBX7 HO7 HY7 HB7 hbx hs7
    generalize ptsE s.data.toList 1 1 = E
    by_cases hsx : s.data.toList = x.1
    · have HSX := Lib.hid hsx
      have hse : s = S x.1 := by rw [← hsx, S_eq]
      clear hsx
      go_wp2_with (first | (go_at_call 23; refine (num_any _ _).mono ?_; rintro e w' ⟨rfl, rfl⟩) | (go_at_call 26; with_reducible refine HS7.out.mono ?_; rintro e w9 ⟨rfl, hb9⟩; have hcy0 := (HBX8.out.below hb9 HBX8.out.lt).cell 0; have HB9 := Lib.hid (andThen HB8.out hb9); clear hb9))
      go_ret
      exact ⟨rfl, HB9.out⟩
    · have hl9 : (ptsX P0 [] s.data.toList 1 1).length ≤ 1048576 := ptsX_few P0 [] (by simp) _ _ _
      have HO8' := HO8.out
      rw [ptsX_other P0 hsx] at HO8'
      generalize ptsX P0 [] s.data.toList 1 1 = ps at HO8' hl9
      obtain ⟨A2, c2, hu2⟩ := own_slice HO8'.1
      obtain ⟨A8, c8, hu8⟩ := own_slice HO8'.2.2
      subst hu2
      subst hu8
      have HO9 := Lib.hid (And.intro HO8'.1 HO8'.2.2)
      have hst : ¬ s.toList = (S x.1).toList := by rw [ByteArray.toList_eq, ByteArray.toList_eq]; exact hsx
      have hsb : (s.toList == (S x.1).toList) = false := by rw [beq_eq_false_iff_ne]; exact hst
      clear HO8' HO8 hsx
      go_wp2_with (first | (go_at_call 23; refine (num_any _ _).mono ?_; rintro e w' ⟨rfl, rfl⟩) | (go_at_call 26; with_reducible refine HS7.out.mono ?_; rintro e w9 ⟨rfl, hb9⟩; have hcy0 := (HBX8.out.below hb9 HBX8.out.lt).cell 0; have HB9 := Lib.hid (And.intro (andThen HB8.out hb9) (And.intro (own_below HO9.out.1 hb9) (own_below HO9.out.2 hb9))); clear hb9))
      have hg1 := seg_own HB9.out.2.1
      have hg2 := seg_own HB9.out.2.2
      obtain ⟨B2, d2, e2, _, hg1⟩ := hg1
      obtain ⟨B8, d8, e8, _, hg2⟩ := hg2
      injection e2 with e2 _ _
      injection e8 with e8 _ _
      subst e2
      subst e8
      refine (same_ints A8 A2 ps ps c8 c2 w' hl9 hl9 hg2 hg1).mono ?_
      rintro e w10 ⟨rfl, hb10⟩
      rw [decide_eq_true rfl]
      have HB10 := Lib.hid (andThen HB9.out.1 hb10)
      clear hb10 hg1 hg2 HB9
      go_wp2_with fail
      go_ret
      exact ⟨rfl, HB10.out⟩
end Go.Proofs.Ytmcekdjhkjhcdaa.Hy
