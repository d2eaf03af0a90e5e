import Derived.Test.YtmcekdjhkjhcdaaHpc
import Derived.Test.YtmcekdjhkjhcdaaHv
/- HyphSize's walk. Conditions: those that each theorem names. -/
namespace Go.Proofs.Ytmcekdjhkjhcdaa.Hy
open Go.ChangeShapes Go.WideShapes Go.ChangeAt Go.RowKit
open Me Hp
set_option linter.unusedVariables false
set_option linter.unusedSimpArgs false

theorem ptexts_get {P : List Pt} (hP : Pats P) (hr : ∀ p ∈ P, ∃ t, rd t = some p) {i : Nat} {x : Nm} (hx : (dfs P 64 [])[i]? = some x) : ∃ v, (ptexts P)[i]? = some (tx P x) ∧ rd (tx P x) = some (x, v) ∧ x.length ≤ 63 ∧ (tx P x).length ≤ 130 := by
  obtain ⟨h1, _⟩ := dfs_mem 64 [] x (List.mem_of_getElem? hx)
  obtain ⟨p, hp, rfl⟩ := List.mem_map.1 (luk_mem h1)
  have h2 : luk P p.1 = some p.2 := (luk_some hP.nodup).2 hp
  obtain ⟨t, ht⟩ := hr p hp
  have h3 : tx P p.1 = txq p.1 p.2 p.2.length := by unfold tx; rw [h2]; rfl
  have h4 := hP.is p hp
  refine ⟨p.2, ?_, ?_, h4.2.2.1, ?_⟩
  · unfold ptexts
    rw [List.getElem?_map, hx]
    rfl
  · rw [h3]; exact rd_text ht
  · rw [h3]
    have := txq_len p.1 p.2 p.2.length
    omega
theorem vint_eq {a b : Int} (h : a = b) : Value.int .i64 a = .int .i64 b := by rw [h]
theorem sumL_le : ∀ (l : List Nm), (∀ x ∈ l, x.length ≤ 63) → sumL l ≤ 63 * l.length := by
  intro l
  induction hn : l.length generalizing l with
  | zero => intro _; rw [List.eq_nil_of_length_eq_zero hn]; simp [sumL]
  | succ n ih =>
    intro h
    have hne : l ≠ [] := by intro e; subst e; cases hn
    have e : l = l.dropLast ++ [l.getLast hne] := (List.dropLast_concat_getLast hne).symm
    have h1 := ih l.dropLast (by simp; omega) (fun x hx => h x (List.dropLast_subset _ hx))
    have h2 := h _ (List.getLast_mem hne)
    rw [e, sumL_snoc]
    omega
theorem maxL_le : ∀ (l : List Nm), (∀ x ∈ l, x.length ≤ 63) → maxL l ≤ 63 := by
  intro l h
  rcases maxL_mem l with h1 | ⟨x, hx, h1⟩
  · omega
  · rw [h1]; exact h x hx
set_option maxRecDepth 100000 in
set_option maxHeartbeats 2000000 in
theorem size_walk (A : Option Addr) (ts : List ByteArray) (c : Nat) (w : World) (hn : ts.length ≤ 1048576) (hcap : ts.length ≤ c) (hs : ∀ t ∈ ts, t.size ≤ 1048576) (hseg : Seg w w.heap.size A (ts.map sv)) :
    Calls Try.prog 10 #[.slice A ts.length c] w fun e w' => e = .returned (.bool true) ∧ Below w.heap.size w w' := by
  have HT := Lib.hid (told_any A ts c w hn hcap hs hseg)
  clear hs hseg
  go_enter Try.func10, Try.ntmps10
  go_wp2_with fail
  refine HT.out.mono ?_
  rintro e w1 ⟨hb1, p, v, rfl, hh⟩
  have HRD := Lib.hid (told_read (txs ts))
  have HH1 := Lib.hid hh
  have HB1 := Lib.hid hb1
  clear hb1 hh HT
  generalize told (txs ts) = P0 at HRD HH1
  have HP0 := Lib.hid HH1.out.pats
  go_wp2_with fail
  refine (patterns_any w.heap.size p P0 v (.slice none 0 0) w1 HH1.out).mono ?_
  rintro e w2 ⟨hb2, u, rfl, ho2⟩
  have HO := Lib.hid ho2
  have HH2 := Lib.hid (HH1.out.below hb2)
  have HB2 := Lib.hid (andThen HB1.out hb2)
  have hlen : (ptexts P0).length = (dfs P0 64 []).length := by unfold ptexts; rw [List.length_map]
  have hfew := dfs_few HP0.out 64 []
  have HLO := Lib.hid (size_low HP0.out)
  have HHI := Lib.hid (size_high HP0.out)
  have HG := Lib.hid (fun i x h => ptexts_get HP0.out HRD.out (i := i) (x := x) h)
  rw [hlen] at HO
  clear hb2 ho2 HB1 HH1 HRD hlen
  generalize hD : dfs P0 64 [] = D at HO hfew HLO HHI HG
  have HXL := Lib.hid (show ∀ x ∈ D, x.length ≤ 63 by
    intro x hx
    obtain ⟨i, hi⟩ := List.mem_iff_getElem?.1 hx
    obtain ⟨v, _, _, h, _⟩ := HG.out i x hi
    exact h)
  clear hD
  have hus : ∃ A c, u = .slice A D.length c := by
    rcases HO.out.2 with ⟨e, h0⟩ | ⟨g, cap, cur, h', _⟩
    · exact ⟨none, 0, by rw [e, h0]⟩
    · exact ⟨_, _, h'⟩
  obtain ⟨A2, c2, rfl⟩ := hus
  go_wp2_with fail
  go_loopw [5, 6, 7] (fun v5 v6 v7 wr => ∃ i : Nat, i ≤ D.length ∧ v7 = .int .i64 (i : Int) ∧ v5 = .int .i64 ((sumL (D.take i) : Nat) : Int) ∧ v6 = .int .i64 ((maxL (D.take i) : Nat) : Int) ∧ Below w2.heap.size w2 wr) (fun _ _ v7 _ => D.length - (intOf v7).toNat)
  case atStart => exact ⟨0, by omega, rfl, rfl, rfl, Below.refl _ _⟩
  case round =>
    obtain ⟨i, hi, rfl, rfl, rfl, hI⟩ := hrel
    have HI := Lib.hid hI
    clear hI
    by_cases hlt : i < D.length
    · obtain ⟨x, hx⟩ := get_some hlt
      obtain ⟨v', hg1, hg2, hg3, hg4⟩ := HG.out i x hx
      obtain ⟨g, c', he, hgl, hgc'⟩ := own_cell0 HO.out (by omega)
      have hgc := hgc' i (tv (tx P0 x)) (by rw [List.getElem?_map, hg1]; rfl)
      injection he with he _ hec
      subst he
      subst hec
      have hct : wr.cell? ⟨g, i, none⟩ = some (.string (S (tx P0 x))) := (HI.out.cell (p := ⟨g, i, none⟩) hgl).trans hgc
      have HRD := Lib.hid hg2
      have hS1 : sumL (D.take i) ≤ 63 * i := by
        have := sumL_le (D.take i) (fun y hy => HXL.out y (List.mem_of_mem_take hy))
        rw [List.length_take, Nat.min_eq_left hi] at this
        exact this
      have hM1 := maxL_le (D.take i) (fun y hy => HXL.out y (List.mem_of_mem_take hy))
      have HTS := Lib.hid (show D.take (i + 1) = D.take i ++ [x] by rw [List.take_add_one, hx]; rfl)
      have HSN := Lib.hid (And.intro (sumL_snoc (D.take i) x) (maxL_snoc (D.take i) x))
      have htz : (S (tx P0 x)).size ≤ 1048576 := by rw [S_size]; omega
      clear hgl hgc hgc' hg1 hg2 hg4 hx
      generalize hSS : sumL (D.take i) = SS at hS1 HSN
      generalize hMM : maxL (D.take i) = MM at hM1 HSN
      generalize htt : S (tx P0 x) = T at hct htz
      have HTT := Lib.hid htt
      clear hSS hMM htt
      go_wp2_with fail
      refine (read_any T wr htz).mono ?_
      rintro e w4 hrp
      obtain ⟨hb4, ok, sig, au, nu, cu, rfl, hcase⟩ := readP_one hrp
      obtain ⟨rfl, rfl⟩ : ok = true ∧ sig = S x := by
        have hT : rd T.data.toList = some (x, v') := by rw [← HTT.out, S_list]; exact HRD.out
        rcases hcase with ⟨_, h⟩ | ⟨h1, q, h2, h3⟩
        · rw [hT] at h; cases h
        · rw [hT] at h2
          injection h2 with h2
          subst h2
          exact ⟨h1, h3⟩
      have HI4 := Lib.hid (andThen HI.out hb4)
      have hxs : (S x).size = x.length := rfl
      clear hrp hcase hb4 hct HI
      go_upto_region 9 with fail
      obtain ⟨W5, hW5⟩ : ∃ W5, W5 = w4.alloc (.cells #[.string (S x), .slice au nu cu] 48) := ⟨_, rfl⟩
      rw [← hW5]
      have hb5 : Below w4.heap.size w4 W5 := by rw [hW5]; exact andAlloc (Below.refl _ _) _
      have hsg : W5.cell? ⟨w4.heap.size, 0, none⟩ = some (.string (S x)) := by rw [hW5]; exact (Blk.new _ _ _).cell 0
      have HI5 := Lib.hid (andThen HI4.out hb5)
      clear hW5 hb5 HI4
      generalize hXX : S x = X at hsg hxs
      clear hXX
      go_wp2_with fail
      go_roundw
      case rel => exact ⟨i + 1, by omega, by go_num, by rw [HTS.out, HSN.out.1]; exact vint_eq (by omega), by rw [HTS.out, HSN.out.2]; exact vint_eq (by omega), HI5.out⟩
      case measure => simp [intOf]; omega
    · obtain rfl : i = D.length := by omega
      rw [List.take_length]
      have HH3 := Lib.hid (HH2.out.below HI.out)
      have hS1 := sumL_le D HXL.out
      have hM1 := maxL_le D HXL.out
      have hlo : (maxL D : Int) + 1 ≤ ((nsOf P0).length : Int) := by have := HLO.out; omega
      have hhi : ((nsOf P0).length : Int) ≤ (sumL D : Int) + 1 := by have := HHI.out; omega
      clear hlt HLO HHI HG HXL HO
      generalize hq : (nsOf P0).length = Q at hlo hhi
      have HQ := Lib.hid hq
      clear hq
      generalize sumL D = SS at hS1 hhi
      generalize maxL D = MM at hM1 hlo
      have HSZ := Lib.hid (size_any w.heap.size p P0 v (.slice none 0 0) wr HH3.out)
      rw [HQ.out] at HSZ
      go_wp2_with (go_at_call 45; refine HSZ.out.mono ?_; rintro e w' ⟨rfl, rfl⟩)
      refine (knows_any _).mono ?_
      rintro e w9 ⟨rfl, hb9⟩
      have HB9 := Lib.hid (andThen (andThen HB2.out HI.out) hb9)
      clear hb9
      go_wp2_with fail
      go_ret
      exact ⟨rfl, HB9.out⟩
end Go.Proofs.Ytmcekdjhkjhcdaa.Hy
