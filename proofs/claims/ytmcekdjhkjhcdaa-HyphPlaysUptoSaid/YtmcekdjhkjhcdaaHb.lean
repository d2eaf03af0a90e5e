import Derived.Test.YtmcekdjhkjhcdaaHa
/- The contract of parse. Conditions: those that each theorem names. -/
namespace Go.Proofs.Ytmcekdjhkjhcdaa.Hy
open Go.ChangeShapes Go.WideShapes Go.ChangeAt Go.RowKit
open Me Hp
set_option linter.unusedVariables false
set_option linter.unusedSimpArgs false

structure PInv (s : ByteArray) (w : World) (v5 v6 v7 v8 : Value) (i : Nat) (st : Rd) (wr : World) : Prop where
  run : rdRun rd0 (s.data.toList.take i) = some st
  e7 : v7 = .bool st.digit
  e8 : v8 = .int .i64 (st.letters : Int)
  own5 : wr.ownsRow w.heap.size 5 1 v5 st.signs.length (st.signs.map bv)
  own6 : wr.ownsRow w.heap.size 3 1 v6 (st.signs.length + 1) (st.vals.map iv)
  low : Below w.heap.size w wr
/-- What a row of one's own is, with its block. -/
theorem own_split {w : World} {base : Nat} {e : TypeId} {n : Nat} {v : Value} {xs : List Value} (h : w.ownsRow base e 1 v (n + 1) xs) : ∃ g c : Nat, v = .slice (some ⟨g, 0, none⟩) (n + 1) c ∧ n + 1 ≤ c ∧ base ≤ g ∧ g < w.heap.size ∧ c ≤ maxLen := by
  have hl := h.1
  rcases h.2 with ⟨_, h0⟩ | ⟨g, cap, cur, h', hb, hg, hnc, hcm, hcs, htake⟩
  · omega
  · exact ⟨g, cap, h', hnc, hb, (Array.getElem?_eq_some_iff.1 hg).1, hcm⟩
/-- What parse answers. -/
def parseP (s : ByteArray) (w : World) (e : Ending) (w' : World) : Prop := Below w.heap.size w w' ∧ match rd s.data.toList with
  | none => e = .returned (.tuple #[.string ⟨#[]⟩, .slice none 0 0, .bool false])
  | some p => ∃ g c : Nat, e = .returned (.tuple #[.string (S p.1), .slice (some ⟨g, 0, none⟩) p.2.length c, .bool true]) ∧ w.heap.size ≤ g ∧ w'.ownsRow w.heap.size 3 1 (.slice (some ⟨g, 0, none⟩) p.2.length c) p.2.length (p.2.map iv)
theorem parseP_none {s : ByteArray} {w w' : World} {e : Ending} (h : rd s.data.toList = none) (hb : Below w.heap.size w w') (he : e = .returned (.tuple #[.string ⟨#[]⟩, .slice none 0 0, .bool false])) : parseP s w e w' := by
  refine ⟨hb, ?_⟩
  rw [h]
  exact he
theorem stop_none {t : List UInt8} {i : Nat} {c : UInt8} {st : Rd} (h : rdRun rd0 (t.take i) = some st) (hc : t[i]? = some c) (hx : rdStep st c = none) : rd t = none := by
  unfold rd
  rw [rdRun_stop h hc hx]
  rfl
theorem step_dig {st : Rd} {c : UInt8} (h0 : (48 : Int) ≤ c.toNat) (h1 : (c.toNat : Int) ≤ 57) : rdStep st c = if st.digit = true then none else some ⟨st.signs, st.vals.set (st.vals.length - 1) ((c.toNat : Int) - 48), true, st.letters⟩ := by
  have h : isDig c = true := by simp [isDig]; omega
  unfold rdStep
  rw [if_pos h]
theorem step_let {st : Rd} {c : UInt8} (h : isLet c = true) : rdStep st c = some ⟨st.signs ++ [c], st.vals ++ [0], false, st.letters + 1⟩ := by
  have h2 := (let_ok c h).2.1
  unfold rdStep
  rw [if_neg (by simp [h2]), if_pos h]
theorem step_dot {st : Rd} {c : UInt8} (h : c = 46) : rdStep st c = some ⟨st.signs ++ [c], st.vals ++ [0], false, st.letters⟩ := by
  subst h
  rfl
theorem step_no {st : Rd} {c : UInt8} (hd : ¬ ((48 : Int) ≤ c.toNat ∧ (c.toNat : Int) ≤ 57)) (hs : okS c = false) : rdStep st c = none := by
  have h : isDig c = false := by
    simp only [isDig, Bool.and_eq_false_iff, decide_eq_false_iff_not]
    omega
  have h2 : isLet c = false := by
    cases hl : isLet c
    · rfl
    · rw [(let_ok c hl).1] at hs; cases hs
  have h3 : c ≠ 46 := by rintro rfl; cases hs
  unfold rdStep
  rw [if_neg (by simp [h]), if_neg (by simp [h2]), if_neg h3]
theorem PInv.len {s : ByteArray} {w : World} {v5 v6 v7 v8 : Value} {i : Nat} {st : Rd} {wr : World} (h : PInv s w v5 v6 v7 v8 i st wr) : st.vals.length = st.signs.length + 1 ∧ st.signs.length ≤ i ∧ st.letters ≤ i := by
  have h1 := fine_of h.run
  have h2 := h1.le
  rw [List.length_take] at h2
  have h3 := h1.lets
  exact ⟨h1.len, by omega, by omega⟩
/-- The inner state: a sign more, but no value yet. -/
structure PMid (s : ByteArray) (w : World) (c : UInt8) (v5 v6 : Value) (i : Nat) (st : Rd) (wr : World) : Prop where
  run : rdRun rd0 (s.data.toList.take i) = some st
  own5 : wr.ownsRow w.heap.size 5 1 v5 (st.signs.length + 1) ((st.signs ++ [c]).map bv)
  own6 : wr.ownsRow w.heap.size 3 1 v6 (st.signs.length + 1) (st.vals.map iv)
  low : Below w.heap.size w wr
theorem PInv.app {s : ByteArray} {w : World} {v5 v6 v7 v8 v : Value} {i : Nat} {st : Rd} {wr w' : World} {c : UInt8} {x : UInt8} (h : PInv s w v5 v6 v7 v8 i st wr) (hx : c = x)
    (ho : w'.ownsRow w.heap.size 5 1 v (st.signs.length + 1) (st.signs.map bv ++ #[bv x].toList)) (hg : (wr.alloc (.cells #[bv x] 5)).grownBy w' v5.ownBlock) : PMid s w c v v6 i st w' := by
  subst hx
  have h5 := h.own5.alloc (.cells #[bv c] 5)
  have h6 := h.own6.alloc (.cells #[bv c] 5)
  refine ⟨h.run, by simpa using ho, h6.kept hg ?_, below_grown (Nat.le_refl _) (andAlloc h.low _) hg fun k hk => (h5.lt k hk).1⟩
  exact own_apart h6 h5 ne_u8.symm
theorem PMid.done {s : ByteArray} {w : World} {v5 v6 v : Value} {i : Nat} {st : Rd} {wr w' : World} {c : UInt8} {n : Nat} (h : PMid s w c v5 v6 i st wr) (hc : s.data.toList[i]? = some c)
    (hs : rdStep st c = some ⟨st.signs ++ [c], st.vals ++ [0], false, n⟩) {z : Int} (hz : z = n)
    (ho : w'.ownsRow w.heap.size 3 1 v (st.signs.length + 1 + 1) (st.vals.map iv ++ #[iv 0].toList)) (hg : (wr.alloc (.cells #[iv 0] 3)).grownBy w' v6.ownBlock) : PInv s w v5 v (.bool false) (.int .i64 z) (i + 1) ⟨st.signs ++ [c], st.vals ++ [0], false, n⟩ w' := by
  subst hz
  have h5 := h.own5.alloc (.cells #[iv 0] 3)
  have h6 := h.own6.alloc (.cells #[iv 0] 3)
  refine ⟨rdRun_snoc h.run hc hs, rfl, rfl, ?_, ?_, below_grown (Nat.le_refl _) (andAlloc h.low _) hg fun k hk => (h6.lt k hk).1⟩
  · have := h5.kept hg (own_apart h5 h6 ne_u8)
    simpa using this
  · simpa using ho
theorem conv_row {w : World} {base : Nat} {v : Value} {l : List UInt8} (h : w.ownsRow base 5 1 v l.length (l.map bv)) : (convert 168 9 v).run Try.prog w = .ok (.string (S l)) w := by
  rcases h.2 with ⟨rfl, h0⟩ | ⟨g, cap, cur, rfl, hb, hg, hnc, hcm, hcs, htake⟩
  · have : l = [] := List.eq_nil_of_length_eq_zero h0
    subst this
    exact run_convert_bytes_nil w 168 5 Try.underlying168 Try.underlying5 0 0 9 Try.underlying9
  · refine run_convert_bytes_back w 168 9 5 ⟨g, 0, none⟩ cap l Try.underlying168 Try.underlying5 Try.underlying9 (fun j hj => ?_)
    have h1 := h.cells (g := g) rfl j (bv l[j]) (by rw [List.getElem?_map, List.getElem?_eq_getElem hj]; rfl)
    exact h1
theorem mid_of {l : List UInt8} {M : Nat} (hM : M = max 1 (l.length - 1)) : ((S l).extract 1 M).data.toList.any (· == 46) = midDot l := by
  rw [ext_eq]
  show ((l.take M).drop 1).any (· == 46) = _
  unfold midDot
  rw [List.dropLast_eq_take]
  subst hM
  rcases Nat.lt_or_ge 2 (l.length + 1) with h | h
  · rw [Nat.max_eq_right (by omega)]
  · rw [Nat.max_eq_left (by omega), List.drop_of_length_le (by simp; omega), List.drop_of_length_le (by simp; omega)]
theorem head_dot {l : List UInt8} {Z : ByteArray} (hZ : Z = S l) (h : 0 < Z.size) : l.head? = some 46 ↔ (Z[0].toNat : Int) = 46 := by
  subst hZ
  have h1 := get_list (S l) 0 h
  rw [S_list, ← List.head?_eq_getElem?] at h1
  rw [h1]
  constructor
  · intro e; injection e with e; rw [e]; rfl
  · intro e; congr 1; exact UInt8.toNat_inj.1 (by simpa using (by omega : (S l)[0].toNat = 46))
theorem last_dot {l : List UInt8} {Z : ByteArray} {m : Nat} (hZ : Z = S l) (hm : l.length = m + 1) (h : m < Z.size) : l.getLast? = some 46 ↔ (Z[m].toNat : Int) = 46 := by
  subst hZ
  have h1 := get_list (S l) m h
  rw [S_list] at h1
  rw [List.getLast?_eq_getElem?, hm, Nat.add_sub_cancel, h1]
  constructor
  · intro e; injection e with e; rw [e]; rfl
  · intro e; congr 1; exact UInt8.toNat_inj.1 (by simpa using (by omega : (S l)[m].toNat = 46))
theorem parseP_some {s : ByteArray} {w w' : World} {e : Ending} {st : Rd} {Z : ByteArray} {g c m : Nat} {vs : List Int} (h : rd s.data.toList = rdEnd st) (hk : endOk st = true) (hb : Below w.heap.size w w') (hv : ends st.signs st.vals = vs) (hl : vs.length = m + 1 + 1) (hZ : Z = S st.signs)
    (he : e = .returned (.tuple #[.string Z, .slice (some ⟨g, 0, none⟩) (m + 1 + 1) c, .bool true])) (hg : w.heap.size ≤ g) (ho : w'.ownsRow w.heap.size 3 1 (.slice (some ⟨g, 0, none⟩) (m + 1 + 1) c) (m + 1 + 1) (vs.map iv)) : parseP s w e w' := by
  refine ⟨hb, ?_⟩
  rw [h]
  unfold rdEnd
  rw [if_pos hk]
  subst hv hZ
  refine ⟨g, c, ?_, hg, ?_⟩
  · simp only [hl]; exact he
  · simp only [hl]; exact ho
theorem below_set {B : Nat} {a w : World} (h : Below B a w) {g : Nat} (hg : B ≤ g) (j : Nat) (v : Value) : Below B a (w.setCell ⟨g, j, none⟩ v) := h.setCell (p := ⟨g, j, none⟩) hg v
set_option maxHeartbeats 1000000 in
set_option maxRecDepth 100000 in
theorem parse_any (s : ByteArray) (w : World) (hs : s.size ≤ 1048576) : Calls Try.prog 120 #[.string s] w (parseP s w) := by
  go_enter Try.func120, Try.ntmps120
  go_wp2_with fail
  go_loopw [5, 6, 7, 8, 15] (fun v5 v6 v7 v8 v15 wr => ∃ (i : Nat) (st : Rd), i ≤ s.size ∧ v15 = .int .i64 (i : Int) ∧ PInv s w v5 v6 v7 v8 i st wr) (fun _ _ _ _ v15 _ => s.size - (intOf v15).toNat)
  case atStart =>
    refine ⟨0, rd0, by omega, rfl, rfl, rfl, rfl, World.ownsRow_nil _ _ _ _, ?_, andAlloc (Below.refl _ _) _⟩
    exact World.ownsRow_lit w #[.int .i64 0] 1 (Nat.le_refl _) (by simp [maxLen]) rfl
  case round =>
    obtain ⟨i, st, hi, rfl, hI⟩ := hrel
    have h7 := hI.e7
    have h8 := hI.e8
    subst h7 h8
    obtain ⟨hl1, hl2, hl3⟩ := hI.len
    by_cases hlt : i < s.size
    · obtain ⟨c, hc⟩ : ∃ c, c = s[i] := ⟨_, rfl⟩
      have hg : s.data.toList[i]? = some c := by rw [hc]; exact get_list s i hlt
      have HI := Lib.hid hI
      have HG := Lib.hid hg
      have HC := Lib.hid hc
      clear hI hg
      by_cases hd : (48 : Int) ≤ c.toNat ∧ (c.toNat : Int) ≤ 57
      · have h0 := hd.1
        have h1 := hd.2
        cases hdg : st.digit
        · have HST := Lib.hid (show rdStep st c = some ⟨st.signs, st.vals.set (st.vals.length - 1) ((c.toNat : Int) - 48), true, st.letters⟩ by rw [step_dig h0 h1, hdg]; rfl)
          obtain ⟨g, cap, rfl, hgc, hgb, hgl, _⟩ := own_split HI.out.own6
          obtain ⟨u, hu⟩ : ∃ u, (st.vals.map iv)[st.signs.length]? = some u := get_some (by rw [List.length_map]; omega)
          have hcell := (HI.out.own6.cellAt st.signs.length (by omega)).trans hu
          have hfz := HI.out.own6.frozenAt st.signs.length
          have h48 : IntKind.u8.wrap ((c.toNat : Int) - 48) = (c.toNat : Int) - 48 := IntWalk.u8_in _ (by omega)
          have h49 : IntKind.i64.wrap ((c.toNat : Int) - 48) = (c.toNat : Int) - 48 := IntWalk.i64_in _ (by omega)
          clear hd hu
          rw [HC.out] at h0 h1 h48 h49
          go_wp2_with fail
          go_roundw
          case rel =>
            have hst := HI.out.own6.stored st.signs.length (iv ((c.toNat : Int) - 48))
            rw [HC.out] at hst
            refine ⟨i + 1, _, by omega, by go_num, rdRun_snoc HI.out.run HG.out HST.out, rfl, rfl, ?_, ?_, ?_⟩
            · exact HI.out.own5.kept hst.2 (own_apart HI.out.own5 HI.out.own6 ne_u8)
            · have h := hst.1
              rw [← HC.out]
              rw [← HC.out] at h
              simpa [hl1, List.map_set, iv] using h
            · exact HI.out.low.setCell (p := ⟨g, st.signs.length, none⟩) hgb _
          case measure => simp [intOf]; omega
        · have HST := Lib.hid (stop_none HI.out.run HG.out (show rdStep st c = none by rw [step_dig h0 h1, hdg]; rfl))
          clear hd
          rw [HC.out] at h0 h1
          go_wp2_with fail
          go_ret3
          exact parseP_none HST.out HI.out.low rfl
      · have hd' : (c.toNat : Int) < 48 ∨ (57 : Int) < c.toNat := by omega
        cases hok : okS c
        · have HST := Lib.hid (stop_none HI.out.run HG.out (step_no hd hok))
          have hsg := sgn_no c hok
          have HSG := Lib.hid (fun w => sign_any c w)
          rw [hsg] at HSG
          clear hd hsg
          rw [HC.out] at hd' HSG
          rcases hd' with hd' | hd'
          all_goals
            go_wp2_with (go_at_call 121; refine (HSG.out _).mono ?_; rintro e w' ⟨rfl, rfl⟩)
            go_ret3
            exact parseP_none HST.out HI.out.low rfl
        · obtain ⟨sg0, sg1, _⟩ := sgn_ok c hok
          have HSG := Lib.hid (fun w => sign_any c w)
          have HLT := Lib.hid (fun w => letter_any c w)
          generalize hsg : sgn c = sg at HSG sg0 sg1
          clear hsg
          rw [HC.out] at HSG HLT
          cases hl : isLet c
          · have HST := Lib.hid (step_dot (st := st) (c := c) (by simpa [okS, hl] using hok))
            have hd' : (c.toNat : Int) < 48 := by
              have : c = 46 := by simpa [okS, hl] using hok
              subst this; decide
            rw [HC.out] at hd' hl
            all_goals
              go_wp2_with (first
                | (go_at_call 121; refine (HSG.out _).mono ?_; rintro e w' ⟨rfl, rfl⟩)
                | (go_at_call 122; refine (HLT.out _).mono ?_; rintro e w' ⟨rfl, rfl⟩)
                | (at_builtin; refine wpList_push rfl _ _ 42 rfl w.heap.size 3 _ 1 8 Try.underlying42 info_int rfl (by decide) (by decide) _ _ _ rfl HM.out.own6 HM.out.low.size _ rfl rfl rfl (by simp) (by omega) ?_; intro v6 w6 hown6 hg6 hn6)
                | (at_builtin; refine wpList_push rfl _ _ 168 rfl w.heap.size 5 _ 1 1 Try.underlying168 info_u8 rfl (by decide) (by decide) _ _ _ rfl HI.out.own5 HI.out.low.size _ rfl rfl rfl (by simp) (by omega) ?_; intro v5 w5 hown5 hg5 hn5; have HM := Lib.hid (HI.out.app HC.out hown5 hg5); clear hown5 hg5))
              go_roundw
              case rel => exact ⟨i + 1, _, by omega, by go_num, HM.out.done HG.out HST.out rfl hown6 hg6⟩
              case measure => simp [intOf]; omega
          · have HST := Lib.hid (step_let (st := st) hl)
            have hd' : (57 : Int) < c.toNat := by have := isLet_bd hl; omega
            have hd2 : (48 : Int) ≤ c.toNat := by omega
            rw [HC.out] at hd' hd2 hl
            go_wp2_with (first
              | (go_at_call 121; refine (HSG.out _).mono ?_; rintro e w' ⟨rfl, rfl⟩)
              | (go_at_call 122; refine (HLT.out _).mono ?_; rintro e w' ⟨rfl, rfl⟩)
              | (at_builtin; refine wpList_push rfl _ _ 42 rfl w.heap.size 3 _ 1 8 Try.underlying42 info_int rfl (by decide) (by decide) _ _ _ rfl HM.out.own6 HM.out.low.size _ rfl rfl rfl (by simp) (by omega) ?_; intro v6 w6 hown6 hg6 hn6)
                | (at_builtin; refine wpList_push rfl _ _ 168 rfl w.heap.size 5 _ 1 1 Try.underlying168 info_u8 rfl (by decide) (by decide) _ _ _ rfl HI.out.own5 HI.out.low.size _ rfl rfl rfl (by simp) (by omega) ?_; intro v5 w5 hown5 hg5 hn5; have HM := Lib.hid (HI.out.app HC.out hown5 hg5); clear hown5 hg5))
            go_roundw
            case rel => exact ⟨i + 1, _, by omega, by go_num, HM.out.done HG.out HST.out (by go_num) hown6 hg6⟩
            case measure => simp [intOf]; omega
    · obtain rfl : i = s.size := by omega
      have hrun := hI.run
      rw [List.take_of_length_le (by rw [size_list]; exact Nat.le_refl _)] at hrun
      have hf := fine_of hrun
      have HF := Lib.hid hf
      have HE := Lib.hid (show rd s.data.toList = rdEnd st by unfold rd; rw [hrun]; rfl)
      have hconv := conv_row hI.own5
      have HI := Lib.hid hI
      obtain ⟨Z, hZ⟩ : ∃ Z, Z = S st.signs := ⟨_, rfl⟩
      have hzs : Z.size = st.signs.length := by rw [hZ]; rfl
      have HZ := Lib.hid hZ
      rw [← hZ] at hconv
      clear hI hrun hf hZ
      by_cases hlet : (st.letters : Int) = 0
      · have HN := Lib.hid (show rd s.data.toList = none by rw [HE.out]; unfold rdEnd endOk; rw [if_neg]; simp; omega)
        go_wp2_with fail
        go_ret3
        exact parseP_none HN.out HI.out.low rfl
      · by_cases hlen : (63 : Int) < Z.size
        · have HN := Lib.hid (show rd s.data.toList = none by rw [HE.out]; unfold rdEnd endOk; rw [if_neg]; simp; omega)
          go_wp2_with fail
          go_ret3
          exact parseP_none HN.out HI.out.low rfl
        · obtain ⟨m, hm⟩ : ∃ m, st.signs.length = m + 1 := ⟨st.signs.length - 1, by have := HF.out.lets; omega⟩
          obtain ⟨M, hM⟩ : ∃ M, M = max 1 (st.signs.length - 1) := ⟨_, rfl⟩
          have hmid := mid_of hM
          rw [← HZ.out] at hmid
          generalize hb : midDot st.signs = b at hmid
          have HB := Lib.hid hb
          clear hb
          rw [hm] at hzs hM
          have hM1 : (1 : Int) ≤ M := by omega
          have hM2 : (M : Int) ≤ (m : Int) + 1 := by omega
          have hM3 : max (1 : Int) (m : Int) = (M : Int) := by omega
          have hm2 := HI.out.own6
          rw [hm] at hm2
          obtain ⟨g, cap, rfl, hgc, hgb, hgl, _⟩ := own_split hm2
          have hm63 : (m : Int) + 1 ≤ 63 := by omega
          have HMID := Lib.hid (fun w => contains_any (Z.extract 1 M) w)
          rw [hmid] at HMID
          have HMM := Lib.hid hm
          have HOW := Lib.hid hm2
          clear hm hmid hM hlen hl2 hm2 hl1
          go_wp2_with fail
          refine (HMID.out _).mono ?_
          rintro e w' ⟨rfl, rfl⟩
          have hlen2 : ¬ 63 < st.signs.length := by have := HMM.out; omega
          cases b
          · have HK := Lib.hid (show endOk st = true by unfold endOk; rw [HB.out]; simp; exact ⟨by omega, by omega⟩)
            have hz0 : 0 < Z.size := by omega
            have hz1 : m < Z.size := by omega
            have HD0 := Lib.hid (head_dot HZ.out hz0)
            have HD1 := Lib.hid (last_dot HZ.out HMM.out hz1)
            have HL := Lib.hid (show st.vals.length = m + 1 + 1 by have := HF.out.len; have := HMM.out; omega)
            obtain ⟨u0, hu0⟩ : ∃ u, (st.vals.map iv)[0]? = some u := get_some (by rw [List.length_map, HL.out]; omega)
            obtain ⟨u1, hu1⟩ : ∃ u, (st.vals.map iv)[m + 1]? = some u := get_some (by rw [List.length_map, HL.out]; omega)
            have hc0 := (HOW.out.cellAt 0 (by omega)).trans hu0
            have hc1 := (HOW.out.cellAt (m + 1) (by omega)).trans hu1
            have hf0 := HOW.out.frozenAt 0
            have hf1 := HOW.out.frozenAt (m + 1)
            have HS0 := Lib.hid (HOW.out.stored 0 (iv 0))
            have HS1 := Lib.hid (HOW.out.stored (m + 1) (iv 0))
            have HS2 := Lib.hid (HS0.out.1.stored (m + 1) (iv 0))
            have hlow := Lib.hid HI.out.low
            have hq : ((st.letters : Int) == 0) = false := by simpa using hlet
            clear hu0 hu1 hlen2 hconv
            by_cases d0 : (Z[0].toNat : Int) = 46 <;> by_cases d1 : (Z[m].toNat : Int) = 46
            · have HV := Lib.hid (show ends st.signs st.vals = ((st.vals.set 0 0).set (m + 1) 0) by unfold ends; simp only [HD0.out, HD1.out, d0, d1, HMM.out]; rfl)
              go_wp2_with fail
              go_ret3
              exact parseP_some HE.out HK.out (below_set (below_set hlow.out hgb _ _) hgb _ _) HV.out (by simp [HL.out]) HZ.out rfl hgb (by simpa [List.map_set] using HS2.out.1)
            · have HV := Lib.hid (show ends st.signs st.vals = (st.vals.set 0 0) by unfold ends; simp only [HD0.out, HD1.out, d0, d1, HMM.out]; rfl)
              go_wp2_with fail
              go_ret3
              exact parseP_some HE.out HK.out (below_set hlow.out hgb _ _) HV.out (by simp [HL.out]) HZ.out rfl hgb (by simpa [List.map_set] using HS0.out.1)
            · have HV := Lib.hid (show ends st.signs st.vals = (st.vals.set (m + 1) 0) by unfold ends; simp only [HD0.out, HD1.out, d0, d1, HMM.out]; rfl)
              go_wp2_with fail
              go_ret3
              exact parseP_some HE.out HK.out (below_set hlow.out hgb _ _) HV.out (by simp [HL.out]) HZ.out rfl hgb (by simpa [List.map_set] using HS1.out.1)
            · have HV := Lib.hid (show ends st.signs st.vals = st.vals by unfold ends; simp only [HD0.out, HD1.out, d0, d1, HMM.out]; rfl)
              go_wp2_with fail
              go_ret3
              exact parseP_some HE.out HK.out hlow.out HV.out (by simp [HL.out]) HZ.out rfl hgb (by simpa [List.map_set] using HOW.out)
          · have HN := Lib.hid (show rd s.data.toList = none by rw [HE.out]; unfold rdEnd endOk; rw [if_neg]; rw [HB.out]; simp)
            go_wp2_with fail
            go_ret3
            exact parseP_none HN.out HI.out.low rfl
end Go.Proofs.Ytmcekdjhkjhcdaa.Hy
