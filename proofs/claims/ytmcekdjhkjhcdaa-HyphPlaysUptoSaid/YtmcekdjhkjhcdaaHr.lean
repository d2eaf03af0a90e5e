import Derived.Test.YtmcekdjhkjhcdaaHh
/- The contract of the document's Read. Conditions: those that each theorem names. -/
namespace Go.Proofs.Ytmcekdjhkjhcdaa.Hy
open Go.ChangeShapes Go.WideShapes Go.ChangeAt Go.RowKit
open Me Hp
set_option linter.unusedVariables false
set_option linter.unusedSimpArgs false

def digB (c : UInt8) : Bool := decide ((48 : Int) ≤ c.toNat) && decide ((c.toNat : Int) ≤ 57)
theorem ret_ib {a b : Int} {x y : Bool} (h : a = b) (k : x = y) : Ending.returned (.tuple #[.int .i64 a, .bool x]) = .returned (.tuple #[.int .i64 b, .bool y]) := by rw [h, k]
theorem rdig_any (c : UInt8) (w : World) : Calls Try.prog 64 #[.int .u8 (c.toNat : Int)] w fun e w' => e = .returned (.tuple #[.int .i64 ((c.toNat : Int) - 48), .bool (digB c)]) ∧ w' = w := by
  have hc : c.toNat < 256 := c.toNat_lt
  by_cases h1 : (48 : Int) ≤ c.toNat <;> by_cases h2 : (c.toNat : Int) ≤ 57
  all_goals
    have HL := Lib.hid (show digB c = (decide ((48 : Int) ≤ c.toNat) && decide ((c.toNat : Int) ≤ 57)) from rfl)
    go_enter Try.func64, Try.ntmps64
    go_wp2
    go_ret2
    refine ⟨ret_ib rfl ?_, rfl⟩
    rw [HL.out]
    simp [h1, h2]
def pz : Array Value := #[.string ⟨#[]⟩, .slice none 0 0]
structure RInv (s : ByteArray) (w : World) (v5 v6 v : Value) (i : Nat) (st : Rd) (wr : World) : Prop where
  run : rdRun rd0 (s.data.toList.take i) = some st
  e5 : v5 = .bool st.digit
  e6 : v6 = .int .i64 (st.letters : Int)
  res : Blk wr w.heap.size 48 pz
  p : Blk wr (w.heap.size + 1 + 1) 48 #[.string (S st.signs), v]
  own : wr.ownsRow w.heap.size 3 1 v (st.signs.length + 1) (st.vals.map iv)
  low : Below w.heap.size w wr
theorem ne_pat : (3 : Nat) ≠ 48 := by decide
theorem own_not_blk {w : World} {B p n : Nat} {v : Value} {xs : List Value} {cs : Array Value} {e t : TypeId} {size : Nat} (h : w.ownsRow B e size v n xs) (hb : Blk w p t cs) (he : e ≠ t) : v.ownBlock = none ∨ v.ownBlock ≠ some p := by
  rcases h.2 with ⟨rfl, _⟩ | ⟨g, cap, cur, rfl, _, hg, _⟩
  · exact .inl rfl
  · refine .inr ?_
    intro e'
    have e' : g = p := by simpa [Value.ownBlock] using e'
    subst e'
    have hp : w.heap[g]? = some (.cells _ t (0, 0)) := hb
    rw [hg] at hp
    simp only [Option.some.injEq, Obj.cells.injEq] at hp
    exact he hp.2.1
theorem RInv.len {s : ByteArray} {w : World} {v5 v6 v : Value} {i : Nat} {st : Rd} {wr : World} (h : RInv s w v5 v6 v i st wr) : st.vals.length = st.signs.length + 1 ∧ st.signs.length ≤ i ∧ st.letters ≤ i := by
  have h1 := fine_of h.run
  have h2 := h1.le
  rw [List.length_take] at h2
  have h3 := h1.lets
  exact ⟨h1.len, by omega, by omega⟩
/-- What Read answers. -/
def readP (s : ByteArray) (w : World) (e : Ending) (w' : World) : Prop := Below w.heap.size w w' ∧ match rd s.data.toList with
  | none => e = .returned (.tuple #[.agg pz, .bool false])
  | some p => ∃ g c : Nat, e = .returned (.tuple #[.agg #[.string (S p.1), .slice (some ⟨g, 0, none⟩) p.2.length c], .bool true]) ∧ w'.ownsRow w.heap.size 3 1 (.slice (some ⟨g, 0, none⟩) p.2.length c) p.2.length (p.2.map iv)
theorem info_pat : (Try.prog.info? 48).map (·.size) = some 2 := by kernel_rfl
theorem readP_none {s : ByteArray} {w w' : World} {e : Ending} (h : rd s.data.toList = none) (hb : Below w.heap.size w w') (he : e = .returned (.tuple #[.agg pz, .bool false])) : readP s w e w' := by
  refine ⟨hb, ?_⟩
  rw [h]
  exact he
/-- A sign more, but no value yet. -/
structure RMid (s : ByteArray) (w : World) (v : Value) (i : Nat) (st : Rd) (c : UInt8) (wr : World) : Prop where
  run : rdRun rd0 (s.data.toList.take i) = some st
  res : Blk wr w.heap.size 48 pz
  p : Blk wr (w.heap.size + 1 + 1) 48 #[.string (S (st.signs ++ [c])), v]
  own : wr.ownsRow w.heap.size 3 1 v (st.signs.length + 1) (st.vals.map iv)
  low : Below w.heap.size w wr
theorem S_snoc (s : ByteArray) (l : List UInt8) {i : Nat} {c : UInt8} (h : s.data.toList[i]? = some c) : S l ++ s.extract i (i + 1) = S (l ++ [c]) := by
  rw [ext_eq, take_succ' h, List.drop_append, List.drop_of_length_le (by simp; omega)]
  have hl : (s.data.toList.take i).length = i := by
    rw [List.length_take]
    have := (List.getElem?_eq_some_iff.1 h).1
    omega
  rw [hl, Nat.sub_self]
  apply ByteArray.ext
  rw [ByteArray.data_append]
  apply Array.ext'
  simp [S]
theorem RInv.mid {s : ByteArray} {w : World} {v5 v6 v : Value} {i : Nat} {st : Rd} {wr : World} {c : UInt8} (h : RInv s w v5 v6 v i st wr) (hc : s.data.toList[i]? = some c) : RMid s w v i st c (wr.setCell ⟨w.heap.size + 1 + 1, 0, none⟩ (.string (S st.signs ++ s.extract i (i + 1)))) := by
  rw [S_snoc s st.signs hc]
  refine ⟨h.run, h.res.far (by simp; omega) _, ?_, h.own.kept (grown_set wr _ _ _) (own_not_blk h.own h.p ne_pat), below_set h.low (by omega) _ _⟩
  exact h.p.set 0 _
theorem RMid.below {s : ByteArray} {w : World} {v : Value} {i : Nat} {st : Rd} {c : UInt8} {wr w' : World} (h : RMid s w v i st c wr) (hb : Below wr.heap.size wr w') : RMid s w v i st c w' :=
  ⟨h.run, h.res.below hb h.res.lt, h.p.below hb h.p.lt, own_below h.own hb, andThen h.low hb⟩
theorem RMid.done {s : ByteArray} {w : World} {v v' : Value} {i n : Nat} {st : Rd} {c : UInt8} {wr w' : World} (h : RMid s w v i st c wr) (hc : s.data.toList[i]? = some c)
    (hs : rdStep st c = some ⟨st.signs ++ [c], st.vals ++ [0], false, n⟩) {z : Int} (hz : z = n)
    (ho : w'.ownsRow w.heap.size 3 1 v' (st.signs.length + 1 + 1) (st.vals.map iv ++ #[iv 0].toList)) (hg : (wr.alloc (.cells #[iv 0] 3)).grownBy w' v.ownBlock) : RInv s w (.bool false) (.int .i64 z) v' (i + 1) ⟨st.signs ++ [c], st.vals ++ [0], false, n⟩ (w'.setCell ⟨w.heap.size + 1 + 1, 1, none⟩ v') := by
  subst hz
  have h1 := h.own.alloc (.cells #[iv 0] 3)
  have hne : ∀ {q : Nat} {cs : Array Value}, Blk wr q 48 cs → some q ≠ v.ownBlock := by
    intro q cs hb e
    rcases own_not_blk h.own hb ne_pat with h2 | h2
    · rw [h2] at e; cases e
    · exact h2 e.symm
  have hp := (h.p.alloc (.cells #[iv 0] 3)).grown hg (hne h.p)
  have hr := (h.res.alloc (.cells #[iv 0] 3)).grown hg (hne h.res)
  have hlow : Below w.heap.size w w' := below_grown (Nat.le_refl _) (andAlloc h.low _) hg fun k hk => (h1.lt k hk).1
  refine ⟨rdRun_snoc h.run hc hs, rfl, rfl, hr.far (by simp; omega) _, hp.set 1 _, ?_, below_set hlow (by omega) _ _⟩
  have := ho.kept (grown_set w' (w.heap.size + 1 + 1) 1 v') (own_not_blk ho hp ne_pat)
  simpa using this
/-- In the middle of an append: the record still lies. -/
theorem RMid.pG {s : ByteArray} {w : World} {v : Value} {i : Nat} {st : Rd} {c : UInt8} {wr w' : World} {o : Obj} (h : RMid s w v i st c wr) (hg : (wr.alloc o).grownBy w' v.ownBlock) : Blk w' (w.heap.size + 1 + 1) 48 #[.string (S (st.signs ++ [c])), v] := by
  refine (h.p.alloc o).grown hg ?_
  intro e
  rcases own_not_blk h.own h.p ne_pat with h2 | h2
  · rw [h2] at e; cases e
  · exact h2 e.symm
theorem res_ct {P : Program} {fn : Func} {p q : Tmp} {ty : TypeId} (h : fn.results = #[.cell p ty, .tmp q]) (tmps : Array Value) (w : World) (g : Nat) (t : TypeId) (cs : Array Value) (fr : Nat × Nat) (d : TypeDesc) (v : Value)
    (hp : tmps.getD p undef = .pointer (some ⟨g, 0, none⟩)) (hq : tmps.getD q undef = v) (hg : w.heap[g]? = some (.cells cs t fr))
    (hu : P.underlying ty = some d) (hd : (match d with | .struct _ | .array _ _ => true | _ => false) = true) (hi : (P.info? ty).map (·.size) = some cs.size) :
    (results fn tmps).run P w = .ok (.tuple #[.agg cs, v]) w := by
  have hp' : tmps[p]?.getD undef = .pointer (some ⟨g, 0, none⟩) := by simpa using hp
  have hq' : tmps[q]?.getD undef = v := by simpa using hq
  simp [results, h, hp', hq', asAddr, run_loadVar_row w g t ty cs fr d hg hu hd hi]
theorem put_pz {w : World} {g : Nat} {t : TypeId} {a b x y : Value} (h : Blk w g t #[a, b]) : Blk ((w.setCell ⟨g, 0, none⟩ x).setCell ⟨g, 1, none⟩ y) g t #[x, y] := (h.set 0 x).set 1 y
theorem mid_yes {l : List UInt8} {k : Nat} (h1 : 1 ≤ k) (h2 : k + 1 < l.length) (h : l[k]? = some 46) : midDot l = true := by
  unfold midDot
  rw [List.any_eq_true]
  refine ⟨46, ?_, rfl⟩
  rw [List.mem_iff_getElem?]
  refine ⟨k - 1, ?_⟩
  rw [List.getElem?_drop, List.getElem?_dropLast, if_pos (by omega), show 1 + (k - 1) = k by omega, h]
theorem mid_no {l : List UInt8} (h : ∀ k, 1 ≤ k → k + 1 < l.length → l[k]? ≠ some 46) : midDot l = false := by
  unfold midDot
  rw [List.any_eq_false]
  intro c hc
  obtain ⟨k, hk⟩ := List.mem_iff_getElem?.1 hc
  rw [List.getElem?_drop, List.getElem?_dropLast] at hk
  split at hk
  · rename_i hl
    intro e
    have e' : c = 46 := by simpa using e
    subst e'
    exact h (1 + k) (by omega) (by omega) hk
  · cases hk
theorem readP_some {s : ByteArray} {w w' : World} {e : Ending} {st : Rd} {Z : ByteArray} {g c m : Nat} {vs : List Int} (h : rd s.data.toList = rdEnd st) (hk : endOk st = true) (hb : Below w.heap.size w w') (hv : ends st.signs st.vals = vs) (hl : vs.length = m + 1 + 1) (hZ : Z = S st.signs)
    (he : e = .returned (.tuple #[.agg #[.string Z, .slice (some ⟨g, 0, none⟩) (m + 1 + 1) c], .bool true])) (ho : w'.ownsRow w.heap.size 3 1 (.slice (some ⟨g, 0, none⟩) (m + 1 + 1) c) (m + 1 + 1) (vs.map iv)) : readP s w e w' := by
  refine ⟨hb, ?_⟩
  rw [h]
  unfold rdEnd
  rw [if_pos hk]
  subst hv hZ
  refine ⟨g, c, ?_, ?_⟩
  · simp only [hl]; exact he
  · simp only [hl]; exact ho
theorem own_put2 {w : World} {B g cap n r : Nat} {e : TypeId} {xs : List Value} {x y : Value} (h : w.ownsRow B e 1 (.slice (some ⟨g, 0, none⟩) n cap) n xs) (hne : g ≠ r) : ((w.setCell ⟨r, 0, none⟩ x).setCell ⟨r, 1, none⟩ y).ownsRow B e 1 (.slice (some ⟨g, 0, none⟩) n cap) n xs := by
  have h1 := h.kept (grown_set w r 0 x) (.inr (by intro e; injection e with e; exact hne e))
  exact h1.kept (grown_set _ r 1 y) (.inr (by intro e; injection e with e; exact hne e))
set_option maxHeartbeats 8000000 in
set_option maxRecDepth 100000 in
theorem read_any (s : ByteArray) (w : World) (hs : s.size ≤ 1048576) : Calls Try.prog 25 #[.string s] w (readP s w) := by
  go_enter Try.func25, Try.ntmps25
  go_wp2_with fail
  go_loopw [5, 6, 7] (fun v5 v6 v7 wr => ∃ (i : Nat) (st : Rd) (v : Value), i ≤ s.size ∧ v7 = .int .i64 (i : Int) ∧ RInv s w v5 v6 v i st wr) (fun _ _ v7 _ => s.size - (intOf v7).toNat)
  case atStart =>
    refine ⟨0, rd0, .slice (some ⟨w.heap.size + 1, 0, none⟩) 1 1, by omega, rfl, rfl, rfl, rfl, ((Blk.new w _ _).alloc _).alloc _, Blk.new' (by simp), ?_, andAlloc (andAlloc (andAlloc (Below.refl _ _) _) _) _⟩
    have h := (World.ownsRow_lit (e := 3) (size := 1) (base := w.heap.size) (w.alloc (.cells #[.string ⟨#[]⟩, .slice none 0 0] 48)) #[.int .i64 0] 1 (by simp) (by simp [maxLen]) rfl).alloc (.cells #[.string ⟨#[]⟩, .slice (some ⟨w.heap.size + 1, 0, none⟩) 1 1] 48)
    have e1 : rd0.signs.length + 1 = 1 := rfl
    have e2 : rd0.vals.map iv = [iv 0] := rfl
    rw [e1, e2]
    simpa using h
  case round =>
    obtain ⟨i, st, v, hi, rfl, hI⟩ := hrel
    have h5 := hI.e5
    have h6 := hI.e6
    subst h5 h6
    obtain ⟨hl1, hl2, hl3⟩ := hI.len
    by_cases hlt : i < s.size
    · obtain ⟨c, hc⟩ : ∃ c, c = s[i] := ⟨_, rfl⟩
      have hg : s.data.toList[i]? = some c := by rw [hc]; exact get_list s i hlt
      have HI := Lib.hid hI
      have HG := Lib.hid hg
      have HRES := Lib.hid hI.res
      have HLOW := Lib.hid hI.low
      have HC := Lib.hid hc
      have hp0 := hI.p.cell 0
      have hp1 := hI.p.cell 1
      have hr0 : wr.cell? ⟨w.heap.size, 0, none⟩ = some (.string ⟨#[]⟩) := hI.res.cell 0
      have hr1 : wr.cell? ⟨w.heap.size, 1, none⟩ = some (.slice none 0 0) := hI.res.cell 1
      have hfp0 := hI.p.free 0
      have hfp1 := hI.p.free 1
      have hfr0 := hI.res.free 0
      have hfr1 := hI.res.free 1
      have HDG := Lib.hid (fun w => rdig_any c w)
      rw [hc] at HDG
      have HDB := Lib.hid (show digB s[i] = (decide ((48 : Int) ≤ s[i].toNat) && decide ((s[i].toNat : Int) ≤ 57)) from rfl)
      clear hI hg
      by_cases hd : (48 : Int) ≤ c.toNat ∧ (c.toNat : Int) ≤ 57
      · have h0 := hd.1
        have h1 := hd.2
        have hdb : digB s[i] = true := by rw [← hc]; simp [digB]; omega
        rw [hdb] at HDG
        cases hdg : st.digit
        · have HST := Lib.hid (show rdStep st c = some ⟨st.signs, st.vals.set (st.vals.length - 1) ((c.toNat : Int) - 48), true, st.letters⟩ by rw [step_dig h0 h1, hdg]; rfl)
          obtain ⟨g, cap, rfl, hgc, hgb, hgl, _⟩ := own_split HI.out.own
          obtain ⟨u, hu⟩ : ∃ u, (st.vals.map iv)[st.signs.length]? = some u := get_some (by rw [List.length_map]; omega)
          have hcell := (HI.out.own.cellAt st.signs.length (by omega)).trans hu
          have hfz := HI.out.own.frozenAt st.signs.length
          clear hd hu hdb HDB hr0 hr1 hfr0 hfr1
          rw [HC.out] at h0 h1
          go_wp2_with (go_at_call 64; refine (HDG.out _).mono ?_; rintro e w' ⟨rfl, rfl⟩)
          go_roundw
          case rel =>
            have hst := HI.out.own.stored st.signs.length (iv ((c.toNat : Int) - 48))
            rw [HC.out] at hst
            refine ⟨i + 1, _, .slice (some ⟨g, 0, none⟩) (st.signs.length + 1) cap, by omega, by go_num, rdRun_snoc HI.out.run HG.out HST.out, rfl, rfl, ?_, ?_, ?_, ?_⟩
            · exact HI.out.res.grown hst.2 (by intro e; rcases own_not_blk HI.out.own HI.out.res ne_pat with h2 | h2; (cases h2); exact h2 e.symm)
            · exact HI.out.p.grown hst.2 (by intro e; rcases own_not_blk HI.out.own HI.out.p ne_pat with h2 | h2; (cases h2); exact h2 e.symm)
            · have h := hst.1
              rw [← HC.out]
              rw [← HC.out] at h
              simpa [hl1, List.map_set, iv] using h
            · exact HI.out.low.setCell (p := ⟨g, st.signs.length, none⟩) hgb _
          case measure => simp [intOf]; omega
        · have HST := Lib.hid (stop_none HI.out.run HG.out (show rdStep st c = none by rw [step_dig h0 h1, hdg]; rfl))
          clear hd hdb HDB hp0 hp1 hfp0 hfp1
          go_wp2_with (go_at_call 64; refine (HDG.out _).mono ?_; rintro e w' ⟨rfl, rfl⟩)
          refine bodyPost_ret (v := .tuple #[.agg pz, .bool false]) (res_ct rfl _ _ w.heap.size 48 pz (0, 0) _ _ rfl rfl (put_pz HRES.out) Try.underlying48 rfl info_pat) rfl ?_
          exact readP_none HST.out (below_set (below_set HLOW.out (Nat.le_refl _) _ _) (Nat.le_refl _) _ _) rfl
      · have hdb : digB s[i] = false := by rw [← hc]; simp [digB]; omega
        rw [hdb] at HDG
        have HLT := Lib.hid (fun w => rletter_any c w)
        have hd' : (c.toNat : Int) < 48 ∨ (57 : Int) < c.toNat := by omega
        clear HDB
        cases hok : okS c
        · have HST := Lib.hid (stop_none HI.out.run HG.out (step_no hd hok))
          have hl : isLet c = false := by
            cases h : isLet c
            · rfl
            · rw [(let_ok c h).1] at hok; cases hok
          have h46 : ¬ (c.toNat : Int) = 46 := by
            intro e
            have : c = 46 := UInt8.toNat_inj.1 (by simpa using (by omega : c.toNat = 46))
            subst this
            cases hok
          rw [hl, hc] at HLT
          rw [hc] at h46
          clear hd hd' hok hl hdb hp0 hp1 hfp0 hfp1
          go_wp2_with (first | (go_at_call 64; refine (HDG.out _).mono ?_; rintro e w' ⟨rfl, rfl⟩) | (go_at_call 65; refine (HLT.out _).mono ?_; rintro e w' ⟨rfl, rfl⟩))
          refine bodyPost_ret (v := .tuple #[.agg pz, .bool false]) (res_ct rfl _ _ w.heap.size 48 pz (0, 0) _ _ rfl rfl (put_pz HRES.out) Try.underlying48 rfl info_pat) rfl ?_
          exact readP_none HST.out (below_set (below_set HLOW.out (Nat.le_refl _) _ _) (Nat.le_refl _) _ _) rfl
        · cases hl : isLet c
          · have h46' : c = 46 := by simpa [okS, hl] using hok
            have HST := Lib.hid (step_dot (st := st) h46')
            have h46 : (c.toNat : Int) = 46 := by subst h46'; rfl
            rw [hl, hc] at HLT
            rw [hc] at h46
            rw [h46] at HDG HLT
            clear hd hok hl hdb h46'
            have HMID := Lib.hid (HI.out.mid HG.out)
            have hsz1 : (S st.signs).size ≤ 1048576 := by rw [S_size]; omega
            have hsz2 : (s.extract i (i + 1)).size ≤ 1048576 := by rw [ByteArray.size_extract]; omega
            clear HRES HLOW hr0 hr1 hfr0 hfr1 hfp1 hp1
            go_upto_region 18 with (first | (go_at_call 64; refine (HDG.out _).mono ?_; rintro e w' ⟨rfl, rfl⟩) | (go_at_call 65; refine (HLT.out _).mono ?_; rintro e w' ⟨rfl, rfl⟩))
            go_cut [] from 49 to 58 (fun wx => RMid s w v i st c wx)
            case first =>
              clear HI HG HC HDG HLT HST hd' hl1 hl2 hl3
              go_region
              go_wp2_with fail
              go_meet
              case rel => exact HMID.out.below (below_drewN (Below.refl _ _) 1)
            case rest =>
              have HM := Lib.hid hcut
              have hp8 := hcut.p.cell 1
              have hf8 := hcut.p.free 1
              clear hcut HMID HI hp0 hfp0
              go_wp2_with (at_builtin; refine wpList_push rfl _ _ 42 rfl w.heap.size 3 _ 1 8 Try.underlying42 info_int rfl (by decide) (by decide) _ _ _ rfl HM.out.own HM.out.low.size _ rfl rfl rfl (by simp) (by omega) ?_; intro v7 w7 hown7 hg7 hn7; have HD7 := Lib.hid (HM.out.done HG.out HST.out rfl hown7 hg7); have hb7 := HM.out.pG hg7; have hp7 := hb7.cell 1; have hf7 := hb7.free 1; obtain ⟨g7, c7, rfl⟩ := own_succ hown7; clear hown7 hg7 hn7 hb7)
              go_roundw
              case rel => exact ⟨i + 1, _, _, by omega, by go_num, HD7.out⟩
              case measure => simp [intOf]; omega
          · have HST := Lib.hid (step_let (st := st) hl)
            rw [hl, hc] at HLT
            clear hd hok hl hdb
            have HMID := Lib.hid (HI.out.mid HG.out)
            have hsz1 : (S st.signs).size ≤ 1048576 := by rw [S_size]; omega
            have hsz2 : (s.extract i (i + 1)).size ≤ 1048576 := by rw [ByteArray.size_extract]; omega
            clear HRES HLOW hr0 hr1 hfr0 hfr1 hfp1 hp1
            go_upto_region 18 with (first | (go_at_call 64; refine (HDG.out _).mono ?_; rintro e w' ⟨rfl, rfl⟩) | (go_at_call 65; refine (HLT.out _).mono ?_; rintro e w' ⟨rfl, rfl⟩))
            go_cut [] from 49 to 58 (fun wx => RMid s w v i st c wx)
            case first =>
              clear HI HG HC HDG HLT HST hd' hl1 hl2 hl3
              go_region
              go_wp2_with fail
              go_meet
              case rel => exact HMID.out.below (below_drewN (Below.refl _ _) 1)
            case rest =>
              have HM := Lib.hid hcut
              have hp8 := hcut.p.cell 1
              have hf8 := hcut.p.free 1
              clear hcut HMID HI hp0 hfp0
              go_wp2_with (at_builtin; refine wpList_push rfl _ _ 42 rfl w.heap.size 3 _ 1 8 Try.underlying42 info_int rfl (by decide) (by decide) _ _ _ rfl HM.out.own HM.out.low.size _ rfl rfl rfl (by simp) (by omega) ?_; intro v7 w7 hown7 hg7 hn7; have HD7 := Lib.hid (HM.out.done HG.out HST.out (by go_num) hown7 hg7); have hb7 := HM.out.pG hg7; have hp7 := hb7.cell 1; have hf7 := hb7.free 1; obtain ⟨g7, c7, rfl⟩ := own_succ hown7; clear hown7 hg7 hn7 hb7)
              go_roundw
              case rel => exact ⟨i + 1, _, _, by omega, by go_num, HD7.out⟩
              case measure => simp [intOf]; omega
    · obtain rfl : i = s.size := by omega
      have hrun := hI.run
      rw [List.take_of_length_le (by rw [size_list]; exact Nat.le_refl _)] at hrun
      have HF := Lib.hid (fine_of hrun)
      have HE := Lib.hid (show rd s.data.toList = rdEnd st by unfold rd; rw [hrun]; rfl)
      have HRES := Lib.hid hI.res
      have HLOW := Lib.hid hI.low
      obtain ⟨Z, hZ⟩ : ∃ Z, Z = S st.signs := ⟨_, rfl⟩
      have hzs : Z.size = st.signs.length := by rw [hZ]; rfl
      have HZ := Lib.hid hZ
      have hp := hI.p
      rw [← hZ] at hp
      have hp0 := hp.cell 0
      have hp1 := hp.cell 1
      have hr0 : wr.cell? ⟨w.heap.size, 0, none⟩ = some (.string ⟨#[]⟩) := hI.res.cell 0
      have hr1 : wr.cell? ⟨w.heap.size, 1, none⟩ = some (.slice none 0 0) := hI.res.cell 1
      have hfr0 := hI.res.free 0
      have hfr1 := hI.res.free 1
      have HP := Lib.hid hp
      have HI := Lib.hid hI
      have hzn : Z.size ≤ 1048576 := by omega
      clear hI hrun hZ hp
      go_wp2_with fail
      go_loop [11] (fun v11 => ∃ k : Nat, 1 ≤ k ∧ (k = 1 ∨ k + 1 ≤ Z.size) ∧ v11 = .int .i64 (k : Int) ∧ ∀ j, 1 ≤ j → j < k → st.signs[j]? ≠ some 46) (fun v11 => Z.size - (intOf v11).toNat)
      case atStart => exact ⟨1, by omega, .inl rfl, rfl, fun j h1 h2 => absurd h2 (by omega)⟩
      case round =>
        obtain ⟨k, hk1, hk2, rfl, hno⟩ := hrel
        have HNO := Lib.hid hno
        clear hno
        by_cases hkn : (k : Int) < (Z.size : Int) - 1
        · have hkz : k < Z.size := by omega
          have hget := Zget HZ.out hkz
          have HGET := Lib.hid hget
          clear hget
          by_cases h46 : (Z[k].toNat : Int) = 46
          · have HST := Lib.hid (show rd s.data.toList = none by
              have hm : midDot st.signs = true := mid_yes hk1 (by omega) (by rw [HGET.out]; congr 1; exact UInt8.toNat_inj.1 (by simpa using (by omega : Z[k].toNat = 46)))
              rw [HE.out]; unfold rdEnd endOk; rw [if_neg]; rw [hm]; simp)
            go_wp2_with fail
            refine bodyPost_ret (v := .tuple #[.agg pz, .bool false]) (res_ct rfl _ _ w.heap.size 48 pz (0, 0) _ _ rfl rfl (put_pz HRES.out) Try.underlying48 rfl info_pat) rfl ?_
            exact readP_none HST.out (below_set (below_set HLOW.out (Nat.le_refl _) _ _) (Nat.le_refl _) _ _) rfl
          · go_wp2_with fail
            go_round
            case rel =>
              refine ⟨k + 1, by omega, .inr (by omega), by go_num, fun j h1 h2 => ?_⟩
              rcases Nat.lt_or_ge j k with h | h
              · exact HNO.out j h1 h
              · obtain rfl : j = k := by omega
                rw [HGET.out]
                intro e
                injection e with e
                apply h46
                rw [e]
                rfl
            case measure => simp [intOf]; omega
        · have hmid : midDot st.signs = false := mid_no fun j h1 h2 => HNO.out j h1 (by omega)
          have HMID := Lib.hid hmid
          clear hmid hk2
          by_cases hlet : (st.letters : Int) = 0
          · have HST := Lib.hid (show rd s.data.toList = none by rw [HE.out]; unfold rdEnd endOk; rw [if_neg]; simp; omega)
            go_wp2_with fail
            refine bodyPost_ret (v := .tuple #[.agg pz, .bool false]) (res_ct rfl _ _ w.heap.size 48 pz (0, 0) _ _ rfl rfl (put_pz HRES.out) Try.underlying48 rfl info_pat) rfl ?_
            exact readP_none HST.out (below_set (below_set HLOW.out (Nat.le_refl _) _ _) (Nat.le_refl _) _ _) rfl
          · by_cases hlen : (63 : Int) < Z.size
            · have HST := Lib.hid (show rd s.data.toList = none by rw [HE.out]; unfold rdEnd endOk; rw [if_neg]; simp; omega)
              go_wp2_with fail
              refine bodyPost_ret (v := .tuple #[.agg pz, .bool false]) (res_ct rfl _ _ w.heap.size 48 pz (0, 0) _ _ rfl rfl (put_pz HRES.out) Try.underlying48 rfl info_pat) rfl ?_
              exact readP_none HST.out (below_set (below_set HLOW.out (Nat.le_refl _) _ _) (Nat.le_refl _) _ _) rfl
            · obtain ⟨m, hm⟩ : ∃ m, st.signs.length = m + 1 := ⟨st.signs.length - 1, by have := HF.out.lets; omega⟩
              have hown := HI.out.own
              rw [hm] at hzs hown hl2 ⊢
              have hkn2 : (m : Int) ≤ (k : Int) := by omega
              obtain ⟨g, cap, rfl, hgc, hgb, hgl, _⟩ := own_split hown
              have HOW := Lib.hid hown
              have HMM := Lib.hid hm
              have HK := Lib.hid (show endOk st = true by unfold endOk; rw [HMID.out]; simp; exact ⟨by omega, by omega⟩)
              have hz0 : 0 < Z.size := by omega
              have hz1 : m < Z.size := by omega
              have HD0 := Lib.hid (head_dot HZ.out hz0)
              have HD1 := Lib.hid (last_dot HZ.out HMM.out hz1)
              have HL := Lib.hid (show st.vals.length = m + 1 + 1 by have := HF.out.len; have := HMM.out; omega)
              obtain ⟨u0, hu0⟩ : ∃ u, (st.vals.map iv)[0]? = some u := get_some (by rw [List.length_map, HL.out]; omega)
              obtain ⟨u1, hu1⟩ : ∃ u, (st.vals.map iv)[m + 1]? = some u := get_some (by rw [List.length_map, HL.out]; omega)
              have hc0 := (HOW.out.cellAt 0 (by omega)).trans hu0
              have hc1 := (HOW.out.cellAt (m + 1) (by omega)).trans hu1
              have hf0 := HOW.out.frozenAt 0
              have hf1 := HOW.out.frozenAt (m + 1)
              have hq : ((st.letters : Int) == 0) = false := by simpa using hlet
              have hm63 : (m : Int) + 1 ≤ 63 := by omega
              have hgr : g ≠ w.heap.size := fun e => by rcases own_not_blk HOW.out HRES.out ne_pat with h2 | h2; (cases h2); exact h2 (by rw [← e]; rfl)
              have hgp : g ≠ w.heap.size + 1 + 1 := fun e => by rcases own_not_blk HOW.out HP.out ne_pat with h2 | h2; (cases h2); exact h2 (by rw [← e]; rfl)
              clear hu0 hu1 hown hl1 hl2 hm hkn
              by_cases d0 : (Z[0].toNat : Int) = 46 <;> by_cases d1 : (Z[m].toNat : Int) = 46
              all_goals have HSA := Lib.hid (HOW.out.stored 0 (iv 0))
              all_goals have HSB := Lib.hid (HOW.out.stored (m + 1) (iv 0))
              all_goals have HSC := Lib.hid (HSA.out.1.stored (m + 1) (iv 0))
              · have HV := Lib.hid (show ends st.signs st.vals = ((st.vals.set 0 0).set (m + 1) 0) by unfold ends; simp only [HD0.out, HD1.out, d0, d1, HMM.out]; rfl)
                have hres : Blk _ w.heap.size 48 pz := ((HRES.out.far (p := ⟨g, 0, none⟩) hgr.symm (iv 0)).far (p := ⟨g, m + 1, none⟩) hgr.symm (iv 0))
                have HRS := Lib.hid hres
                have HOO := Lib.hid (HSC.out.1)
                clear hres
                go_wp2_with fail
                refine bodyPost_ret (v := .tuple #[.agg #[.string Z, .slice (some ⟨g, 0, none⟩) (m + 1 + 1) cap], .bool true]) (res_ct rfl _ _ w.heap.size 48 #[.string Z, .slice (some ⟨g, 0, none⟩) (m + 1 + 1) cap] (0, 0) _ _ rfl rfl (put_pz HRS.out) Try.underlying48 rfl info_pat) rfl ?_
                exact readP_some HE.out HK.out (below_set (below_set (below_set (below_set HLOW.out hgb _ _) hgb _ _) (Nat.le_refl _) _ _) (Nat.le_refl _) _ _) HV.out (by simp [HL.out]) HZ.out rfl (own_put2 (by simpa [List.map_set] using HOO.out) hgr)
              · have HV := Lib.hid (show ends st.signs st.vals = (st.vals.set 0 0) by unfold ends; simp only [HD0.out, HD1.out, d0, d1, HMM.out]; rfl)
                have hres : Blk _ w.heap.size 48 pz := (HRES.out.far (p := ⟨g, 0, none⟩) hgr.symm (iv 0))
                have HRS := Lib.hid hres
                have HOO := Lib.hid (HSA.out.1)
                clear hres
                go_wp2_with fail
                refine bodyPost_ret (v := .tuple #[.agg #[.string Z, .slice (some ⟨g, 0, none⟩) (m + 1 + 1) cap], .bool true]) (res_ct rfl _ _ w.heap.size 48 #[.string Z, .slice (some ⟨g, 0, none⟩) (m + 1 + 1) cap] (0, 0) _ _ rfl rfl (put_pz HRS.out) Try.underlying48 rfl info_pat) rfl ?_
                exact readP_some HE.out HK.out (below_set (below_set (below_set HLOW.out hgb _ _) (Nat.le_refl _) _ _) (Nat.le_refl _) _ _) HV.out (by simp [HL.out]) HZ.out rfl (own_put2 (by simpa [List.map_set] using HOO.out) hgr)
              · have HV := Lib.hid (show ends st.signs st.vals = (st.vals.set (m + 1) 0) by unfold ends; simp only [HD0.out, HD1.out, d0, d1, HMM.out]; rfl)
                have hres : Blk _ w.heap.size 48 pz := (HRES.out.far (p := ⟨g, m + 1, none⟩) hgr.symm (iv 0))
                have HRS := Lib.hid hres
                have HOO := Lib.hid (HSB.out.1)
                clear hres
                go_wp2_with fail
                refine bodyPost_ret (v := .tuple #[.agg #[.string Z, .slice (some ⟨g, 0, none⟩) (m + 1 + 1) cap], .bool true]) (res_ct rfl _ _ w.heap.size 48 #[.string Z, .slice (some ⟨g, 0, none⟩) (m + 1 + 1) cap] (0, 0) _ _ rfl rfl (put_pz HRS.out) Try.underlying48 rfl info_pat) rfl ?_
                exact readP_some HE.out HK.out (below_set (below_set (below_set HLOW.out hgb _ _) (Nat.le_refl _) _ _) (Nat.le_refl _) _ _) HV.out (by simp [HL.out]) HZ.out rfl (own_put2 (by simpa [List.map_set] using HOO.out) hgr)
              · have HV := Lib.hid (show ends st.signs st.vals = st.vals by unfold ends; simp only [HD0.out, HD1.out, d0, d1, HMM.out]; rfl)
                have hres : Blk _ w.heap.size 48 pz := HRES.out
                have HRS := Lib.hid hres
                have HOO := Lib.hid (HOW.out)
                clear hres
                go_wp2_with fail
                refine bodyPost_ret (v := .tuple #[.agg #[.string Z, .slice (some ⟨g, 0, none⟩) (m + 1 + 1) cap], .bool true]) (res_ct rfl _ _ w.heap.size 48 #[.string Z, .slice (some ⟨g, 0, none⟩) (m + 1 + 1) cap] (0, 0) _ _ rfl rfl (put_pz HRS.out) Try.underlying48 rfl info_pat) rfl ?_
                exact readP_some HE.out HK.out (below_set (below_set HLOW.out (Nat.le_refl _) _ _) (Nat.le_refl _) _ _) HV.out (by simp [HL.out]) HZ.out rfl (own_put2 (by simpa [List.map_set] using HOO.out) hgr)
end Go.Proofs.Ytmcekdjhkjhcdaa.Hy
