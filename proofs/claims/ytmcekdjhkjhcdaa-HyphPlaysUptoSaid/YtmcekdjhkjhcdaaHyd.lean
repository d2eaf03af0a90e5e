import Derived.Test.YtmcekdjhkjhcdaaHyc
import Derived.Test.YtmcekdjhkjhcdaaHr
/- The contracts of the document's Word and Parted. Conditions: those that each theorem names. -/
namespace Go.Proofs.Ytmcekdjhkjhcdaa.Hy
open Go.ChangeShapes Go.WideShapes Go.ChangeAt Go.RowKit
open Me Hp
set_option linter.unusedVariables false
set_option linter.unusedSimpArgs false

theorem rword_any (s : ByteArray) (w : World) (hs : s.size ≤ 1048576) : Calls Try.prog 84 #[.string s] w fun e w' => e = .returned (.bool (wordB s.data.toList)) ∧ w' = w := by
  go_enter Try.func84, Try.ntmps84
  go_wp2
  go_loop [3] (fun v => ∃ i : Nat, i ≤ s.size ∧ v = .int .i64 (i : Int) ∧ ∀ j c, j < i → s.data.toList[j]? = some c → isLet c = true) (fun v => s.size - (intOf v).toNat)
  case atStart => exact ⟨0, by omega, rfl, fun j c h _ => absurd h (by omega)⟩
  case round =>
    obtain ⟨i, hi, rfl, hall⟩ := hrel
    by_cases hlt : i < s.size
    · have hget := get_list s i hlt
      have HA := Lib.hid (And.intro hall hget)
      clear hall hget
      cases hl : isLet s[i]
      · have HW := Lib.hid (wordB_no HA.out.2 hl)
        have HLT := Lib.hid (fun w => rletter_any s[i] w)
        rw [hl] at HLT
        go_wp2_with (go_at_call 65; refine (HLT.out _).mono ?_; rintro e w' ⟨rfl, rfl⟩)
        go_ret
        exact ⟨ret_b HW.out.symm, rfl⟩
      · have HL := Lib.hid hl
        have HLT := Lib.hid (fun w => rletter_any s[i] w)
        rw [hl] at HLT
        go_wp2_with (go_at_call 65; refine (HLT.out _).mono ?_; rintro e w' ⟨rfl, rfl⟩)
        go_round
        case rel =>
          refine ⟨i + 1, by omega, by go_num, fun j c hj hc => ?_⟩
          rcases Nat.lt_or_ge j i with h | h
          · exact HA.out.1 j c h hc
          · obtain rfl : j = i := by omega
            rw [HA.out.2] at hc
            injection hc with hc
            rw [← hc]
            exact HL.out
        case measure => simp [intOf]; omega
    · obtain rfl : i = s.size := by omega
      have HALL := Lib.hid (show s.data.toList.all isLet = true by
        rw [List.all_eq_true]
        intro c hc
        obtain ⟨j, hj⟩ := List.mem_iff_getElem?.1 hc
        have := (List.getElem?_eq_some_iff.1 hj).1
        rw [size_list] at this
        exact hall j c this hj)
      clear hall
      by_cases h1 : (1 : Int) ≤ s.size
      · by_cases h63 : (s.size : Int) ≤ 63
        · have HW := Lib.hid (show wordB s.data.toList = true by unfold wordB; rw [size_list, HALL.out, decide_eq_true (by omega), decide_eq_true (by omega)]; rfl)
          go_wp2
          go_ret
          exact ⟨ret_b HW.out.symm, rfl⟩
        · have HW := Lib.hid (show wordB s.data.toList = false by unfold wordB; rw [size_list, decide_eq_false (p := s.size ≤ 63) (by omega)]; simp)
          go_wp2
          go_ret
          exact ⟨ret_b HW.out.symm, rfl⟩
      · have HW := Lib.hid (show wordB s.data.toList = false by unfold wordB; rw [size_list, decide_eq_false (p := 1 ≤ s.size) (by omega)]; simp)
        go_wp2
        go_ret
        exact ⟨ret_b HW.out.symm, rfl⟩
def ez : Array Value := #[.string ⟨#[]⟩, .slice none 0 0]
/-- What the loop of Parted holds. -/
structure DInv (s : ByteArray) (w : World) (i : Nat) (st : Xc) (u : Value) (wr : World) : Prop where
  run : pRun ib (s.data.toList.take i) = some st
  res : Blk wr w.heap.size 86 ez
  x : Blk wr (w.heap.size + 1) 86 #[.string (S st.1), u]
  own : wr.ownsRow w.heap.size 3 1 u st.2.length (st.2.map iv)
  low : Below w.heap.size w wr
  last : (s.data.toList.take i).getLast? = some 45 → i < s.size
theorem ne_exc : (3 : Nat) ≠ 86 := by decide
theorem DInv.below {s : ByteArray} {w : World} {i : Nat} {st : Xc} {u : Value} {wr w' : World} (h : DInv s w i st u wr) (hb : Below wr.heap.size wr w') : DInv s w i st u w' :=
  ⟨h.run, h.res.below hb h.res.lt, h.x.below hb h.x.lt, own_below h.own hb, andThen h.low hb, h.last⟩
theorem take_snoc' {s : ByteArray} {i : Nat} {c : UInt8} (hc : s.data.toList[i]? = some c) : s.data.toList.take (i + 1) = s.data.toList.take i ++ [c] := by
  rw [List.take_add_one, hc]; rfl
theorem DInv.letter {s : ByteArray} {w : World} {i : Nat} {st : Xc} {u : Value} {wr : World} {c : UInt8} (h : DInv s w i st u wr) (hc : s.data.toList[i]? = some c) (h45 : c ≠ 45) :
    DInv s w (i + 1) (st.1 ++ [c], st.2) u (wr.setCell ⟨w.heap.size + 1, 0, none⟩ (.string (S st.1 ++ s.extract i (i + 1)))) := by
  refine ⟨?_, h.res.far (by simp) _, ?_, ?_, below_set h.low (by omega) _ _, ?_⟩
  · rw [take_snoc' hc, pRun_snoc, h.run]
    simp only [Option.bind_some, pstep, if_neg h45]
    rfl
  · have := h.x.set 0 (.string (S st.1 ++ s.extract i (i + 1)))
    rw [S_snoc s st.1 hc] at this ⊢
    exact this
  · exact h.own.kept (grown_set _ _ _ _) (own_not_blk h.own h.x ne_exc)
  · rw [take_snoc' hc, getLast_snoc]
    intro e
    injection e with e
    exact absurd e h45
theorem DInv.hyphen {s : ByteArray} {w : World} {i : Nat} {st : Xc} {u u' : Value} {wr w' : World} (h : DInv s w i st u wr) (hc : s.data.toList[i]? = some 45) (hb : badH st = false) (hl : i + 1 < s.size) {z : Int} (hz : z = (st.1.length : Int))
    (ho : w'.ownsRow w.heap.size 3 1 u' (st.2.length + 1) (st.2.map iv ++ #[iv z].toList)) (hg : (wr.alloc (.cells #[iv z] 3)).grownBy w' u.ownBlock) :
    DInv s w (i + 1) (st.1, st.2 ++ [(st.1.length : Int)]) u' (w'.setCell ⟨w.heap.size + 1, 1, none⟩ u') := by
  subst hz
  have h1 := h.own.alloc (.cells #[iv (st.1.length : Int)] 3)
  have hne : ∀ {q : Nat} {cs : Array Value}, Blk wr q 86 cs → some q ≠ u.ownBlock := by
    intro q cs hb e
    rcases own_not_blk h.own hb ne_exc with h2 | h2
    · rw [h2] at e; cases e
    · exact h2 e.symm
  have hx := (h.x.alloc (.cells #[iv (st.1.length : Int)] 3)).grown hg (hne h.x)
  have hr := (h.res.alloc (.cells #[iv (st.1.length : Int)] 3)).grown hg (hne h.res)
  have hlow : Below w.heap.size w w' := below_grown (Nat.le_refl _) (andAlloc h.low _) hg fun k hk => (h1.lt k hk).1
  refine ⟨?_, hr.far (by simp) _, hx.set 1 _, ?_, below_set hlow (by omega) _ _, fun _ => hl⟩
  · rw [take_snoc' hc, pRun_snoc, h.run]
    simp only [Option.bind_some, pstep]
    rw [hb]
    rfl
  · have := ho.kept (grown_set w' (w.heap.size + 1) 1 u') (own_not_blk ho hx ne_exc)
    simpa using this
theorem DInv.xG {s : ByteArray} {w : World} {i : Nat} {st : Xc} {u : Value} {wr w' : World} {o : Obj} (h : DInv s w i st u wr) (hg : (wr.alloc o).grownBy w' u.ownBlock) : Blk w' (w.heap.size + 1) 86 #[.string (S st.1), u] := by
  refine (h.x.alloc o).grown hg ?_
  intro e
  rcases own_not_blk h.own h.x ne_exc with h2 | h2
  · rw [h2] at e; cases e
  · exact h2 e.symm
theorem DInv.stop {s : ByteArray} {w : World} {i : Nat} {st : Xc} {u : Value} {wr : World} (h : DInv s w i st u wr) (hc : s.data.toList[i]? = some 45) (hb : badH st = true ∨ i + 1 = s.size) : par s.data.toList = none := by
  rw [← par_dpar]
  unfold dpar
  rcases hb with hb | hb
  · have h1 : pRun ib (s.data.toList.take (i + 1)) = none := by
      rw [take_snoc' hc, pRun_snoc, h.run]
      simp only [Option.bind_some, pstep, if_true, hb]
    have h2 := pRun_none ib (s.data.toList.drop (i + 1)) _ h1
    rw [List.take_append_drop] at h2
    rw [h2]
    rfl
  · cases hr : pRun ib s.data.toList with
    | none => rfl
    | some s' =>
      simp only [Option.bind_some, dEnd]
      rw [if_neg]
      intro hh
      apply hh.2
      have : s.data.toList = s.data.toList.take i ++ [45] := by
        rw [← take_snoc' hc, List.take_of_length_le (by rw [size_list]; omega)]
      rw [this, getLast_snoc]
theorem DInv.done {s : ByteArray} {w : World} {st : Xc} {u : Value} {wr : World} (h : DInv s w s.size st u wr) : par s.data.toList = if wordB st.1 = true then some st else none := by
  have e : s.data.toList.take s.size = s.data.toList := List.take_of_length_le (by rw [size_list]; exact Nat.le_refl _)
  have h1 := h.run
  have h2 := h.last
  rw [e] at h1 h2
  rw [← par_dpar]
  unfold dpar dEnd
  rw [h1]
  simp only [Option.bind_some]
  by_cases hw : wordB st.1 = true
  · rw [if_pos ⟨hw, fun hh => absurd (h2 hh) (by omega)⟩, if_pos hw]
  · rw [if_neg (fun hh => hw hh.1), if_neg hw]
theorem cell?_set_far {w : World} {b off g j : Nat} (u : Value) (h : b ≠ g) : (w.setCell ⟨g, j, none⟩ u).cell? ⟨b, off, none⟩ = w.cell? ⟨b, off, none⟩ := by
  have := heap_setCell_other w ⟨g, j, none⟩ b u h
  simp only [World.cell?, this]
/-- What Parted answers. -/
def partP (s : ByteArray) (w : World) (e : Ending) (w' : World) : Prop := Below w.heap.size w w' ∧ ∃ (sig : ByteArray) (A : Option Addr) (n c : Nat) (ok : Bool), e = .returned (.tuple #[.agg #[.string sig, .slice A n c], .bool ok]) ∧
  ((ok = false ∧ par s.data.toList = none) ∨ (ok = true ∧ ∃ x, par s.data.toList = some x ∧ sig = S x.1 ∧ n = x.2.length ∧ Seg w' w'.heap.size A (x.2.map iv) ∧ (∀ a, A = some a → w.heap.size ≤ a.block) ∧ w'.ownsRow w.heap.size 3 1 (.slice A n c) n (x.2.map iv)))
theorem info_exc : (Try.prog.info? 86).map (·.size) = some 2 := by kernel_rfl
theorem partP_no {s : ByteArray} {w w' : World} {e : Ending} (h : par s.data.toList = none) (hb : Below w.heap.size w w') (he : e = .returned (.tuple #[.agg ez, .bool false])) : partP s w e w' :=
  ⟨hb, ⟨#[]⟩, none, 0, 0, false, he, .inl ⟨rfl, h⟩⟩
set_option maxHeartbeats 4000000 in
set_option maxRecDepth 100000 in
theorem parted_any (s : ByteArray) (w : World) (hs : s.size ≤ 1048576) : Calls Try.prog 47 #[.string s] w (partP s w) := by
  go_enter Try.func47, Try.ntmps47
  go_wp2_with fail
  go_loopw [5] (fun v5 wr => ∃ (i : Nat) (st : Xc) (u : Value), i ≤ s.size ∧ v5 = .int .i64 (i : Int) ∧ DInv s w i st u wr) (fun v5 _ => s.size - (intOf v5).toNat)
  case atStart => exact ⟨0, ([], []), .slice none 0 0, by omega, rfl, rfl, (Blk.new w _ ez).alloc _, Blk.new' (by simp), World.ownsRow_nil _ _ _ _, andAlloc (andAlloc (Below.refl _ _) _) _, by simp⟩
  case round =>
    obtain ⟨i, st, u, hi, rfl, hI⟩ := hrel
    have hfin := pfine ib ib_ne _ _ hI.run
    obtain ⟨hwl, hwl2⟩ : st.1.length ≤ i ∧ st.2.length ≤ i := by
      have h1 := run_chars ib _ _ hI.run
      have h2 := hfin.nw
      have hib : ∀ l : Nm, l.flatMap ib = l := by
        intro l
        induction l with
        | nil => rfl
        | cons a l ih => rw [List.flatMap_cons, ih]; rfl
      have h3 : st.1.length ≤ i := by
        rw [h1.1, hib]
        exact Nat.le_trans (List.length_filter_le _ _) (List.length_take_le _ _)
      have h4 := List.length_take_le i s.data.toList
      omega
    have HFIN := Lib.hid hfin
    have hx0 := hI.x.cell 0
    have hx1 := hI.x.cell 1
    have hfx0 := hI.x.free 0
    have hfx1 := hI.x.free 1
    have hr0 : wr.cell? ⟨w.heap.size, 0, none⟩ = some (.string ⟨#[]⟩) := hI.res.cell 0
    have hr1 : wr.cell? ⟨w.heap.size, 1, none⟩ = some (.slice none 0 0) := hI.res.cell 1
    have hfr0 := hI.res.free 0
    have hfr1 := hI.res.free 1
    have HI := Lib.hid hI
    clear hfin hI
    by_cases hlt : i < s.size
    · have HG := Lib.hid (get_list s i hlt)
      by_cases h45 : (s[i].toNat : Int) = 45
      · have hc45 : s[i] = 45 := UInt8.toNat_inj.1 (by simpa using (by omega : s[i].toNat = 45))
        have HG45 := Lib.hid (show s.data.toList[i]? = some 45 by rw [← hc45]; exact HG.out)
        clear hc45
        by_cases hi0 : i = 0
        · have HST := Lib.hid (HI.out.stop HG45.out (.inl ((badH_iff ib_ne HI.out.run).2 (.inl (by rw [hi0]; rfl)))))
          subst hi0
          go_wp2_with fail
          refine bodyPost_ret (v := .tuple #[.agg ez, .bool false]) (res_ct rfl _ _ w.heap.size 86 ez (0, 0) _ _ rfl rfl (put_pz HI.out.res) Try.underlying86 rfl info_exc) rfl ?_
          exact partP_no HST.out (below_set (below_set HI.out.low (Nat.le_refl _) _ _) (Nat.le_refl _) _ _) rfl
        · have hi0' : ¬ (i : Int) = 0 := by omega
          by_cases hil : (i : Int) = (s.size : Int) - 1
          · have HST := Lib.hid (HI.out.stop HG45.out (.inr (by omega)))
            have hilb : ((i : Int) == (s.size : Int) - 1) = true := by rw [beq_iff_eq]; exact hil
            clear hil
            go_wp2_with fail
            refine bodyPost_ret (v := .tuple #[.agg ez, .bool false]) (res_ct rfl _ _ w.heap.size 86 ez (0, 0) _ _ rfl rfl (put_pz HI.out.res) Try.underlying86 rfl info_exc) rfl ?_
            exact partP_no HST.out (below_set (below_set HI.out.low (Nat.le_refl _) _ _) (Nat.le_refl _) _ _) rfl
          · obtain ⟨k, hk⟩ : ∃ k, i = k + 1 := ⟨i - 1, by omega⟩
            have hks : k < s.size := by omega
            have HGK := Lib.hid (get_list s k hks)
            have HLK := Lib.hid (show (s.data.toList.take i).getLast? = some s[k] by rw [hk, take_snoc' HGK.out, getLast_snoc])
            have hsub : (i : Int) - 1 = (k : Int) := by omega
            have HKI := Lib.hid hk
            clear hk
            by_cases hk45 : (s[k].toNat : Int) = 45
            · have hilb : ((i : Int) == (s.size : Int) - 1) = false := by rw [beq_eq_false_iff_ne]; exact hil
              have HST := Lib.hid (HI.out.stop HG45.out (.inl ((badH_iff ib_ne HI.out.run).2 (.inr (by rw [HLK.out, show s[k] = 45 from UInt8.toNat_inj.1 (by simpa using (by omega : s[k].toNat = 45))])))))
              go_wp2_with fail
              refine bodyPost_ret (v := .tuple #[.agg ez, .bool false]) (res_ct rfl _ _ w.heap.size 86 ez (0, 0) _ _ rfl rfl (put_pz HI.out.res) Try.underlying86 rfl info_exc) rfl ?_
              exact partP_no HST.out (below_set (below_set HI.out.low (Nat.le_refl _) _ _) (Nat.le_refl _) _ _) rfl
            · have HB := Lib.hid (show badH st = false by
                cases hb : badH st
                · rfl
                · rcases (badH_iff ib_ne HI.out.run).1 hb with h | h
                  · have := congrArg List.length h
                    rw [List.length_take, size_list, List.length_nil] at this
                    omega
                  · rw [HLK.out] at h
                    injection h with h
                    exact absurd (by rw [h]; rfl) hk45)
              have hssz : (S st.1).size = st.1.length := rfl
              have hkn : i + 1 < s.size := by omega
              have HSZ := Lib.hid hssz
              clear hssz hr0 hr1 hfr0 hfr1
              have hzl : (S st.1).size ≤ 2097152 := by have := HSZ.out; omega
              have hilb : ((i : Int) == (s.size : Int) - 1) = false := by rw [beq_eq_false_iff_ne]; exact hil
              have hkb : ((s[k].toNat : Int) == 45) = false := by rw [beq_eq_false_iff_ne]; exact hk45
              generalize hZ : S st.1 = Z at hx0 hzl HSZ
              have HZ := Lib.hid hZ
              clear hZ
              go_wp2_with (at_builtin; refine wpList_push rfl _ _ 42 rfl w.heap.size 3 _ 1 8 Try.underlying42 info_int rfl (by decide) (by decide) _ _ _ rfl HI.out.own HI.out.low.size _ rfl rfl rfl (by simp) (by omega) ?_; intro v7 w7 hown7 hg7 hn7; have HD7 := Lib.hid (HI.out.hyphen HG45.out HB.out hkn (by rw [HSZ.out]) hown7 hg7); have hb7 := HI.out.xG hg7; have hp7 := hb7.cell 1; have hf7 := hb7.free 1; obtain ⟨g7, c7, rfl⟩ := own_succ hown7; clear hown7 hg7 hn7 hb7)
              go_roundw
              case rel => exact ⟨i + 1, _, _, by omega, by go_num, HD7.out⟩
              case measure => simp [intOf]; omega
      · have hn45 : s[i] ≠ 45 := fun e => h45 (by rw [e]; rfl)
        have HL := Lib.hid (HI.out.letter HG.out hn45)
        have hsz1 : (S st.1).size ≤ 2097152 := by rw [S_size]; omega
        have hsz2 : (s.extract i (i + 1)).size ≤ 1048576 := by rw [ByteArray.size_extract]; omega
        clear hn45 hr0 hr1 hfr0 hfr1 hfx1 hx1
        go_upto_region 6 with fail
        clear HFIN HI HG h45
        go_region
        go_wp2_with fail
        go_roundw
        case rel => exact ⟨i + 1, _, _, by omega, by go_num, HL.out.below (below_drewN (Below.refl _ _) 1)⟩
        case measure => simp [intOf]; omega
    · obtain rfl : i = s.size := by omega
      have HDN := Lib.hid HI.out.done
      have hob := own_not_blk HI.out.own HI.out.res ne_exc
      obtain ⟨A, c, rfl, _, _, hseg⟩ := Seg.of_own HI.out.own
      have HLO := Lib.hid (show ∀ a, A = some a → w.heap.size ≤ a.block by
        intro a ha
        rcases HI.out.own.2 with ⟨h, _⟩ | ⟨g, cap, cur, h, hg, _⟩
        · injection h with h; rw [h] at ha; cases ha
        · injection h with h
          rw [h] at ha
          injection ha with ha
          rw [← ha]; exact hg)
      have HNE := Lib.hid (show A = none ∨ ∃ b off, A = some ⟨b, off, none⟩ ∧ b ≠ w.heap.size by
        rcases HI.out.own.2 with ⟨h, _⟩ | ⟨g, cap, cur, h, _⟩
        · injection h with h; exact .inl h
        · injection h with h
          subst h
          refine .inr ⟨g, 0, rfl, ?_⟩
          rcases hob with h2 | h2
          · cases h2
          · intro e; exact h2 (by rw [← e]; rfl))
      have HOW := Lib.hid (fun x y => (HI.out.own.kept (grown_set wr w.heap.size 0 x) hob).kept (grown_set _ w.heap.size 1 y) hob)
      clear hob
      have HSEG := Lib.hid hseg
      have hzl : (S st.1).size ≤ 2097152 := by rw [S_size]; omega
      clear hseg HFIN
      go_upto_region 10 with fail
      have HB := Lib.hid (And.intro HI.out.res HI.out.low)
      clear HI
      have HSS := Lib.hid (show (S st.1).size ≤ 1048576 by rw [S_size]; omega)
      have HL2 := Lib.hid (show (S st.1).data.toList = st.1 from rfl)
      clear hwl hwl2
      go_region_with (go_at_call 84; refine (rword_any _ _ HSS.out).mono ?_; rintro e w' ⟨rfl, rfl⟩)
      all_goals
        go_wp2_with fail
        refine bodyPost_ret (v := .tuple #[.agg #[.string (S st.1), .slice A st.2.length c], .bool (wordB (S st.1).data.toList)]) (res_ct rfl _ _ w.heap.size 86 _ (0, 0) _ _ rfl rfl ((put_pz HB.out.1).drewN 1) Try.underlying86 rfl info_exc) rfl ?_
        refine ⟨below_drewN (below_set (below_set HB.out.2 (Nat.le_refl _) _ _) (Nat.le_refl _) _ _) 1, S st.1, A, st.2.length, c, wordB st.1, rfl, ?_⟩
        rw [HDN.out]
        cases hw : wordB st.1
        · exact .inl ⟨rfl, by simp⟩
        · refine .inr ⟨rfl, st, by simp, rfl, rfl, ?_, HLO.out, HOW.out _ _⟩
          have hne : A = none ∨ ∃ b off, A = some ⟨b, off, none⟩ ∧ b ≠ w.heap.size := HNE.out
          rcases HSEG.out with h | ⟨b, off, rfl, hb, hc⟩
          · exact .inl h
          · rcases hne with h | ⟨b', o', h, hn⟩
            · cases h
            · injection h with h
              injection h with h1 h2
              subst h1
              refine .inr ⟨b, off, rfl, by simpa using hb, fun j u hu => ?_⟩
              rw [← hc j u hu]
              show ((wr.setCell ⟨w.heap.size, 0, none⟩ _).setCell ⟨w.heap.size, 1, none⟩ _).cell? ⟨b, off + j, none⟩ = _
              rw [cell?_set_far _ hn, cell?_set_far _ hn]
end Go.Proofs.Ytmcekdjhkjhcdaa.Hy
