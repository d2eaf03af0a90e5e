import Derived.Test.YtmcekdjhkjhcdaaHk
import Derived.Test.YtmcekdjhkjhcdaaHu
/- HyphLiang's walk. Conditions: those that each theorem names. -/
namespace Go.Proofs.Ytmcekdjhkjhcdaa.Hy
open Go.ChangeShapes Go.WideShapes Go.ChangeAt Go.RowKit
open Me Hp
set_option linter.unusedVariables false
set_option linter.unusedSimpArgs false

theorem info_str : (Try.prog.info? 9).map (fun i => (i.zero, i.size, i.bytes)) = some (some (.string ⟨#[]⟩), 1, 16) := by kernel_rfl
theorem ne_str : (9 : Nat) ≠ 3 := by decide
def sigs (P : List Pt) : List Value := P.map fun p => .string (S p.1)
/-- What HyphLiang's loop holds: which patterns have been met; the greatest values; those of all. -/
structure LInv (w3 : World) (g : Nat) (P0 : List Pt) (w : Nm) (Pm : List Pt) (bs : List Int) (vm : Value) (wr : World) : Prop where
  met : wr.ownsRow (w3.heap.size + 1) 9 1 vm Pm.length (sigs Pm)
  best : Blk wr w3.heap.size 3 (arr bs)
  all_ : Blk wr g 3 (arr (vrow P0 w))
  low : Below w3.heap.size w3 wr
theorem LInv.below {w3 : World} {g : Nat} {P0 : List Pt} {w : Nm} {Pm : List Pt} {bs : List Int} {vm : Value} {wr w' : World} (h : LInv w3 g P0 w Pm bs vm wr) (hb : Below wr.heap.size wr w') : LInv w3 g P0 w Pm bs vm w' :=
  ⟨own_below h.met hb, h.best.below hb h.best.lt, h.all_.below hb h.all_.lt, andThen h.low hb⟩
theorem LInv.push {w3 : World} {g : Nat} {P0 : List Pt} {w : Nm} {Pm : List Pt} {bs : List Int} {vm vm' : Value} {wr w' : World} {p : Pt} (h : LInv w3 g P0 w Pm bs vm wr)
    (ho : w'.ownsRow (w3.heap.size + 1) 9 1 vm' (Pm.length + 1) (sigs Pm ++ #[.string (S p.1)].toList)) (hg : (wr.alloc (.cells #[.string (S p.1)] 9)).grownBy w' vm.ownBlock) : LInv w3 g P0 w (Pm ++ [p]) bs vm' w' := by
  have h1 := h.met.alloc (.cells #[.string (S p.1)] 9)
  have hne : ∀ {q : Nat} {cs : Array Value}, Blk wr q 3 cs → some q ≠ vm.ownBlock := by
    intro q cs hb e
    rcases own_not_blk h.met hb ne_str with h2 | h2
    · rw [h2] at e; cases e
    · exact h2 e.symm
  refine ⟨?_, (h.best.alloc _).grown hg (hne h.best), (h.all_.alloc _).grown hg (hne h.all_), below_grown (Nat.le_refl _) (andAlloc h.low _) hg fun k hk => by have := (h1.lt k hk).1; omega⟩
  simpa [sigs] using ho
theorem LInv.set {w3 : World} {g : Nat} {P0 : List Pt} {w : Nm} {Pm : List Pt} {bs bs' : List Int} {vm : Value} {wr : World} (h : LInv w3 g P0 w Pm bs vm wr) (hg : g < w3.heap.size) {k : Nat} {z : Int} (hb : bs' = bs.set k z) : LInv w3 g P0 w Pm bs' vm (wr.setCell ⟨w3.heap.size, k, none⟩ (.int .i64 z)) := by
  subst hb
  refine ⟨h.met.kept (grown_set wr _ _ _) (own_not_blk h.met h.best ne_str), ?_, h.all_.far (by simp; omega) _, below_set h.low (Nat.le_refl _) _ _⟩
  have h1 := h.best.set k (.int .i64 z)
  have e : (arr bs).setIfInBounds k (.int .i64 z) = arr (bs.set k z) := by
    unfold arr
    rw [List.setIfInBounds_toArray, List.map_set]
  rwa [e] at h1
theorem LInv.get {w3 : World} {g : Nat} {P0 : List Pt} {w : Nm} {Pm : List Pt} {bs : List Int} {vm : Value} {wr : World} (h : LInv w3 g P0 w Pm bs vm wr) {k : Nat} {q : Pt} (hq : Pm[k]? = some q) : ∃ gm c : Nat, vm = .slice (some ⟨gm, 0, none⟩) Pm.length c ∧ gm < wr.heap.size ∧ wr.cell? ⟨gm, k, none⟩ = some (.string (S q.1)) := by
  have hk := (List.getElem?_eq_some_iff.1 hq).1
  rcases h.met.2 with ⟨_, h0⟩ | ⟨gm, cap, cur, h', hb, hg, hnc, hcm, hcs, htake⟩
  · omega
  · refine ⟨gm, cap, h', (Array.getElem?_eq_some_iff.1 hg).1, ?_⟩
    have h1 := h.met
    subst h'
    exact (h1.cellAt k (by omega)).trans (by unfold sigs; rw [List.getElem?_map, hq]; rfl)
theorem LInv.slice {w3 : World} {g : Nat} {P0 : List Pt} {w : Nm} {Pm : List Pt} {bs : List Int} {vm : Value} {wr : World} (h : LInv w3 g P0 w Pm bs vm wr) : ∃ A c, vm = .slice A Pm.length c := by
  rcases h.met.2 with ⟨e, h0⟩ | ⟨gm, cap, cur, h', _⟩
  · exact ⟨none, 0, by rw [h0]; exact e⟩
  · exact ⟨_, _, h'⟩
/-- Has it been met, among the first k? -/
def metB (ok : Bool) (Pm : List Pt) (sig : ByteArray) (k : Nat) : Bool := ok && (Pm.take k).any (fun q => decide (S q.1 = sig))
theorem metB_succ {ok : Bool} {Pm : List Pt} {sig : ByteArray} {k : Nat} {q : Pt} (hq : Pm[k]? = some q) : metB ok Pm sig (k + 1) = (metB ok Pm sig k || (ok && decide (S q.1 = sig))) := by
  unfold metB
  rw [List.take_add_one, hq]
  simp [Bool.and_or_distrib_left]
theorem S_inj {a b : List UInt8} (h : S a = S b) : a = b := by
  have := congrArg (fun s : ByteArray => s.data.toList) h
  exact this
theorem metB_mem {Pm : List Pt} {p : Pt} : metB true Pm (S p.1) Pm.length = true ↔ p.1 ∈ Pm.map (·.1) := by
  unfold metB
  rw [List.take_length, Bool.true_and, List.any_eq_true, List.mem_map]
  constructor
  · rintro ⟨q, hq, h⟩; exact ⟨q, hq, S_inj (of_decide_eq_true h)⟩
  · rintro ⟨q, hq, h⟩; exact ⟨q, hq, decide_eq_true (by rw [h])⟩
/-- What Read answers, in one form. -/
theorem readP_one {t : ByteArray} {w w' : World} {e : Ending} (h : readP t w e w') : Below w.heap.size w w' ∧ ∃ (ok : Bool) (sig : ByteArray) (au : Option Addr) (nu cu : Nat), e = .returned (.tuple #[.agg #[.string sig, .slice au nu cu], .bool ok]) ∧ ((ok = false ∧ rd t.data.toList = none) ∨ (ok = true ∧ ∃ p, rd t.data.toList = some p ∧ sig = S p.1)) := by
  obtain ⟨h1, h2⟩ := h
  refine ⟨h1, ?_⟩
  cases hr : rd t.data.toList with
  | none =>
    rw [hr] at h2
    exact ⟨false, ⟨#[]⟩, none, 0, 0, h2, .inl ⟨rfl, rfl⟩⟩
  | some p =>
    rw [hr] at h2
    obtain ⟨g, c, he, _⟩ := h2
    exact ⟨true, S p.1, _, _, _, he, .inr ⟨rfl, p, rfl, rfl⟩⟩
theorem seg_vals {w : World} {g : Nat} {P : List Pt} {l : Nm} (h : Blk w g 3 (arr (vrow P l))) : Seg w w.heap.size (some ⟨g, 2, none⟩) ((vals P l).map iv) := by
  refine .inr ⟨g, 2, rfl, h.lt, fun j u hu => ?_⟩
  rw [List.getElem?_map] at hu
  have hj : j < l.length - 1 := by
    rcases Nat.lt_or_ge j (l.length - 1) with h1 | h1
    · exact h1
    · rw [List.getElem?_eq_none (by rw [vals_len]; exact h1)] at hu; cases hu
  rw [vals_cell h hj, List.getD_eq_getElem?_getD]
  rw [vals_get P l hj] at hu ⊢
  exact hu
set_option maxRecDepth 100000 in
set_option maxHeartbeats 4000000 in
theorem liang_walk (A : Option Addr) (ts : List ByteArray) (c : Nat) (s : ByteArray) (w : World) (hn : ts.length ≤ 1048576) (hcap : ts.length ≤ c) (hs : ∀ t ∈ ts, t.size ≤ 1048576) (hss : s.size ≤ 1048576) (hseg : Seg w w.heap.size A (ts.map sv)) :
    Calls Try.prog 5 #[.slice A ts.length c, .string s] w fun e w' => e = .returned (.bool true) ∧ Below w.heap.size w w' := by
  have HT := Lib.hid (told_any A ts c w hn hcap hs hseg)
  have HS := Lib.hid (And.intro hs hseg)
  clear hs hseg
  go_enter Try.func5, Try.ntmps5
  go_wp2_with fail
  refine HT.out.mono ?_
  rintro e w1 ⟨hb1, p, v, rfl, hh⟩
  have HB1 := Lib.hid hb1
  have HH1 := Lib.hid hh
  clear hb1 hh HT
  have HP0 := Lib.hid HH1.out.pats
  cases hw : wordB s.data.toList
  · have HV := Lib.hid (Values_bad w.heap.size p _ v (.slice none 0 0) s w1 hss hw HH1.out)
    clear hw
    go_wp2_with fail
    refine HV.out.mono ?_
    rintro e w2 ⟨rfl, hw2⟩
    have HW2 := Lib.hid hw2
    clear hw2
    go_wp2_with (go_at_call 23; refine (num_any _ _).mono ?_; rintro e w' ⟨rfl, rfl⟩)
    refine (knows_any _).mono ?_
    rintro e w3 ⟨rfl, hb3⟩
    have HB3 := Lib.hid hb3
    clear hb3
    go_wp2_with fail
    go_ret
    refine ⟨rfl, ?_⟩
    have h := HB3.out
    rw [HW2.out] at h
    exact andThen HB1.out h
  · obtain ⟨hl1, hl2, hl3⟩ := wordB_is hw
    rw [size_list] at hl1 hl2
    have HV := Lib.hid (Values_ok w.heap.size p _ v (.slice none 0 0) s w1 hss hw HH1.out)
    have HW := Lib.hid hw
    clear hw hl3
    go_wp2_with fail
    refine HV.out.mono ?_
    rintro e w2 ⟨rfl, hbl, hb2⟩
    have HB2 := Lib.hid (And.intro hbl hb2)
    clear hbl hb2 HV
    go_wp2_with (go_at_call 23; refine (num_any _ _).mono ?_; rintro e w' ⟨rfl, rfl⟩)
    refine (knows_any _).mono ?_
    rintro e w3 ⟨rfl, hb3⟩
    have HB3 := Lib.hid hb3
    clear hb3
    have hmk : ∀ u : World, (Instr.makeSlice 42 (.int .i64 ((s.size - 1 : Nat) : Int)) (.int .i64 ((s.size - 1 : Nat) : Int))).run Try.prog u = .ok (.slice (some ⟨u.heap.size, 0, none⟩) (s.size - 1) (s.size - 1)) (u.alloc (.cells (List.replicate (s.size - 1) (iv 0)).toArray 3)) := fun u => make_ints (s.size - 1) (by omega) u
    go_wp2_with fail
    have HLOW := Lib.hid (andThen (andThen HB1.out HB2.out.2) HB3.out)
    have HALL := Lib.hid (Blk.below HB2.out.1 HB3.out HB2.out.1.lt)
    have hg1 : w1.heap.size < w3.heap.size := HALL.out.lt
    have HSL := Lib.hid (size_list s)
    generalize hP0 : told (txs ts) = P0 at HH1 HP0 HB2 HALL
    have HP0E := Lib.hid hP0
    obtain ⟨W, hW⟩ : ∃ W, W = s.data.toList := ⟨_, rfl⟩
    have HWE := Lib.hid hW
    rw [← hW] at HALL HSL
    clear hP0 HH1 HB2 HB3 hW
    go_loopw [8, 9] (fun v8 v9 wr => ∃ i : Nat, i ≤ ts.length ∧ v9 = .int .i64 (i : Int) ∧ LInv w3 w1.heap.size P0 W (told (txs (ts.take i))) (brow (told (txs (ts.take i))) W) v8 wr) (fun _ v9 _ => ts.length - (intOf v9).toNat)
    case atStart =>
      refine ⟨0, by omega, rfl, World.ownsRow_nil _ _ _ _, ?_, HALL.out.alloc _, andAlloc (Below.refl _ _) _⟩
      have e : Array.replicate (s.size - 1) (iv 0) = arr (brow (told (txs (ts.take 0))) W) := by
        show _ = arr (brow [] W)
        rw [brow_nil, HSL.out]
        apply Array.ext'
        simp [arr]
      rw [← e]
      exact Blk.new _ _ _
    case round =>
      obtain ⟨i, hi, rfl, hI⟩ := hrel
      have HPP := Lib.hid (told_pats (txs (ts.take i)))
      by_cases hlt : i < ts.length
      · obtain ⟨t, ht⟩ := get_some hlt
        obtain ⟨b, off, rfl, hbw, hcell⟩ := seg_get HS.out.2 (k := i) (u := sv t) (by rw [List.getElem?_map, ht]; rfl)
        have hlow : Below w.heap.size w wr := HLOW.out.trans (hI.low.mono (HLOW.out.size))
        have hct : wr.cell? ⟨b, off + i, none⟩ = some (.string t) := (hlow.cell (p := ⟨b, off + i, none⟩) hbw).trans hcell
        have hts := HS.out.1 t (List.mem_of_getElem? ht)
        have HTL := Lib.hid (show told (txs (ts.take (i + 1))) = tell (told (txs (ts.take i))) t.data.toList by rw [List.take_add_one, ht]; simp only [txs, Option.toList_some, List.map_append, List.map_cons, List.map_nil, told_snoc])
        have HTS := Lib.hid (And.intro hts ht)
        have HI := Lib.hid hI
        have HLW := Lib.hid hlow
        clear hI hlow hcell ht hts
        generalize hP : told (txs (ts.take i)) = P at HI HPP HTL
        clear hP
        go_wp2_with fail
        refine (read_any t wr HTS.out.1).mono ?_
        rintro e w4 hrp
        obtain ⟨hb4, ok, sig, au, nu, cu, rfl, hcase⟩ := readP_one hrp
        have HC := Lib.hid hcase
        have HB4 := Lib.hid hb4
        have HI4 := Lib.hid (HI.out.below hb4)
        clear hrp hcase hb4 hct HI
        go_upto_block 2 with fail
        obtain ⟨W5, hW5⟩ : ∃ W5, W5 = w4.alloc (.cells #[.string sig, .slice au nu cu] 48) := ⟨_, rfl⟩
        rw [← hW5]
        have hb5 : Below w4.heap.size w4 W5 := by rw [hW5]; exact andAlloc (Below.refl _ _) _
        have HI5 := Lib.hid (HI4.out.below hb5)
        have hsg : W5.cell? ⟨w4.heap.size, 0, none⟩ = some (.string sig) := by rw [hW5]; exact (Blk.new _ _ _).cell 0
        have HB5 := Lib.hid (And.intro HB4.out hb5)
        have HSG := Lib.hid hsg
        clear hW5 hb5 HI4 HB4 hsg
        have hplen : P.length ≤ 5000 := HPP.out.few
        obtain ⟨Am, cm, hvm⟩ := HI5.out.slice
        have HVM := Lib.hid hvm
        rw [hvm]
        clear hvm
        go_cut [12, 13] from 54 to 72 (fun v12 v13 wx => v12 = .bool (metB ok P sig P.length) ∧ (∃ z : Int, v13 = .int .i64 z) ∧ ∃ nq, wx = W5.drewN nq)
        case first =>
          clear hmk
          go_wp2_with fail
          go_loopw [12, 13] (fun v12 v13 wx => ∃ k nq : Nat, k ≤ P.length ∧ v13 = .int .i64 (k : Int) ∧ v12 = .bool (metB ok P sig k) ∧ wx = W5.drewN nq) (fun _ v13 _ => P.length - (intOf v13).toNat)
          case atStart => exact ⟨0, 0, by omega, rfl, by simp [metB], rfl⟩
          case round =>
            obtain ⟨k, nq, hk, rfl, rfl, hwx⟩ := hrel
            have HWX := Lib.hid hwx
            by_cases hlt3 : k < P.length
            · obtain ⟨q, hq⟩ := get_some hlt3
              obtain ⟨gm, cm', e1, hgm, hcm⟩ := HI5.out.get hq
              rw [HVM.out] at e1
              injection e1 with e1 _ e3
              subst e1
              subst e3
              have hc1 : wr.cell? ⟨gm, k, none⟩ = some (.string (S q.1)) := by rw [hwx]; exact hcm
              have hc2 : wr.cell? ⟨w4.heap.size, 0, none⟩ = some (.string sig) := by rw [hwx]; exact HSG.out
              have HMS := Lib.hid (metB_succ (ok := ok) (sig := sig) hq)
              have hki : (k : Int) < (P.length : Int) := by omega
              clear hcm hq hwx
              generalize hmb : metB ok P sig k = mb at HMS
              have HMB := Lib.hid hmb
              clear hmb
              cases mb
              · cases ok
                · go_wp2_with fail
                  go_quiet (fail)
                  go_wp2_with fail
                  go_roundw
                  case rel => exact ⟨k + 1, _, by omega, by go_num, by rw [HMS.out]; rfl, by rw [HWX.out, World.drewN_drewN]⟩
                  case measure => simp [intOf]; omega
                · by_cases hss2 : S q.1 = sig
                  · have heq : ((S q.1).toList == sig.toList) = true := by rw [hss2]; simp
                    have HQS := Lib.hid hss2
                    clear hss2
                    go_wp2_with fail
                    go_quiet (fail)
                    go_wp2_with fail
                    go_roundw
                    case rel => exact ⟨k + 1, _, by omega, by go_num, by rw [HMS.out, decide_eq_true HQS.out]; rfl, by rw [HWX.out, World.drewN_drewN]⟩
                    case measure => simp [intOf]; omega
                  · have heq : ((S q.1).toList == sig.toList) = false := by
                      rw [beq_eq_false_iff_ne, ByteArray.toList_eq, ByteArray.toList_eq]
                      intro e
                      exact hss2 (by have := congrArg S e; exact this)
                    have HQS := Lib.hid hss2
                    clear hss2
                    go_wp2_with fail
                    go_quiet (fail)
                    go_wp2_with fail
                    go_roundw
                    case rel => exact ⟨k + 1, _, by omega, by go_num, by rw [HMS.out, decide_eq_false HQS.out]; rfl, by rw [HWX.out, World.drewN_drewN]⟩
                    case measure => simp [intOf]; omega
              · go_wp2_with fail
                go_quiet (fail)
                go_wp2_with fail
                go_roundw
                case rel => exact ⟨k + 1, _, by omega, by go_num, by rw [HMS.out]; rfl, by rw [HWX.out, World.drewN_drewN]⟩
                case measure => simp [intOf]; omega
            · obtain rfl : k = P.length := by omega
              clear hwx
              go_wp2_with fail
              go_meet
              case rel => exact ⟨rfl, ⟨_, rfl⟩, _, HWX.out⟩
        case rest =>
          obtain ⟨rfl, ⟨z, rfl⟩, nq, hwx⟩ := hcut
          have HI6 := Lib.hid (show LInv w3 w1.heap.size P0 W P (brow P W) u8 wc by rw [hwx]; exact HI5.out.below (below_drewN (Below.refl _ _) _))
          have HSG6 := Lib.hid (show wc.cell? ⟨w4.heap.size, 0, none⟩ = some (.string sig) by rw [hwx]; exact HSG.out)
          clear hwx HI5 HSG HB5
          cases ok
          · have hr : rd t.data.toList = none := by
              rcases HC.out with ⟨_, h⟩ | ⟨h, _⟩
              · exact h
              · cases h
            have HTL2 := Lib.hid (HTL.out.trans (tell_no hr))
            clear hr
            go_wp2_with fail
            rw [← HVM.out]
            go_roundw
            case rel => exact ⟨i + 1, by omega, by go_num, by rw [HTL2.out]; exact HI6.out⟩
            case measure => simp [intOf]; omega
          · obtain ⟨p', hr, hsig⟩ : ∃ p', rd t.data.toList = some p' ∧ sig = S p'.1 := by
              rcases HC.out with ⟨h, _⟩ | ⟨_, h⟩
              · cases h
              · exact h
            subst hsig
            have HR := Lib.hid hr
            clear hr
            cases hm : metB true P (S p'.1) P.length
            · by_cases h5 : (5000 : Int) ≤ (P.length : Int)
              · have HTL2 := Lib.hid (HTL.out.trans (tell_much HR.out (by omega) hplen))
                go_wp2_with fail
                rw [← HVM.out]
                go_roundw
                case rel => exact ⟨i + 1, by omega, by go_num, by rw [HTL2.out]; exact HI6.out⟩
                case measure => simp [intOf]; omega
              · have HTL2 := Lib.hid (HTL.out.trans (tell_yes HR.out (fun h => by rw [metB_mem.2 h] at hm; cases hm) (by omega)))
                rw [← HVM.out]
                have hw3lt : w3.heap.size + 1 ≤ wc.heap.size := HI6.out.best.lt
                have hct7 : ∀ w7, Below w3.heap.size w3 w7 → Seg w7 w7.heap.size (some ⟨b, off + i, none⟩) ([t].map sv) := fun w7 h7 => by
                  have hlo := HLOW.out.trans (h7.mono HLOW.out.size)
                  refine .inr ⟨b, off + i, rfl, Nat.lt_of_lt_of_le hbw hlo.size, fun j u hu => ?_⟩
                  match j, hu with
                  | 0, hu =>
                    simp at hu
                    subst hu
                    obtain ⟨b', o', e1, _, h8⟩ := seg_get HS.out.2 (k := i) (u := sv t) (by rw [List.getElem?_map, HTS.out.2]; rfl)
                    injection e1 with e1
                    injection e1 with e1 e2
                    subst e1; subst e2
                    exact (hlo.cell (p := ⟨b, off + i + 0, none⟩) hbw).trans h8
                have HCT7 := Lib.hid hct7
                have hic : i < c := by omega
                have hii : (i : Int) + 1 ≤ (c : Int) := by omega
                have HAD := Lib.hid (show (if c = i then (some (⟨b, off, none⟩ : Addr)) else some ⟨b, off + i, none⟩) = some ⟨b, off + i, none⟩ from if_neg (by omega))
                have hlen8 : ∀ w, (Builtin.len_ #[41] 3 #[u8]).run Try.prog w = .ok (.int .i64 (P.length : Int)) w := fun w => by rw [HVM.out]; simp [go_sem]
                have hsg6 := HSG6.out
                clear hct7 hm
                go_wp2_with (at_builtin; refine wpList_push rfl _ _ 41 rfl (w3.heap.size + 1) 9 _ 1 16 Try.underlying41 info_str rfl (by decide) (by decide) _ _ _ rfl HI6.out.met hw3lt _ rfl rfl rfl (by simp) (by omega) ?_; intro v7 w7 hown7 hg7 hn7; have HI7 := Lib.hid (HI6.out.push (p := p') hown7 hg7); clear hown7 hg7 hn7)
                have hto := told_any (some ⟨b, off + i, none⟩) [t] (c - i) w7 (by show 1 ≤ 1048576; omega) (by show 1 ≤ c - i; omega) (fun x hx => by simp at hx; rw [hx]; exact HTS.out.1) (HCT7.out w7 HI7.out.low)
                rw [show told (txs [t]) = [p'] from told_one HR.out, show [t].length = 1 from rfl] at hto
                refine hto.mono ?_
                rintro e w8 ⟨hb8, p2, v2, rfl, hh8⟩
                have hvo := Values_ok w7.heap.size p2 [p'] v2 (.slice none 0 0) s w8 hss HW.out hh8
                have HB8 := Lib.hid hb8
                have HI8 := Lib.hid (HI7.out.below hb8)
                clear hto hb8 hh8 HI7 hlen8 hsg6 HSG6
                go_wp2_with fail
                refine hvo.mono ?_
                rintro e w9 ⟨rfl, hbl9, hb9⟩
                rw [← HWE.out] at hbl9
                have HBL9 := Lib.hid hbl9
                have HI9 := Lib.hid (HI8.out.below hb9)
                have hz9 := hb9.size
                have hw8 : w3.heap.size + 1 ≤ w8.heap.size := HI8.out.best.lt
                clear hvo hbl9 hb9 HI8 HB8
                have hP9 : LInv w3 w1.heap.size P0 W (P ++ [p']) (bq P p' W 0) v7 w9 := by rw [bq_zero]; exact HI9.out
                have HP9 := Lib.hid hP9
                clear hP9 HI9 hmk
                go_wp2_with (go_at_call 23; refine (num_any _ _).mono ?_; rintro e w' ⟨rfl, rfl⟩)
                go_loopw [16] (fun v16 wx => ∃ q : Nat, q ≤ s.size - 1 ∧ v16 = .int .i64 (q : Int) ∧ LInv w3 w1.heap.size P0 W (P ++ [p']) (bq P p' W q) v7 wx ∧ Blk wx w8.heap.size 3 (arr (vrow [p'] W))) (fun v16 _ => s.size - 1 - (intOf v16).toNat)
                case atStart => exact ⟨0, by omega, rfl, HP9.out, HBL9.out⟩
                case round =>
                  obtain ⟨q, hq, rfl, hQ, hbq⟩ := hrel
                  by_cases hlt4 : q < s.size - 1
                  · have hqW : q < W.length - 1 := by rw [HSL.out]; exact hlt4
                    have hcv : wr.cell? ⟨w8.heap.size, 2 + q, none⟩ = some (.int .i64 ((vals [p'] W).getD q 0)) := vals_cell hbq hqW
                    have hcb : wr.cell? ⟨w3.heap.size, q, none⟩ = some (.int .i64 (bst P W q)) := by
                      rw [hQ.best.cell]
                      unfold arr
                      rw [List.getElem?_toArray, List.getElem?_map, bq_get hqW, if_neg (by omega)]
                      rfl
                    have hfb := hQ.best.free q
                    have hset := hQ.set hg1 (bq_succ (Q := P) (p := p') hqW).symm
                    have HSET := Lib.hid (And.intro hset (hbq.far (p := ⟨w3.heap.size, q, none⟩) (by simp; omega) (.int .i64 (max (bst P W q) ((vals [p'] W).getD q 0)))))
                    have hqi : (q : Int) < ((s.size - 1 : Nat) : Int) := by omega
                    clear hset hQ hbq hqW
                    generalize bst P W q = B0 at hcb HSET
                    generalize (vals [p'] W).getD q 0 = V0 at hcv HSET
                    have HSS := Lib.hid (And.intro hlt4 hq)
                    have hq64 : (q : Int) < 64 := by omega
                    go_upto_region 23 with fail
                    clear HP9 HBL9 hz9 hw8 HTL2 HR HC HI6 HVM hplen HPP HTL HLW HTS HS hbw hi hlt hq hlt4 HWE HALL HSL HP0E HP0 hg1 HLOW HW hl1 hl2 HB1 hss hcap hn hic hii HAD HCT7 hw3lt h5
                    go_region
                    go_wp2_with fail
                    go_roundw
                    case rel => exact ⟨q + 1, by have := HSS.out; omega, by go_num, HSET.out.1.below (below_drewN (Below.refl _ _) 1), HSET.out.2⟩
                    case measure => have := HSS.out; simp [intOf]; omega
                  · obtain rfl : q = s.size - 1 := by omega
                    have e9 : bq P p' W (s.size - 1) = brow (P ++ [p']) W := by rw [← HSL.out]; exact bq_all P p' W
                    rw [e9] at hQ
                    have HQ := Lib.hid hQ
                    clear hQ hbq
                    go_wp2_with fail
                    go_roundw
                    case rel => exact ⟨i + 1, by omega, by go_num, by rw [HTL2.out]; exact HQ.out⟩
                    case measure => simp [intOf]; omega
            · have HTL2 := Lib.hid (HTL.out.trans (tell_again HR.out (metB_mem.1 hm)))
              go_wp2_with fail
              rw [← HVM.out]
              go_roundw
              case rel => exact ⟨i + 1, by omega, by go_num, by rw [HTL2.out]; exact HI6.out⟩
              case measure => simp [intOf]; omega
      · obtain rfl : i = ts.length := by omega
        rw [List.take_length, HP0E.out] at hI HPP
        have HI := Lib.hid hI
        clear hI hmk
        go_wp2_with fail
        have hsv := seg_vals HI.out.all_
        have hsb := seg_blk HI.out.best
        have hvb := vals_best HPP.out W
        have hcall := same_ints (some ⟨w1.heap.size, 2, none⟩) (some ⟨w3.heap.size, 0, none⟩) (vals P0 W) (brow P0 W) (s.size + 1) (s.size - 1) wr (by rw [vals_len, HSL.out]; omega) (by rw [brow_len, HSL.out]; omega) hsv hsb
        rw [vals_len, brow_len, HSL.out, decide_eq_true hvb] at hcall
        refine hcall.mono ?_
        rintro e w9 ⟨rfl, hb9⟩
        have HB9 := Lib.hid (andThen (HLOW.out.trans (HI.out.low.mono HLOW.out.size)) hb9)
        clear hb9 hcall hsv hsb hvb
        go_wp2_with fail
        go_ret
        exact ⟨rfl, HB9.out⟩
end Go.Proofs.Ytmcekdjhkjhcdaa.Hy
