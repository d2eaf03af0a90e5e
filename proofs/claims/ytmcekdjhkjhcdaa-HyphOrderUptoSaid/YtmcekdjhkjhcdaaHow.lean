import Derived.Test.YtmcekdjhkjhcdaaHoa
import Derived.Test.YtmcekdjhkjhcdaaHo
import Derived.Test.YtmcekdjhkjhcdaaHv
import Derived.Test.YtmcekdjhkjhcdaaHsz
import Derived.Test.YtmcekdjhkjhcdaaAps
/- HyphOrder's walk. Conditions: those that each theorem names. -/
namespace Go.Proofs.Ytmcekdjhkjhcdaa.Hy
open Go.ChangeShapes Go.WideShapes Go.ChangeAt Go.RowKit
open Me Hp
set_option linter.unusedVariables false
set_option linter.unusedSimpArgs false

theorem place5 (a : Int) (len : Nat) (h0 : (0 : Int) < len) (h1 : (len : Int) ≤ 5000) : ∃ k : Nat, (wrap64 (a.tmod len + len)).tmod len = (k : Int) ∧ k < len := by
  have t1 := Int.tmod_lt_of_pos a h0
  have t2 := Int.lt_tmod_of_pos a h0
  rw [IntWalk.wrap64_in _ (by omega)]
  have t3 := Int.tmod_lt_of_pos (a.tmod len + len) h0
  have t4 := Int.tmod_nonneg (a := a.tmod len + len) len (by omega)
  exact ⟨((a.tmod len + len).tmod len).toNat, by omega, by omega⟩
theorem txs_S (l : List Nm) : txs (l.map S) = l := by
  unfold txs
  rw [List.map_map]
  conv => rhs; rw [← List.map_id l]
  rfl
theorem sv_S (l : List Nm) : (l.map S).map sv = l.map tv := by
  rw [List.map_map]
  rfl
/-- The signs of a text that reads. -/
def sigOf (x : Nm) : Nm := match rd x with
  | some p => p.1
  | none => []
theorem sigOf_some {x : Nm} {p : Pt} (h : rd x = some p) : sigOf x = p.1 := by unfold sigOf; rw [h]
def metO (on : List Nm) (sig : ByteArray) (k : Nat) : Bool := (on.take k).any (fun x => decide (S (sigOf x) = sig))
theorem metO_succ {on : List Nm} {sig : ByteArray} {k : Nat} {x : Nm} (hx : on[k]? = some x) : metO on sig (k + 1) = (metO on sig k || decide (S (sigOf x) = sig)) := by
  unfold metO
  rw [List.take_add_one, hx]
  simp
theorem metO_no {on : List Nm} {p : Pt} (h : metO on (S p.1) on.length = false) : ∀ a ∈ on, ∀ q, rd a = some q → q.1 ≠ p.1 := by
  intro a ha q hq e
  unfold metO at h
  rw [List.take_length, List.any_eq_false] at h
  exact h a ha (decide_eq_true (by rw [sigOf_some hq, e]))
/-- What the first loop holds: the texts that have been taken. -/
structure OInv (w : World) (i : Nat) (on : List Nm) (v : Value) (wr : World) : Prop where
  once : Hp.Once on
  own : wr.ownsRow w.heap.size 9 1 v on.length (on.map tv)
  low : Below w.heap.size w wr
  few : on.length ≤ i
  size : ∀ t ∈ on, t.length ≤ 1048576
theorem OInv.below {w : World} {i : Nat} {on : List Nm} {v : Value} {wr w' : World} (h : OInv w i on v wr) (hb : Below wr.heap.size wr w') : OInv w i on v w' :=
  ⟨h.once, own_below h.own hb, andThen h.low hb, h.few, h.size⟩
theorem OInv.more {w : World} {i j : Nat} {on : List Nm} {v : Value} {wr : World} (h : OInv w i on v wr) (hij : i ≤ j) : OInv w j on v wr := ⟨h.once, h.own, h.low, Nat.le_trans h.few hij, h.size⟩
theorem OInv.slice {w : World} {i : Nat} {on : List Nm} {v : Value} {wr : World} (h : OInv w i on v wr) : ∃ A c, v = .slice A on.length c := by
  rcases h.own.2 with ⟨e, h0⟩ | ⟨gm, cap, cur, h', _⟩
  · exact ⟨none, 0, by rw [h0]; exact e⟩
  · exact ⟨_, _, h'⟩
theorem OInv.get {w : World} {i : Nat} {on : List Nm} {v : Value} {wr : World} (h : OInv w i on v wr) {k : Nat} {x : Nm} (hx : on[k]? = some x) : ∃ g c : Nat, v = .slice (some ⟨g, 0, none⟩) on.length c ∧ g < wr.heap.size ∧ wr.cell? ⟨g, k, none⟩ = some (.string (S x)) := by
  obtain ⟨g, c, h1, h2, _, h3⟩ := own_cell h.own (k := k) (x := tv x) (by rw [List.getElem?_map, hx]; rfl)
  exact ⟨g, c, h1, h2, h3⟩
theorem OInv.push {w : World} {i : Nat} {on : List Nm} {v v' : Value} {wr w' : World} {t : Nm} {p : Pt} (h : OInv w i on v wr) (hr : rd t = some p) (hn : metO on (S p.1) on.length = false) (h5 : on.length < 5000) (ht : t.length ≤ 1048576)
    (ho : w'.ownsRow w.heap.size 9 1 v' (on.length + 1) (on.map tv ++ #[tv t].toList)) (hg : (wr.alloc (.cells #[tv t] 9)).grownBy w' v.ownBlock) : OInv w (i + 1) (on ++ [t]) v' w' := by
  have h1 := h.own.alloc (.cells #[tv t] 9)
  refine ⟨h.once.snoc hr (metO_no hn) h5, ?_, below_grown (Nat.le_refl _) (andAlloc h.low _) hg fun k hk => (h1.lt k hk).1, by have := h.few; simp; omega, ?_⟩
  · rw [List.length_append, List.map_append]
    simpa using ho
  · intro x hx
    simp only [List.mem_append, List.mem_singleton] at hx
    rcases hx with hx | rfl
    · exact h.size x hx
    · exact ht
theorem str_row : (Try.prog.info? 9).map (fun i => (i.zero, i.size, i.bytes)) = some (some (.string ⟨#[]⟩), 1, 16) := by kernel_rfl
theorem tv_one (l : List Nm) : ∀ u ∈ l.map tv, u.oneCell' = true := by
  intro u hu
  obtain ⟨x, _, rfl⟩ := List.mem_map.1 hu
  rfl
theorem told_nm (A : Option Addr) (l : List Nm) (n c : Nat) (w : World) (hl : n = l.length) (hn : n ≤ 1048576) (hcap : n ≤ c) (hs : ∀ t ∈ l, t.length ≤ 1048576) (hseg : Seg w w.heap.size A (l.map tv)) :
    Calls Try.prog 21 #[.slice A n c] w fun e w' => Below w.heap.size w w' ∧ ∃ p v, e = .returned (.pointer (some ⟨p, 0, none⟩)) ∧ HyAt w' w.heap.size p (Hp.told l) v (.slice none 0 0) := by
  subst hl
  have h := told_any A (l.map S) c w (by rw [List.length_map]; exact hn) (by rw [List.length_map]; exact hcap) (fun t ht => by obtain ⟨x, hx, rfl⟩ := List.mem_map.1 ht; exact hs x hx) (by rw [sv_S]; exact hseg)
  rw [List.length_map, txs_S] at h
  exact h
def vres (P : List Pt) (s : ByteArray) : List Int := if wordB s.data.toList = true then vals P s.data.toList else []
def vcode (s : ByteArray) : Int := if wordB s.data.toList = true then 0 else 70
theorem vres_len (P : List Pt) (s : ByteArray) : (vres P s).length ≤ 1048576 := by
  unfold vres
  split
  · rename_i h
    obtain ⟨_, h2, _⟩ := wordB_is h
    rw [vals_len]
    omega
  · simp
theorem Values_gen (B p : Nat) (P : List Pt) (v xv : Value) (s : ByteArray) (w : World) (hs : s.size ≤ 1048576) (h : HyAt w B p P v xv) :
    Calls Try.prog 22 #[.pointer (some ⟨p, 0, none⟩), .string s] w fun e w' => Below w.heap.size w w' ∧ ∃ A c, e = .returned (.tuple #[.slice A (vres P s).length c, .int .i64 (vcode s)]) ∧ Seg w' w'.heap.size A ((vres P s).map iv) := by
  cases hw : wordB s.data.toList
  · refine (Values_bad B p P v xv s w hs hw h).mono ?_
    rintro e w' ⟨rfl, rfl⟩
    unfold vres vcode
    rw [hw]
    exact ⟨Below.refl _ _, none, 0, rfl, .inl rfl⟩
  · refine (Values_ok B p P v xv s w hs hw h).mono ?_
    rintro e w' ⟨rfl, hb, hl⟩
    unfold vres vcode
    rw [hw]
    refine ⟨hl, some ⟨w.heap.size, 2, none⟩, s.size + 1, ?_, seg_vals hb⟩
    rw [if_pos rfl, if_pos rfl, vals_len, size_list]
theorem Patterns_seg (B p : Nat) (P : List Pt) (v xv : Value) (w : World) (h : HyAt w B p P v xv) :
    Calls Try.prog 44 #[.pointer (some ⟨p, 0, none⟩)] w fun e w' => Below w.heap.size w w' ∧ ∃ A c, e = .returned (.slice A (ptexts P).length c) ∧ Seg w' w'.heap.size A ((ptexts P).map tv) := by
  refine (patterns_any B p P v xv w h).mono ?_
  rintro e w' ⟨hb, u, rfl, ho⟩
  obtain ⟨A, c, rfl, _, _, hs⟩ := Seg.of_own ho
  exact ⟨hb, A, c, rfl, hs⟩
set_option maxRecDepth 100000 in
set_option maxHeartbeats 4000000 in
theorem order_walk (A : Option Addr) (ts : List ByteArray) (c : Nat) (s : ByteArray) (turn : Int) (w : World) (hn : ts.length ≤ 1048576) (hcap : ts.length ≤ c) (hs : ∀ t ∈ ts, t.size ≤ 1048576) (hss : s.size ≤ 1048576) (hseg : Seg w w.heap.size A (ts.map sv)) :
    Calls Try.prog 11 #[.slice A ts.length c, .string s, .int .i64 turn] w fun e w' => e = .returned (.bool true) ∧ Below w.heap.size w w' := by
  have HS := Lib.hid (And.intro hs hseg)
  clear hs hseg
  go_enter Try.func11, Try.ntmps11
  go_wp2_with fail
  go_loopw [7, 8] (fun v7 v8 wr => ∃ (i : Nat) (on : List Nm), i ≤ ts.length ∧ v8 = .int .i64 (i : Int) ∧ OInv w i on v7 wr) (fun _ v8 _ => ts.length - (intOf v8).toNat)
  case atStart => exact ⟨0, [], by omega, rfl, Hp.Once.nil, World.ownsRow_nil _ _ _ _, Below.refl _ _, Nat.le_refl _, by simp⟩
  case round =>
    obtain ⟨i, on, hi, rfl, hI⟩ := hrel
    obtain ⟨Am, cm, hvm⟩ := hI.slice
    rw [hvm]
    have HI := Lib.hid (show OInv w i on (.slice Am on.length cm) wr by rw [← hvm]; exact hI)
    clear hI hvm
    have hplen : on.length ≤ 5000 := HI.out.once.few
    by_cases hlt : i < ts.length
    · obtain ⟨t, ht⟩ := get_some hlt
      obtain ⟨b, off, rfl, hbw, hcell⟩ := seg_get HS.out.2 (k := i) (u := sv t) (by rw [List.getElem?_map, ht]; rfl)
      have hct : wr.cell? ⟨b, off + i, none⟩ = some (.string t) := (HI.out.low.cell (p := ⟨b, off + i, none⟩) hbw).trans hcell
      have hts := HS.out.1 t (List.mem_of_getElem? ht)
      have HTS := Lib.hid hts
      clear hcell ht
      go_wp2_with fail
      refine (read_any t wr HTS.out).mono ?_
      rintro e w4 hrp
      obtain ⟨hb4, ok, sig, au, nu, cu, rfl, hcase⟩ := readP_one hrp
      have HC := Lib.hid hcase
      have HI4 := Lib.hid (HI.out.below hb4)
      have HCT := Lib.hid (show w4.cell? ⟨b, off + i, none⟩ = some (.string t) from ((hb4.cell (p := ⟨b, off + i, none⟩) (Nat.lt_of_lt_of_le hbw HI.out.low.size)).trans hct))
      clear hrp hcase hb4 hct HI
      go_upto_block 2 with fail
      obtain ⟨W5, hW5⟩ : ∃ W5, W5 = w4.alloc (.cells #[.string sig, .slice au nu cu] 48) := ⟨_, rfl⟩
      rw [← hW5]
      have hb5 : Below w4.heap.size w4 W5 := by rw [hW5]; exact andAlloc (Below.refl _ _) _
      have HI5 := Lib.hid (HI4.out.below hb5)
      have hsg : Blk W5 w4.heap.size 48 #[.string sig, .slice au nu cu] := by rw [hW5]; exact Blk.new _ _ _
      have hct5 : W5.cell? ⟨b, off + i, none⟩ = some (.string t) := (hb5.cell (p := ⟨b, off + i, none⟩) (Nat.lt_of_lt_of_le hbw HI4.out.low.size)).trans HCT.out
      have hbw5 : b < W5.heap.size := Nat.lt_of_lt_of_le hbw HI5.out.low.size
      have HSG := Lib.hid (And.intro hsg (And.intro hct5 hbw5))
      clear hW5 hb5 HI4 HCT hsg hct5 hbw5
      go_cut [11, 12] from 37 to 58 (fun v11 v12 wx => v11 = .bool (metO on sig on.length) ∧ (∃ z : Int, v12 = .int .i64 z) ∧ Below W5.heap.size W5 wx)
      case first =>
        go_wp2_with fail
        go_loopw [11, 12] (fun v11 v12 wx => ∃ k : Nat, k ≤ on.length ∧ v12 = .int .i64 (k : Int) ∧ v11 = .bool (metO on sig k) ∧ Below W5.heap.size W5 wx) (fun _ v12 _ => on.length - (intOf v12).toNat)
        case atStart => exact ⟨0, by omega, rfl, by simp [metO], Below.refl _ _⟩
        case round =>
          obtain ⟨k, hk, rfl, rfl, hbx⟩ := hrel
          by_cases hlt3 : k < on.length
          · obtain ⟨x, hx⟩ := get_some hlt3
            have hI6 := HI5.out.below hbx
            obtain ⟨gm, cm', e1, hgm, hcm⟩ := hI6.get hx
            injection e1 with e1 _ e3
            subst e1
            subst e3
            have HMS := Lib.hid (metO_succ (sig := sig) hx)
            obtain ⟨p', hp'⟩ := HI5.out.once.read x (List.mem_of_getElem? hx)
            have HP' := Lib.hid hp'
            have hxz : (S x).size ≤ 1048576 := HI5.out.size x (List.mem_of_getElem? hx)
            have hki : (k : Int) < (on.length : Int) := by omega
            have hsg6 := HSG.out.1.below hbx HSG.out.1.lt
            have HBX := Lib.hid (And.intro hbx hsg6)
            have HXZ := Lib.hid hxz
            clear hx hbx hI6 hp' hsg6
            go_wp2_with fail
            refine (read_any (S x) wr HXZ.out).mono ?_
            rintro e w7 hrp
            obtain ⟨hb7, ok2, sig2, au2, nu2, cu2, rfl, hcase2⟩ := readP_one hrp
            have hs2 : sig2 = S (sigOf x) := by
              rw [sigOf_some HP'.out]
              rcases hcase2 with ⟨_, h⟩ | ⟨_, q, h1, h2⟩
              · rw [S_list, HP'.out] at h; cases h
              · rw [S_list, HP'.out] at h1
                injection h1 with h1
                rw [h2, h1]
            have HS2 := Lib.hid hs2
            have HB7 := Lib.hid (And.intro (andThen HBX.out.1 hb7) (HBX.out.2.below hb7 HBX.out.2.lt))
            clear hrp hcase2 hb7 hs2 HBX hcm
            go_upto_region 11 with fail
            obtain ⟨W8, hW8⟩ : ∃ W8, W8 = w7.alloc (.cells #[.string sig2, .slice au2 nu2 cu2] 48) := ⟨_, rfl⟩
            rw [← hW8]
            have hb8 : Below w7.heap.size w7 W8 := by rw [hW8]; exact andAlloc (Below.refl _ _) _
            have hc8 : W8.cell? ⟨w7.heap.size, 0, none⟩ = some (.string sig2) := by rw [hW8]; exact (Blk.new _ _ _).cell 0
            have hc9 : W8.cell? ⟨w4.heap.size, 0, none⟩ = some (.string sig) := (HB7.out.2.below hb8 HB7.out.2.lt).cell 0
            have HB8 := Lib.hid (andThen HB7.out.1 hb8)
            clear hW8 hb8 HB7
            generalize hmb : metO on sig k = mb at HMS
            have HMB := Lib.hid hmb
            clear hmb
            cases mb
            · by_cases hss2 : sig2 = sig
              · have heq : (sig2.toList == sig.toList) = true := by rw [hss2]; simp
                have HQS := Lib.hid hss2
                clear hss2
                go_wp2_with fail
                go_roundw
                case rel => exact ⟨k + 1, by omega, by go_num, by rw [HMS.out, ← HS2.out, decide_eq_true HQS.out]; rfl, HB8.out⟩
                case measure => simp [intOf]; omega
              · have heq : (sig2.toList == sig.toList) = false := by
                  rw [beq_eq_false_iff_ne, ByteArray.toList_eq, ByteArray.toList_eq]
                  intro e
                  exact hss2 (by have := congrArg S e; exact this)
                have HQS := Lib.hid hss2
                clear hss2
                go_wp2_with fail
                go_roundw
                case rel => exact ⟨k + 1, by omega, by go_num, by rw [HMS.out, ← HS2.out, decide_eq_false HQS.out]; rfl, HB8.out⟩
                case measure => simp [intOf]; omega
            · go_wp2_with fail
              go_roundw
              case rel => exact ⟨k + 1, by omega, by go_num, by rw [HMS.out]; rfl, HB8.out⟩
              case measure => simp [intOf]; omega
          · obtain rfl : k = on.length := by omega
            have HBX := Lib.hid hbx
            clear hbx
            go_wp2_with fail
            go_meet
            case rel => exact ⟨rfl, ⟨_, rfl⟩, HBX.out⟩
      case rest =>
        obtain ⟨rfl, ⟨z, rfl⟩, hbx⟩ := hcut
        have HI6 := Lib.hid (HI5.out.below hbx)
        have hct6 : wc.cell? ⟨b, off + i, none⟩ = some (.string t) := (hbx.cell (p := ⟨b, off + i, none⟩) HSG.out.2.2).trans HSG.out.2.1
        clear hbx HI5 HSG
        cases ok
        · go_wp2_with fail
          go_roundw
          case rel => exact ⟨i + 1, on, by omega, by go_num, HI6.out.more (by omega)⟩
          case measure => simp [intOf]; omega
        · obtain ⟨p', hr, hsig⟩ : ∃ p', rd t.data.toList = some p' ∧ sig = S p'.1 := by
            rcases HC.out with ⟨h, _⟩ | ⟨_, h⟩
            · cases h
            · exact h
          subst hsig
          have HR := Lib.hid hr
          clear hr
          cases hm : metO on (S p'.1) on.length
          · by_cases h5 : (on.length : Int) < 5000
            · have HM := Lib.hid hm
              clear hm
              go_wp2_with (at_builtin; refine wpList_push rfl _ _ 41 rfl w.heap.size 9 _ 1 16 Try.underlying41 info_str rfl (by decide) (by decide) _ _ _ rfl HI6.out.own HI6.out.low.size _ rfl rfl rfl (by simp) (by omega) ?_; intro v7 w7 hown7 hg7 hn7; have HI7 := Lib.hid (HI6.out.push (t := t.data.toList) HR.out HM.out (by omega) (by rw [size_list]; exact HTS.out) hown7 hg7); clear hown7 hg7 hn7)
              go_roundw
              case rel => exact ⟨i + 1, _, by omega, by go_num, HI7.out⟩
              case measure => simp [intOf]; omega
            · go_wp2_with fail
              go_roundw
              case rel => exact ⟨i + 1, on, by omega, by go_num, HI6.out.more (by omega)⟩
              case measure => simp [intOf]; omega
          · go_wp2_with fail
            go_roundw
            case rel => exact ⟨i + 1, on, by omega, by go_num, HI6.out.more (by omega)⟩
            case measure => simp [intOf]; omega
    · obtain rfl : i = ts.length := by omega
      by_cases h0 : on.length = 0
      · have e1 : ((on.length : Int) == 0) = true := by simp [h0]
        clear h0
        generalize on.length = len at e1 hplen HI ⊢
        go_wp2_with (go_at_call 24; refine (knows_any _).mono ?_; rintro e w3 ⟨rfl, hb3⟩)
        go_ret
        exact ⟨rfl, andThen HI.out.low hb3⟩
      · have hn1 : (0 : Int) < on.length := by omega
        have e1 : ((on.length : Int) == 0) = false := by rw [beq_eq_false_iff_ne]; omega
        obtain ⟨k, hk, hkl⟩ := place5 turn on.length hn1 (by omega)
        obtain ⟨x0, hx0⟩ := get_some (l := on) (k := 0) (by omega)
        obtain ⟨g, cm', e2, hgl, _⟩ := HI.out.get hx0
        injection e2 with e2 _ e3
        subst e2
        subst e3
        obtain ⟨A', c', e4, hcapm, _, hsegw⟩ := Seg.of_own HI.out.own
        injection e4 with e4 _ e5
        subst e4
        subst e5
        have HSW := Lib.hid hsegw
        have HTURN := Lib.hid (same_turn HI.out.once hkl)
        clear hsegw hx0 h0 hlt
        generalize hlen : on.length = len at hk hkl hn1 e1 hplen hcapm HI ⊢
        have HL := Lib.hid hlen
        clear hlen
        go_wp2_with (go_at_call 24; refine (knows_any _).mono ?_; rintro e w3 ⟨rfl, hb3⟩)
        have HB3 := Lib.hid hb3
        have HS3 := Lib.hid ((HSW.out.below hb3).more hb3.size)
        have hkl2 : (k : Int) ≤ (len : Int) := by omega
        have hkc : (k : Int) ≤ (cm : Int) := by omega
        have hlc : (len : Int) ≤ (cm : Int) := by omega
        have hif : (if cm = k then (some (⟨g, 0, none⟩ : Addr)) else some ⟨g, k, none⟩) = some ⟨g, k, none⟩ := if_neg (by omega)
        have HIF := Lib.hid hif
        have HA0 := Lib.hid (by simpa using World.ownsRow_made w3 #[] 0 (e := 9) (size := 1) (Nat.le_refl _) (by simp [maxLen]) (by simp) : (w3.alloc (.cells #[] 9)).ownsRow w3.heap.size 9 1 (.slice (some ⟨w3.heap.size, 0, none⟩) 0 0) 0 [])
        have HLW := Lib.hid (show Below w3.heap.size w3 (w3.alloc (.cells #[] 9)).drew from below_drewN (andAlloc (Below.refl _ _) _) 1)
        have HD0 := Lib.hid (fun (w' : World) (hb : Below w3.heap.size w3 w') => Me.seg_cells (show Seg w' w3.heap.size (some ⟨g, k, none⟩) ((on.drop k).map tv) by rw [List.map_drop]; simpa using (HS3.out.below hb).drop k))
        have HT0 := Lib.hid (fun (w' : World) (hb : Below w3.heap.size w3 w') => Me.seg_cells (show Seg w' w3.heap.size (some ⟨g, 0, none⟩) ((on.take k).map tv) by rw [List.map_take]; exact (HS3.out.below hb).take k))
        clear hb3 hif hk
        go_region_law (first
          | (refine Me.step_append_src rfl (.tmp 94) (.tmp 97) 41 rfl w3.heap.size 9 _ 1 16 Try.underlying41 info_str rfl (by decide) _ 0 [] rfl HA0.out ⟨g, k, none⟩ (len - k) (cm - k) ((on.drop k).map tv) ?_ ?_ (HD0.out _ HLW.out) (tv_one _) ?_ ?_ ?_ ?_; (first | rfl | exact congrArg (fun p => Value.slice p (len - k) (cm - k)) HIF.out); (rw [List.length_map, List.length_drop, HL.out, Nat.mul_one]); (simp only [maxLen]; omega); omega; simp; intro v1 W1 hown1 hg1)
          | (refine Me.step_append_src rfl (.tmp 98) (.tmp 101) 41 rfl w3.heap.size 9 _ 1 16 Try.underlying41 info_str rfl (by decide) _ (0 + (len - k)) _ rfl hown1 ⟨g, 0, none⟩ k cm ((on.take k).map tv) ?_ ?_ (HT0.out _ (below_grown (Nat.le_refl _) HLW.out hg1 (fun g hg => ?_))) (tv_one _) ?_ ?_ ?_ ?_; rfl; (rw [List.length_map, List.length_take, HL.out, Nat.mul_one]; omega); (have hg' : some w3.heap.size = some g := hg; injection hg' with hg'; omega); (simp only [maxLen]; omega); omega; (have hh := hg1.size; simp at hh; omega); intro v2 W2 hown2 hg2))
        have hW1 : Below w3.heap.size w3 W1 := below_grown (Nat.le_refl _) HLW.out hg1 (fun g hg => by
          have hg' : some w3.heap.size = some g := hg
          injection hg' with hg'
          omega)
        have hW2 : Below w3.heap.size w3 W2 := below_grown (Nat.le_refl _) hW1 hg2 (fun g hg => (hown1.lt g hg).1)
        obtain ⟨A2, c2, rfl, hc2, hm2, hs2⟩ := Seg.of_own hown2
        have hseg2 : Seg W2 W2.heap.size A2 ((on.drop k ++ on.take k).map tv) := by simpa [List.map_append] using hs2
        have hlen2 : 0 + (len - k) + k = len := by omega
        rw [hlen2] at hc2 ⊢
        have hto := told_nm (some ⟨g, 0, none⟩) on len cm W2 HL.out.symm (by omega) hcapm HI.out.size ((HS3.out.below hW2).more hW2.size)
        have HTO := Lib.hid hto
        have HB2 := Lib.hid (andThen (andThen HI.out.low HB3.out) hW2)
        have HS2 := Lib.hid hseg2
        have HON := Lib.hid (show ∀ x ∈ on.drop k ++ on.take k, x.length ≤ 1048576 from fun x hx => by
          rcases List.mem_append.1 hx with h | h
          · exact HI.out.size x (List.mem_of_mem_drop h)
          · exact HI.out.size x (List.mem_of_mem_take h))
        have HL2 := Lib.hid (show len = (on.drop k ++ on.take k).length by rw [List.length_append, List.length_drop, List.length_take, HL.out]; omega)
        generalize on.drop k ++ on.take k = other at HS2 HON HL2 HTURN
        clear hs2 hown2 hg2 hown1 hg1 hW1 hW2 hlen2 hseg2 hto HA0 HLW HD0 HT0 HIF HB3 HS3 HI HSW hkl2 hkc hlc hm2
        go_wp2_with fail
        refine HTO.out.mono ?_
        rintro e w4 ⟨hb4, pa, va, rfl, hha⟩
        have hto2 := told_nm A2 other len c2 w4 HL2.out (by omega) hc2 HON.out ((HS2.out.below hb4).more hb4.size)
        have HTO2 := Lib.hid hto2
        have HB4 := Lib.hid (andThen HB2.out hb4)
        have HHA := Lib.hid hha
        clear hto2 hb4 hha HTO HB2 HS2 HON HL2
        go_wp2_with fail
        refine HTO2.out.mono ?_
        rintro e w5 ⟨hb5, pb, vb, rfl, hhb⟩
        have HB5 := Lib.hid (andThen HB4.out hb5)
        have HHA5 := Lib.hid (HHA.out.below hb5)
        have HHB := Lib.hid hhb
        have HPB := Lib.hid hhb.pats
        have HPA := Lib.hid HHA.out.pats
        have HVV := Lib.hid (show vres (Hp.told on) s = vres (Hp.told other) s by
          unfold vres
          rw [HTURN.out.vals HHA.out.pats hhb.pats])
        have HSZ := Lib.hid (HTURN.out.size HHA.out.pats hhb.pats)
        have HPT := Lib.hid (Same.ptexts HTURN.out HHA.out.pats hhb.pats)
        clear hb5 hhb HTO2 HB4 HHA HTURN
        generalize Hp.told on = P at HHA5 HVV HSZ HPT HPA
        generalize Hp.told other = Q at HHB HVV HSZ HPT HPB
        go_wp2_with fail
        refine (Values_gen _ pa P va _ s w5 hss HHA5.out).mono ?_
        rintro e w6 ⟨hb6, Av, cv, rfl, hsv⟩
        have HB6 := Lib.hid (andThen HB5.out hb6)
        have HHA6 := Lib.hid (HHA5.out.below hb6)
        have HHB6 := Lib.hid (HHB.out.below hb6)
        have HSV := Lib.hid hsv
        clear hb6 hsv HB5 HHA5 HHB
        go_wp2_with fail
        refine (Values_gen _ pb Q vb _ s w6 hss HHB6.out).mono ?_
        rintro e w7 ⟨hb7, Aw, cw, rfl, hsw⟩
        have HB7 := Lib.hid (andThen HB6.out hb7)
        have HHA7 := Lib.hid (HHA6.out.below hb7)
        have HHB7 := Lib.hid (HHB6.out.below hb7)
        have hsi := same_ints Av Aw (vres P s) (vres Q s) cv cw w7 (vres_len P s) (vres_len Q s) ((HSV.out.below hb7).more hb7.size) hsw
        rw [decide_eq_true HVV.out] at hsi
        have HSI := Lib.hid hsi
        clear hb7 hsw hsi HB6 HHA6 HHB6 HSV HVV
        generalize (vres P s).length = lv at HSI ⊢
        generalize (vres Q s).length = lw at HSI ⊢
        generalize vcode s = vc
        go_wp2_with (go_at_call 23; refine (num_any _ _).mono ?_; rintro e w' ⟨rfl, rfl⟩)
        refine HSI.out.mono ?_
        rintro e w8 ⟨rfl, hb8⟩
        have HB8 := Lib.hid (andThen HB7.out hb8)
        have HHA8 := Lib.hid (HHA7.out.below hb8)
        have HHB8 := Lib.hid (HHB7.out.below hb8)
        have HZA := Lib.hid (size_any _ pa P va _ w8 HHA8.out)
        have HZB := Lib.hid (size_any _ pb Q vb _ w8 HHB8.out)
        rw [HSZ.out] at HZA
        clear hb8 HB7 HHA7 HHB7 HSI HSZ
        generalize (nsOf Q).length = qn at HZA HZB
        go_wp2_with (first | (go_at_call 45; with_reducible refine HZA.out.mono ?_; rintro e w' ⟨rfl, rfl⟩) | (go_at_call 45; with_reducible refine HZB.out.mono ?_; rintro e w' ⟨rfl, rfl⟩))
        refine (Patterns_seg _ pa P va _ _ HHA8.out).mono ?_
        rintro e w9 ⟨hb9, Ap, cp, rfl, hsp⟩
        have HB9 := Lib.hid (andThen HB8.out hb9)
        have HHB9 := Lib.hid (HHB8.out.below hb9)
        have HSP := Lib.hid hsp
        clear hb9 hsp HB8 HHB8 HHA8 HZA HZB
        go_wp2_with fail
        refine (Patterns_seg _ pb Q vb _ _ HHB9.out).mono ?_
        rintro e w10 ⟨hb10, Aq, cq, rfl, hsq⟩
        have HB10 := Lib.hid (andThen HB9.out hb10)
        have hsm := same_words Ap Aq (ptexts P) (ptexts Q) cp cq w10 (by have := ptexts_few HPA.out; omega) (by have := ptexts_few HPB.out; omega) ((HSP.out.below hb10).more hb10.size) hsq
        rw [decide_eq_true HPT.out] at hsm
        have HSM := Lib.hid hsm
        clear hsm hb10 hsq HB9 HHB9 HSP
        generalize (ptexts P).length = lp at HSM ⊢
        generalize (ptexts Q).length = lq at HSM ⊢
        go_wp2_with fail
        refine HSM.out.mono ?_
        rintro e w11 ⟨rfl, hb11⟩
        have HB11 := Lib.hid (andThen HB10.out hb11)
        clear hb11
        go_wp2_with fail
        go_ret
        exact ⟨rfl, HB11.out⟩
end Go.Proofs.Ytmcekdjhkjhcdaa.Hy
