import Derived.Test.YtmcekdjhkjhcdaaHs
import Derived.Test.YtmcekdjhkjhcdaaHd
import Derived.RangeFuncNested
import Derived.RangeFuncBound
import Derived.RangeFuncBox
import Derived.RangeFuncCalls
import Derived.RangeFuncLeaves
import Derived.Shelf.Abstract
import Derived.Shelf.RegionOpen
import Derived.OwnWalkIn
import Derived.TacticsInMore
import Derived.LoopNIn
import Derived.LoopIn
import Derived.Sort.QuietIn
import Derived.Sort.CutIn
/- The contract of fits: an iterator. Conditions: those that each theorem names. -/
namespace Go.Proofs.Ytmcekdjhkjhcdaa.Hy
open Go.ChangeShapes Go.WideShapes Go.ChangeAt Go.RowKit
open Me Hp
set_option linter.unusedVariables false
set_option linter.unusedSimpArgs false
attribute [local go_sem] Oper.semAt_some
theorem wide_fn (f : FuncId) : Fence.wide.fn f = True := rfl
attribute [local go_sem] wide_fn

/-- What is handed to a round: where a pattern fits, and its values, as they lie in world w. -/
structure Yv (w : World) (n : Nat) where
  at_ : Nat
  sv : Value
  vals : List Int
  fits : at_ + vals.length ≤ n + 1
  lies : ∃ b c, sv = .slice (some ⟨b, 0, none⟩) vals.length c ∧ b < w.heap.size ∧ ∀ j u, (vals.map iv)[j]? = some u → w.cell? ⟨b, j, none⟩ = some u
  dig : ∀ x ∈ vals, 0 ≤ x ∧ x ≤ 9
  len : vals.length ≤ 64
def Yv.pr {w : World} {n : Nat} (x : Yv w n) : Yd := (x.at_, x.vals)
def Yv.enc {w : World} {n : Nat} (x : Yv w n) : Array Value := #[.int .i64 (x.at_ : Int), x.sv]
/-- What a round keeps. -/
def Kpw (w : World) (bh be : Nat) (W W' : World) : Prop := Below w.heap.size W W' ∧ W'.heap[bh]? = W.heap[bh]? ∧ W'.heap[be]? = W.heap[be]?
theorem Kpw.trans {w : World} {bh be : Nat} {A B C : World} (h : Kpw w bh be A B) (k : Kpw w bh be B C) : Kpw w bh be A C := ⟨h.1.trans k.1, k.2.1.trans h.2.1, k.2.2.trans h.2.2⟩
theorem Kpw.refl (w : World) (bh be : Nat) (A : World) : Kpw w bh be A A := ⟨Below.refl _ _, rfl, rfl⟩
theorem Kpw.drewN (w : World) (bh be : Nat) (A : World) (n : Nat) : Kpw w bh be A (A.drewN n) := ⟨below_drewN (Below.refl _ _) n, rfl, rfl⟩
theorem Kpw.put {w : World} {bh be : Nat} (W : World) (l : Nat) (o o' : Obj) (hn : w.heap.size ≤ l) (h1 : bh < l) (h2 : be < l) (h : W.heap[l]? = some o) : Kpw w bh be W (W.putObj l o') :=
  ⟨(Below.refl _ W).grown (grownBy_putObj' W l o') (by have := (Array.getElem?_eq_some_iff.1 h).1; omega) (fun k e => by cases e; omega), World.putObj_heap_other (by omega), World.putObj_heap_other (by omega)⟩
theorem yl_len (P : List Pt) (e : Nm) (i m : Nat) : (yl P e i m).length ≤ m := by
  unfold yl
  have := List.length_filterMap_le (fun L => (luk P ((e.drop i).take (L + 1))).map fun v => (i, v)) (List.range m)
  simpa using this
theorem ya_len (P : List Pt) (e : Nm) : ∀ n, (ya P e n).length ≤ n * e.length
  | 0 => by simp [ya]
  | n + 1 => by
    rw [ya_succ, List.length_append, Nat.add_mul]
    have h1 := ya_len P e n
    have h2 := yl_len P e n (e.length - n)
    omega
theorem drop_snoc {e : Nm} {i j : Nat} {c : UInt8} (hij : i ≤ j) (hc : e[j]? = some c) : (e.drop i).take (j - i + 1) = (e.drop i).take (j - i) ++ [c] := by
  rw [List.take_add_one, List.getElem?_drop, show i + (j - i) = j by omega, hc]
  rfl
/-- What stands at a state, as a round is handed it. -/
theorem HyAt.yv {w : World} {B p : Nat} {P : List Pt} {v xv : Value} (h : HyAt w B p P v xv) {s : Nm} {l : List Int} {u : Value} (hl : luk P s = some l) (hv : valAt w B P s u) {i n : Nat} (hi : i + s.length ≤ n) : ∃ x : Yv w n, x.at_ = i ∧ x.vals = l ∧ x.sv = u ∧ ∃ b c, u = .slice (some ⟨b, 0, none⟩) l.length c := by
  unfold valAt at hv
  rw [hl] at hv
  obtain ⟨hne, hown⟩ := hv
  have hp := h.pats.is _ ((luk_some h.pats.nodup).1 hl)
  simp only at hp
  obtain ⟨k, hk⟩ : ∃ k, l.length = k + 1 := ⟨s.length, hp.1⟩
  have hown' := hown
  rw [hk] at hown'
  obtain ⟨g, c, hu, hgc, hBg, hgl, _⟩ := own_split hown'
  rw [← hk] at hu
  subst hu
  refine ⟨⟨i, _, l, by omega, ⟨g, c, rfl, hgl, fun j u hj => ?_⟩, hp.2.2.2.2, by omega⟩, rfl, rfl, rfl, g, c, rfl⟩
  have hjl : j < l.length * 1 := by
    have := (List.getElem?_eq_some_iff.1 hj).1
    simpa using this
  exact (hown.cellAt j hjl).trans hj
theorem cell_heap {W W' : World} {b : Nat} (h : W'.heap[b]? = W.heap[b]?) (o : Nat) : W'.cell? ⟨b, o, none⟩ = W.cell? ⟨b, o, none⟩ := by
  unfold World.cell?
  simp [h]
theorem pre_lt {P : List Pt} {e : Nm} {i m : Nat} {w : World} {n : Nat} {pre : List (Yv w n)} (h : pre.map Yv.pr = ya P e i ++ yl P e i m) (he : e.length ≤ 65) (hi : i ≤ e.length) (hm : m ≤ e.length) : pre.length < 1000000 := by
  have h1 := congrArg List.length h
  rw [List.length_map, List.length_append] at h1
  have h2 := ya_len P e i
  have h3 := yl_len P e i m
  have h4 : i * e.length ≤ 65 * 65 := Nat.mul_le_mul (by omega) he
  omega
set_option maxRecDepth 100000 in
set_option maxHeartbeats 2000000 in
theorem fits1_in (n : Nat) (hn : 1 ≤ n) (B p : Nat) (P : List Pt) (v xv : Value) (s : ByteArray) (hok : ∀ c ∈ s.data.toList, okS c = true) (hs : s.size ≤ 65) (w : World) (h : HyAt w B p P v xv) (l bh be : Nat) (J Jx : List (Yv w s.size) → World → Prop)
    (hJ : ∀ pre W k, J pre W → J pre (W.drewN k))
    (hY : ∀ pre x W, J pre W → pre.length < 1000000 → YieldAt Fence.wide (n - 1) Try.prog l x.enc W fun e W' => (e = .returned (.bool true) ∧ J (pre ++ [x]) W' ∧ Kpw w bh be W W') ∨ (e = .returned (.bool false) ∧ Jx (pre ++ [x]) W'))
    (W : World) (hW : Below w.heap.size w W) (hbh : W.cell? ⟨bh, 0, none⟩ = some (.pointer (some ⟨p, 0, none⟩))) (hbe : W.cell? ⟨be, 0, none⟩ = some (.string s)) (h0 : J [] W) :
    CallsIn Fence.wide n Try.prog 142 #[.func (.yield l) #[] #[], .pointer (some ⟨be, 0, none⟩), .pointer (some ⟨bh, 0, none⟩)] W fun e W' => (∃ v, e = .returned v) ∧
      ((∃ ys : List (Yv w s.size), ys.map Yv.pr = ya P s.data.toList s.size ∧ J ys W') ∨ (∃ pre, True ∧ Jx pre W')) := by
  have HH := Lib.hid h
  have HS := Lib.hid hs
  have HOK := Lib.hid hok
  clear h hok
  refine callsIn_of_wp Try.func142 rfl trivial ?_ rfl
  simp only [Try.ntmps142, List.size_toArray, List.length_cons, List.length_nil, Nat.reduceAdd, Nat.reduceSub, Array.replicate_succ, Array.replicate_zero, List.push_toArray, List.append_toArray, List.nil_append, List.cons_append]
  gi_wp2
  gi_loopw [9] (fun v9 wr => ∃ (i : Nat) (pre : List (Yv w s.size)), i ≤ s.size ∧ v9 = .int .i64 (i : Int) ∧ pre.map Yv.pr = ya P s.data.toList i ∧ J pre wr ∧ Kpw w bh be W wr) (fun v9 _ => s.size - (intOf v9).toNat)
  case atStart => exact ⟨0, [], by omega, rfl, rfl, h0, Kpw.refl _ _ _ _⟩
  case round =>
    obtain ⟨i, pre, hi, rfl, hpre, hj, hk⟩ := hrel
    by_cases hlt : i < s.size
    · have hb2 : Below w.heap.size w wr := hW.trans hk.1
      have hbe1 := (cell_heap hk.2.2 0).trans hbe
      have HJ0 := Lib.hid (And.intro hj hk)
      have HPRE := Lib.hid hpre
      clear hj hk hb2 hpre
      gi_wp2
      gi_loopw [5, 6] (fun v5 v6 wr => ∃ (j : Nat) (pre : List (Yv w s.size)), i ≤ j ∧ j ≤ s.size ∧ v5 = .int .i64 (ix (nsOf P) ((s.data.toList.drop i).take (j - i)) : Int) ∧ (s.data.toList.drop i).take (j - i) ∈ nsOf P ∧ v6 = .int .i64 (j : Int) ∧ pre.map Yv.pr = ya P s.data.toList i ++ yl P s.data.toList i (j - i) ∧ J pre wr ∧ Kpw w bh be W wr) (fun _ v6 _ => s.size - (intOf v6).toNat)
      case atStart =>
        refine ⟨i, pre, by omega, by omega, ?_, by rw [Nat.sub_self, List.take_zero]; exact HH.out.pats.tri.nil_mem, rfl, by rw [Nat.sub_self, HPRE.out]; simp [yl], HJ0.out.1, HJ0.out.2⟩
        rw [Nat.sub_self, List.take_zero, ix_nil HH.out.pats.tri]
        rfl
      case round =>
        clear HJ0 HPRE hbe1
        obtain ⟨j, pre2, hij, hjs, rfl, hmem, rfl, hpre2, hj, hk⟩ := hrel
        have hb2 : Below w.heap.size w wr := hW.trans hk.1
        have hbe1 := (cell_heap hk.2.2 0).trans hbe
        have hbh1 := (cell_heap hk.2.1 0).trans hbh
        have HK := Lib.hid (And.intro hj hk)
        have HPRE := Lib.hid hpre2
        clear hj hk hpre2
        by_cases hlt2 : j < s.size
        · have hh := HH.out.below hb2
          obtain ⟨g, c, rfl, hgc, hBg, hgl, hcm, hn0, hpg⟩ := hh.tr.slice
          have hget := get_list s j hlt2
          have hok := HOK.out _ (List.mem_of_getElem? hget)
          obtain ⟨sg0, sg1, _⟩ := sgn_ok _ hok
          obtain ⟨q, hq⟩ : ∃ q : Nat, sgn s[j] = q := ⟨(sgn s[j]).toNat, by omega⟩
          have hcn := (hh.tr.next hmem hok hq).1
          rw [← drop_snoc hij hget] at hcn
          have hc0 := hh.tr.blk.cell 0
          have HSG := Lib.hid (fun w => sign_any s[j] w)
          rw [hq] at HSG
          have hq27 : (q : Int) < 27 := by omega
          have hix := ix_lt hh.tr.tri ((s.data.toList.drop i).take (j - i))
          have hixi : (ix (nsOf P) ((s.data.toList.drop i).take (j - i)) : Int) < ((nsOf P).length : Int) := by omega
          have HHH := Lib.hid hh
          clear hh hgc hgl hcm hget hok sg0 sg1 hq hix hn0 hBg
          gi_wp2
          gi_quiet ((gi_at_call 121; refine CallsIn.quiet_of_same (callsIn_wide.2 (HSG.out _))))
          have hk3 : Kpw w bh be W (wr.drewN nq) := HK.out.2.trans (Kpw.drewN _ _ _ _ _)
          have hj3 : J pre2 (wr.drewN nq) := hJ _ _ _ HK.out.1
          have hh3 := HHH.out.below (below_drewN (Below.refl _ _) nq)
          have hbe3 : (wr.drewN nq).cell? ⟨be, 0, none⟩ = some (.string s) := hbe1
          have hbh3 : (wr.drewN nq).cell? ⟨bh, 0, none⟩ = some (.pointer (some ⟨p, 0, none⟩)) := hbh1
          have hc3 := hh3.tr.blk.cell 0
          clear hbe1 hbh1 HK HHH hcn hc0 hb2 hixi HSG
          generalize wr.drewN nq = wq at hk3 hj3 hh3 hbe3 hbh3 hc3 ⊢
          have HTRI := Lib.hid hh3.tr.tri
          by_cases hz : (ix (nsOf P) ((s.data.toList.drop i).take (j - i + 1)) : Int) = 0
          · have HK3 := Lib.hid (And.intro hj3 hk3)
            have hno : (s.data.toList.drop i).take (j - i + 1) ∉ nsOf P := by
              refine (ix_zero HTRI.out (fun e => ?_)).1 (by omega)
              have := congrArg List.length e
              rw [List.length_take, List.length_drop, size_list] at this
              simp at this
              omega
            have HST := Lib.hid (yl_stop HH.out.pats hno (s.size - j))
            clear hj3 hk3 hh3 hno
            gi_wp2
            go_roundw
            case rel =>
              refine ⟨i + 1, pre2, by omega, by go_num, ?_, HK3.out.1, HK3.out.2⟩
              rw [HPRE.out, ya_succ, size_list, ← HST.out]
              congr 2
              omega
            case measure => simp [intOf]; omega
          · have hmem2 : (s.data.toList.drop i).take (j - i + 1) ∈ nsOf P := by
              cases Decidable.em ((s.data.toList.drop i).take (j - i + 1) ∈ nsOf P) with
              | inl h => exact h
              | inr h => exact absurd (by rw [ix_no h]; rfl) hz
            have hbw : Below w.heap.size w wq := hW.trans hk3.1
            have hgw : g < w.heap.size := by
              obtain ⟨g', c', e1, _, _, hgl, _⟩ := HH.out.tr.slice
              injection e1 with e1 _ _
              injection e1 with e1
              injection e1 with e1 _ _
              omega
            obtain ⟨u, hu0, hv⟩ := HH.out.tr.val hmem2
            have hu := (hbw.cell (p := ⟨g, ix (nsOf P) ((s.data.toList.drop i).take (j - i + 1)) * 28 + 27, none⟩) hgw).trans hu0
            clear hu0 hgw hbw
            have hix2 : (ix (nsOf P) ((s.data.toList.drop i).take (j - i + 1)) : Int) < ((nsOf P).length : Int) := by have := ix_lt HTRI.out ((s.data.toList.drop i).take (j - i + 1)); omega
            have HYL := Lib.hid (yl_succ P s.data.toList i (j - i))
            have hji : j + 1 - i = j - i + 1 := by omega
            have HJI := Lib.hid hji
            have HMEM := Lib.hid hmem2
            cases hlk : luk P ((s.data.toList.drop i).take (j - i + 1)) with
            | none =>
              unfold valAt at hv
              rw [hlk] at hv HYL
              obtain rfl : u = .slice none 0 0 := hv
              have HK3 := Lib.hid (And.intro hj3 hk3)
              clear hj3 hk3 hh3 hlk hmem2 hji hmem
              gi_wp2
              go_roundw
              case rel =>
                refine ⟨j + 1, pre2, by omega, by omega, by rw [HJI.out], by rw [HJI.out]; exact HMEM.out, by go_num, ?_, HK3.out.1, HK3.out.2⟩
                rw [HPRE.out, HJI.out, HYL.out]
                simp
              case measure => simp [intOf]; omega
            | some lv =>
              rw [hlk] at HYL
              have hfit : i + ((s.data.toList.drop i).take (j - i + 1)).length ≤ s.size := by
                rw [List.length_take, List.length_drop, size_list]
                omega
              obtain ⟨x, hx1, hx2, hx3, b4, c4, rfl⟩ := HH.out.yv hlk hv hfit
              obtain ⟨fn, tmps, assign, body, hy, hR⟩ := hY pre2 x wq hj3 (pre_lt HPRE.out (by rw [size_list]; omega) (by rw [size_list]; omega) (by rw [size_list]; omega))
              simp only [Yv.enc, hx1, hx3] at hy
              have HX := Lib.hid (show Yv.pr x = (i, lv) by unfold Yv.pr; rw [hx1, hx2])
              have HK3 := Lib.hid hk3
              clear hj3 hk3 hh3 hlk hmem2 hji hv hmem hx1 hx2 hx3 hfit
              gi_wp2
              refine hR.mono ?_
              rintro e W3 (⟨rfl, hJ3, hk3⟩ | ⟨rfl, hJx3⟩)
              · gi_wp2
                go_roundw
                case rel =>
                  refine ⟨j + 1, pre2 ++ [x], by omega, by omega, by rw [HJI.out], by rw [HJI.out]; exact HMEM.out, by go_num, ?_, hJ3, HK3.out.trans hk3⟩
                  rw [List.map_append, HPRE.out, HJI.out, HYL.out]
                  simp [HX.out]
                case measure => simp [intOf]; omega
              · gi_wp2
                refine bodyPost_ret (results_none rfl _ _ _) rfl ?_
                exact ⟨⟨_, rfl⟩, .inr ⟨_, trivial, hJx3⟩⟩
        · obtain rfl : j = s.size := by omega
          gi_wp2
          go_roundw
          case rel =>
            refine ⟨i + 1, pre2, by omega, by go_num, ?_, HK.out.1, HK.out.2⟩
            rw [HPRE.out, ya_succ, size_list]
          case measure => simp [intOf]; omega
    · obtain rfl : i = s.size := by omega
      gi_wp2
      go_end0
      exact ⟨⟨_, rfl⟩, .inl ⟨pre, hpre, hj⟩⟩
end Go.Proofs.Ytmcekdjhkjhcdaa.Hy
