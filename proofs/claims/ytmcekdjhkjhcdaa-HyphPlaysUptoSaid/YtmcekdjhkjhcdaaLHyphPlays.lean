import Derived.Test.YtmcekdjhkjhcdaaHme
import Derived.Test.YtmcekdjhkjhcdaaHmj
import Derived.Test.YtmcekdjhkjhcdaaHmk
import Derived.Test.YtmcekdjhkjhcdaaHym
import Derived.Test.YtmcekdjhkjhcdaaHv
import Derived.Test.YtmcekdjhkjhcdaaHk
import Derived.Test.YtmcekdjhkjhcdaaHrd
import Derived.Test.YtmcekdjhkjhcdaaHop
import Derived.ProofKit
import Derived.OpenShut
import Derived.Deep.Slices
import Derived.Test.YtmcekdjhkjhcdaaMem
import Derived.KernelRfl
import Derived.Test.YtmcekdjhkjhcdaaLift
/- HyphPlays: two plays that take turns, each on the program's object and on the document's: no question is answered otherwise, and neither play shows in the other. Conditions: what comes in is of bulk at most 1048576 (the second form). -/
section
namespace Go.Proofs.Ytmcekdjhkjhcdaa.Hy
open Go.ChangeShapes Go.WideShapes Go.ChangeAt Go.RowKit
open Me Hp
set_option linter.unusedVariables false
set_option linter.unusedSimpArgs false
theorem take_one {s : Nm} {i : Nat} (h : i < s.length) : s.take (i + 1) = s.take i ++ [s.getD i 0] := by
  rw [List.take_add_one, List.getD_eq_getElem?_getD, List.getElem?_eq_getElem h]
  rfl
theorem xtq_seg (s : Nm) (ps : List Int) (a : Nat) : ∀ d, a + d + 1 ≤ s.length → (∀ j : Nat, a < j → j ≤ a + d → (j : Int) ∉ ps) → xtq s ps (a + d + 1) = xtq s ps a ++ ((if (a : Int) ∈ ps then [45] else []) ++ (s.take (a + d + 1)).drop a)
  | 0, hl, _ => by
    have e : (s.take (a + 1)).drop a = [s.getD a 0] := by
      rw [take_one (by omega), List.drop_append_of_le_length (by rw [List.length_take]; omega), List.drop_of_length_le (by rw [List.length_take]; omega)]
      rfl
    rw [Nat.add_zero, e, xtq_succ]
    rfl
  | d + 1, hl, hj => by
    have ih := xtq_seg s ps a d (by omega) (fun j h1 h2 => hj j h1 (by omega))
    have e : (s.take (a + (d + 1) + 1)).drop a = (s.take (a + d + 1)).drop a ++ [s.getD (a + d + 1) 0] := by
      rw [show a + (d + 1) + 1 = a + d + 1 + 1 by omega, take_one (by omega), List.drop_append_of_le_length (by rw [List.length_take]; omega)]
    have hx : xpc s ps (a + d + 1) = [s.getD (a + d + 1) 0] := by
      unfold xpc
      rw [if_neg (hj (a + d + 1) (by omega) (by omega))]
      rfl
    rw [e, show a + (d + 1) + 1 = a + d + 1 + 1 by omega, xtq_succ, ih, hx]
    simp only [List.append_assoc]
/-- Where the last point stands; the text up to it. -/
def xfrom (ps : List Int) (m : Nat) : Nat := if m = 0 then 0 else ((ps[m - 1]?).getD 0).toNat
def xpt (s : Nm) (ps : List Int) (m : Nat) : Nm := if m = 0 then [] else xtq s ps (xfrom ps m) ++ [45]
theorem xfrom_succ {ps : List Int} {m : Nat} {p : Nat} (h : ps[m]? = some (p : Int)) : xfrom ps (m + 1) = p := by
  unfold xfrom
  rw [if_neg (by omega), Nat.add_sub_cancel, h]
  simp
theorem xpt_succ {s : Nm} {ps : List Int} {m : Nat} {p : Nat} (h : ps[m]? = some (p : Int)) : xpt s ps (m + 1) = xtq s ps p ++ [45] := by
  unfold xpt
  rw [if_neg (by omega), xfrom_succ h]
/-- How the last point stands to what follows. -/
theorem xfrom_at {s : Nm} {ps : List Int} (hx : IsX (s, ps)) {m : Nat} (hm : m ≤ ps.length) : (m = 0 ∧ xfrom ps m = 0 ∧ ((0 : Nat) : Int) ∉ ps) ∨ (0 < m ∧ ps[m - 1]? = some ((xfrom ps m : Nat) : Int) ∧ ((xfrom ps m : Nat) : Int) ∈ ps) := by
  by_cases h0 : m = 0
  · subst h0
    refine .inl ⟨rfl, rfl, fun h => ?_⟩
    have := (hx.bd _ h).1
    simp at this
  · have hl : m - 1 < ps.length := by omega
    have hb := hx.bd _ (List.getElem_mem hl)
    have he : ((xfrom ps m : Nat) : Int) = ps[m - 1] := by
      unfold xfrom
      rw [if_neg h0, List.getElem?_eq_getElem hl]
      simp only [Option.getD_some]
      omega
    exact .inr ⟨by omega, by rw [he]; exact List.getElem?_eq_getElem hl, by rw [he]; exact List.getElem_mem hl⟩
theorem xpt_to {s : Nm} {ps : List Int} (hx : IsX (s, ps)) {m b : Nat} (hm : m ≤ ps.length) (hb : b ≤ s.length) (hlt : xfrom ps m < b) (hno : ∀ j : Nat, xfrom ps m < j → j < b → (j : Int) ∉ ps) : xtq s ps b = xpt s ps m ++ (s.take b).drop (xfrom ps m) := by
  obtain ⟨d, rfl⟩ : ∃ d, b = xfrom ps m + d + 1 := ⟨b - xfrom ps m - 1, by omega⟩
  have h := xtq_seg s ps (xfrom ps m) d hb (fun j h1 h2 => hno j h1 (by omega))
  rw [h]
  rcases xfrom_at hx hm with ⟨h0, h1, h2⟩ | ⟨h0, h1, h2⟩
  · rw [h1]
    unfold xpt
    rw [if_neg h2, if_pos h0]
    rfl
  · unfold xpt
    rw [if_pos h2, if_neg (by omega), List.append_assoc]
theorem xpt_next {s : Nm} {ps : List Int} (hx : IsX (s, ps)) {m p : Nat} (hp : ps[m]? = some (p : Int)) : p < s.length ∧ xfrom ps m < p ∧ xtq s ps p = xpt s ps m ++ (s.take p).drop (xfrom ps m) := by
  have hml := (List.getElem?_eq_some_iff.1 hp).1
  have hpe := (List.getElem?_eq_some_iff.1 hp).2
  have hb := hx.bd _ (List.mem_of_getElem? hp)
  have hri : ps.Pairwise (· < ·) := hx.rise
  have hps : p < s.length := by have := hb.2; simp only at this; omega
  have hfl : xfrom ps m < p := by
    rcases xfrom_at hx (by omega : m ≤ ps.length) with ⟨h0, h1, h2⟩ | ⟨h0, h1, h2⟩
    · have := hb.1
      omega
    · have h3 := List.pairwise_iff_getElem.1 hri (m - 1) m (by omega) hml (by omega)
      rw [(List.getElem?_eq_some_iff.1 h1).2, hpe] at h3
      omega
  refine ⟨hps, hfl, xpt_to hx (by omega) (by omega) hfl fun j h1 h2 hj => ?_⟩
  obtain ⟨i, hi⟩ := List.mem_iff_getElem?.1 hj
  have hil := (List.getElem?_eq_some_iff.1 hi).1
  have hie := (List.getElem?_eq_some_iff.1 hi).2
  rcases Nat.lt_trichotomy i m with h3 | rfl | h3
  · rcases xfrom_at hx (by omega : m ≤ ps.length) with ⟨h0, _⟩ | ⟨h0, h5, _⟩
    · omega
    · rcases Nat.lt_or_ge i (m - 1) with h6 | h6
      · have h7 := List.pairwise_iff_getElem.1 hri i (m - 1) hil (by omega) h6
        rw [hie, (List.getElem?_eq_some_iff.1 h5).2] at h7
        omega
      · obtain rfl : i = m - 1 := by omega
        rw [h5] at hi
        injection hi with hi
        omega
  · rw [hp] at hi
    injection hi with hi
    omega
  · have h7 := List.pairwise_iff_getElem.1 hri m i hml hil h3
    rw [hie, hpe] at h7
    omega
theorem xpt_last {s : Nm} {ps : List Int} (hx : IsX (s, ps)) : xfrom ps ps.length < s.length ∧ xtq s ps s.length = xpt s ps ps.length ++ s.drop (xfrom ps ps.length) := by
  obtain ⟨hw1, hw2, hw3⟩ := wordB_is hx.word
  have hri : ps.Pairwise (· < ·) := hx.rise
  have hfl : xfrom ps ps.length < s.length := by
    rcases xfrom_at hx (Nat.le_refl _) with ⟨h0, h1, h2⟩ | ⟨h0, h1, h2⟩
    · simp only at hw1
      omega
    · have := (hx.bd _ h2).2
      simp only at this
      omega
  refine ⟨hfl, ?_⟩
  have h := xpt_to hx (Nat.le_refl _) (Nat.le_refl _) hfl fun j h1 h2 hj => ?_
  · rw [List.take_length] at h
    exact h
  · obtain ⟨i, hi⟩ := List.mem_iff_getElem?.1 hj
    have hil := (List.getElem?_eq_some_iff.1 hi).1
    have hie := (List.getElem?_eq_some_iff.1 hi).2
    rcases xfrom_at hx (Nat.le_refl _) with ⟨h0, _⟩ | ⟨h0, h5, _⟩
    · omega
    · rcases Nat.lt_or_ge i (ps.length - 1) with h6 | h6
      · have h7 := List.pairwise_iff_getElem.1 hri i (ps.length - 1) hil (by omega) h6
        rw [hie, (List.getElem?_eq_some_iff.1 h5).2] at h7
        omega
      · obtain rfl : i = ps.length - 1 := by omega
        rw [h5] at hi
        injection hi with hi
        omega
set_option maxHeartbeats 8000000 in
set_option maxRecDepth 100000 in
theorem exceptions_any (B p : Nat) (P : List Pt) (X : List Xc) (v xv : Value) (w : World) (h : HyAt w B p P v xv) (hx : XAt w B X xv) :
    Calls Try.prog 91 #[.pointer (some ⟨p, 0, none⟩)] w fun e w' => ∃ u, e = .returned u ∧ w'.ownsRow w.heap.size 9 1 u X.length ((xtx X).map tv) ∧ Below w.heap.size w w' := by
  have HG := Lib.hid (good_any B p P v xv w h)
  have hp2 : w.cell? ⟨p, 2, none⟩ = some xv := h.tr.blk.cell 2
  have HX := Lib.hid (fun W (hb : Below w.heap.size w W) => hx.below hb)
  have HI := Lib.hid hx.ex.is
  have hf := hx.ex.few
  obtain ⟨A, cP, rfl, hnc, hcm⟩ := hx.slice
  generalize hln : X.length = n at *
  have HLN := Lib.hid hln
  clear h hx hln
  go_enter Try.func91, Try.ntmps91
  go_wp2_with (go_at_call 61; refine HG.out.mono ?_; rintro e w' ⟨rfl, rfl⟩)
  obtain ⟨w, rfl⟩ : ∃ w0, w0 = w' := ⟨_, rfl⟩
  go_loopw [3, 18] (fun v3 v18 wr => ∃ k : Nat, k ≤ n ∧ v18 = .int .i64 (k : Int) ∧ wr.ownsRow w.heap.size 9 1 v3 k ((xtx (X.take k)).map tv) ∧ Below w.heap.size w wr) (fun _ v18 _ => n - (intOf v18).toNat)
  case atStart => exact ⟨0, by omega, rfl, World.ownsRow_nil _ _ _ _, Below.refl _ _⟩
  case round =>
    obtain ⟨k, hk, rfl, hown, hlow⟩ := hrel
    have hd := HX.out wr hlow
    have HOW := Lib.hid hown
    have HLO := Lib.hid hlow
    clear hown hlow
    by_cases hlt : k < n
    · obtain ⟨x, hxk⟩ := get_some (l := X) (k := k) (by rw [HLN.out]; exact hlt)
      obtain ⟨gP, cP', u, he, _, _, hgl, cy, cu, hu⟩ := hd.get hxk
      injection he with he e2 e3
      subst he
      subst e3
      clear e2
      have HIX := Lib.hid (HI.out x (List.mem_of_getElem? hxk))
      have HTX := Lib.hid (xtx_take hxk)
      have hkn : (k : Int) < (n : Int) := by omega
      obtain ⟨s, ps⟩ := x
      simp only at cy cu hu
      obtain ⟨A3, c3, rfl, _, _, hsu⟩ := Seg.of_own hu
      have HC3 := Lib.hid (fun (W : World) (hb : Below wr.heap.size wr W) (k : Nat) (v : Int) (hv : ps[k]? = some v) => (show ∃ b off, A3 = some ⟨b, off, none⟩ ∧ W.cell? ⟨b, off + k, none⟩ = some (.int .i64 v) from by
        have hv2 : (ps.map iv)[k]? = some (.int .i64 v) := by rw [List.getElem?_map, hv]; rfl
        obtain ⟨b, off, e, hbl, hc⟩ := hsu.open_ (by intro e; rw [e] at hv2; simp at hv2)
        exact ⟨b, off, e, (hb.cell (p := ⟨b, off + k, none⟩) hbl).trans (hc k _ hv2)⟩))
      have hpl : ps.length ≤ 63 := x_few (x := (s, ps)) HIX.out
      have hsl : s.length ≤ 63 := (wordB_is HIX.out.word).2.1
      have hSs : (S s).size = s.length := rfl
      have HSS := Lib.hid hSs
      generalize hZ : S s = Z at *
      have HZ := Lib.hid hZ
      have hzl : Z.size ≤ 63 := by omega
      generalize hpn : ps.length = pn at *
      have HPN := Lib.hid hpn
      clear hxk hu hsu hd hSs hZ hpn
      go_upto_region 7 with fail
      have HB := Lib.hid (Blk.new wr 126 #[.string Z, .slice A3 pn c3])
      have HLO5 := Lib.hid (andAlloc (Below.refl wr.heap.size wr) (.cells #[.string Z, .slice A3 pn c3] 126))
      generalize wr.alloc (.cells #[.string Z, .slice A3 pn c3] 126) = w5 at HB HLO5 ⊢
      generalize hg5 : wr.heap.size = g5 at HB ⊢
      have HG5 := Lib.hid hg5
      clear hg5 cy cu hgl
      have cb : w5.cell? ⟨g5, 1, none⟩ = some (.slice A3 pn c3) := HB.out.cell 1
      go_wp2_with fail
      go_loopw [6, 7, 25] (fun v6 v7 v25 wr => ∃ m : Nat, m ≤ pn ∧ v25 = .int .i64 (m : Int) ∧ v6 = .string (S (xpt s ps m)) ∧ v7 = .int .i64 (xfrom ps m : Int) ∧ Below w5.heap.size w5 wr) (fun _ _ v25 _ => pn - (intOf v25).toNat)
      case atStart => exact ⟨0, by omega, rfl, rfl, rfl, Below.refl _ _⟩
      case round =>
        obtain ⟨m, hm, rfl, rfl, rfl, hlowr⟩ := hrel
        have hb6 := HB.out.below hlowr HB.out.lt
        have c0 : wr.cell? ⟨g5, 0, none⟩ = some (.string Z) := hb6.cell 0
        have hg6 : g5 < wr.heap.size := hb6.lt
        have HL6 := Lib.hid (andThen HLO5.out hlowr)
        have HL56 := Lib.hid hlowr
        clear hb6 hlowr
        by_cases hml : m < pn
        · obtain ⟨v, hv⟩ := get_some (l := ps) (k := m) (by rw [HPN.out]; exact hml)
          have hv0 := (HIX.out.bd v (List.mem_of_getElem? hv)).1
          obtain ⟨q, rfl⟩ : ∃ q : Nat, v = q := ⟨v.toNat, by omega⟩
          obtain ⟨hql, hfq, hxq⟩ := xpt_next HIX.out hv
          obtain ⟨b, off, rfl, hcv⟩ := HC3.out wr HL6.out m _ hv
          have hmi : (m : Int) < (pn : Int) := by omega
          have hT : (S (xpt s ps m)).size ≤ 1048576 := by
            rw [S_size]
            unfold xpt
            split
            · simp
            · rw [List.length_append]
              have := xtq_len s ps (xfrom ps m)
              simp
              omega
          have HX := Lib.hid (show S (xpt s ps (m + 1)) = S (xpt s ps m) ++ (Z.extract (xfrom ps m) q ++ (⟨#[45]⟩ : ByteArray)) by
            rw [xpt_succ hv, hxq, ← HZ.out, ext_eq, S_list, ← S_app, ← S_app, ByteArray.append_assoc]
            rfl)
          have HF := Lib.hid (xfrom_succ hv)
          generalize hTT : S (xpt s ps m) = T at hT HX
          have HTT := Lib.hid hTT
          generalize xfrom ps m = f at *
          have hez : (Z.extract f q).size ≤ 63 := by rw [ByteArray.size_extract]; omega
          have hqz : q ≤ Z.size := by have := HSS.out; omega
          have hf1 : (f : Int) ≤ (q : Int) := by omega
          have hf2 : (q : Int) ≤ (Z.size : Int) := by omega
          have hf3 : f ≤ q := by omega
          have hz1 : ¬ 9223372036854775807 < (Z.extract f q).size + (⟨#[45]⟩ : ByteArray).size := by show ¬ 9223372036854775807 < _ + 1; omega
          have hz2 : ¬ 9223372036854775807 < T.size + (Z.extract f q ++ (⟨#[45]⟩ : ByteArray)).size := by rw [ByteArray.size_append]; show ¬ 9223372036854775807 < _ + (_ + 1); omega
          clear hTT hv hxq hql hv0
          go_wp2_with fail
          go_roundw
          case rel => exact ⟨m + 1, by omega, by go_num, by rw [HX.out], by rw [HF.out], HL56.out⟩
          case measure => clear hmi; simp [intOf]; omega
        · obtain rfl : m = pn := by omega
          have hpm : ps.length = m := HPN.out
          obtain ⟨hfl, hxl⟩ := xpt_last HIX.out
          rw [hpm] at hfl hxl
          have hT : (S (xpt s ps m)).size ≤ 1048576 := by
            rw [S_size]
            unfold xpt
            split
            · simp
            · rw [List.length_append]
              have := xtq_len s ps (xfrom ps m)
              simp
              omega
          have HX := Lib.hid (show S (xpt s ps m) ++ Z.extract (xfrom ps m) Z.size = S (xtq s ps s.length) by
            rw [hxl, ← HZ.out, ext_eq, S_list, S_size, List.take_length, S_app])
          generalize hTT : S (xpt s ps m) = T at hT HX
          have HTT := Lib.hid hTT
          generalize xfrom ps m = f at *
          have hez : (Z.extract f Z.size).size ≤ 63 := by rw [ByteArray.size_extract]; omega
          have hf2 : (f : Int) ≤ (Z.size : Int) := by have := HSS.out; omega
          have hf3 : f ≤ Z.size := by have := HSS.out; omega
          have hz2 : ¬ 9223372036854775807 < T.size + (Z.extract f Z.size).size := by omega
          have HO6 := Lib.hid (own_below HOW.out HL6.out)
          have HL7 := Lib.hid (andThen HLO.out HL6.out)
          generalize hTN : T ++ Z.extract f Z.size = TN at *
          clear hTT hxl hfl hpm
          go_wp2_with (at_builtin; refine wpList_push rfl _ _ 41 rfl w.heap.size 9 _ 1 16 Try.underlying41 info_text rfl (by decide) (by decide) _ _ _ rfl HO6.out HL7.out.size _ rfl rfl rfl (by simp) (by omega) ?_; intro v7 w7 hown7 hg7 hn7; have HD7 := Lib.hid (And.intro hown7 (below_grown (Nat.le_refl _) (andAlloc HL7.out _) hg7 (fun k hk => (HO6.out.lt k hk).1))); clear hown7 hg7 hn7)
          go_roundw
          case rel => exact ⟨k + 1, by omega, by go_num, by rw [HTX.out]; have h := HD7.out.1; rw [HX.out] at h; exact h, HD7.out.2⟩
          case measure => clear hkn; simp [intOf]; omega
    · obtain rfl : k = n := by omega
      have hkn : ¬ (k : Int) < (k : Int) := by omega
      have HXK := Lib.hid (show X.take k = X from List.take_of_length_le (by rw [HLN.out]; exact Nat.le_refl _))
      clear hd
      go_wp2_with fail
      go_ret
      exact ⟨_, rfl, by have h := HOW.out; rw [HXK.out] at h; exact h, HLO.out⟩
end Go.Proofs.Ytmcekdjhkjhcdaa.Hy
end
section
namespace Go.Proofs.Ytmcekdjhkjhcdaa.Hy
open Go.ChangeShapes Go.WideShapes Go.ChangeAt Go.RowKit
open Me Hp
set_option linter.unusedVariables false
set_option linter.unusedSimpArgs false
theorem two_ne {w : World} {k p : Nat} {t t' : TypeId} {cs c2 : Array Value} (hb : Blk w k t cs) (hp : Blk w p t' c2) (hne : t ≠ t') : k ≠ p := by
  rintro rfl
  have a : w.heap[k]? = some (.cells _ t (0, 0)) := hb
  have b : w.heap[k]? = some (.cells _ t' (0, 0)) := hp
  rw [a] at b
  simp only [Option.some.injEq, Obj.cells.injEq] at b
  exact hne b.2.1
/-- A block of another type is none of a row's. -/
theorem blk_off {w : World} {B k n : Nat} {u : Value} {xs : List Value} {cs : Array Value} {e t : TypeId} {size : Nat} (hb : Blk w k t cs) (h : w.ownsRow B e size u n xs) (hne : e ≠ t) : some k ≠ u.ownBlock := by
  intro e0
  rcases own_not_blk h hb hne with h1 | h1
  · rw [h1] at e0; cases e0
  · exact h1 e0.symm
section
variable {w w' : World} {B p q : Nat} {P L X Y : List Xc} {v xv pv yv : Value}
theorem HyAt.keep (h : HyAt w B p P v xv) (hp : w'.heap[p]? = w.heap[p]?) (hv : ∀ g, v.ownBlock = some g → w'.heap[g]? = w.heap[g]?) (hi : IntsSame w w') : HyAt w' B p P v xv := by
  obtain ⟨vs, h1, h2, h3⟩ := h.tr.row
  exact ⟨h.pats, h.tr.tri, h.tr.keys, hp.trans h.tr.blk, h.tr.low, vs, h1, own_same h2 hv, fun k s u hk hu => (h3 k s u hk hu).kept fun n xs ho => own_ints ho hi⟩
theorem XAt.keep (h : XAt w B X xv) (hv : ∀ g, xv.ownBlock = some g → w'.heap[g]? = w.heap[g]?) (hi : IntsSame w w') : XAt w' B X xv := by
  obtain ⟨us, h1, h2, h3⟩ := h.row
  exact ⟨h.ex, us, h1, own_same h2 hv, fun k x u hk hu => own_ints (h3 k x u hk hu) hi⟩
theorem DAt.keep (h : DAt w B q L X pv yv) (hq : w'.heap[q]? = w.heap[q]?) (hv : ∀ g, pv.ownBlock = some g → w'.heap[g]? = w.heap[g]?) (hy : ∀ g, yv.ownBlock = some g → w'.heap[g]? = w.heap[g]?) (hi : IntsSame w w') : DAt w' B q L X pv yv :=
  ⟨hq.trans h.blk, h.low, h.pr.keep hv hi, h.xr.keep hy hi⟩
theorem HyAt.row (h : HyAt w B p P v xv) : ∃ n xs, w.ownsRow B 141 28 v n xs := by
  obtain ⟨vs, _, h2, _⟩ := h.tr.row
  exact ⟨_, _, h2⟩
theorem XAt.own (h : XAt w B X xv) : ∃ n xs, w.ownsRow B 126 2 xv n xs := by
  obtain ⟨vs, _, h2, _⟩ := h.row
  exact ⟨_, _, h2⟩
theorem DAt.own (h : DAt w B q L X pv yv) : (∃ n xs, w.ownsRow B 48 2 pv n xs) ∧ ∃ n xs, w.ownsRow B 86 2 yv n xs := by
  obtain ⟨us, _, h2, _⟩ := h.pr
  obtain ⟨vs, _, h3, _⟩ := h.xr
  exact ⟨⟨_, _, h2⟩, _, _, h3⟩
/-- The program's object and the document's. -/
structure Three (w : World) (B p q : Nat) (P L X Y : List Xc) (v xv pv yv : Value) : Prop where
  hy : HyAt w B p P v xv
  xa : XAt w B X xv
  da : DAt w B q L Y pv yv
theorem Three.below (h : Three w B p q P L X Y v xv pv yv) (hb : Below w.heap.size w w') : Three w' B p q P L X Y v xv pv yv := ⟨h.hy.below hb, h.xa.below hb, h.da.below hb⟩
def Mov (w : World) (u u' : Value) : Prop := u'.ownBlock = u.ownBlock ∨ ∃ g, u'.ownBlock = some g ∧ w.heap.size ≤ g
theorem Mov.refl (w : World) (u : Value) : Mov w u u := .inl rfl
theorem Mov.trans {w w1 : World} {u u1 u2 : Value} (h : Mov w u u1) (k : Mov w1 u1 u2) (hz : w.heap.size ≤ w1.heap.size) : Mov w u u2 := by
  rcases k with k | ⟨g, k, hg⟩
  · rcases h with h | ⟨g, h, hg⟩
    · exact .inl (k.trans h)
    · exact .inr ⟨g, k.trans h, hg⟩
  · exact .inr ⟨g, k, by omega⟩
/-- What a step on the two leaves as it lay. -/
structure Stp (w w' : World) (B p q : Nat) (v xv yv v' xv' yv' : Value) : Prop where
  low : Below B w w'
  same : ∀ k, k < w.heap.size → k ≠ p → k ≠ q → some k ≠ v.ownBlock → some k ≠ xv.ownBlock → some k ≠ yv.ownBlock → w'.heap[k]? = w.heap[k]?
  av : Mov w v v'
  ax : Mov w xv xv'
  ay : Mov w yv yv'
theorem Stp.of_below (B p q : Nat) (v xv yv : Value) (hB : B ≤ w.heap.size) (h : Below w.heap.size w w') : Stp w w' B p q v xv yv v xv yv :=
  ⟨h.mono hB, fun k hk _ _ _ _ _ => h.block k hk, .inl rfl, .inl rfl, .inl rfl⟩
theorem Mov.off {w : World} {u u' : Value} {k : Nat} (h : Mov w u u') (hk : k < w.heap.size) (hn : some k ≠ u.ownBlock) : some k ≠ u'.ownBlock := by
  rcases h with h | ⟨g, h, hg⟩
  · rw [h]; exact hn
  · rw [h]; intro e; injection e with e; omega
theorem Stp.trans {w w1 w2 : World} {B p q : Nat} {v xv yv v1 xv1 yv1 v2 xv2 yv2 : Value} (h : Stp w w1 B p q v xv yv v1 xv1 yv1) (k : Stp w1 w2 B p q v1 xv1 yv1 v2 xv2 yv2) : Stp w w2 B p q v xv yv v2 xv2 yv2 := by
  have hz := h.low.size
  exact ⟨h.low.trans k.low, fun i hi h1 h2 h3 h4 h5 => (k.same i (by omega) h1 h2 (h.av.off hi h3) (h.ax.off hi h4) (h.ay.off hi h5)).trans (h.same i hi h1 h2 h3 h4 h5), h.av.trans k.av hz, h.ax.trans k.ax hz, h.ay.trans k.ay hz⟩
theorem Stp.block {k : Nat} {t : TypeId} {cs : Array Value} {v' xv' yv' : Value} (h : Stp w w' B p q v xv yv v' xv' yv') (hT : Three w B p q P L X Y v xv pv yv) (hb : Blk w k t cs) (n1 : t ≠ 106) (n2 : t ≠ 97) (n3 : 141 ≠ t) (n4 : 126 ≠ t) (n5 : 86 ≠ t) : Blk w' k t cs := by
  obtain ⟨_, _, o1⟩ := hT.hy.row
  obtain ⟨_, _, o2⟩ := hT.xa.own
  obtain ⟨_, _, _, o3⟩ := hT.da.own
  exact (h.same k hb.lt (two_ne hb hT.hy.tr.blk n1) (two_ne hb hT.da.blk n2) (blk_off hb o1 n3) (blk_off hb o2 n4) (blk_off hb o3 n5)).trans hb
theorem Stp.ints {v' xv' yv' : Value} (h : Stp w w' B p q v xv yv v' xv' yv') (hT : Three w B p q P L X Y v xv pv yv) : IntsSame w w' := by
  intro g cs hb
  exact (h.block hT hb (by decide) (by decide) (by decide) (by decide) (by decide)).trans hb.symm
/-- The program's Pattern. -/
theorem Three.pat {s : ByteArray} {e : Ending} (h : Three w B p q P L X Y v xv pv yv) (hp : patP B p P v xv s w e w') : ∃ v', Three w' B p q (tell P s.data.toList) L X Y v' xv pv yv ∧ Stp w w' B p q v xv yv v' xv yv := by
  obtain ⟨_, hl, v', hh, hf⟩ := hp
  have hS : Stp w w' B p q v xv yv v' xv yv := ⟨hl, fun k hk h1 _ h3 _ _ => hf.same k hk h1 h3, hf.at_, .inl rfl, .inl rfl⟩
  have hi := hS.ints h
  obtain ⟨n0, x0, o0⟩ := h.hy.row
  obtain ⟨_, _, o2⟩ := h.xa.own
  obtain ⟨⟨_, _, o4⟩, _, _, o3⟩ := h.da.own
  refine ⟨v', ⟨hh, h.xa.keep (fun g hg => ?_) hi, h.da.keep ?_ (fun g hg => ?_) (fun g hg => ?_) hi⟩, hS⟩
  · obtain ⟨cs, hb⟩ := own_typed o2 g hg
    exact hf.same g hb.lt (two_ne hb h.hy.tr.blk (by decide)) (blk_off hb o0 (by decide))
  · exact hf.same q h.da.blk.lt (two_ne h.da.blk h.hy.tr.blk (by decide)) (blk_off h.da.blk o0 (by decide))
  · obtain ⟨cs, hb⟩ := own_typed o4 g hg
    exact hf.same g hb.lt (two_ne hb h.hy.tr.blk (by decide)) (blk_off hb o0 (by decide))
  · obtain ⟨cs, hb⟩ := own_typed o3 g hg
    exact hf.same g hb.lt (two_ne hb h.hy.tr.blk (by decide)) (blk_off hb o0 (by decide))
/-- The program's Except. -/
theorem Three.exc {X' : List Xc} (h : Three w B p q P L X Y v xv pv yv) (hp : XOut X' B p P v xv w w') : ∃ xv', Three w' B p q P L X' Y v xv' pv yv ∧ Stp w w' B p q v xv yv v xv' yv := by
  obtain ⟨hl, xv', hh, hx, hf⟩ := hp
  have hS : Stp w w' B p q v xv yv v xv' yv := ⟨hl, fun k hk h1 _ _ h4 _ => hf.same k hk h1 h4, .inl rfl, hf.at_, .inl rfl⟩
  have hi := hS.ints h
  obtain ⟨n0, x0, o0⟩ := h.hy.row
  obtain ⟨_, _, o2⟩ := h.xa.own
  obtain ⟨⟨_, _, o4⟩, _, _, o3⟩ := h.da.own
  refine ⟨xv', ⟨hh, hx, h.da.keep ?_ (fun g hg => ?_) (fun g hg => ?_) hi⟩, hS⟩
  · exact hf.same q h.da.blk.lt (two_ne h.da.blk h.hy.tr.blk (by decide)) (blk_off h.da.blk o2 (by decide))
  · obtain ⟨cs, hb⟩ := own_typed o4 g hg
    exact hf.same g hb.lt (two_ne hb h.hy.tr.blk (by decide)) (blk_off hb o2 (by decide))
  · obtain ⟨cs, hb⟩ := own_typed o3 g hg
    exact hf.same g hb.lt (two_ne hb h.hy.tr.blk (by decide)) (blk_off hb o2 (by decide))
/-- The document's Pattern, Except. -/
theorem Three.doc {L' Y' : List Xc} (h : Three w B p q P L X Y v xv pv yv) (hp : DOut B q yv L' Y' w w') : ∃ pv' yv', Three w' B p q P L' X Y' v xv pv' yv' ∧ Stp w w' B p q v xv yv v xv yv' := by
  obtain ⟨hl, pv', yv', hd, hf⟩ := hp
  have hS : Stp w w' B p q v xv yv v xv yv' := ⟨hl, fun k hk _ h2 _ _ h5 => hf.same k hk h2 h5, .inl rfl, .inl rfl, hf.at_⟩
  have hi := hS.ints h
  obtain ⟨n0, x0, o0⟩ := h.hy.row
  obtain ⟨_, _, o2⟩ := h.xa.own
  obtain ⟨⟨_, _, o4⟩, _, _, o3⟩ := h.da.own
  refine ⟨pv', yv', ⟨h.hy.keep ?_ (fun g hg => ?_) hi, h.xa.keep (fun g hg => ?_) hi, hd⟩, hS⟩
  · exact hf.same p h.hy.tr.blk.lt (two_ne h.hy.tr.blk h.da.blk (by decide)) (blk_off h.hy.tr.blk o3 (by decide))
  · obtain ⟨cs, hb⟩ := own_typed o0 g hg
    exact hf.same g hb.lt (two_ne hb h.da.blk (by decide)) (blk_off hb o3 (by decide))
  · obtain ⟨cs, hb⟩ := own_typed o2 g hg
    exact hf.same g hb.lt (two_ne hb h.da.blk (by decide)) (blk_off hb o3 (by decide))
/-- Two pairs that share nothing. -/
structure Off (p q : Nat) (v xv yv : Value) (p' q' : Nat) (v' xv' yv' : Value) : Prop where
  p : p ≠ p'
  q : q ≠ q'
  v : ∀ g, v.ownBlock = some g → v'.ownBlock ≠ some g
  xv : ∀ g, xv.ownBlock = some g → xv'.ownBlock ≠ some g
  yv : ∀ g, yv.ownBlock = some g → yv'.ownBlock ≠ some g
end
section
variable {w w' : World} {B p q p2 q2 : Nat} {P L X Y P2 L2 X2 Y2 : List Xc} {v xv pv yv v2 xv2 pv2 yv2 v' xv' yv' : Value}
/-- A step on the one pair leaves the other. -/
theorem Three.other (h : Three w B p q P L X Y v xv pv yv) (k : Three w B p2 q2 P2 L2 X2 Y2 v2 xv2 pv2 yv2) (o : Off p q v xv yv p2 q2 v2 xv2 yv2) (hS : Stp w w' B p q v xv yv v' xv' yv') : Three w' B p2 q2 P2 L2 X2 Y2 v2 xv2 pv2 yv2 := by
  have hi := hS.ints h
  obtain ⟨_, _, o0⟩ := h.hy.row
  obtain ⟨_, _, o2⟩ := h.xa.own
  obtain ⟨⟨_, _, o4⟩, _, _, o3⟩ := h.da.own
  obtain ⟨_, _, k0⟩ := k.hy.row
  obtain ⟨_, _, k2⟩ := k.xa.own
  obtain ⟨⟨_, _, k4⟩, _, _, k3⟩ := k.da.own
  refine ⟨k.hy.keep ?_ (fun g hg => ?_) hi, k.xa.keep (fun g hg => ?_) hi, k.da.keep ?_ (fun g hg => ?_) (fun g hg => ?_) hi⟩
  · have hb := k.hy.tr.blk
    exact hS.same p2 hb.lt o.p.symm (two_ne hb h.da.blk (by decide)) (blk_off hb o0 (by decide)) (blk_off hb o2 (by decide)) (blk_off hb o3 (by decide))
  · obtain ⟨cs, hb⟩ := own_typed k0 g hg
    exact hS.same g hb.lt (two_ne hb h.hy.tr.blk (by decide)) (two_ne hb h.da.blk (by decide)) (fun e => o.v g e.symm hg) (blk_off hb o2 (by decide)) (blk_off hb o3 (by decide))
  · obtain ⟨cs, hb⟩ := own_typed k2 g hg
    exact hS.same g hb.lt (two_ne hb h.hy.tr.blk (by decide)) (two_ne hb h.da.blk (by decide)) (blk_off hb o0 (by decide)) (fun e => o.xv g e.symm hg) (blk_off hb o3 (by decide))
  · have hb := k.da.blk
    exact hS.same q2 hb.lt (two_ne hb h.hy.tr.blk (by decide)) o.q.symm (blk_off hb o0 (by decide)) (blk_off hb o2 (by decide)) (blk_off hb o3 (by decide))
  · obtain ⟨cs, hb⟩ := own_typed k4 g hg
    exact hS.same g hb.lt (two_ne hb h.hy.tr.blk (by decide)) (two_ne hb h.da.blk (by decide)) (blk_off hb o0 (by decide)) (blk_off hb o2 (by decide)) (blk_off hb o3 (by decide))
  · obtain ⟨cs, hb⟩ := own_typed k3 g hg
    exact hS.same g hb.lt (two_ne hb h.hy.tr.blk (by decide)) (two_ne hb h.da.blk (by decide)) (blk_off hb o0 (by decide)) (blk_off hb o2 (by decide)) (fun e => o.yv g e.symm hg)
theorem off_mov {u u' z : Value} (h : ∀ g, u.ownBlock = some g → z.ownBlock ≠ some g) (m : Mov w u u') (hz : ∀ g, z.ownBlock = some g → g < w.heap.size) : ∀ g, u'.ownBlock = some g → z.ownBlock ≠ some g := by
  intro g hg e
  rcases m with m | ⟨k, m, hk⟩
  · exact h g (m.symm.trans hg) e
  · rw [m] at hg
    injection hg with hg
    have := hz g e
    omega
/-- .. and they still share nothing. -/
theorem Off.step (o : Off p q v xv yv p2 q2 v2 xv2 yv2) (k : Three w B p2 q2 P2 L2 X2 Y2 v2 xv2 pv2 yv2) (hS : Stp w w' B p q v xv yv v' xv' yv') : Off p q v' xv' yv' p2 q2 v2 xv2 yv2 := by
  obtain ⟨_, _, k0⟩ := k.hy.row
  obtain ⟨_, _, k2⟩ := k.xa.own
  obtain ⟨_, _, _, k3⟩ := k.da.own
  exact ⟨o.p, o.q, off_mov o.v hS.av fun g hg => (k0.lt g hg).2, off_mov o.xv hS.ax fun g hg => (k2.lt g hg).2, off_mov o.yv hS.ay fun g hg => (k3.lt g hg).2⟩
theorem Off.symm (o : Off p q v xv yv p2 q2 v2 xv2 yv2) : Off p2 q2 v2 xv2 yv2 p q v xv yv :=
  ⟨o.p.symm, o.q.symm, fun g h e => o.v g e h, fun g h e => o.xv g e h, fun g h e => o.yv g e h⟩
end
end Go.Proofs.Ytmcekdjhkjhcdaa.Hy
end
section
namespace Go.Proofs.Ytmcekdjhkjhcdaa.Hy
open Go.ChangeShapes Go.WideShapes Go.ChangeAt Go.RowKit
open Me Hp
set_option linter.unusedVariables false
set_option linter.unusedSimpArgs false
/-- A call that hands back a list of texts in memory of its own. -/
def Lst (T : List Nm) (w : World) (e : Ending) (w' : World) : Prop := Below w.heap.size w w' ∧ ∃ A c, e = .returned (.slice A T.length c) ∧ w'.ownsRow w.heap.size 9 1 (.slice A T.length c) T.length (T.map tv)
theorem Lst.of {T : List Nm} {w w' : World} {u : Value} {n : Nat} (hb : Below w.heap.size w w') (ho : w'.ownsRow w.heap.size 9 1 u n (T.map tv)) (hn : n = T.length) : Lst T w (.returned u) w' := by
  subst hn
  obtain ⟨A, c, rfl, _⟩ := own_sl ho
  exact ⟨hb, A, c, rfl, ho⟩
section
variable {w : World} {B p q : Nat} {P L X Y : List Xc} {v xv pv yv : Value}
theorem Three.patterns (h : Three w B p q P L X Y v xv pv yv) (hb : Both P L) : Calls Try.prog 44 #[.pointer (some ⟨p, 0, none⟩)] w (Lst (ltx L) w) := by
  refine (patterns_any B p P v xv w h.hy).mono ?_
  rintro e w' ⟨h1, u, rfl, h2⟩
  rw [hb.texts] at h2
  exact Lst.of h1 h2 rfl
theorem Three.exceptions (h : Three w B p q P L X Y v xv pv yv) : Calls Try.prog 91 #[.pointer (some ⟨p, 0, none⟩)] w (Lst (xtx X) w) := by
  refine (exceptions_any B p P X v xv w h.hy h.xa).mono ?_
  rintro e w' ⟨u, rfl, h2, h1⟩
  exact Lst.of h1 h2 (by unfold xtx; rw [List.length_map])
theorem Three.rpatterns (h : Three w B p q P L X Y v xv pv yv) (hb : Both P L) : Calls Try.prog 93 #[.pointer (some ⟨q, 0, none⟩)] w (Lst (ltx L) w) := by
  refine (rpatterns_any B q L Y pv yv w h.da hb.patl.few (fun p hp => ⟨(hb.patl.is p hp).1, (hb.patl.is p hp).2.2.1, (hb.patl.is p hp).2.2.2.2⟩)).mono ?_
  rintro e w' ⟨u, rfl, h2, h1⟩
  exact Lst.of h1 h2 (by unfold ltx; rw [List.length_map])
theorem Three.rexceptions (h : Three w B p q P L X X v xv pv yv) : Calls Try.prog 94 #[.pointer (some ⟨q, 0, none⟩)] w (Lst (xtx X) w) := by
  refine (rexceptions_any B q L X pv yv w h.da h.xa.ex.few h.xa.ex.is).mono ?_
  rintro e w' ⟨u, rfl, h2, h1⟩
  exact Lst.of h1 h2 (by unfold xtx; rw [List.length_map])
theorem same_own {T : List Nm} {A1 A2 : Option Addr} {c1 c2 B1 B2 : Nat} {W : World} (hT : T.length ≤ 5000) (h1 : W.ownsRow B1 9 1 (.slice A1 T.length c1) T.length (T.map tv)) (h2 : W.ownsRow B2 9 1 (.slice A2 T.length c2) T.length (T.map tv)) :
    Calls Try.prog 46 #[.slice A1 T.length c1, .slice A2 T.length c2] W fun e w' => e = .returned (.bool true) ∧ Below W.heap.size W w' := by
  obtain ⟨A, c, e1, _, _, s1⟩ := Seg.of_own h1
  injection e1 with e1 _ _
  subst e1
  obtain ⟨A, c, e1, _, _, s2⟩ := Seg.of_own h2
  injection e1 with e1 _ _
  subst e1
  have h := same_words A1 A2 T T c1 c2 W (by omega) (by omega) s1 s2
  rw [decide_eq_true rfl] at h
  exact h
end
theorem own_stored {W : World} {g k c n base b2 n2 : Nat} {xs ys : List Value} {u2 y : Value} (h1 : W.ownsRow base 9 1 (.slice (some ⟨g, 0, none⟩) n c) n xs) (h2 : W.ownsRow b2 9 1 u2 n2 ys) (hg : g < b2) : (∃ xs', (W.setCell ⟨g, k, none⟩ y).ownsRow base 9 1 (.slice (some ⟨g, 0, none⟩) n c) n xs') ∧ (W.setCell ⟨g, k, none⟩ y).ownsRow b2 9 1 u2 n2 ys :=
  ⟨⟨_, (h1.stored k y).1⟩, own_same h2 fun g2 hg2 => heap_setCell_other W ⟨g, k, none⟩ g2 y (fun e => by have := (h2.lt g2 hg2).1; simp only at e; omega)⟩
set_option maxHeartbeats 4000000 in
set_option maxRecDepth 100000 in
theorem lists_any (B p q : Nat) (P L X : List Xc) (v xv pv yv : Value) (w : World) (hb : Both P L) (h : Three w B p q P L X X v xv pv yv) :
    Calls Try.prog 51 #[.pointer (some ⟨p, 0, none⟩), .pointer (some ⟨q, 0, none⟩)] w fun e w' => e = .returned (.bool true) ∧ Below w.heap.size w w' := by
  have H3 := Lib.hid (fun W (hw : Below w.heap.size w W) => h.below hw)
  have HP := Lib.hid (fun W (hw : Below w.heap.size w W) => (h.below hw).patterns hb)
  have HX := Lib.hid (fun W (hw : Below w.heap.size w W) => (h.below hw).exceptions)
  have HRP := Lib.hid (fun W (hw : Below w.heap.size w W) => (h.below hw).rpatterns hb)
  have HRX := Lib.hid (fun W (hw : Below w.heap.size w W) => (h.below hw).rexceptions)
  have HSZ := Lib.hid (fun W (hw : Below w.heap.size w W) => size_any B p P v xv W (h.below hw).hy)
  have HRS := Lib.hid (fun W (hw : Below w.heap.size w W) => rsize_any B q L X pv yv W (h.below hw).da hb.patl)
  have hE := hb.size
  rw [hE] at HSZ
  have hTl : (ltx L).length ≤ 5000 := by unfold ltx; rw [List.length_map]; exact hb.patl.few
  have hUl : (xtx X).length ≤ 1000 := by unfold xtx; rw [List.length_map]; exact h.xa.ex.few
  have hdl := dsz_le (L := L) (fun p hp => (hb.patl.is p hp).2.2.1) L.length
  have hfew := hb.patl.few
  generalize dsz L L.length = D at *
  generalize ltx L = T at *
  generalize xtx X = U at *
  have hDl : D ≤ 1000000 := by omega
  clear hdl hfew hE hb h
  go_enter Try.func51, Try.ntmps51
  go_wp2_with fail
  refine (HP.out w (Below.refl _ _)).mono ?_
  rintro e w1 ⟨hb1, A5, c5, rfl, ho5⟩
  have HO5 := Lib.hid ho5
  have HO50 := Lib.hid ho5
  have HB1 := Lib.hid hb1
  clear ho5 hb1
  go_wp2_with fail
  refine (HX.out w1 HB1.out).mono ?_
  rintro e w2 ⟨hb2, A6, c6, rfl, ho6⟩
  have HO5 := Lib.hid (own_below HO5.out hb2)
  have HO6 := Lib.hid ho6
  have HB2 := Lib.hid (andThen HB1.out hb2)
  clear ho6 hb2
  go_wp2_with fail
  refine (HSZ.out w2 HB2.out).mono ?_
  rintro e w' ⟨rfl, rfl⟩
  go_wp2_with fail
  refine (HRS.out _ HB2.out).mono ?_
  rintro e w3 ⟨rfl, hb3⟩
  have HO5 := Lib.hid (own_below HO5.out hb3)
  have HO6 := Lib.hid (own_below HO6.out hb3)
  have HB3 := Lib.hid (andThen HB2.out hb3)
  clear hb3 HB2
  go_wp2_with fail
  refine (HRP.out w3 HB3.out).mono ?_
  rintro e w4 ⟨hb4, A7, c7, rfl, ho7⟩
  have HO5 := Lib.hid (own_below HO5.out hb4)
  have HO6 := Lib.hid (own_below HO6.out hb4)
  have HB4 := Lib.hid (andThen HB3.out hb4)
  have HO7 := Lib.hid ho7
  clear hb4 HB3 ho7
  go_wp2_with fail
  refine (same_own hTl HO5.out HO7.out).mono ?_
  rintro e w5 ⟨rfl, hb5⟩
  have HO5 := Lib.hid (own_below HO5.out hb5)
  have HO6 := Lib.hid (own_below HO6.out hb5)
  have HB5 := Lib.hid (andThen HB4.out hb5)
  clear hb5 HB4 HO7
  go_wp2_with fail
  refine (HRX.out w5 HB5.out).mono ?_
  rintro e w6 ⟨hb6, A7, c7, rfl, ho7⟩
  have HO5 := Lib.hid (own_below HO5.out hb6)
  have HO6 := Lib.hid (own_below HO6.out hb6)
  have HB6 := Lib.hid (andThen HB5.out hb6)
  have HO7 := Lib.hid ho7
  clear hb6 HB5 ho7
  go_wp2_with fail
  refine (same_own (by omega) HO6.out HO7.out).mono ?_
  rintro e w7 ⟨rfl, hb7⟩
  have HO5 := Lib.hid (own_below HO5.out hb7)
  have HO6 := Lib.hid (own_below HO6.out hb7)
  have HB7 := Lib.hid (andThen HB6.out hb7)
  clear hb7 HB6 HO7
  go_wp2_with fail
  have HLT := Lib.hid (show ∀ g, (Value.slice A5 T.length c5).ownBlock = some g → g < w1.heap.size from fun g hg => (HO50.out.lt g hg).2)
  have HLE := Lib.hid (HB1.out.size)
  generalize w1.heap.size = z1 at HLT HO6 HLE
  generalize T.map tv = xs0 at HO5
  generalize U.map tv = ys0 at HO6
  generalize hn : T.length = n at HO5 HLT ⊢
  generalize hm : U.length = m at HO6 ⊢
  have hnl : n ≤ 5000 := by omega
  have hml : m ≤ 1000 := by omega
  clear HO50 HB1 HSZ HRS hn hm
  go_loopw [7] (fun v7 wr => ∃ (k : Nat) (xs : List Value), k ≤ n ∧ v7 = .int .i64 (k : Int) ∧ wr.ownsRow w.heap.size 9 1 (.slice A5 n c5) n xs ∧ wr.ownsRow z1 9 1 (.slice A6 m c6) m ys0 ∧ Below w.heap.size w wr) (fun v7 _ => n - (intOf v7).toNat)
  case atStart => exact ⟨0, _, by omega, rfl, HO5.out, HO6.out, HB7.out⟩
  case round =>
    obtain ⟨k, xs, hk, rfl, h5, h6, hbw⟩ := hrel
    have H5 := Lib.hid h5
    have H6 := Lib.hid h6
    have HW := Lib.hid hbw
    clear h5 h6 hbw
    by_cases hlt : k < n
    · obtain ⟨x, hx⟩ := get_some (l := xs) (k := k) (by have := H5.out.1; omega)
      obtain ⟨g, c, e, hgl, hgb, hgc⟩ := own_cell H5.out hx
      injection e with e1 e2 e3
      subst e1
      have hgf := H5.out.frozenAt k
      have hki : (k : Int) < (n : Int) := by omega
      have HNX := Lib.hid (own_stored (k := k) (y := .string ⟨#[115, 112, 111, 105, 108, 116]⟩) H5.out H6.out (HLT.out g rfl))
      clear e3 hx
      go_wp2_with fail
      go_roundw
      case rel => exact ⟨k + 1, _, by omega, by go_num, HNX.out.1.choose_spec, HNX.out.2, below_set HW.out hgb _ _⟩
      case measure => simp [intOf]; omega
    · obtain rfl : k = n := by omega
      have hki : ¬ (k : Int) < (k : Int) := by omega
      clear HO5 HO6 HB7
      go_wp2_with fail
      go_loopw [8] (fun v8 wr => ∃ (j : Nat) (ys : List Value), j ≤ m ∧ v8 = .int .i64 (j : Int) ∧ wr.ownsRow z1 9 1 (.slice A6 m c6) m ys ∧ Below w.heap.size w wr) (fun v8 _ => m - (intOf v8).toNat)
      case atStart => exact ⟨0, _, by omega, rfl, H6.out, HW.out⟩
      case round =>
        obtain ⟨j, ys, hj, rfl, h6, hbw⟩ := hrel
        have H6 := Lib.hid h6
        have HW := Lib.hid hbw
        clear h6 hbw
        by_cases hlt2 : j < m
        · obtain ⟨x, hx⟩ := get_some (l := ys) (k := j) (by have := H6.out.1; omega)
          obtain ⟨g, c, e, hgl, hgb, hgc⟩ := own_cell H6.out hx
          injection e with e1 e2 e3
          subst e1
          have hgf := H6.out.frozenAt j
          have hji : (j : Int) < (m : Int) := by omega
          have HNX := Lib.hid (H6.out.stored j (.string ⟨#[115, 112, 111, 105, 108, 116]⟩)).1
          have hgw : w.heap.size ≤ g := Nat.le_trans HLE.out hgb
          clear e3 hx
          go_wp2_with fail
          go_roundw
          case rel => exact ⟨j + 1, _, by omega, by go_num, HNX.out, below_set HW.out hgw _ _⟩
          case measure => simp [intOf]; omega
        · obtain rfl : j = m := by omega
          have hji : ¬ (j : Int) < (j : Int) := by omega
          have HW9 := HW
          clear H5 H6 hlt2 hlt
          go_wp2_with fail
          refine (HP.out _ HW9.out).mono ?_
          rintro e w1 ⟨hb1, A5, c5, rfl, ho5⟩
          have HO5 := Lib.hid ho5
          have HB1 := Lib.hid (andThen HW9.out hb1)
          clear ho5 hb1
          go_wp2_with fail
          refine (HRP.out w1 HB1.out).mono ?_
          rintro e w2 ⟨hb2, A6, c6, rfl, ho6⟩
          have HO5 := Lib.hid (own_below HO5.out hb2)
          have HO6 := Lib.hid ho6
          have HB2 := Lib.hid (andThen HB1.out hb2)
          clear ho6 hb2 HB1
          go_wp2_with fail
          refine (same_own hTl HO5.out HO6.out).mono ?_
          rintro e w3 ⟨rfl, hb3⟩
          have HB3 := Lib.hid (andThen HB2.out hb3)
          clear hb3 HB2 HO5 HO6
          go_wp2_with fail
          refine (HX.out w3 HB3.out).mono ?_
          rintro e w4 ⟨hb4, A7, c7, rfl, ho7⟩
          have HO7 := Lib.hid ho7
          have HB4 := Lib.hid (andThen HB3.out hb4)
          clear ho7 hb4 HB3
          go_wp2_with fail
          refine (HRX.out w4 HB4.out).mono ?_
          rintro e w5 ⟨hb5, A8, c8, rfl, ho8⟩
          have HO7 := Lib.hid (own_below HO7.out hb5)
          have HO8 := Lib.hid ho8
          have HB5 := Lib.hid (andThen HB4.out hb5)
          clear ho8 hb5 HB4
          go_wp2_with fail
          refine (same_own (by omega) HO7.out HO8.out).mono ?_
          rintro e w6 ⟨rfl, hb6⟩
          have HB6 := Lib.hid (andThen HB5.out hb6)
          clear hb6 HB5 HO7 HO8
          go_wp2_with fail
          go_ret
          exact ⟨rfl, HB6.out⟩
end Go.Proofs.Ytmcekdjhkjhcdaa.Hy
end
section
namespace Go.Proofs.Ytmcekdjhkjhcdaa.Hy
open Go.ChangeShapes Go.WideShapes Go.ChangeAt Go.RowKit
open Me Hp
set_option linter.unusedVariables false
set_option linter.unusedSimpArgs false
/-- A slice of numbers in memory of the call's own. -/
def Rowed (w : World) (base : Nat) (A : Option Addr) (n c : Nat) : Prop := (A = none ∧ n = 0 ∧ c = 0) ∨ ∃ g o cs, A = some ⟨g, o, none⟩ ∧ Blk w g 3 cs ∧ o + c ≤ cs.size ∧ n ≤ c ∧ base ≤ g
theorem Rowed.below {w w' : World} {base n c : Nat} {A : Option Addr} (h : Rowed w base A n c) (hb : Below w.heap.size w w') : Rowed w' base A n c := by
  rcases h with h | ⟨g, o, cs, h1, h2, h3⟩
  · exact .inl h
  · exact .inr ⟨g, o, cs, h1, h2.below hb h2.lt, h3⟩
theorem Rowed.own {w : World} {base n c : Nat} {A : Option Addr} {xs : List Value} (h : w.ownsRow base 3 1 (.slice A n c) n xs) : Rowed w base A n c := by
  rcases h.2 with ⟨h1, h2⟩ | ⟨g, cap, cur, h', hb, hg, hnc, hcm, hcs, htake⟩
  · injection h1 with h1 _ h3
    exact .inl ⟨h1, h2, h3⟩
  · injection h' with h1 _ h3
    exact .inr ⟨g, 0, cur, h1, hg, by omega, by omega, hb⟩
theorem apart_of (w : World) (base b n c : Nat) (A : Option Addr) (hb : Blk w b 42 #[.slice A n c]) (h : Rowed w base A n c) (hn : n ≤ 1000) (hB : base ≤ w.heap.size) :
    Calls Try.prog 89 #[.slice (some ⟨b, 0, none⟩) 1 1] w fun e w' => e = .returned (.bool true) ∧ Below base w w' := by
  rcases h with ⟨rfl, rfl, rfl⟩ | ⟨g, o, cs, rfl, h2, h3, h4, h5⟩
  · refine (apart_nil b w hb.lt ((hb.cell 0).trans rfl)).mono ?_
    rintro e w' ⟨rfl, h6⟩
    exact ⟨rfl, h6.mono hB⟩
  · exact apart_at w base b g o n c cs hb h2 h3 h4 hn hB h5
def valR (P : List Pt) (s : ByteArray) : List Int := if wordB s.data.toList = true then vals P s.data.toList else []
def valE (s : ByteArray) : Int := if wordB s.data.toList = true then 0 else 70
theorem valR_len (P : List Pt) (s : ByteArray) : (valR P s).length ≤ 63 := by
  unfold valR
  split
  · rename_i h
    obtain ⟨_, h2, _⟩ := wordB_is h
    rw [vals_len]
    omega
  · simp
theorem ptsX_len {X : List Xc} (hX : Exs X) (P : List Pt) (l : Nm) (a b : Int) : (ptsX P X l a b).length ≤ 63 := by
  unfold ptsX
  split
  · rename_i h
    refine Nat.le_trans (List.length_filter_le _ _) ?_
    unfold ptsB
    split
    · rename_i h2
      obtain ⟨x, hx, _⟩ := xhas_at h2
      rw [hx]
      exact x_few (hX.is x (List.mem_of_getElem? hx))
    · have := pts_len (vals P l) (l.length - 1)
      have := (wordB_is h.1).2.1
      omega
  · simp
/-- An answer of numbers. -/
def Nums (R : List Int) (E : Int) (w : World) (e : Ending) (w' : World) : Prop := Below w.heap.size w w' ∧ ∃ A c, e = .returned (.tuple #[.slice A R.length c, .int .i64 E]) ∧ Seg w' w'.heap.size A (R.map iv) ∧ Rowed w' w.heap.size A R.length c
section
variable {w : World} {B p q : Nat} {P L X Y : List Xc} {v xv pv yv : Value}
theorem vrow_size (P : List Pt) (l : Nm) : (arr (vrow P l)).size = l.length + 3 := by unfold arr vrow; simp [row0_len]
theorem nums_vals {P : List Pt} {s : ByteArray} {w w' : World} (hw : wordB s.data.toList = true) (hb : Blk w' w.heap.size 3 (arr (vrow P s.data.toList))) (hl : Below w.heap.size w w') : Nums (valR P s) (valE s) w (.returned (.tuple #[.slice (some ⟨w.heap.size, 2, none⟩) (s.size - 1) (s.size + 1), .int .i64 0])) w' := by
  have e : (valR P s).length = s.size - 1 := by unfold valR; rw [if_pos hw, vals_len, size_list]
  refine ⟨hl, some ⟨w.heap.size, 2, none⟩, s.size + 1, ?_, ?_, .inr ⟨w.heap.size, 2, _, rfl, hb, ?_, ?_, Nat.le_refl _⟩⟩
  · rw [e]; unfold valE; rw [if_pos hw]
  · have := seg_vals hb
    unfold valR
    rw [if_pos hw]
    exact this
  · rw [vrow_size, size_list]; omega
  · omega
theorem Three.values (h : Three w B p q P L X Y v xv pv yv) (hb : Both P L) (s : ByteArray) (hs : s.size ≤ 1048576) : Calls Try.prog 22 #[.pointer (some ⟨p, 0, none⟩), .string s] w (Nums (valR L s) (valE s) w) := by
  have e0 : valR L s = valR P s := by unfold valR; rw [hb.vals]
  rw [e0]
  cases hw : wordB s.data.toList
  · refine (Values_bad B p P v xv s w hs hw h.hy).mono ?_
    rintro e w' ⟨rfl, rfl⟩
    unfold valR valE
    rw [hw]
    exact ⟨Below.refl _ _, none, 0, rfl, .inl rfl, .inl ⟨rfl, rfl, rfl⟩⟩
  · refine (Values_ok B p P v xv s w hs hw h.hy).mono ?_
    rintro e w' ⟨rfl, h1, h2⟩
    exact nums_vals hw h1 h2
theorem Three.rvalues (h : Three w B p q P L X Y v xv pv yv) (hb : Both P L) (s : ByteArray) (hs : s.size ≤ 1048576) : Calls Try.prog 88 #[.pointer (some ⟨q, 0, none⟩), .string s] w (Nums (valR L s) (valE s) w) := by
  cases hw : wordB s.data.toList
  · refine (rvalues_bad q s w hs hw).mono ?_
    rintro e w' ⟨rfl, rfl⟩
    unfold valR valE
    rw [hw]
    exact ⟨Below.refl _ _, none, 0, rfl, .inl rfl, .inl ⟨rfl, rfl, rfl⟩⟩
  · refine (rvalues_ok B q L Y pv yv s w hs hw h.da hb.patl).mono ?_
    rintro e w' ⟨rfl, h1, h2⟩
    exact nums_vals hw h1 h2
theorem nums_own {R : List Int} {E : Int} {w w' : World} {u : Value} (hl : Below w.heap.size w w') (ho : w'.ownsRow w.heap.size 3 1 u R.length (R.map iv)) : Nums R E w (.returned (.tuple #[u, .int .i64 E])) w' := by
  obtain ⟨A, c, rfl, _, _, hs⟩ := Seg.of_own ho
  exact ⟨hl, A, c, rfl, hs, Rowed.own ho⟩
theorem Three.points (h : Three w B p q P L X Y v xv pv yv) (hb : Both P L) (s : ByteArray) (a b : Int) (hs : s.size ≤ 1048576) : Calls Try.prog 27 #[.pointer (some ⟨p, 0, none⟩), .string s, .int .i64 a, .int .i64 b] w (Nums (ptsX L X s.data.toList a b) (ptsE s.data.toList a b) w) := by
  refine (Points_any B p P X v xv s a b w hs h.hy h.xa).mono ?_
  rintro e w' ⟨h1, u, rfl, h2⟩
  rw [hb.pts] at h2
  exact nums_own h1 h2
theorem Three.rpoints (h : Three w B p q P L X X v xv pv yv) (hb : Both P L) (s : ByteArray) (a b : Int) (hs : s.size ≤ 1048576) : Calls Try.prog 90 #[.pointer (some ⟨q, 0, none⟩), .string s, .int .i64 a, .int .i64 b] w (Nums (ptsX L X s.data.toList a b) (ptsE s.data.toList a b) w) := by
  refine (rpoints_any B q L X pv yv s a b w hs h.da hb.patl h.xa.ex).mono ?_
  rintro e w' ⟨h1, u, rfl, h2⟩
  exact nums_own h1 h2
end
theorem Three.drawn {w : World} {B p q : Nat} {P L X Y : List Xc} {v xv pv yv : Value} (h : Three w B p q P L X Y v xv pv yv) : Three w.drew B p q P L X Y v xv pv yv := h.below (below_drewN (Below.refl _ _) 1)
theorem Stp.drawn {w w' : World} {B p q : Nat} {v xv yv v' xv' yv' : Value} (h : Stp w w' B p q v xv yv v' xv' yv') : Stp w w'.drew B p q v xv yv v' xv' yv' := ⟨below_drewN h.low 1, h.same, h.av, h.ax, h.ay⟩
/-- What a question leaves. -/
def Asked (w : World) (B p q : Nat) (v xv yv : Value) (e : Ending) (w' : World) : Prop :=
  e = .returned (.bool true) ∧ ∃ P' L' X' v' xv' pv' yv', Both P' L' ∧ Three w' B p q P' L' X' X' v' xv' pv' yv' ∧ Stp w w' B p q v xv yv v' xv' yv'
def opC (k : Int) (t : ByteArray) (a b : Int) : Array Value := #[.int .i64 k, .string t, .int .i64 a, .int .i64 b]
set_option maxHeartbeats 4000000 in
set_option maxRecDepth 100000 in
theorem asks_one (B p q : Nat) (P L X : List Xc) (v xv pv yv : Value) (t : ByteArray) (lf rt : Int) (w : World) (ht : t.size ≤ 1048576) (hB : B ≤ w.heap.size) (hb : Both P L) (h : Three w B p q P L X X v xv pv yv) :
    Calls Try.prog 50 #[.pointer (some ⟨p, 0, none⟩), .pointer (some ⟨q, 0, none⟩), .agg (opC 1 t lf rt)] w (Asked w B p q v xv yv) := by
  have HB := Lib.hid hb
  have hlow0 : Below w.heap.size w (w.alloc (.cells (opC 1 t lf rt) 100)) := andAlloc (Below.refl _ _) _
  have HS0 := Lib.hid (Stp.of_below B p q v xv yv hB hlow0)
  have HT := Lib.hid (h.below hlow0)
  have HO := Lib.hid (Blk.new w 100 (opC 1 t lf rt))
  have h0 : Exs X := h.xa.ex
  have HZ := Lib.hid (show B ≤ (w.alloc (.cells (opC 1 t lf rt) 100)).heap.size by simp; omega)
  clear h hlow0
  go_enter Try.func50, Try.ntmps50
  go_upto_region 1 with fail
  generalize hW : w.alloc (.cells (opC 1 t lf rt) 100) = W at *
  generalize w.heap.size = b0 at HO ⊢
  clear hW
  have c0 : W.cell? ⟨b0, 0, none⟩ = some (.int .i64 1) := (HO.out.cell 0).trans rfl
  have cl := HO.out.lt
  go_upto_region 3 with fail
  refine wp_region_held_drew (S := fun w' => Blk w' b0 100 (opC 1 t lf rt)) (by kernel_rfl) (HO.out.drewN 1) (fun hH => ?_)
  refine take_lit (i := 0) (v := (.pointer (some ⟨p, 0, none⟩))) (by kernel_rfl) (by kernel_rfl) (by kernel_rfl) (by kernel_rfl) (fun _ _ _ _ h => h) hH (fun oi hoi => ?_)
  simp only [List.getElem?_toArray, List.getElem?_cons_succ, List.getElem?_cons_zero, Option.some.injEq] at hoi
  subst hoi
  refine ⟨.inl ⟨by rfl, fun w hSw => ?_⟩, ?_⟩
  · first | (go_simp; done) | (go_simp; with_reducible rfl) | (have c1 := Blk.cell hSw 1; have cl := Blk.lt hSw; simp only [opC] at c1; go_simp; done)
  simp only [Act.put, List.setIfInBounds_toArray, List.set_cons_zero, List.set_cons_succ]
  refine take_lit (i := 1) (v := (.pointer (some ⟨b0, 1, none⟩))) (by kernel_rfl) (by kernel_rfl) (by kernel_rfl) (by kernel_rfl) (fun _ _ _ _ h => h) hH (fun oi hoi => ?_)
  simp only [List.getElem?_toArray, List.getElem?_cons_succ, List.getElem?_cons_zero, Option.some.injEq] at hoi
  subst hoi
  refine ⟨.inl ⟨by rfl, fun w hSw => ?_⟩, ?_⟩
  · first | (go_simp; done) | (go_simp; with_reducible rfl) | (have c1 := Blk.cell hSw 1; have cl := Blk.lt hSw; simp only [opC] at c1; go_simp; done)
  simp only [Act.put, List.setIfInBounds_toArray, List.set_cons_zero, List.set_cons_succ]
  refine take_lit (i := 2) (v := (.string t)) (by kernel_rfl) (by kernel_rfl) (by kernel_rfl) (by kernel_rfl) (fun _ _ _ _ h => h) hH (fun oi hoi => ?_)
  simp only [List.getElem?_toArray, List.getElem?_cons_succ, List.getElem?_cons_zero, Option.some.injEq] at hoi
  subst hoi
  refine ⟨.inl ⟨by rfl, fun w hSw => ?_⟩, ?_⟩
  · first | (go_simp; done) | (go_simp; with_reducible rfl) | (have c1 := Blk.cell hSw 1; have cl := Blk.lt hSw; simp only [opC] at c1; go_simp; done)
  simp only [Act.put, List.setIfInBounds_toArray, List.set_cons_zero, List.set_cons_succ]
  refine take_lit (i := 5) (v := (.pointer (some ⟨q, 0, none⟩))) (by kernel_rfl) (by kernel_rfl) (by kernel_rfl) (by kernel_rfl) (fun _ _ _ _ h => h) hH (fun oi hoi => ?_)
  simp only [List.getElem?_toArray, List.getElem?_cons_succ, List.getElem?_cons_zero, Option.some.injEq] at hoi
  subst hoi
  refine ⟨.inl ⟨by rfl, fun w hSw => ?_⟩, ?_⟩
  · first | (go_simp; done) | (go_simp; with_reducible rfl) | (have c1 := Blk.cell hSw 1; have cl := Blk.lt hSw; simp only [opC] at c1; go_simp; done)
  simp only [Act.put, List.setIfInBounds_toArray, List.set_cons_zero, List.set_cons_succ]
  refine take_lit (i := 6) (v := (.pointer (some ⟨b0, 1, none⟩))) (by kernel_rfl) (by kernel_rfl) (by kernel_rfl) (by kernel_rfl) (fun _ _ _ _ h => h) hH (fun oi hoi => ?_)
  simp only [List.getElem?_toArray, List.getElem?_cons_succ, List.getElem?_cons_zero, Option.some.injEq] at hoi
  subst hoi
  refine ⟨.inl ⟨by rfl, fun w hSw => ?_⟩, ?_⟩
  · first | (go_simp; done) | (go_simp; with_reducible rfl) | (have c1 := Blk.cell hSw 1; have cl := Blk.lt hSw; simp only [opC] at c1; go_simp; done)
  simp only [Act.put, List.setIfInBounds_toArray, List.set_cons_zero, List.set_cons_succ]
  refine take_lit (i := 7) (v := (.string t)) (by kernel_rfl) (by kernel_rfl) (by kernel_rfl) (by kernel_rfl) (fun _ _ _ _ h => h) hH (fun oi hoi => ?_)
  simp only [List.getElem?_toArray, List.getElem?_cons_succ, List.getElem?_cons_zero, Option.some.injEq] at hoi
  subst hoi
  refine ⟨.inl ⟨by rfl, fun w hSw => ?_⟩, ?_⟩
  · first | (go_simp; done) | (go_simp; with_reducible rfl) | (have c1 := Blk.cell hSw 1; have cl := Blk.lt hSw; simp only [opC] at c1; go_simp; done)
  simp only [Act.put, List.setIfInBounds_toArray, List.set_cons_zero, List.set_cons_succ]
  refine wpAnyH_ready (rs := [3]) (by kernel_rfl) (by simp) (AllReadyH.cons rfl (fun K hK => ?_) AllReadyH.nil)
  go_simp
  go_wp2_with fail
  refine (pattern_any B p P v xv t W.drew ht HT.out.drawn.hy).mono ?_
  intro e w1 hp
  obtain rfl := hp.1
  obtain ⟨u1, ht1, hs1⟩ := HT.out.drawn.pat hp
  have HT1 := Lib.hid ht1
  have HS1 := Lib.hid (HS0.out.drawn.trans hs1)
  have hO1 := hs1.block (HT.out.drawn) hH (by decide) (by decide) (by decide) (by decide) (by decide)
  have HZ1 := Lib.hid (Nat.le_trans HZ.out hp.2.1.size)
  clear hp ht1 hs1
  refine hK.out _ _ hO1 (fun hH1 => ?_)
  try simp only [Act.put, List.setIfInBounds_toArray, List.set_cons_zero, List.set_cons_succ]
  clear hK K
  refine wpAnyH_ready (rs := [4]) (by kernel_rfl) (by simp) (AllReadyH.cons rfl (fun K hK => ?_) AllReadyH.nil)
  go_simp
  go_wp2_with fail
  refine (num_any _ _).mono ?_
  rintro e w1 ⟨rfl, rfl⟩
  refine hK.out _ _ hH1 (fun hH2 => ?_)
  try simp only [Act.put, List.setIfInBounds_toArray, List.set_cons_zero, List.set_cons_succ]
  clear hK K
  refine wpAnyH_ready (rs := [8]) (by kernel_rfl) (by simp) (AllReadyH.cons rfl (fun K hK => ?_) AllReadyH.nil)
  go_simp
  go_wp2_with fail
  have hq := rpattern_any B q L X pv yv t w1 ht HT1.out.da HB.out.sor HZ1.out HB.out.patl.few
  rw [HB.out.tellE] at hq
  refine hq.mono ?_
  clear hq
  rintro e w2 ⟨rfl, hp⟩
  obtain ⟨pv2, yv2, ht2, hs2⟩ := HT1.out.doc hp
  have HT2 := Lib.hid ht2
  have HS2 := Lib.hid (HS1.out.trans hs2)
  have hO2 := hs2.block HT1.out hH2 (by decide) (by decide) (by decide) (by decide) (by decide)
  clear hp ht2 hs2
  refine hK.out _ _ hO2 (fun hH3 => ?_)
  try simp only [Act.put, List.setIfInBounds_toArray, List.set_cons_zero, List.set_cons_succ]
  clear hK K
  refine take_lit (i := 9) (v := (.bool true)) (by kernel_rfl) (by kernel_rfl) (by kernel_rfl) (by kernel_rfl) (fun _ _ _ _ h => h) hH3 (fun oi hoi => ?_)
  simp only [List.getElem?_toArray, List.getElem?_cons_succ, List.getElem?_cons_zero, Option.some.injEq] at hoi
  subst hoi
  refine ⟨.inl ⟨by rfl, fun w hSw => ?_⟩, ?_⟩
  · first | (go_simp; done) | (go_simp; with_reducible rfl) | (have c1 := Blk.cell hSw 1; have cl := Blk.lt hSw; simp only [opC] at c1; go_simp; done)
  simp only [Act.put, List.setIfInBounds_toArray, List.set_cons_zero, List.set_cons_succ]
  refine take_lit (i := 10) (v := (.bool true)) (by kernel_rfl) (by kernel_rfl) (by kernel_rfl) (by kernel_rfl) (fun _ _ _ _ h => h) hH3 (fun oi hoi => ?_)
  simp only [List.getElem?_toArray, List.getElem?_cons_succ, List.getElem?_cons_zero, Option.some.injEq] at hoi
  subst hoi
  refine ⟨.inl ⟨by rfl, fun w hSw => ?_⟩, ?_⟩
  · first | (go_simp; done) | (go_simp; with_reducible rfl) | (have c1 := Blk.cell hSw 1; have cl := Blk.lt hSw; simp only [opC] at c1; go_simp; done)
  simp only [Act.put, List.setIfInBounds_toArray, List.set_cons_zero, List.set_cons_succ]
  refine wpAnyH_done (by kernel_rfl) ?_ _
  clear hH hH1 hH2
  go_simp
  go_wp2_with fail
  go_ret
  exact ⟨rfl, _, _, _, _, _, _, _, HB.out.tell t.data.toList, HT2.out, HS2.out⟩
set_option maxHeartbeats 4000000 in
set_option maxRecDepth 100000 in
theorem asks_two (B p q : Nat) (P L X : List Xc) (v xv pv yv : Value) (t : ByteArray) (lf rt : Int) (w : World) (ht : t.size ≤ 1048576) (hB : B ≤ w.heap.size) (hb : Both P L) (h : Three w B p q P L X X v xv pv yv) :
    Calls Try.prog 50 #[.pointer (some ⟨p, 0, none⟩), .pointer (some ⟨q, 0, none⟩), .agg (opC 2 t lf rt)] w (Asked w B p q v xv yv) := by
  have HB := Lib.hid hb
  have hlow0 : Below w.heap.size w (w.alloc (.cells (opC 2 t lf rt) 100)) := andAlloc (Below.refl _ _) _
  have HS0 := Lib.hid (Stp.of_below B p q v xv yv hB hlow0)
  have HT := Lib.hid (h.below hlow0)
  have HO := Lib.hid (Blk.new w 100 (opC 2 t lf rt))
  have h0 : Exs X := h.xa.ex
  have HZ := Lib.hid (show B ≤ (w.alloc (.cells (opC 2 t lf rt) 100)).heap.size by simp; omega)
  clear h hlow0
  go_enter Try.func50, Try.ntmps50
  go_upto_region 1 with fail
  generalize hW : w.alloc (.cells (opC 2 t lf rt) 100) = W at *
  generalize w.heap.size = b0 at HO ⊢
  clear hW
  have c0 : W.cell? ⟨b0, 0, none⟩ = some (.int .i64 2) := (HO.out.cell 0).trans rfl
  have cl := HO.out.lt
  go_upto_region 5 with fail
  refine wp_region_held_drew (S := fun w' => Blk w' b0 100 (opC 2 t lf rt)) (by kernel_rfl) (HO.out.drewN 1) (fun hH => ?_)
  refine take_lit (i := 0) (v := (.pointer (some ⟨p, 0, none⟩))) (by kernel_rfl) (by kernel_rfl) (by kernel_rfl) (by kernel_rfl) (fun _ _ _ _ h => h) hH (fun oi hoi => ?_)
  simp only [List.getElem?_toArray, List.getElem?_cons_succ, List.getElem?_cons_zero, Option.some.injEq] at hoi
  subst hoi
  refine ⟨.inl ⟨by rfl, fun w hSw => ?_⟩, ?_⟩
  · first | (go_simp; done) | (go_simp; with_reducible rfl) | (have c1 := Blk.cell hSw 1; have cl := Blk.lt hSw; simp only [opC] at c1; go_simp; done)
  simp only [Act.put, List.setIfInBounds_toArray, List.set_cons_zero, List.set_cons_succ]
  refine take_lit (i := 1) (v := (.pointer (some ⟨b0, 1, none⟩))) (by kernel_rfl) (by kernel_rfl) (by kernel_rfl) (by kernel_rfl) (fun _ _ _ _ h => h) hH (fun oi hoi => ?_)
  simp only [List.getElem?_toArray, List.getElem?_cons_succ, List.getElem?_cons_zero, Option.some.injEq] at hoi
  subst hoi
  refine ⟨.inl ⟨by rfl, fun w hSw => ?_⟩, ?_⟩
  · first | (go_simp; done) | (go_simp; with_reducible rfl) | (have c1 := Blk.cell hSw 1; have cl := Blk.lt hSw; simp only [opC] at c1; go_simp; done)
  simp only [Act.put, List.setIfInBounds_toArray, List.set_cons_zero, List.set_cons_succ]
  refine take_lit (i := 2) (v := (.string t)) (by kernel_rfl) (by kernel_rfl) (by kernel_rfl) (by kernel_rfl) (fun _ _ _ _ h => h) hH (fun oi hoi => ?_)
  simp only [List.getElem?_toArray, List.getElem?_cons_succ, List.getElem?_cons_zero, Option.some.injEq] at hoi
  subst hoi
  refine ⟨.inl ⟨by rfl, fun w hSw => ?_⟩, ?_⟩
  · first | (go_simp; done) | (go_simp; with_reducible rfl) | (have c1 := Blk.cell hSw 1; have cl := Blk.lt hSw; simp only [opC] at c1; go_simp; done)
  simp only [Act.put, List.setIfInBounds_toArray, List.set_cons_zero, List.set_cons_succ]
  refine take_lit (i := 5) (v := (.pointer (some ⟨q, 0, none⟩))) (by kernel_rfl) (by kernel_rfl) (by kernel_rfl) (by kernel_rfl) (fun _ _ _ _ h => h) hH (fun oi hoi => ?_)
  simp only [List.getElem?_toArray, List.getElem?_cons_succ, List.getElem?_cons_zero, Option.some.injEq] at hoi
  subst hoi
  refine ⟨.inl ⟨by rfl, fun w hSw => ?_⟩, ?_⟩
  · first | (go_simp; done) | (go_simp; with_reducible rfl) | (have c1 := Blk.cell hSw 1; have cl := Blk.lt hSw; simp only [opC] at c1; go_simp; done)
  simp only [Act.put, List.setIfInBounds_toArray, List.set_cons_zero, List.set_cons_succ]
  refine take_lit (i := 6) (v := (.pointer (some ⟨b0, 1, none⟩))) (by kernel_rfl) (by kernel_rfl) (by kernel_rfl) (by kernel_rfl) (fun _ _ _ _ h => h) hH (fun oi hoi => ?_)
  simp only [List.getElem?_toArray, List.getElem?_cons_succ, List.getElem?_cons_zero, Option.some.injEq] at hoi
  subst hoi
  refine ⟨.inl ⟨by rfl, fun w hSw => ?_⟩, ?_⟩
  · first | (go_simp; done) | (go_simp; with_reducible rfl) | (have c1 := Blk.cell hSw 1; have cl := Blk.lt hSw; simp only [opC] at c1; go_simp; done)
  simp only [Act.put, List.setIfInBounds_toArray, List.set_cons_zero, List.set_cons_succ]
  refine take_lit (i := 7) (v := (.string t)) (by kernel_rfl) (by kernel_rfl) (by kernel_rfl) (by kernel_rfl) (fun _ _ _ _ h => h) hH (fun oi hoi => ?_)
  simp only [List.getElem?_toArray, List.getElem?_cons_succ, List.getElem?_cons_zero, Option.some.injEq] at hoi
  subst hoi
  refine ⟨.inl ⟨by rfl, fun w hSw => ?_⟩, ?_⟩
  · first | (go_simp; done) | (go_simp; with_reducible rfl) | (have c1 := Blk.cell hSw 1; have cl := Blk.lt hSw; simp only [opC] at c1; go_simp; done)
  simp only [Act.put, List.setIfInBounds_toArray, List.set_cons_zero, List.set_cons_succ]
  refine wpAnyH_ready (rs := [3]) (by kernel_rfl) (by simp) (AllReadyH.cons rfl (fun K hK => ?_) AllReadyH.nil)
  go_simp
  go_wp2_with fail
  refine (except_any B p P X v xv t W.drew ht HT.out.drawn.hy HT.out.drawn.xa HZ.out (fun x _ _ => ins_any X x)).mono ?_
  intro e w1 hp
  obtain rfl := hp.1
  obtain ⟨u1, ht1, hs1⟩ := HT.out.drawn.exc hp.2
  have HT1 := Lib.hid ht1
  have HS1 := Lib.hid (HS0.out.drawn.trans hs1)
  have hO1 := hs1.block (HT.out.drawn) hH (by decide) (by decide) (by decide) (by decide) (by decide)
  have HZ1 := Lib.hid (Nat.le_trans HZ.out hp.2.low.size)
  clear hp ht1 hs1
  refine hK.out _ _ hO1 (fun hH1 => ?_)
  try simp only [Act.put, List.setIfInBounds_toArray, List.set_cons_zero, List.set_cons_succ]
  clear hK K
  refine wpAnyH_ready (rs := [4]) (by kernel_rfl) (by simp) (AllReadyH.cons rfl (fun K hK => ?_) AllReadyH.nil)
  go_simp
  go_wp2_with fail
  refine (num_any _ _).mono ?_
  rintro e w1 ⟨rfl, rfl⟩
  refine hK.out _ _ hH1 (fun hH2 => ?_)
  try simp only [Act.put, List.setIfInBounds_toArray, List.set_cons_zero, List.set_cons_succ]
  clear hK K
  refine wpAnyH_ready (rs := [8]) (by kernel_rfl) (by simp) (AllReadyH.cons rfl (fun K hK => ?_) AllReadyH.nil)
  go_simp
  go_wp2_with fail
  have hq := rexcept_any B q L X pv yv t w1 ht HT1.out.da HT.out.xa.ex.sor HZ1.out HT.out.xa.ex.few
  refine hq.mono ?_
  clear hq
  rintro e w2 ⟨rfl, hp⟩
  obtain ⟨pv2, yv2, ht2, hs2⟩ := HT1.out.doc hp
  have HT2 := Lib.hid ht2
  have HS2 := Lib.hid (HS1.out.trans hs2)
  have hO2 := hs2.block HT1.out hH2 (by decide) (by decide) (by decide) (by decide) (by decide)
  clear hp ht2 hs2
  refine hK.out _ _ hO2 (fun hH3 => ?_)
  try simp only [Act.put, List.setIfInBounds_toArray, List.set_cons_zero, List.set_cons_succ]
  clear hK K
  refine take_lit (i := 9) (v := (.bool true)) (by kernel_rfl) (by kernel_rfl) (by kernel_rfl) (by kernel_rfl) (fun _ _ _ _ h => h) hH3 (fun oi hoi => ?_)
  simp only [List.getElem?_toArray, List.getElem?_cons_succ, List.getElem?_cons_zero, Option.some.injEq] at hoi
  subst hoi
  refine ⟨.inl ⟨by rfl, fun w hSw => ?_⟩, ?_⟩
  · first | (go_simp; done) | (go_simp; with_reducible rfl) | (have c1 := Blk.cell hSw 1; have cl := Blk.lt hSw; simp only [opC] at c1; go_simp; done)
  simp only [Act.put, List.setIfInBounds_toArray, List.set_cons_zero, List.set_cons_succ]
  refine take_lit (i := 10) (v := (.bool true)) (by kernel_rfl) (by kernel_rfl) (by kernel_rfl) (by kernel_rfl) (fun _ _ _ _ h => h) hH3 (fun oi hoi => ?_)
  simp only [List.getElem?_toArray, List.getElem?_cons_succ, List.getElem?_cons_zero, Option.some.injEq] at hoi
  subst hoi
  refine ⟨.inl ⟨by rfl, fun w hSw => ?_⟩, ?_⟩
  · first | (go_simp; done) | (go_simp; with_reducible rfl) | (have c1 := Blk.cell hSw 1; have cl := Blk.lt hSw; simp only [opC] at c1; go_simp; done)
  simp only [Act.put, List.setIfInBounds_toArray, List.set_cons_zero, List.set_cons_succ]
  refine wpAnyH_done (by kernel_rfl) ?_ _
  clear hH hH1 hH2
  go_simp
  go_wp2_with fail
  go_ret
  exact ⟨rfl, _, _, _, _, _, _, _, HB.out, HT2.out, HS2.out⟩
set_option maxHeartbeats 4000000 in
set_option maxRecDepth 100000 in
theorem asks_three (B p q : Nat) (P L X : List Xc) (v xv pv yv : Value) (t : ByteArray) (lf rt : Int) (w : World) (ht : t.size ≤ 1048576) (hB : B ≤ w.heap.size) (hb : Both P L) (h : Three w B p q P L X X v xv pv yv) :
    Calls Try.prog 50 #[.pointer (some ⟨p, 0, none⟩), .pointer (some ⟨q, 0, none⟩), .agg (opC 3 t lf rt)] w (Asked w B p q v xv yv) := by
  have HB := Lib.hid hb
  have hlow0 : Below w.heap.size w (w.alloc (.cells (opC 3 t lf rt) 100)) := andAlloc (Below.refl _ _) _
  have HS0 := Lib.hid (Stp.of_below B p q v xv yv hB hlow0)
  have HT := Lib.hid (h.below hlow0)
  have HO := Lib.hid (Blk.new w 100 (opC 3 t lf rt))
  have h0 : Exs X := h.xa.ex
  have HZ := Lib.hid (show B ≤ (w.alloc (.cells (opC 3 t lf rt) 100)).heap.size by simp; omega)
  clear h hlow0
  have HVL := Lib.hid (show (valR L t).length ≤ 63 from valR_len L t)
  have HVP := Lib.hid (fun W (h : Three W B p q P L X X v xv pv yv) => h.values HB.out t ht)
  have HVD := Lib.hid (fun W (h : Three W B p q P L X X v xv pv yv) => h.rvalues HB.out t ht)
  generalize valR L t = R at *
  generalize valE t = E at *
  clear hb
  go_enter Try.func50, Try.ntmps50
  go_upto_region 1 with fail
  generalize hW : w.alloc (.cells (opC 3 t lf rt) 100) = W at *
  generalize w.heap.size = b0 at HO ⊢
  clear hW
  have c0 : W.cell? ⟨b0, 0, none⟩ = some (.int .i64 3) := (HO.out.cell 0).trans rfl
  have cl := HO.out.lt
  have c1 : W.cell? ⟨b0, 1, none⟩ = some (.string t) := (HO.out.cell 1).trans rfl
  have c2 : W.cell? ⟨b0, 2, none⟩ = some (.int .i64 lf) := (HO.out.cell 2).trans rfl
  have c3 : W.cell? ⟨b0, 3, none⟩ = some (.int .i64 rt) := (HO.out.cell 3).trans rfl
  go_wp2_with fail
  refine (HVP.out W HT.out).mono ?_
  rintro e w1 ⟨hb1, A1, n1, rfl, hs1, hr1⟩
  have HT1 := Lib.hid (HT.out.below hb1)
  have HB1 := Lib.hid hb1
  have HO1 := Lib.hid (HO.out.below hb1 HO.out.lt)
  have HR1 := Lib.hid (And.intro hs1 hr1)
  clear hb1 hs1 hr1 c0 c1 c2 c3 cl
  have c1 : w1.cell? ⟨b0, 1, none⟩ = some (.string t) := (HO1.out.cell 1).trans rfl
  have c2 : w1.cell? ⟨b0, 2, none⟩ = some (.int .i64 lf) := (HO1.out.cell 2).trans rfl
  have c3 : w1.cell? ⟨b0, 3, none⟩ = some (.int .i64 rt) := (HO1.out.cell 3).trans rfl
  have cl := HO1.out.lt
  go_wp2_with fail
  refine (HVD.out w1 HT1.out).mono ?_
  rintro e w2 ⟨hb2, A2, n2, rfl, hs2, hr2⟩
  have HT2 := Lib.hid (HT1.out.below hb2)
  have HB2 := Lib.hid (andThen HB1.out hb2)
  have HR2 := Lib.hid (And.intro ((HR1.out.1.below hb2).more hb2.size) (And.intro (HR1.out.2.below hb2) hs2))
  clear hb2 hs2 hr2 c1 c2 c3 cl HO1 HR1 HT1 HB1 HVP HVD
  go_wp2_with fail
  have hsi := same_ints A1 A2 R R n1 n2 w2 (by have := HVL.out; omega) (by have := HVL.out; omega) HR2.out.1 HR2.out.2.2
  rw [decide_eq_true rfl] at hsi
  refine hsi.mono ?_
  clear hsi
  rintro e w3 ⟨rfl, hb3⟩
  have HT3 := Lib.hid (HT2.out.below hb3)
  have HB3 := Lib.hid (andThen HB2.out hb3)
  have HR3 := Lib.hid (HR2.out.2.1.below hb3)
  clear hb3 HT2 HR2 HB2
  go_wp2_with (go_at_call 23; refine (num_any _ _).mono ?_; rintro e w3 ⟨rfl, rfl⟩)
  have hb4 := andAlloc (Below.refl w3.heap.size w3) (.cells #[.slice A1 R.length n1] 42)
  have HT4 := Lib.hid (HT3.out.below hb4)
  have HB4 := Lib.hid (andThen HB3.out hb4)
  have HR4 := Lib.hid (HR3.out.below hb4)
  have hs4 : W.heap.size ≤ (w3.alloc (.cells #[.slice A1 R.length n1] 42)).heap.size := HB4.out.size
  refine (apart_of _ W.heap.size w3.heap.size R.length n1 A1 (Blk.new _ _ _) HR4.out (by have := HVL.out; omega) hs4).mono ?_
  rintro e w5 ⟨rfl, hb5⟩
  have HT5 := Lib.hid (HT.out.below (HB4.out.trans hb5))
  have HS5 := Lib.hid (HS0.out.trans (Stp.of_below B p q v xv yv HZ.out (HB4.out.trans hb5)))
  clear hb5 hb4 hs4
  go_wp2_with fail
  go_ret
  exact ⟨rfl, P, L, X, v, xv, pv, yv, HB.out, HT5.out, HS5.out⟩
set_option maxHeartbeats 4000000 in
set_option maxRecDepth 100000 in
theorem asks_four (B p q : Nat) (P L X : List Xc) (v xv pv yv : Value) (t : ByteArray) (lf rt : Int) (w : World) (ht : t.size ≤ 1048576) (hB : B ≤ w.heap.size) (hb : Both P L) (h : Three w B p q P L X X v xv pv yv) :
    Calls Try.prog 50 #[.pointer (some ⟨p, 0, none⟩), .pointer (some ⟨q, 0, none⟩), .agg (opC 4 t lf rt)] w (Asked w B p q v xv yv) := by
  have HB := Lib.hid hb
  have hlow0 : Below w.heap.size w (w.alloc (.cells (opC 4 t lf rt) 100)) := andAlloc (Below.refl _ _) _
  have HS0 := Lib.hid (Stp.of_below B p q v xv yv hB hlow0)
  have HT := Lib.hid (h.below hlow0)
  have HO := Lib.hid (Blk.new w 100 (opC 4 t lf rt))
  have h0 : Exs X := h.xa.ex
  have HZ := Lib.hid (show B ≤ (w.alloc (.cells (opC 4 t lf rt) 100)).heap.size by simp; omega)
  clear h hlow0
  have HVL := Lib.hid (show (ptsX L X t.data.toList lf rt).length ≤ 63 from ptsX_len h0 L t.data.toList lf rt)
  have HVP := Lib.hid (fun W (h : Three W B p q P L X X v xv pv yv) => h.points HB.out t lf rt ht)
  have HVD := Lib.hid (fun W (h : Three W B p q P L X X v xv pv yv) => h.rpoints HB.out t lf rt ht)
  generalize ptsX L X t.data.toList lf rt = R at *
  generalize ptsE t.data.toList lf rt = E at *
  clear hb
  go_enter Try.func50, Try.ntmps50
  go_upto_region 1 with fail
  generalize hW : w.alloc (.cells (opC 4 t lf rt) 100) = W at *
  generalize w.heap.size = b0 at HO ⊢
  clear hW
  have c0 : W.cell? ⟨b0, 0, none⟩ = some (.int .i64 4) := (HO.out.cell 0).trans rfl
  have cl := HO.out.lt
  have c1 : W.cell? ⟨b0, 1, none⟩ = some (.string t) := (HO.out.cell 1).trans rfl
  have c2 : W.cell? ⟨b0, 2, none⟩ = some (.int .i64 lf) := (HO.out.cell 2).trans rfl
  have c3 : W.cell? ⟨b0, 3, none⟩ = some (.int .i64 rt) := (HO.out.cell 3).trans rfl
  go_wp2_with fail
  refine (HVP.out W HT.out).mono ?_
  rintro e w1 ⟨hb1, A1, n1, rfl, hs1, hr1⟩
  have HT1 := Lib.hid (HT.out.below hb1)
  have HB1 := Lib.hid hb1
  have HO1 := Lib.hid (HO.out.below hb1 HO.out.lt)
  have HR1 := Lib.hid (And.intro hs1 hr1)
  clear hb1 hs1 hr1 c0 c1 c2 c3 cl
  have c1 : w1.cell? ⟨b0, 1, none⟩ = some (.string t) := (HO1.out.cell 1).trans rfl
  have c2 : w1.cell? ⟨b0, 2, none⟩ = some (.int .i64 lf) := (HO1.out.cell 2).trans rfl
  have c3 : w1.cell? ⟨b0, 3, none⟩ = some (.int .i64 rt) := (HO1.out.cell 3).trans rfl
  have cl := HO1.out.lt
  go_wp2_with fail
  refine (HVD.out w1 HT1.out).mono ?_
  rintro e w2 ⟨hb2, A2, n2, rfl, hs2, hr2⟩
  have HT2 := Lib.hid (HT1.out.below hb2)
  have HB2 := Lib.hid (andThen HB1.out hb2)
  have HR2 := Lib.hid (And.intro ((HR1.out.1.below hb2).more hb2.size) (And.intro (HR1.out.2.below hb2) hs2))
  clear hb2 hs2 hr2 c1 c2 c3 cl HO1 HR1 HT1 HB1 HVP HVD
  go_wp2_with fail
  have hsi := same_ints A1 A2 R R n1 n2 w2 (by have := HVL.out; omega) (by have := HVL.out; omega) HR2.out.1 HR2.out.2.2
  rw [decide_eq_true rfl] at hsi
  refine hsi.mono ?_
  clear hsi
  rintro e w3 ⟨rfl, hb3⟩
  have HT3 := Lib.hid (HT2.out.below hb3)
  have HB3 := Lib.hid (andThen HB2.out hb3)
  have HR3 := Lib.hid (HR2.out.2.1.below hb3)
  clear hb3 HT2 HR2 HB2
  go_wp2_with (go_at_call 23; refine (num_any _ _).mono ?_; rintro e w3 ⟨rfl, rfl⟩)
  have hb4 := andAlloc (Below.refl w3.heap.size w3) (.cells #[.slice A1 R.length n1] 42)
  have HT4 := Lib.hid (HT3.out.below hb4)
  have HB4 := Lib.hid (andThen HB3.out hb4)
  have HR4 := Lib.hid (HR3.out.below hb4)
  have hs4 : W.heap.size ≤ (w3.alloc (.cells #[.slice A1 R.length n1] 42)).heap.size := HB4.out.size
  refine (apart_of _ W.heap.size w3.heap.size R.length n1 A1 (Blk.new _ _ _) HR4.out (by have := HVL.out; omega) hs4).mono ?_
  rintro e w5 ⟨rfl, hb5⟩
  have HT5 := Lib.hid (HT.out.below (HB4.out.trans hb5))
  have HS5 := Lib.hid (HS0.out.trans (Stp.of_below B p q v xv yv HZ.out (HB4.out.trans hb5)))
  clear hb5 hb4 hs4
  go_wp2_with fail
  go_ret
  exact ⟨rfl, P, L, X, v, xv, pv, yv, HB.out, HT5.out, HS5.out⟩
set_option maxHeartbeats 4000000 in
set_option maxRecDepth 100000 in
theorem asks_else (B p q : Nat) (P L X : List Xc) (v xv pv yv : Value) (t : ByteArray) (lf rt k : Int) (w : World) (ht : t.size ≤ 1048576) (hB : B ≤ w.heap.size) (hb : Both P L) (h : Three w B p q P L X X v xv pv yv) (h1 : k ≠ 1) (h2 : k ≠ 2) (h3 : k ≠ 3) (h4 : k ≠ 4) :
    Calls Try.prog 50 #[.pointer (some ⟨p, 0, none⟩), .pointer (some ⟨q, 0, none⟩), .agg (opC k t lf rt)] w (Asked w B p q v xv yv) := by
  have HB := Lib.hid hb
  have hlow0 : Below w.heap.size w (w.alloc (.cells (opC k t lf rt) 100)) := andAlloc (Below.refl _ _) _
  have HS0 := Lib.hid (Stp.of_below B p q v xv yv hB hlow0)
  have HT := Lib.hid (h.below hlow0)
  have HO := Lib.hid (Blk.new w 100 (opC k t lf rt))
  have h0 : Exs X := h.xa.ex
  have HZ := Lib.hid (show B ≤ (w.alloc (.cells (opC k t lf rt) 100)).heap.size by simp; omega)
  clear h hlow0
  have HL := Lib.hid (lists_any B p q P L X v xv pv yv _ hb HT.out)
  go_enter Try.func50, Try.ntmps50
  go_upto_region 1 with fail
  generalize hW : w.alloc (.cells (opC k t lf rt) 100) = W at *
  generalize w.heap.size = b0 at HO ⊢
  clear hW
  have c0 : W.cell? ⟨b0, 0, none⟩ = some (.int .i64 k) := (HO.out.cell 0).trans rfl
  have cl := HO.out.lt
  go_wp2_with fail
  refine HL.out.mono ?_
  rintro e w5 ⟨rfl, hb5⟩
  have HT5 := Lib.hid (HT.out.below hb5)
  have HS5 := Lib.hid (HS0.out.trans (Stp.of_below B p q v xv yv HZ.out hb5))
  clear hb5
  go_wp2_with fail
  go_ret
  exact ⟨rfl, P, L, X, v, xv, pv, yv, HB.out, HT5.out, HS5.out⟩
theorem asks_any (B p q : Nat) (P L X : List Xc) (v xv pv yv : Value) (t : ByteArray) (k lf rt : Int) (w : World) (ht : t.size ≤ 1048576) (hB : B ≤ w.heap.size) (hb : Both P L) (h : Three w B p q P L X X v xv pv yv) :
    Calls Try.prog 50 #[.pointer (some ⟨p, 0, none⟩), .pointer (some ⟨q, 0, none⟩), .agg (opC k t lf rt)] w (Asked w B p q v xv yv) := by
  by_cases h1 : k = 1
  · subst h1; exact asks_one B p q P L X v xv pv yv t lf rt w ht hB hb h
  by_cases h2 : k = 2
  · subst h2; exact asks_two B p q P L X v xv pv yv t lf rt w ht hB hb h
  by_cases h3 : k = 3
  · subst h3; exact asks_three B p q P L X v xv pv yv t lf rt w ht hB hb h
  by_cases h4 : k = 4
  · subst h4; exact asks_four B p q P L X v xv pv yv t lf rt w ht hB hb h
  exact asks_else B p q P L X v xv pv yv t lf rt k w ht hB hb h h1 h2 h3 h4
end Go.Proofs.Ytmcekdjhkjhcdaa.Hy
end
section
namespace Go.Proofs.Ytmcekdjhkjhcdaa.Hy
open Go.ChangeShapes Go.WideShapes Go.ChangeAt Go.RowKit
open Me Hp
set_option linter.unusedVariables false
set_option linter.unusedSimpArgs false
theorem HyAt.more {w : World} {B C p : Nat} {P : List Pt} {v xv : Value} (h : HyAt w B p P v xv) (hC : C ≤ B) : HyAt w C p P v xv := by
  obtain ⟨vs, h1, h2, h3⟩ := h.tr.row
  refine ⟨h.pats, h.tr.tri, h.tr.keys, h.tr.blk, Nat.le_trans hC h.tr.low, vs, h1, own_base h2 hC, fun k s u hk hu => ?_⟩
  have h4 := h3 k s u hk hu
  unfold valAt at h4 ⊢
  split
  · rename_i hl; rw [hl] at h4; exact h4
  · rename_i l hl; rw [hl] at h4; exact ⟨h4.1, own_base h4.2 hC⟩
/-- What the play holds: two pairs that share nothing, and in each the program's and the document's tell the same. -/
def Play (B p q p2 q2 : Nat) (w : World) : Prop := ∃ P L X v xv pv yv P2 L2 X2 v2 xv2 pv2 yv2, Both P L ∧ Both P2 L2 ∧ Three w B p q P L X X v xv pv yv ∧ Three w B p2 q2 P2 L2 X2 X2 v2 xv2 pv2 yv2 ∧ Off p q v xv yv p2 q2 v2 xv2 yv2
theorem Play.symm {B p q p2 q2 : Nat} {w : World} (h : Play B p q p2 q2 w) : Play B p2 q2 p q w := by
  obtain ⟨P, L, X, v, xv, pv, yv, P2, L2, X2, v2, xv2, pv2, yv2, h1, h2, h3, h4, h5⟩ := h
  exact ⟨P2, L2, X2, v2, xv2, pv2, yv2, P, L, X, v, xv, pv, yv, h2, h1, h4, h3, h5.symm⟩
theorem Play.below {B p q p2 q2 : Nat} {w w' : World} (h : Play B p q p2 q2 w) (hb : Below w.heap.size w w') : Play B p q p2 q2 w' := by
  obtain ⟨P, L, X, v, xv, pv, yv, P2, L2, X2, v2, xv2, pv2, yv2, h1, h2, h3, h4, h5⟩ := h
  exact ⟨P, L, X, v, xv, pv, yv, P2, L2, X2, v2, xv2, pv2, yv2, h1, h2, h3.below hb, h4.below hb, h5⟩
/-- A question. -/
structure OpV where
  k : Int
  t : ByteArray
  a : Int
  b : Int
def OpV.vals (o : OpV) : List Value := [.int .i64 o.k, .string o.t, .int .i64 o.a, .int .i64 o.b]
theorem Play.asks {B p q p2 q2 : Nat} {w : World} (h : Play B p q p2 q2 w) (hB : B ≤ w.heap.size) (o : OpV) (ht : o.t.size ≤ 1048576) :
    Calls Try.prog 50 #[.pointer (some ⟨p, 0, none⟩), .pointer (some ⟨q, 0, none⟩), .agg #[.int .i64 o.k, .string o.t, .int .i64 o.a, .int .i64 o.b]] w fun e w' => e = .returned (.bool true) ∧ Play B p q p2 q2 w' ∧ Below B w w' := by
  obtain ⟨P, L, X, v, xv, pv, yv, P2, L2, X2, v2, xv2, pv2, yv2, h1, h2, h3, h4, h5⟩ := h
  refine (asks_any B p q P L X v xv pv yv o.t o.k o.a o.b w ht hB h1 h3).mono ?_
  rintro e w' ⟨rfl, P', L', X', v', xv', pv', yv', k1, k2, k3⟩
  exact ⟨rfl, ⟨P', L', X', v', xv', pv', yv', P2, L2, X2, v2, xv2, pv2, yv2, k1, h2, k2, h3.other h4 h5 k3, h5.step h4 k3⟩, k3.low⟩
theorem Play.lists {B p q p2 q2 : Nat} {w : World} (h : Play B p q p2 q2 w) :
    Calls Try.prog 51 #[.pointer (some ⟨p, 0, none⟩), .pointer (some ⟨q, 0, none⟩)] w fun e w' => e = .returned (.bool true) ∧ Play B p q p2 q2 w' ∧ Below w.heap.size w w' := by
  have h0 := h
  obtain ⟨P, L, X, v, xv, pv, yv, P2, L2, X2, v2, xv2, pv2, yv2, h1, h2, h3, h4, h5⟩ := h
  refine (lists_any B p q P L X v xv pv yv w h1 h3).mono ?_
  rintro e w' ⟨rfl, hb⟩
  exact ⟨rfl, h0.below hb, hb⟩
/-- The four of them, made. -/
theorem play_made {w w1 w2 : World} {p p2 : Nat} {v v2 : Value} (hb1 : Below w.heap.size w w1) (h1 : HyAt w1 w.heap.size p [] v (.slice none 0 0)) (hb2 : Below w1.heap.size w1 w2) (h2 : HyAt w2 w1.heap.size p2 [] v2 (.slice none 0 0)) :
    Play w.heap.size p w2.heap.size p2 (w2.heap.size + 1) ((w2.alloc (.cells #[.slice none 0 0, .slice none 0 0] 97)).alloc (.cells #[.slice none 0 0, .slice none 0 0] 97)) := by
  have hz1 := hb1.size
  have hz2 := hb2.size
  have ha : Below w2.heap.size w2 (w2.alloc (.cells #[.slice none 0 0, .slice none 0 0] 97)) := andAlloc (Below.refl _ _) _
  have d1 := DAt.new w2 w.heap.size (by omega)
  generalize hW : w2.alloc (.cells #[.slice none 0 0, .slice none 0 0] 97) = W at *
  have hs : W.heap.size = w2.heap.size + 1 := by rw [← hW]; simp
  have d2 := DAt.new W w.heap.size (by omega)
  have hc : Below W.heap.size W (W.alloc (.cells #[.slice none 0 0, .slice none 0 0] 97)) := andAlloc (Below.refl _ _) _
  rw [hs] at d2
  obtain ⟨_, _, o1⟩ := h1.row
  obtain ⟨_, _, o2⟩ := h2.row
  refine ⟨[], [], [], v, .slice none 0 0, _, _, [], [], [], v2, .slice none 0 0, _, _, Both.nil, Both.nil, ⟨((h1.below hb2).below ha).below hc, XAt.nil _ _, d1.below hc⟩, ⟨((h2.more hz1).below ha).below hc, XAt.nil _ _, d2⟩, ⟨?_, by omega, fun g hg e => ?_, fun g hg => ?_, fun g hg => ?_⟩⟩
  · have := h1.tr.blk.lt
    have := h2.tr.low
    omega
  · have := (o1.lt g hg).2
    have := (o2.lt g e).1
    omega
  · cases hg
  · cases hg
theorem op_get {w : World} {A : Option Addr} {ops : List OpV} (hs : Seg w w.heap.size A (ops.flatMap OpV.vals)) {k : Nat} {o : OpV} (ho : ops[k]? = some o) : ∃ b off, A = some ⟨b, off, none⟩ ∧ ∀ W, Below w.heap.size w W → b < W.heap.size ∧
    W.cell? ⟨b, off + k * 4, none⟩ = some (.int .i64 o.k) ∧ W.cell? ⟨b, off + k * 4 + 1, none⟩ = some (.string o.t) ∧ W.cell? ⟨b, off + k * 4 + 2, none⟩ = some (.int .i64 o.a) ∧ W.cell? ⟨b, off + k * 4 + 3, none⟩ = some (.int .i64 o.b) := by
  have key : ∀ (ops : List OpV) (k : Nat), ops[k]? = some o → ∀ j, j < 4 → (ops.flatMap OpV.vals)[k * 4 + j]? = o.vals[j]? := by
    intro ops
    induction ops with
    | nil => intro k h; simp at h
    | cons a ops ih =>
      intro k h j hj
      rw [List.flatMap_cons]
      have hl : a.vals.length = 4 := rfl
      cases k with
      | zero =>
        simp only [List.getElem?_cons_zero, Option.some.injEq] at h
        subst h
        rw [Nat.zero_mul, Nat.zero_add, List.getElem?_append_left (by omega)]
      | succ k =>
        rw [List.getElem?_append_right (by omega), hl, show (k + 1) * 4 + j - 4 = k * 4 + j by omega]
        exact ih k (by simpa using h) j hj
  have hk := key ops k ho
  rcases hs with h0 | ⟨b, off, rfl, hb, hc⟩
  · have := hk 0 (by decide)
    rw [h0] at this
    cases this
  · refine ⟨b, off, rfl, fun W hW => ⟨Nat.lt_of_lt_of_le hb hW.size, ?_, ?_, ?_, ?_⟩⟩
    · exact (hW.cell (p := ⟨b, off + k * 4, none⟩) hb).trans (hc (k * 4) _ (by rw [← Nat.add_zero (k * 4), hk 0 (by decide)]; rfl))
    · exact (hW.cell (p := ⟨b, off + k * 4 + 1, none⟩) hb).trans (hc (k * 4 + 1) _ (by rw [hk 1 (by decide)]; rfl))
    · exact (hW.cell (p := ⟨b, off + k * 4 + 2, none⟩) hb).trans (hc (k * 4 + 2) _ (by rw [hk 2 (by decide)]; rfl))
    · exact (hW.cell (p := ⟨b, off + k * 4 + 3, none⟩) hb).trans (hc (k * 4 + 3) _ (by rw [hk 3 (by decide)]; rfl))
set_option maxRecDepth 100000 in
set_option maxHeartbeats 4000000 in
theorem plays_walk (A1 A2 : Option Addr) (xs ys : List OpV) (c1 c2 : Nat) (w : World) (hn1 : xs.length ≤ 1048576) (hn2 : ys.length ≤ 1048576) (ht1 : ∀ o ∈ xs, o.t.size ≤ 1048576) (ht2 : ∀ o ∈ ys, o.t.size ≤ 1048576) (hs1 : Seg w w.heap.size A1 (xs.flatMap OpV.vals)) (hs2 : Seg w w.heap.size A2 (ys.flatMap OpV.vals)) :
    Calls Try.prog 13 #[.slice A1 xs.length c1, .slice A2 ys.length c2] w fun e w' => e = .returned (.bool true) ∧ Below w.heap.size w w' := by
  have HX := Lib.hid (fun (k : Nat) (o : OpV) (h : xs[k]? = some o) => And.intro (ht1 o (List.mem_of_getElem? h)) (op_get hs1 h))
  have HY := Lib.hid (fun (k : Nat) (o : OpV) (h : ys[k]? = some o) => And.intro (ht2 o (List.mem_of_getElem? h)) (op_get hs2 h))
  clear hs1 hs2 ht1 ht2
  go_enter Try.func13, Try.ntmps13
  go_wp2_with fail
  refine (new_any w).mono ?_
  rintro e w1 ⟨hb1, p, v, rfl, h1⟩
  have H1 := Lib.hid (And.intro hb1 h1)
  clear hb1 h1
  go_wp2_with fail
  refine (new_any w1).mono ?_
  rintro e w2 ⟨hb2, p2, v2, rfl, h2⟩
  have HPL := Lib.hid (play_made H1.out.1 H1.out.2 hb2 h2)
  have hz : w1.heap.size ≤ w2.heap.size := hb2.size
  have HBL := Lib.hid (andAlloc (andAlloc (andThen H1.out.1 hb2) (.cells #[.slice none 0 0, .slice none 0 0] 97)) (.cells #[.slice none 0 0, .slice none 0 0] 97))
  clear hb2 h2 H1 hz
  go_wp2_with fail
  generalize (w2.alloc (.cells #[.slice none 0 0, .slice none 0 0] 97)).alloc (.cells #[.slice none 0 0, .slice none 0 0] 97) = W at *
  generalize w2.heap.size = q at *
  generalize hn : xs.length = n at *
  generalize hm : ys.length = m at *
  have HN := Lib.hid hn
  have HM := Lib.hid hm
  clear hn hm
  go_loopw [9] (fun v9 wr => ∃ k : Nat, k ≤ max n m ∧ v9 = .int .i64 (k : Int) ∧ Play w.heap.size p q p2 (q + 1) wr ∧ Below w.heap.size w wr) (fun v9 _ => max n m - (intOf v9).toNat)
  case atStart => exact ⟨0, by omega, rfl, HPL.out, HBL.out⟩
  case round =>
    obtain ⟨k, hk, rfl, hpl, hlow⟩ := hrel
    have HP := Lib.hid hpl
    have HL := Lib.hid hlow
    clear hpl hlow
    by_cases h1 : k < n
    · have h1i : (k : Int) < (n : Int) := by omega
      obtain ⟨o1, ho1⟩ := get_some (l := xs) (k := k) (by rw [HN.out]; exact h1)
      obtain ⟨t1, b1, f1, rfl, hc1⟩ := HX.out k o1 ho1
      obtain ⟨hbl, c10, c11, c12, c13⟩ := hc1 wr HL.out
      clear hc1 ho1
      by_cases h2 : k < m
      · have h2i : (k : Int) < (m : Int) := by omega
        obtain ⟨o2, ho2⟩ := get_some (l := ys) (k := k) (by rw [HM.out]; exact h2)
        obtain ⟨t2, b2, f2, rfl, hc2⟩ := HY.out k o2 ho2
        have HC2 := Lib.hid hc2
        clear ho2 hc2
        go_wp2_with fail
        refine (HP.out.asks HL.out.size o1 t1).mono ?_
        rintro e w6 ⟨rfl, hpl6, hl6⟩
        have HP6 := Lib.hid hpl6
        have HL6 := Lib.hid (HL.out.trans hl6)
        clear hpl6 hl6
        obtain ⟨hbl2, c20, c21, c22, c23⟩ := HC2.out w6 HL6.out
        go_wp2_with fail
        refine (HP6.out.symm.asks HL6.out.size o2 t2).mono ?_
        rintro e w7 ⟨rfl, hpl7, hl7⟩
        have HP7 := Lib.hid hpl7
        have HL7 := Lib.hid (HL6.out.trans hl7)
        clear hpl7 hl7
        go_wp2_with fail
        go_roundw
        case rel => exact ⟨k + 1, by omega, by go_num, HP7.out.symm, HL7.out⟩
        case measure => simp [intOf]; omega
      · have h2i : ¬ (k : Int) < (m : Int) := by omega
        go_wp2_with fail
        refine (HP.out.asks HL.out.size o1 t1).mono ?_
        rintro e w6 ⟨rfl, hpl6, hl6⟩
        have HP6 := Lib.hid hpl6
        have HL6 := Lib.hid (HL.out.trans hl6)
        clear hpl6 hl6
        go_wp2_with fail
        go_roundw
        case rel => exact ⟨k + 1, by omega, by go_num, HP6.out, HL6.out⟩
        case measure => simp [intOf]; omega
    · have h1i : ¬ (k : Int) < (n : Int) := by omega
      by_cases h2 : k < m
      · have h2i : (k : Int) < (m : Int) := by omega
        obtain ⟨o2, ho2⟩ := get_some (l := ys) (k := k) (by rw [HM.out]; exact h2)
        obtain ⟨t2, b2, f2, rfl, hc2⟩ := HY.out k o2 ho2
        obtain ⟨hbl2, c20, c21, c22, c23⟩ := hc2 wr HL.out
        clear ho2 hc2
        go_wp2_with fail
        refine (HP.out.symm.asks HL.out.size o2 t2).mono ?_
        rintro e w6 ⟨rfl, hpl6, hl6⟩
        have HP6 := Lib.hid hpl6
        have HL6 := Lib.hid (HL.out.trans hl6)
        clear hpl6 hl6
        go_wp2_with fail
        go_roundw
        case rel => exact ⟨k + 1, by omega, by go_num, HP6.out.symm, HL6.out⟩
        case measure => simp [intOf]; omega
      · have h2i : ¬ (k : Int) < (m : Int) := by omega
        go_wp2_with fail
        refine (HP.out.lists).mono ?_
        rintro e w6 ⟨rfl, hpl6, hl6⟩
        have HP6 := Lib.hid hpl6
        have HL6 := Lib.hid (andThen HL.out hl6)
        clear hpl6 hl6
        go_wp2_with fail
        refine (HP6.out.symm.lists).mono ?_
        rintro e w7 ⟨rfl, hpl7, hl7⟩
        have HL7 := Lib.hid (andThen HL6.out hl7)
        clear hpl7 hl7
        go_wp2_with fail
        refine (knows_any _).mono ?_
        rintro e w8 ⟨rfl, hb8⟩
        have HL8 := Lib.hid (andThen HL7.out hb8)
        clear hb8
        go_wp2_with fail
        go_ret
        exact ⟨rfl, HL8.out⟩
end Go.Proofs.Ytmcekdjhkjhcdaa.Hy
end
section
namespace Go.Proofs.Ytmcekdjhkjhcdaa.Hy
open Go.ChangeShapes Go.WideShapes Go.ChangeAt Go.RowKit Go.Deep
open Me Hp
set_option linter.unusedVariables false
theorem one_of {cs : List Value} {i n : Nat} {v : Value} (h : cs[i]? = some v) (hn : n = 1) : (cs.drop i).take n = [v] := by
  subst hn
  have hlt := (List.getElem?_eq_some_iff.1 h).1
  rw [List.drop_eq_getElem_cons hlt, List.take_succ_cons, List.take_zero, (List.getElem?_eq_some_iff.1 h).2]
section
variable {H : Type} {enc : TypeId × Value → H} {W : World}
set_option maxRecDepth 100000 in
/-- One question. -/
theorem op_in {fuel n : Nat} {cs : List Value} {x : DataW H × List MemPlace} (h : DataW.trod enc Try.prog W 0 (fun _ => true) true fuel 100 cs = some x) (hn : Rows.uptoBulk x.1 ≤ n) : ∃ o : OpV, cs = o.vals ∧ o.t.size ≤ n := by
  obtain ⟨xs, m, _, rfl, hl, hxl, hat⟩ := DataW.trod_struct Try.underlying100 h
  have h4 : cs.length = 4 := hl.trans (by kernel_rfl)
  have hx4 : xs.length = 4 := by rw [hxl]; rfl
  match cs, h4, xs, hx4 with
  | [a, b, c, d], _, [xa, xb, xc, xd], _ =>
    have i1 : Try.prog.cellsOf 3 = 1 := by kernel_rfl
    have i2 : Try.prog.cellsOf 9 = 1 := by kernel_rfl
    have h0 : some xa = DataW.trod enc Try.prog W 0 (fun _ => true) true m 3 (([a, b, c, d].drop 0).take (Try.prog.cellsOf 3)) := (hat 0 _ rfl).symm
    have h1 : some xb = DataW.trod enc Try.prog W 0 (fun _ => true) true m 9 (([a, b, c, d].drop 1).take (Try.prog.cellsOf 9)) := (hat 1 _ rfl).symm
    have h2 : some xc = DataW.trod enc Try.prog W 0 (fun _ => true) true m 3 (([a, b, c, d].drop 2).take (Try.prog.cellsOf 3)) := (hat 2 _ rfl).symm
    have h3 : some xd = DataW.trod enc Try.prog W 0 (fun _ => true) true m 3 (([a, b, c, d].drop 3).take (Try.prog.cellsOf 3)) := (hat 3 _ rfl).symm
    rw [one_of (v := a) rfl i1] at h0
    rw [one_of (v := b) rfl i2] at h1
    rw [one_of (v := c) rfl i1] at h2
    rw [one_of (v := d) rfl i1] at h3
    obtain ⟨za, ea, _, _⟩ := DataW.trod_int Try.underlying3 h0.symm
    obtain ⟨sb, eb, hxb, _⟩ := DataW.trod_string Try.underlying9 h1.symm
    obtain ⟨zc, ec, _, _⟩ := DataW.trod_int Try.underlying3 h2.symm
    obtain ⟨zd, ed, _, _⟩ := DataW.trod_int Try.underlying3 h3.symm
    injection ea with ea _
    injection eb with eb _
    injection ec with ec _
    injection ed with ed _
    subst ea; subst eb; subst ec; subst ed
    refine ⟨⟨za, sb, zc, zd⟩, rfl, ?_⟩
    have hb : Rows.uptoBulk xb.1 ≤ n := by
      have h9 : xb.1 ∈ [xa, xb, xc, xd].map (·.1) := by simp
      have := part_le h9
      simp only [Rows.uptoBulk] at hn
      omega
    rw [hxb] at hb
    have := text_le hb
    rwa [size_list] at this
set_option maxRecDepth 100000 in
theorem ops_of {v : Value} {d : DataW H} {ps : List MemPlace} {r : Reach} {b0 : Nat} (hv : Value.okWide Try.prog W r b0 91 v) (h : DataW.Trod enc Try.prog W 0 (fun _ => true) true 91 v d ps) {n : Nat} (hn : Rows.uptoBulk d ≤ n) :
    ∃ (A : Option Addr) (os : List OpV) (c : Nat), v = .slice A os.length c ∧ os.length ≤ n ∧ (∀ o ∈ os, o.t.size ≤ n) ∧ Seg W W.heap.size A (os.flatMap OpV.vals) := by
  obtain ⟨a0, len, cap, rfl⟩ := okWide_slice Try.underlying91 hv
  obtain ⟨fuel, hf⟩ := h
  rw [show (Value.cells (.slice a0 len cap)).toList = [.slice a0 len cap] from rfl] at hf
  have hce : Try.prog.cellsOf 100 = 4 := by kernel_rfl
  rcases open_slice Try.underlying91 hf with ⟨hcs, _⟩ | ⟨a, len0, m, m', nn, D, Pl, hcs, _, hlc, hcm, hm, hx, hi⟩
  · simp at hcs
    obtain ⟨rfl, rfl, rfl⟩ := hcs
    exact ⟨none, [], 0, rfl, Nat.zero_le _, by simp, .inl rfl⟩
  · simp at hcs
    obtain ⟨rfl, rfl, rfl⟩ := hcs
    simp only [if_true] at hm
    subst hm
    simp only [Prod.mk.injEq] at hx
    obtain ⟨hd, _⟩ := hx
    subst hd
    simp only [Rows.uptoBulk] at hn
    rw [hce] at hi
    have hlen := length_le ((List.range len).map D)
    simp only [List.length_map, List.length_range] at hlen
    have key : ∀ i, i < len → ∃ o : OpV, o.t.size ≤ n ∧ W.cells? 0 (a.add (i * 4)) 4 = some o.vals := by
      intro i hil
      obtain ⟨cs, h1, h2⟩ := hi i (by omega)
      have hb : Rows.uptoBulk (D i) ≤ n := by
        have := part_le (List.mem_map.2 ⟨i, List.mem_range.2 hil, rfl⟩ : D i ∈ (List.range len).map D)
        omega
      obtain ⟨o, e, ho⟩ := op_in h2 hb
      exact ⟨o, ho, by rw [h1, e]⟩
    have hos : ∀ k, k ≤ len → ∃ os : List OpV, os.length = k ∧ ∀ i o, os[i]? = some o → o.t.size ≤ n ∧ W.cells? 0 (a.add (i * 4)) 4 = some o.vals := by
      intro k
      induction k with
      | zero => intro _; exact ⟨[], rfl, by intro i o h; simp at h⟩
      | succ k ih =>
        intro hk
        obtain ⟨os, h1, h2⟩ := ih (by omega)
        obtain ⟨o, h3, h4⟩ := key k (by omega)
        refine ⟨os ++ [o], by simp [h1], fun i x hx => ?_⟩
        rcases Nat.lt_or_ge i k with h5 | h5
        · rw [List.getElem?_append_left (by omega)] at hx
          exact h2 i x hx
        · rw [List.getElem?_append_right (by omega)] at hx
          have hik : i = k := by
            have := (List.getElem?_eq_some_iff.1 hx).1
            simp at this
            omega
          subst hik
          rw [h1, Nat.sub_self] at hx
          simp at hx
          subst hx
          exact ⟨h3, h4⟩
    obtain ⟨os, hol, ho⟩ := hos len (Nat.le_refl _)
    refine ⟨some a, os, _, by rw [hol], by omega, fun o hm => ?_, ?_⟩
    · obtain ⟨i, hi'⟩ := List.mem_iff_getElem?.1 hm
      exact (ho i o hi').1
    · rcases Nat.eq_zero_or_pos len with h0 | h0
      · subst h0
        have : os = [] := List.eq_nil_of_length_eq_zero hol
        subst this
        exact .inl rfl
      · have hcell : ∀ i o, os[i]? = some o → ∀ j u, o.vals[j]? = some u → W.cell? ((a.add (i * 4)).add j) = some u := by
          intro i o hio j u hu
          obtain ⟨_, h2⟩ := ho i o hio
          have hj : j < 4 := (List.getElem?_eq_some_iff.1 hu).1
          rw [(World.cells?_some h2).2.2 j hj, hu]
        obtain ⟨o0, ho0⟩ := get_some (l := os) (k := 0) (by omega)
        have hc0 := hcell 0 o0 ho0 0 _ rfl
        have h4 : (a.add (0 * 4)).add 0 = a := by simp [Addr.add]
        rw [h4] at hc0
        have hspot : a.spot = none := World.cell?_spot hc0
        obtain ⟨b, off, sp⟩ := a
        simp only at hspot
        subst hspot
        refine .inr ⟨b, off, rfl, block_lt_of_cell hc0, fun j u hu => ?_⟩
        have hflat : ∀ (os : List OpV) (j : Nat) (u : Value), (os.flatMap OpV.vals)[j]? = some u → ∃ i o q, os[i]? = some o ∧ o.vals[q]? = some u ∧ j = i * 4 + q := by
          intro os
          induction os with
          | nil => intro j u h; simp at h
          | cons z os ih =>
            intro j u h
            rw [List.flatMap_cons] at h
            have hl : z.vals.length = 4 := rfl
            rcases Nat.lt_or_ge j 4 with hj | hj
            · rw [List.getElem?_append_left (by omega)] at h
              exact ⟨0, z, j, rfl, h, by omega⟩
            · rw [List.getElem?_append_right (by omega), hl] at h
              obtain ⟨i, o, q, h1, h2, h3⟩ := ih _ _ h
              exact ⟨i + 1, o, q, by simpa using h1, h2, by omega⟩
        obtain ⟨i, o, q, h1, h2, rfl⟩ := hflat os j u hu
        have := hcell i o h1 q u h2
        rw [← this]
        congr 1
        unfold Addr.add
        by_cases h7 : i * 4 = 0 <;> by_cases h8 : q = 0 <;> simp [h7, h8, Nat.add_assoc]
        all_goals omega
end
end Go.Proofs.Ytmcekdjhkjhcdaa.Hy
end
section
namespace Go.Proofs.Ytmcekdjhkjhcdaa.Le
open Go.ChangeShapes Go.WideShapes Go.RowKit Go.Deep

/-- The types of a type's cells. -/
def lv (P : Program) : Nat → TypeId → List TypeId
  | 0, t => [t]
  | n + 1, t => match P.underlying t with
    | some (.struct fs) => fs.toList.flatMap fun f => lv P n f.type
    | some (.array k e) => (List.replicate k (lv P n e)).flatten
    | _ => [t]

/-- The cells' types are where the type's own table says. -/
def good (P : Program) : Nat → TypeId → Bool
  | 0, t => P.cellsOf t == 1
  | n + 1, t => match P.underlying t with
    | some (.struct fs) => (P.cellsOf t == (lv P (n + 1) t).length) && fs.toList.all (fun f => good P n f.type) &&
        (List.range (lv P (n + 1) t).length).all fun i => (List.range fs.size).any fun j => match fs[j]? with
          | some f => decide (f.offset ≤ i) && decide (i < f.offset + P.cellsOf f.type) && decide (f.offset + P.cellsOf f.type ≤ P.cellsOf t) && decide ((lv P n f.type)[i - f.offset]? = (lv P (n + 1) t)[i]?)
          | none => false
    | some (.array k e) => (P.cellsOf t == (lv P (n + 1) t).length) && good P n e &&
        (List.range (lv P (n + 1) t).length).all fun i => (List.range k).any fun j => decide (j * P.cellsOf e ≤ i) && decide (i < j * P.cellsOf e + P.cellsOf e) && decide (j * P.cellsOf e + P.cellsOf e ≤ P.cellsOf t) && decide ((lv P n e)[i - j * P.cellsOf e]? = (lv P (n + 1) t)[i]?)
    | _ => P.cellsOf t == 1

section
variable {H : Type} {enc : TypeId × Value → H} {P : Program} {w : World} {base : Nat} {spare : Nat → Bool} {held : Bool}

theorem slice_get {cs : List Value} {o c i : Nat} (h0 : o ≤ i) (h1 : i < o + c) : ((cs.drop o).take c)[i - o]? = cs[i]? := by
  rw [List.getElem?_take, if_pos (by omega), List.getElem?_drop]
  congr 1
  omega

/-- Each cell reads as its leaf's type. -/
theorem leaves : ∀ (n : Nat) {t : TypeId} {fuel : Nat} {cs : List Value} {x : DataW H × List MemPlace}, good P n t = true → cs.length = P.cellsOf t → DataW.trod enc P w base spare held fuel t cs = some x →
    ∀ (i : Nat) (u : TypeId), (lv P n t)[i]? = some u → ∃ (v : Value) (m : Nat) (y : DataW H × List MemPlace), cs[i]? = some v ∧ DataW.trod enc P w base spare held m u [v] = some y
  | 0, t, fuel, cs, x, hg, hl, h, i, u, hu => by
    simp only [lv] at hu
    match i, hu with
    | 0, hu =>
      simp at hu
      subst hu
      unfold good at hg
      rw [beq_iff_eq] at hg
      rw [hg] at hl
      match cs, hl with
      | [v], _ => exact ⟨v, fuel, x, rfl, h⟩
    | i + 1, hu => simp at hu
  | n + 1, t, fuel, cs, x, hg, hl, h, i, u, hu => by
    have hilt : i < (lv P (n + 1) t).length := by
      rcases Nat.lt_or_ge i (lv P (n + 1) t).length with h1 | h1
      · exact h1
      · rw [List.getElem?_eq_none h1] at hu; cases hu
    unfold good at hg
    split at hg
    · rename_i fs hfs
      simp only [Bool.and_eq_true, List.all_eq_true] at hg
      obtain ⟨⟨_, hgf⟩, hcov⟩ := hg
      have hc := hcov i (List.mem_range.2 hilt)
      simp only [List.any_eq_true] at hc
      obtain ⟨j, hj, hc⟩ := hc
      split at hc
      · rename_i f hf
        simp only [Bool.and_eq_true, decide_eq_true_eq] at hc
        obtain ⟨⟨⟨h1, h2⟩, h4⟩, h3⟩ := hc
        obtain ⟨xs, n', _, _, hcl, hxl, hat⟩ := DataW.trod_struct hfs h
        have hjl : j < fs.size := by
          rcases Nat.lt_or_ge j fs.size with hh | hh
          · exact hh
          · rw [Array.getElem?_eq_none hh] at hf; cases hf
        have hxj : xs[j]? = some (xs[j]'(by omega)) := List.getElem?_eq_getElem (by omega)
        have ht := (hat j f hf).trans hxj
        have hmem : f ∈ fs.toList := by
          have := Array.mem_of_getElem? hf
          simpa using this
        have hlen : ((cs.drop f.offset).take (P.cellsOf f.type)).length = P.cellsOf f.type := by
          rw [List.length_take, List.length_drop]
          omega
        obtain ⟨v, m, y, hv, hy⟩ := leaves n (hgf f hmem) hlen ht (i - f.offset) u (by rw [h3]; exact hu)
        exact ⟨v, m, y, by rw [← slice_get h1 h2]; exact hv, hy⟩
      · cases hc
    · rename_i k e he
      simp only [Bool.and_eq_true, List.all_eq_true] at hg
      obtain ⟨⟨_, hge⟩, hcov⟩ := hg
      have hc := hcov i (List.mem_range.2 hilt)
      simp only [List.any_eq_true, List.mem_range, Bool.and_eq_true, decide_eq_true_eq] at hc
      obtain ⟨j, hj, ⟨⟨h1, h2⟩, h4⟩, h3⟩ := hc
      obtain ⟨xs, n', _, _, hcl, hxl, hat⟩ := DataW.trod_array he h
      have hxj : xs[j]? = some (xs[j]'(by omega)) := List.getElem?_eq_getElem (by omega)
      have ht := (hat j hj).trans hxj
      have hlen : ((cs.drop (j * P.cellsOf e)).take (P.cellsOf e)).length = P.cellsOf e := by
        rw [List.length_take, List.length_drop]
        omega
      obtain ⟨v, m, y, hv, hy⟩ := leaves n hge hlen ht (i - j * P.cellsOf e) u (by rw [h3]; exact hu)
      exact ⟨v, m, y, by rw [← slice_get h1 h2]; exact hv, hy⟩
    · rename_i hns hna
      have hlv : lv P (n + 1) t = [t] := by
        unfold lv
        split
        · rename_i fs hfs; exact absurd hfs (hns fs)
        · rename_i k e he; exact absurd he (hna k e)
        · rfl
      rw [hlv] at hu
      match i, hu with
      | 0, hu =>
        simp at hu
        subst hu
        rw [beq_iff_eq] at hg
        rw [hg] at hl
        match cs, hl with
        | [v], _ => exact ⟨v, fuel, x, rfl, h⟩
      | i + 1, hu => simp at hu
end

section
variable {H : Type} {enc : TypeId × Value → H} {P : Program} {w : World} {base : Nat} {spare : Nat → Bool} {held : Bool}

/-- What is known of a row of cells of type t. -/
def Cells (enc : TypeId × Value → H) (P : Program) (w : World) (base : Nat) (spare : Nat → Bool) (held : Bool) (ls : List TypeId) (cs : List Value) : Prop :=
  cs.length = ls.length ∧ ∀ (i : Nat) (u : TypeId), ls[i]? = some u → ∃ (v : Value) (m : Nat) (y : DataW H × List MemPlace), cs[i]? = some v ∧ DataW.trod enc P w base spare held m u [v] = some y

/-- A struct that comes by value. -/
theorem open_flat {r : Reach} {b0 : Nat} {t : TypeId} {fs : Array Field} {v : Value} {d : DataW H} {ps : List MemPlace} (n : Nat) (ls : List TypeId) (hs : P.underlying t = some (.struct fs)) (hg : good P n t = true) (hl : lv P n t = ls) (hc : P.cellsOf t = ls.length)
    (hv : Value.okWide P w r b0 t v) (h : DataW.Trod enc P w base spare held t v d ps) : ∃ cs : List Value, v = .agg cs.toArray ∧ Cells enc P w base spare held ls cs := by
  obtain ⟨cs, rfl, hsz⟩ := okWide_struct hs hv
  obtain ⟨fuel, hf⟩ := h
  refine ⟨cs.toList, by simp, by simp [hsz, hc], fun i u hu => ?_⟩
  exact leaves n hg (by simp [hsz]) (by simpa [Value.cells] using hf) i u (by rw [hl]; exact hu)

/-- A slice that comes in: where it lies, and its elements' cells. -/
theorem open_rows0 {r : Reach} {b0 : Nat} {t e : TypeId} {v : Value} {d : DataW H} {ps : List MemPlace} (n : Nat) (ls : List TypeId) (ht : P.underlying t = some (.slice e)) (hg : good P n e = true) (hl : lv P n e = ls) (hc : P.cellsOf e = ls.length)
    (hv : Value.okWide P w r b0 t v) (h : DataW.Trod enc P w base (fun _ => true) held t v d ps) (hlt : ∀ x ∈ ps, x.block < w.heap.size) :
    ∃ (A : Option Addr) (c : Nat) (rows : List (List Value)), v = .slice A rows.length c ∧ rows.length ≤ c ∧ c ≤ maxLen ∧ (∀ cs ∈ rows, Cells enc P w base (fun _ => true) held ls cs) ∧ Me.Seg w w.heap.size A rows.flatten ∧ (A = none → c = 0) ∧
      (∃ es sp : List (DataW H), (d = .slice es sp ∧ es.length = rows.length ∧ es.length + sp.length = c) ∨ (d = .nil ∧ rows = [] ∧ c = 0)) := by
  obtain ⟨fuel, hf⟩ := h
  obtain ⟨a0, len0, cap0, rfl⟩ := okWide_slice ht hv
  rw [show Value.cells (.slice a0 len0 cap0) = #[.slice a0 len0 cap0] from rfl] at hf
  rcases open_slice ht hf with ⟨h0, hx⟩ | ⟨a, len, cap, m, nn, D, Pl, hcs, _, hlc, hcm, hm, hx, hi⟩
  · simp at h0
    obtain ⟨rfl, rfl, rfl⟩ := h0
    simp only [Prod.mk.injEq] at hx
    exact ⟨none, 0, [], rfl, Nat.le_refl _, by simp [maxLen], by simp, .inl rfl, fun _ => rfl, [], [], .inr ⟨hx.1, rfl, rfl⟩⟩
  · simp at hcs
    obtain ⟨rfl, rfl, rfl⟩ := hcs
    simp only [if_true] at hm
    subst hm
    simp only [Prod.mk.injEq] at hx
    obtain ⟨hd, hps⟩ := hx
    have hrow : ∀ i, i < len0 → ∃ cs, w.cells? base (a.add (i * P.cellsOf e)) (P.cellsOf e) = some cs ∧ Cells enc P w base (fun _ => true) held ls cs := by
      intro i hil
      obtain ⟨cs, h1, h2⟩ := hi i (by omega)
      obtain ⟨_, h3, _⟩ := World.cells?_some h1
      exact ⟨cs, h1, by rw [h3, hc], fun j u hu => leaves n hg h3 h2 j u (by rw [hl]; exact hu)⟩
    let R : Nat → List Value := fun i => (w.cells? base (a.add (i * P.cellsOf e)) (P.cellsOf e)).getD []
    have hR : ∀ i, i < len0 → Cells enc P w base (fun _ => true) held ls (R i) ∧ ∀ j, j < P.cellsOf e → w.cell? ((a.add (i * P.cellsOf e)).add j) = (R i)[j]? := by
      intro i hil
      obtain ⟨cs, h1, h2⟩ := hrow i hil
      have e1 : R i = cs := by simp [R, h1]
      rw [e1]
      exact ⟨h2, (World.cells?_some h1).2.2⟩
    have hlen : ∀ i, i < len0 → (R i).length = P.cellsOf e := fun i hil => by rw [hc]; exact (hR i hil).1.1
    refine ⟨some a, m, (List.range len0).map R, by simp, by simpa using hlc, hcm, ?_, ?_, (by intro hh; cases hh), (List.range len0).map D, (List.range (m - len0)).map fun j => D (len0 + j), .inl ⟨hd, by simp, by simp; omega⟩⟩
    · intro cs hcs
      obtain ⟨i, hi', rfl⟩ := List.mem_map.1 hcs
      exact (hR i (List.mem_range.1 hi')).1
    · by_cases hz : ((List.range len0).map R).flatten = []
      · exact .inl hz
      · have hpos : 0 < len0 * P.cellsOf e := by
          rcases Nat.eq_zero_or_pos (len0 * P.cellsOf e) with h1 | h1
          · exfalso
            apply hz
            rw [List.flatten_eq_nil_iff]
            intro l hl'
            obtain ⟨i, hi', rfl⟩ := List.mem_map.1 hl'
            have hil := List.mem_range.1 hi'
            have h2 := hlen i hil
            rcases Nat.mul_eq_zero.1 h1 with h3 | h3
            · omega
            · rw [h3] at h2; exact List.eq_nil_of_length_eq_zero h2
          · exact h1
        have hlen0 : 0 < len0 := Nat.pos_of_mul_pos_right hpos
        have hce : 0 < P.cellsOf e := Nat.pos_of_mul_pos_left hpos
        have hcell0 : ∃ u, w.cell? a = some u := by
          obtain ⟨h1, h2⟩ := hR 0 hlen0
          have h3 := h2 0 hce
          have h4 : (a.add (0 * P.cellsOf e)).add 0 = a := by simp [Addr.add]
          rw [h4] at h3
          refine ⟨_, h3.trans (List.getElem?_eq_getElem (by rw [hlen 0 hlen0]; exact hce))⟩
        obtain ⟨u0, hu0⟩ := hcell0
        have hspot : a.spot = none := World.cell?_spot hu0
        obtain ⟨b, off, sp⟩ := a
        simp only at hspot
        subst hspot
        refine .inr ⟨b, off, rfl, ?_, ?_⟩
        · have hm0 := Nat.mul_le_mul_right (P.cellsOf e) hlc
          have := hlt (.cell b off) (by rw [hps]; exact List.mem_append_left _ (List.mem_map.2 ⟨0, List.mem_range.2 (by omega), rfl⟩))
          exact this
        · intro j u hu
          have hall : ∀ (k : Nat) (l : List Nat), (∀ i ∈ l, i < len0) → ∀ j u, ((l.map R).flatten)[j]? = some u → ∃ i q, l[i]? ≠ none ∧ j = i * P.cellsOf e + q ∧ q < P.cellsOf e ∧ ∃ z, l[i]? = some z ∧ (R z)[q]? = some u := by
            intro k l
            induction l with
            | nil => intro _ j u h; simp at h
            | cons z l ih =>
              intro hl' j u h
              simp only [List.map_cons, List.flatten_cons] at h
              have hz1 := hlen z (hl' z (by simp))
              rcases Nat.lt_or_ge j (P.cellsOf e) with hj | hj
              · rw [List.getElem?_append_left (by omega)] at h
                exact ⟨0, j, by simp, by omega, hj, z, by simp, h⟩
              · rw [List.getElem?_append_right (by omega), hz1] at h
                obtain ⟨i, q, h1, h2, h3, y, h4, h5⟩ := ih (fun i hi' => hl' i (by simp [hi'])) _ _ h
                refine ⟨i + 1, q, by simpa using h1, ?_, h3, y, by simpa using h4, h5⟩
                rw [Nat.add_mul]; omega
          obtain ⟨i, q, _, hj, hq, z, hz1, hz2⟩ := hall 0 (List.range len0) (fun i hi' => List.mem_range.1 hi') j u hu
          have hzi : z = i ∧ i < len0 := by
            have hil : i < len0 := by
              rcases Nat.lt_or_ge i len0 with h1 | h1
              · exact h1
              · rw [List.getElem?_eq_none (by simpa using h1)] at hz1; cases hz1
            rw [List.getElem?_range hil] at hz1
            injection hz1 with hz1
            exact ⟨hz1.symm, hil⟩
          obtain ⟨rfl, hil⟩ := hzi
          have h6 := (hR z hil).2 q hq
          rw [hz2] at h6
          rw [← h6, hj]
          congr 1
          unfold Addr.add
          by_cases h7 : z * P.cellsOf e = 0 <;> by_cases h8 : q = 0 <;> simp [h7, h8, Nat.add_assoc]
theorem open_rows {r : Reach} {b0 : Nat} {t e : TypeId} {v : Value} {d : DataW H} {ps : List MemPlace} (n : Nat) (ls : List TypeId) (ht : P.underlying t = some (.slice e)) (hg : good P n e = true) (hl : lv P n e = ls) (hc : P.cellsOf e = ls.length)
    (hv : Value.okWide P w r b0 t v) (h : DataW.Trod enc P w base (fun _ => true) held t v d ps) (hlt : ∀ x ∈ ps, x.block < w.heap.size) :
    ∃ (A : Option Addr) (c : Nat) (rows : List (List Value)), v = .slice A rows.length c ∧ rows.length ≤ c ∧ c ≤ maxLen ∧ (∀ cs ∈ rows, Cells enc P w base (fun _ => true) held ls cs) ∧ Me.Seg w w.heap.size A rows.flatten ∧
      (∃ es sp : List (DataW H), (d = .slice es sp ∧ es.length = rows.length ∧ es.length + sp.length = c) ∨ (d = .nil ∧ rows = [] ∧ c = 0)) := by
  obtain ⟨A, c, rows, h1, h2, h3, h4, h5, _, h6⟩ := open_rows0 n ls ht hg hl hc hv h hlt
  exact ⟨A, c, rows, h1, h2, h3, h4, h5, h6⟩
end

section
variable {H : Type} {enc : TypeId × Value → H} {P : Program} {w : World} {base : Nat} {spare : Nat → Bool} {held : Bool}
/-- Cells that are all integers of one kind. -/
theorem cells_ints {ti : TypeId} {k : IntKind} (hu : P.underlying ti = some (.int k)) : ∀ {n : Nat} {cs : List Value}, Cells enc P w base spare held (List.replicate n ti) cs →
    ∃ zs : List Int, zs.length = n ∧ cs = zs.map (Value.int k) ∧ ∀ z ∈ zs, (Lit.int k z).wf = true
  | 0, cs, h => ⟨[], rfl, by simpa using h.1, by simp⟩
  | n + 1, cs, h => by
    obtain ⟨hl, hc⟩ := h
    match cs, hl with
    | c :: cs, hl =>
      obtain ⟨v, m, y, hv, hy⟩ := hc 0 ti (by simp [List.replicate_succ])
      simp at hv
      subst hv
      obtain ⟨z, hz, _, hw⟩ := DataW.trod_int hu hy
      simp at hz
      subst hz
      obtain ⟨zs, h1, h2, h3⟩ := cells_ints hu (n := n) (cs := cs) ⟨by simpa [List.replicate_succ] using hl, fun i u hi => by
        obtain ⟨v, m, y, hv, hy⟩ := hc (i + 1) u (by simpa [List.replicate_succ] using hi)
        exact ⟨v, m, y, by simpa using hv, hy⟩⟩
      exact ⟨z :: zs, by simp [h1], by simp [h2], by
        intro x hx
        rcases List.mem_cons.1 hx with rfl | hx
        · exact hw
        · exact h3 x hx⟩
theorem wf_bd {z : Int} (h : (Lit.int .i64 z).wf = true) : -9223372036854775808 ≤ z ∧ z ≤ 9223372036854775807 := by
  simp [Lit.wf, IntKind.min, IntKind.max, IntKind.signed, IntKind.bits] at h
  omega
end
end Go.Proofs.Ytmcekdjhkjhcdaa.Le
end
section
namespace Go.Proofs.Ytmcekdjhkjhcdaa.HyphPlays
open Go.ChangeShapes Go.WideShapes Go.ChangeAt Go.RowKit
open Go.ChangeMaps (open_string)
set_option linter.unusedVariables false

theorem own : ownKnob Try.prog.godebug = none := by kernel_rfl
theorem laidOut : laidOutB Try.prog = true := by kernel_rfl

set_option maxRecDepth 100000 in
theorem contract (H : Type) (enc : TypeId × Value → H) (W : World) (base : Nat) (args : Array Value) (ds gs : List (DataW H)) (before : List MemPlace)
    (hval0 : ∀ (j : Nat) t v, Try.f13.params[j]? = some t → args[j]? = some v → Value.okWide Try.prog W .any base t v)
    (hW : DataW.Whole enc Try.prog Try.f13.params.toList Rows.hyphPlaysSpec.vars false W args.toList ds gs before) (hk : Rows.uptoSmall H (ds ++ gs) = true) :
    Calls Try.prog 13 args W fun e W' => ∃ v, e = .returned v ∧ Rows.hyphPlaysSpec.post enc Try.prog Try.f13 false true false false W args v W' := by
  have hval : ∀ (j : Nat) t v, Try.f13.params[j]? = some t → args[j]? = some v → Value.okWide Try.prog W .any base t v := hval0
  have hW' := hW
  obtain ⟨p, q, hA0, hV, he, hfz, hnd⟩ := hW
  have hA : DataW.TrodAll enc Try.prog W 0 (fun _ => true) true Try.f13.params.toList args.toList ds p := hA0
  rw [Try.params13] at hA hval
  obtain ⟨rfl, rfl⟩ := trodVars_none hV
  rw [List.append_nil] at he hk
  subst he
  have hbd : Rows.uptoBulkAll ds ≤ 1048576 := of_decide_eq_true hk
  obtain ⟨v0, vs0, d0, ds0, p0, q0, hargs, rfl, rfl, h0, r0⟩ := trodAll_cons hA
  obtain ⟨v1, vs1, d1, ds1, p1, q1, rfl, rfl, rfl, h1, r1⟩ := trodAll_cons r0
  obtain ⟨rfl, rfl, rfl⟩ := trodAll_nil r1
  obtain rfl : args = #[v0, v1] := by cases args; simp_all
  have b0 : Rows.uptoBulk d0 ≤ 1048576 := Nat.le_trans (Hy.part_le (by simp)) hbd
  have b1 : Rows.uptoBulk d1 ≤ 1048576 := Nat.le_trans (Hy.part_le (by simp)) hbd
  obtain ⟨A0, os0, c0, rfl, hn0, hs0, hg0⟩ := Hy.ops_of (hval 0 91 v0 rfl rfl) h0 b0
  obtain ⟨A1, os1, c1, rfl, hn1, hs1, hg1⟩ := Hy.ops_of (hval 1 91 v1 rfl rfl) h1 b1
  clear hA0 hval0
  refine (Hy.plays_walk A0 A1 os0 os1 c0 c1 W hn0 hn1 hs0 hs1 hg0 hg1).mono fun e W' ⟨he, hb⟩ => ?_
  subst he
  exact ⟨_, rfl, Li.law_post laidOut rfl hW' (by kernel_rfl) rfl rfl rfl rfl Try.underlying4 hb⟩

set_option maxRecDepth 100000 in
theorem lifted (os : Os) (started : os.Started) (H : Type) (enc : TypeId × Value → H) (F : Stop.Interp) :
    ReturnsInHanded {} Try.checked os 13 .any ((Rows.OpenSpec.upto Rows.hyphPlaysSpec).pre6 enc Try.prog Try.f13 Rows.hyphPlaysUptoRow.domain false) (((Rows.OpenSpec.upto Rows.hyphPlaysSpec).at F).post enc Try.prog Try.f13 false true false false) := by
  refine returnsInHanded_of_cond (C := Try.checked) (s := Rows.OpenSpec.upto Rows.hyphPlaysSpec) (k := Rows.uptoSmall) rfl own started (by kernel_rfl) Try.func13
    (OpenSpec.witness (enc := enc) (C := Try.checked) (s := Rows.OpenSpec.upto Rows.hyphPlaysSpec) (k := Rows.uptoSmall) rfl false ⟨#[], #[.slice none 0 0, .slice none 0 0], []⟩ 8 (by kernel_rfl) (by kernel_rfl) (by kernel_rfl)
      (x := ([.nil, .nil], [], [])) (by kernel_rfl) rfl (by kernel_rfl)) ?_
  intro W base args ds gs before hval hW _ hk _
  exact contract H enc W base args ds gs before hval hW hk

theorem over : Rows.hyphPlaysUptoRow.holds Try.pinned (Rows.OpenSpec.upto Rows.hyphPlaysSpec) :=
  OpenClaim.holds_of_cond 13 Try.f13 rfl rfl rfl rfl rfl rfl rfl ⟨rfl, rfl, rfl, rfl, rfl⟩ rfl rfl rfl rfl rfl (by kernel_rfl) Try.func13 (by kernel_rfl)
    (of_decide_eq_true (by kernel_rfl)) (by unfold Func.isWrapper; first | (rw [if_pos (by decide +kernel)]; kernel_rfl) | (rw [if_neg (by decide +kernel)]; exact ⟨rfl, rfl⟩))
    (fun os started H enc _ F => lifted os started H enc F)

theorem proved : Rows.HyphPlaysUptoSaid := over
#print axioms proved
end Go.Proofs.Ytmcekdjhkjhcdaa.HyphPlays
end
