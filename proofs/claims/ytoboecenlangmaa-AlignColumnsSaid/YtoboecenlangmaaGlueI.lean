import Derived.Test.YtoboecenlangmaaGlueH
/- glue.Sizes: the loop. Conditions: those that each theorem names. -/
namespace Go.Proofs.Ytoboecenlangmaa.Gl
open Go.ChangeShapes Go.WideShapes Go.ChangeAt Go.RowKit
open Me

def SzOut (l : List G) (sign order N D : Int) (w : World) (e : Ending) (w' : World) : Prop :=
  (if szE l sign order N D = 0 then ∃ v, e = .returned (.tuple #[v, .int .i64 0]) ∧ w'.ownsRow w.heap.size 3 1 v l.length ((szL l sign order N D).map (Value.int .i64))
   else e = .returned (.tuple #[.slice none 0 0, .int .i64 (szE l sign order N D)])) ∧ Below w.heap.size w w'

theorem SzOut.ok {l : List G} {sign order N D : Int} {w w' : World} {v : Value} {z : Sz} (hr : rowE l = 0) (ha : argOk sign order = true) (hg : rngOk sign N D = true) (hz : run sign order N D l = some z)
    (hown : w'.ownsRow w.heap.size 3 1 v l.length (z.o.map (Value.int .i64))) (hb : Below w.heap.size w w') : SzOut l sign order N D w (.returned (.tuple #[v, .int .i64 0])) w' := by
  obtain ⟨h1, h2⟩ := szE_some hr ha hg hz
  unfold SzOut
  rw [if_pos h1, h2]
  exact ⟨⟨v, rfl, hown⟩, hb⟩
theorem SzOut.stop {l : List G} {sign order N D E : Int} {w w' : World} (hr : rowE l = 0) (ha : argOk sign order = true) (hg : rngOk sign N D = true) (hz : run sign order N D l = none) (hE : E = 20)
    (hb : Below w.heap.size w w') : SzOut l sign order N D w (.returned (.tuple #[.slice none 0 0, .int .i64 E])) w' := by
  have h1 := szE_none hr ha hg hz
  unfold SzOut
  rw [if_neg (by rw [h1]; omega), h1, hE]
  exact ⟨rfl, hb⟩
theorem own_base {w : World} {base base' : Nat} {e : TypeId} {size n : Nat} {v : Value} {xs : List Value} (h : w.ownsRow base e size v n xs) (hb : base' ≤ base) : w.ownsRow base' e size v n xs := by
  refine ⟨h.1, ?_⟩
  rcases h.2 with h' | ⟨g, cap, cur, hv, hg, hr⟩
  · exact .inl h'
  · exact .inr ⟨g, cap, cur, hv, by omega, hr⟩

/-- What the loop keeps of memory. -/
structure MI (N D : Int) (w : World) (b0 : Nat) (S L : Int) (v : Value) (k : Nat) (o : List Int) (wr : World) : Prop where
  own : wr.ownsRow (b0 + 2) 3 1 v k (o.map (Value.int .i64))
  hN : Blk wr w.heap.size 3 #[.int .i64 N]
  hD : Blk wr (w.heap.size + 1) 3 #[.int .i64 D]
  hS : Blk wr b0 3 #[.int .i64 S]
  hL : Blk wr (b0 + 1) 3 #[.int .i64 L]
  bel : Below w.heap.size w wr
  size : b0 + 2 ≤ wr.heap.size
  far : w.heap.size + 2 ≤ b0

section
variable {N D S L : Int} {w wr w1 : World} {b0 k : Nat} {v v' : Value} {o : List Int}
theorem MI.alloc (h : MI N D w b0 S L v k o wr) (X : Obj) : MI N D w b0 S L v k o (wr.alloc X) :=
  ⟨h.own.alloc X, h.hN.alloc X, h.hD.alloc X, h.hS.alloc X, h.hL.alloc X, h.bel.alloc h.bel.size X, by have := h.size; simp; omega, h.far⟩
theorem MI.stores (h : MI N D w b0 S L v k o wr) (S' L' : Int) (n : Nat) :
    MI N D w b0 S' L' v k o (((wr.setCell ⟨b0, 0, none⟩ (.int .i64 S')).setCell ⟨b0 + 1, 0, none⟩ (.int .i64 L')).drewN n) := by
  have hf := h.far
  refine ⟨?_, ?_, ?_, ?_, ?_, ?_, ?_, hf⟩
  · exact ownsRow_setCell_below (ownsRow_setCell_below h.own (a := ⟨b0, 0, none⟩) (by simp) _) (a := ⟨b0 + 1, 0, none⟩) (by simp) _
  · exact (h.hN.far (p := ⟨b0, 0, none⟩) (by simp; omega) _).far (p := ⟨b0 + 1, 0, none⟩) (by simp; omega) _
  · exact (h.hD.far (p := ⟨b0, 0, none⟩) (by simp; omega) _).far (p := ⟨b0 + 1, 0, none⟩) (by simp; omega) _
  · exact (h.hS.set 0 _).far (p := ⟨b0 + 1, 0, none⟩) (by simp) _
  · exact (h.hL.far (p := ⟨b0, 0, none⟩) (by simp) _).set 0 _
  · exact below_drewN ((h.bel.setCell (p := ⟨b0, 0, none⟩) (by simp; omega) _).setCell (p := ⟨b0 + 1, 0, none⟩) (by simp; omega) _) n
  · have := h.size; simpa [World.setCell, World.drewN] using this
theorem MI.append (h : MI N D w b0 S L v k o wr) (x : Int) (hown : w1.ownsRow (b0 + 2) 3 1 v' (k + 1) (o.map (Value.int .i64) ++ [.int .i64 x])) (hg : wr.grownBy w1 v.ownBlock) :
    MI N D w b0 S L v' (k + 1) (o ++ [x]) w1 := by
  have hf := h.far
  have hne : ∀ g, g < b0 + 2 → some g ≠ v.ownBlock := fun g hg' he => by
    have := (h.own.lt g he.symm).1
    omega
  refine ⟨by simpa using hown, h.hN.grown hg (hne _ (by omega)), h.hD.grown hg (hne _ (by omega)), h.hS.grown hg (hne _ (by omega)), h.hL.grown hg (hne _ (by omega)), ?_, ?_, hf⟩
  · exact h.bel.grown hg h.bel.size (fun g he => by have := (h.own.lt g he).1; omega)
  · have := h.size; have := hg.size; omega
end

theorem more_mi (s S N D L : Int) (w wr : World) (b0 k : Nat) (v : Value) (o : List Int) (h : MI N D w b0 S L v k o wr)
    (h0 : -4611686018427387904 ≤ S + s) (h1 : S + s ≤ 4611686018427387904) (l0 : -70368744177664 ≤ L) (l1 : L ≤ 70368744177664) :
    Calls Try.prog 82 #[.int .i64 s, .pointer (some ⟨b0, 0, none⟩), .pointer (some ⟨w.heap.size, 0, none⟩), .pointer (some ⟨w.heap.size + 1, 0, none⟩), .pointer (some ⟨b0 + 1, 0, none⟩)] wr fun e w' =>
      e = .returned (.tuple #[.int .i64 (psV (S + s) N D - L), .int .i64 (psE (S + s) N D)]) ∧ MI N D w b0 (S + s) (psV (S + s) N D) v k o w' := by
  have hf := h.far
  refine (more_any s S N D L b0 w.heap.size (w.heap.size + 1) (b0 + 1) wr h.hS h.hN h.hD h.hL (by omega) (by omega) (by omega) h0 h1 l0 l1).mono ?_
  rintro e w' ⟨rfl, n, rfl⟩
  exact ⟨rfl, h.stores _ _ n⟩

/-- What the loop keeps. -/
def Inv (l : List G) (sign order N D : Int) (w : World) (b0 k : Nat) (S L : Int) (o : List Int) (v : Value) (wr : World) : Prop :=
  run sign order N D (l.take k) = some ⟨S, L, o⟩ ∧ Sz.In ⟨S, L, o⟩ k ∧ MI N D w b0 S L v k o wr

set_option maxRecDepth 100000 in
set_option maxHeartbeats 1000000 in
theorem sizes_stretch (A : Option Addr) (l : List G) (c : Nat) (order N D : Int) (w : World) (hrow : Row w A l) (hr : rowE l = 0) (ha : argOk 1 order = true) (hg : rngOk 1 N D = true) :
    Calls Try.prog 49 #[.slice A l.length c, .int .i64 1, .int .i64 order, .int .i64 N, .int .i64 D] w (SzOut l 1 order N D w) := by
  obtain ⟨hlen, hall⟩ := rowE_zero hr
  obtain ⟨-, -, a2, a3⟩ := argOk_iff.1 ha
  obtain ⟨⟨n0, n1⟩, ⟨d0, d1⟩, hsD⟩ := rngOk_iff.1 hg
  have hnN := nearB_yes n0 n1
  have hnD := nearB_yes d0 d1
  have hD1 : 1 ≤ D := by omega
  have hb2 : Below w.heap.size w ((w.alloc (.cells #[.int .i64 N] 3)).alloc (.cells #[.int .i64 D] 3)) := ((Below.refl _ _).alloc (Nat.le_refl _) _).alloc (by simp) _
  have hcall := row_any A l c _ (by unfold maxLen; omega) (hrow.up hb2)
  have HC := Lib.hid hcall
  have ht : (rowE l != 0) = false := by rw [hr]; rfl
  have HALL := Lib.hid hall
  have HR := Lib.hid hr
  have HA := Lib.hid ha
  have HG := Lib.hid hg
  have HROW := Lib.hid hrow
  generalize hn : l.length = n at *
  have HN := Lib.hid hn
  clear hcall hall hr ha hg hrow hn hsD
  go_enter Try.func49, Try.ntmps49
  go_upto_region 6 with (go_at_call 80; refine HC.out.mono ?_; rintro e w3 ⟨rfl, hb3⟩)
  have cN : w3.cell? ⟨w.heap.size, 0, none⟩ = some (.int .i64 N) := (hb3.cell (p := ⟨w.heap.size, 0, none⟩) (by simp; omega)).trans (by simp [World.cell?_alloc_lt, go_sem])
  have cD : w3.cell? ⟨w.heap.size + 1, 0, none⟩ = some (.int .i64 D) := (hb3.cell (p := ⟨w.heap.size + 1, 0, none⟩) (by simp)).trans (by simp [go_sem])
  have hz3 : w.heap.size + 2 ≤ w3.heap.size := by have := hb3.size; simp at this; omega
  go_wp2_with (go_at_call 81; refine (near_any _ _).mono ?_; rintro e w' ⟨rfl, rfl⟩)
  have hbel3 := hb2.trans (hb3.mono (B' := w.heap.size) (by simp; omega))
  have hN3 : Blk w3 w.heap.size 3 #[.int .i64 N] := ((Blk.new w 3 #[.int .i64 N]).alloc _).below hb3 (by simp; omega)
  have hD3 : Blk w3 (w.heap.size + 1) 3 #[.int .i64 D] := by
    have := (Blk.new (w.alloc (.cells #[.int .i64 N] 3)) 3 #[.int .i64 D]).below hb3 (by simp)
    simpa using this
  clear hb2 hb3 cN cD
  go_loopw [16, 62] (fun v i wr => ∃ (k : Nat) (S L : Int) (o : List Int), k ≤ n ∧ i = .int .i64 k ∧ Inv l 1 order N D w w3.heap.size k S L o v wr) (fun _ i _ => n - (intOf i).toNat)
  case atStart =>
    refine ⟨0, 0, 0, [], Nat.zero_le _, rfl, run_nil _ _ _ _, Sz.In.zero, ?_⟩
    exact ⟨World.ownsRow_nil _ _ _ _, ((hN3.alloc _).alloc _), ((hD3.alloc _).alloc _), (Blk.new _ _ _).alloc _, by simpa using Blk.new (w3.alloc (.cells #[.int .i64 0] 3)) 3 #[.int .i64 0], (hbel3.alloc hbel3.size _).alloc (by have := hbel3.size; simp; omega) _, by simp, hz3⟩
  case round =>
    obtain ⟨k, S, L, o, hk, rfl, hrun, hin, hM⟩ := hrel
    obtain ⟨b0, hb0⟩ : ∃ b0, w3.heap.size = b0 := ⟨_, rfl⟩
    rw [hb0] at hM ⊢
    have HRUN := Lib.hid hrun
    have HIN := Lib.hid hin
    have HM := Lib.hid hM
    clear hrun hin
    by_cases hlt : k < n
    · obtain ⟨g, hgk⟩ : ∃ g, l[k]? = some g := ⟨_, List.getElem?_eq_getElem (by rw [HN.out]; exact hlt)⟩
      have hgok : g.ok = true := List.all_eq_true.1 HALL.out g (List.mem_of_getElem? hgk)
      obtain ⟨⟨m0, m1⟩, ⟨s0, s1⟩, ⟨t0, t1⟩, -, -⟩ := glueB_iff.1 hgok
      obtain ⟨b, off, rfl, c0, c1, c2, c3, c4⟩ := HROW.out.cells hM.bel hgk
      obtain ⟨S0, S1, ⟨L0, L1⟩, -⟩ := HIN.out
      simp only at S0 S1 L0 L1
      have HGK := Lib.hid hgk
      have HGO := Lib.hid hgok
      have hstep := run_snoc (sign := 1) (order := order) (N := N) (D := D) hgk HRUN.out
      have HST := Lib.hid hstep
      clear hM hgk hgok hstep
      by_cases hao : g.a = order
      · have hao' : (g.a == order) = true := by simp [hao]
        have HAO := Lib.hid hao
        have hpv := psV_bd (S + g.s) N D
        have p0 := hpv.1
        have p1 := hpv.2
        by_cases hE : psE (S + g.s) N D = 0
        · have hE' : (psE (S + g.s) N D != 0) = false := by rw [hE]; rfl
          have HE := Lib.hid hE
          clear hao hE hpv
          go_wp2_with (first
            | (go_at_call 82; refine (more_mi _ _ _ _ _ _ _ _ _ _ _ (HM.out.alloc _) (by omega) (by omega) L0 L1).mono ?_; rintro e w5 ⟨rfl, hM5⟩)
            | (at_builtin; refine wpList_push rfl _ _ 26 rfl (b0 + 2) 3 _ 1 8 Try.underlying26 info_int rfl (by decide) (by decide) _ _ _ rfl hM5.own hM5.size _ rfl rfl rfl (by simp) (by omega) ?_; intro v6 w6 hown6 hg6 hnn6))
          have hM6 := (hM5.alloc _).append _ hown6 hg6
          have hst := HST.out
          unfold step at hst
          rw [if_pos ⟨rfl, HAO.out⟩, if_pos HE.out] at hst
          have HST6 := Lib.hid hst
          have HM6 := Lib.hid hM6
          clear hM5 hM6 hst hown6 hg6 c0 c1 c2 c3 c4
          go_wp2_with fail
          go_roundw
          case rel => exact ⟨k + 1, _, _, _, by omega, by go_num, HST6.out, step_in HIN.out HGO.out (HST.out.symm.trans HST6.out), HM6.out⟩
          case measure => simp [intOf]; omega
        · have hE' : (psE (S + g.s) N D != 0) = true := by simp [hE]
          have HE := Lib.hid hE
          clear hao hE hpv
          go_wp2_with (go_at_call 82; refine (more_mi _ _ _ _ _ _ _ _ _ _ _ (HM.out.alloc _) (by omega) (by omega) L0 L1).mono ?_; rintro e w5 ⟨rfl, hM5⟩)
          go_ret2
          have hst : step 1 order N D ⟨S, L, o⟩ g = none := by
            unfold step
            rw [if_pos ⟨rfl, HAO.out⟩, if_neg HE.out]
          have hok : shOk (S + g.s) N D = true := share_ok (k := k + 1) HG.out (by omega) (by omega) (by push_cast; omega) (by push_cast; omega)
          exact SzOut.stop HR.out HA.out HG.out (run_stop HGK.out HRUN.out hst) ((psE_in hok).resolve_left HE.out) hM5.bel
      · have hao' : (g.a == order) = false := by simp [hao]
        have HAO := Lib.hid hao
        clear hao
        have hM5 := fun X => HM.out.alloc X
        have HM5 := Lib.hid hM5
        clear hM5
        go_wp2_with (at_builtin; refine wpList_push rfl _ _ 26 rfl (b0 + 2) 3 _ 1 8 Try.underlying26 info_int rfl (by decide) (by decide) _ _ _ rfl (HM5.out _).own (HM5.out _).size _ rfl rfl rfl (by simp) (by omega) ?_; intro v6 w6 hown6 hg6 hnn6)
        have hM6 := ((HM5.out _).alloc _).append _ hown6 hg6
        have hst := HST.out
        unfold step at hst
        rw [if_neg (fun h => HAO.out h.2), if_neg (by omega)] at hst
        have HST6 := Lib.hid hst
        have HM6 := Lib.hid hM6
        clear hM6 hst hown6 hg6 c0 c1 c2 c3 c4
        go_wp2_with fail
        go_roundw
        case rel => exact ⟨k + 1, _, _, _, by omega, by go_num, HST6.out, step_in HIN.out HGO.out (HST.out.symm.trans HST6.out), HM6.out⟩
        case measure => simp [intOf]; omega
    · obtain rfl : k = n := by omega
      have hrunl : run 1 order N D l = some ⟨S, L, o⟩ := by
        have := HRUN.out
        rwa [List.take_of_length_le (by rw [HN.out]; exact Nat.le_refl _)] at this
      have HRL := Lib.hid hrunl
      clear hM hrunl
      go_wp2_with fail
      go_ret2
      exact SzOut.ok HR.out HA.out HG.out HRL.out (by rw [HN.out]; exact own_base HM.out.own (by omega)) HM.out.bel

set_option maxRecDepth 100000 in
set_option maxHeartbeats 1000000 in
theorem sizes_shrink (A : Option Addr) (l : List G) (c : Nat) (order N D : Int) (w : World) (hrow : Row w A l) (hr : rowE l = 0) (ha : argOk 2 order = true) (hg : rngOk 2 N D = true) :
    Calls Try.prog 49 #[.slice A l.length c, .int .i64 2, .int .i64 order, .int .i64 N, .int .i64 D] w (SzOut l 2 order N D w) := by
  obtain ⟨hlen, hall⟩ := rowE_zero hr
  obtain ⟨-, -, a2, a3⟩ := argOk_iff.1 ha
  obtain ⟨⟨n0, n1⟩, ⟨d0, d1⟩, hsD⟩ := rngOk_iff.1 hg
  have hnN := nearB_yes n0 n1
  have hnD := nearB_yes d0 d1
  have hD1 : 1 ≤ D := by omega
  have hb2 : Below w.heap.size w ((w.alloc (.cells #[.int .i64 N] 3)).alloc (.cells #[.int .i64 D] 3)) := ((Below.refl _ _).alloc (Nat.le_refl _) _).alloc (by simp) _
  have hcall := row_any A l c _ (by unfold maxLen; omega) (hrow.up hb2)
  have HC := Lib.hid hcall
  have ht : (rowE l != 0) = false := by rw [hr]; rfl
  have HALL := Lib.hid hall
  have HR := Lib.hid hr
  have HA := Lib.hid ha
  have HG := Lib.hid hg
  have HROW := Lib.hid hrow
  generalize hn : l.length = n at *
  have HN := Lib.hid hn
  clear hcall hall hr ha hg hrow hn hsD
  go_enter Try.func49, Try.ntmps49
  go_upto_region 6 with (go_at_call 80; refine HC.out.mono ?_; rintro e w3 ⟨rfl, hb3⟩)
  have cN : w3.cell? ⟨w.heap.size, 0, none⟩ = some (.int .i64 N) := (hb3.cell (p := ⟨w.heap.size, 0, none⟩) (by simp; omega)).trans (by simp [World.cell?_alloc_lt, go_sem])
  have cD : w3.cell? ⟨w.heap.size + 1, 0, none⟩ = some (.int .i64 D) := (hb3.cell (p := ⟨w.heap.size + 1, 0, none⟩) (by simp)).trans (by simp [go_sem])
  have hz3 : w.heap.size + 2 ≤ w3.heap.size := by have := hb3.size; simp at this; omega
  go_wp2_with (go_at_call 81; refine (near_any _ _).mono ?_; rintro e w' ⟨rfl, rfl⟩)
  have hbel3 := hb2.trans (hb3.mono (B' := w.heap.size) (by simp; omega))
  have hN3 : Blk w3 w.heap.size 3 #[.int .i64 N] := ((Blk.new w 3 #[.int .i64 N]).alloc _).below hb3 (by simp; omega)
  have hD3 : Blk w3 (w.heap.size + 1) 3 #[.int .i64 D] := by
    have := (Blk.new (w.alloc (.cells #[.int .i64 N] 3)) 3 #[.int .i64 D]).below hb3 (by simp)
    simpa using this
  clear hb2 hb3 cN cD
  go_loopw [16, 62] (fun v i wr => ∃ (k : Nat) (S L : Int) (o : List Int), k ≤ n ∧ i = .int .i64 k ∧ Inv l 2 order N D w w3.heap.size k S L o v wr) (fun _ i _ => n - (intOf i).toNat)
  case atStart =>
    refine ⟨0, 0, 0, [], Nat.zero_le _, rfl, run_nil _ _ _ _, Sz.In.zero, ?_⟩
    exact ⟨World.ownsRow_nil _ _ _ _, ((hN3.alloc _).alloc _), ((hD3.alloc _).alloc _), (Blk.new _ _ _).alloc _, by simpa using Blk.new (w3.alloc (.cells #[.int .i64 0] 3)) 3 #[.int .i64 0], (hbel3.alloc hbel3.size _).alloc (by have := hbel3.size; simp; omega) _, by simp, hz3⟩
  case round =>
    obtain ⟨k, S, L, o, hk, rfl, hrun, hin, hM⟩ := hrel
    obtain ⟨b0, hb0⟩ : ∃ b0, w3.heap.size = b0 := ⟨_, rfl⟩
    rw [hb0] at hM ⊢
    have HRUN := Lib.hid hrun
    have HIN := Lib.hid hin
    have HM := Lib.hid hM
    clear hrun hin
    by_cases hlt : k < n
    · obtain ⟨g, hgk⟩ : ∃ g, l[k]? = some g := ⟨_, List.getElem?_eq_getElem (by rw [HN.out]; exact hlt)⟩
      have hgok : g.ok = true := List.all_eq_true.1 HALL.out g (List.mem_of_getElem? hgk)
      obtain ⟨⟨m0, m1⟩, ⟨s0, s1⟩, ⟨t0, t1⟩, -, -⟩ := glueB_iff.1 hgok
      obtain ⟨b, off, rfl, c0, c1, c2, c3, c4⟩ := HROW.out.cells hM.bel hgk
      obtain ⟨S0, S1, ⟨L0, L1⟩, -⟩ := HIN.out
      simp only at S0 S1 L0 L1
      have HGK := Lib.hid hgk
      have HGO := Lib.hid hgok
      have hstep := run_snoc (sign := 2) (order := order) (N := N) (D := D) hgk HRUN.out
      have HST := Lib.hid hstep
      clear hM hgk hgok hstep
      by_cases hao : g.b = order
      · have hao' : (g.b == order) = true := by simp [hao]
        have HAO := Lib.hid hao
        have hpv := psV_bd (S + g.h) N D
        have p0 := hpv.1
        have p1 := hpv.2
        by_cases hE : psE (S + g.h) N D = 0
        · have hE' : (psE (S + g.h) N D != 0) = false := by rw [hE]; rfl
          have HE := Lib.hid hE
          clear hao hE hpv
          go_wp2_with (first
            | (go_at_call 82; refine (more_mi _ _ _ _ _ _ _ _ _ _ _ (HM.out.alloc _) (by omega) (by omega) L0 L1).mono ?_; rintro e w5 ⟨rfl, hM5⟩)
            | (at_builtin; refine wpList_push rfl _ _ 26 rfl (b0 + 2) 3 _ 1 8 Try.underlying26 info_int rfl (by decide) (by decide) _ _ _ rfl hM5.own hM5.size _ rfl rfl rfl (by simp) (by omega) ?_; intro v6 w6 hown6 hg6 hnn6))
          have hM6 := (hM5.alloc _).append _ hown6 hg6
          have hst := HST.out
          unfold step at hst
          rw [if_neg (by omega), if_pos ⟨rfl, HAO.out⟩, if_pos HE.out] at hst
          have HST6 := Lib.hid hst
          have HM6 := Lib.hid hM6
          clear hM5 hM6 hst hown6 hg6 c0 c1 c2 c3 c4
          go_wp2_with fail
          go_roundw
          case rel => exact ⟨k + 1, _, _, _, by omega, by go_num, HST6.out, step_in HIN.out HGO.out (HST.out.symm.trans HST6.out), HM6.out⟩
          case measure => simp [intOf]; omega
        · have hE' : (psE (S + g.h) N D != 0) = true := by simp [hE]
          have HE := Lib.hid hE
          clear hao hE hpv
          go_wp2_with (go_at_call 82; refine (more_mi _ _ _ _ _ _ _ _ _ _ _ (HM.out.alloc _) (by omega) (by omega) L0 L1).mono ?_; rintro e w5 ⟨rfl, hM5⟩)
          go_ret2
          have hst : step 2 order N D ⟨S, L, o⟩ g = none := by
            unfold step
            rw [if_neg (by omega), if_pos ⟨rfl, HAO.out⟩, if_neg HE.out]
          have hok : shOk (S + g.h) N D = true := share_ok (k := k + 1) HG.out (by omega) (by omega) (by push_cast; omega) (by push_cast; omega)
          exact SzOut.stop HR.out HA.out HG.out (run_stop HGK.out HRUN.out hst) ((psE_in hok).resolve_left HE.out) hM5.bel
      · have hao' : (g.b == order) = false := by simp [hao]
        have HAO := Lib.hid hao
        clear hao
        have hM5 := fun X => HM.out.alloc X
        have HM5 := Lib.hid hM5
        clear hM5
        go_wp2_with (at_builtin; refine wpList_push rfl _ _ 26 rfl (b0 + 2) 3 _ 1 8 Try.underlying26 info_int rfl (by decide) (by decide) _ _ _ rfl (HM5.out _).own (HM5.out _).size _ rfl rfl rfl (by simp) (by omega) ?_; intro v6 w6 hown6 hg6 hnn6)
        have hM6 := ((HM5.out _).alloc _).append _ hown6 hg6
        have hst := HST.out
        unfold step at hst
        rw [if_neg (by omega), if_neg (fun h => HAO.out h.2)] at hst
        have HST6 := Lib.hid hst
        have HM6 := Lib.hid hM6
        clear hM6 hst hown6 hg6 c0 c1 c2 c3 c4
        go_wp2_with fail
        go_roundw
        case rel => exact ⟨k + 1, _, _, _, by omega, by go_num, HST6.out, step_in HIN.out HGO.out (HST.out.symm.trans HST6.out), HM6.out⟩
        case measure => simp [intOf]; omega
    · obtain rfl : k = n := by omega
      have hrunl : run 2 order N D l = some ⟨S, L, o⟩ := by
        have := HRUN.out
        rwa [List.take_of_length_le (by rw [HN.out]; exact Nat.le_refl _)] at this
      have HRL := Lib.hid hrunl
      clear hM hrunl
      go_wp2_with fail
      go_ret2
      exact SzOut.ok HR.out HA.out HG.out HRL.out (by rw [HN.out]; exact own_base HM.out.own (by omega)) HM.out.bel

set_option maxRecDepth 100000 in
set_option maxHeartbeats 1000000 in
theorem sizes_still (A : Option Addr) (l : List G) (c : Nat) (order N D : Int) (w : World) (hrow : Row w A l) (hr : rowE l = 0) (ha : argOk 0 order = true) (hg : rngOk 0 N D = true) :
    Calls Try.prog 49 #[.slice A l.length c, .int .i64 0, .int .i64 order, .int .i64 N, .int .i64 D] w (SzOut l 0 order N D w) := by
  obtain ⟨hlen, hall⟩ := rowE_zero hr
  obtain ⟨-, -, a2, a3⟩ := argOk_iff.1 ha
  obtain ⟨⟨n0, n1⟩, ⟨d0, d1⟩, hsD⟩ := rngOk_iff.1 hg
  have hnN := nearB_yes n0 n1
  have hnD := nearB_yes d0 d1
  have hb2 : Below w.heap.size w ((w.alloc (.cells #[.int .i64 N] 3)).alloc (.cells #[.int .i64 D] 3)) := ((Below.refl _ _).alloc (Nat.le_refl _) _).alloc (by simp) _
  have hcall := row_any A l c _ (by unfold maxLen; omega) (hrow.up hb2)
  have HC := Lib.hid hcall
  have ht : (rowE l != 0) = false := by rw [hr]; rfl
  have HALL := Lib.hid hall
  have HR := Lib.hid hr
  have HA := Lib.hid ha
  have HG := Lib.hid hg
  have HROW := Lib.hid hrow
  generalize hn : l.length = n at *
  have HN := Lib.hid hn
  clear hcall hall hr ha hg hrow hn hsD
  go_enter Try.func49, Try.ntmps49
  go_upto_region 6 with (go_at_call 80; refine HC.out.mono ?_; rintro e w3 ⟨rfl, hb3⟩)
  have cN : w3.cell? ⟨w.heap.size, 0, none⟩ = some (.int .i64 N) := (hb3.cell (p := ⟨w.heap.size, 0, none⟩) (by simp; omega)).trans (by simp [World.cell?_alloc_lt, go_sem])
  have cD : w3.cell? ⟨w.heap.size + 1, 0, none⟩ = some (.int .i64 D) := (hb3.cell (p := ⟨w.heap.size + 1, 0, none⟩) (by simp)).trans (by simp [go_sem])
  have hz3 : w.heap.size + 2 ≤ w3.heap.size := by have := hb3.size; simp at this; omega
  go_wp2_with (go_at_call 81; refine (near_any _ _).mono ?_; rintro e w' ⟨rfl, rfl⟩)
  have hbel3 := hb2.trans (hb3.mono (B' := w.heap.size) (by simp; omega))
  have hN3 : Blk w3 w.heap.size 3 #[.int .i64 N] := ((Blk.new w 3 #[.int .i64 N]).alloc _).below hb3 (by simp; omega)
  have hD3 : Blk w3 (w.heap.size + 1) 3 #[.int .i64 D] := by
    have := (Blk.new (w.alloc (.cells #[.int .i64 N] 3)) 3 #[.int .i64 D]).below hb3 (by simp)
    simpa using this
  clear hb2 hb3 cN cD
  go_loopw [16, 62] (fun v i wr => ∃ (k : Nat) (S L : Int) (o : List Int), k ≤ n ∧ i = .int .i64 k ∧ Inv l 0 order N D w w3.heap.size k S L o v wr) (fun _ i _ => n - (intOf i).toNat)
  case atStart =>
    refine ⟨0, 0, 0, [], Nat.zero_le _, rfl, run_nil _ _ _ _, Sz.In.zero, ?_⟩
    exact ⟨World.ownsRow_nil _ _ _ _, ((hN3.alloc _).alloc _), ((hD3.alloc _).alloc _), (Blk.new _ _ _).alloc _, by simpa using Blk.new (w3.alloc (.cells #[.int .i64 0] 3)) 3 #[.int .i64 0], (hbel3.alloc hbel3.size _).alloc (by have := hbel3.size; simp; omega) _, by simp, hz3⟩
  case round =>
    obtain ⟨k, S, L, o, hk, rfl, hrun, hin, hM⟩ := hrel
    obtain ⟨b0, hb0⟩ : ∃ b0, w3.heap.size = b0 := ⟨_, rfl⟩
    rw [hb0] at hM ⊢
    have HRUN := Lib.hid hrun
    have HIN := Lib.hid hin
    have HM := Lib.hid hM
    clear hrun hin
    by_cases hlt : k < n
    · obtain ⟨g, hgk⟩ : ∃ g, l[k]? = some g := ⟨_, List.getElem?_eq_getElem (by rw [HN.out]; exact hlt)⟩
      have hgok : g.ok = true := List.all_eq_true.1 HALL.out g (List.mem_of_getElem? hgk)
      obtain ⟨⟨m0, m1⟩, ⟨s0, s1⟩, ⟨t0, t1⟩, -, -⟩ := glueB_iff.1 hgok
      obtain ⟨b, off, rfl, c0, c1, c2, c3, c4⟩ := HROW.out.cells hM.bel hgk
      obtain ⟨S0, S1, ⟨L0, L1⟩, -⟩ := HIN.out
      simp only at S0 S1 L0 L1
      have HGK := Lib.hid hgk
      have HGO := Lib.hid hgok
      have hstep := run_snoc (sign := 0) (order := order) (N := N) (D := D) hgk HRUN.out
      have HST := Lib.hid hstep
      clear hM hgk hgok hstep
      have hM5 := fun X => HM.out.alloc X
      have HM5 := Lib.hid hM5
      clear hM5
      go_wp2_with (at_builtin; refine wpList_push rfl _ _ 26 rfl (b0 + 2) 3 _ 1 8 Try.underlying26 info_int rfl (by decide) (by decide) _ _ _ rfl (HM5.out _).own (HM5.out _).size _ rfl rfl rfl (by simp) (by omega) ?_; intro v6 w6 hown6 hg6 hnn6)
      have hM6 := ((HM5.out _).alloc _).append _ hown6 hg6
      have hst := HST.out
      unfold step at hst
      rw [if_neg (by omega), if_neg (by omega)] at hst
      have HST6 := Lib.hid hst
      have HM6 := Lib.hid hM6
      clear hM6 hst hown6 hg6 c0 c1 c2 c3 c4
      go_wp2_with fail
      go_roundw
      case rel => exact ⟨k + 1, _, _, _, by omega, by go_num, HST6.out, step_in HIN.out HGO.out (HST.out.symm.trans HST6.out), HM6.out⟩
      case measure => simp [intOf]; omega
    · obtain rfl : k = n := by omega
      have hrunl : run 0 order N D l = some ⟨S, L, o⟩ := by
        have := HRUN.out
        rwa [List.take_of_length_le (by rw [HN.out]; exact Nat.le_refl _)] at this
      have HRL := Lib.hid hrunl
      clear hM hrunl
      go_wp2_with fail
      go_ret2
      exact SzOut.ok HR.out HA.out HG.out HRL.out (by rw [HN.out]; exact own_base HM.out.own (by omega)) HM.out.bel

end Go.Proofs.Ytoboecenlangmaa.Gl
