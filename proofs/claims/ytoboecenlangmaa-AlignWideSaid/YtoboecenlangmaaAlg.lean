import Derived.Test.YtoboecenlangmaaAlp
import Derived.Test.YtoboecenlangmaaNodeRt
import Derived.Deep.LoopGhost
import Derived.Deep.RegionHeldLaw
import Derived.OneCell
/- given: rows in memory of their own. Conditions: those that each theorem names. -/
namespace Go.Proofs.Ytoboecenlangmaa.Al
open Go.ChangeShapes Go.WideShapes Go.ChangeAt Go.RowKit
open Me Np No
set_option linter.unusedVariables false
set_option linter.unusedSimpArgs false

structure GI (w : World) (rs : List Rw) (i : Nat) (v : Value) (done : List Rw) (wr : World) : Prop where
  own : wr.ownsRow w.heap.size 36 2 v i (done.flatMap Rw.vals)
  dat : done.map Rw.d = (rs.take i).map Rw.d
  ok : ∀ r ∈ done, r.Ok wr (fun b => w.heap.size ≤ b ∧ v.ownBlock ≠ some b)
  low : Below w.heap.size w wr
structure GC (W : World) (gx : Nat) (r : Rw) (E : Option Addr) (ke : Nat) (k : Nat) (v : Value) (done : List Cl) (wr : World) : Prop where
  blk : Blk wr gx 36 #[v, .slice E r.ex.length ke]
  own : wr.ownsRow (gx + 1) 38 2 v k (done.flatMap Cl.vals)
  dat : done.map Cl.d = (r.cs.take k).map Cl.d
  ok : ∀ x ∈ done, LsOk wr (fun b => gx < b ∧ v.ownBlock ≠ some b) x.A x.c x.l
  low : Below W.heap.size W wr
  ge : W.heap.size ≤ gx
  ext : LsOk wr (fun b => W.heap.size ≤ b ∧ b < gx) E ke r.ex

theorem take_map {α β γ : Type} {f : α → γ} {g : β → γ} {l : List α} {k : Nat} {x : α} {dn : List β} {y : β} (h : dn.map g = (l.take k).map f) (hx : l[k]? = some x) (hy : g y = f x) : (dn ++ [y]).map g = (l.take (k + 1)).map f := by
  rw [List.map_append, h, List.take_add_one, hx, List.map_append]
  simp [hy]
theorem GC.next {W0 wr W7 W8 : World} {gx : Nat} {r : Rw} {E : Option Addr} {ke k : Nat} {v : Value} {dn : List Cl} {x : Cl} {A7 A8 : Option Addr} {c7 c8 : Nat} (h : GC W0 gx r E ke k v dn wr) (hx : r.cs[k]? = some x) (hb7 : Below wr.heap.size wr W7)
    (h7 : LsOk W7 (fun b => wr.heap.size ≤ b) A7 c7 x.l) (hown : W8.ownsRow (gx + 1) 38 2 (.slice A8 (k + 1) c8) (k + 1) (dn.flatMap Cl.vals ++ [.slice A7 x.l.length c7, .int .i64 x.sp]))
    (hg : (W7.alloc (.cells #[.slice A7 x.l.length c7, .int .i64 x.sp] 38)).grownBy W8 v.ownBlock) (hv : (Value.slice A8 (k + 1) c8).ownBlock = v.ownBlock ∨ ∃ q, (Value.slice A8 (k + 1) c8).ownBlock = some q ∧ (W7.alloc (.cells #[.slice A7 x.l.length c7, .int .i64 x.sp] 38)).heap.size ≤ q) :
    GC W0 gx r E ke (k + 1) (.slice A8 (k + 1) c8) (dn ++ [⟨A7, c7, x.l, x.sp⟩]) (W8.setCell ⟨gx, 0, none⟩ (.slice A8 (k + 1) c8)) := by
  have hgl := h.blk.lt
  have hs7 := hb7.size
  have hlow8 : Below W0.heap.size W0 W8 := below_grown (Nat.le_refl _) (andAlloc (andThen h.low hb7) _) hg (fun q hq => by have := (h.own.lt q hq).1; have := h.ge; omega)
  have hne : some gx ≠ v.ownBlock := fun e => by have := (h.own.lt gx e.symm).1; omega
  have hvl : ∀ q, v.ownBlock = some q → gx < q ∧ q < wr.heap.size := fun q hq => by have := h.own.lt q hq; omega
  have hv8 : ∀ b, (Value.slice A8 (k + 1) c8).ownBlock = some b → v.ownBlock = some b ∨ W7.heap.size < b := fun b hb => by
    rcases hv with hv | ⟨q, hv, hq⟩
    · exact .inl (hv ▸ hb)
    · rw [hv] at hb
      injection hb with hb
      simp at hq
      exact .inr (by omega)
  refine ⟨?_, (by have := ownsRow_setCell_below hown (a := ⟨gx, 0, none⟩) (Nat.lt_succ_self _) (.slice A8 (k + 1) c8); simpa [List.flatMap_append, Cl.vals] using this), take_map h.dat hx rfl, ?_, hlow8.setCell h.ge _, h.ge, ?_⟩
  · have h1 : Blk W8 gx 36 #[v, .slice E r.ex.length ke] := (hg.block gx (by simp; omega) hne).trans ((Blk.below h.blk hb7 hgl).alloc _)
    have h2 := h1.set 0 (.slice A8 (k + 1) c8)
    simpa using h2
  · intro y hy
    rcases List.mem_append.1 hy with hy | hy
    · have h1 := (h.ok y hy).mono (S' := fun b => (gx < b ∧ v.ownBlock ≠ some b) ∧ b < wr.heap.size) fun b hb hs => ⟨hs, hb⟩
      have k1 : Kp (fun b => (gx < b ∧ v.ownBlock ≠ some b) ∧ b < wr.heap.size) wr (W8.setCell ⟨gx, 0, none⟩ (.slice A8 (k + 1) c8)) :=
        (((Kp.below _ hb7).trans (Kp.alloc _ _ _)).trans (Kp.grown hg fun b _ hs e => hs.1.2 e.symm)).trans (Kp.set fun b _ hs => by have := hs.1.1; simp; omega)
      refine (h1.keep k1).mono fun b _ hs => ⟨hs.1.1, fun e => ?_⟩
      rcases hv8 b e with h2 | h2
      · exact hs.1.2 h2
      · have := hs.2; omega
    · obtain rfl := List.mem_singleton.1 hy
      have h1 := h7.mono (S' := fun b => wr.heap.size ≤ b ∧ b < W7.heap.size) fun b hb hs => ⟨hs, hb⟩
      have k1 : Kp (fun b => wr.heap.size ≤ b ∧ b < W7.heap.size) W7 (W8.setCell ⟨gx, 0, none⟩ (.slice A8 (k + 1) c8)) :=
        ((Kp.alloc _ _ _).trans (Kp.grown hg fun b _ hs e => by have := hvl b e.symm; omega)).trans (Kp.set fun b _ hs => by simp; omega)
      refine (h1.keep k1).mono fun b _ hs => ⟨by omega, fun e => ?_⟩
      rcases hv8 b e with h2 | h2
      · have := hvl b h2; omega
      · omega
  · have k1 : Kp (fun b => W0.heap.size ≤ b ∧ b < gx) wr (W8.setCell ⟨gx, 0, none⟩ (.slice A8 (k + 1) c8)) :=
      (((Kp.below _ hb7).trans (Kp.alloc _ _ _)).trans (Kp.grown hg fun b _ hs e => by have := hvl b e.symm; omega)).trans (Kp.set fun b _ hs => by simp; omega)
    exact h.ext.keep k1
theorem GC.row {W0 wr : World} {gx : Nat} {r : Rw} {E : Option Addr} {ke : Nat} {A : Option Addr} {c : Nat} {dn : List Cl} (h : GC W0 gx r E ke r.cs.length (.slice A r.cs.length c) dn wr) (hl : r.cs.length ≤ 4398046511103) :
    dn.length = r.cs.length ∧ (⟨A, c, dn, E, ke, r.ex⟩ : Rw).Ok wr (fun b => W0.heap.size ≤ b) ∧ (⟨A, c, dn, E, ke, r.ex⟩ : Rw).d = r.d := by
  have hd := h.dat
  rw [List.take_length] at hd
  have hn : dn.length = r.cs.length := by have := congrArg List.length hd; simpa using this
  have hge := h.ge
  obtain ⟨A1, c1, e1, h1, _, _, h4⟩ := SegS.own (S := fun b => W0.heap.size ≤ b) h.own (fun b hb => by have := (h.own.lt b hb).1; omega)
  injection e1 with e1 _ e2
  subst e1 e2
  exact ⟨hn, ⟨by rw [hn]; exact h1, by rw [hn]; exact hl, h4, fun x hx => (h.ok x hx).mono fun b _ hs => by have := hs.1; omega, h.ext.mono fun b _ hs => hs.1⟩, by show (dn.map Cl.d, r.ex) = _; rw [hd]; rfl⟩
theorem GI.next {w W0 wr W9 : World} {rs : List Rw} {i : Nat} {v v' : Value} {done : List Rw} {r R : Rw} (h : GI w rs i v done W0) (hr : rs[i]? = some r) (hb : Below W0.heap.size W0 wr) (hR : R.Ok wr (fun b => W0.heap.size ≤ b)) (hd : R.d = r.d)
    (hown : W9.ownsRow w.heap.size 36 2 v' (i + 1) (done.flatMap Rw.vals ++ R.vals)) (hg : (wr.alloc (.cells R.vals.toArray 36)).grownBy W9 v.ownBlock) (hv : v'.ownBlock = v.ownBlock ∨ ∃ q, v'.ownBlock = some q ∧ (wr.alloc (.cells R.vals.toArray 36)).heap.size ≤ q) :
    GI w rs (i + 1) v' (done ++ [R]) W9 := by
  have hs := hb.size
  have hvl : ∀ q, v.ownBlock = some q → w.heap.size ≤ q ∧ q < W0.heap.size := fun q hq => h.own.lt q hq
  have hv8 : ∀ b, v'.ownBlock = some b → v.ownBlock = some b ∨ wr.heap.size < b := fun b hb => by
    rcases hv with hv | ⟨q, hv, hq⟩
    · exact .inl (hv ▸ hb)
    · rw [hv] at hb
      injection hb with hb
      simp at hq
      exact .inr (by omega)
  have hlw := h.low.size
  refine ⟨by simpa [List.flatMap_append] using hown, take_map h.dat hr hd, ?_, below_grown (Nat.le_refl _) (andAlloc (andThen h.low hb) _) hg fun q hq => (hvl q hq).1⟩
  intro y hy
  rcases List.mem_append.1 hy with hy | hy
  · have h1 := (h.ok y hy).mono (S' := fun b => (w.heap.size ≤ b ∧ v.ownBlock ≠ some b) ∧ b < W0.heap.size) fun b hb hs => ⟨hs, hb⟩
    have k1 : Kp (fun b => (w.heap.size ≤ b ∧ v.ownBlock ≠ some b) ∧ b < W0.heap.size) W0 W9 :=
      ((Kp.below _ hb).trans (Kp.alloc _ _ _)).trans (Kp.grown hg fun b _ hs e => hs.1.2 e.symm)
    refine (h1.keep k1).mono fun b _ hs => ⟨hs.1.1, fun e => ?_⟩
    rcases hv8 b e with h2 | h2
    · exact hs.1.2 h2
    · have := hs.2; omega
  · obtain rfl := List.mem_singleton.1 hy
    have h1 := hR.mono (S' := fun b => W0.heap.size ≤ b ∧ b < wr.heap.size) fun b hb hs => ⟨hs, hb⟩
    have k1 : Kp (fun b => W0.heap.size ≤ b ∧ b < wr.heap.size) wr W9 := (Kp.alloc _ _ _).trans (Kp.grown hg fun b _ hs e => by have := hvl b e.symm; omega)
    refine (h1.keep k1).mono fun b _ hs => ⟨by omega, fun e => ?_⟩
    rcases hv8 b e with h2 | h2
    · have := hvl b h2; omega
    · omega

set_option maxHeartbeats 4000000 in
set_option maxRecDepth 100000 in
theorem given_any (A : Option Addr) (rs : List Rw) (c : Nat) (w : World) (h : RsOk w (fun _ => True) A c rs) :
    Calls Try.prog 11 #[.slice A rs.length c] w fun e w' => ∃ v done, e = .returned v ∧ GI w rs rs.length v done w' := by
  have HR := Lib.hid h
  have hcap := h.cap
  have hlen := h.len
  clear h
  go_enter Try.func11, Try.ntmps11
  go_wp2_with fail
  go_loopw [3, 4] (fun v3 v4 wr => ∃ (i : Nat) (done : List Rw), i ≤ rs.length ∧ v4 = .int .i64 (i : Int) ∧ GI w rs i v3 done wr) (fun _ v4 _ => rs.length - (intOf v4).toNat)
  case atStart => exact ⟨0, [], by omega, rfl, ⟨World.ownsRow_nil _ _ _ _, rfl, by simp, Below.refl _ _⟩⟩
  case round =>
    obtain ⟨i, done, hi, rfl, hI⟩ := hrel
    have HI := Lib.hid hI
    by_cases hlt : i < rs.length
    · obtain ⟨r, hr⟩ := get_some hlt
      have hw := HR.out.below HI.out.low
      obtain ⟨b, off, rfl, hb, hc0, hc1⟩ := hw.row hr
      have hro := hw.get hr
      have HRO := Lib.hid hro
      have hxl := hro.extra.len
      clear hI hw hro
      have HA0 := Lib.hid (by simpa using World.ownsRow_made wr #[] 0 (e := 54) (size := 19) (Nat.le_refl _) (by simp [maxLen]) (by simp) : (wr.alloc (.cells #[] 54)).ownsRow wr.heap.size 54 19 (.slice (some ⟨wr.heap.size, 0, none⟩) 0 0) 0 [])
      have HSX := Lib.hid (fun (w' : World) (hb : Below wr.heap.size wr w') => (src_in HRO.out.extra.seg.seg HRO.out.extra.nil).below hb)
      go_upto_region 6 with (at_builtin; refine wpList_append_long rfl (.tmp 13) (.tmp 18) rfl wr.heap.size (by simp) (.slice (some ⟨wr.heap.size, 0, none⟩) 0 0) 0 [] rfl HA0.out r.E r.k r.ex rfl (HSX.out _ (andAlloc (Below.refl _ _) _)) (by omega) ?_; intro v5 w5 hown5 hg5; obtain ⟨E5, k5, rfl, hk5, _, hz5, hs5⟩ := SegS.own (S := fun b => wr.heap.size ≤ b) hown5 (fun b hb => (hown5.lt b hb).1))
      have hlow5 : Below wr.heap.size wr w5 := below_grown (Nat.le_refl _) (andAlloc (Below.refl _ _) _) hg5 (fun g hg => by
        have hg' : some wr.heap.size = some g := hg
        injection hg' with hg'
        omega)
      rw [Nat.zero_add] at hk5
      rw [List.nil_append] at hs5
      have hlow6 : Below wr.heap.size wr (w5.alloc (.cells #[.slice none 0 0, .slice E5 r.ex.length k5] 36)) := andAlloc hlow5 _
      have hext : LsOk (w5.alloc (.cells #[.slice none 0 0, .slice E5 r.ex.length k5] 36)) (fun b => wr.heap.size ≤ b ∧ b < w5.heap.size) E5 k5 r.ex :=
        ⟨hk5, hxl, hz5, (hs5.mono (S' := fun b => wr.heap.size ≤ b ∧ b < w5.heap.size) fun b h1 h2 => ⟨h2, h1⟩).keep (Kp.alloc _ _ _)⟩
      have hG0 : GC wr w5.heap.size r E5 k5 0 (.slice none 0 0) [] (w5.alloc (.cells #[.slice none 0 0, .slice E5 r.ex.length k5] 36)) :=
        ⟨Blk.new _ _ _, World.ownsRow_nil _ _ _ _, rfl, by simp, hlow6, hlow5.size, hext⟩
      have HG0 := Lib.hid hG0
      clear hG0 hext hlow6 hs5 hown5 hg5 HA0 HSX hc1
      generalize w5.alloc (.cells #[.slice none 0 0, .slice E5 r.ex.length k5] 36) = W6 at HG0 ⊢
      have HC0 := Lib.hid hc0
      obtain ⟨W0, rfl⟩ : ∃ W, W = wr := ⟨_, rfl⟩
      clear hc0
      go_wp2_with fail
      go_loopw [6] (fun v6 wr => ∃ (k : Nat) (v : Value) (dn : List Cl), k ≤ r.cs.length ∧ v6 = .int .i64 (k : Int) ∧ GC W0 w5.heap.size r E5 k5 k v dn wr) (fun v6 _ => r.cs.length - (intOf v6).toNat)
      case atStart => exact ⟨0, _, [], by omega, rfl, HG0.out⟩
      case round =>
        obtain ⟨k, v, dn, hk, rfl, hC⟩ := hrel
        have HC := Lib.hid hC
        have hc0 : wr.cell? ⟨b, off + i * 2, none⟩ = some (.slice r.A r.cs.length r.c) := (hC.low.cell (p := ⟨b, off + i * 2, none⟩) hb).trans HC0.out
        by_cases hlt2 : k < r.cs.length
        · obtain ⟨x, hx⟩ := get_some hlt2
          obtain ⟨b2, off2, hA2, hb2, hx0, hx1⟩ := HRO.out.cell hx
          rw [hA2] at hc0
          have hgxv : wr.cell? ⟨w5.heap.size, 0, none⟩ = some v := (hC.blk.cell 0).trans rfl
          have hgf := hC.blk.free 0
          have hgl := hC.blk.lt
          have HXO := Lib.hid ((HRO.out.get hx).keep (Kp.below _ hC.low))
          have hxl2 := HXO.out.len
          have HCS := Lib.hid (fun (w' : World) (hz : Below W0.heap.size W0 w') => And.intro ((hz.cell (p := ⟨b, off + i * 2, none⟩) hb).trans (HC0.out.trans (by rw [hA2]))) (And.intro ((hz.cell (p := ⟨b2, off2 + k * 2, none⟩) hb2).trans hx0) (And.intro ((hz.cell (p := ⟨b2, off2 + k * 2 + 1, none⟩) hb2).trans hx1) hz)))
          have hLow := hC.low
          have HXK := Lib.hid hx
          have HA0 := Lib.hid (by simpa using World.ownsRow_made wr #[] 0 (e := 54) (size := 19) (Nat.le_refl _) (by simp [maxLen]) (by simp) : (wr.alloc (.cells #[] 54)).ownsRow wr.heap.size 54 19 (.slice (some ⟨wr.heap.size, 0, none⟩) 0 0) 0 [])
          have HSX := Lib.hid (fun (w' : World) (hb : Below wr.heap.size wr w') => (src_in HXO.out.seg.seg HXO.out.nil).below hb)
          have HOV := Lib.hid (fun (w' : World) (hb : Below wr.heap.size wr w') => own_below HC.out.own hb)
          have HGX := Lib.hid (fun (w' : World) (hz : Below wr.heap.size wr w') => And.intro ((hz.cell (p := ⟨w5.heap.size, 0, none⟩) hgl).trans hgxv) ((hz.frozen (p := ⟨w5.heap.size, 0, none⟩) hgl).trans hgf))
          have hr32 : (k + 1) * 32 ≤ 140737488355328 := by have := HRO.out.len; omega
          have HLW := Lib.hid (show Below wr.heap.size wr (wr.alloc (.cells #[] 54)).drew from below_drewN (andAlloc (Below.refl _ _) _) 1)
          have hlt3 : (k : Int) < (r.cs.length : Int) := by omega
          have hHC := (HCS.out _ hLow).1
          have hHC1 := (HCS.out _ hLow).2.1
          have hHC2 := (HCS.out _ hLow).2.2.1
          clear hC hr hx hx0 hx1 hc0
          generalize w5.heap.size = gx at *
          go_upto_region 9 with fail
          refine wp_region_held_drew (S := fun w' => w'.cell? ⟨b, off + i * 2, none⟩ = some (.slice (some ⟨b2, off2, none⟩) r.cs.length r.c) ∧ w'.cell? ⟨b2, off2 + k * 2, none⟩ = some (.slice x.A x.l.length x.c) ∧ w'.cell? ⟨b2, off2 + k * 2 + 1, none⟩ = some (.int .i64 x.sp) ∧ Below W0.heap.size W0 w') (by kernel_rfl) (HCS.out _ (below_drewN hLow 1)) (fun hH => ?_)
          refine take_lit (i := 0) (v := (.pointer (some ⟨gx, 0, none⟩))) (by kernel_rfl) (by kernel_rfl) (by kernel_rfl) (by kernel_rfl) (fun _ _ _ _ h => h) hH (fun oi hoi => ?_)
          simp only [List.getElem?_toArray, List.getElem?_cons_succ, List.getElem?_cons_zero, Option.some.injEq] at hoi
          subst hoi
          refine ⟨.inl ⟨by rfl, fun w hSw => by (try dsimp only at hSw); first | (go_simp; done) | (go_simp; with_reducible rfl)⟩, ?_⟩
          simp only [Act.put, List.setIfInBounds_toArray, List.set_cons_zero, List.set_cons_succ]
          refine take_lit (i := 3) (v := (.slice (some ⟨b, off, none⟩) rs.length c)) (by kernel_rfl) (by kernel_rfl) (by kernel_rfl) (by kernel_rfl) (fun _ _ _ _ h => h) hH (fun oi hoi => ?_)
          simp only [List.getElem?_toArray, List.getElem?_cons_succ, List.getElem?_cons_zero, Option.some.injEq] at hoi
          subst hoi
          refine ⟨.inl ⟨by rfl, fun w hSw => by (try dsimp only at hSw); first | (go_simp; done) | (go_simp; with_reducible rfl)⟩, ?_⟩
          simp only [Act.put, List.setIfInBounds_toArray, List.set_cons_zero, List.set_cons_succ]
          refine take_lit (i := 4) (v := (.int .i64 (i : Int))) (by kernel_rfl) (by kernel_rfl) (by kernel_rfl) (by kernel_rfl) (fun _ _ _ _ h => h) hH (fun oi hoi => ?_)
          simp only [List.getElem?_toArray, List.getElem?_cons_succ, List.getElem?_cons_zero, Option.some.injEq] at hoi
          subst hoi
          refine ⟨.inl ⟨by rfl, fun w hSw => by (try dsimp only at hSw); first | (go_simp; done) | (go_simp; with_reducible rfl)⟩, ?_⟩
          simp only [Act.put, List.setIfInBounds_toArray, List.set_cons_zero, List.set_cons_succ]
          refine take_lit (i := 5) (v := (.pointer (some ⟨b, off + i * 2, none⟩))) (by kernel_rfl) (by kernel_rfl) (by kernel_rfl) (by kernel_rfl) (fun _ _ _ _ h => h) hH (fun oi hoi => ?_)
          simp only [List.getElem?_toArray, List.getElem?_cons_succ, List.getElem?_cons_zero, Option.some.injEq] at hoi
          subst hoi
          refine ⟨.inl ⟨by rfl, fun w hSw => by (try dsimp only at hSw); first | (go_simp; done) | (go_simp; with_reducible rfl)⟩, ?_⟩
          simp only [Act.put, List.setIfInBounds_toArray, List.set_cons_zero, List.set_cons_succ]
          refine take_lit (i := 6) (v := (.pointer (some ⟨b, off + i * 2, none⟩))) (by kernel_rfl) (by kernel_rfl) (by kernel_rfl) (by kernel_rfl) (fun _ _ _ _ h => h) hH (fun oi hoi => ?_)
          simp only [List.getElem?_toArray, List.getElem?_cons_succ, List.getElem?_cons_zero, Option.some.injEq] at hoi
          subst hoi
          refine ⟨.inl ⟨by rfl, fun w hSw => by (try dsimp only at hSw); first | (go_simp; done) | (go_simp; with_reducible rfl)⟩, ?_⟩
          simp only [Act.put, List.setIfInBounds_toArray, List.set_cons_zero, List.set_cons_succ]
          refine take_lit (i := 7) (v := (.slice (some ⟨b2, off2, none⟩) r.cs.length r.c)) (by kernel_rfl) (by kernel_rfl) (by kernel_rfl) (by kernel_rfl) (fun _ _ _ _ h => h) hH (fun oi hoi => ?_)
          simp only [List.getElem?_toArray, List.getElem?_cons_succ, List.getElem?_cons_zero, Option.some.injEq] at hoi
          subst hoi
          refine ⟨.inl ⟨by rfl, fun w hSw => by (try dsimp only at hSw); first | (go_simp; done) | (go_simp; with_reducible rfl)⟩, ?_⟩
          simp only [Act.put, List.setIfInBounds_toArray, List.set_cons_zero, List.set_cons_succ]
          refine take_lit (i := 8) (v := (.int .i64 (k : Int))) (by kernel_rfl) (by kernel_rfl) (by kernel_rfl) (by kernel_rfl) (fun _ _ _ _ h => h) hH (fun oi hoi => ?_)
          simp only [List.getElem?_toArray, List.getElem?_cons_succ, List.getElem?_cons_zero, Option.some.injEq] at hoi
          subst hoi
          refine ⟨.inl ⟨by rfl, fun w hSw => by (try dsimp only at hSw); first | (go_simp; done) | (go_simp; with_reducible rfl)⟩, ?_⟩
          simp only [Act.put, List.setIfInBounds_toArray, List.set_cons_zero, List.set_cons_succ]
          refine take_lit (i := 9) (v := (.pointer (some ⟨b2, off2 + k * 2, none⟩))) (by kernel_rfl) (by kernel_rfl) (by kernel_rfl) (by kernel_rfl) (fun _ _ _ _ h => h) hH (fun oi hoi => ?_)
          simp only [List.getElem?_toArray, List.getElem?_cons_succ, List.getElem?_cons_zero, Option.some.injEq] at hoi
          subst hoi
          refine ⟨.inl ⟨by rfl, fun w hSw => by (try dsimp only at hSw); first | (go_simp; done) | (go_simp; with_reducible rfl)⟩, ?_⟩
          simp only [Act.put, List.setIfInBounds_toArray, List.set_cons_zero, List.set_cons_succ]
          refine take_lit (i := 10) (v := (.pointer (some ⟨b2, off2 + k * 2, none⟩))) (by kernel_rfl) (by kernel_rfl) (by kernel_rfl) (by kernel_rfl) (fun _ _ _ _ h => h) hH (fun oi hoi => ?_)
          simp only [List.getElem?_toArray, List.getElem?_cons_succ, List.getElem?_cons_zero, Option.some.injEq] at hoi
          subst hoi
          refine ⟨.inl ⟨by rfl, fun w hSw => by (try dsimp only at hSw); first | (go_simp; done) | (go_simp; with_reducible rfl)⟩, ?_⟩
          simp only [Act.put, List.setIfInBounds_toArray, List.set_cons_zero, List.set_cons_succ]
          refine take_lit (i := 11) (v := (.slice x.A x.l.length x.c)) (by kernel_rfl) (by kernel_rfl) (by kernel_rfl) (by kernel_rfl) (fun _ _ _ _ h => h) hH (fun oi hoi => ?_)
          simp only [List.getElem?_toArray, List.getElem?_cons_succ, List.getElem?_cons_zero, Option.some.injEq] at hoi
          subst hoi
          refine ⟨.inl ⟨by rfl, fun w hSw => by (try dsimp only at hSw); first | (go_simp; done) | (go_simp; with_reducible rfl)⟩, ?_⟩
          simp only [Act.put, List.setIfInBounds_toArray, List.set_cons_zero, List.set_cons_succ]
          refine take_lit (i := 13) (v := (.slice (some ⟨b, off, none⟩) rs.length c)) (by kernel_rfl) (by kernel_rfl) (by kernel_rfl) (by kernel_rfl) (fun _ _ _ _ h => h) hH (fun oi hoi => ?_)
          simp only [List.getElem?_toArray, List.getElem?_cons_succ, List.getElem?_cons_zero, Option.some.injEq] at hoi
          subst hoi
          refine ⟨.inl ⟨by rfl, fun w hSw => by (try dsimp only at hSw); first | (go_simp; done) | (go_simp; with_reducible rfl)⟩, ?_⟩
          simp only [Act.put, List.setIfInBounds_toArray, List.set_cons_zero, List.set_cons_succ]
          refine take_lit (i := 14) (v := (.int .i64 (i : Int))) (by kernel_rfl) (by kernel_rfl) (by kernel_rfl) (by kernel_rfl) (fun _ _ _ _ h => h) hH (fun oi hoi => ?_)
          simp only [List.getElem?_toArray, List.getElem?_cons_succ, List.getElem?_cons_zero, Option.some.injEq] at hoi
          subst hoi
          refine ⟨.inl ⟨by rfl, fun w hSw => by (try dsimp only at hSw); first | (go_simp; done) | (go_simp; with_reducible rfl)⟩, ?_⟩
          simp only [Act.put, List.setIfInBounds_toArray, List.set_cons_zero, List.set_cons_succ]
          refine take_lit (i := 15) (v := (.pointer (some ⟨b, off + i * 2, none⟩))) (by kernel_rfl) (by kernel_rfl) (by kernel_rfl) (by kernel_rfl) (fun _ _ _ _ h => h) hH (fun oi hoi => ?_)
          simp only [List.getElem?_toArray, List.getElem?_cons_succ, List.getElem?_cons_zero, Option.some.injEq] at hoi
          subst hoi
          refine ⟨.inl ⟨by rfl, fun w hSw => by (try dsimp only at hSw); first | (go_simp; done) | (go_simp; with_reducible rfl)⟩, ?_⟩
          simp only [Act.put, List.setIfInBounds_toArray, List.set_cons_zero, List.set_cons_succ]
          refine take_lit (i := 16) (v := (.pointer (some ⟨b, off + i * 2, none⟩))) (by kernel_rfl) (by kernel_rfl) (by kernel_rfl) (by kernel_rfl) (fun _ _ _ _ h => h) hH (fun oi hoi => ?_)
          simp only [List.getElem?_toArray, List.getElem?_cons_succ, List.getElem?_cons_zero, Option.some.injEq] at hoi
          subst hoi
          refine ⟨.inl ⟨by rfl, fun w hSw => by (try dsimp only at hSw); first | (go_simp; done) | (go_simp; with_reducible rfl)⟩, ?_⟩
          simp only [Act.put, List.setIfInBounds_toArray, List.set_cons_zero, List.set_cons_succ]
          refine take_lit (i := 17) (v := (.slice (some ⟨b2, off2, none⟩) r.cs.length r.c)) (by kernel_rfl) (by kernel_rfl) (by kernel_rfl) (by kernel_rfl) (fun _ _ _ _ h => h) hH (fun oi hoi => ?_)
          simp only [List.getElem?_toArray, List.getElem?_cons_succ, List.getElem?_cons_zero, Option.some.injEq] at hoi
          subst hoi
          refine ⟨.inl ⟨by rfl, fun w hSw => by (try dsimp only at hSw); first | (go_simp; done) | (go_simp; with_reducible rfl)⟩, ?_⟩
          simp only [Act.put, List.setIfInBounds_toArray, List.set_cons_zero, List.set_cons_succ]
          refine take_lit (i := 18) (v := (.int .i64 (k : Int))) (by kernel_rfl) (by kernel_rfl) (by kernel_rfl) (by kernel_rfl) (fun _ _ _ _ h => h) hH (fun oi hoi => ?_)
          simp only [List.getElem?_toArray, List.getElem?_cons_succ, List.getElem?_cons_zero, Option.some.injEq] at hoi
          subst hoi
          refine ⟨.inl ⟨by rfl, fun w hSw => by (try dsimp only at hSw); first | (go_simp; done) | (go_simp; with_reducible rfl)⟩, ?_⟩
          simp only [Act.put, List.setIfInBounds_toArray, List.set_cons_zero, List.set_cons_succ]
          refine take_lit (i := 19) (v := (.pointer (some ⟨b2, off2 + k * 2, none⟩))) (by kernel_rfl) (by kernel_rfl) (by kernel_rfl) (by kernel_rfl) (fun _ _ _ _ h => h) hH (fun oi hoi => ?_)
          simp only [List.getElem?_toArray, List.getElem?_cons_succ, List.getElem?_cons_zero, Option.some.injEq] at hoi
          subst hoi
          refine ⟨.inl ⟨by rfl, fun w hSw => by (try dsimp only at hSw); first | (go_simp; done) | (go_simp; with_reducible rfl)⟩, ?_⟩
          simp only [Act.put, List.setIfInBounds_toArray, List.set_cons_zero, List.set_cons_succ]
          refine take_lit (i := 20) (v := (.pointer (some ⟨b2, off2 + k * 2 + 1, none⟩))) (by kernel_rfl) (by kernel_rfl) (by kernel_rfl) (by kernel_rfl) (fun _ _ _ _ h => h) hH (fun oi hoi => ?_)
          simp only [List.getElem?_toArray, List.getElem?_cons_succ, List.getElem?_cons_zero, Option.some.injEq] at hoi
          subst hoi
          refine ⟨.inl ⟨by rfl, fun w hSw => by (try dsimp only at hSw); first | (go_simp; done) | (go_simp; with_reducible rfl)⟩, ?_⟩
          simp only [Act.put, List.setIfInBounds_toArray, List.set_cons_zero, List.set_cons_succ]
          refine take_lit (i := 21) (v := (.int .i64 x.sp)) (by kernel_rfl) (by kernel_rfl) (by kernel_rfl) (by kernel_rfl) (fun _ _ _ _ h => h) hH (fun oi hoi => ?_)
          simp only [List.getElem?_toArray, List.getElem?_cons_succ, List.getElem?_cons_zero, Option.some.injEq] at hoi
          subst hoi
          refine ⟨.inl ⟨by rfl, fun w hSw => by (try dsimp only at hSw); first | (go_simp; done) | (go_simp; with_reducible rfl)⟩, ?_⟩
          simp only [Act.put, List.setIfInBounds_toArray, List.set_cons_zero, List.set_cons_succ]
          refine wpAnyH_ready (rs := [1, 2]) (by kernel_rfl) (by simp) (AllReadyH.cons rfl (fun K hK => ?_) (AllReadyH.cons rfl (fun K hK => ?_) (AllReadyH.nil)))
          · skip
            go_simp
            refine hK.out _ _ (HCS.out _ (by first | exact below_drewN hLow 1 | exact below_drewN (andAlloc hLow _) 1 | exact hL7 | exact andAlloc hL7 _ | exact hL8 | exact hL8.setCell hge8 _)) (fun hH1 => ?_)
            try simp only [Act.put, List.setIfInBounds_toArray, List.set_cons_zero, List.set_cons_succ]
            clear hK K
            refine wpAnyH_ready (rs := [2]) (by kernel_rfl) (by simp) (AllReadyH.cons rfl (fun K hK => ?_) (AllReadyH.nil))
            go_simp
            refine hK.out _ _ (HCS.out _ (by first | exact below_drewN hLow 1 | exact below_drewN (andAlloc hLow _) 1 | exact hL7 | exact andAlloc hL7 _ | exact hL8 | exact hL8.setCell hge8 _)) (fun hH2 => ?_)
            try simp only [Act.put, List.setIfInBounds_toArray, List.set_cons_zero, List.set_cons_succ]
            clear hK K
            refine wpAnyH_ready (rs := [12]) (by kernel_rfl) (by simp) (AllReadyH.cons rfl (fun K hK => ?_) (AllReadyH.nil))
            refine step_append_long rfl (.tmp 33) (.tmp 42) rfl wr.heap.size (by simp) (.slice (some ⟨wr.heap.size, 0, none⟩) 0 0) 0 [] rfl HA0.out x.A x.c x.l rfl (HSX.out _ HLW.out) (by omega) ?_
            intro v7 W7 hown7 hg7
            obtain ⟨A7, c7, rfl, hc7, _, hz7, hs7⟩ := SegS.own (S := fun b => wr.heap.size ≤ b) hown7 (fun b hb => (hown7.lt b hb).1)
            rw [Nat.zero_add] at hc7
            rw [List.nil_append] at hs7
            simp only [Nat.zero_add]
            have hB7 := below_grown (Nat.le_refl _) HLW.out hg7 (fun g hg => by have hg' : some wr.heap.size = some g := hg; injection hg' with hg'; omega)
            obtain ⟨z4, z5⟩ := HGX.out _ hB7
            have z6 := hB7.size
            have z7 := Nat.lt_of_lt_of_le hgl z6
            have hL7 := andThen hLow hB7
            have h7 : LsOk W7 (fun b => wr.heap.size ≤ b) A7 c7 x.l := ⟨hc7, hxl2, hz7, hs7⟩
            clear hown7 hg7 hs7
            refine hK.out _ _ (HCS.out _ (by first | exact below_drewN hLow 1 | exact below_drewN (andAlloc hLow _) 1 | exact hL7 | exact andAlloc hL7 _ | exact hL8 | exact hL8.setCell hge8 _)) (fun hH3 => ?_)
            try simp only [Act.put, List.setIfInBounds_toArray, List.set_cons_zero, List.set_cons_succ]
            clear hK K
            refine take_lit (i := 22) (v := (.agg #[.slice A7 x.l.length c7, .int .i64 x.sp])) (by kernel_rfl) (by kernel_rfl) (by kernel_rfl) (by kernel_rfl) (fun _ _ _ _ h => h) hH3 (fun oi hoi => ?_)
            simp only [List.getElem?_toArray, List.getElem?_cons_succ, List.getElem?_cons_zero, Option.some.injEq] at hoi
            subst hoi
            refine ⟨.inl ⟨by rfl, fun w hSw => by (try dsimp only at hSw); first | (go_simp; done) | (go_simp; with_reducible rfl)⟩, ?_⟩
            simp only [Act.put, List.setIfInBounds_toArray, List.set_cons_zero, List.set_cons_succ]
            refine wpAnyH_ready (rs := [23]) (by kernel_rfl) (by simp) (AllReadyH.cons rfl (fun K hK => ?_) (AllReadyH.nil))
            go_simp
            refine hK.out _ _ (HCS.out _ (by first | exact below_drewN hLow 1 | exact below_drewN (andAlloc hLow _) 1 | exact hL7 | exact andAlloc hL7 _ | exact hL8 | exact hL8.setCell hge8 _)) (fun hH4 => ?_)
            try simp only [Act.put, List.setIfInBounds_toArray, List.set_cons_zero, List.set_cons_succ]
            clear hK K
            refine wpAnyH_ready (rs := [24]) (by kernel_rfl) (by simp) (AllReadyH.cons rfl (fun K hK => ?_) (AllReadyH.nil))
            refine step_push rfl (.tmp 32) (.tmp 54) 33 rfl (gx + 1) 38 (.agg #[.slice none 0 0, .int .i64 0]) 2 32 Try.underlying33 info_cell rfl (by decide) (by decide) v k (dn.flatMap Cl.vals) rfl (HOV.out _ (andAlloc hB7 _)) (by simp; omega) ⟨W7.heap.size, 0, none⟩ 1 [.slice A7 x.l.length c7, .int .i64 x.sp] rfl rfl (new_cells (Blk.new _ _ _)) (by simp [Value.oneCell']) hr32 ?_
            intro v8 W8 hown8 hg8 hv8
            obtain ⟨A8, c8, rfl, hc8, _⟩ := SegS.own (S := fun _ => True) hown8 (fun _ _ => trivial)
            have hE8 := HGX.out (W7.alloc (.cells #[.slice A7 x.l.length c7, .int .i64 x.sp] 38)) (andAlloc hB7 _)
            have hne8 : some gx ≠ v.ownBlock := fun e => by have := (HC.out.own.lt gx e.symm).1; omega
            have hk8 := hg8.block gx (by simp; omega) hne8
            have y1 := (cell_block hk8 0).trans hE8.1
            have y2 := (frozen_block hk8 0).trans hE8.2
            have hge8 := HC.out.ge
            have hL8 : Below W0.heap.size W0 W8 := below_grown (Nat.le_refl _) (andAlloc hL7 _) hg8 (fun q hq => by have := (HC.out.own.lt q hq).1; have := HC.out.ge; omega)
            have HNX := Lib.hid (GC.next HC.out HXK.out hB7 h7 hown8 hg8 hv8)
            clear hown8 hg8 hv8 hk8 hE8
            refine hK.out _ _ (HCS.out _ (by first | exact below_drewN hLow 1 | exact below_drewN (andAlloc hLow _) 1 | exact hL7 | exact andAlloc hL7 _ | exact hL8 | exact hL8.setCell hge8 _)) (fun hH5 => ?_)
            try simp only [Act.put, List.setIfInBounds_toArray, List.set_cons_zero, List.set_cons_succ]
            clear hK K
            refine take_lit (i := 25) (v := (.pointer (some ⟨gx, 0, none⟩))) (by kernel_rfl) (by kernel_rfl) (by kernel_rfl) (by kernel_rfl) (fun _ _ _ _ h => h) hH5 (fun oi hoi => ?_)
            simp only [List.getElem?_toArray, List.getElem?_cons_succ, List.getElem?_cons_zero, Option.some.injEq] at hoi
            subst hoi
            refine ⟨.inl ⟨by rfl, fun w hSw => by (try dsimp only at hSw); first | (go_simp; done) | (go_simp; with_reducible rfl)⟩, ?_⟩
            simp only [Act.put, List.setIfInBounds_toArray, List.set_cons_zero, List.set_cons_succ]
            refine wpAnyH_ready (rs := [26]) (by kernel_rfl) (by simp) (AllReadyH.cons rfl (fun K hK => ?_) (AllReadyH.nil))
            go_simp
            refine hK.out _ _ (HCS.out _ (by first | exact below_drewN hLow 1 | exact below_drewN (andAlloc hLow _) 1 | exact hL7 | exact andAlloc hL7 _ | exact hL8 | exact hL8.setCell hge8 _)) (fun hH6 => ?_)
            try simp only [Act.put, List.setIfInBounds_toArray, List.set_cons_zero, List.set_cons_succ]
            clear hK K
            refine wpAnyH_done (by kernel_rfl) ?_ _
            skip
            go_wp2_with fail
            go_roundw
            case rel => exact ⟨k + 1, _, _, by omega, by go_num, HNX.out⟩
            case measure => simp [intOf]; omega
          · skip
            go_simp
            refine hK.out _ _ (HCS.out _ (by first | exact below_drewN hLow 1 | exact below_drewN (andAlloc hLow _) 1 | exact hL7 | exact andAlloc hL7 _ | exact hL8 | exact hL8.setCell hge8 _)) (fun hH1 => ?_)
            try simp only [Act.put, List.setIfInBounds_toArray, List.set_cons_zero, List.set_cons_succ]
            clear hK K
            refine wpAnyH_ready (rs := [1, 12]) (by kernel_rfl) (by simp) (AllReadyH.cons rfl (fun K hK => ?_) (AllReadyH.cons rfl (fun K hK => ?_) (AllReadyH.nil)))
            · skip
              go_simp
              refine hK.out _ _ (HCS.out _ (by first | exact below_drewN hLow 1 | exact below_drewN (andAlloc hLow _) 1 | exact hL7 | exact andAlloc hL7 _ | exact hL8 | exact hL8.setCell hge8 _)) (fun hH7 => ?_)
              try simp only [Act.put, List.setIfInBounds_toArray, List.set_cons_zero, List.set_cons_succ]
              clear hK K
              refine wpAnyH_ready (rs := [12]) (by kernel_rfl) (by simp) (AllReadyH.cons rfl (fun K hK => ?_) (AllReadyH.nil))
              refine step_append_long rfl (.tmp 33) (.tmp 42) rfl wr.heap.size (by simp) (.slice (some ⟨wr.heap.size, 0, none⟩) 0 0) 0 [] rfl HA0.out x.A x.c x.l rfl (HSX.out _ HLW.out) (by omega) ?_
              intro v7 W7 hown7 hg7
              obtain ⟨A7, c7, rfl, hc7, _, hz7, hs7⟩ := SegS.own (S := fun b => wr.heap.size ≤ b) hown7 (fun b hb => (hown7.lt b hb).1)
              rw [Nat.zero_add] at hc7
              rw [List.nil_append] at hs7
              simp only [Nat.zero_add]
              have hB7 := below_grown (Nat.le_refl _) HLW.out hg7 (fun g hg => by have hg' : some wr.heap.size = some g := hg; injection hg' with hg'; omega)
              obtain ⟨z4, z5⟩ := HGX.out _ hB7
              have z6 := hB7.size
              have z7 := Nat.lt_of_lt_of_le hgl z6
              have hL7 := andThen hLow hB7
              have h7 : LsOk W7 (fun b => wr.heap.size ≤ b) A7 c7 x.l := ⟨hc7, hxl2, hz7, hs7⟩
              clear hown7 hg7 hs7
              refine hK.out _ _ (HCS.out _ (by first | exact below_drewN hLow 1 | exact below_drewN (andAlloc hLow _) 1 | exact hL7 | exact andAlloc hL7 _ | exact hL8 | exact hL8.setCell hge8 _)) (fun hH8 => ?_)
              try simp only [Act.put, List.setIfInBounds_toArray, List.set_cons_zero, List.set_cons_succ]
              clear hK K
              refine take_lit (i := 22) (v := (.agg #[.slice A7 x.l.length c7, .int .i64 x.sp])) (by kernel_rfl) (by kernel_rfl) (by kernel_rfl) (by kernel_rfl) (fun _ _ _ _ h => h) hH8 (fun oi hoi => ?_)
              simp only [List.getElem?_toArray, List.getElem?_cons_succ, List.getElem?_cons_zero, Option.some.injEq] at hoi
              subst hoi
              refine ⟨.inl ⟨by rfl, fun w hSw => by (try dsimp only at hSw); first | (go_simp; done) | (go_simp; with_reducible rfl)⟩, ?_⟩
              simp only [Act.put, List.setIfInBounds_toArray, List.set_cons_zero, List.set_cons_succ]
              refine wpAnyH_ready (rs := [23]) (by kernel_rfl) (by simp) (AllReadyH.cons rfl (fun K hK => ?_) (AllReadyH.nil))
              go_simp
              refine hK.out _ _ (HCS.out _ (by first | exact below_drewN hLow 1 | exact below_drewN (andAlloc hLow _) 1 | exact hL7 | exact andAlloc hL7 _ | exact hL8 | exact hL8.setCell hge8 _)) (fun hH9 => ?_)
              try simp only [Act.put, List.setIfInBounds_toArray, List.set_cons_zero, List.set_cons_succ]
              clear hK K
              refine wpAnyH_ready (rs := [24]) (by kernel_rfl) (by simp) (AllReadyH.cons rfl (fun K hK => ?_) (AllReadyH.nil))
              refine step_push rfl (.tmp 32) (.tmp 54) 33 rfl (gx + 1) 38 (.agg #[.slice none 0 0, .int .i64 0]) 2 32 Try.underlying33 info_cell rfl (by decide) (by decide) v k (dn.flatMap Cl.vals) rfl (HOV.out _ (andAlloc hB7 _)) (by simp; omega) ⟨W7.heap.size, 0, none⟩ 1 [.slice A7 x.l.length c7, .int .i64 x.sp] rfl rfl (new_cells (Blk.new _ _ _)) (by simp [Value.oneCell']) hr32 ?_
              intro v8 W8 hown8 hg8 hv8
              obtain ⟨A8, c8, rfl, hc8, _⟩ := SegS.own (S := fun _ => True) hown8 (fun _ _ => trivial)
              have hE8 := HGX.out (W7.alloc (.cells #[.slice A7 x.l.length c7, .int .i64 x.sp] 38)) (andAlloc hB7 _)
              have hne8 : some gx ≠ v.ownBlock := fun e => by have := (HC.out.own.lt gx e.symm).1; omega
              have hk8 := hg8.block gx (by simp; omega) hne8
              have y1 := (cell_block hk8 0).trans hE8.1
              have y2 := (frozen_block hk8 0).trans hE8.2
              have hge8 := HC.out.ge
              have hL8 : Below W0.heap.size W0 W8 := below_grown (Nat.le_refl _) (andAlloc hL7 _) hg8 (fun q hq => by have := (HC.out.own.lt q hq).1; have := HC.out.ge; omega)
              have HNX := Lib.hid (GC.next HC.out HXK.out hB7 h7 hown8 hg8 hv8)
              clear hown8 hg8 hv8 hk8 hE8
              refine hK.out _ _ (HCS.out _ (by first | exact below_drewN hLow 1 | exact below_drewN (andAlloc hLow _) 1 | exact hL7 | exact andAlloc hL7 _ | exact hL8 | exact hL8.setCell hge8 _)) (fun hH10 => ?_)
              try simp only [Act.put, List.setIfInBounds_toArray, List.set_cons_zero, List.set_cons_succ]
              clear hK K
              refine take_lit (i := 25) (v := (.pointer (some ⟨gx, 0, none⟩))) (by kernel_rfl) (by kernel_rfl) (by kernel_rfl) (by kernel_rfl) (fun _ _ _ _ h => h) hH10 (fun oi hoi => ?_)
              simp only [List.getElem?_toArray, List.getElem?_cons_succ, List.getElem?_cons_zero, Option.some.injEq] at hoi
              subst hoi
              refine ⟨.inl ⟨by rfl, fun w hSw => by (try dsimp only at hSw); first | (go_simp; done) | (go_simp; with_reducible rfl)⟩, ?_⟩
              simp only [Act.put, List.setIfInBounds_toArray, List.set_cons_zero, List.set_cons_succ]
              refine wpAnyH_ready (rs := [26]) (by kernel_rfl) (by simp) (AllReadyH.cons rfl (fun K hK => ?_) (AllReadyH.nil))
              go_simp
              refine hK.out _ _ (HCS.out _ (by first | exact below_drewN hLow 1 | exact below_drewN (andAlloc hLow _) 1 | exact hL7 | exact andAlloc hL7 _ | exact hL8 | exact hL8.setCell hge8 _)) (fun hH11 => ?_)
              try simp only [Act.put, List.setIfInBounds_toArray, List.set_cons_zero, List.set_cons_succ]
              clear hK K
              refine wpAnyH_done (by kernel_rfl) ?_ _
              skip
              go_wp2_with fail
              go_roundw
              case rel => exact ⟨k + 1, _, _, by omega, by go_num, HNX.out⟩
              case measure => simp [intOf]; omega
            · skip
              refine step_append_long rfl (.tmp 33) (.tmp 42) rfl wr.heap.size (by simp) (.slice (some ⟨wr.heap.size, 0, none⟩) 0 0) 0 [] rfl HA0.out x.A x.c x.l rfl (HSX.out _ HLW.out) (by omega) ?_
              intro v7 W7 hown7 hg7
              obtain ⟨A7, c7, rfl, hc7, _, hz7, hs7⟩ := SegS.own (S := fun b => wr.heap.size ≤ b) hown7 (fun b hb => (hown7.lt b hb).1)
              rw [Nat.zero_add] at hc7
              rw [List.nil_append] at hs7
              simp only [Nat.zero_add]
              have hB7 := below_grown (Nat.le_refl _) HLW.out hg7 (fun g hg => by have hg' : some wr.heap.size = some g := hg; injection hg' with hg'; omega)
              obtain ⟨z4, z5⟩ := HGX.out _ hB7
              have z6 := hB7.size
              have z7 := Nat.lt_of_lt_of_le hgl z6
              have hL7 := andThen hLow hB7
              have h7 : LsOk W7 (fun b => wr.heap.size ≤ b) A7 c7 x.l := ⟨hc7, hxl2, hz7, hs7⟩
              clear hown7 hg7 hs7
              refine hK.out _ _ (HCS.out _ (by first | exact below_drewN hLow 1 | exact below_drewN (andAlloc hLow _) 1 | exact hL7 | exact andAlloc hL7 _ | exact hL8 | exact hL8.setCell hge8 _)) (fun hH7 => ?_)
              try simp only [Act.put, List.setIfInBounds_toArray, List.set_cons_zero, List.set_cons_succ]
              clear hK K
              refine take_lit (i := 22) (v := (.agg #[.slice A7 x.l.length c7, .int .i64 x.sp])) (by kernel_rfl) (by kernel_rfl) (by kernel_rfl) (by kernel_rfl) (fun _ _ _ _ h => h) hH7 (fun oi hoi => ?_)
              simp only [List.getElem?_toArray, List.getElem?_cons_succ, List.getElem?_cons_zero, Option.some.injEq] at hoi
              subst hoi
              refine ⟨.inl ⟨by rfl, fun w hSw => by (try dsimp only at hSw); first | (go_simp; done) | (go_simp; with_reducible rfl)⟩, ?_⟩
              simp only [Act.put, List.setIfInBounds_toArray, List.set_cons_zero, List.set_cons_succ]
              refine wpAnyH_ready (rs := [1, 23]) (by kernel_rfl) (by simp) (AllReadyH.cons rfl (fun K hK => ?_) (AllReadyH.cons rfl (fun K hK => ?_) (AllReadyH.nil)))
              · skip
                go_simp
                refine hK.out _ _ (HCS.out _ (by first | exact below_drewN hLow 1 | exact below_drewN (andAlloc hLow _) 1 | exact hL7 | exact andAlloc hL7 _ | exact hL8 | exact hL8.setCell hge8 _)) (fun hH12 => ?_)
                try simp only [Act.put, List.setIfInBounds_toArray, List.set_cons_zero, List.set_cons_succ]
                clear hK K
                refine wpAnyH_ready (rs := [23]) (by kernel_rfl) (by simp) (AllReadyH.cons rfl (fun K hK => ?_) (AllReadyH.nil))
                go_simp
                refine hK.out _ _ (HCS.out _ (by first | exact below_drewN hLow 1 | exact below_drewN (andAlloc hLow _) 1 | exact hL7 | exact andAlloc hL7 _ | exact hL8 | exact hL8.setCell hge8 _)) (fun hH13 => ?_)
                try simp only [Act.put, List.setIfInBounds_toArray, List.set_cons_zero, List.set_cons_succ]
                clear hK K
                refine wpAnyH_ready (rs := [24]) (by kernel_rfl) (by simp) (AllReadyH.cons rfl (fun K hK => ?_) (AllReadyH.nil))
                refine step_push rfl (.tmp 32) (.tmp 54) 33 rfl (gx + 1) 38 (.agg #[.slice none 0 0, .int .i64 0]) 2 32 Try.underlying33 info_cell rfl (by decide) (by decide) v k (dn.flatMap Cl.vals) rfl (HOV.out _ (andAlloc hB7 _)) (by simp; omega) ⟨W7.heap.size, 0, none⟩ 1 [.slice A7 x.l.length c7, .int .i64 x.sp] rfl rfl (new_cells (Blk.new _ _ _)) (by simp [Value.oneCell']) hr32 ?_
                intro v8 W8 hown8 hg8 hv8
                obtain ⟨A8, c8, rfl, hc8, _⟩ := SegS.own (S := fun _ => True) hown8 (fun _ _ => trivial)
                have hE8 := HGX.out (W7.alloc (.cells #[.slice A7 x.l.length c7, .int .i64 x.sp] 38)) (andAlloc hB7 _)
                have hne8 : some gx ≠ v.ownBlock := fun e => by have := (HC.out.own.lt gx e.symm).1; omega
                have hk8 := hg8.block gx (by simp; omega) hne8
                have y1 := (cell_block hk8 0).trans hE8.1
                have y2 := (frozen_block hk8 0).trans hE8.2
                have hge8 := HC.out.ge
                have hL8 : Below W0.heap.size W0 W8 := below_grown (Nat.le_refl _) (andAlloc hL7 _) hg8 (fun q hq => by have := (HC.out.own.lt q hq).1; have := HC.out.ge; omega)
                have HNX := Lib.hid (GC.next HC.out HXK.out hB7 h7 hown8 hg8 hv8)
                clear hown8 hg8 hv8 hk8 hE8
                refine hK.out _ _ (HCS.out _ (by first | exact below_drewN hLow 1 | exact below_drewN (andAlloc hLow _) 1 | exact hL7 | exact andAlloc hL7 _ | exact hL8 | exact hL8.setCell hge8 _)) (fun hH14 => ?_)
                try simp only [Act.put, List.setIfInBounds_toArray, List.set_cons_zero, List.set_cons_succ]
                clear hK K
                refine take_lit (i := 25) (v := (.pointer (some ⟨gx, 0, none⟩))) (by kernel_rfl) (by kernel_rfl) (by kernel_rfl) (by kernel_rfl) (fun _ _ _ _ h => h) hH14 (fun oi hoi => ?_)
                simp only [List.getElem?_toArray, List.getElem?_cons_succ, List.getElem?_cons_zero, Option.some.injEq] at hoi
                subst hoi
                refine ⟨.inl ⟨by rfl, fun w hSw => by (try dsimp only at hSw); first | (go_simp; done) | (go_simp; with_reducible rfl)⟩, ?_⟩
                simp only [Act.put, List.setIfInBounds_toArray, List.set_cons_zero, List.set_cons_succ]
                refine wpAnyH_ready (rs := [26]) (by kernel_rfl) (by simp) (AllReadyH.cons rfl (fun K hK => ?_) (AllReadyH.nil))
                go_simp
                refine hK.out _ _ (HCS.out _ (by first | exact below_drewN hLow 1 | exact below_drewN (andAlloc hLow _) 1 | exact hL7 | exact andAlloc hL7 _ | exact hL8 | exact hL8.setCell hge8 _)) (fun hH15 => ?_)
                try simp only [Act.put, List.setIfInBounds_toArray, List.set_cons_zero, List.set_cons_succ]
                clear hK K
                refine wpAnyH_done (by kernel_rfl) ?_ _
                skip
                go_wp2_with fail
                go_roundw
                case rel => exact ⟨k + 1, _, _, by omega, by go_num, HNX.out⟩
                case measure => simp [intOf]; omega
              · skip
                go_simp
                refine hK.out _ _ (HCS.out _ (by first | exact below_drewN hLow 1 | exact below_drewN (andAlloc hLow _) 1 | exact hL7 | exact andAlloc hL7 _ | exact hL8 | exact hL8.setCell hge8 _)) (fun hH12 => ?_)
                try simp only [Act.put, List.setIfInBounds_toArray, List.set_cons_zero, List.set_cons_succ]
                clear hK K
                refine wpAnyH_ready (rs := [1]) (by kernel_rfl) (by simp) (AllReadyH.cons rfl (fun K hK => ?_) (AllReadyH.nil))
                go_simp
                refine hK.out _ _ (HCS.out _ (by first | exact below_drewN hLow 1 | exact below_drewN (andAlloc hLow _) 1 | exact hL7 | exact andAlloc hL7 _ | exact hL8 | exact hL8.setCell hge8 _)) (fun hH16 => ?_)
                try simp only [Act.put, List.setIfInBounds_toArray, List.set_cons_zero, List.set_cons_succ]
                clear hK K
                refine wpAnyH_ready (rs := [24]) (by kernel_rfl) (by simp) (AllReadyH.cons rfl (fun K hK => ?_) (AllReadyH.nil))
                refine step_push rfl (.tmp 32) (.tmp 54) 33 rfl (gx + 1) 38 (.agg #[.slice none 0 0, .int .i64 0]) 2 32 Try.underlying33 info_cell rfl (by decide) (by decide) v k (dn.flatMap Cl.vals) rfl (HOV.out _ (andAlloc hB7 _)) (by simp; omega) ⟨W7.heap.size, 0, none⟩ 1 [.slice A7 x.l.length c7, .int .i64 x.sp] rfl rfl (new_cells (Blk.new _ _ _)) (by simp [Value.oneCell']) hr32 ?_
                intro v8 W8 hown8 hg8 hv8
                obtain ⟨A8, c8, rfl, hc8, _⟩ := SegS.own (S := fun _ => True) hown8 (fun _ _ => trivial)
                have hE8 := HGX.out (W7.alloc (.cells #[.slice A7 x.l.length c7, .int .i64 x.sp] 38)) (andAlloc hB7 _)
                have hne8 : some gx ≠ v.ownBlock := fun e => by have := (HC.out.own.lt gx e.symm).1; omega
                have hk8 := hg8.block gx (by simp; omega) hne8
                have y1 := (cell_block hk8 0).trans hE8.1
                have y2 := (frozen_block hk8 0).trans hE8.2
                have hge8 := HC.out.ge
                have hL8 : Below W0.heap.size W0 W8 := below_grown (Nat.le_refl _) (andAlloc hL7 _) hg8 (fun q hq => by have := (HC.out.own.lt q hq).1; have := HC.out.ge; omega)
                have HNX := Lib.hid (GC.next HC.out HXK.out hB7 h7 hown8 hg8 hv8)
                clear hown8 hg8 hv8 hk8 hE8
                refine hK.out _ _ (HCS.out _ (by first | exact below_drewN hLow 1 | exact below_drewN (andAlloc hLow _) 1 | exact hL7 | exact andAlloc hL7 _ | exact hL8 | exact hL8.setCell hge8 _)) (fun hH17 => ?_)
                try simp only [Act.put, List.setIfInBounds_toArray, List.set_cons_zero, List.set_cons_succ]
                clear hK K
                refine take_lit (i := 25) (v := (.pointer (some ⟨gx, 0, none⟩))) (by kernel_rfl) (by kernel_rfl) (by kernel_rfl) (by kernel_rfl) (fun _ _ _ _ h => h) hH17 (fun oi hoi => ?_)
                simp only [List.getElem?_toArray, List.getElem?_cons_succ, List.getElem?_cons_zero, Option.some.injEq] at hoi
                subst hoi
                refine ⟨.inl ⟨by rfl, fun w hSw => by (try dsimp only at hSw); first | (go_simp; done) | (go_simp; with_reducible rfl)⟩, ?_⟩
                simp only [Act.put, List.setIfInBounds_toArray, List.set_cons_zero, List.set_cons_succ]
                refine wpAnyH_ready (rs := [26]) (by kernel_rfl) (by simp) (AllReadyH.cons rfl (fun K hK => ?_) (AllReadyH.nil))
                go_simp
                refine hK.out _ _ (HCS.out _ (by first | exact below_drewN hLow 1 | exact below_drewN (andAlloc hLow _) 1 | exact hL7 | exact andAlloc hL7 _ | exact hL8 | exact hL8.setCell hge8 _)) (fun hH18 => ?_)
                try simp only [Act.put, List.setIfInBounds_toArray, List.set_cons_zero, List.set_cons_succ]
                clear hK K
                refine wpAnyH_done (by kernel_rfl) ?_ _
                skip
                go_wp2_with fail
                go_roundw
                case rel => exact ⟨k + 1, _, _, by omega, by go_num, HNX.out⟩
                case measure => simp [intOf]; omega
        · obtain rfl : k = r.cs.length := by omega
          obtain ⟨A9, c9, rfl, _⟩ := SegS.own (S := fun _ => True) hC.own (fun _ _ => trivial)
          obtain ⟨hn, hRO, hRD⟩ := GC.row hC HRO.out.len
          have hg0 : wr.cell? ⟨w5.heap.size, 0, none⟩ = some (.slice A9 r.cs.length c9) := (hC.blk.cell 0).trans rfl
          have hg1 : wr.cell? ⟨w5.heap.size, 1, none⟩ = some (.slice E5 r.ex.length k5) := (hC.blk.cell 1).trans rfl
          have hown := Lib.hid (own_below (own_below HI.out.own hC.low) (andAlloc (Below.refl wr.heap.size wr) (.cells #[.slice A9 r.cs.length c9, .slice E5 r.ex.length k5] 36)))
          have HRK := Lib.hid (And.intro hr (And.intro hRO (And.intro hRD (And.intro hn hC.low))))
          have hl48 : (i + 1) * 48 ≤ 140737488355328 := by omega
          have hsz := hC.low.size
          have hsw := HI.out.low.size
          clear hr hRO hRD hn hC
          generalize w5.heap.size = gx at *
          go_wp2_with (at_builtin; refine wpList_push2 rfl (.tmp 57) (.tmp 59) 24 rfl w.heap.size 36 (.agg #[.slice none 0 0, .slice none 0 0]) 2 48 Try.underlying24 info_row rfl (by decide) (by decide) u3 i (done.flatMap Rw.vals) rfl hown.out (by simp; omega) ⟨wr.heap.size, 0, none⟩ 1 [.slice A9 r.cs.length c9, .slice E5 r.ex.length k5] rfl rfl (new_cells (Blk.new _ _ _)) (by simp [Value.oneCell']) hl48 ?_; intro v9 W9 hown9 hg9 hv9)
          have HNX := Lib.hid (GI.next (R := ⟨A9, c9, dn, E5, k5, r.ex⟩) HI.out HRK.out.1 HRK.out.2.2.2.2 HRK.out.2.1 HRK.out.2.2.1 (by show W9.ownsRow _ _ _ _ _ (_ ++ [.slice A9 dn.length c9, .slice E5 r.ex.length k5]); rw [HRK.out.2.2.2.1]; exact hown9) (by show (wr.alloc (.cells #[.slice A9 dn.length c9, .slice E5 r.ex.length k5] _)).grownBy _ _; rw [HRK.out.2.2.2.1]; exact hg9) (by show _ ∨ ∃ q, _ ∧ (wr.alloc (.cells #[.slice A9 dn.length c9, .slice E5 r.ex.length k5] _)).heap.size ≤ q; rw [HRK.out.2.2.2.1]; exact hv9))
          clear hown9 hg9 hv9
          go_wp2_with fail
          go_roundw
          case rel => exact ⟨i + 1, _, by omega, by go_num, HNX.out⟩
          case measure => simp [intOf]; omega
    · obtain rfl : i = rs.length := by omega
      go_wp2_with fail
      go_ret
      exact ⟨_, _, rfl, HI.out⟩
end Go.Proofs.Ytoboecenlangmaa.Al
