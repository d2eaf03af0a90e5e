import Derived.Test.YtmcekdjhkjhcdaaHrd
import Derived.Test.YtmcekdjhkjhcdaaHb
/- The contracts of values, word, Values. Conditions: those that each theorem names. -/
namespace Go.Proofs.Ytmcekdjhkjhcdaa.Hy
open Go.ChangeShapes Go.WideShapes Go.ChangeAt Go.RowKit
open Me Hp
set_option linter.unusedVariables false
set_option linter.unusedSimpArgs false
attribute [local go_sem] Oper.semAt_some
attribute [local go_sem] wide_fn

theorem fits_in (n : Nat) (q : Addr) (s : ByteArray) (w : World) : CallsIn Fence.wide n Try.prog 123 #[.pointer (some q), .string s] w fun e w' =>
    e = .returned (.func (.func 142) #[] #[.pointer (some ⟨w.heap.size + 1, 0, none⟩), .pointer (some ⟨w.heap.size, 0, none⟩)]) ∧ w' = (w.alloc (.cells #[.pointer (some q)] 44)).alloc (.cells #[.string s] 9) := by
  refine callsIn_of_wp Try.func123 rfl trivial ?_ rfl
  simp only [Try.ntmps123, List.size_toArray, List.length_cons, List.length_nil, Nat.reduceAdd, Nat.reduceSub, Array.replicate_succ, Array.replicate_zero, List.push_toArray, List.append_toArray, List.nil_append, List.cons_append]
  gi_wp2
  go_ret
  exact ⟨rfl, rfl⟩
theorem edge_eq (s : ByteArray) : ((⟨#[46]⟩ : ByteArray) ++ s) ++ ⟨#[46]⟩ = S (edg s.data.toList) := by
  apply ByteArray.ext
  rw [ByteArray.data_append, ByteArray.data_append]
  apply Array.ext'
  simp [S, edg]
theorem edge_ok {l : List UInt8} (h : ∀ c ∈ l, isLet c = true) : ∀ c ∈ edg l, okS c = true := by
  intro c hc
  simp only [edg, List.mem_cons, List.mem_append, List.not_mem_nil, or_false] at hc
  rcases hc with rfl | hc | rfl
  · rfl
  · exact (let_ok c (h c hc)).1
  · rfl
theorem make_ints (n : Nat) (hn : n ≤ 1048576) (w : World) : (Instr.makeSlice 42 (.int .i64 (n : Int)) (.int .i64 (n : Int))).run Try.prog w = .ok (.slice (some ⟨w.heap.size, 0, none⟩) n n) (w.alloc (.cells (List.replicate n (iv 0)).toArray 3)) := by
  obtain ⟨i, hi, hz, hsi, hbi⟩ := info_parts info_int
  have h := run_make (P := Try.prog) w 42 3 i (.int .i64 0) Try.underlying42 hi hz .i64 .i64 (n : Int) (n : Int) (by omega) (Int.le_refl _) (by rw [hbi]; omega) (by omega)
  have e2 : madeCells #[Value.int .i64 0] n = (List.replicate n (iv 0)).toArray := by
    apply Array.ext'
    rw [toList_madeCells_one]
  simpa [hsi, Value.cells, e2] using h
def arr (l : List Int) : Array Value := (l.map iv).toArray
theorem blk_turn {W W' : World} {g : Nat} {t : TypeId} {cs : Array Value} {row : Option Nat} (h : Blk W g t cs) (hg : W.grownBy W' row) (hr : ∀ r, row = some r → ∃ o : Obj, W.heap[r]? = some o ∧ o.isCells = false) : Blk W' g t cs := by
  refine h.grown hg ?_
  intro e
  obtain ⟨o, ho, hc⟩ := hr g e.symm
  have h' : W.heap[g]? = some (.cells cs t (0, 0)) := h
  rw [h'] at ho
  injection ho with ho
  subst ho
  cases hc
/-- What values holds while it gathers. -/
structure Gat (w : World) (n : Nat) (ys : List Yd) (W : World) : Prop where
  row : Blk W w.heap.size 3 (arr (row0 n ys))
  box : Blk W (w.heap.size + 1) 42 #[.slice (some ⟨w.heap.size, 0, none⟩) n n]
  low : Below w.heap.size w W
structure Gaq (w : World) (n : Nat) (ys : List Yd) (y : Yd) (q : Nat) (W : World) : Prop where
  row : Blk W w.heap.size 3 (arr (rowq n ys y q))
  box : Blk W (w.heap.size + 1) 42 #[.slice (some ⟨w.heap.size, 0, none⟩) n n]
  low : Below w.heap.size w W
theorem Gat.own {w : World} {n E B : Nat} (hB : w.heap.size ≤ B) : OwnFrom B (fun (pre : List (Yv w E)) W => Gat w n (pre.map Yv.pr) W) := by
  intro pre W W' row h hg hr
  exact ⟨blk_turn h.row hg fun r e => (hr r e).2, blk_turn h.box hg fun r e => (hr r e).2, below_grown (a := w) (Nat.le_refl _) h.low hg fun k e => Nat.le_trans hB (hr k e).1⟩
theorem Gaq.step {w : World} {n : Nat} {ys : List Yd} {y : Yd} {q : Nat} {W : World} (h : Gaq w n ys y q W) (hq : y.1 + q < n) {z : Int} (hz : z = y.2.getD q 0) : Gaq w n ys y (q + 1) (W.setCell ⟨w.heap.size, y.1 + q, none⟩ (.int .i64 (max (mx ys (y.1 + q)) z))) := by
  subst hz
  refine ⟨?_, h.box.far (by simp) _, below_set h.low (Nat.le_refl _) _ _⟩
  have := h.row.set (y.1 + q) (.int .i64 (max (mx ys (y.1 + q)) (y.2.getD q 0)))
  have e : (arr (rowq n ys y q)).setIfInBounds (y.1 + q) (.int .i64 (max (mx ys (y.1 + q)) (y.2.getD q 0))) = arr (rowq n ys y (q + 1)) := by
    unfold arr
    rw [List.setIfInBounds_toArray, ← rowq_succ ys y q hq, List.map_set]
  rwa [e] at this
theorem Gaq.drewN {w : World} {n : Nat} {ys : List Yd} {y : Yd} {q : Nat} {W : World} (h : Gaq w n ys y q W) (k : Nat) : Gaq w n ys y q (W.drewN k) := ⟨h.row, h.box, below_drewN h.low k⟩
theorem fits_stops (n : Nat) (hn : 1 ≤ n) (B p : Nat) (P : List Pt) (v xv : Value) (s : ByteArray) (hok : ∀ c ∈ s.data.toList, okS c = true) (hs : s.size ≤ 65) (w W0 : World) (h : HyAt w B p P v xv) (bh be : Nat) (hb : Below w.heap.size w W0) (hbh : W0.cell? ⟨bh, 0, none⟩ = some (.pointer (some ⟨p, 0, none⟩))) (hbe : W0.cell? ⟨be, 0, none⟩ = some (.string s)) :
    SeqStopsK Fence.wide n Try.prog 142 #[.pointer (some ⟨be, 0, none⟩), .pointer (some ⟨bh, 0, none⟩)] (Yv.enc (w := w) (n := s.size)) (Kpw w bh be) (fun ys => ys.map Yv.pr = ya P s.data.toList s.size) (fun _ => True) 1000000 W0 := by
  intro l J Jx W hW hJ hJx hY h0
  have hlt1 : bh < W0.heap.size := block_lt_of_cell hbh
  have hlt2 : be < W0.heap.size := block_lt_of_cell hbe
  exact fits1_in n hn B p P v xv s hok hs w h l bh be J Jx
    (fun pre W k hj => hJ pre W (W.drewN k) none hj ⟨rfl, rfl, rfl, Nat.le_refl _, fun _ _ _ => rfl⟩ (fun r e => by cases e)) hY W
    (hb.trans (hW.mono hb.size)) ((hW.cell (p := ⟨bh, 0, none⟩) hlt1).trans hbh) ((hW.cell (p := ⟨be, 0, none⟩) hlt2).trans hbe) h0
theorem Kpw.set {w : World} {bh be g : Nat} (W : World) (j : Nat) (u : Value) (hg : w.heap.size ≤ g) (h1 : bh ≠ g) (h2 : be ≠ g) : Kpw w bh be W (W.setCell ⟨g, j, none⟩ u) :=
  ⟨below_set (Below.refl _ _) hg _ _, heap_setCell_other W ⟨g, j, none⟩ bh u (fun e => h1 (by simpa using e)), heap_setCell_other W ⟨g, j, none⟩ be u (fun e => h2 (by simpa using e))⟩
set_option maxRecDepth 100000 in
set_option maxHeartbeats 2000000 in
theorem values_any (B p : Nat) (P : List Pt) (v xv : Value) (s : ByteArray) (hok : ∀ c ∈ s.data.toList, isLet c = true) (h1 : 1 ≤ s.size) (hs : s.size ≤ 63) (w : World) (h : HyAt w B p P v xv) :
    Calls Try.prog 63 #[.pointer (some ⟨p, 0, none⟩), .string s] w fun e w' => e = .returned (.slice (some ⟨w.heap.size, 2, none⟩) (s.size - 1) (s.size + 1)) ∧ Blk w' w.heap.size 3 (arr (vrow P s.data.toList)) ∧ Below w.heap.size w w' := by
  refine (callsIn_wide (n := 3)).1 ?_
  have HH := Lib.hid h
  have HE := Lib.hid (edge_eq s)
  have HOK := Lib.hid (edge_ok hok)
  have hmk : ∀ u : World, (Instr.makeSlice 42 (.int .i64 ((s.size : Int) + 3)) (.int .i64 ((s.size : Int) + 3))).run Try.prog u = .ok (.slice (some ⟨u.heap.size, 0, none⟩) (s.size + 3) (s.size + 3)) (u.alloc (.cells (List.replicate (s.size + 3) (iv 0)).toArray 3)) := fun u => by
    have := make_ints (s.size + 3) (by omega) u
    push_cast at this
    exact this
  clear h hok
  refine callsIn_of_wp_marks Try.func63 rfl trivial ?_ rfl
  simp only [Try.ntmps63, List.size_toArray, List.length_cons, List.length_nil, Nat.reduceAdd, Nat.reduceSub, Array.replicate_succ, Array.replicate_zero, List.push_toArray, List.append_toArray, List.nil_append, List.cons_append]
  gi_wp2_with (gi_at_call 123; refine (fits_in _ _ _ _).mono ?_; rintro e w' ⟨rfl, rfl⟩)
  rw [HE.out]
  have hbl : Blk ((((w.alloc (.cells (Array.replicate (s.size + 3) (iv 0)) 3)).alloc (.cells #[.slice (some ⟨w.heap.size, 0, none⟩) (s.size + 3) (s.size + 3)] 42)).alloc (.cells #[.pointer (some ⟨p, 0, none⟩)] 44)).alloc (.cells #[.string (S (edg s.data.toList))] 9)) w.heap.size 3 (arr (row0 (s.size + 3) [])) := by
    have e : Array.replicate (s.size + 3) (iv 0) = arr (row0 (s.size + 3) []) := by
      rw [row0_nil]
      apply Array.ext'
      simp [arr]
    rw [e]
    exact (((Blk.new w 3 _).alloc _).alloc _).alloc _
  have hbx : Blk ((((w.alloc (.cells (Array.replicate (s.size + 3) (iv 0)) 3)).alloc (.cells #[.slice (some ⟨w.heap.size, 0, none⟩) (s.size + 3) (s.size + 3)] 42)).alloc (.cells #[.pointer (some ⟨p, 0, none⟩)] 44)).alloc (.cells #[.string (S (edg s.data.toList))] 9)) (w.heap.size + 1) 42 #[.slice (some ⟨w.heap.size, 0, none⟩) (s.size + 3) (s.size + 3)] := ((Blk.new' (by simp)).alloc _).alloc _
  have hbh : Blk ((((w.alloc (.cells (Array.replicate (s.size + 3) (iv 0)) 3)).alloc (.cells #[.slice (some ⟨w.heap.size, 0, none⟩) (s.size + 3) (s.size + 3)] 42)).alloc (.cells #[.pointer (some ⟨p, 0, none⟩)] 44)).alloc (.cells #[.string (S (edg s.data.toList))] 9)) (w.heap.size + 2) 44 #[.pointer (some ⟨p, 0, none⟩)] := (Blk.new' (by simp)).alloc _
  have hbe : Blk ((((w.alloc (.cells (Array.replicate (s.size + 3) (iv 0)) 3)).alloc (.cells #[.slice (some ⟨w.heap.size, 0, none⟩) (s.size + 3) (s.size + 3)] 42)).alloc (.cells #[.pointer (some ⟨p, 0, none⟩)] 44)).alloc (.cells #[.string (S (edg s.data.toList))] 9)) (w.heap.size + 3) 9 #[.string (S (edg s.data.toList))] := Blk.new' (by simp)
  have hlow : Below w.heap.size w ((((w.alloc (.cells (Array.replicate (s.size + 3) (iv 0)) 3)).alloc (.cells #[.slice (some ⟨w.heap.size, 0, none⟩) (s.size + 3) (s.size + 3)] 42)).alloc (.cells #[.pointer (some ⟨p, 0, none⟩)] 44)).alloc (.cells #[.string (S (edg s.data.toList))] 9)) := andAlloc (andAlloc (andAlloc (andAlloc (Below.refl _ _) _) _) _) _
  have hsz : ((((w.alloc (.cells (Array.replicate (s.size + 3) (iv 0)) 3)).alloc (.cells #[.slice (some ⟨w.heap.size, 0, none⟩) (s.size + 3) (s.size + 3)] 42)).alloc (.cells #[.pointer (some ⟨p, 0, none⟩)] 44)).alloc (.cells #[.string (S (edg s.data.toList))] 9)).heap.size = w.heap.size + 4 := by simp
  generalize ((((w.alloc (.cells (Array.replicate (s.size + 3) (iv 0)) 3)).alloc (.cells #[.slice (some ⟨w.heap.size, 0, none⟩) (s.size + 3) (s.size + 3)] 42)).alloc (.cells #[.pointer (some ⟨p, 0, none⟩)] 44)).alloc (.cells #[.string (S (edg s.data.toList))] 9)) = W0 at hbl hbx hbh hbe hlow hsz ⊢
  have hedl : (S (edg s.data.toList)).size = s.size + 2 := by rw [S_size, edg_len, size_list]
  have hG0 : Gat w (s.size + 3) [] W0 := ⟨hbl, hbx, hlow⟩
  refine wpIn_rangeFunc_ownG (α := Yv w (S (edg s.data.toList)).size) rfl (by omega) (gf := 142) (lb := #[.pointer (some ⟨w.heap.size + 3, 0, none⟩), .pointer (some ⟨w.heap.size + 2, 0, none⟩)]) rfl trivial (enters_of Try.func142 (by kernel_rfl) rfl)
    (fits_stops 2 (by omega) B p P v xv (S (edg s.data.toList)) HOK.out (by omega) w W0 HH.out (w.heap.size + 2) (w.heap.size + 3) hlow (hbh.cell 0) (hbe.cell 0)) Kpw.trans (fun W l o o' hl ho _ _ => Kpw.put W l o o' (by omega) (by omega) (by omega) ho) (Below.refl _ _) (fun _ => rfl)
    (fun pre W => Gat w (s.size + 3) (pre.map Yv.pr) W) (fun _ _ _ => False) (Gat.own (by omega)) (fun _ _ _ _ _ hs _ _ => hs) hG0
    ?a1 ?assign ?body ?done ?stop
  case assign =>
    intro l x W K hK
    dsimp only [Yv.enc]
    gi_wp2
    exact hK
  case body =>
    rintro l pre x W hG _
    obtain ⟨b, c, hsv, hbw, hcells⟩ := x.lies
    have hfit : x.at_ + x.vals.length ≤ s.size + 3 := by have := x.fits; omega
    have hlen := x.len
    rw [hsv]
    have HG := Lib.hid hG
    clear hG hsv
    gi_wp2
    gi_loopw [23] (fun v23 wr => ∃ q : Nat, q ≤ x.vals.length ∧ v23 = .int .i64 (q : Int) ∧ Gaq w (s.size + 3) (pre.map Yv.pr) x.pr q wr ∧ KeepsFrom W0.heap.size W wr ∧ Kpw w (w.heap.size + 2) (w.heap.size + 3) W wr) (fun v23 _ => x.vals.length - (intOf v23).toNat)
    case atStart =>
      exact ⟨0, by omega, rfl, ⟨by rw [rowq_zero]; exact HG.out.row, HG.out.box, HG.out.low⟩, KeepsFrom.refl _ _, Kpw.refl _ _ _ _⟩
    case round =>
      obtain ⟨q, hq, rfl, hQ, hkf, hkp⟩ := hrel
      by_cases hlt : q < x.vals.length
      · obtain ⟨z, hz⟩ : ∃ z, x.vals[q]? = some z := get_some hlt
        have hzb := x.dig z (List.mem_of_getElem? hz)
        have hzd : z = x.pr.2.getD q 0 := by
          show z = x.vals.getD q 0
          rw [List.getD_eq_getElem?_getD, hz]
          rfl
        have hcz : wr.cell? ⟨b, q, none⟩ = some (.int .i64 z) := (hQ.low.cell (p := ⟨b, q, none⟩) hbw).trans (hcells q _ (by rw [List.getElem?_map, hz]; rfl))
        have hold : wr.cell? ⟨w.heap.size, x.at_ + q, none⟩ = some (.int .i64 (mx (pre.map Yv.pr) (x.at_ + q))) := by
          rw [hQ.row.cell]
          unfold arr
          have h := rowq_get (n := s.size + 3) (pre.map Yv.pr) x.pr q (k := x.at_ + q) (by omega)
          rw [List.getElem?_toArray, List.getElem?_map, h]
          have e := mxq_here (pre.map Yv.pr) x.pr q
          have e' : x.pr.1 = x.at_ := rfl
          rw [e'] at e
          rw [e]
          rfl
        have hbx1 := hQ.box.cell 0
        have hfz := hQ.row.free (x.at_ + q)
        have hstep := hQ.step (z := z) (show x.pr.1 + q < s.size + 3 by have e' : x.pr.1 = x.at_ := rfl; omega) hzd
        have HST := Lib.hid hstep
        have HQ := Lib.hid (And.intro hkf hkp)
        have hin : (x.at_ : Int) + (q : Int) < (s.size : Int) + 3 := by omega
        have hin0 : (0 : Int) ≤ (x.at_ : Int) + (q : Int) := by omega
        have hin2 : ((x.at_ : Int) + (q : Int)).toNat = x.at_ + q := by omega
        have hwr : IntKind.i64.wrap ((x.at_ : Int) + (q : Int)) = (x.at_ : Int) + q := IntWalk.i64_in _ (by omega)
        clear hstep hQ hkf hkp hzd hcells hz
        gi_wp2
        have HSZ := Lib.hid hsz
        have e1 : x.pr.1 = x.at_ := rfl
        rw [e1] at HST
        have HX := Lib.hid (And.intro hfit hlen)
        have HHI := Lib.hid (And.intro hq hlt)
        clear hbl hbx hbh hbe hlow hsz hedl hG0 hmk HH HE HOK HG hfit hlen hq hlt e1 hzb h1 hbw
        generalize mx (pre.map Yv.pr) (x.at_ + q) = M0 at hold HST
        refine wpIn_region_round (S := fun w' => w'.cell? ⟨w.heap.size + 1, 0, none⟩ = some (.slice (some ⟨w.heap.size, 0, none⟩) (s.size + 3) (s.size + 3))) (by kernel_rfl) (by kernel_rfl) (fun _ _ h => h) ?_
        have HS0 : (fun w' : World => w'.cell? ⟨w.heap.size + 1, 0, none⟩ = some (.slice (some ⟨w.heap.size, 0, none⟩) (s.size + 3) (s.size + 3))) wr.drew := hbx1
        have hold' : wr.drew.cell? ⟨w.heap.size, x.at_ + q, none⟩ = some (.int .i64 M0) := hold
        have hfz' : wr.drew.frozen? ⟨w.heap.size, x.at_ + q, none⟩ = false := hfz
        refine take_lit (i := 0) (v := .slice (some ⟨w.heap.size, 0, none⟩) (s.size + 3) (s.size + 3)) (by kernel_rfl) (by kernel_rfl) (by kernel_rfl) (by kernel_rfl) (fun _ _ _ _ h => h) HS0 (fun oi hoi => ?_)
        simp only [List.getElem?_toArray, List.getElem?_cons_succ, List.getElem?_cons_zero, Option.some.injEq] at hoi
        subst hoi
        refine ⟨(yields_load (by rfl) _ _ rfl _ rfl (fun w' hw' => run_loadVar_one (by kernel_rfl) hw')), ?_⟩
        try simp only [Act.put, List.setIfInBounds_toArray, List.set_cons_zero, List.set_cons_succ]
        refine take_lit (i := 1) (v := .int .i64 (x.at_ : Int)) (by kernel_rfl) (by kernel_rfl) (by kernel_rfl) (by kernel_rfl) (fun _ _ _ _ h => h) HS0 (fun oi hoi => ?_)
        simp only [List.getElem?_toArray, List.getElem?_cons_succ, List.getElem?_cons_zero, Option.some.injEq] at hoi
        subst hoi
        refine ⟨(.inl ⟨by rfl, fun _ _ => by kernel_rfl⟩), ?_⟩
        try simp only [Act.put, List.setIfInBounds_toArray, List.set_cons_zero, List.set_cons_succ]
        refine take_lit (i := 2) (v := .int .i64 (q : Int)) (by kernel_rfl) (by kernel_rfl) (by kernel_rfl) (by kernel_rfl) (fun _ _ _ _ h => h) HS0 (fun oi hoi => ?_)
        simp only [List.getElem?_toArray, List.getElem?_cons_succ, List.getElem?_cons_zero, Option.some.injEq] at hoi
        subst hoi
        refine ⟨(.inl ⟨by rfl, fun _ _ => by kernel_rfl⟩), ?_⟩
        try simp only [Act.put, List.setIfInBounds_toArray, List.set_cons_zero, List.set_cons_succ]
        refine take_lit (i := 3) (v := .int .i64 ((x.at_ : Int) + (q : Int))) (by kernel_rfl) (by kernel_rfl) (by kernel_rfl) (by kernel_rfl) (fun _ _ _ _ h => h) HS0 (fun oi hoi => ?_)
        simp only [List.getElem?_toArray, List.getElem?_cons_succ, List.getElem?_cons_zero, Option.some.injEq] at hoi
        subst hoi
        refine ⟨(.inl ⟨by rfl, fun w' _ => by go_simp⟩), ?_⟩
        try simp only [Act.put, List.setIfInBounds_toArray, List.set_cons_zero, List.set_cons_succ]
        refine take_lit (i := 4) (v := .slice (some ⟨w.heap.size, 0, none⟩) (s.size + 3) (s.size + 3)) (by kernel_rfl) (by kernel_rfl) (by kernel_rfl) (by kernel_rfl) (fun _ _ _ _ h => h) HS0 (fun oi hoi => ?_)
        simp only [List.getElem?_toArray, List.getElem?_cons_succ, List.getElem?_cons_zero, Option.some.injEq] at hoi
        subst hoi
        refine ⟨(yields_load (by rfl) _ _ rfl _ rfl (fun w' hw' => run_loadVar_one (by kernel_rfl) hw')), ?_⟩
        try simp only [Act.put, List.setIfInBounds_toArray, List.set_cons_zero, List.set_cons_succ]
        refine take_lit (i := 5) (v := .int .i64 (x.at_ : Int)) (by kernel_rfl) (by kernel_rfl) (by kernel_rfl) (by kernel_rfl) (fun _ _ _ _ h => h) HS0 (fun oi hoi => ?_)
        simp only [List.getElem?_toArray, List.getElem?_cons_succ, List.getElem?_cons_zero, Option.some.injEq] at hoi
        subst hoi
        refine ⟨(.inl ⟨by rfl, fun _ _ => by kernel_rfl⟩), ?_⟩
        try simp only [Act.put, List.setIfInBounds_toArray, List.set_cons_zero, List.set_cons_succ]
        refine take_lit (i := 6) (v := .int .i64 (q : Int)) (by kernel_rfl) (by kernel_rfl) (by kernel_rfl) (by kernel_rfl) (fun _ _ _ _ h => h) HS0 (fun oi hoi => ?_)
        simp only [List.getElem?_toArray, List.getElem?_cons_succ, List.getElem?_cons_zero, Option.some.injEq] at hoi
        subst hoi
        refine ⟨(.inl ⟨by rfl, fun _ _ => by kernel_rfl⟩), ?_⟩
        try simp only [Act.put, List.setIfInBounds_toArray, List.set_cons_zero, List.set_cons_succ]
        refine take_lit (i := 7) (v := .int .i64 ((x.at_ : Int) + (q : Int))) (by kernel_rfl) (by kernel_rfl) (by kernel_rfl) (by kernel_rfl) (fun _ _ _ _ h => h) HS0 (fun oi hoi => ?_)
        simp only [List.getElem?_toArray, List.getElem?_cons_succ, List.getElem?_cons_zero, Option.some.injEq] at hoi
        subst hoi
        refine ⟨(.inl ⟨by rfl, fun w' _ => by go_simp⟩), ?_⟩
        try simp only [Act.put, List.setIfInBounds_toArray, List.set_cons_zero, List.set_cons_succ]
        refine take_lit (i := 8) (v := .pointer (some ⟨w.heap.size, x.at_ + q, none⟩)) (by kernel_rfl) (by kernel_rfl) (by kernel_rfl) (by kernel_rfl) (fun _ _ _ _ h => h) HS0 (fun oi hoi => ?_)
        simp only [List.getElem?_toArray, List.getElem?_cons_succ, List.getElem?_cons_zero, Option.some.injEq] at hoi
        subst hoi
        refine ⟨(.inl ⟨by rfl, fun w' _ => by go_simp⟩), ?_⟩
        try simp only [Act.put, List.setIfInBounds_toArray, List.set_cons_zero, List.set_cons_succ]
        refine take_lit (i := 10) (v := .int .i64 z) (by kernel_rfl) (by kernel_rfl) (by kernel_rfl) (by kernel_rfl) (fun _ _ _ _ h => h) HS0 (fun oi hoi => ?_)
        simp only [List.getElem?_toArray, List.getElem?_cons_succ, List.getElem?_cons_zero, Option.some.injEq] at hoi
        subst hoi
        refine ⟨(.inl ⟨by rfl, fun _ _ => by kernel_rfl⟩), ?_⟩
        try simp only [Act.put, List.setIfInBounds_toArray, List.set_cons_zero, List.set_cons_succ]
        refine wpAnyH_ready (rs := [9]) (by kernel_rfl) (by simp) (AllReadyH.cons rfl (fun K hK => ?_) AllReadyH.nil)
        go_simp
        refine hK.out _ _ HS0 (fun _ => ?_)
        clear hK
        try simp only [Act.put, List.setIfInBounds_toArray, List.set_cons_zero, List.set_cons_succ]
        refine wpAnyH_ready (rs := [11]) (by kernel_rfl) (by simp) (AllReadyH.cons rfl (fun K hK => ?_) AllReadyH.nil)
        go_simp
        refine hK.out _ _ HS0 (fun _ => ?_)
        clear hK
        try simp only [Act.put, List.setIfInBounds_toArray, List.set_cons_zero, List.set_cons_succ]
        refine wpAnyH_ready (rs := [12]) (by kernel_rfl) (by simp) (AllReadyH.cons rfl (fun K hK => ?_) AllReadyH.nil)
        go_simp
        refine hK.out _ _ HS0 (fun _ => ?_)
        clear hK
        try simp only [Act.put, List.setIfInBounds_toArray, List.set_cons_zero, List.set_cons_succ]
        refine wpAnyH_ready (rs := [13]) (by kernel_rfl) (by simp) (AllReadyH.cons rfl (fun K hK => ?_) AllReadyH.nil)
        go_simp
        refine hK.out _ _ ((World.cell?_setCell_far _ _ _ _ (by simp)).trans HS0) (fun _ => ?_)
        clear hK
        refine wpAnyH_done (by kernel_rfl) ?_ _
        try simp only [Act.put, List.setIfInBounds_toArray, List.set_cons_zero, List.set_cons_succ]
        have hq64 : (q : Int) < 64 := by have := HHI.out; have := HX.out; omega
        show Exit.inBlock 3 _ Exit.normal _ _
        clear hold hold' hfz hfz' HS0 hbx1 hcz hin hin0 hin2 hwr
        gi_wp2
        go_roundw
        case rel =>
          refine ⟨q + 1, by have := HHI.out; omega, by go_num, HST.out.drewN 1, ?_, ?_⟩
          · exact HQ.out.1.trans (((KeepsOthers.setCell _ _ _).trans (KeepsOthers.drew _)).from _)
          · exact HQ.out.2.trans ((Kpw.set _ _ _ (Nat.le_refl _) (by omega) (by omega)).trans (Kpw.drewN _ _ _ _ 1))
        case measure => have := HHI.out; simp [intOf]; omega
      · obtain rfl : q = x.vals.length := by omega
        have HEND := Lib.hid (And.intro hQ (And.intro hkf hkp))
        clear hQ hkf hkp hcells
        gi_wp2
        refine ⟨HEND.out.2.1, HEND.out.2.2, ?_⟩
        have h := HEND.out.1
        have e : rowq (s.size + 3) (pre.map Yv.pr) x.pr x.vals.length = row0 (s.size + 3) ((pre ++ [x]).map Yv.pr) := by
          rw [List.map_append]
          exact rowq_all _ _ x.pr
        exact ⟨by rw [← e]; exact h.row, h.box, h.low⟩
  case done =>
    rintro D ys W hD hys hG hK
    have hbx1 := hG.box.cell 0
    have hlt1 : (2 : Int) ≤ (s.size : Int) + 1 := by omega
    have hlt2 : (s.size : Int) + 1 ≤ (s.size : Int) + 3 := by omega
    have HG := Lib.hid hG
    clear hG
    gi_wp2
    refine ⟨by simp, .inl ⟨_, _, rfl, run_takeDeferred hK, ?_⟩⟩
    refine ⟨_, results_tmp rfl _ _ _, rfl, ?_, ?_⟩
    · have h := HG.out.row
      have e : row0 (s.size + 3) (ys.map Yv.pr) = vrow P s.data.toList := by
        rw [hys, hedl, S_list]
        unfold vrow
        rw [size_list]
      rw [e] at h
      exact blk_turn h (grownBy_putObj' _ D (.deferred none)) (fun r e => by cases e; exact ⟨_, hK, rfl⟩)
    · exact HG.out.low.trans (belowK_b (w := W0) (by omega) W D _ _ hD hK rfl rfl)
  case stop =>
    rintro D c pre W _ _ h _
    exact h.elim
end Go.Proofs.Ytmcekdjhkjhcdaa.Hy
