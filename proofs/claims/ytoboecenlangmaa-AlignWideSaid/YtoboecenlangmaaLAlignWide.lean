import Derived.Test.YtoboecenlangmaaMo4
/- AlignWide: no cell is wider than its columns with the skips between; of each column that is not gone one is just as wide. No conditions. -/
section
namespace Go.Proofs.Ytoboecenlangmaa.Al
open Go.RowKit (wrap64)

theorem ask_early {f : Nat → Int} {j : Nat} : ∀ {r : List (Int × Nat)} {a : Nat}, j < a → (∀ x ∈ r, 1 ≤ x.2) → ask f j a r = none
  | [], _, _, _ => rfl
  | c :: r, a, h, h1 => by
    have := h1 c (by simp)
    rw [ask, if_pos (by omega)]
/-- A row's cells, one by one: which columns are just as wide as one asks. -/
def jrow (f W : Nat → Int) : Nat → List (Int × Nat) → List Bool → List Bool
  | _, [], J => J
  | a, c :: r, J => jrow f W (a + c.2) r (J.set (a + c.2 - 1) (J.getD (a + c.2 - 1) false || decide (less f a (c.2 - 1) c.1 = W (a + c.2 - 1))))
def jall (f W : Nat → Int) : List (List (Int × Nat)) → List Bool → List Bool
  | [], J => J
  | r :: rs, J => jall f W rs (jrow f W 0 r J)
theorem jrow_len (f W : Nat → Int) : ∀ (r : List (Int × Nat)) (a : Nat) (J : List Bool), (jrow f W a r J).length = J.length
  | [], _, _ => rfl
  | c :: r, a, J => by rw [jrow, jrow_len f W r]; simp
theorem jall_len (f W : Nat → Int) : ∀ (rs : List (List (Int × Nat))) (J : List Bool), (jall f W rs J).length = J.length
  | [], _ => rfl
  | r :: rs, J => by rw [jall, jall_len f W rs, jrow_len]
theorem jrow_get {f W : Nat → Int} {j : Nat} : ∀ {r : List (Int × Nat)} {a : Nat} {J : List Bool} {b : Bool}, (∀ x ∈ r, 1 ≤ x.2) → J[j]? = some b → (jrow f W a r J)[j]? = some (b || decide (ask f j a r = some (W j)))
  | [], a, J, b, _, h => by simp [jrow, ask, h]
  | c :: r, a, J, b, h1, h => by
    have h2 := h1 c (by simp)
    have h3 : ∀ x ∈ r, 1 ≤ x.2 := fun x hx => h1 x (by simp [hx])
    have hj : j < J.length := by
      rcases Nat.lt_or_ge j J.length with h4 | h4
      · exact h4
      · rw [List.getElem?_eq_none h4] at h; cases h
    rw [jrow]
    rcases Nat.lt_trichotomy j (a + c.2 - 1) with h4 | h4 | h4
    · rw [jrow_get (b := b) h3 (by rw [List.getElem?_set_ne (by omega)]; exact h), ask_early (by omega) h3, ask, if_pos h4]
    · rw [jrow_get (b := b || decide (less f a (c.2 - 1) c.1 = W j)) h3 (by rw [← h4, List.getElem?_set_self hj, List.getD_eq_getElem?_getD, h]; rfl), ask_early (by omega) h3, ask, if_neg (by omega), if_pos h4.symm]
      rw [show j - a = c.2 - 1 by omega]
      simp
    · rw [jrow_get (b := b) h3 (by rw [List.getElem?_set_ne (by omega)]; exact h), ask, if_neg (by omega), if_neg (by omega)]
theorem jall_get {f W : Nat → Int} {j : Nat} : ∀ {rs : List (List (Int × Nat))} {J : List Bool} {b : Bool}, (∀ r ∈ rs, ∀ x ∈ r, 1 ≤ x.2) → J[j]? = some b → (jall f W rs J)[j]? = some (b || rs.any fun r => decide (ask f j 0 r = some (W j)))
  | [], J, b, _, h => by simp [jall, h]
  | r :: rs, J, b, h1, h => by
    rw [jall, jall_get (fun q hq => h1 q (by simp [hq])) (jrow_get (h1 r (by simp)) h)]
    simp [Bool.or_assoc]
/-- In the end just those columns are met that are not gone. -/
theorem jall_end {f W : Nat → Int} {j n : Nat} {rs : List (List (Int × Nat))} (h1 : ∀ r ∈ rs, ∀ x ∈ r, 1 ≤ x.2) (hj : j < n) (hW : W j = (colM f j none rs).getD 0) : (jall f W rs (List.replicate n false))[j]? = some (!(colM f j none rs).isNone) := by
  rw [jall_get (b := false) h1 (by simp [hj])]
  congr 1
  cases h : colM f j none rs with
  | none =>
    rw [colM_none] at h
    simp only [Bool.false_or, Option.isNone_none, Bool.not_true, List.any_eq_false, decide_eq_true_eq]
    intro r hr he
    rw [h.2 r hr] at he
    cases he
  | some x =>
    rw [h] at hW
    simp only [Bool.false_or, Option.isNone_some, Bool.not_false, List.any_eq_true, decide_eq_true_eq]
    rcases colM_is h with h2 | ⟨r, h2, h3⟩
    · cases h2
    · exact ⟨r, h2, by rw [h3, hW]; rfl⟩
/-- No cell asks for more than its last column has; that one is not gone. -/
theorem ask_le {f : Nat → Int} {rs : List (List (Int × Nat))} {r : List (Int × Nat)} {k : Nat} {c : Int × Nat} (hr : r ∈ rs) (h1 : ∀ x ∈ r, 1 ≤ x.2) (hk : r[k]? = some c) :
    ∃ x, colM f (pos r k + c.2 - 1) none rs = some x ∧ less f (pos r k) (c.2 - 1) c.1 ≤ x := by
  have h2 := ask_get (f := f) (j := pos r k + c.2 - 1) 0 h1 hk (by omega)
  rw [Nat.zero_add] at h2
  cases h : colM f (pos r k + c.2 - 1) none rs with
  | none =>
    rw [colM_none] at h
    rw [h.2 r hr] at h2
    cases h2
  | some x => exact ⟨x, rfl, (colM_ge h).2 r hr _ h2⟩
end Go.Proofs.Ytoboecenlangmaa.Al
end
section
namespace Go.Proofs.Ytoboecenlangmaa.Al
open Np
open Gl (G)
open Go.RowKit (wrap64)
set_option linter.unusedVariables false

theorem dim_bd {x : Int} (h : dimB x = true) : -1073741823 ≤ x ∧ x ≤ 1073741823 := by simpa [dimB] using h
theorem glue_dim {g : G} (h : g.ok = true) : -1073741823 ≤ g.n ∧ g.n ≤ 1073741823 := by
  unfold G.ok Gl.glueB at h
  exact (of_decide_eq_true h).1
/-- What is known of the columns. -/
structure ColsOk (ss : List G) (R : List (List (Int × Nat))) (C : Co) : Prop where
  n2 : 2 ≤ ss.length
  n257 : ss.length ≤ 257
  lw : C.w.length = ss.length - 1
  lg : C.g.length = ss.length - 1
  w : ∀ j : Nat, j < ss.length - 1 → C.w[j]? = some ((colM C.f j none R).getD 0)
  g : ∀ j : Nat, j < ss.length - 1 → C.g[j]? = some (colM C.f j none R).isNone
  wd : ∀ (j : Nat) (x : Int), C.w[j]? = some x → -1073741823 ≤ x ∧ x ≤ 1073741823
  sd : ∀ (j : Nat) (x : G), ss[j]? = some x → -1073741823 ≤ x.n ∧ x.n ≤ 1073741823
  f : ∀ (j : Nat) (x : G), ss[j + 1]? = some x → C.f j = C.w.getD j 0 + (if (colM C.f j none R).isNone = true then 0 else x.n)
theorem cols_ok {ss : List G} {ds : List RD} (h : mdE ss ds = 0) : ColsOk ss (ds.map cel) (mdC ss ds) ∧ ckE ss ds = 0 := by
  have hck : ckE ss ds = 0 := by
    unfold mdE at h
    split at h
    · assumption
    · rename_i h1
      exact absurd h h1
  have hall : (mdC ss ds).w.all dimB = true := by
    unfold mdE at h
    rw [if_pos hck] at h
    split at h
    · assumption
    · cases h
  have hb : 2 ≤ ss.length ∧ ss.length ≤ 257 ∧ ss.all G.ok = true := by
    have h1 := hck
    unfold ckE at h1
    split at h1
    · cases h1
    · split at h1
      · exact ⟨by omega, by omega, by assumption⟩
      · cases h1
  obtain ⟨l1, l2, l3⟩ := cols_len (ds.map cel) ss (ss.length - 1)
  have hwd : ∀ (j : Nat) (x : Int), (mdC ss ds).w[j]? = some x → -1073741823 ≤ x ∧ x ≤ 1073741823 := fun j x hx => dim_bd (List.all_eq_true.1 hall x (List.mem_of_getElem? hx))
  have hsd : ∀ (j : Nat) (x : G), ss[j]? = some x → -1073741823 ≤ x.n ∧ x.n ≤ 1073741823 := fun j x hx => glue_dim (List.all_eq_true.1 hb.2.2 x (List.mem_of_getElem? hx))
  refine ⟨⟨hb.1, hb.2.1, l1, l2, fun j hj => (cols_at _ ss hj).1, fun j hj => (cols_at _ ss hj).2, hwd, hsd, fun j x hx => ?_⟩, hck⟩
  have hj : j < ss.length - 1 := by
    rcases Nat.lt_or_ge (j + 1) ss.length with h1 | h1
    · omega
    · rw [List.getElem?_eq_none h1] at hx; cases hx
  have h1 := (cols_at (ds.map cel) ss hj).1
  have h2 := cols_skip (ds.map cel) ss hj hx
  have h3 := hwd j _ h1
  have h4 := hsd _ _ hx
  show wrap64 ((mdC ss ds).w.getD j 0 + ((mdC ss ds).s.getD (j + 1) gz).n) = _
  have e1 : (mdC ss ds).w.getD j 0 = (colM (mdC ss ds).f j none (ds.map cel)).getD 0 := by rw [List.getD_eq_getElem?_getD]; show ((cols (ds.map cel) ss (ss.length - 1)).w[j]?).getD 0 = _; rw [h1]; rfl
  have e2 : ((mdC ss ds).s.getD (j + 1) gz).n = if (colM (mdC ss ds).f j none (ds.map cel)).isNone = true then 0 else x.n := by
    rw [List.getD_eq_getElem?_getD]
    show (((cols (ds.map cel) ss (ss.length - 1)).s[j + 1]?).getD gz).n = _
    rw [h2]
    show (if _ then gz else x).n = _
    unfold mdC
    split <;> rfl
  rw [e1, e2]
  have h3' : -1073741823 ≤ (colM (mdC ss ds).f j none (ds.map cel)).getD 0 ∧ (colM (mdC ss ds).f j none (ds.map cel)).getD 0 ≤ 1073741823 := h3
  generalize (colM (mdC ss ds).f j none (ds.map cel)).getD 0 = y at h3' ⊢
  unfold wrap64
  split <;> omega
/-- How wide the columns a .. a + s - 1 are, with the skips between. -/
def roomV (C : Co) (a s : Nat) : Int := sumF C.f a (s - 1) + C.w.getD (a + s - 1) 0
/-- No cell asks for more; one that asks for just as much meets its column. -/
theorem room_ok {ss : List G} {R : List (List (Int × Nat))} {C : Co} (h : ColsOk ss R C) {r : List (Int × Nat)} {k : Nat} {c : Int × Nat} (hr : r ∈ R) (h1 : ∀ x ∈ r, 1 ≤ x.2) (hk : r[k]? = some c) (hp : pos r k + c.2 ≤ ss.length - 1) (hc : -1073741823 ≤ c.1 ∧ c.1 ≤ 1073741823) :
    less C.f (pos r k) (c.2 - 1) c.1 = c.1 - sumF C.f (pos r k) (c.2 - 1) ∧ c.1 ≤ roomV C (pos r k) c.2 ∧ C.g[pos r k + c.2 - 1]? = some false ∧ (decide (less C.f (pos r k) (c.2 - 1) c.1 = C.w.getD (pos r k + c.2 - 1) 0) = decide (c.1 = roomV C (pos r k) c.2)) := by
  have hs := h1 c (List.mem_of_getElem? hk)
  have h257 := h.n257
  have hF : ∀ i, pos r k ≤ i → i < pos r k + (c.2 - 1) → -4294967296 ≤ C.f i ∧ C.f i ≤ 4294967296 := fun i _ hi => by
    obtain ⟨g, hg⟩ : ∃ g, ss[i + 1]? = some g := ⟨_, List.getElem?_eq_getElem (by omega)⟩
    obtain ⟨x, hx⟩ : ∃ x, C.w[i]? = some x := ⟨_, List.getElem?_eq_getElem (by rw [h.lw]; omega)⟩
    have e := h.f i g hg
    have e1 := h.wd i x hx
    have e2 := h.sd _ g hg
    rw [List.getD_eq_getElem?_getD, hx, Option.getD_some] at e
    rw [e]
    split <;> omega
  have hl := less_sum (f := C.f) (n := c.1) (by omega) (pos r k) (c.2 - 1) (by omega) hF
  obtain ⟨x, hx, hle⟩ := ask_le (f := C.f) hr h1 hk
  have hj : pos r k + c.2 - 1 < ss.length - 1 := by omega
  have hw := h.w _ hj
  have hg := h.g _ hj
  rw [hx] at hw hg
  have hwv : C.w.getD (pos r k + c.2 - 1) 0 = x := by rw [List.getD_eq_getElem?_getD, hw]; rfl
  refine ⟨hl, ?_, hg, ?_⟩
  · unfold roomV
    rw [hwv]
    omega
  · unfold roomV
    rw [hl, hwv]
    congr 1
    apply propext
    constructor <;> intro h <;> omega
end Go.Proofs.Ytoboecenlangmaa.Al
end
section
namespace Go.Proofs.Ytoboecenlangmaa.Al
open Go.ChangeShapes Go.WideShapes Go.ChangeAt Go.RowKit
open Me Np No
open Gl (G Row)
set_option linter.unusedVariables false
set_option linter.unusedSimpArgs false

theorem wide_al (x : Cl) (w : World) (h : LsOk w (fun _ => True) x.A x.c x.l) (hE : (wd x.l).1 = 0) :
    Calls Try.prog 15 #[.agg #[.slice x.A x.l.length x.c, .int .i64 x.sp]] w fun e w' => e = .returned (.int .i64 (wd x.l).2) ∧ Below w.heap.size w w' := by
  have hxl := h.len
  obtain ⟨hdim, ⟨Lb, Lo, bad, ov, E⟩, hRE, hl1, hl2, hgd, hbd, hcall⟩ := wd_is x.l (by omega)
  simp only at hRE hl1 hl2 hgd hbd
  have HCALL := Lib.hid (fun (w' : World) (hb : Below w.heap.size w w') => hcall x.A x.c w' h.cap (Seg.belowW h.seg.seg hb))
  rw [hE] at hRE
  subst hRE
  obtain ⟨n0, r0, hLb, hn0⟩ := hgd hE
  have hla : ((Lb.length : Int) == 0) = false := by rw [hLb]; simp; omega
  have hlb : (0 : Int) < (Lb.length : Int) := by rw [hLb]; simp
  have hlc : 0 < Lb.length := by rw [hLb]; simp
  have HLB := Lib.hid (And.intro hLb hn0)
  clear hLb hn0 hgd hbd hdim hcall h hE
  go_enter Try.func15, Try.ntmps15
  go_wp2_with fail
  refine (HCALL.out _ (andAlloc (Below.refl _ _) _)).mono ?_
  rintro e w5 ⟨vb, vo, rfl, oao, hb5⟩
  obtain ⟨Ab, xb, f0, hxb⟩ := Pk.val_own oao.one
  obtain ⟨Ao, xo, f1, _⟩ := Pk.val_own oao.two
  simp only at f0 f1
  subst f0 f1
  obtain ⟨b1, o1, rfl, hce⟩ := Pk.head_cells oao.one HLB.out.1
  have hcw := (hce w5 (Below.refl _ _)).1
  rw [HLB.out.2] at hcw
  have HB5 := Lib.hid (andThen (andAlloc (Below.refl w.heap.size w) (.cells #[.slice x.A x.l.length x.c, .int .i64 x.sp] 38)) hb5)
  clear oao hb5 hce HLB hxb
  simp only
  generalize Lb.length = la at *
  go_wp2_with (first | (go_at_call 13; refine (num21 _ _).mono ?_; rintro e wz ⟨rfl, rfl⟩))
  go_ret
  exact ⟨rfl, HB5.out⟩
theorem info_bo : (Try.prog.info? 4).map (fun i => (i.zero, i.size, i.bytes)) = some (some (.bool false), 1, 1) := info_b
theorem make_bools (n : Nat) (hn : n ≤ 1048576) (w : World) : (Instr.makeSlice 27 (.int .i64 (n : Int)) (.int .i64 (n : Int))).run Try.prog w = .ok (.slice (some ⟨w.heap.size, 0, none⟩) n n) (w.alloc (.cells ((List.replicate n false).map boolV).toArray 4)) := by
  obtain ⟨i, hi, hz, hsi, hbi⟩ := info_parts info_b
  have h := run_make (P := Try.prog) w 27 4 i (.bool false) Try.underlying27 hi hz .i64 .i64 (n : Int) (n : Int) (by omega) (Int.le_refl _) (by rw [hbi]; omega) (by omega)
  have e2 : madeCells #[Value.bool false] n = ((List.replicate n false).map boolV).toArray := by
    apply Array.ext'
    rw [toList_madeCells_one]
    simp [boolV]
  simpa [hsi, Value.cells, e2] using h
end Go.Proofs.Ytoboecenlangmaa.Al
end
section
namespace Go.Proofs.Ytoboecenlangmaa.Al
open Go.ChangeShapes Go.WideShapes Go.ChangeAt Go.RowKit
open Me Np No
open Gl (G Row)
set_option linter.unusedVariables false
set_option linter.unusedSimpArgs false

/-- The row 'just', in memory. -/
structure JS (w3 : World) (n : Nat) (J : List Bool) (wr : World) : Prop where
  own : wr.ownsRow w3.heap.size 4 1 (.slice (some ⟨w3.heap.size, 0, none⟩) n n) n (J.map boolV)
  len : J.length = n
  low : Below w3.heap.size w3 wr
theorem JS.below {w3 wr w' : World} {n : Nat} {J : List Bool} (h : JS w3 n J wr) (hb : Below wr.heap.size wr w') : JS w3 n J w' := ⟨own_below h.own hb, h.len, andThen h.low hb⟩
theorem JS.cell {w3 wr : World} {n : Nat} {J : List Bool} (h : JS w3 n J wr) {j : Nat} {b : Bool} (hj : J[j]? = some b) : wr.cell? ⟨w3.heap.size, j, none⟩ = some (.bool b) ∧ wr.frozen? ⟨w3.heap.size, j, none⟩ = false := by
  have hl : j < n := by
    rw [← h.len]
    rcases Nat.lt_or_ge j J.length with h1 | h1
    · exact h1
    · rw [List.getElem?_eq_none h1] at hj; cases hj
  refine ⟨?_, h.own.frozenAt j⟩
  rw [h.own.cellAt j (by omega), List.getElem?_map, hj]
  rfl
theorem JS.set {w3 wr : World} {n : Nat} {J : List Bool} (h : JS w3 n J wr) (j : Nat) (b : Bool) : JS w3 n (J.set j b) (wr.setCell ⟨w3.heap.size, j, none⟩ (.bool b)) :=
  ⟨by rw [List.map_set]; exact (h.own.stored j (.bool b)).1, by rw [List.length_set]; exact h.len, h.low.setCell (Nat.le_refl _) _⟩
theorem jall_drop {f W : Nat → Int} {rs : List (List (Int × Nat))} {i : Nat} {r : List (Int × Nat)} (J : List Bool) (h : rs[i]? = some r) : jall f W (rs.drop i) J = jall f W (rs.drop (i + 1)) (jrow f W 0 r J) := by
  have hlt : i < rs.length := by
    rcases Nat.lt_or_ge i rs.length with h1 | h1
    · exact h1
    · rw [List.getElem?_eq_none h1] at h; cases h
  rw [List.drop_eq_getElem_cons hlt]
  rw [List.getElem?_eq_getElem hlt] at h
  injection h with h
  rw [h]
  rfl
theorem jrow_drop {f W : Nat → Int} {r : List (Int × Nat)} {k a : Nat} {c : Int × Nat} (J : List Bool) (h : r[k]? = some c) : jrow f W a (r.drop k) J = jrow f W (a + c.2) (r.drop (k + 1)) (J.set (a + c.2 - 1) (J.getD (a + c.2 - 1) false || decide (less f a (c.2 - 1) c.1 = W (a + c.2 - 1)))) := by
  have hlt : k < r.length := by
    rcases Nat.lt_or_ge k r.length with h1 | h1
    · exact h1
    · rw [List.getElem?_eq_none h1] at h; cases h
  rw [List.drop_eq_getElem_cons hlt]
  rw [List.getElem?_eq_getElem hlt] at h
  injection h with h
  rw [h]
  rfl
theorem ColsOk.fb {ss : List G} {R : List (List (Int × Nat))} {C : Co} (h : ColsOk ss R C) {i : Nat} (hi : i < ss.length - 1) : -4294967296 ≤ C.f i ∧ C.f i ≤ 4294967296 := by
  obtain ⟨g, hg⟩ : ∃ g, ss[i + 1]? = some g := ⟨_, List.getElem?_eq_getElem (by omega)⟩
  obtain ⟨x, hx⟩ : ∃ x, C.w[i]? = some x := ⟨_, List.getElem?_eq_getElem (by rw [h.lw]; omega)⟩
  have e := h.f i g hg
  have e1 := h.wd i x hx
  have e2 := h.sd _ g hg
  rw [List.getD_eq_getElem?_getD, hx, Option.getD_some] at e
  rw [e]
  split <;> omega
/-- How much room is reckoned when column p is reached. -/
def rmv (C : Co) (a s p : Nat) : Int := if p < a + s then sumF C.f a (p - a) else roomV C a s
theorem rmv_next {ss : List G} {R : List (List (Int × Nat))} {C : Co} (h : ColsOk ss R C) {a s p : Nat} (hap : a ≤ p) (hp : p + 1 < a + s) (hl : a + s ≤ ss.length - 1) {wp : Int} {b : Bool} {g : G} (hw : C.w[p]? = some wp) (hb : C.g[p]? = some b) (hg : ss[p + 1]? = some g) : rmv C a s (p + 1) = rmv C a s p + wp + (if b = true then 0 else g.n) := by
  unfold rmv
  rw [if_pos hp, if_pos (by omega), show p + 1 - a = (p - a) + 1 by omega, sumF_snoc, show a + (p - a) = p by omega, h.f p g hg]
  have e := h.g p (by omega)
  rw [hb] at e
  injection e with e
  rw [← e, List.getD_eq_getElem?_getD, hw, Option.getD_some]
  omega
theorem rmv_last {ss : List G} {R : List (List (Int × Nat))} {C : Co} (h : ColsOk ss R C) {a s p : Nat} (hp : p + 1 = a + s) (hs : 1 ≤ s) {wp : Int} (hw : C.w[p]? = some wp) : rmv C a s (p + 1) = rmv C a s p + wp := by
  unfold rmv
  rw [if_neg (by omega), if_pos (by omega)]
  unfold roomV
  rw [show a + s - 1 = p by omega, show p - a = s - 1 by omega, List.getD_eq_getElem?_getD, hw, Option.getD_some]
theorem rmv_bd {ss : List G} {R : List (List (Int × Nat))} {C : Co} (h : ColsOk ss R C) {a s p : Nat} (hap : a ≤ p) (hp : p < a + s) (hl : a + s ≤ ss.length - 1) : -1200000000000 ≤ rmv C a s p ∧ rmv C a s p ≤ 1200000000000 := by
  unfold rmv
  rw [if_pos hp]
  have h1 := sumF_bd (f := C.f) (B := 4294967296) (p - a) a fun i h1 h2 => h.fb (by omega)
  have h2 := h.n257
  have h3 : ((p - a : Nat) : Int) ≤ 257 := by omega
  generalize ((p - a : Nat) : Int) = z at h1 h3
  omega
def Co.W (C : Co) (j : Nat) : Int := C.w.getD j 0

set_option maxHeartbeats 8000000 in
set_option maxRecDepth 100000 in
theorem wide_walk (A : Option Addr) (ss : List G) (c : Nat) (B : Option Addr) (rs : List Rw) (k : Nat) (w : World) (hS : Row w A ss) (h63 : ss.length ≤ maxLen) (hR : RsOk w (fun _ => True) B k rs) :
    Calls Try.prog 3 #[.slice A ss.length c, .slice B rs.length k] w fun e w' => e = .returned (.bool true) ∧ Below w.heap.size w w' := by
  have HG := Lib.hid (given_any B rs k w hR)
  have HS := Lib.hid hS
  have HRL := Lib.hid hR.len
  have HW := Lib.hid (fun (dn : List Rw) (w1 : World) (A1 : Option Addr) (c1 : Nat) (hb : Below w.heap.size w w1) (h : RsOk w1 (fun _ => True) A1 c1 dn) => widths_al A ss c A1 dn c1 w1 (Seg.belowW hS hb) h h63)
  clear hS hR
  generalize hsl : ss.length = sl at *
  have HSL := Lib.hid hsl
  clear hsl
  go_enter Try.func3, Try.ntmps3
  go_wp2_with fail
  refine HG.out.mono ?_
  rintro e w1 ⟨v, dn, rfl, hgi⟩
  obtain ⟨A1, c1, rfl, hn, hro, hdd⟩ := hgi.rows HRL.out
  have HRO := Lib.hid hro
  have HB1 := Lib.hid hgi.low
  have hws := HW.out dn w1 A1 c1 HB1.out hro
  have hdl := hro.len
  have hdc := hro.cap
  clear hgi hro hdd HG hn
  generalize hE : mdE ss (dn.map Rw.d) = E at hws
  have HE := Lib.hid hE
  have HWS := Lib.hid hws
  clear hE hws
  go_wp2_with fail
  refine HWS.out.mono ?_
  rintro e w2 ⟨B1, n1, d1, B2, n2, d2, rfl, hb2, hcase⟩
  have HB2 := Lib.hid (andThen HB1.out hb2)
  have HB12 := Lib.hid hb2
  clear hb2
  by_cases q1 : E = 0
  · have q2 : (E != 0) = false := by simp [q1]
    rcases hcase with ⟨_, o1, hn1, o2, hn2⟩ | ⟨h, _⟩
    case inr => exact absurd q1 h
    obtain ⟨hco, hck⟩ := cols_ok (ss := ss) (ds := dn.map Rw.d) (by rw [HE.out]; exact q1)
    have HCK := Lib.hid hck
    generalize hCC : mdC ss (dn.map Rw.d) = C at hco o1 o2 hn1 hn2
    have HCO := Lib.hid hco
    have hlw := hco.lw
    have hlg := hco.lg
    have h2 := hco.n2
    have h257 := hco.n257
    rw [HSL.out] at hlw hlg h2 h257
    rw [hlw] at hn1
    rw [hlg] at hn2
    subst hn1 hn2
    obtain ⟨gw, cw, e1, hcw⟩ := own_some o1 (by omega)
    injection e1 with e1 _ e2
    subst e1 e2
    obtain ⟨gg, cg, e1, hcg⟩ := own_some o2 (by omega)
    injection e1 with e1 _ e2
    subst e1 e2
    have HCW := Lib.hid (fun (w' : World) (hb : Below w2.heap.size w2 w') (j : Nat) (x : Int) (hx : C.w[j]? = some x) => show w'.cell? ⟨gw, j, none⟩ = some (.int .i64 x) from (hb.cell (p := ⟨gw, j, none⟩) (o1.lt gw rfl).2).trans (by
      have hl : j < C.w.length := by
        rcases Nat.lt_or_ge j C.w.length with h1 | h1
        · exact h1
        · rw [List.getElem?_eq_none h1] at hx; cases hx
      rw [o1.cellAt j (by omega), List.getElem?_map, hx]
      rfl))
    have HCG := Lib.hid (fun (w' : World) (hb : Below w2.heap.size w2 w') (j : Nat) (x : Bool) (hx : C.g[j]? = some x) => show w'.cell? ⟨gg, j, none⟩ = some (.bool x) from (hb.cell (p := ⟨gg, j, none⟩) (o2.lt gg rfl).2).trans (by
      have hl : j < C.g.length := by
        rcases Nat.lt_or_ge j C.g.length with h1 | h1
        · exact h1
        · rw [List.getElem?_eq_none h1] at hx; cases hx
      rw [o2.cellAt j (by omega), List.getElem?_map, hx]
      rfl))
    obtain ⟨bs, os, rfl, hbs⟩ : ∃ b off, A = some ⟨b, off, none⟩ ∧ b < w.heap.size := by
      obtain ⟨g, hg⟩ := get_some (l := ss) (i := 0) (by rw [HSL.out]; omega)
      obtain ⟨b, off, hA, hb, _⟩ := Seg.row Gl.G.vals_len HS.out hg (by decide)
      exact ⟨b, off, hA, hb⟩
    have HSK := Lib.hid (fun (w' : World) (hb : Below w.heap.size w w') (j : Nat) (g : G) (hg : ss[j]? = some g) => show w'.cell? ⟨bs, os + j * 5, none⟩ = some (.int .i64 g.n) from by
      obtain ⟨b, off, e1, hb1, hc⟩ := Seg.row Gl.G.vals_len HS.out hg (by decide)
      simp only [Option.some.injEq, Addr.mk.injEq, and_true] at e1
      obtain ⟨rfl, rfl⟩ := e1
      have := hc 0 _ rfl
      rw [Nat.add_zero] at this
      exact (hb.cell (p := ⟨bs, os + j * 5, none⟩) hb1).trans this)
    have hmk := make_bools (sl - 1) (by omega)
    have hnn : ((sl - 1 : Nat) : Int) = (sl : Int) - 1 := by omega
    have HNN := Lib.hid hnn
    clear hnn o1 o2 hco hck hlw hlg
    generalize hnw : sl - 1 = nw at *
    have HNW := Lib.hid hnw
    have hnb : nw ≤ 256 := by omega
    clear hnw
    go_upto_region 6 with (first | (go_at_call 13; refine (num21 _ _).mono ?_; rintro e wz ⟨rfl, rfl⟩) | (go_at_call 14; refine (knows21 _).mono ?_; rintro e w3 ⟨rfl, hb3⟩))
    have HJ0 := Lib.hid (show JS w3 nw (List.replicate nw false) (w3.alloc (.cells (Array.replicate nw (boolV false)) 4)) from
      ⟨⟨by simp, .inr ⟨w3.heap.size, nw, Array.replicate nw (boolV false), rfl, Nat.le_refl _, heap_alloc_new w3 _, Nat.le_refl _, by simp [maxLen]; omega, by simp, by simp⟩⟩, by simp, andAlloc (Below.refl _ _) _⟩)
    have HB23 := Lib.hid hb3
    have HB3 := Lib.hid (andThen HB2.out hb3)
    have HR3 := Lib.hid (HRO.out.below (andThen HB12.out hb3))
    clear hb3 hmk
    generalize w3.alloc (.cells (Array.replicate nw (boolV false)) 4) = W4 at *
    go_wp2_with fail
    go_loopw [10] (fun v10 wr => ∃ (i : Nat) (J : List Bool), i ≤ dn.length ∧ v10 = .int .i64 (i : Int) ∧ jall C.f C.W ((dn.map Rw.d).map cel) (List.replicate nw false) = jall C.f C.W (((dn.map Rw.d).map cel).drop i) J ∧ JS w3 nw J wr) (fun v10 _ => dn.length - (intOf v10).toNat)
    case atStart => exact ⟨0, _, by omega, rfl, rfl, HJ0.out⟩
    case round =>
      obtain ⟨i, J1, hi, rfl, hja, hjs⟩ := hrel
      have HJA := Lib.hid hja
      have HJS := Lib.hid hjs
      by_cases hlt : i < dn.length
      · obtain ⟨r, hr⟩ := get_some hlt
        have hw := HR3.out.below hjs.low
        obtain ⟨b, off, rfl, hb, hc0, hc1⟩ := hw.row hr
        have HRO2 := Lib.hid (hw.get hr)
        have HRK := Lib.hid hr
        have hii : (i : Int) < (dn.length : Int) := by omega
        have HRM := Lib.hid (show r.d ∈ dn.map Rw.d from List.mem_map.2 ⟨r, List.mem_of_getElem? hr, rfl⟩)
        have hrl := HRO2.out.len
        obtain ⟨W5, rfl⟩ : ∃ W, W = wr := ⟨_, rfl⟩
        have HC0 := Lib.hid (And.intro hc0 hb)
        clear hja hjs hw hr hc0 hc1 hb
        go_wp2_with fail
        go_loopw [11, 12] (fun v11 v12 wr => ∃ (q : Nat) (J : List Bool), q ≤ r.cs.length ∧ v12 = .int .i64 (q : Int) ∧ v11 = .int .i64 ((pos (cel r.d) q : Nat) : Int) ∧ jrow C.f C.W 0 (cel r.d) J1 = jrow C.f C.W (pos (cel r.d) q) ((cel r.d).drop q) J ∧ JS w3 nw J wr) (fun _ v12 _ => r.cs.length - (intOf v12).toNat)
        case atStart => exact ⟨0, J1, by omega, rfl, by rw [pos_zero]; rfl, by rw [pos_zero, List.drop_zero], HJS.out⟩
        case round =>
          obtain ⟨q, J, hq, rfl, rfl, hjr, hjs⟩ := hrel
          have HJR := Lib.hid hjr
          have HJ := Lib.hid hjs
          have hw2 := HR3.out.below hjs.low
          obtain ⟨b', off', e1, hb, hc0, hc1⟩ := hw2.row HRK.out
          simp only [Option.some.injEq, Addr.mk.injEq, and_true] at e1
          obtain ⟨rfl, rfl⟩ := e1
          by_cases hlt2 : q < r.cs.length
          · obtain ⟨x, hx⟩ := get_some hlt2
            obtain ⟨hcl, hsp, hx1, hxp⟩ := cel_good HCK.out HRM.out hx
            rw [HSL.out] at hxp
            have hnw1 := HNW.out
            have hwd := (row_good HCK.out HRM.out).1 x.d (List.mem_of_getElem? (show r.d.1[q]? = some x.d by show (r.cs.map Cl.d)[q]? = _; rw [List.getElem?_map, hx]; rfl))
            obtain ⟨sp, hspn⟩ : ∃ s : Nat, x.sp = (s : Int) := ⟨x.sp.toNat, by omega⟩
            have hro2 := HRO2.out
            obtain ⟨b2, off2, hA2, hb2, hx0, hx2⟩ := (hw2.get HRK.out).cell hx
            have hxo := (hw2.get HRK.out).get hx
            have HXO := Lib.hid hxo
            have HSN := Lib.hid hspn
            have HCL := Lib.hid hcl
            have hdimw : -1073741823 ≤ (wd x.l).2 ∧ (wd x.l).2 ≤ 1073741823 := by
              obtain ⟨hd, _⟩ := wd_is x.l (by have := hxo.len; omega)
              exact dim_bd (hd hwd.2)
            have hrm := room_ok HCO.out (r := cel r.d) (k := q) (c := ((wd x.l).2, x.sp.toNat)) (List.mem_map.2 ⟨r.d, HRM.out, rfl⟩) hsp hcl (by rw [HSL.out]; omega) hdimw
            have HRMX := Lib.hid hrm
            have HWZ := Lib.hid hwd.2
            generalize hpa : pos (cel r.d) q = a at hxp HJR HRMX hrm ⊢
            have HPA := Lib.hid hpa
            rw [hspn] at hx2 hx1 hxp
            rw [hA2] at hc0
            have hqi : (q : Int) < (r.cs.length : Int) := by omega
            have hw3 : IntKind.i64.wrap ((a : Int) + (sp : Int)) = (a : Int) + (sp : Int) := IntWalk.i64_in _ (by omega)
            have hw4 : IntKind.i64.wrap ((a : Int) + (sp : Int) - 1) = (a : Int) + (sp : Int) - 1 := IntWalk.i64_in _ (by omega)
            obtain ⟨W6, rfl⟩ : ∃ W, W = wr := ⟨_, rfl⟩
            have HCC0 := Lib.hid (And.intro hc0 (And.intro hx0 hx2))
            have HBB := Lib.hid (And.intro hb hb2)
            clear hjr hjs hw2 hcl hsp hx hro2 hxo hpa hrm hwd hc1
            have HL26 := Lib.hid (andThen HB23.out HJ.out.low)
            have HLW6 := Lib.hid (andThen HB3.out HJ.out.low)
            go_wp2_with fail
            go_loopw [14, 15] (fun v14 v15 wr => ∃ p : Nat, a ≤ p ∧ p ≤ a + sp ∧ v15 = .int .i64 (p : Int) ∧ v14 = .int .i64 (rmv C a sp p) ∧ Below W6.heap.size W6 wr) (fun _ v15 _ => a + sp - (intOf v15).toNat)
            case atStart => exact ⟨a, by omega, by omega, rfl, by unfold rmv; rw [if_pos (by omega), Nat.sub_self]; rfl, Below.refl _ _⟩
            case round =>
              obtain ⟨p, hap, hpl, rfl, rfl, hbp⟩ := hrel
              have HBP := Lib.hid hbp
              clear hbp
              by_cases hlt3 : p < a + sp
              · obtain ⟨wp, hwp⟩ := get_some (l := C.w) (i := p) (by rw [HCO.out.lw, HSL.out]; omega)
                obtain ⟨bp, hbp⟩ := get_some (l := C.g) (i := p) (by rw [HCO.out.lg, HSL.out]; omega)
                obtain ⟨gp, hgp⟩ := get_some (l := ss) (i := p + 1) (by rw [HSL.out]; omega)
                have c0 := HCW.out wr (andThen HL26.out HBP.out) p wp hwp
                have c1' := HCG.out wr (andThen HL26.out HBP.out) p bp hbp
                have c2 := HSK.out wr (andThen HLW6.out HBP.out) (p + 1) gp hgp
                have hwb := HCO.out.wd p wp hwp
                have hsb := HCO.out.sd _ gp hgp
                have hrb := rmv_bd HCO.out hap hlt3 (by rw [HSL.out]; omega)
                have HRL := Lib.hid (fun (h : p + 1 = a + sp) => rmv_last HCO.out h (by omega) hwp)
                have HRN := Lib.hid (fun (h : p + 1 < a + sp) => rmv_next HCO.out hap h (by rw [HSL.out]; omega) hwp hbp hgp)
                have hle : (p : Int) ≤ (a : Int) + (sp : Int) - 1 := by omega
                have hpi : (p : Int) < (nw : Int) := by omega
                have hpi2 : (p : Int) + 1 < (sl : Int) := by omega
                have htn : ((p : Int) + 1).toNat = p + 1 := by omega
                have hw5 : IntKind.i64.wrap ((p : Int) + 1) = (p : Int) + 1 := IntWalk.i64_in _ (by omega)
                clear hwp hbp hgp
                generalize hz : rmv C a sp p = z at hrb HRL HRN ⊢
                have HZ := Lib.hid hz
                clear hz
                have hw6 : IntKind.i64.wrap (z + wp) = z + wp := IntWalk.i64_in _ (by omega)
                by_cases hlast : p + 1 = a + sp
                · have hn : ¬ (p : Int) < (a : Int) + (sp : Int) - 1 := by omega
                  go_wp2_with fail
                  go_roundw
                  case rel => exact ⟨p + 1, by omega, by omega, by go_num, by rw [HRL.out hlast], HBP.out⟩
                  case measure => simp [intOf]; omega
                · have hn : (p : Int) < (a : Int) + (sp : Int) - 1 := by omega
                  cases bp
                  · have hw7 : IntKind.i64.wrap (z + wp + gp.n) = z + wp + gp.n := IntWalk.i64_in _ (by omega)
                    go_wp2_with fail
                    go_roundw
                    case rel => exact ⟨p + 1, by omega, by omega, by go_num, by rw [HRN.out (by omega)]; rfl, HBP.out⟩
                    case measure => simp [intOf]; omega
                  · go_wp2_with fail
                    go_roundw
                    case rel => exact ⟨p + 1, by omega, by omega, by go_num, by rw [HRN.out (by omega)]; simp, HBP.out⟩
                    case measure => simp [intOf]; omega
              · obtain rfl : p = a + sp := by omega
                have hrm0 : rmv C a sp (a + sp) = roomV C a sp := by unfold rmv; rw [if_neg (by omega)]
                rw [hrm0]
                obtain ⟨_, r2, r3, r4⟩ := HRMX.out
                simp only [HSN.out, Int.toNat_natCast] at r2 r3 r4
                have hc0 : wr.cell? ⟨b, off + i * 2, none⟩ = some (.slice (some ⟨b2, off2, none⟩) r.cs.length r.c) := (HBP.out.cell (p := ⟨b, off + i * 2, none⟩) HBB.out.1).trans HCC0.out.1
                have hx0 : wr.cell? ⟨b2, off2 + q * 2, none⟩ = some (.slice x.A x.l.length x.c) := (HBP.out.cell (p := ⟨b2, off2 + q * 2, none⟩) HBB.out.2).trans HCC0.out.2.1
                have hx2 : wr.cell? ⟨b2, off2 + q * 2 + 1, none⟩ = some (.int .i64 (sp : Int)) := (HBP.out.cell (p := ⟨b2, off2 + q * 2 + 1, none⟩) HBB.out.2).trans HCC0.out.2.2
                have HWD := Lib.hid (wide_al ⟨x.A, x.c, x.l, (sp : Int)⟩ wr (HXO.out.keep (Kp.below _ HBP.out)) HWZ.out)
                obtain ⟨bl, hbl⟩ := get_some (l := J) (i := a + sp - 1) (by rw [HJ.out.len]; omega)
                have HPS := Lib.hid (show pos (cel r.d) (q + 1) = a + sp by rw [pos_succ HCL.out, HPA.out, HSN.out]; rfl)
                have hnx : jrow C.f C.W 0 (cel r.d) J1 = jrow C.f C.W (pos (cel r.d) (q + 1)) ((cel r.d).drop (q + 1)) (J.set (a + sp - 1) (bl || decide ((wd x.l).2 = roomV C a sp))) := by
                  rw [HJR.out, jrow_drop J HCL.out, HPS.out]
                  simp only [HSN.out, Int.toNat_natCast]
                  rw [show C.W (a + sp - 1) = C.w.getD (a + sp - 1) 0 from rfl, r4, List.getD_eq_getElem?_getD, hbl]
                  rfl
                have HNX := Lib.hid hnx
                have HBL := Lib.hid hbl
                have HR3' := Lib.hid r3
                have htl : ((a : Int) + (sp : Int) - 1).toNat = a + sp - 1 := by omega
                have hli : (a : Int) + (sp : Int) - 1 < (nw : Int) := by omega
                have hl0 : 0 ≤ (a : Int) + (sp : Int) - 1 := by omega
                have hw8 : IntKind.i64.wrap ((a : Int) + (sp : Int) - 1 + 1) = (a : Int) + (sp : Int) := (IntWalk.i64_in _ (by omega)).trans (by omega)
                clear hnx r3 r4 hbl hrm0
                generalize roomV C a sp = rm at *
                generalize (wd x.l).2 = ow at *
                go_wp2_with fail
                refine HWD.out.mono ?_
                rintro e w7 ⟨rfl, hb7⟩
                have HJ7 := Lib.hid (HJ.out.below (andThen HBP.out hb7))
                obtain ⟨k0, kf⟩ := HJ7.out.cell HBL.out
                have kg := HCG.out w7 (andThen (andThen HL26.out HBP.out) hb7) (a + sp - 1) false HR3'.out
                clear hb7
                cases bl
                · by_cases heq : ow = rm
                  · have q5 : (ow == rm) = true := by rw [beq_iff_eq]; exact heq
                    have HNZ := Lib.hid (show jrow C.f C.W 0 (cel r.d) J1 = jrow C.f C.W (pos (cel r.d) (q + 1)) ((cel r.d).drop (q + 1)) (J.set (a + sp - 1) true) by rw [HNX.out, decide_eq_true heq]; rfl)
                    clear heq
                    go_wp2_with fail
                    go_roundw
                    case rel => exact ⟨q + 1, J.set (a + sp - 1) true, by omega, by go_num, by rw [HPS.out]; go_num, HNZ.out, HJ7.out.set _ true⟩
                    case measure => simp [intOf]; omega
                  · have q5 : (ow == rm) = false := by rw [beq_eq_false_iff_ne]; exact heq
                    have HNZ := Lib.hid (show jrow C.f C.W 0 (cel r.d) J1 = jrow C.f C.W (pos (cel r.d) (q + 1)) ((cel r.d).drop (q + 1)) (J.set (a + sp - 1) false) by rw [HNX.out, decide_eq_false heq]; rfl)
                    clear heq
                    go_wp2_with fail
                    go_roundw
                    case rel => exact ⟨q + 1, J.set (a + sp - 1) false, by omega, by go_num, by rw [HPS.out]; go_num, HNZ.out, HJ7.out.set _ false⟩
                    case measure => simp [intOf]; omega
                · have HNZ := Lib.hid (show jrow C.f C.W 0 (cel r.d) J1 = jrow C.f C.W (pos (cel r.d) (q + 1)) ((cel r.d).drop (q + 1)) (J.set (a + sp - 1) true) by rw [HNX.out]; rfl)
                  go_wp2_with fail
                  go_roundw
                  case rel => exact ⟨q + 1, J.set (a + sp - 1) true, by omega, by go_num, by rw [HPS.out]; go_num, HNZ.out, HJ7.out.set _ true⟩
                  case measure => simp [intOf]; omega
          · obtain rfl : q = r.cs.length := by omega
            have HNX := Lib.hid (show jall C.f C.W ((dn.map Rw.d).map cel) (List.replicate nw false) = jall C.f C.W (((dn.map Rw.d).map cel).drop (i + 1)) J by
              rw [HJA.out, jall_drop (r := cel r.d) J1 (by rw [List.getElem?_map, List.getElem?_map, HRK.out]; rfl), HJR.out, show (cel r.d).drop r.cs.length = [] from List.drop_of_length_le (by unfold cel; show ((r.cs.map Cl.d).map _).length ≤ _; simp)]
              rfl)
            go_wp2_with fail
            go_roundw
            case rel => exact ⟨i + 1, J, by omega, by go_num, HNX.out, HJ.out⟩
            case measure => simp [intOf]; omega
      · obtain rfl : i = dn.length := by omega
        have HEND := Lib.hid (show jall C.f C.W ((dn.map Rw.d).map cel) (List.replicate nw false) = J1 by
          rw [HJA.out, List.drop_of_length_le (by simp)]
          rfl)
        obtain ⟨W8, rfl⟩ : ∃ W, W = wr := ⟨_, rfl⟩
        have HL28 := Lib.hid (andThen HB23.out HJS.out.low)
        have HLB8 := Lib.hid (andThen HB3.out HJS.out.low)
        clear hja hjs
        go_wp2_with fail
        go_loopw [17] (fun v17 wr => ∃ p : Nat, p ≤ nw ∧ v17 = .int .i64 (p : Int) ∧ Below W8.heap.size W8 wr) (fun v17 _ => nw - (intOf v17).toNat)
        case atStart => exact ⟨0, by omega, rfl, Below.refl _ _⟩
        case round =>
          obtain ⟨p, hp, rfl, hbp⟩ := hrel
          have HBP := Lib.hid hbp
          clear hbp
          by_cases hlt2 : p < nw
          · have hpl : p < ss.length - 1 := by rw [HSL.out]; have := HNW.out; omega
            have e1 := HCO.out.w p hpl
            have e2 := HCO.out.g p hpl
            have e3 := jall_end (f := C.f) (W := C.W) (j := p) (n := nw) (rs := (dn.map Rw.d).map cel) (fun r hr x hx => by
              obtain ⟨y, hy, rfl⟩ := List.mem_map.1 hr
              obtain ⟨z, hz, rfl⟩ := List.mem_map.1 hx
              have := ((row_good HCK.out hy).1 z hz).1
              show 1 ≤ z.2.toNat
              omega) hlt2 (by show C.w.getD p 0 = _; rw [List.getD_eq_getElem?_getD, e1]; rfl)
            rw [HEND.out] at e3
            have k1 := HCW.out wr (andThen HL28.out HBP.out) p _ e1
            have k2 := HCG.out wr (andThen HL28.out HBP.out) p _ e2
            have k3 := ((HJS.out.below HBP.out).cell e3).1
            have hpi : (p : Int) < (nw : Int) := by omega
            clear e1 e2 e3 hpl
            generalize colM C.f p none ((dn.map Rw.d).map cel) = mm at *
            rcases mm with _ | y
            · have k1' : wr.cell? ⟨gw, p, none⟩ = some (.int .i64 0) := k1
              have k2' : wr.cell? ⟨gg, p, none⟩ = some (.bool true) := k2
              have k3' : wr.cell? ⟨w3.heap.size, p, none⟩ = some (.bool false) := k3
              clear k1 k2 k3
              go_upto_region 29 with fail
              go_quiet (fail)
              go_wp2_with fail
              go_roundw
              case rel => exact ⟨p + 1, by omega, by go_num, below_drewN HBP.out _⟩
              case measure => simp [intOf]; omega
            · have k1' : wr.cell? ⟨gw, p, none⟩ = some (.int .i64 y) := k1
              have k2' : wr.cell? ⟨gg, p, none⟩ = some (.bool false) := k2
              have k3' : wr.cell? ⟨w3.heap.size, p, none⟩ = some (.bool true) := k3
              clear k1 k2 k3
              go_upto_region 29 with fail
              go_quiet (fail)
              go_wp2_with fail
              go_roundw
              case rel => exact ⟨p + 1, by omega, by go_num, below_drewN HBP.out _⟩
              case measure => simp [intOf]; omega
          · go_wp2_with fail
            go_ret
            exact ⟨rfl, andThen HLB8.out HBP.out⟩
  · have q2 : (E != 0) = true := by simp [q1]
    rcases hcase with ⟨h, _⟩ | ⟨_, rfl, rfl, rfl, rfl, rfl, rfl⟩
    case inl => exact absurd h q1
    go_wp2_with (first | (go_at_call 13; refine (num21 _ _).mono ?_; rintro e wz ⟨rfl, rfl⟩) | (go_at_call 14; refine (knows21 _).mono ?_; rintro e wz ⟨rfl, hbz⟩))
    go_ret
    exact ⟨rfl, andThen HB2.out hbz⟩
end Go.Proofs.Ytoboecenlangmaa.Al
end
section
namespace Go.Proofs.Ytoboecenlangmaa.AlignWide
open Go.ChangeShapes Go.WideShapes Go.ChangeAt Go.RowKit
set_option linter.unusedVariables false

theorem own : ownKnob Try.prog.godebug = none := by kernel_rfl
theorem laidOut : laidOutB Try.prog = true := by kernel_rfl

set_option maxRecDepth 100000 in
theorem lifted (os : Os) (started : os.Started) (H : Type) (enc : TypeId × Value → H) :
    ReturnsInHanded {} Try.checked os 3 .any (Rows.alignWideSpec.pre6 enc Try.prog Try.f3 Rows.alignWideRow.domain false) (Rows.alignWideSpec.post enc Try.prog Try.f3 false true false false) := by
  refine returnsInHanded_of_change_sized (C := Try.checked) own started (by kernel_rfl) Try.func3
    (ChangeSpec.witness6 (enc := enc) (C := Try.checked) false ⟨#[], #[.slice none 0 0, .slice none 0 0], []⟩ 8 (by kernel_rfl) (by kernel_rfl) (by kernel_rfl) (by kernel_rfl)) ?_
  intro W base args ds gs before hval0 hW _ hsz0 _
  have hval : ∀ (j : Nat) t v, Try.f3.params[j]? = some t → args[j]? = some v → Value.okWide Try.prog W .any base t v := hval0
  have hsz : (DataW.weightsEach Try.prog (Try.f3.params.toList ++ Rows.alignWideSpec.plain.varTypes Try.prog) (ds ++ gs)).all (· ≤ reachBytes) = true := hsz0
  have hW' := hW
  have hlt0 := hW.lt
  obtain ⟨p, q, hA0, hV, he, hfz, hnd⟩ := hW
  have hA : DataW.TrodAll enc Try.prog W 0 (fun _ => true) true Try.f3.params.toList args.toList ds p := hA0
  rw [Try.params3] at hA hval hsz
  obtain ⟨rfl, rfl⟩ := trodVars_none hV
  rw [List.append_nil] at he
  subst he
  obtain ⟨v0, vs0, d0, ds0, p0, q0, hargs, rfl, rfl, h0, r0⟩ := trodAll_cons hA
  obtain ⟨v1, vs1, d1, ds1, p1, q1, rfl, rfl, rfl, h1, r1⟩ := trodAll_cons r0
  obtain ⟨rfl, rfl, rfl⟩ := trodAll_nil r1
  obtain rfl : args = #[v0, v1] := by cases args; simp_all
  have k0 : ∀ x ∈ p0, x.block < W.heap.size := fun x hx => hlt0 x (by simp [hx])
  have k1 : ∀ x ∈ p1, x.block < W.heap.size := fun x hx => hlt0 x (by simp [hx])
  have hR0 := Rd.Rd.arg h0 k0 hsz (j := 0) (t := 22) rfl rfl
  obtain ⟨a0, len0, cap0, rfl⟩ := okWide_slice Try.underlying22 (hval 0 22 v0 rfl rfl)
  obtain ⟨A0, c0, l0, hv0, hx0, h63⟩ := Al.arg_glues (show Rd.Rd enc Try.prog W 22 [.slice a0 len0 cap0] from hR0)
  injection hv0 with e1 e2 e3
  subst e1 e2 e3
  have hR1 := Rd.Rd.arg h1 k1 hsz (j := 1) (t := 23) rfl rfl
  obtain ⟨a1, len1, cap1, rfl⟩ := okWide_slice Try.underlying23 (hval 1 23 v1 rfl rfl)
  obtain ⟨A1, c1, l1, hv1, hx1⟩ := Al.arg_rows (show Rd.Rd enc Try.prog W 23 [.slice a1 len1 cap1] from hR1)
  injection hv1 with e1 e2 e3
  subst e1 e2 e3
  clear hA0 hval0
  refine (Al.wide_walk a0 l0 cap0 a1 l1 cap1  W hx0 h63 hx1).mono fun e W' ⟨he, hb⟩ => ?_
  subst he
  exact ⟨_, rfl, Li.law_post laidOut rfl hW' (by kernel_rfl) rfl rfl rfl rfl Try.underlying4 hb⟩

theorem over : Rows.alignWideRow.holds Try.pinned (OpenSpec.ofChange Rows.alignWideSpec) :=
  OpenClaim.holds_of_wide 3 Try.f3 rfl rfl rfl rfl rfl rfl rfl ⟨rfl, rfl, rfl, rfl, rfl⟩ rfl rfl rfl rfl rfl (by kernel_rfl) Try.func3 (by kernel_rfl)
    (of_decide_eq_true (by kernel_rfl)) (by unfold Func.isWrapper; first | (rw [if_pos (by decide +kernel)]; kernel_rfl) | (rw [if_neg (by decide +kernel)]; exact ⟨rfl, rfl⟩))
    (fun os started H enc _ => lifted os started H enc)

theorem proved : Rows.AlignWideSaid := over
#print axioms proved
end Go.Proofs.Ytoboecenlangmaa.AlignWide
end
