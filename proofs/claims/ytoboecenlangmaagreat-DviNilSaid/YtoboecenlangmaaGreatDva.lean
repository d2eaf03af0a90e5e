import Derived.Test.YtoboecenlangmaaGreatPw
import Derived.Test.YtoboecenlangmaaGreatPkb
import Derived.StillTailTactics
/- What stands in a box: how it moves; a walker in memory; contracts of dimen, fail, tell, put. Conditions: those that each theorem names. -/
namespace Go.Proofs.YtoboecenlangmaaGreat.Dv
open Go.ChangeShapes Go.WideShapes Go.ChangeAt Go.RowKit
open Me Np No Pk
set_option linter.unusedVariables false
set_option linter.unusedSimpArgs false

/-- Something that stands. -/
structure Stn where
  kind : Int
  font : Int
  char : Int
  h : Int
  v : Int
  wd : Int
  ht : Int
  text : ByteArray
def Stn.cs (s : Stn) : List Value := [.int .i64 s.kind, .int .i64 s.font, .int .u8 s.char, .int .i64 s.h, .int .i64 s.v, .int .i64 s.wd, .int .i64 s.ht, .string s.text]
def Stn.ca (s : Stn) : Array Value := #[.int .i64 s.kind, .int .i64 s.font, .int .u8 s.char, .int .i64 s.h, .int .i64 s.v, .int .i64 s.wd, .int .i64 s.ht, .string s.text]
theorem Stn.ca_list (s : Stn) : s.ca.toList = s.cs := rfl
theorem Stn.cs_len (s : Stn) : s.cs.length = 8 := rfl
/-- Where it stands in truth, if its box stands there. -/
def mvS (h v : Int) (s : Stn) : Stn := { s with h := wrap64 (h + s.h), v := wrap64 (v + s.v) }
/-- The same, farther by so much. -/
def shS (x y : Int) (s : Stn) : Stn := { s with h := x + s.h, v := y + s.v }
theorem wrap_wrap (a b : Int) : wrap64 (wrap64 a + b) = wrap64 (a + b) := by
  unfold wrap64
  omega
theorem mv_sh (h v x y : Int) (s : Stn) : mvS (wrap64 (h + x)) (wrap64 (v + y)) s = mvS h v (shS x y s) := by
  unfold mvS shS
  simp only [wrap_wrap, Int.add_assoc]
theorem mv_sh_map (h v x y : Int) (K : List Stn) : K.map (mvS (wrap64 (h + x)) (wrap64 (v + y))) = (K.map (shS x y)).map (mvS h v) := by
  rw [List.map_map]
  exact List.map_congr_left fun s _ => mv_sh h v x y s
def clo (C : Nat) : Value := .func (.func 115) #[] #[.pointer (some ⟨C, 0, none⟩)]
/-- A walker in block B, the stands so far in the variable in block C; their row lies from base on. -/
structure WS (w0 : World) (base B C : Nat) (out : List Stn) (e : Int) (q : Option Nat) (w : World) : Prop where
  wk : Blk w B 201 #[clo C, .int .i64 e]
  vr : ∃ v, Blk w C 144 #[v] ∧ w.ownsRow base 148 8 v out.length (out.flatMap Stn.cs) ∧ v.ownBlock = q
  low : Below w0.heap.size w0 w
  lo : w0.heap.size ≤ B ∧ w0.heap.size ≤ C ∧ B ≠ C ∧ B < base ∧ C < base ∧ base ≤ w.heap.size
/-- What a walk keeps of what was there: all but the walker, the variable, the row. -/
structure KpW (B C : Nat) (q : Option Nat) (w w' : World) : Prop where
  size : w.heap.size ≤ w'.heap.size
  block : ∀ k, k < w.heap.size → k ≠ B → k ≠ C → some k ≠ q → w'.heap[k]? = w.heap[k]?
/-- Where the row lies after. -/
def Nq (q q' : Option Nat) (w : World) : Prop := q' = q ∨ ∃ p, q' = some p ∧ w.heap.size ≤ p
theorem KpW.refl (B C : Nat) (q : Option Nat) (w : World) : KpW B C q w w := ⟨Nat.le_refl _, fun _ _ _ _ _ => rfl⟩
theorem KpW.of_below {B C : Nat} {q : Option Nat} {w w' : World} (h : Below w.heap.size w w') : KpW B C q w w' := ⟨h.size, fun k hk _ _ _ => h.block k hk⟩
theorem KpW.trans {B C : Nat} {q q' : Option Nat} {a b c : World} (h : KpW B C q a b) (hq : Nq q q' a) (k : KpW B C q' b c) : KpW B C q a c :=
  ⟨Nat.le_trans h.size k.size, fun i hi h1 h2 h3 => by
    have hi2 : i < b.heap.size := Nat.lt_of_lt_of_le hi h.size
    refine (k.block i hi2 h1 h2 ?_).trans (h.block i hi h1 h2 h3)
    rcases hq with rfl | ⟨p, rfl, hp⟩
    · exact h3
    · intro e
      injection e with e
      omega⟩
theorem Nq.refl (q : Option Nat) (w : World) : Nq q q w := .inl rfl
theorem Nq.trans {q q1 q2 : Option Nat} {a b : World} (h : Nq q q1 a) (k : Nq q1 q2 b) (hs : a.heap.size ≤ b.heap.size) : Nq q q2 a := by
  rcases k with rfl | ⟨p, rfl, hp⟩
  · exact h
  · exact .inr ⟨p, rfl, by omega⟩
theorem Nq.far {q q' : Option Nat} {a b : World} (h : Nq q q' b) (hs : a.heap.size ≤ b.heap.size) : Nq q q' a := by
  rcases h with h | ⟨p, h, hp⟩
  · exact .inl h
  · exact .inr ⟨p, h, by omega⟩
theorem WS.below {w0 : World} {base B C : Nat} {out : List Stn} {e : Int} {q : Option Nat} {w w' : World} (h : WS w0 base B C out e q w) (hb : Below w.heap.size w w') : WS w0 base B C out e q w' := by
  obtain ⟨v, hv, ho, hq⟩ := h.vr
  exact ⟨h.wk.below hb h.wk.lt, ⟨v, hv.below hb hv.lt, own_below ho hb, hq⟩, andThen h.low hb, h.lo.1, h.lo.2.1, h.lo.2.2.1, h.lo.2.2.2.1, h.lo.2.2.2.2.1, Nat.le_trans h.lo.2.2.2.2.2 hb.size⟩
/-- A piece of memory that the walk does not touch. -/
def SegW (w : World) (B C : Nat) (q : Option Nat) (A : Option Addr) (xs : List Value) : Prop :=
  xs = [] ∨ ∃ b off : Nat, A = some ⟨b, off, none⟩ ∧ b < w.heap.size ∧ b ≠ B ∧ b ≠ C ∧ some b ≠ q ∧ ∀ j u, xs[j]? = some u → w.cell? ⟨b, off + j, none⟩ = some u
theorem SegW.seg {w : World} {B C : Nat} {q : Option Nat} {A : Option Addr} {xs : List Value} (h : SegW w B C q A xs) : Seg w w.heap.size A xs := by
  rcases h with h | ⟨b, off, h1, h2, _, _, _, h3⟩
  · exact .inl h
  · exact .inr ⟨b, off, h1, h2, h3⟩
theorem cell_kp {w w' : World} {b o : Nat} (h : w'.heap[b]? = w.heap[b]?) : w'.cell? ⟨b, o, none⟩ = w.cell? ⟨b, o, none⟩ := by
  unfold World.cell?
  simp only [h]
theorem SegW.keep {w w' : World} {B C : Nat} {q q' : Option Nat} {A : Option Addr} {xs : List Value} (h : SegW w B C q A xs) (hk : KpW B C q w w') (hq : Nq q q' w) : SegW w' B C q' A xs := by
  rcases h with h | ⟨b, off, h1, h2, h3, h4, h5, h6⟩
  · exact .inl h
  · refine .inr ⟨b, off, h1, Nat.lt_of_lt_of_le h2 hk.size, h3, h4, ?_, fun j u hu => (cell_kp (hk.block b h2 h3 h4 h5)).trans (h6 j u hu)⟩
    rcases hq with rfl | ⟨p, rfl, hp⟩
    · exact h5
    · intro e
      injection e with e
      omega
theorem SegW.below {w w' : World} {B C : Nat} {q : Option Nat} {A : Option Addr} {xs : List Value} (h : SegW w B C q A xs) (hb : Below w.heap.size w w') : SegW w' B C q A xs := h.keep (KpW.of_below hb) (.inl rfl)
/-- What is new lies elsewhere. -/
theorem SegW.fresh {w0 w w' : World} {base B C : Nat} {out : List Stn} {e : Int} {q : Option Nat} {t : TypeId} {size n c : Nat} {A : Option Addr} {xs : List Value} (h : WS w0 base B C out e q w) (ho : w'.ownsRow w.heap.size t size (.slice A n c) n xs) : SegW w' B C q A xs := by
  have hs := Seg.of_own ho
  obtain ⟨A1, c1, e1, _, _, hs⟩ := hs
  injection e1 with e1 _ _
  subst e1
  rcases hs with hs | ⟨b, off, hA, hb, hc⟩
  · exact .inl hs
  · have hlt := h.wk.lt
    obtain ⟨v, hv, hov, hq⟩ := h.vr
    have hvlt := hv.lt
    have hb2 : w.heap.size ≤ b := (ho.lt b (by rw [hA]; rfl)).1
    refine .inr ⟨b, off, hA, hb, by omega, by omega, ?_, hc⟩
    intro e
    rw [← hq] at e
    have := (hov.lt b e.symm).2
    omega
theorem SegW.take {w : World} {B C : Nat} {q : Option Nat} {A : Option Addr} {xs : List Value} (h : SegW w B C q A xs) (n : Nat) : SegW w B C q A (xs.take n) := by
  rcases h with h | ⟨b, off, h1, h2, h3, h4, h5, h6⟩
  · exact .inl (by simp [h])
  · refine .inr ⟨b, off, h1, h2, h3, h4, h5, fun j u hu => h6 j u ?_⟩
    rw [List.getElem?_take] at hu
    split at hu
    · exact hu
    · cases hu
theorem SegW.drop {w : World} {B C : Nat} {q : Option Nat} {b off : Nat} {xs : List Value} (h : SegW w B C q (some ⟨b, off, none⟩) xs) (n : Nat) : SegW w B C q (some ⟨b, off + n, none⟩) (xs.drop n) := by
  rcases h with h | ⟨b1, off1, h1, h2, h3, h4, h5, h6⟩
  · exact .inl (by simp [h])
  · injection h1 with h1
    injection h1 with e1 e2 _
    subst e1 e2
    refine .inr ⟨b, off + n, rfl, h2, h3, h4, h5, fun j u hu => ?_⟩
    rw [List.getElem?_drop] at hu
    rw [Nat.add_assoc]
    exact h6 _ u hu
/-- What a call of the walk comes to: its stands are written down, unless it fails. -/
def Wal (w0 : World) (base B C : Nat) (out : List Stn) (q : Option Nat) (K : List Stn) (m : Nat) (G : Prop) (w : World) (r : Ending) (w' : World) : Prop :=
  r = .returned (.tuple #[]) ∧ ∃ out' e' q', WS w0 base B C out' e' q' w' ∧ Nq q q' w ∧ KpW B C q w w' ∧ (e' = 0 → out' = out ++ K) ∧ out'.length ≤ out.length + m ∧ (G → e' = 0)
theorem dimen2_any (g : Nat) (x y : Int) (w : World) (h : Blk w g 3 #[.int .i64 x, .int .i64 y]) :
    Calls Tryz.prog 68 #[.slice (some ⟨g, 0, none⟩) 2 2] w fun r w' => r = .returned (.bool (dimB x && dimB y)) ∧ w' = w := by
  have h0 : w.cell? ⟨g, 0, none⟩ = some (.int .i64 x) := Blk.cell h 0
  have h1 : w.cell? ⟨g, 1, none⟩ = some (.int .i64 y) := Blk.cell h 1
  clear h
  have fin : ∀ b : Bool, (dimB x && dimB y) = b → (Ending.returned (.bool b) = .returned (.bool (dimB x && dimB y))) := fun b h => by rw [h]
  by_cases hx0 : x < -1073741823
  · have HR := Lib.hid (fin false (by simp [dimB]; omega))
    clear fin
    go_enter Tryz.func68, Tryz.ntmps68
    go_wp2_with fail
    refine wp_loop_rounds 3 ?_
    repeat any_goals (rw [rounds_succ]; go_wp2_with fail)
    go_ret
    exact ⟨HR.out, rfl⟩
  by_cases hx1 : 1073741823 < x
  · have HR := Lib.hid (fin false (by simp [dimB]; omega))
    clear fin
    go_enter Tryz.func68, Tryz.ntmps68
    go_wp2_with fail
    refine wp_loop_rounds 3 ?_
    repeat any_goals (rw [rounds_succ]; go_wp2_with fail)
    go_ret
    exact ⟨HR.out, rfl⟩
  have hx2 : -1073741823 ≤ x := by omega
  have hx3 : x ≤ 1073741823 := by omega
  by_cases hy0 : y < -1073741823
  · have HR := Lib.hid (fin false (by simp [dimB]; omega))
    clear fin
    go_enter Tryz.func68, Tryz.ntmps68
    go_wp2_with fail
    refine wp_loop_rounds 3 ?_
    repeat any_goals (rw [rounds_succ]; go_wp2_with fail)
    go_ret
    exact ⟨HR.out, rfl⟩
  by_cases hy1 : 1073741823 < y
  · have HR := Lib.hid (fin false (by simp [dimB]; omega))
    clear fin
    go_enter Tryz.func68, Tryz.ntmps68
    go_wp2_with fail
    refine wp_loop_rounds 3 ?_
    repeat any_goals (rw [rounds_succ]; go_wp2_with fail)
    go_ret
    exact ⟨HR.out, rfl⟩
  have hy2 : -1073741823 ≤ y := by omega
  have hy3 : y ≤ 1073741823 := by omega
  have HR := Lib.hid (fin true (by simp [dimB]; omega))
  clear fin
  go_enter Tryz.func68, Tryz.ntmps68
  go_wp2_with fail
  refine wp_loop_rounds 3 ?_
  repeat any_goals (rw [rounds_succ]; go_wp2_with fail)
  go_ret
  exact ⟨HR.out, rfl⟩
theorem fail_any {w0 : World} {base B C : Nat} {out : List Stn} {e : Int} {q : Option Nat} {w : World} (h : WS w0 base B C out e q w) (k : Int) (hk : ¬ k = 0) :
    Calls Tryz.prog 174 #[.pointer (some ⟨B, 0, none⟩), .int .i64 k] w fun r w' => r = .returned (.tuple #[]) ∧ ∃ e', WS w0 base B C out e' q w' ∧ KpW B C q w w' ∧ ¬ e' = 0 := by
  have c1 : w.cell? ⟨B, 1, none⟩ = some (.int .i64 e) := Blk.cell h.wk 1
  have c2 := Blk.free h.wk 1
  have H := Lib.hid h
  clear h
  by_cases he : e = 0
  · subst he
    go_enter Tryz.func174, Tryz.ntmps174
    go_wp2_with fail
    go_returns
    have hs := grown_set w B 1 (.int .i64 k)
    obtain ⟨v, hv, ho, hq⟩ := H.out.vr
    refine ⟨rfl, k, ⟨Blk.set H.out.wk 1 _, ⟨v, hv.grown hs (by intro e; injection e with e; exact H.out.lo.2.2.1 e.symm), ho.kept hs ?_, hq⟩, below_grown (Nat.le_refl _) H.out.low hs (fun p hp => by injection hp with hp; have := H.out.lo.1; omega), H.out.lo.1, H.out.lo.2.1, H.out.lo.2.2.1, H.out.lo.2.2.2.1, H.out.lo.2.2.2.2.1, Nat.le_trans H.out.lo.2.2.2.2.2 hs.size⟩, ⟨hs.size, fun i hi h1 _ _ => hs.block i hi (by intro e; injection e with e; exact h1 e)⟩, hk⟩
    cases hv2 : v.ownBlock with
    | none => exact .inl rfl
    | some p =>
      refine .inr ?_
      intro e
      injection e with e
      have := (ho.lt p hv2).1
      have := H.out.lo.2.2.2.1
      omega
  · have t : (e == 0) = false := by simp [he]
    go_enter Tryz.func174, Tryz.ntmps174
    go_wp2_with fail
    go_returns
    exact ⟨rfl, e, H.out, KpW.refl _ _ _ _, he⟩
theorem own_val {w : World} {base : Nat} {e : TypeId} {size n : Nat} {v : Value} {xs : List Value} (h : w.ownsRow base e size v n xs) : ∃ A c, v = .slice A n c ∧ n ≤ c := by
  obtain ⟨A, c, h1, h2, _⟩ := Seg.of_own h
  exact ⟨A, c, h1, h2⟩
theorem tell_mid {w w6 : World} {C : Nat} {t : TypeId} {v : Value} {o1 o2 : Obj} (h : Blk w C t #[v]) (hg : ((w.alloc o1).alloc o2).grownBy w6 v.ownBlock) (hq : some C ≠ v.ownBlock) : C < w6.heap.size ∧ w6.frozen? ⟨C, 0, none⟩ = false ∧ w6.cell? ⟨C, 0, none⟩ = some v := by
  have h2 := ((h.alloc o1).alloc o2).grown hg hq
  exact ⟨h2.lt, Blk.free h2 0, Blk.cell h2 0⟩
theorem tell_end {w0 : World} {base B C : Nat} {out : List Stn} {e : Int} {q : Option Nat} {w w6 : World} {v v6 : Value} {s : Stn} {o1 o2 : Obj} (h : WS w0 base B C out e q w) (hv : Blk w C 144 #[v]) (ho : w.ownsRow base 148 8 v out.length (out.flatMap Stn.cs)) (hq : v.ownBlock = q)
    (hg : ((w.alloc o1).alloc o2).grownBy w6 v.ownBlock) (h6 : w6.ownsRow base 148 8 v6 (out.length + 1) (out.flatMap Stn.cs ++ s.cs)) (hn : v6.ownBlock = v.ownBlock ∨ (∃ q, v6.ownBlock = some q ∧ (w.alloc o1).heap.size ≤ q) ∧ ((w.alloc o1).alloc o2).grownBy w6 none) :
    WS w0 base B C (out ++ [s]) e v6.ownBlock (w6.setCell ⟨C, 0, none⟩ v6) ∧ Nq q v6.ownBlock w ∧ KpW B C q w (w6.setCell ⟨C, 0, none⟩ v6) := by
  have hs := grown_set w6 C 0 v6
  have hl := h.lo
  have hqB : some B ≠ v.ownBlock := fun e => by have := (ho.lt B e.symm).1; omega
  have hqC : some C ≠ v.ownBlock := fun e => by have := (ho.lt C e.symm).1; omega
  have hsz : w.heap.size + 2 ≤ w6.heap.size := by have := hg.size; simp at this; omega
  have h6' : w6.ownsRow base 148 8 v6 (out ++ [s]).length ((out ++ [s]).flatMap Stn.cs) := by simpa using h6
  refine ⟨⟨((h.wk.alloc o1).alloc o2 |>.grown hg hqB).grown hs (by intro e; injection e with e; omega), ⟨v6, ?_, h6'.kept hs ?_, rfl⟩, ?_, hl.1, hl.2.1, hl.2.2.1, hl.2.2.2.1, hl.2.2.2.2.1, ?_⟩, ?_, ?_, ?_⟩
  · exact Blk.set (((hv.alloc o1).alloc o2).grown hg hqC) 0 v6
  · cases hv6 : v6.ownBlock with
    | none => exact .inl rfl
    | some p =>
      refine .inr ?_
      intro e
      injection e with e
      have := (h6'.lt p hv6).1
      omega
  · exact below_grown (Nat.le_refl _) (below_grown (Nat.le_refl _) (andAlloc (andAlloc h.low o1) o2) hg (fun p hp => by have := (ho.lt p hp).1; omega)) hs (fun p hp => by injection hp with hp; omega)
  · have := hs.size; omega
  · rcases hn with hn | ⟨⟨p, hp, hp2⟩, _⟩
    · exact .inl (hn.trans hq)
    · exact .inr ⟨p, hp, by simp at hp2; omega⟩
  · have := hs.size; omega
  · intro i hi h1 h2 h3
    rw [← hq] at h3
    refine (hs.block i (by omega) (by intro e; injection e with e; exact h2 e)).trans ((hg.block i (by simp; omega) h3).trans ?_)
    exact (Below.heap_alloc (w.alloc o1) o2 i (by simp; omega)).trans (Below.heap_alloc w o1 i hi)
theorem info_stand : (Tryz.prog.info? 148).map (fun i => (i.zero, i.size, i.bytes)) = some (some (.agg #[.int .i64 0, .int .i64 0, .int .u8 0, .int .i64 0, .int .i64 0, .int .i64 0, .int .i64 0, .string ⟨#[]⟩]), 8, 72) := by kernel_rfl
set_option maxHeartbeats 2000000 in
set_option maxRecDepth 100000 in
theorem tell_any {w0 : World} {base B C : Nat} {out : List Stn} {e : Int} {q : Option Nat} {w : World} (h : WS w0 base B C out e q w) (kind font char hh vv wd ht : Int) (text : ByteArray) (hn : out.length ≤ 1000000) :
    Calls Tryz.prog 115 #[.agg #[.int .i64 kind, .int .i64 font, .int .u8 char, .int .i64 hh, .int .i64 vv, .int .i64 wd, .int .i64 ht, .string text], .pointer (some ⟨C, 0, none⟩)] w fun r w' => r = .returned (.tuple #[]) ∧ ∃ q', WS w0 base B C (out ++ [⟨kind, font, char, hh, vv, wd, ht, text⟩]) e q' w' ∧ Nq q q' w ∧ KpW B C q w w' := by
  obtain ⟨v, hv, ho, hq⟩ := h.vr
  have c0 : w.cell? ⟨C, 0, none⟩ = some v := Blk.cell hv 0
  have hC : C < w.heap.size := hv.lt
  have H := Lib.hid h
  have HV := Lib.hid (And.intro hv (And.intro ho hq))
  have HN := Lib.hid hn
  clear h hv ho hq hn
  have HQ := Lib.hid (show some C ≠ v.ownBlock from fun e => by have := (HV.out.2.1.lt C e.symm).1; have := H.out.lo.2.2.2.2.1; omega)
  have HO := Lib.hid (HV.out.2.1.alloc (.cells #[.int .i64 kind, .int .i64 font, .int .u8 char, .int .i64 hh, .int .i64 vv, .int .i64 wd, .int .i64 ht, .string text] 148))
  go_enter Tryz.func115, Tryz.ntmps115
  go_wp2_with (at_builtin; refine wpList_push_at rfl _ _ 144 rfl base 148 _ 8 72 Tryz.underlying144 info_stand rfl (by decide) (by decide) _ _ _ rfl HO.out (by have := H.out.lo.2.2.2.2.2; simp; omega) _ rfl rfl rfl (by simp) (by have := HN.out; omega) ?_; intro v6 w6 hown6 hg6 hnn6; obtain ⟨A6, c6, e6, _⟩ := own_val hown6; subst e6; obtain ⟨hC6, hf7, hc7⟩ := tell_mid HV.out.1 hg6 HQ.out)
  go_returns
  obtain ⟨r1, r2, r3⟩ := tell_end (s := ⟨kind, font, char, hh, vv, wd, ht, text⟩) H.out HV.out.1 HV.out.2.1 HV.out.2.2 hg6 hown6 hnn6
  exact ⟨rfl, _, r1, r2, r3⟩
theorem fresh_ne {w0 : World} {base B C : Nat} {out : List Stn} {e : Int} {q : Option Nat} {w : World} (h : WS w0 base B C out e q w) : w.heap.size ≠ B ∧ w.heap.size ≠ C ∧ some w.heap.size ≠ q := by
  have h1 := h.wk.lt
  obtain ⟨v, hv, ho, hq⟩ := h.vr
  have h2 := hv.lt
  refine ⟨by omega, by omega, ?_⟩
  intro e
  rw [← hq] at e
  have := (ho.lt _ e.symm).2
  omega
set_option maxHeartbeats 2000000 in
set_option maxRecDepth 100000 in
/-- Something that stands is told; what stands too far fails. -/
theorem put_any {w0 : World} {base B C : Nat} {out : List Stn} {q : Option Nat} {w : World} (h : WS w0 base B C out 0 q w) (kind font char hh vv wd ht : Int) (text : ByteArray) (hn : out.length ≤ 1000000) :
    Calls Tryz.prog 186 #[.pointer (some ⟨B, 0, none⟩), .agg #[.int .i64 kind, .int .i64 font, .int .u8 char, .int .i64 hh, .int .i64 vv, .int .i64 wd, .int .i64 ht, .string text]] w (Wal w0 base B C out q [⟨kind, font, char, hh, vv, wd, ht, text⟩] 1 ((dimB hh && dimB vv) = true) w) := by
  have H := Lib.hid h
  have HN := Lib.hid hn
  clear h hn
  cases hd : (dimB hh && dimB vv)
  · go_enter Tryz.func186, Tryz.ntmps186
    go_wp2_with (go_at_call 68; refine Calls.mono (dimen2_any _ hh vv _ ?_) ?_; (· exact Blk.new' (by simp)); rw [hd]; rintro r w1 ⟨rfl, rfl⟩)
    have hW := andAlloc (andAlloc (Below.refl w.heap.size w) (.cells #[.int .i64 kind, .int .i64 font, .int .u8 char, .int .i64 hh, .int .i64 vv, .int .i64 wd, .int .i64 ht, .string text] 148)) (.cells #[.int .i64 hh, .int .i64 vv] 3)
    have hBx := (Blk.new w 148 #[.int .i64 kind, .int .i64 font, .int .u8 char, .int .i64 hh, .int .i64 vv, .int .i64 wd, .int .i64 ht, .string text]).alloc (.cells #[.int .i64 hh, .int .i64 vv] 3)
    have hg := fresh_ne H.out
    generalize (w.alloc (.cells #[.int .i64 kind, .int .i64 font, .int .u8 char, .int .i64 hh, .int .i64 vv, .int .i64 wd, .int .i64 ht, .string text] 148)).alloc (.cells #[.int .i64 hh, .int .i64 vv] 3) = W at hW hBx ⊢
    generalize w.heap.size = g at hBx hg ⊢
    have HW := Lib.hid hW
    refine (fail_any (H.out.below hW) 20 (by decide)).mono ?_
    rintro r w1 ⟨rfl, e', hws, hkp, he⟩
    have hB1 : Blk w1 g 148 _ := (hkp.block g hBx.lt hg.1 hg.2.1 hg.2.2).trans hBx
    have hwk : w1.cell? ⟨B, 0, none⟩ = some (clo C) := Blk.cell hws.wk 0
    have b0 : w1.cell? ⟨g, 0, none⟩ = some (.int .i64 kind) := Blk.cell hB1 0
    have b1 : w1.cell? ⟨g, 1, none⟩ = some (.int .i64 font) := Blk.cell hB1 1
    have b2 : w1.cell? ⟨g, 2, none⟩ = some (.int .u8 char) := Blk.cell hB1 2
    have b3 : w1.cell? ⟨g, 3, none⟩ = some (.int .i64 hh) := Blk.cell hB1 3
    have b4 : w1.cell? ⟨g, 4, none⟩ = some (.int .i64 vv) := Blk.cell hB1 4
    have b5 : w1.cell? ⟨g, 5, none⟩ = some (.int .i64 wd) := Blk.cell hB1 5
    have b6 : w1.cell? ⟨g, 6, none⟩ = some (.int .i64 ht) := Blk.cell hB1 6
    have b7 : w1.cell? ⟨g, 7, none⟩ = some (.string text) := Blk.cell hB1 7
    have HS := Lib.hid (And.intro hws (And.intro hkp he))
    clear hws hkp he hBx hB1 hW
    unfold clo at hwk
    go_upto_region 3 with fail
    go_still_tail 5, (by kernel_rfl)
    change wpList _ _ _ _ _ w1.drew
    have hws2 := HS.out.1.below (Below.drew (Below.refl w1.heap.size w1))
    have hkp2 : KpW B C q w1 w1.drew := KpW.of_below (Below.drew (Below.refl w1.heap.size w1))
    generalize w1.drew = w2 at hws2 hkp2 ⊢
    have HS2 := Lib.hid (And.intro hws2 hkp2)
    clear hws2 hkp2 b0 b1 b2 b3 b4 b5 b6 b7 hwk
    go_wp2_with fail
    refine (tell_any HS2.out.1 kind font char hh vv wd ht text HN.out).mono ?_
    rintro r w3 ⟨rfl, q', hws3, hnq, hkp3⟩
    have HS3 := Lib.hid (And.intro hws3 (And.intro hnq hkp3))
    clear hws3 hnq hkp3
    go_wp2_with fail
    go_returns
    have k1 := ((KpW.of_below HW.out).trans (.inl rfl) HS.out.2.1).trans (.inl rfl) HS2.out.2
    exact ⟨rfl, _, _, q', HS3.out.1, HS3.out.2.1.far k1.size, k1.trans (.inl rfl) HS3.out.2.2, fun h => absurd h HS.out.2.2, by simp, fun h => by cases h⟩
  · go_enter Tryz.func186, Tryz.ntmps186
    go_wp2_with (go_at_call 68; refine Calls.mono (dimen2_any _ hh vv _ ?_) ?_; (· exact Blk.new' (by simp)); rw [hd]; rintro r w1 ⟨rfl, rfl⟩)
    have hW := andAlloc (andAlloc (Below.refl w.heap.size w) (.cells #[.int .i64 kind, .int .i64 font, .int .u8 char, .int .i64 hh, .int .i64 vv, .int .i64 wd, .int .i64 ht, .string text] 148)) (.cells #[.int .i64 hh, .int .i64 vv] 3)
    have hBx := (Blk.new w 148 #[.int .i64 kind, .int .i64 font, .int .u8 char, .int .i64 hh, .int .i64 vv, .int .i64 wd, .int .i64 ht, .string text]).alloc (.cells #[.int .i64 hh, .int .i64 vv] 3)
    have hg := fresh_ne H.out
    generalize (w.alloc (.cells #[.int .i64 kind, .int .i64 font, .int .u8 char, .int .i64 hh, .int .i64 vv, .int .i64 wd, .int .i64 ht, .string text] 148)).alloc (.cells #[.int .i64 hh, .int .i64 vv] 3) = W at hW hBx ⊢
    generalize w.heap.size = g at hBx hg ⊢
    have HW := Lib.hid hW
    have hws := H.out.below hW
    have hB1 := hBx
    have hwk : W.cell? ⟨B, 0, none⟩ = some (clo C) := Blk.cell hws.wk 0
    have b0 : W.cell? ⟨g, 0, none⟩ = some (.int .i64 kind) := Blk.cell hB1 0
    have b1 : W.cell? ⟨g, 1, none⟩ = some (.int .i64 font) := Blk.cell hB1 1
    have b2 : W.cell? ⟨g, 2, none⟩ = some (.int .u8 char) := Blk.cell hB1 2
    have b3 : W.cell? ⟨g, 3, none⟩ = some (.int .i64 hh) := Blk.cell hB1 3
    have b4 : W.cell? ⟨g, 4, none⟩ = some (.int .i64 vv) := Blk.cell hB1 4
    have b5 : W.cell? ⟨g, 5, none⟩ = some (.int .i64 wd) := Blk.cell hB1 5
    have b6 : W.cell? ⟨g, 6, none⟩ = some (.int .i64 ht) := Blk.cell hB1 6
    have b7 : W.cell? ⟨g, 7, none⟩ = some (.string text) := Blk.cell hB1 7
    have HS := Lib.hid (And.intro hws (KpW.refl B C q W))
    clear hws hBx hB1 hW
    unfold clo at hwk
    go_upto_region 3 with fail
    go_still_tail 5, (by kernel_rfl)
    change wpList _ _ _ _ _ W.drew
    have hws2 := HS.out.1.below (Below.drew (Below.refl W.heap.size W))
    have hkp2 : KpW B C q W W.drew := KpW.of_below (Below.drew (Below.refl W.heap.size W))
    generalize W.drew = w2 at hws2 hkp2 ⊢
    have HS2 := Lib.hid (And.intro hws2 hkp2)
    clear hws2 hkp2 b0 b1 b2 b3 b4 b5 b6 b7 hwk
    go_wp2_with fail
    refine (tell_any HS2.out.1 kind font char hh vv wd ht text HN.out).mono ?_
    rintro r w3 ⟨rfl, q', hws3, hnq, hkp3⟩
    have HS3 := Lib.hid (And.intro hws3 (And.intro hnq hkp3))
    clear hws3 hnq hkp3
    go_wp2_with fail
    go_returns
    have k1 := ((KpW.of_below HW.out).trans (.inl rfl) HS.out.2).trans (.inl rfl) HS2.out.2
    exact ⟨rfl, _, _, q', HS3.out.1, HS3.out.2.1.far k1.size, k1.trans (.inl rfl) HS3.out.2.2, fun _ => rfl, by simp, fun _ => rfl⟩
end Go.Proofs.YtoboecenlangmaaGreat.Dv
