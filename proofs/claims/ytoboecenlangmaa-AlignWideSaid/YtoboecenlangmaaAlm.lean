import Derived.Test.YtoboecenlangmaaNodeAp
import Derived.Test.YtoboecenlangmaaPw
/- Rows of cells of lists, in memory: those that come in and those of the program have the same shape. Conditions: those that each theorem names. -/
namespace Go.Proofs.Ytoboecenlangmaa.Al
open Go.RowKit
open Me Np No
set_option linter.unusedVariables false

theorem cell_block {w w' : World} {b : Nat} (h : w'.heap[b]? = w.heap[b]?) (o : Nat) : w'.cell? ⟨b, o, none⟩ = w.cell? ⟨b, o, none⟩ := by
  simp only [World.cell?, h]
theorem frozen_block {w w' : World} {b : Nat} (h : w'.heap[b]? = w.heap[b]?) (o : Nat) : w'.frozen? ⟨b, o, none⟩ = w.frozen? ⟨b, o, none⟩ := by
  simp only [World.frozen?, h]
/-- A piece of memory that reads as these cells, in a block that S names. -/
def SegS (w : World) (S : Nat → Prop) (A : Option Addr) (xs : List Value) : Prop :=
  xs = [] ∨ ∃ b off : Nat, A = some ⟨b, off, none⟩ ∧ b < w.heap.size ∧ S b ∧ ∀ j u, xs[j]? = some u → w.cell? ⟨b, off + j, none⟩ = some u
/-- What stays: the blocks that S names. -/
def Kp (S : Nat → Prop) (w w' : World) : Prop := w.heap.size ≤ w'.heap.size ∧ ∀ b, b < w.heap.size → S b → w'.heap[b]? = w.heap[b]?
section
variable {w w' : World} {S S' : Nat → Prop} {A : Option Addr} {xs : List Value}
theorem SegS.keep (h : SegS w S A xs) (k : Kp S w w') : SegS w' S A xs := by
  rcases h with h | ⟨b, off, rfl, hb, hs, hc⟩
  · exact .inl h
  · exact .inr ⟨b, off, rfl, Nat.lt_of_lt_of_le hb k.1, hs, fun j u hu => (cell_block (k.2 b hb hs) _).trans (hc j u hu)⟩
theorem SegS.mono (h : SegS w S A xs) (hS : ∀ b, b < w.heap.size → S b → S' b) : SegS w S' A xs := by
  rcases h with h | ⟨b, off, rfl, hb, hs, hc⟩
  · exact .inl h
  · exact .inr ⟨b, off, rfl, hb, hS b hb hs, hc⟩
theorem SegS.seg (h : SegS w S A xs) : Seg w w.heap.size A xs := by
  rcases h with h | ⟨b, off, rfl, hb, hs, hc⟩
  · exact .inl h
  · exact .inr ⟨b, off, rfl, hb, hc⟩
theorem SegS.of {B : Nat} (h : Seg w B A xs) (hB : B ≤ w.heap.size) (hS : ∀ b, b < B → S b) : SegS w S A xs := by
  rcases h with h | ⟨b, off, rfl, hb, hc⟩
  · exact .inl h
  · exact .inr ⟨b, off, rfl, by omega, hS b hb, hc⟩
/-- What the call owns. -/
theorem SegS.own {base : Nat} {e : TypeId} {size n : Nat} {v : Value} (h : w.ownsRow base e size v n xs) (hS : ∀ b, v.ownBlock = some b → S b) :
    ∃ (A : Option Addr) (c : Nat), v = .slice A n c ∧ n ≤ c ∧ c ≤ maxLen ∧ (A = none → c = 0) ∧ SegS w S A xs := by
  rcases id h.2 with ⟨rfl, rfl⟩ | ⟨g, cap, cur, rfl, hg, hh, hn, hc, hs, hx⟩
  · refine ⟨none, 0, rfl, by omega, by simp [maxLen], fun _ => rfl, .inl ?_⟩
    have := h.1
    simp at this
    exact this
  · refine ⟨_, _, rfl, hn, hc, (by intro hh; cases hh), ?_⟩
    by_cases hx0 : xs = []
    · exact .inl hx0
    · refine .inr ⟨g, 0, rfl, (h.lt g rfl).2, hS g rfl, fun j u hu => ?_⟩
      have := h.cells (g := g) rfl j u hu
      unfold Addr.add at this
      split at this
      · rename_i hj; subst hj; simpa using this
      · simpa using this
theorem Kp.below (S : Nat → Prop) (h : Below w.heap.size w w') : Kp S w w' := ⟨h.size, fun b hb _ => h.block b hb⟩
theorem Kp.grown {g : Option Nat} (h : w.grownBy w' g) (hS : ∀ b, b < w.heap.size → S b → some b ≠ g) : Kp S w w' := ⟨h.size, fun b hb hs => h.block b hb (hS b hb hs)⟩
theorem Kp.alloc (S : Nat → Prop) (w : World) (o : Obj) : Kp S w (w.alloc o) := ⟨by simp, fun b hb _ => Below.heap_alloc w o b hb⟩
theorem Kp.drewN (S : Nat → Prop) (w : World) (n : Nat) : Kp S w (w.drewN n) := ⟨Nat.le_refl _, fun _ _ _ => rfl⟩
theorem Kp.set {p : Addr} {u : Value} (hS : ∀ b, b < w.heap.size → S b → b ≠ p.block) : Kp S w (w.setCell p u) := ⟨by simp, fun b hb hs => Below.heap_setCell w p u b (hS b hb hs)⟩
theorem Kp.trans {a : World} (h : Kp S w a) (k : Kp S a w') : Kp S w w' := ⟨Nat.le_trans h.1 k.1, fun b hb hs => (k.2 b (Nat.lt_of_lt_of_le hb h.1) hs).trans (h.2 b hb hs)⟩
end

/-- A cell; a row. -/
structure Cl where
  (A : Option Addr) (c : Nat) (l : List Nd) (sp : Int)
structure Rw where
  (A : Option Addr) (c : Nat) (cs : List Cl) (E : Option Addr) (k : Nat) (ex : List Nd)
def Cl.vals (x : Cl) : List Value := [.slice x.A x.l.length x.c, .int .i64 x.sp]
def Rw.vals (r : Rw) : List Value := [.slice r.A r.cs.length r.c, .slice r.E r.ex.length r.k]
def Cl.d (x : Cl) : List Nd × Int := (x.l, x.sp)
def Rw.d (r : Rw) : List (List Nd × Int) × List Nd := (r.cs.map Cl.d, r.ex)
theorem Cl.vals_length (x : Cl) : x.vals.length = 2 := rfl
theorem Rw.vals_length (r : Rw) : r.vals.length = 2 := rfl
/-- A list as it lies in memory. -/
structure LsOk (w : World) (S : Nat → Prop) (A : Option Addr) (c : Nat) (l : List Nd) : Prop where
  cap : l.length ≤ c
  len : l.length ≤ 879609302220
  nil : A = none → c = 0
  seg : SegS w S A (l.flatMap ncs)
structure Rw.Ok (w : World) (S : Nat → Prop) (r : Rw) : Prop where
  cap : r.cs.length ≤ r.c
  len : r.cs.length ≤ 4398046511103
  seg : SegS w S r.A (r.cs.flatMap Cl.vals)
  cells : ∀ x ∈ r.cs, LsOk w S x.A x.c x.l
  extra : LsOk w S r.E r.k r.ex
structure RsOk (w : World) (S : Nat → Prop) (A : Option Addr) (c : Nat) (rs : List Rw) : Prop where
  cap : rs.length ≤ c
  len : rs.length ≤ 2932031007402
  seg : SegS w S A (rs.flatMap Rw.vals)
  rows : ∀ r ∈ rs, r.Ok w S
section
variable {w w' : World} {S S' : Nat → Prop}
theorem LsOk.keep {A : Option Addr} {c : Nat} {l : List Nd} (h : LsOk w S A c l) (k : Kp S w w') : LsOk w' S A c l := ⟨h.cap, h.len, h.nil, h.seg.keep k⟩
theorem LsOk.mono {A : Option Addr} {c : Nat} {l : List Nd} (h : LsOk w S A c l) (hS : ∀ b, b < w.heap.size → S b → S' b) : LsOk w S' A c l := ⟨h.cap, h.len, h.nil, h.seg.mono hS⟩
theorem Rw.Ok.keep {r : Rw} (h : r.Ok w S) (k : Kp S w w') : r.Ok w' S := ⟨h.cap, h.len, h.seg.keep k, fun x hx => (h.cells x hx).keep k, h.extra.keep k⟩
theorem Rw.Ok.mono {r : Rw} (h : r.Ok w S) (hS : ∀ b, b < w.heap.size → S b → S' b) : r.Ok w S' := ⟨h.cap, h.len, h.seg.mono hS, fun x hx => (h.cells x hx).mono hS, h.extra.mono hS⟩
theorem RsOk.keep {A : Option Addr} {c : Nat} {rs : List Rw} (h : RsOk w S A c rs) (k : Kp S w w') : RsOk w' S A c rs := ⟨h.cap, h.len, h.seg.keep k, fun x hx => (h.rows x hx).keep k⟩
theorem RsOk.below {A : Option Addr} {c : Nat} {rs : List Rw} (h : RsOk w S A c rs) (k : Below w.heap.size w w') : RsOk w' S A c rs := h.keep (Kp.below S k)
/-- The cells of row i. -/
theorem RsOk.row {A : Option Addr} {c : Nat} {rs : List Rw} (h : RsOk w S A c rs) {i : Nat} {r : Rw} (hi : rs[i]? = some r) :
    ∃ b off : Nat, A = some ⟨b, off, none⟩ ∧ b < w.heap.size ∧ w.cell? ⟨b, off + i * 2, none⟩ = some (.slice r.A r.cs.length r.c) ∧ w.cell? ⟨b, off + i * 2 + 1, none⟩ = some (.slice r.E r.ex.length r.k) := by
  obtain ⟨b, off, hA, hb, hc⟩ := h.seg.seg.row Rw.vals_length hi (by decide)
  exact ⟨b, off, hA, hb, by simpa using hc 0 _ rfl, hc 1 _ rfl⟩
/-- The cells of cell k. -/
theorem Rw.Ok.cell {r : Rw} (h : r.Ok w S) {k : Nat} {x : Cl} (hk : r.cs[k]? = some x) :
    ∃ b off : Nat, r.A = some ⟨b, off, none⟩ ∧ b < w.heap.size ∧ w.cell? ⟨b, off + k * 2, none⟩ = some (.slice x.A x.l.length x.c) ∧ w.cell? ⟨b, off + k * 2 + 1, none⟩ = some (.int .i64 x.sp) := by
  obtain ⟨b, off, hA, hb, hc⟩ := h.seg.seg.row Cl.vals_length hk (by decide)
  exact ⟨b, off, hA, hb, by simpa using hc 0 _ rfl, hc 1 _ rfl⟩
theorem RsOk.get {A : Option Addr} {c : Nat} {rs : List Rw} (h : RsOk w S A c rs) {i : Nat} {r : Rw} (hi : rs[i]? = some r) : r.Ok w S := h.rows r (List.mem_of_getElem? hi)
theorem Rw.Ok.get {r : Rw} (h : r.Ok w S) {k : Nat} {x : Cl} (hk : r.cs[k]? = some x) : LsOk w S x.A x.c x.l := h.cells x (List.mem_of_getElem? hk)
end
theorem get_some {α : Type} {l : List α} {i : Nat} (h : i < l.length) : ∃ x, l[i]? = some x := ⟨_, List.getElem?_eq_getElem h⟩
theorem info_cell : (Try.prog.info? 38).map (fun i => (i.zero, i.size, i.bytes)) = some (some (.agg #[.slice none 0 0, .int .i64 0]), 2, 32) := by kernel_rfl
theorem info_row : (Try.prog.info? 36).map (fun i => (i.zero, i.size, i.bytes)) = some (some (.agg #[.slice none 0 0, .slice none 0 0]), 2, 48) := by kernel_rfl
end Go.Proofs.Ytoboecenlangmaa.Al
