import Derived.WalkKit
import Derived.Below
import Derived.Laws.OwnMore
import Derived.OwnWalk
import Derived.Deep.Draws
import Derived.Lib.Hide
import Derived.ChangeSame
/- Words for memory: a piece of memory that reads as a list of cells, nil let in; frames. Conditions: those that each theorem names. -/
namespace Go.Proofs.Ytmcekdjhkjhcdaa.Me
open Go.RowKit

/-- A (an address, or none where nothing is there) stands at the head of the cells xs, in a block below B. -/
def Seg (w : World) (B : Nat) (A : Option Addr) (xs : List Value) : Prop :=
  xs = [] ∨ ∃ b off : Nat, A = some ⟨b, off, none⟩ ∧ b < B ∧ ∀ j u, xs[j]? = some u → w.cell? ⟨b, off + j, none⟩ = some u

section
variable {w w' : World} {B B' : Nat} {A : Option Addr} {xs : List Value}
theorem Seg.nil (w : World) (B : Nat) (A : Option Addr) : Seg w B A [] := .inl rfl
theorem Seg.open_ (h : Seg w B A xs) (hx : xs ≠ []) : ∃ b off : Nat, A = some ⟨b, off, none⟩ ∧ b < B ∧ ∀ j u, xs[j]? = some u → w.cell? ⟨b, off + j, none⟩ = some u := by
  rcases h with h | h
  · exact absurd h hx
  · exact h
theorem Seg.keep (h : Seg w B A xs) (hk : ∀ p : Addr, p.block < B → w'.cell? p = w.cell? p) : Seg w' B A xs := by
  rcases h with h | ⟨b, off, rfl, hb, hc⟩
  · exact .inl h
  · exact .inr ⟨b, off, rfl, hb, fun j u hu => (hk _ hb).trans (hc j u hu)⟩
theorem Seg.more (h : Seg w B A xs) (hB : B ≤ B') : Seg w B' A xs := by
  rcases h with h | ⟨b, off, rfl, hb, hc⟩
  · exact .inl h
  · exact .inr ⟨b, off, rfl, by omega, hc⟩
theorem Seg.below (h : Seg w B A xs) (hb : Below B w w') : Seg w' B A xs := h.keep fun _ hp => hb.cell hp
theorem Seg.take (h : Seg w B A xs) (n : Nat) : Seg w B A (xs.take n) := by
  rcases h with h | ⟨b, off, rfl, hb, hc⟩
  · exact .inl (by rw [h]; simp)
  · refine .inr ⟨b, off, rfl, hb, fun j u hu => hc j u ?_⟩
    rw [List.getElem?_take] at hu
    split at hu
    · exact hu
    · cases hu
theorem Seg.drop {b off : Nat} (h : Seg w B (some ⟨b, off, none⟩) xs) (n : Nat) : Seg w B (some ⟨b, off + n, none⟩) (xs.drop n) := by
  rcases h with h | ⟨b', off', he, hb, hc⟩
  · exact .inl (by rw [h]; simp)
  · simp only [Option.some.injEq, Addr.mk.injEq, and_true] at he
    obtain ⟨rfl, rfl⟩ := he
    refine .inr ⟨b, off + n, rfl, hb, fun j u hu => ?_⟩
    rw [List.getElem?_drop] at hu
    rw [Nat.add_assoc]
    exact hc _ u hu
theorem Seg.of_own {base : Nat} {e : TypeId} {size n : Nat} {v : Value} (h : w.ownsRow base e size v n xs) :
    ∃ (A : Option Addr) (c : Nat), v = .slice A n c ∧ n ≤ c ∧ c ≤ maxLen ∧ Seg w w.heap.size A xs := by
  rcases h.2 with ⟨rfl, rfl⟩ | ⟨g, cap, cur, rfl, hg, hh, hn, hc, hs, hx⟩
  · refine ⟨none, 0, rfl, by omega, by simp [maxLen], .inl ?_⟩
    have := h.1
    simp at this
    exact this
  · refine ⟨_, _, rfl, hn, hc, ?_⟩
    by_cases hx0 : xs = []
    · exact .inl hx0
    · refine .inr ⟨g, 0, rfl, ?_, fun j u hu => ?_⟩
      · exact (h.lt g rfl).2
      · have := h.cells (g := g) rfl j u hu
        unfold Addr.add at this
        split at this
        · rename_i hj; subst hj; simpa using this
        · simpa using this
end

/-! ### lists of rows -/
section
variable {α : Type} {f : α → List Value} {c : Nat}
theorem flat_length (hf : ∀ a, (f a).length = c) : ∀ l : List α, (l.flatMap f).length = l.length * c
  | [] => by simp
  | a :: l => by simp [hf a, flat_length hf l, Nat.add_mul, Nat.add_comm]
theorem flat_get (hf : ∀ a, (f a).length = c) : ∀ (l : List α) (k : Nat) (a : α) (j : Nat), l[k]? = some a → j < c → (l.flatMap f)[k * c + j]? = (f a)[j]?
  | [], k, a, j, h, _ => by simp at h
  | x :: l, 0, a, j, h, hj => by
    simp at h
    subst h
    simp only [List.flatMap_cons, Nat.zero_mul, Nat.zero_add]
    rw [List.getElem?_append_left (by rw [hf]; exact hj)]
  | x :: l, k + 1, a, j, h, hj => by
    simp only [List.flatMap_cons]
    rw [List.getElem?_append_right (by rw [hf, Nat.add_mul]; omega)]
    rw [show (k + 1) * c + j - (f x).length = k * c + j by rw [hf, Nat.add_mul]; omega]
    exact flat_get hf l k a j (by simpa using h) hj
theorem flat_take (hf : ∀ a, (f a).length = c) : ∀ (l : List α) (n : Nat), (l.take n).flatMap f = (l.flatMap f).take (n * c)
  | [], n => by simp
  | x :: l, 0 => by simp
  | x :: l, n + 1 => by
    have hle : (f x).length ≤ (n + 1) * c := by rw [hf, Nat.add_mul]; omega
    have hsub : (n + 1) * c - c = n * c := by rw [Nat.add_mul]; omega
    rw [List.take_succ_cons, List.flatMap_cons, List.flatMap_cons, flat_take hf l n, List.take_append, hf, List.take_of_length_le hle, hsub]
theorem flat_drop (hf : ∀ a, (f a).length = c) : ∀ (l : List α) (n : Nat), (l.drop n).flatMap f = (l.flatMap f).drop (n * c)
  | [], n => by simp
  | x :: l, 0 => by simp
  | x :: l, n + 1 => by
    have hle : (f x).length ≤ (n + 1) * c := by rw [hf, Nat.add_mul]; omega
    have hsub : (n + 1) * c - c = n * c := by rw [Nat.add_mul]; omega
    rw [List.drop_succ_cons, List.flatMap_cons, flat_drop hf l n, List.drop_append, hf, List.drop_of_length_le hle, hsub, List.nil_append]
end

/-- Cell j of row k of a piece of memory that reads as rows. -/
theorem Seg.row {w : World} {B : Nat} {A : Option Addr} {α : Type} {f : α → List Value} {c : Nat} {l : List α} (hf : ∀ a, (f a).length = c) (h : Seg w B A (l.flatMap f)) {k : Nat} {a : α} (hk : l[k]? = some a) (hc : 0 < c) :
    ∃ b off : Nat, A = some ⟨b, off, none⟩ ∧ b < B ∧ ∀ j u, (f a)[j]? = some u → w.cell? ⟨b, off + k * c + j, none⟩ = some u := by
  have hne : l.flatMap f ≠ [] := by
    intro e
    have h1 := flat_get hf l k a 0 hk hc
    rw [e] at h1
    have h2 : (f a)[0]? ≠ none := by simp [hf, hc]
    exact h2 (by rw [← h1]; simp)
  obtain ⟨b, off, rfl, hb, hcell⟩ := h.open_ hne
  refine ⟨b, off, rfl, hb, fun j u hu => ?_⟩
  have hj : j < c := by
    rcases Nat.lt_or_ge j c with hj | hj
    · exact hj
    · rw [List.getElem?_eq_none (by rw [hf]; exact hj)] at hu; cases hu
  have := hcell (k * c + j) u (by rw [flat_get hf l k a j hk hj]; exact hu)
  rw [← Nat.add_assoc] at this
  exact this

/-! ### frames -/
theorem below_drewN {B : Nat} {a w : World} (h : Below B a w) (n : Nat) : Below B a (w.drewN n) := ⟨h.os, h.tape, h.output, h.size, h.block⟩
theorem below_self {B : Nat} (w : World) : Below B w w := Below.refl B w
/-- What was there reads as it did: two rules for the walk. -/
theorem old_cells {W w1 : World} (hb : Below W.heap.size W w1) : (∀ b o : Nat, b < W.heap.size → w1.cell? ⟨b, o, none⟩ = W.cell? ⟨b, o, none⟩) ∧ (∀ b o : Nat, b < W.heap.size → w1.frozen? ⟨b, o, none⟩ = W.frozen? ⟨b, o, none⟩) :=
  ⟨fun b o h => hb.cell (p := ⟨b, o, none⟩) h, fun b o h => hb.frozen (p := ⟨b, o, none⟩) h⟩
/-- One call behind the other. -/
theorem andThen {w a b : World} (h : Below w.heap.size w a) (k : Below a.heap.size a b) : Below w.heap.size w b := h.trans (k.mono h.size)
theorem andAlloc {w a : World} (h : Below w.heap.size w a) (o : Obj) : Below w.heap.size w (a.alloc o) := h.alloc h.size o
end Go.Proofs.Ytmcekdjhkjhcdaa.Me
