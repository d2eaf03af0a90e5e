import Derived.Test.YtmcekdjhkjhcdaaHyh
/- The contract of Points, whatever it is asked. Conditions: those that each theorem names. -/
namespace Go.Proofs.Ytmcekdjhkjhcdaa.Hy
open Go.ChangeShapes Go.WideShapes Go.ChangeAt Go.RowKit
open Me Hp
set_option linter.unusedVariables false
set_option linter.unusedSimpArgs false

/-- The points of a word where there are exceptions, and the error. -/
def ptsB (P : List Pt) (X : List Xc) (l : Nm) : List Int := if xhas X l = true then ((X[xk X l]?).getD ([], [])).2 else pts (vals P l) (l.length - 1)
def ptsX (P : List Pt) (X : List Xc) (l : Nm) (left right : Int) : List Int := if wordB l = true ∧ 1 ≤ left ∧ 1 ≤ right then (ptsB P X l).filter (farB (l.length : Int) left right) else []
def ptsE (l : Nm) (left right : Int) : Int := if wordB l = true then (if 1 ≤ left ∧ 1 ≤ right then 0 else 11) else 70
theorem Points_any (B p : Nat) (P : List Pt) (X : List Xc) (v xv : Value) (s : ByteArray) (left right : Int) (w : World) (hs : s.size ≤ 1048576) (h : HyAt w B p P v xv) (hx : XAt w B X xv) :
    Calls Try.prog 27 #[.pointer (some ⟨p, 0, none⟩), .string s, .int .i64 left, .int .i64 right] w fun e w' => Below w.heap.size w w' ∧ ∃ u, e = .returned (.tuple #[u, .int .i64 (ptsE s.data.toList left right)]) ∧ w'.ownsRow w.heap.size 3 1 u (ptsX P X s.data.toList left right).length ((ptsX P X s.data.toList left right).map iv) := by
  cases hw : wordB s.data.toList
  · refine (Points_bad B p P v xv s left right w hs hw h).mono ?_
    rintro e w' ⟨rfl, rfl⟩
    have e1 : ptsX P X s.data.toList left right = [] := if_neg (by rw [hw]; simp)
    have e2 : ptsE s.data.toList left right = 70 := if_neg (by rw [hw]; simp)
    rw [e1, e2]
    exact ⟨Below.refl _ _, _, rfl, World.ownsRow_nil _ _ _ _⟩
  · by_cases hlr : 1 ≤ left ∧ 1 ≤ right
    · have e1 : ptsX P X s.data.toList left right = (ptsB P X s.data.toList).filter (farB (s.data.toList.length : Int) left right) := if_pos ⟨hw, hlr⟩
      have e2 : ptsE s.data.toList left right = 0 := by unfold ptsE; rw [if_pos hw, if_pos hlr]
      rw [e1, e2]
      unfold ptsB
      cases hh : xhas X s.data.toList
      · rw [if_neg (by simp)]
        exact Points_else B p P X v xv s left right w hs hw h hx hh hlr.1 hlr.2
      · obtain ⟨x, hx0, _⟩ := xhas_at hh
        rw [if_pos rfl, hx0, Option.getD_some, size_list]
        exact Points_there B p P X x v xv s left right w hs hw h hx hh hx0 hlr.1 hlr.2
    · refine (Points_far B p P v xv s left right w hs hw h (by omega)).mono ?_
      rintro e w' ⟨rfl, rfl⟩
      have e1 : ptsX P X s.data.toList left right = [] := if_neg (fun hh => hlr hh.2)
      have e2 : ptsE s.data.toList left right = 11 := by unfold ptsE; rw [if_pos hw, if_neg hlr]
      rw [e1, e2]
      exact ⟨Below.refl _ _, _, rfl, World.ownsRow_nil _ _ _ _⟩
theorem xk_nil (l : Nm) : xk [] l = 0 := rfl
theorem xhas_nil (l : Nm) : xhas [] l = false := rfl
theorem xhas_one (x : Xc) : xhas [x] x.1 = true := by
  unfold xhas
  rw [xk_cons, if_neg (by rw [lw_irr]; exact Bool.false_ne_true)]
  simp
theorem xhas_other {x : Xc} {l : Nm} (h : l ≠ x.1) : xhas [x] l = false := by
  unfold xhas
  refine decide_eq_false ?_
  rw [xk_cons]
  intro e
  split at e
  · simp at e
  · simp at e
    exact h e.symm
theorem xtell_one {t : Nm} {x : Xc} (h : par t = some x) : xtell [] t = [x] ∧ xtellE [] t = 0 := by
  unfold xtell xtellE
  rw [h]
  simp [xhas_nil, xput, xk_nil]
theorem xtell_none {t : Nm} (h : par t = none) : xtell [] t = [] ∧ xtellE [] t = 70 := by
  unfold xtell xtellE
  rw [h]
  exact ⟨rfl, rfl⟩
theorem far_all {l : List Int} {n : Int} (h : ∀ p ∈ l, 1 ≤ p ∧ p < n) : l.filter (farB n 1 1) = l := by
  rw [List.filter_eq_self]
  intro x hx
  have := h x hx
  unfold farB
  rw [decide_eq_true (by omega), decide_eq_true (by omega)]
  rfl
theorem ptsX_one (P : List Pt) {x : Xc} (h : IsX x) : ptsX P [x] x.1 1 1 = x.2 ∧ ptsE x.1 1 1 = 0 := by
  unfold ptsX ptsE ptsB
  rw [if_pos ⟨h.word, by decide, by decide⟩, if_pos (xhas_one x), if_pos h.word, if_pos (by decide)]
  have hk : xk [x] x.1 = 0 := by rw [xk_cons, if_neg (by rw [lw_irr]; exact Bool.false_ne_true)]
  rw [hk]
  exact ⟨far_all h.bd, rfl⟩
theorem ptsX_other (P : List Pt) {x : Xc} {l : Nm} (h : l ≠ x.1) : ptsX P [x] l 1 1 = ptsX P [] l 1 1 := by
  unfold ptsX ptsB
  rw [xhas_other h, xhas_nil]
  rfl
theorem x_few {x : Xc} (hi : IsX x) : x.2.length ≤ 63 := by
  have key : ∀ (l : List Int) (a : Int), (∀ p ∈ l, a ≤ p ∧ p < 64) → l.Pairwise (· < ·) → (l.length : Int) ≤ max 0 (64 - a) := by
    intro l
    induction l with
    | nil => intro a _ _; simp; omega
    | cons y l ih =>
      intro a hb hp
      have h1 := hb y (by simp)
      have hp' := List.pairwise_cons.1 hp
      have h2 := ih (y + 1) (fun q hq => ⟨by have := hp'.1 q hq; omega, (hb q (by simp [hq])).2⟩) hp'.2
      simp only [List.length_cons]
      omega
  have hw := (wordB_is hi.word).2.1
  have := key x.2 1 (fun p hp => by have := hi.bd p hp; omega) hi.rise
  omega
theorem ptsX_few (P : List Pt) (X : List Xc) (hX : ∀ x ∈ X, IsX x) (l : Nm) (left right : Int) : (ptsX P X l left right).length ≤ 1048576 := by
  unfold ptsX
  split
  · rename_i hw
    obtain ⟨h1, h2, _⟩ := wordB_is hw.1
    have h3 := List.length_filter_le (farB (l.length : Int) left right) (ptsB P X l)
    have h4 : (ptsB P X l).length ≤ 1048576 := by
      unfold ptsB
      split
      · rename_i hh
        obtain ⟨x, hx, he⟩ := xhas_at hh
        rw [hx, Option.getD_some]
        have hi := hX x (List.mem_of_getElem? hx)
        have := x_few hi
        omega
      · have := pts_len (vals P l) (l.length - 1)
        omega
    omega
  · simp
end Go.Proofs.Ytmcekdjhkjhcdaa.Hy
