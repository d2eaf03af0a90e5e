import Derived.Test.YtoboecenlangmaaGlueC
import Derived.Test.YtoboecenlangmaaGlueE
import Derived.Test.YtoboecenlangmaaMem
/- Contracts of the functions of glue that go through rows. Conditions: those that each theorem names. -/
namespace Go.Proofs.Ytoboecenlangmaa.Gl
open Go.ChangeShapes Go.WideShapes Go.ChangeAt Go.RowKit
open Me

def G.vals (g : G) : List Value := [.int .i64 g.n, .int .i64 g.s, .int .i64 g.h, .int .i64 g.a, .int .i64 g.b]
theorem G.vals_len (g : G) : g.vals.length = 5 := rfl

/-- A slice of glue that reads as the list l. -/
def Row (w : World) (A : Option Addr) (l : List G) : Prop := Seg w w.heap.size A (l.flatMap G.vals)

/-- The five cells of the k-th piece. -/
theorem Row.cells {w wr : World} {A : Option Addr} {l : List G} (h : Row w A l) (hb : Below w.heap.size w wr) {k : Nat} {g : G} (hk : l[k]? = some g) :
    ∃ b off : Nat, A = some ⟨b, off, none⟩ ∧ wr.cell? ⟨b, off + k * 5, none⟩ = some (.int .i64 g.n) ∧ wr.cell? ⟨b, off + k * 5 + 1, none⟩ = some (.int .i64 g.s) ∧
      wr.cell? ⟨b, off + k * 5 + 2, none⟩ = some (.int .i64 g.h) ∧ wr.cell? ⟨b, off + k * 5 + 3, none⟩ = some (.int .i64 g.a) ∧ wr.cell? ⟨b, off + k * 5 + 4, none⟩ = some (.int .i64 g.b) := by
  obtain ⟨b, off, rfl, hB, hc⟩ := Seg.row G.vals_len h hk (by omega)
  have hx : ∀ j u, g.vals[j]? = some u → wr.cell? ⟨b, off + k * 5 + j, none⟩ = some u := fun j u hu => (hb.cell (p := ⟨b, off + k * 5 + j, none⟩) hB).trans (hc j u hu)
  exact ⟨b, off, rfl, hx 0 _ rfl, hx 1 _ rfl, hx 2 _ rfl, hx 3 _ rfl, hx 4 _ rfl⟩

theorem row_any (A : Option Addr) (l : List G) (c : Nat) (w : World) (h63 : l.length ≤ maxLen) (hrow : Row w A l) :
    Calls Try.prog 80 #[.slice A l.length c] w fun e w' => e = .returned (.int .i64 (rowE l)) ∧ Below w.heap.size w w' := by
  unfold maxLen at h63
  have HR := Lib.hid hrow
  clear hrow
  by_cases hlen : 2000 < l.length
  · have h6 := rowE_long hlen
    have H6 := Lib.hid h6
    clear h6
    go_enter Try.func80, Try.ntmps80
    go_wp2_with fail
    go_ret
    exact ⟨ret_int H6.out.symm, Below.refl _ _⟩
  · generalize hn : l.length = n at *
    have HN := Lib.hid hn
    clear hn
    go_enter Try.func80, Try.ntmps80
    go_wp2_with fail
    go_loopw [4, 10] (fun p i wr => ∃ k : Nat, k ≤ n ∧ i = .int .i64 k ∧ (l.take k).all G.ok = true ∧ Below w.heap.size w wr) (fun _ i _ => n - (intOf i).toNat)
    case atStart => exact ⟨0, Nat.zero_le _, rfl, by simp, Below.refl _ _⟩
    case round =>
      obtain ⟨k, hk, rfl, hall, hb⟩ := hrel
      have HA := Lib.hid hall
      clear hall
      have hsz := hb.size
      by_cases hlt : k < n
      · obtain ⟨g, hg⟩ : ∃ g, l[k]? = some g := ⟨_, List.getElem?_eq_getElem (by rw [HN.out]; exact hlt)⟩
        obtain ⟨b, off, rfl, c0, c1, c2, c3, c4⟩ := HR.out.cells hb hg
        have HG := Lib.hid hg
        clear hg
        cases hok : g.ok
        · have hchk : (chk g.n g.s g.h g.a g.b != 0) = true := by have := G.chk_bad hok; unfold G.chk at this; rw [this]; rfl
          have HO := Lib.hid hok
          clear hok
          go_wp2_with (go_at_call 103; refine (check_any _ _ _ _ _ _).mono ?_; rintro e w' ⟨rfl, rfl⟩)
          go_ret
          exact ⟨ret_int (rowE_bad (by rw [HN.out]; omega) HG.out HO.out).symm, (hb.alloc hsz _).alloc (by simp; omega) _⟩
        · have hchk : (chk g.n g.s g.h g.a g.b != 0) = false := by have := G.chk_ok hok; unfold G.chk at this; rw [this]; rfl
          have HO := Lib.hid hok
          clear hok
          go_wp2_with (go_at_call 103; refine (check_any _ _ _ _ _ _).mono ?_; rintro e w' ⟨rfl, rfl⟩)
          go_roundw
          case rel => exact ⟨k + 1, by omega, by go_num, take_all HG.out HA.out HO.out, (hb.alloc hsz _).alloc (by simp; omega) _⟩
          case measure => simp [intOf]; omega
      · obtain rfl : k = n := by omega
        go_wp2_with fail
        go_ret
        refine ⟨ret_int (rowE_ok (by rw [HN.out]; omega) ?_).symm, hb⟩
        have := HA.out
        rwa [List.take_of_length_le (by rw [HN.out]; exact Nat.le_refl _)] at this
end Go.Proofs.Ytoboecenlangmaa.Gl
