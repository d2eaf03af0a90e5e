import Derived.Test.YtmcekdjhkjhcdaaHpb
import Derived.Laws.EntriesVeiled
/- The contract of Patterns, and of Size. Conditions: those that each theorem names. -/
namespace Go.Proofs.Ytmcekdjhkjhcdaa.Hy
open Go.ChangeShapes Go.WideShapes Go.ChangeAt Go.RowKit
open Me Hp
set_option linter.unusedVariables false
set_option linter.unusedSimpArgs false

theorem walk_any (w0 : World) (B p : Nat) (P : List Pt) (v xv : Value) (ph po pw : Nat) (hh : HyAt w0 B p P v xv) : ∀ (f : Nat) (s : Nm), s ∈ nsOf P → s.length + f = 63 → ∀ (l : List Nm) (w : World), l.length + (dfs P (f + 1) s).length ≤ 5000 → DI w0 p ph po pw l w →
    Calls Try.prog 83 #[.int .i64 (ix (nsOf P) s : Int), .string (S s), .pointer (some ⟨ph, 0, none⟩), .pointer (some ⟨po, 0, none⟩), .pointer (some ⟨pw, 0, none⟩)] w fun e w' => (∃ u, e = .returned u) ∧ DI w0 p ph po pw (l ++ (dfs P (f + 1) s).map (tx P)) w'
  | 0, s, hs, hf, l, w, hN, hD => walk_step w0 B p P v xv ph po pw hh 0 s l w hs hN hD (fun k hk hm => by have := nsOf_len63 hh.pats hm; simp at this; omega)
  | f + 1, s, hs, hf, l, w, hN, hD => walk_step w0 B p P v xv ph po pw hh (f + 1) s l w hs hN hD (fun k hk hm l w h1 h2 => walk_any w0 B p P v xv ph po pw hh f (s ++ [chr k]) hm (by simp; omega) l w h1 h2)
/-- The texts of all patterns. -/
def ptexts (P : List Pt) : List Nm := (dfs P 64 []).map (tx P)
theorem ptexts_few {P : List Pt} (hP : Pats P) : (ptexts P).length ≤ 5000 := by
  unfold ptexts
  rw [List.length_map]
  exact dfs_few hP _ _
set_option maxRecDepth 100000 in
theorem patterns_any (B p : Nat) (P : List Pt) (v xv : Value) (w : World) (h : HyAt w B p P v xv) :
    Calls Try.prog 44 #[.pointer (some ⟨p, 0, none⟩)] w fun e w' => Below w.heap.size w w' ∧ ∃ u, e = .returned u ∧ w'.ownsRow w.heap.size 9 1 u (ptexts P).length ((ptexts P).map tv) := by
  have HH := Lib.hid h
  clear h
  go_enter Try.func44, Try.ntmps44
  go_upto_region 1 with fail
  obtain ⟨W1, hW1⟩ : ∃ W1, W1 = w.alloc (.cells #[.pointer (some ⟨p, 0, none⟩)] 44) := ⟨_, rfl⟩
  rw [← hW1]
  have hb1 : Below w.heap.size w W1 := by rw [hW1]; exact andAlloc (Below.refl _ _) _
  have hk1 : Blk W1 w.heap.size 44 #[.pointer (some ⟨p, 0, none⟩)] := by rw [hW1]; exact Blk.new _ _ _
  have hc1 := hk1.cell 0
  have HB1 := Lib.hid (And.intro hb1 hk1)
  have HG := Lib.hid (good_any B p P v xv W1 (HH.out.below hb1))
  clear hW1 hb1 hk1
  go_upto_region 5 with (go_at_call 61; refine HG.out.mono ?_; rintro e w' ⟨rfl, rfl⟩)
  obtain ⟨W2, hW2⟩ : ∃ W2, W2 = (w'.alloc (.cells #[.slice none 0 0] 41)).alloc (.cells #[.nilFunc] 138) := ⟨_, rfl⟩
  rw [← hW2]
  have hb2 : Below w'.heap.size w' W2 := by rw [hW2]; exact andAlloc (andAlloc (Below.refl _ _) _) _
  have hk2 : Blk W2 w'.heap.size 41 #[.slice none 0 0] := by rw [hW2]; exact (Blk.new _ _ _).alloc _
  have hk3 : Blk W2 (w'.heap.size + 1) 138 #[.nilFunc] := by rw [hW2]; exact Blk.new' (by simp)
  have hc3 := hk3.cell 0
  have hf3 := hk3.free 0
  have hz1 : w.heap.size < w'.heap.size := HB1.out.2.lt
  have hbw2 := andThen HB1.out.1 hb2
  have hph := HB1.out.2.below hb2 HB1.out.2.lt
  have hlow := HB1.out.1.size
  have HB2 := Lib.hid (And.intro hbw2 (And.intro hph (And.intro hk2 hk3)))
  have HZ := Lib.hid (And.intro hz1 hlow)
  clear hW2 hb2 hk2 hk3 hbw2 hph hlow HG HB1 hc1 hz1
  obtain ⟨po, hpo⟩ : ∃ po, po = w'.heap.size := ⟨_, rfl⟩
  rw [← hpo] at HB2 HZ hc3 hf3 ⊢
  clear hpo
  obtain ⟨FV, hFV⟩ : ∃ FV, FV = Value.func (.func 83) #[] #[.pointer (some ⟨w.heap.size, 0, none⟩), .pointer (some ⟨po, 0, none⟩), .pointer (some ⟨po + 1, 0, none⟩)] := ⟨_, rfl⟩
  have hD : DI w p w.heap.size po (po + 1) [] (W2.setCell ⟨po + 1, 0, none⟩ FV) := by
    obtain ⟨h1, h2, h3, h4⟩ := HB2.out
    obtain ⟨z1, z2⟩ := HZ.out
    have hv : (#[Value.nilFunc] : Array Value).setIfInBounds 0 FV = #[FV] := rfl
    refine ⟨below_set h1 (by omega) _ _, h2.far (by simp; omega) _, ?_, ⟨.slice none 0 0, h3.far (by simp) _, World.ownsRow_nil _ _ _ _⟩, by omega, by omega, by omega⟩
    have := h4.set 0 FV
    rw [hv] at this
    rw [hFV] at this ⊢
    exact this
  subst hFV
  have HD := Lib.hid hD
  clear hD
  have hN : ([] : List Nm).length + (dfs P (63 + 1) []).length ≤ 5000 := by
    have := dfs_few HH.out.pats 64 []
    simpa using this
  have HW := Lib.hid (walk_any w B p P v xv w.heap.size po (po + 1) HH.out 63 [] HH.out.pats.tri.nil_mem rfl [] _ hN HD.out)
  rw [ix_nil HH.out.pats.tri] at HW
  have hcw := HD.out.wc.cell 0
  clear hN
  go_upto_region 6 with fail
  generalize W2.setCell ⟨po + 1, 0, none⟩ (Value.func (.func 83) #[] #[.pointer (some ⟨w.heap.size, 0, none⟩), .pointer (some ⟨po, 0, none⟩), .pointer (some ⟨po + 1, 0, none⟩)]) = W3 at HD HW hcw ⊢
  clear hc3 hf3
  go_wp2_with fail
  refine HW.out.mono ?_
  rintro e w4 ⟨⟨uu, rfl⟩, hd4⟩
  rw [List.nil_append] at hd4
  obtain ⟨vo, hbo, hro⟩ := hd4.out
  have hco := hbo.cell 0
  have HR := Lib.hid (And.intro hd4.low hro)
  clear hd4 hbo hro HW hcw
  go_wp2_with fail
  go_ret
  refine ⟨HR.out.1, vo, rfl, ?_⟩
  exact HR.out.2
theorem size_any (B p : Nat) (P : List Pt) (v xv : Value) (w : World) (h : HyAt w B p P v xv) : Calls Try.prog 45 #[.pointer (some ⟨p, 0, none⟩)] w fun e w' => e = .returned (.int .i64 ((nsOf P).length : Int)) ∧ w' = w := by
  have HG := Lib.hid (good_any B p P v xv w h)
  obtain ⟨g, c, rfl, _⟩ := h.tr.slice
  have h0 := h.tr.blk.cell 0
  clear h
  go_enter Try.func45, Try.ntmps45
  go_wp2_with (go_at_call 61; refine HG.out.mono ?_; rintro e w' ⟨rfl, rfl⟩)
  go_ret
  exact ⟨rfl, rfl⟩
end Go.Proofs.Ytmcekdjhkjhcdaa.Hy
