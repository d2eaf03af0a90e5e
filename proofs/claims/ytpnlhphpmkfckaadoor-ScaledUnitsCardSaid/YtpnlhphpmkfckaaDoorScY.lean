import Derived.Test.YtpnlhphpmkfckaaDoorScY1
import Derived.Lib.MinMax
/- The walk of ScaledUnits. Conditions: those that each theorem names. -/
namespace Go.Proofs.YtpnlhphpmkfckaaDoor.Ss
open Go.ChangeShapes Go.WideShapes Go.ChangeAt Go.RowKit
open Me Sc
set_option linter.unusedVariables false
set_option linter.unusedSimpArgs false

def vAll : Array Value := #[.string ⟨#[105, 110]⟩, .string ⟨#[99, 109]⟩, .string ⟨#[99, 99]⟩, .string ⟨#[112, 99]⟩, .string ⟨#[109, 109]⟩, .string ⟨#[100, 100]⟩, .string ⟨#[98, 112]⟩, .string ⟨#[112, 116]⟩]
theorem vAll_get : ∀ k : Nat, k < 8 → vAll[k]? = some (.string (vuT k))
  | 0, _ | 1, _ | 2, _ | 3, _ | 4, _ | 5, _ | 6, _ | 7, _ => rfl
set_option maxHeartbeats 1000000 in
set_option maxRecDepth 100000 in
theorem units_walk (a f : Int) (w : World) (htab : Tab w) : Calls Tryd.prog 6 #[.int .i64 a, .int .i64 f] w fun e w' => e = .returned (.bool true) ∧ Below w.heap.size w w' := by
  have HTAB := Lib.hid htab
  clear htab
  have a0 := Int.tmod_lt_of_pos a (show (0 : Int) < 20000 by omega)
  have a1 := Int.lt_tmod_of_pos a (show (0 : Int) < 20000 by omega)
  have f0 := Int.tmod_lt_of_pos f (show (0 : Int) < 100000 by omega)
  have f1 := Int.lt_tmod_of_pos f (show (0 : Int) < 100000 by omega)
  go_enter Tryd.func6, Tryd.ntmps6
  go_wp2_with fail
  obtain ⟨W, hW⟩ : ∃ W : Nat, (W : Int) = (a.tmod 20000 + 20000) % 20000 := ⟨((a.tmod 20000 + 20000) % 20000).toNat, by omega⟩
  obtain ⟨F, hF⟩ : ∃ F : Nat, (F : Int) = (f.tmod 100000 + 100000) % 100000 := ⟨((f.tmod 100000 + 100000) % 100000).toNat, by omega⟩
  rw [show a.tmod 20000 % 20000 = (W : Int) by omega, ← hW, ← hF]
  have W9 : W ≤ 20000 := by omega
  have F9 : F ≤ 99999 := by omega
  have HWF := Lib.hid (And.intro hW hF)
  have z1 : (numT W).size ≤ 20 := numT_size (by omega)
  have z2 : (padT F 5).size ≤ 5 := padT_size F9 (by omega)
  clear hW hF a0 a1 f0 f1
  refine (refNumber W _ (by omega)).mono ?_
  rintro e w1 ⟨rfl, hb1⟩
  go_wp2_with fail
  refine (padded_any F 5 _ F9 (by omega)).mono ?_
  rintro e w2 ⟨rfl, hb2⟩
  have hl2 := andThen hb1 hb2
  clear hb1 hb2
  go_wp2_with fail
  rw [vT_eq]
  obtain ⟨tx, htx⟩ : ∃ t, t = vT W F := ⟨_, rfl⟩
  have HVD := Lib.hid fun k => htx ▸ vd_of (F := F) W9 k
  have ht : tx.size ≤ 30 := by rw [htx]; exact vT_size W9 F9
  have hp := Parse_any tx w2 (by omega)
  rw [htx, (vp_of W9).1, (vp_of W9).2, ← htx] at hp
  rw [← htx]
  have hs1 : ∀ k, (tx ++ vuT k).size ≤ 140737488355328 := fun k => by rw [ByteArray.size_append, vuT_size]; omega
  have hs2 : ∀ k, ((⟨#[45]⟩ : ByteArray) ++ tx ++ vuT k).size ≤ 140737488355328 := fun k => by
    rw [ByteArray.size_append, ByteArray.size_append, vuT_size]
    have : (⟨#[45]⟩ : ByteArray).size = 1 := rfl
    omega
  have HS := Lib.hid (And.intro hs1 hs2)
  clear htx hs1 hs2
  generalize numT W = r1 at *
  generalize padT F 5 = r2 at *
  refine hp.mono ?_
  clear hp
  rintro e w3 ⟨rfl, hb3⟩
  have hl3 := andThen hl2 hb3
  clear hl2 hb3
  go_wp2_with fail
  have hd := Dimen_any (tx ++ vuT 7) w3 (HS.out.1 7)
  rw [(HVD.out 7).v, (HVD.out 7).e] at hd
  generalize dimV (vv W F 7) = p at hd ⊢
  generalize dimE (vv W F 7) = pe at hd ⊢
  refine hd.mono ?_
  clear hd
  rintro e w4 ⟨rfl, hb4⟩
  have hl4 := andThen hl3 hb4
  clear hl3 hb4
  go_wp2_with (go_at_call 16; refine (num_any _ _).mono ?_; rintro e w' ⟨rfl, rfl⟩)
  refine (knows_any _ (HTAB.out.below hl4)).mono ?_
  rintro e w5 ⟨rfl, hb5⟩
  have hl5 := andThen hl4 hb5
  clear hl4 hb5
  have hB : Blk (w5.alloc (.cells vAll 9)) w5.heap.size 9 vAll := Blk.new' rfl
  have hl6 := andAlloc hl5 (.cells vAll 9)
  go_wp2_with fail
  obtain ⟨w6, hw6⟩ : ∃ w6, w6 = w5.alloc (.cells #[.string ⟨#[105, 110]⟩, .string ⟨#[99, 109]⟩, .string ⟨#[99, 99]⟩, .string ⟨#[112, 99]⟩, .string ⟨#[109, 109]⟩, .string ⟨#[100, 100]⟩, .string ⟨#[98, 112]⟩, .string ⟨#[112, 116]⟩] 9) := ⟨_, rfl⟩
  rw [← hw6]
  replace hB : Blk w6 w5.heap.size 9 vAll := by rw [hw6]; exact hB
  replace hl6 : Below w.heap.size w w6 := by rw [hw6]; exact hl6
  clear hw6 hl5
  generalize w5.heap.size = g at *
  have hg := hB.lt
  generalize r1 ++ (⟨#[46]⟩ : ByteArray) = r3 at *
  generalize tx ++ (⟨#[112, 116]⟩ : ByteArray) = r4 at *
  go_loopw [11, 12] (fun l i wr => ∃ (k : Nat) (L : Int), k ≤ 8 ∧ i = .int .i64 k ∧ l = .int .i64 L ∧ VR W F k L ∧ Below w6.heap.size w6 wr) (fun _ i _ => 8 - (intOf i).toNat)
  case atStart => exact ⟨0, 1073741823, by omega, rfl, rfl, .inl ⟨rfl, rfl⟩, Below.refl _ _⟩
  case round =>
    obtain ⟨k, L, hk, rfl, rfl, hR, hb⟩ := hrel
    by_cases h8 : k < 8
    · have hc : wr.cell? ⟨g, k, none⟩ = some (.string (vuT k)) := by rw [(hB.below hb hg).cell k]; exact vAll_get k h8
      have z3 : (vuT k).size ≤ 2 := Nat.le_of_eq (vuT_size k)
      cases hz : bigB (vv W F k)
      · obtain ⟨e1, e2, e3, e4⟩ := (HVD.out k).no hz
        obtain ⟨v0, v1, v2, hR'⟩ := hR.ok hz
        obtain ⟨L0, L1⟩ := hR.bd
        have HR := Lib.hid hR'
        have HE := Lib.hid (And.intro hz hR)
        clear hR hR' hz
        generalize vv W F k = V at *
        have E := Lib.hid (And.intro (And.intro e1 e2) (And.intro e3 e4))
        clear e1 e2 e3 e4
        go_wp2_with fail
        obtain ⟨⟨e1, e2⟩, e3, e4⟩ := E.out
        have hd := Dimen_any (tx ++ vuT k) wr (HS.out.1 k)
        rw [e1, e2] at hd
        refine hd.mono ?_
        clear hd
        rintro e w7 ⟨rfl, hb7⟩
        clear e1 e2 e3 e4
        have hb8 := andThen hb hb7
        have hc7 : w7.cell? ⟨g, k, none⟩ = some (.string (vuT k)) := by rw [(hB.below hb8 hg).cell k]; exact vAll_get k h8
        clear hc hb7 hb
        go_wp2_with fail
        obtain ⟨⟨e1, e2⟩, e3, e4⟩ := E.out
        have hd := Dimen_any ((⟨#[45]⟩ : ByteArray) ++ tx ++ vuT k) w7 (HS.out.2 k)
        rw [e3, e4] at hd
        refine hd.mono ?_
        clear hd
        rintro e w9 ⟨rfl, hb9⟩
        clear e1 e2 e3 e4
        have hb10 := andThen hb8 hb9
        clear hb8 hb9 hc7
        go_wp2_with (go_at_call 16; refine (num_any _ _).mono ?_; rintro e w' ⟨rfl, rfl⟩)
        go_roundw
        case rel => exact ⟨k + 1, _, by omega, by go_num, rfl, HR.out, hb10⟩
        case measure => simp [intOf]; omega
      · obtain ⟨e1, e2, e3, e4⟩ := (HVD.out k).yes hz
        obtain ⟨rfl, hR'⟩ := hR.big hz
        have HR := Lib.hid hR'
        have HE := Lib.hid (And.intro hz hR)
        clear hR hR' hz
        have E := Lib.hid (And.intro (And.intro e1 e2) (And.intro e3 e4))
        clear e1 e2 e3 e4
        go_wp2_with fail
        obtain ⟨⟨e1, e2⟩, e3, e4⟩ := E.out
        have hd := Dimen_any (tx ++ vuT k) wr (HS.out.1 k)
        rw [e1, e2] at hd
        refine hd.mono ?_
        clear hd
        rintro e w7 ⟨rfl, hb7⟩
        clear e1 e2 e3 e4
        have hb8 := andThen hb hb7
        have hc7 : w7.cell? ⟨g, k, none⟩ = some (.string (vuT k)) := by rw [(hB.below hb8 hg).cell k]; exact vAll_get k h8
        clear hc hb7 hb
        go_wp2_with fail
        obtain ⟨⟨e1, e2⟩, e3, e4⟩ := E.out
        have hd := Dimen_any ((⟨#[45]⟩ : ByteArray) ++ tx ++ vuT k) w7 (HS.out.2 k)
        rw [e3, e4] at hd
        refine hd.mono ?_
        clear hd
        rintro e w9 ⟨rfl, hb9⟩
        clear e1 e2 e3 e4
        have hb10 := andThen hb8 hb9
        clear hb8 hb9 hc7
        go_wp2_with (go_at_call 16; refine (num_any _ _).mono ?_; rintro e w' ⟨rfl, rfl⟩)
        go_roundw
        case rel => exact ⟨k + 1, _, by omega, by go_num, rfl, HR.out, hb10⟩
        case measure => simp [intOf]; omega
    · go_wp2_with fail
      go_ret
      exact ⟨rfl, andThen hl6 hb⟩
end Go.Proofs.YtpnlhphpmkfckaaDoor.Ss
