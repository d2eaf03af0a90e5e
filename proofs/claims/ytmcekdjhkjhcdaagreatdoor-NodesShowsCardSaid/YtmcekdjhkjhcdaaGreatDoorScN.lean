import Derived.Test.YtmcekdjhkjhcdaaGreatDoorScM
import Derived.Test.YtmcekdjhkjhcdaaGreatDoorScS
import Derived.Test.YtmcekdjhkjhcdaaGreatDoorBld
import Derived.Lib.SmallJoins
import Derived.Lib.LaidTab
import Derived.Lib.AppendIntMem
/- The contract of Print (printed by gen_scn.py). Conditions: those that each theorem names. -/
namespace Go.Proofs.YtmcekdjhkjhcdaaGreatDoor.Ss
open Go.ChangeShapes Go.WideShapes Go.ChangeAt Go.RowKit
open Me Sc
set_option linter.unusedVariables false
set_option linter.unusedSimpArgs false

/-- The table of powers of ten, as the program's text lays it. -/
abbrev Tab (w : World) : Prop := Lib.TabIs Tryz.prog w "internal/strconv.uint64pow10" .u64 Lib.pow10Tab
theorem gTab : ∃ g, Tryz.prog.globalNamed "internal/strconv.uint64pow10" = some g := by
  have h : (Tryz.prog.globalNamed "internal/strconv.uint64pow10").isSome = true := by kernel_rfl
  exact Option.isSome_iff_exists.1 h
theorem Tab.below {w w' : World} (h : Tab w) (hb : Below w.heap.size w w') : Tab w' := by
  obtain ⟨g, hg⟩ := gTab
  exact Go.Joins.var_stays hg h hb (Nat.le_refl _)
theorem grown_none {w w' : World} (h : Below w.heap.size w w') : w.grownBy w' none := ⟨h.os, h.tape, h.output, h.size, fun k hk _ => h.block k hk⟩
theorem bu_below {T e : TypeId} {B b : Nat} {bs : List Value} {w w' : World} (h : Lib.IsBuilder T e B b bs w) (hb : Below w.heap.size w w') : Lib.IsBuilder T e B b bs w' := by
  have go : ∀ p, Lib.BuilderAt T e B b p bs w → Lib.BuilderAt T e B b p bs w' := fun p hp => by
    have hlt := hp.lt
    obtain ⟨h1, v, h2, h3, h4⟩ := hp
    exact ⟨h1, v, (hb.block b hlt).trans h2, h3.kept (row := none) (grown_none hb) (by cases v.ownBlock <;> simp), h4⟩
  rcases h with h | h
  · exact .inl (go _ h)
  · exact .inr (go _ h)
def prS (s : Int) : ByteArray := S (prT s)
theorem prS_far {s : Int} (h : farB s = true) : prS s = ⟨#[]⟩ := by unfold prS prT; rw [if_pos h]
theorem prS_neg {n : Nat} (h : farB (-(n : Int)) = false) (h0 : 0 < n) : prS (-(n : Int)) = S (45 :: prA n) := by
  unfold prS prT
  rw [if_neg (by simp [h]), if_pos (by omega)]
  simp
theorem prS_pos {n : Nat} (h : farB (n : Int) = false) : prS (n : Int) = S (prA n) := by
  unfold prS prT
  rw [if_neg (by simp [h]), if_neg (by omega)]
  simp
theorem digCell {k : Nat} (h : k ≤ 9) : [Value.int .u8 (48 + (k : Int))] = Lib.byteCells [dig1 k] := by
  have e : (dig1 k).toNat = 48 + k := by
    unfold dig1
    rw [UInt8.toNat_ofNat']
    omega
  simp [Lib.byteCells, e]
theorem itoa_nat (q : Nat) : Lib.itoa (q : Int) = Lib.decDigits q := by
  unfold Lib.itoa
  rw [if_neg (by omega)]
  simp
theorem dec_len {q : Nat} (h : q ≤ 9223372036854775807) : (Lib.decDigits q).length ≤ 20 := by
  rw [Lib.decDigits_eq, List.length_map, List.length_range]
  exact Lib.nDigits_le20 q (by omega)
/-- So many rounds at most are left; so far the digits stand. -/
def Stg (k : Nat) (d : Value) (dn : Nat) : Prop :=
  (k = 5 ∧ dn = 10 ∧ d = .int .i64 10) ∨ (k = 4 ∧ dn = 100 ∧ d = .int .i64 100) ∨ (k = 3 ∧ dn = 1000 ∧ d = .int .i64 1000) ∨ (k = 2 ∧ dn = 10000 ∧ d = .int .i64 10000) ∨ (k = 1 ∧ dn = 100000 ∧ d = .int .i64 100000)
structure LpP (w : World) (tgt : List UInt8) (k dn x : Nat) (acc : List UInt8) (wr : World) : Prop where
  bx : x ≤ 655355
  lo : k = 1 → 100000 < x
  eq : acc ++ frac k x dn = tgt
  len : acc.length + k ≤ 30
  bu : Lib.IsBuilder 43 5 w.heap.size w.heap.size (Lib.byteCells acc) wr
  bel : Below w.heap.size w wr
theorem frac_stop {k x dn : Nat} (hd : dn ≤ 65536) (h : 10 * (x % 65536) ≤ 10 * dn) : frac (k + 1) x dn = [dig1 (x / 65536)] := by
  simp only [frac]
  rw [if_neg (by omega), if_pos h]
theorem frac_go {k x dn : Nat} (hd : dn ≤ 65536) (h : ¬ 10 * (x % 65536) ≤ 10 * dn) : frac (k + 1) x dn = dig1 (x / 65536) :: frac k (10 * (x % 65536)) (10 * dn) := by
  simp only [frac]
  rw [if_neg (by omega), if_neg h]
theorem frac_last {x : Nat} (h0 : x ≤ 655355) : frac 1 x 100000 = [dig1 ((x - 17232) / 65536)] := by
  simp only [frac]
  rw [if_pos (by omega), if_pos (by omega)]
theorem pr_str {acc l t : List UInt8} {q : ByteArray} (h : acc ++ l = t) (hq : q = S t) : Ending.returned (.string ⟨(acc ++ l).toArray⟩) = .returned (.string q) := by rw [h, hq]
set_option maxHeartbeats 4000000 in
set_option maxRecDepth 100000 in
theorem print_any (s : Int) (w : World) (htab : Tab w) : Calls Tryz.prog 104 #[.int .i64 s] w fun e w' => e = .returned (.string (prS s)) ∧ Below w.heap.size w w' := by
  have HTAB := Lib.hid htab
  clear htab
  cases hf : farB s
  · obtain ⟨s0, s1⟩ := farB_no hf
    by_cases hn : s < 0
    · obtain ⟨n, rfl⟩ : ∃ n : Nat, s = -(n : Int) := ⟨s.natAbs, by omega⟩
      obtain ⟨Q, hQ⟩ : ∃ Q, Q = n / 65536 := ⟨_, rfl⟩
      obtain ⟨F, hF⟩ : ∃ F, F = n % 65536 := ⟨_, rfl⟩
      have e1 : (n : Int) / 65536 = Q := by omega
      have e2 : (n : Int) % 65536 = F := by omega
      have F9 : F ≤ 65535 := by omega
      have Q9 : Q ≤ 2147483647 := by omega
      obtain ⟨tgt, htg⟩ : ∃ t : List UInt8, t = [45] ++ Lib.decDigits Q ++ [46] ++ frac 5 (10 * F + 5) 10 := ⟨_, rfl⟩
      have HTG := Lib.hid htg.symm
      have HRS := Lib.hid (show prS (-(n : Int)) = S tgt by rw [prS_neg hf (by omega)]; rw [htg, hQ, hF]; simp [prA])
      have hdl := dec_len (q := Q) (by omega)
      clear hQ hF htg
      have hI1 := Lib.fresh_isBuilder 43 5 w
      have hl1 : Below w.heap.size w (w.alloc (.cells #[.pointer none, .slice none 0 0] 43)) := andAlloc (Below.refl _ _) _
      go_enter Tryz.func104, Tryz.ntmps104
      go_wp2_with (go_at_call 107; refine (far_any _ _).mono ?_; rintro e w' ⟨rfl, rfl⟩)
      refine (Bu.writeByte w.heap.size w.heap.size _ _ _ hI1 (by simp) (by simp)).mono ?_
      rintro e w2 ⟨rfl, hI2, hb2⟩
      have hl2 := hl1.trans hb2
      replace hI2 : Lib.BuilderAt 43 5 w.heap.size w.heap.size _ (Lib.byteCells [45]) w2 := hI2
      have hI2' : Lib.IsBuilder 43 5 w.heap.size w.heap.size (Lib.byteCells [45]) w2 := .inr hI2
      clear hI1 hl1 hb2 hI2
      go_wp2_with fail
      refine (Tryz.strconv_Itoa _ (by omega) (by omega) _ (HTAB.out.below hl2)).mono ?_
      rintro e w3 ⟨rfl, kk, os, hw3⟩
      have hb3 := Lib.below_grow w.heap.size _ hl2.size kk os
      rw [← hw3] at hb3
      have hl3 := hl2.trans hb3
      have hI3 : Lib.IsBuilder 43 5 w.heap.size w.heap.size (Lib.byteCells [45]) w3 := bu_below hI2' (by rw [hw3]; exact Lib.below_grow _ _ (Nat.le_refl _) kk os)
      have hs3 := hl3.size
      rw [itoa_nat]
      clear hw3 hb3
      go_wp2_with fail
      refine (Bu.writeString w.heap.size w.heap.size _ _ _ hI3 (by rw [Lib.byteCells_length, S_size]; simp; omega) hs3).mono ?_
      rintro e w4 ⟨rfl, hI4, hb4⟩
      rw [Lib.strCells_eq, ← Lib.byteCells_append] at hI4
      have hl4 := hl3.trans hb4
      have hs4 := hl4.size
      go_wp2_with fail
      refine (Bu.writeByte w.heap.size w.heap.size _ _ _ (.inr hI4) (by rw [Lib.byteCells_length]; simp; omega) hs4).mono ?_
      rintro e w5 ⟨rfl, hI5', hb5⟩
      have hI5 : Lib.IsBuilder 43 5 w.heap.size w.heap.size (Lib.byteCells ([45] ++ Lib.decDigits Q ++ [46])) w5 := .inr (by rw [Lib.byteCells_append _ [46]]; exact hI5')
      have hl5 := hl4.trans hb5
      clear hI3 hI4 hI5' hb4 hb5 hl3 hl4 hs3 hs4
      go_wp2_with fail
      have HE2 := Lib.hid e2
      clear e1 e2
      go_loopw [4, 5] (fun v d wr => ∃ (k dn x : Nat) (acc : List UInt8), Stg k d dn ∧ v = .int .i64 x ∧ LpP w tgt k dn x acc wr) (fun _ d _ => 1000001 - (intOf d).toNat)
      case atStart => exact ⟨5, 10, 10 * F + 5, _, .inl ⟨rfl, rfl, rfl⟩, congrArg (Value.int .i64) (by have := HE2.out; omega), by omega, by omega, HTG.out, by simp; omega, hI5, hl5⟩
      case round =>
        obtain ⟨k, dn, x, acc, hst, rfl, hL⟩ := hrel
        have hbx := hL.bx
        have hbl := hL.bel
        have HL := Lib.hid hL
        clear hL
        have hsz := hbl.size
        have hal := HL.out.len
        rcases hst with ⟨rfl, rfl, rfl⟩ | ⟨rfl, rfl, rfl⟩ | ⟨rfl, rfl, rfl⟩ | ⟨rfl, rfl, rfl⟩ | ⟨rfl, rfl, rfl⟩
        · obtain ⟨q, hq⟩ : ∃ q, q = x / 65536 := ⟨_, rfl⟩
          obtain ⟨r, hr⟩ : ∃ r, r = x % 65536 := ⟨_, rfl⟩
          have e1 : (x : Int) / 65536 = q := by omega
          have e2 : (x : Int) % 65536 = r := by omega
          have q9 : q ≤ 9 := by omega
          have r9 : r ≤ 65535 := by omega
          have HQ := Lib.hid (And.intro hq hr)
          clear hq hr
          by_cases hle : 10 * r ≤ 10 * 10
          · go_wp2_with fail
            refine (Bu.writeByte w.heap.size w.heap.size _ _ _ HL.out.bu (by rw [Lib.byteCells_length]; omega) hsz).mono ?_
            rintro e w6 ⟨rfl, hI6, hb6⟩
            rw [digCell q9, ← Lib.byteCells_append] at hI6
            go_wp2_with fail
            refine (Tryz.Builder_String w.heap.size w.heap.size _ _ (.inr hI6) (by simp)).mono ?_
            rintro e w7 ⟨rfl, hb7⟩
            go_wp2_with fail
            go_ret
            exact ⟨pr_str (by rw [HQ.out.1, ← frac_stop (k := 4) (dn := 10) (by omega) (by rw [← HQ.out.2]; exact hle)]; exact HL.out.eq) HRS.out, (hbl.trans hb6).trans hb7⟩
          · go_wp2_with fail
            refine (Bu.writeByte w.heap.size w.heap.size _ _ _ HL.out.bu (by rw [Lib.byteCells_length]; omega) hsz).mono ?_
            rintro e w6 ⟨rfl, hI6, hb6⟩
            rw [digCell q9, ← Lib.byteCells_append] at hI6
            go_wp2_with fail
            go_roundw
            case rel => exact ⟨4, 100, 10 * r, _, .inr (.inl ⟨rfl, rfl, rfl⟩), congrArg (Value.int .i64) (by omega), by omega, by omega, by rw [List.append_assoc, List.singleton_append, HQ.out.1, HQ.out.2, ← frac_go (k := 4) (dn := 10) (by omega) (by rw [← HQ.out.2]; exact hle)]; exact HL.out.eq, by simp; omega, .inr hI6, hbl.trans hb6⟩
            case measure => simp [intOf]
        · obtain ⟨q, hq⟩ : ∃ q, q = x / 65536 := ⟨_, rfl⟩
          obtain ⟨r, hr⟩ : ∃ r, r = x % 65536 := ⟨_, rfl⟩
          have e1 : (x : Int) / 65536 = q := by omega
          have e2 : (x : Int) % 65536 = r := by omega
          have q9 : q ≤ 9 := by omega
          have r9 : r ≤ 65535 := by omega
          have HQ := Lib.hid (And.intro hq hr)
          clear hq hr
          by_cases hle : 10 * r ≤ 10 * 100
          · go_wp2_with fail
            refine (Bu.writeByte w.heap.size w.heap.size _ _ _ HL.out.bu (by rw [Lib.byteCells_length]; omega) hsz).mono ?_
            rintro e w6 ⟨rfl, hI6, hb6⟩
            rw [digCell q9, ← Lib.byteCells_append] at hI6
            go_wp2_with fail
            refine (Tryz.Builder_String w.heap.size w.heap.size _ _ (.inr hI6) (by simp)).mono ?_
            rintro e w7 ⟨rfl, hb7⟩
            go_wp2_with fail
            go_ret
            exact ⟨pr_str (by rw [HQ.out.1, ← frac_stop (k := 3) (dn := 100) (by omega) (by rw [← HQ.out.2]; exact hle)]; exact HL.out.eq) HRS.out, (hbl.trans hb6).trans hb7⟩
          · go_wp2_with fail
            refine (Bu.writeByte w.heap.size w.heap.size _ _ _ HL.out.bu (by rw [Lib.byteCells_length]; omega) hsz).mono ?_
            rintro e w6 ⟨rfl, hI6, hb6⟩
            rw [digCell q9, ← Lib.byteCells_append] at hI6
            go_wp2_with fail
            go_roundw
            case rel => exact ⟨3, 1000, 10 * r, _, .inr (.inr (.inl ⟨rfl, rfl, rfl⟩)), congrArg (Value.int .i64) (by omega), by omega, by omega, by rw [List.append_assoc, List.singleton_append, HQ.out.1, HQ.out.2, ← frac_go (k := 3) (dn := 100) (by omega) (by rw [← HQ.out.2]; exact hle)]; exact HL.out.eq, by simp; omega, .inr hI6, hbl.trans hb6⟩
            case measure => simp [intOf]
        · obtain ⟨q, hq⟩ : ∃ q, q = x / 65536 := ⟨_, rfl⟩
          obtain ⟨r, hr⟩ : ∃ r, r = x % 65536 := ⟨_, rfl⟩
          have e1 : (x : Int) / 65536 = q := by omega
          have e2 : (x : Int) % 65536 = r := by omega
          have q9 : q ≤ 9 := by omega
          have r9 : r ≤ 65535 := by omega
          have HQ := Lib.hid (And.intro hq hr)
          clear hq hr
          by_cases hle : 10 * r ≤ 10 * 1000
          · go_wp2_with fail
            refine (Bu.writeByte w.heap.size w.heap.size _ _ _ HL.out.bu (by rw [Lib.byteCells_length]; omega) hsz).mono ?_
            rintro e w6 ⟨rfl, hI6, hb6⟩
            rw [digCell q9, ← Lib.byteCells_append] at hI6
            go_wp2_with fail
            refine (Tryz.Builder_String w.heap.size w.heap.size _ _ (.inr hI6) (by simp)).mono ?_
            rintro e w7 ⟨rfl, hb7⟩
            go_wp2_with fail
            go_ret
            exact ⟨pr_str (by rw [HQ.out.1, ← frac_stop (k := 2) (dn := 1000) (by omega) (by rw [← HQ.out.2]; exact hle)]; exact HL.out.eq) HRS.out, (hbl.trans hb6).trans hb7⟩
          · go_wp2_with fail
            refine (Bu.writeByte w.heap.size w.heap.size _ _ _ HL.out.bu (by rw [Lib.byteCells_length]; omega) hsz).mono ?_
            rintro e w6 ⟨rfl, hI6, hb6⟩
            rw [digCell q9, ← Lib.byteCells_append] at hI6
            go_wp2_with fail
            go_roundw
            case rel => exact ⟨2, 10000, 10 * r, _, .inr (.inr (.inr (.inl ⟨rfl, rfl, rfl⟩))), congrArg (Value.int .i64) (by omega), by omega, by omega, by rw [List.append_assoc, List.singleton_append, HQ.out.1, HQ.out.2, ← frac_go (k := 2) (dn := 1000) (by omega) (by rw [← HQ.out.2]; exact hle)]; exact HL.out.eq, by simp; omega, .inr hI6, hbl.trans hb6⟩
            case measure => simp [intOf]
        · obtain ⟨q, hq⟩ : ∃ q, q = x / 65536 := ⟨_, rfl⟩
          obtain ⟨r, hr⟩ : ∃ r, r = x % 65536 := ⟨_, rfl⟩
          have e1 : (x : Int) / 65536 = q := by omega
          have e2 : (x : Int) % 65536 = r := by omega
          have q9 : q ≤ 9 := by omega
          have r9 : r ≤ 65535 := by omega
          have HQ := Lib.hid (And.intro hq hr)
          clear hq hr
          by_cases hle : 10 * r ≤ 10 * 10000
          · go_wp2_with fail
            refine (Bu.writeByte w.heap.size w.heap.size _ _ _ HL.out.bu (by rw [Lib.byteCells_length]; omega) hsz).mono ?_
            rintro e w6 ⟨rfl, hI6, hb6⟩
            rw [digCell q9, ← Lib.byteCells_append] at hI6
            go_wp2_with fail
            refine (Tryz.Builder_String w.heap.size w.heap.size _ _ (.inr hI6) (by simp)).mono ?_
            rintro e w7 ⟨rfl, hb7⟩
            go_wp2_with fail
            go_ret
            exact ⟨pr_str (by rw [HQ.out.1, ← frac_stop (k := 1) (dn := 10000) (by omega) (by rw [← HQ.out.2]; exact hle)]; exact HL.out.eq) HRS.out, (hbl.trans hb6).trans hb7⟩
          · go_wp2_with fail
            refine (Bu.writeByte w.heap.size w.heap.size _ _ _ HL.out.bu (by rw [Lib.byteCells_length]; omega) hsz).mono ?_
            rintro e w6 ⟨rfl, hI6, hb6⟩
            rw [digCell q9, ← Lib.byteCells_append] at hI6
            go_wp2_with fail
            go_roundw
            case rel => exact ⟨1, 100000, 10 * r, _, .inr (.inr (.inr (.inr ⟨rfl, rfl, rfl⟩))), congrArg (Value.int .i64) (by omega), by omega, by omega, by rw [List.append_assoc, List.singleton_append, HQ.out.1, HQ.out.2, ← frac_go (k := 1) (dn := 10000) (by omega) (by rw [← HQ.out.2]; exact hle)]; exact HL.out.eq, by simp; omega, .inr hI6, hbl.trans hb6⟩
            case measure => simp [intOf]
        · have hlo := HL.out.lo rfl
          obtain ⟨y, hy⟩ : ∃ y : Nat, y = x - 17232 := ⟨_, rfl⟩
          have e0 : (x : Int) + -17232 = y := by omega
          obtain ⟨q, hq⟩ : ∃ q, q = y / 65536 := ⟨_, rfl⟩
          obtain ⟨r, hr⟩ : ∃ r, r = y % 65536 := ⟨_, rfl⟩
          have e1 : (y : Int) / 65536 = q := by omega
          have e2 : (y : Int) % 65536 = r := by omega
          have q9 : q ≤ 9 := by omega
          have r9 : r ≤ 65535 := by omega
          have HQ := Lib.hid (And.intro hq hy)
          have y9 : y ≤ 655355 := by omega
          clear hq hr hy
          go_wp2_with fail
          refine (Bu.writeByte w.heap.size w.heap.size _ _ _ HL.out.bu (by rw [Lib.byteCells_length]; omega) hsz).mono ?_
          rintro e w6 ⟨rfl, hI6, hb6⟩
          rw [digCell q9, ← Lib.byteCells_append] at hI6
          go_wp2_with fail
          refine (Tryz.Builder_String w.heap.size w.heap.size _ _ (.inr hI6) (by simp)).mono ?_
          rintro e w7 ⟨rfl, hb7⟩
          go_wp2_with fail
          go_ret
          exact ⟨pr_str (by rw [HQ.out.1, HQ.out.2, ← frac_last hbx]; exact HL.out.eq) HRS.out, (hbl.trans hb6).trans hb7⟩
    · obtain ⟨n, rfl⟩ : ∃ n : Nat, s = (n : Int) := ⟨s.natAbs, by omega⟩
      obtain ⟨Q, hQ⟩ : ∃ Q, Q = n / 65536 := ⟨_, rfl⟩
      obtain ⟨F, hF⟩ : ∃ F, F = n % 65536 := ⟨_, rfl⟩
      have e1 : (n : Int) / 65536 = Q := by omega
      have e2 : (n : Int) % 65536 = F := by omega
      have F9 : F ≤ 65535 := by omega
      have Q9 : Q ≤ 2147483647 := by omega
      obtain ⟨tgt, htg⟩ : ∃ t : List UInt8, t = [] ++ Lib.decDigits Q ++ [46] ++ frac 5 (10 * F + 5) 10 := ⟨_, rfl⟩
      have HTG := Lib.hid htg.symm
      have HRS := Lib.hid (show prS (n : Int) = S tgt by rw [prS_pos hf]; rw [htg, hQ, hF]; simp [prA])
      have hdl := dec_len (q := Q) (by omega)
      clear hQ hF htg
      have hI1 := Lib.fresh_isBuilder 43 5 w
      have hl1 : Below w.heap.size w (w.alloc (.cells #[.pointer none, .slice none 0 0] 43)) := andAlloc (Below.refl _ _) _
      go_enter Tryz.func104, Tryz.ntmps104
      go_wp2_with (go_at_call 107; refine (far_any _ _).mono ?_; rintro e w' ⟨rfl, rfl⟩)
      have hI2' : Lib.IsBuilder 43 5 w.heap.size w.heap.size (Lib.byteCells []) (w.alloc (.cells #[.pointer none, .slice none 0 0] 43)) := hI1
      clear hI1
      refine (Tryz.strconv_Itoa _ (by omega) (by omega) _ (HTAB.out.below hl1)).mono ?_
      rintro e w3 ⟨rfl, kk, os, hw3⟩
      have hb3 := Lib.below_grow w.heap.size _ hl1.size kk os
      rw [← hw3] at hb3
      have hl3 := hl1.trans hb3
      have hI3 : Lib.IsBuilder 43 5 w.heap.size w.heap.size (Lib.byteCells []) w3 := bu_below hI2' (by rw [hw3]; exact Lib.below_grow _ _ (Nat.le_refl _) kk os)
      have hs3 := hl3.size
      rw [itoa_nat]
      clear hw3 hb3
      go_wp2_with fail
      refine (Bu.writeString w.heap.size w.heap.size _ _ _ hI3 (by rw [Lib.byteCells_length, S_size]; simp; omega) hs3).mono ?_
      rintro e w4 ⟨rfl, hI4, hb4⟩
      rw [Lib.strCells_eq, ← Lib.byteCells_append] at hI4
      have hl4 := hl3.trans hb4
      have hs4 := hl4.size
      go_wp2_with fail
      refine (Bu.writeByte w.heap.size w.heap.size _ _ _ (.inr hI4) (by rw [Lib.byteCells_length]; simp; omega) hs4).mono ?_
      rintro e w5 ⟨rfl, hI5', hb5⟩
      have hI5 : Lib.IsBuilder 43 5 w.heap.size w.heap.size (Lib.byteCells ([] ++ Lib.decDigits Q ++ [46])) w5 := .inr (by rw [Lib.byteCells_append _ [46]]; exact hI5')
      have hl5 := hl4.trans hb5
      clear hI3 hI4 hI5' hb4 hb5 hl3 hl4 hs3 hs4
      go_wp2_with fail
      have HE2 := Lib.hid e2
      clear e1 e2
      go_loopw [4, 5] (fun v d wr => ∃ (k dn x : Nat) (acc : List UInt8), Stg k d dn ∧ v = .int .i64 x ∧ LpP w tgt k dn x acc wr) (fun _ d _ => 1000001 - (intOf d).toNat)
      case atStart => exact ⟨5, 10, 10 * F + 5, _, .inl ⟨rfl, rfl, rfl⟩, congrArg (Value.int .i64) (by have := HE2.out; omega), by omega, by omega, HTG.out, by simp; omega, hI5, hl5⟩
      case round =>
        obtain ⟨k, dn, x, acc, hst, rfl, hL⟩ := hrel
        have hbx := hL.bx
        have hbl := hL.bel
        have HL := Lib.hid hL
        clear hL
        have hsz := hbl.size
        have hal := HL.out.len
        rcases hst with ⟨rfl, rfl, rfl⟩ | ⟨rfl, rfl, rfl⟩ | ⟨rfl, rfl, rfl⟩ | ⟨rfl, rfl, rfl⟩ | ⟨rfl, rfl, rfl⟩
        · obtain ⟨q, hq⟩ : ∃ q, q = x / 65536 := ⟨_, rfl⟩
          obtain ⟨r, hr⟩ : ∃ r, r = x % 65536 := ⟨_, rfl⟩
          have e1 : (x : Int) / 65536 = q := by omega
          have e2 : (x : Int) % 65536 = r := by omega
          have q9 : q ≤ 9 := by omega
          have r9 : r ≤ 65535 := by omega
          have HQ := Lib.hid (And.intro hq hr)
          clear hq hr
          by_cases hle : 10 * r ≤ 10 * 10
          · go_wp2_with fail
            refine (Bu.writeByte w.heap.size w.heap.size _ _ _ HL.out.bu (by rw [Lib.byteCells_length]; omega) hsz).mono ?_
            rintro e w6 ⟨rfl, hI6, hb6⟩
            rw [digCell q9, ← Lib.byteCells_append] at hI6
            go_wp2_with fail
            refine (Tryz.Builder_String w.heap.size w.heap.size _ _ (.inr hI6) (by simp)).mono ?_
            rintro e w7 ⟨rfl, hb7⟩
            go_wp2_with fail
            go_ret
            exact ⟨pr_str (by rw [HQ.out.1, ← frac_stop (k := 4) (dn := 10) (by omega) (by rw [← HQ.out.2]; exact hle)]; exact HL.out.eq) HRS.out, (hbl.trans hb6).trans hb7⟩
          · go_wp2_with fail
            refine (Bu.writeByte w.heap.size w.heap.size _ _ _ HL.out.bu (by rw [Lib.byteCells_length]; omega) hsz).mono ?_
            rintro e w6 ⟨rfl, hI6, hb6⟩
            rw [digCell q9, ← Lib.byteCells_append] at hI6
            go_wp2_with fail
            go_roundw
            case rel => exact ⟨4, 100, 10 * r, _, .inr (.inl ⟨rfl, rfl, rfl⟩), congrArg (Value.int .i64) (by omega), by omega, by omega, by rw [List.append_assoc, List.singleton_append, HQ.out.1, HQ.out.2, ← frac_go (k := 4) (dn := 10) (by omega) (by rw [← HQ.out.2]; exact hle)]; exact HL.out.eq, by simp; omega, .inr hI6, hbl.trans hb6⟩
            case measure => simp [intOf]
        · obtain ⟨q, hq⟩ : ∃ q, q = x / 65536 := ⟨_, rfl⟩
          obtain ⟨r, hr⟩ : ∃ r, r = x % 65536 := ⟨_, rfl⟩
          have e1 : (x : Int) / 65536 = q := by omega
          have e2 : (x : Int) % 65536 = r := by omega
          have q9 : q ≤ 9 := by omega
          have r9 : r ≤ 65535 := by omega
          have HQ := Lib.hid (And.intro hq hr)
          clear hq hr
          by_cases hle : 10 * r ≤ 10 * 100
          · go_wp2_with fail
            refine (Bu.writeByte w.heap.size w.heap.size _ _ _ HL.out.bu (by rw [Lib.byteCells_length]; omega) hsz).mono ?_
            rintro e w6 ⟨rfl, hI6, hb6⟩
            rw [digCell q9, ← Lib.byteCells_append] at hI6
            go_wp2_with fail
            refine (Tryz.Builder_String w.heap.size w.heap.size _ _ (.inr hI6) (by simp)).mono ?_
            rintro e w7 ⟨rfl, hb7⟩
            go_wp2_with fail
            go_ret
            exact ⟨pr_str (by rw [HQ.out.1, ← frac_stop (k := 3) (dn := 100) (by omega) (by rw [← HQ.out.2]; exact hle)]; exact HL.out.eq) HRS.out, (hbl.trans hb6).trans hb7⟩
          · go_wp2_with fail
            refine (Bu.writeByte w.heap.size w.heap.size _ _ _ HL.out.bu (by rw [Lib.byteCells_length]; omega) hsz).mono ?_
            rintro e w6 ⟨rfl, hI6, hb6⟩
            rw [digCell q9, ← Lib.byteCells_append] at hI6
            go_wp2_with fail
            go_roundw
            case rel => exact ⟨3, 1000, 10 * r, _, .inr (.inr (.inl ⟨rfl, rfl, rfl⟩)), congrArg (Value.int .i64) (by omega), by omega, by omega, by rw [List.append_assoc, List.singleton_append, HQ.out.1, HQ.out.2, ← frac_go (k := 3) (dn := 100) (by omega) (by rw [← HQ.out.2]; exact hle)]; exact HL.out.eq, by simp; omega, .inr hI6, hbl.trans hb6⟩
            case measure => simp [intOf]
        · obtain ⟨q, hq⟩ : ∃ q, q = x / 65536 := ⟨_, rfl⟩
          obtain ⟨r, hr⟩ : ∃ r, r = x % 65536 := ⟨_, rfl⟩
          have e1 : (x : Int) / 65536 = q := by omega
          have e2 : (x : Int) % 65536 = r := by omega
          have q9 : q ≤ 9 := by omega
          have r9 : r ≤ 65535 := by omega
          have HQ := Lib.hid (And.intro hq hr)
          clear hq hr
          by_cases hle : 10 * r ≤ 10 * 1000
          · go_wp2_with fail
            refine (Bu.writeByte w.heap.size w.heap.size _ _ _ HL.out.bu (by rw [Lib.byteCells_length]; omega) hsz).mono ?_
            rintro e w6 ⟨rfl, hI6, hb6⟩
            rw [digCell q9, ← Lib.byteCells_append] at hI6
            go_wp2_with fail
            refine (Tryz.Builder_String w.heap.size w.heap.size _ _ (.inr hI6) (by simp)).mono ?_
            rintro e w7 ⟨rfl, hb7⟩
            go_wp2_with fail
            go_ret
            exact ⟨pr_str (by rw [HQ.out.1, ← frac_stop (k := 2) (dn := 1000) (by omega) (by rw [← HQ.out.2]; exact hle)]; exact HL.out.eq) HRS.out, (hbl.trans hb6).trans hb7⟩
          · go_wp2_with fail
            refine (Bu.writeByte w.heap.size w.heap.size _ _ _ HL.out.bu (by rw [Lib.byteCells_length]; omega) hsz).mono ?_
            rintro e w6 ⟨rfl, hI6, hb6⟩
            rw [digCell q9, ← Lib.byteCells_append] at hI6
            go_wp2_with fail
            go_roundw
            case rel => exact ⟨2, 10000, 10 * r, _, .inr (.inr (.inr (.inl ⟨rfl, rfl, rfl⟩))), congrArg (Value.int .i64) (by omega), by omega, by omega, by rw [List.append_assoc, List.singleton_append, HQ.out.1, HQ.out.2, ← frac_go (k := 2) (dn := 1000) (by omega) (by rw [← HQ.out.2]; exact hle)]; exact HL.out.eq, by simp; omega, .inr hI6, hbl.trans hb6⟩
            case measure => simp [intOf]
        · obtain ⟨q, hq⟩ : ∃ q, q = x / 65536 := ⟨_, rfl⟩
          obtain ⟨r, hr⟩ : ∃ r, r = x % 65536 := ⟨_, rfl⟩
          have e1 : (x : Int) / 65536 = q := by omega
          have e2 : (x : Int) % 65536 = r := by omega
          have q9 : q ≤ 9 := by omega
          have r9 : r ≤ 65535 := by omega
          have HQ := Lib.hid (And.intro hq hr)
          clear hq hr
          by_cases hle : 10 * r ≤ 10 * 10000
          · go_wp2_with fail
            refine (Bu.writeByte w.heap.size w.heap.size _ _ _ HL.out.bu (by rw [Lib.byteCells_length]; omega) hsz).mono ?_
            rintro e w6 ⟨rfl, hI6, hb6⟩
            rw [digCell q9, ← Lib.byteCells_append] at hI6
            go_wp2_with fail
            refine (Tryz.Builder_String w.heap.size w.heap.size _ _ (.inr hI6) (by simp)).mono ?_
            rintro e w7 ⟨rfl, hb7⟩
            go_wp2_with fail
            go_ret
            exact ⟨pr_str (by rw [HQ.out.1, ← frac_stop (k := 1) (dn := 10000) (by omega) (by rw [← HQ.out.2]; exact hle)]; exact HL.out.eq) HRS.out, (hbl.trans hb6).trans hb7⟩
          · go_wp2_with fail
            refine (Bu.writeByte w.heap.size w.heap.size _ _ _ HL.out.bu (by rw [Lib.byteCells_length]; omega) hsz).mono ?_
            rintro e w6 ⟨rfl, hI6, hb6⟩
            rw [digCell q9, ← Lib.byteCells_append] at hI6
            go_wp2_with fail
            go_roundw
            case rel => exact ⟨1, 100000, 10 * r, _, .inr (.inr (.inr (.inr ⟨rfl, rfl, rfl⟩))), congrArg (Value.int .i64) (by omega), by omega, by omega, by rw [List.append_assoc, List.singleton_append, HQ.out.1, HQ.out.2, ← frac_go (k := 1) (dn := 10000) (by omega) (by rw [← HQ.out.2]; exact hle)]; exact HL.out.eq, by simp; omega, .inr hI6, hbl.trans hb6⟩
            case measure => simp [intOf]
        · have hlo := HL.out.lo rfl
          obtain ⟨y, hy⟩ : ∃ y : Nat, y = x - 17232 := ⟨_, rfl⟩
          have e0 : (x : Int) + -17232 = y := by omega
          obtain ⟨q, hq⟩ : ∃ q, q = y / 65536 := ⟨_, rfl⟩
          obtain ⟨r, hr⟩ : ∃ r, r = y % 65536 := ⟨_, rfl⟩
          have e1 : (y : Int) / 65536 = q := by omega
          have e2 : (y : Int) % 65536 = r := by omega
          have q9 : q ≤ 9 := by omega
          have r9 : r ≤ 65535 := by omega
          have HQ := Lib.hid (And.intro hq hy)
          have y9 : y ≤ 655355 := by omega
          clear hq hr hy
          go_wp2_with fail
          refine (Bu.writeByte w.heap.size w.heap.size _ _ _ HL.out.bu (by rw [Lib.byteCells_length]; omega) hsz).mono ?_
          rintro e w6 ⟨rfl, hI6, hb6⟩
          rw [digCell q9, ← Lib.byteCells_append] at hI6
          go_wp2_with fail
          refine (Tryz.Builder_String w.heap.size w.heap.size _ _ (.inr hI6) (by simp)).mono ?_
          rintro e w7 ⟨rfl, hb7⟩
          go_wp2_with fail
          go_ret
          exact ⟨pr_str (by rw [HQ.out.1, HQ.out.2, ← frac_last hbx]; exact HL.out.eq) HRS.out, (hbl.trans hb6).trans hb7⟩
  · go_enter Tryz.func104, Tryz.ntmps104
    go_wp2_with (go_at_call 107; refine (far_any _ _).mono ?_; rintro e w' ⟨rfl, rfl⟩)
    go_ret
    exact ⟨ret_strM (prS_far hf).symm, Below.refl _ _⟩
end Go.Proofs.YtmcekdjhkjhcdaaGreatDoor.Ss
