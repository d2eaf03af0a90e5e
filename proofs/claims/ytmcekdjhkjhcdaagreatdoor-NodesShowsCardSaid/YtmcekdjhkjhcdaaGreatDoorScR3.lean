import Derived.Test.YtmcekdjhkjhcdaaGreatDoorScN
import Derived.Test.YtmcekdjhkjhcdaaGreatDoorScS
/- The contract of the document's Print (printed by gen_scr3.py). Conditions: those that each theorem names. -/
namespace Go.Proofs.YtmcekdjhkjhcdaaGreatDoor.Ss
open Go.ChangeShapes Go.WideShapes Go.ChangeAt Go.RowKit
open Me Sc
set_option linter.unusedVariables false
set_option linter.unusedSimpArgs false

structure PR (tgt : List UInt8) (k dn x : Nat) (acc : List UInt8) : Prop where
  bx : x ≤ 655355
  lo : k = 1 → 100000 < x
  eq : acc ++ frac k x dn = tgt
  len : acc.length + k ≤ 30
theorem d1_S (acc : List UInt8) (q : Nat) : S acc ++ d1T q = S (acc ++ [dig1 q]) := by
  show S acc ++ S [dig1 q] = _
  rw [S_app]
theorem prr {acc l t : List UInt8} {q : Nat} {r : ByteArray} (hl : l = [dig1 q]) (h : acc ++ l = t) (hq : r = S t) : Ending.returned (.string (S acc ++ d1T q)) = .returned (.string r) := by rw [d1_S, ← hl, h, hq]
set_option maxHeartbeats 4000000 in
set_option maxRecDepth 100000 in
theorem refPrint_pos (n : Nat) (w : World) (hf : farB (n : Int) = false) : Calls Tryz.prog 87 #[.int .i64 n] w fun e w' => e = .returned (.string (prS (n : Int))) ∧ Below w.heap.size w w' := by
  obtain ⟨s0, s1⟩ := farB_no hf
  obtain ⟨Q, hQ⟩ : ∃ Q, Q = n / 65536 := ⟨_, rfl⟩
  obtain ⟨F, hF⟩ : ∃ F, F = n % 65536 := ⟨_, rfl⟩
  have e1 : (n : Int) / 65536 = Q := by omega
  have e2 : (n : Int) % 65536 = F := by omega
  have F9 : F ≤ 65535 := by omega
  have Q9 : Q ≤ 2147483647 := by omega
  obtain ⟨tgt, htg⟩ : ∃ t : List UInt8, t = (Lib.decDigits Q ++ [46]) ++ frac 5 (10 * F + 5) 10 := ⟨_, rfl⟩
  have HTG := Lib.hid htg.symm
  have HRS := Lib.hid (show prS (n : Int) = S tgt by rw [prS_pos hf]; rw [htg, hQ, hF]; simp [prA])
  have hdl := dec_len (q := Q) (by omega)
  have z1 : (numT Q).size ≤ 20 := numT_size (by omega)
  clear hQ hF htg
  go_enter Tryz.func87, Tryz.ntmps87
  go_wp2_with (go_at_call 80; refine (refFar _ _).mono ?_; rintro e w' ⟨rfl, rfl⟩)
  refine (refNumber Q _ (by omega)).mono ?_
  rintro e w1 ⟨rfl, hl1⟩
  have HE2 := Lib.hid e2
  go_wp2_with fail
  clear e1 e2
  rw [show numT Q ++ (⟨#[46]⟩ : ByteArray) = S (Lib.decDigits Q ++ [46]) from S_app _ _]
  generalize numT Q = r1 at *
  go_loopw [3, 4, 5] (fun t v d wr => ∃ (k dn x : Nat) (acc : List UInt8), Stg k d dn ∧ v = .int .i64 x ∧ t = .string (S acc) ∧ PR tgt k dn x acc ∧ Below w1.heap.size w1 wr) (fun _ _ d _ => 1000001 - (intOf d).toNat)
  case atStart => exact ⟨5, 10, 10 * F + 5, _, .inl ⟨rfl, rfl, rfl⟩, congrArg (Value.int .i64) (by have := HE2.out; omega), rfl, ⟨by omega, by omega, HTG.out, by simp; omega⟩, Below.refl _ _⟩
  case round =>
    obtain ⟨k, dn, x, acc, hst, rfl, rfl, hL, hb⟩ := hrel
    have hbx := hL.bx
    have hz : (S acc).size ≤ 30 := by rw [S_size]; have := hL.len; omega
    have hal := hL.len
    have HL := Lib.hid hL
    clear hL
    rcases hst with ⟨rfl, rfl, rfl⟩ | ⟨rfl, rfl, rfl⟩ | ⟨rfl, rfl, rfl⟩ | ⟨rfl, rfl, rfl⟩ | ⟨rfl, rfl, rfl⟩
    · obtain ⟨q, hq⟩ : ∃ q, q = x / 65536 := ⟨_, rfl⟩
      obtain ⟨r, hr⟩ : ∃ r, r = x % 65536 := ⟨_, rfl⟩
      have e1 : (x : Int) / 65536 = q := by omega
      have e2 : (x : Int) % 65536 = r := by omega
      have q9 : q ≤ 9 := by omega
      have r9 : r ≤ 65535 := by omega
      have HQ := Lib.hid (And.intro hq hr)
      clear hq hr
      have e5 : IntKind.i64.wrap (48 + (q : Int)) = 48 + q := IntWalk.i64_in _ (by omega)
      have e6 : IntKind.u8.wrap (48 + (q : Int)) = 48 + q := IntWalk.u8_in _ (by omega)
      have hz2 : (d1T q).size ≤ 1 := Nat.le_refl _
      have hcv : (convert 41 9 (.slice (some ⟨wr.heap.size, 0, none⟩) 1 1)).run Tryz.prog (wr.alloc (.cells #[.int .u8 (48 + (q : Int))] 5)) = .ok (.string (d1T q)) (wr.alloc (.cells #[.int .u8 (48 + (q : Int))] 5)) := conv1 _ _ (48 + q) (by omega) (by rw [(Blk.new' rfl).cell 0]; simp)
      by_cases hle : 10 * r ≤ 10 * 10
      · go_wp2_with fail
        go_ret
        exact ⟨prr (by rw [HQ.out.1]; exact frac_stop (k := 4) (dn := 10) (by omega) (by rw [← HQ.out.2]; exact hle)) HL.out.eq HRS.out, andThen hl1 (andAlloc hb _)⟩
      · go_wp2_with fail
        go_roundw
        case rel => exact ⟨4, 100, 10 * r, _, .inr (.inl ⟨rfl, rfl, rfl⟩), congrArg (Value.int .i64) (by omega), congrArg Value.string (d1_S acc q), ⟨by omega, by omega, by rw [List.append_assoc, List.singleton_append, HQ.out.1, HQ.out.2, ← frac_go (k := 4) (dn := 10) (by omega) (by rw [← HQ.out.2]; exact hle)]; exact HL.out.eq, by simp; omega⟩, andAlloc hb _⟩
        case measure => simp [intOf]
    · obtain ⟨q, hq⟩ : ∃ q, q = x / 65536 := ⟨_, rfl⟩
      obtain ⟨r, hr⟩ : ∃ r, r = x % 65536 := ⟨_, rfl⟩
      have e1 : (x : Int) / 65536 = q := by omega
      have e2 : (x : Int) % 65536 = r := by omega
      have q9 : q ≤ 9 := by omega
      have r9 : r ≤ 65535 := by omega
      have HQ := Lib.hid (And.intro hq hr)
      clear hq hr
      have e5 : IntKind.i64.wrap (48 + (q : Int)) = 48 + q := IntWalk.i64_in _ (by omega)
      have e6 : IntKind.u8.wrap (48 + (q : Int)) = 48 + q := IntWalk.u8_in _ (by omega)
      have hz2 : (d1T q).size ≤ 1 := Nat.le_refl _
      have hcv : (convert 41 9 (.slice (some ⟨wr.heap.size, 0, none⟩) 1 1)).run Tryz.prog (wr.alloc (.cells #[.int .u8 (48 + (q : Int))] 5)) = .ok (.string (d1T q)) (wr.alloc (.cells #[.int .u8 (48 + (q : Int))] 5)) := conv1 _ _ (48 + q) (by omega) (by rw [(Blk.new' rfl).cell 0]; simp)
      by_cases hle : 10 * r ≤ 10 * 100
      · go_wp2_with fail
        go_ret
        exact ⟨prr (by rw [HQ.out.1]; exact frac_stop (k := 3) (dn := 100) (by omega) (by rw [← HQ.out.2]; exact hle)) HL.out.eq HRS.out, andThen hl1 (andAlloc hb _)⟩
      · go_wp2_with fail
        go_roundw
        case rel => exact ⟨3, 1000, 10 * r, _, .inr (.inr (.inl ⟨rfl, rfl, rfl⟩)), congrArg (Value.int .i64) (by omega), congrArg Value.string (d1_S acc q), ⟨by omega, by omega, by rw [List.append_assoc, List.singleton_append, HQ.out.1, HQ.out.2, ← frac_go (k := 3) (dn := 100) (by omega) (by rw [← HQ.out.2]; exact hle)]; exact HL.out.eq, by simp; omega⟩, andAlloc hb _⟩
        case measure => simp [intOf]
    · obtain ⟨q, hq⟩ : ∃ q, q = x / 65536 := ⟨_, rfl⟩
      obtain ⟨r, hr⟩ : ∃ r, r = x % 65536 := ⟨_, rfl⟩
      have e1 : (x : Int) / 65536 = q := by omega
      have e2 : (x : Int) % 65536 = r := by omega
      have q9 : q ≤ 9 := by omega
      have r9 : r ≤ 65535 := by omega
      have HQ := Lib.hid (And.intro hq hr)
      clear hq hr
      have e5 : IntKind.i64.wrap (48 + (q : Int)) = 48 + q := IntWalk.i64_in _ (by omega)
      have e6 : IntKind.u8.wrap (48 + (q : Int)) = 48 + q := IntWalk.u8_in _ (by omega)
      have hz2 : (d1T q).size ≤ 1 := Nat.le_refl _
      have hcv : (convert 41 9 (.slice (some ⟨wr.heap.size, 0, none⟩) 1 1)).run Tryz.prog (wr.alloc (.cells #[.int .u8 (48 + (q : Int))] 5)) = .ok (.string (d1T q)) (wr.alloc (.cells #[.int .u8 (48 + (q : Int))] 5)) := conv1 _ _ (48 + q) (by omega) (by rw [(Blk.new' rfl).cell 0]; simp)
      by_cases hle : 10 * r ≤ 10 * 1000
      · go_wp2_with fail
        go_ret
        exact ⟨prr (by rw [HQ.out.1]; exact frac_stop (k := 2) (dn := 1000) (by omega) (by rw [← HQ.out.2]; exact hle)) HL.out.eq HRS.out, andThen hl1 (andAlloc hb _)⟩
      · go_wp2_with fail
        go_roundw
        case rel => exact ⟨2, 10000, 10 * r, _, .inr (.inr (.inr (.inl ⟨rfl, rfl, rfl⟩))), congrArg (Value.int .i64) (by omega), congrArg Value.string (d1_S acc q), ⟨by omega, by omega, by rw [List.append_assoc, List.singleton_append, HQ.out.1, HQ.out.2, ← frac_go (k := 2) (dn := 1000) (by omega) (by rw [← HQ.out.2]; exact hle)]; exact HL.out.eq, by simp; omega⟩, andAlloc hb _⟩
        case measure => simp [intOf]
    · obtain ⟨q, hq⟩ : ∃ q, q = x / 65536 := ⟨_, rfl⟩
      obtain ⟨r, hr⟩ : ∃ r, r = x % 65536 := ⟨_, rfl⟩
      have e1 : (x : Int) / 65536 = q := by omega
      have e2 : (x : Int) % 65536 = r := by omega
      have q9 : q ≤ 9 := by omega
      have r9 : r ≤ 65535 := by omega
      have HQ := Lib.hid (And.intro hq hr)
      clear hq hr
      have e5 : IntKind.i64.wrap (48 + (q : Int)) = 48 + q := IntWalk.i64_in _ (by omega)
      have e6 : IntKind.u8.wrap (48 + (q : Int)) = 48 + q := IntWalk.u8_in _ (by omega)
      have hz2 : (d1T q).size ≤ 1 := Nat.le_refl _
      have hcv : (convert 41 9 (.slice (some ⟨wr.heap.size, 0, none⟩) 1 1)).run Tryz.prog (wr.alloc (.cells #[.int .u8 (48 + (q : Int))] 5)) = .ok (.string (d1T q)) (wr.alloc (.cells #[.int .u8 (48 + (q : Int))] 5)) := conv1 _ _ (48 + q) (by omega) (by rw [(Blk.new' rfl).cell 0]; simp)
      by_cases hle : 10 * r ≤ 10 * 10000
      · go_wp2_with fail
        go_ret
        exact ⟨prr (by rw [HQ.out.1]; exact frac_stop (k := 1) (dn := 10000) (by omega) (by rw [← HQ.out.2]; exact hle)) HL.out.eq HRS.out, andThen hl1 (andAlloc hb _)⟩
      · go_wp2_with fail
        go_roundw
        case rel => exact ⟨1, 100000, 10 * r, _, .inr (.inr (.inr (.inr (⟨rfl, rfl, rfl⟩)))), congrArg (Value.int .i64) (by omega), congrArg Value.string (d1_S acc q), ⟨by omega, by omega, by rw [List.append_assoc, List.singleton_append, HQ.out.1, HQ.out.2, ← frac_go (k := 1) (dn := 10000) (by omega) (by rw [← HQ.out.2]; exact hle)]; exact HL.out.eq, by simp; omega⟩, andAlloc hb _⟩
        case measure => simp [intOf]
    · have hlo := HL.out.lo rfl
      obtain ⟨y, hy⟩ : ∃ y : Nat, y = x - 17232 := ⟨_, rfl⟩
      obtain ⟨z, hz5⟩ : ∃ z : Int, z = (x : Int) + 32768 := ⟨_, rfl⟩
      have e0 : z - 50000 = y := by omega
      have ez : (x : Int) + 32768 = z := hz5.symm
      have ez1 : z ≤ 700000 := by omega
      have ez2 : 0 ≤ z := by omega
      clear hz5
      obtain ⟨q, hq⟩ : ∃ q, q = y / 65536 := ⟨_, rfl⟩
      obtain ⟨r, hr⟩ : ∃ r, r = y % 65536 := ⟨_, rfl⟩
      have e1 : (y : Int) / 65536 = q := by omega
      have e2 : (y : Int) % 65536 = r := by omega
      have q9 : q ≤ 9 := by omega
      have r9 : r ≤ 65535 := by omega
      have HQ := Lib.hid (And.intro hq hy)
      have y9 : y ≤ 655355 := by omega
      clear hq hr hy
      have e5 : IntKind.i64.wrap (48 + (q : Int)) = 48 + q := IntWalk.i64_in _ (by omega)
      have e6 : IntKind.u8.wrap (48 + (q : Int)) = 48 + q := IntWalk.u8_in _ (by omega)
      have hz2 : (d1T q).size ≤ 1 := Nat.le_refl _
      have hcv : (convert 41 9 (.slice (some ⟨wr.heap.size, 0, none⟩) 1 1)).run Tryz.prog (wr.alloc (.cells #[.int .u8 (48 + (q : Int))] 5)) = .ok (.string (d1T q)) (wr.alloc (.cells #[.int .u8 (48 + (q : Int))] 5)) := conv1 _ _ (48 + q) (by omega) (by rw [(Blk.new' rfl).cell 0]; simp)
      go_wp2_with fail
      go_ret
      exact ⟨prr (by rw [HQ.out.1, HQ.out.2]; exact frac_last hbx) HL.out.eq HRS.out, andThen hl1 (andAlloc hb _)⟩
theorem frac_len : ∀ (k x d : Nat), (frac k x d).length ≤ k
  | 0, _, _ => Nat.le_refl _
  | k + 1, x, d => by
    simp only [frac]
    generalize (if 65536 < d then x - 17232 else x) = y
    rw [List.length_cons]
    by_cases h : 10 * (y % 65536) ≤ 10 * d
    · rw [if_pos h]
      exact Nat.succ_le_succ (Nat.zero_le _)
    · rw [if_neg h]
      exact Nat.succ_le_succ (frac_len k _ _)
set_option maxHeartbeats 2000000 in
set_option maxRecDepth 100000 in
theorem refPrint (s : Int) (w : World) : Calls Tryz.prog 87 #[.int .i64 s] w fun e w' => e = .returned (.string (prS s)) ∧ Below w.heap.size w w' := by
  cases hf : farB s
  · obtain ⟨s0, s1⟩ := farB_no hf
    by_cases hn : s < 0
    · obtain ⟨n, rfl⟩ : ∃ n : Nat, s = -(n : Int) := ⟨s.natAbs, by omega⟩
      have hfn : farB (n : Int) = false := decide_eq_false (by omega)
      have HP := Lib.hid (fun w => refPrint_pos n w hfn)
      have HS := Lib.hid (show (⟨#[45]⟩ : ByteArray) ++ prS (n : Int) = prS (-(n : Int)) by
        rw [prS_pos hfn, prS_neg hf (by omega)]
        show S [45] ++ S (prA n) = _
        rw [S_app]
        rfl)
      have hz : (prS (n : Int)).size ≤ 40 := by
        rw [prS_pos hfn, S_size]
        have h1 := dec_len (q := n / 65536) (by omega)
        have h2 := frac_len 5 (10 * (n % 65536) + 5) 10
        unfold prA
        rw [List.length_append, List.length_cons]
        omega
      generalize prS (n : Int) = t at *
      go_enter Tryz.func87, Tryz.ntmps87
      go_wp2_with (go_at_call 80; refine (refFar _ _).mono ?_; rintro e w' ⟨rfl, rfl⟩)
      refine (HP.out _).mono ?_
      rintro e w1 ⟨rfl, hl1⟩
      go_wp2_with fail
      go_ret
      exact ⟨ret_strM HS.out, hl1⟩
    · obtain ⟨n, rfl⟩ : ∃ n : Nat, s = (n : Int) := ⟨s.natAbs, by omega⟩
      exact refPrint_pos n w hf
  · go_enter Tryz.func87, Tryz.ntmps87
    go_wp2_with (go_at_call 80; refine (refFar _ _).mono ?_; rintro e w' ⟨rfl, rfl⟩)
    go_ret
    exact ⟨ret_strM (prS_far hf).symm, Below.refl _ _⟩
end Go.Proofs.YtmcekdjhkjhcdaaGreatDoor.Ss
