import Derived.Test.YtmcekdjhkjhcdaaRows
import Derived.Test.YtmcekdjhkjhcdaaHq
import Derived.Test.YtmcekdjhkjhcdaaBlk
import Derived.WalkKit
import Derived.ProofKit
import Derived.OpenShut
import Derived.WalkSpells
import Derived.WalkLawsBesides
import Derived.Handy
import Derived.Outline
import Derived.Lib.Hide
import Derived.Deep.DeepCutAuto
import Derived.Laws.IdiomStrings
import Derived.Laws.BytesArg
import Derived.Lib.Bytealg
import Derived.Lib.MinMax
import Derived.Laws.Strings
/- Contracts of the layer hyph's small functions. Conditions: those that each theorem names. -/
namespace Go.Proofs.Ytmcekdjhkjhcdaa.Hy
open Go.ChangeShapes Go.WideShapes Go.ChangeAt Go.RowKit
open Me Hp
set_option linter.unusedVariables false
set_option linter.unusedSimpArgs false

def S (l : List UInt8) : ByteArray := ⟨l.toArray⟩
theorem S_list (l : List UInt8) : (S l).data.toList = l := rfl
theorem S_eq (s : ByteArray) : S s.data.toList = s := rfl
theorem S_size (l : List UInt8) : (S l).size = l.length := rfl
theorem size_list (s : ByteArray) : s.data.toList.length = s.size := by rw [Array.length_toList]; rfl
theorem get_list (s : ByteArray) (k : Nat) (h : k < s.size) : s.data.toList[k]? = some s[k] := by
  have h' : k < s.data.toList.length := by rw [size_list]; exact h
  rw [List.getElem?_eq_getElem h']
  rfl
theorem ext_eq (s : ByteArray) (a b : Nat) : s.extract a b = S ((s.data.toList.take b).drop a) := by
  apply ByteArray.ext
  rw [ByteArray.data_extract]
  apply Array.ext'
  rw [Array.toList_extract]
  simp [List.extract, List.drop_take, S]
abbrev iv (x : Int) : Value := .int .i64 x
abbrev bv (c : UInt8) : Value := .int .u8 (c.toNat : Int)
theorem grown_of_below {w w' : World} (h : Below w.heap.size w w') (row : Option Nat) : w.grownBy w' row := ⟨h.os, h.tape, h.output, h.size, fun k hk _ => h.block k hk⟩
theorem own_below {w w' : World} {base : Nat} {e : TypeId} {size n : Nat} {v : Value} {xs : List Value} (h : w.ownsRow base e size v n xs) (hb : Below w.heap.size w w') : w'.ownsRow base e size v n xs :=
  h.kept (grown_of_below hb none) (by cases v.ownBlock <;> simp)
theorem below_grown {B : Nat} {a w w' : World} {row : Option Nat} (hB : B ≤ a.heap.size) (h : Below B a w) (hg : w.grownBy w' row) (hr : ∀ k, row = some k → B ≤ k) : Below B a w' :=
  ⟨hg.os.trans h.os, hg.tape.trans h.tape, hg.output.trans h.output, Nat.le_trans h.size hg.size, fun k hk => (hg.block k (Nat.lt_of_lt_of_le hk (Nat.le_trans hB h.size)) (fun e => by have := hr k e.symm; omega)).trans (h.block k hk)⟩
/-- Rows of elements of different types lie in different blocks. -/
theorem own_apart {w : World} {b1 b2 : Nat} {e1 e2 : TypeId} {s1 s2 n1 n2 : Nat} {v1 v2 : Value} {x1 x2 : List Value} (h1 : w.ownsRow b1 e1 s1 v1 n1 x1) (h2 : w.ownsRow b2 e2 s2 v2 n2 x2) (hne : e1 ≠ e2) : v1.ownBlock = none ∨ v1.ownBlock ≠ v2.ownBlock := by
  rcases h1.2 with ⟨rfl, _⟩ | ⟨g, cap, cur, rfl, _, hg, _⟩
  · exact .inl rfl
  · refine .inr ?_
    rcases h2.2 with ⟨rfl, _⟩ | ⟨g', cap', cur', rfl, _, hg', _⟩
    · intro e; cases e
    · intro e
      have e' : g = g' := by simpa [Value.ownBlock] using e
      subst e'
      rw [hg] at hg'
      simp only [Option.some.injEq, Obj.cells.injEq] at hg'
      exact hne hg'.2.1
theorem info_int : (Try.prog.info? 3).map (fun i => (i.zero, i.size, i.bytes)) = some (some (.int .i64 0), 1, 8) := by kernel_rfl
theorem info_u8 : (Try.prog.info? 5).map (fun i => (i.zero, i.size, i.bytes)) = some (some (.int .u8 0), 1, 1) := by kernel_rfl
theorem ne_u8 : (5 : Nat) ≠ 3 := by decide

theorem letter_any (c : UInt8) (w : World) : Calls Try.prog 122 #[.int .u8 (c.toNat : Int)] w fun e w' => e = .returned (.bool (isLet c)) ∧ w' = w := by
  by_cases h1 : (97 : Int) ≤ c.toNat <;> by_cases h2 : (c.toNat : Int) ≤ 122
  all_goals
    have HL := Lib.hid (show isLet c = (decide (97 ≤ c.toNat) && decide (c.toNat ≤ 122)) from rfl)
    go_enter Try.func122, Try.ntmps122
    go_wp2
    go_ret
    refine ⟨?_, rfl⟩
    rw [HL.out]
    have e1 : decide (97 ≤ c.toNat) = decide ((97 : Int) ≤ c.toNat) := by congr 1; simp; omega
    have e2 : decide (c.toNat ≤ 122) = decide ((c.toNat : Int) ≤ 122) := by congr 1; simp; omega
    rw [e1, e2]
    simp [h1, h2]
theorem rletter_any (c : UInt8) (w : World) : Calls Try.prog 65 #[.int .u8 (c.toNat : Int)] w fun e w' => e = .returned (.bool (isLet c)) ∧ w' = w := by
  by_cases h1 : (97 : Int) ≤ c.toNat <;> by_cases h2 : (c.toNat : Int) ≤ 122
  all_goals
    have HL := Lib.hid (show isLet c = (decide (97 ≤ c.toNat) && decide (c.toNat ≤ 122)) from rfl)
    go_enter Try.func65, Try.ntmps65
    go_wp2
    go_ret
    refine ⟨?_, rfl⟩
    rw [HL.out]
    have e1 : decide (97 ≤ c.toNat) = decide ((97 : Int) ≤ c.toNat) := by congr 1; simp; omega
    have e2 : decide (c.toNat ≤ 122) = decide ((c.toNat : Int) ≤ 122) := by congr 1; simp; omega
    rw [e1, e2]
    simp [h1, h2]
theorem sgn_dot {c : UInt8} (h : c.toNat = 46) : sgn c = 0 := by
  have : c = 46 := UInt8.toNat_inj.1 h
  subst this; rfl
theorem sgn_let {c : UInt8} (h : c.toNat ≠ 46) (hl : isLet c = true) : sgn c = (c.toNat : Int) - 96 := by
  unfold sgn
  rw [if_neg (fun e => h (by rw [e]; rfl)), if_pos hl]
theorem sgn_non {c : UInt8} (h : c.toNat ≠ 46) (hl : isLet c = false) : sgn c = -1 := by
  unfold sgn
  rw [if_neg (fun e => h (by rw [e]; rfl)), if_neg (by simp [hl])]
theorem isLet_bd {c : UInt8} (h : isLet c = true) : 97 ≤ c.toNat ∧ c.toNat ≤ 122 := by simpa [isLet] using h
theorem ret_i {a b : Int} (h : a = b) : Ending.returned (.int .i64 a) = .returned (.int .i64 b) := by rw [h]
theorem sign_any (c : UInt8) (w : World) : Calls Try.prog 121 #[.int .u8 (c.toNat : Int)] w fun e w' => e = .returned (.int .i64 (sgn c)) ∧ w' = w := by
  by_cases h1 : c.toNat = 46
  · have HS := Lib.hid (sgn_dot h1)
    have h2 : (c.toNat : Int) = 46 := by omega
    clear h1
    go_enter Try.func121, Try.ntmps121
    go_wp2_with (go_at_call 122; refine (letter_any _ _).mono ?_; rintro e w' ⟨rfl, rfl⟩)
    go_ret
    exact ⟨ret_i HS.out.symm, rfl⟩
  · cases hl : isLet c
    · have HS := Lib.hid (sgn_non h1 hl)
      have h2 : ¬ (c.toNat : Int) = 46 := by omega
      clear h1
      go_enter Try.func121, Try.ntmps121
      go_wp2_with (go_at_call 122; refine (letter_any _ _).mono ?_; rintro e w' ⟨rfl, rfl⟩)
      go_ret
      exact ⟨ret_i HS.out.symm, rfl⟩
    · have HS := Lib.hid (sgn_let h1 hl)
      obtain ⟨b0, b1⟩ := isLet_bd hl
      have h2 : ¬ (c.toNat : Int) = 46 := by omega
      have h3 : IntKind.u8.wrap ((c.toNat : Int) - 97) = (c.toNat : Int) - 97 := IntWalk.u8_in _ (by omega)
      clear h1
      go_enter Try.func121, Try.ntmps121
      go_wp2_with (go_at_call 122; refine (letter_any _ _).mono ?_; rintro e w' ⟨rfl, rfl⟩)
      go_ret
      exact ⟨ret_i (by rw [HS.out]; omega), rfl⟩

theorem idx_dot (l : List UInt8) : decide (0 ≤ Lib.indexByte l 46) = l.any (· == 46) := by
  induction l with
  | nil => rfl
  | cons c l ih =>
    have h1 := Lib.indexByte_ge l 46
    unfold Lib.indexByte
    cases hc : c == 46
    · simp only [Bool.false_eq_true, if_false, List.any_cons, hc, Bool.false_or, ← ih]
      cases h2 : Lib.indexByte l 46 == -1
      · have h3 : Lib.indexByte l 46 ≠ -1 := by simpa using h2
        simp only [Bool.false_eq_true, if_false]
        rw [decide_eq_true (by omega), decide_eq_true (by omega)]
      · have h3 : Lib.indexByte l 46 = -1 := by simpa using h2
        simp [h3]
    · simp [hc]
set_option maxRecDepth 100000 in
theorem indexByte_any (s : ByteArray) (w : World) : Calls Try.prog 152 #[.string s, .int .u8 46] w fun e w' => e = .returned (.int .i64 (Lib.indexByte s.data.toList 46)) ∧ w' = w := by
  go_enter Try.func152, Try.ntmps152
  go_wp2
  rw [run_callFunc_extern Try.func156 (by kernel_rfl) (by kernel_rfl) (by kernel_rfl) (e := Extern.BytealgIndexByte.indexByte) (by kernel_rfl), Lib.run_indexByteString]
  simp only [Result.andThen]
  rw [Oper.upon_value]
  go_wp2
  go_ret
  exact ⟨rfl, rfl⟩
set_option maxRecDepth 100000 in
theorem index_any (s : ByteArray) (w : World) : Calls Try.prog 151 #[.string s, .string ⟨#[46]⟩] w fun e w' => e = .returned (.int .i64 (Lib.indexByte s.data.toList 46)) ∧ w' = w := by
  cases he : (([46] : List UInt8) == s.toList)
  all_goals
   go_enter Try.func151, Try.ntmps151
   go_wp2_with (go_at_call 152; refine (indexByte_any s _).mono ?_; rintro e w' ⟨rfl, rfl⟩)
   go_ret
  · exact ⟨rfl, rfl⟩
  · refine ⟨ret_i ?_, rfl⟩
    have h1 : s.data.toList = [46] := by rw [ByteArray.toList_eq] at he; exact (eq_of_beq he).symm
    rw [h1]
    rfl
/-- Is there a point in it? -/
theorem contains_any (s : ByteArray) (w : World) : Calls Try.prog 141 #[.string s, .string ⟨#[46]⟩] w fun e w' => e = .returned (.bool (s.data.toList.any (· == 46))) ∧ w' = w := by
  have HI : Calls Try.prog 148 #[.string s, .string ⟨#[46]⟩] w fun e w' => e = .returned (.int .i64 (Lib.indexByte s.data.toList 46)) ∧ w' = w := by
    go_enter Try.func148, Try.ntmps148
    go_wp2_with (go_at_call 151; refine (index_any s _).mono ?_; rintro e w' ⟨rfl, rfl⟩)
    go_ret
    exact ⟨rfl, rfl⟩
  have HD := Lib.hid (idx_dot s.data.toList)
  go_enter Try.func141, Try.ntmps141
  go_wp2_with (go_at_call 148; refine HI.mono ?_; rintro e w' ⟨rfl, rfl⟩)
  go_ret
  exact ⟨by rw [← HD.out]; rfl, rfl⟩
end Go.Proofs.Ytmcekdjhkjhcdaa.Hy
