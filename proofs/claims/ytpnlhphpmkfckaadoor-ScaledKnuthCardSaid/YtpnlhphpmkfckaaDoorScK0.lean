import Derived.Test.YtpnlhphpmkfckaaDoorSc
/- Knuth's simple program, in plain Lean: a look at each of the 65536 fractions. Conditions: those that each theorem names. -/
namespace Go.Proofs.YtpnlhphpmkfckaaDoor.Sc
set_option linter.unusedVariables false

def fracN : Nat → Nat → Nat → List Nat
  | 0, _, _ => []
  | k + 1, x, delta =>
    let y := if 65536 < delta then x - 17232 else x
    (y / 65536) :: (if 10 * (y % 65536) ≤ 10 * delta then [] else fracN k (10 * (y % 65536)) (10 * delta))
theorem frac_map : ∀ (k x delta : Nat), frac k x delta = (fracN k x delta).map dig1
  | 0, _, _ => rfl
  | k + 1, x, delta => by
    by_cases h : 10 * ((if 65536 < delta then x - 17232 else x) % 65536) ≤ 10 * delta
    · simp only [frac, fracN, if_pos h, List.map_cons, List.map_nil]
    · simp only [frac, fracN, if_neg h, List.map_cons, frac_map k]
def valN : List Nat → Nat
  | [] => 0
  | c :: l => c * 10 ^ l.length + valN l
/-- What so many digits are worth. -/
def worN (v m : Nat) : Nat := (131072 * v / 10 ^ m + 1) / 2
/-- Is no number of m digits worth f? -/
def noneN (f m : Nat) : Bool := Nat.ble (2 * 10 ^ m * (f + 1)) (131072 * ((2 * 10 ^ m * f - 10 ^ m + 131071) / 131072) + 10 ^ m)
def okN (f : Nat) : Bool :=
  let l := fracN 5 (10 * f + 5) 10
  let m := l.length
  l.all (fun c => Nat.ble c 9) && (Nat.ble 1 m && (Nat.ble m 5 && (Nat.beq (worN (valN l) m) f && (Nat.beq m 1 || noneN f (m - 1)))))
def allN : Nat → Nat → Bool
  | 0, b => okN b
  | k + 1, b => allN k (2 * b) && allN k (2 * b + 1)
theorem allN_of : ∀ (k b f : Nat), allN k b = true → b * 2 ^ k ≤ f → f < (b + 1) * 2 ^ k → okN f = true
  | 0, b, f, h, h1, h2 => by
    obtain rfl : f = b := by omega
    exact h
  | k + 1, b, f, h, h1, h2 => by
    simp only [allN, Bool.and_eq_true] at h
    rw [Nat.pow_succ] at h1 h2
    rcases Nat.lt_or_ge f ((2 * b + 1) * 2 ^ k) with hlt | hge
    · refine allN_of k _ f h.1 ?_ hlt
      rw [show 2 * b * 2 ^ k = b * (2 ^ k * 2) by rw [Nat.mul_comm 2 b, Nat.mul_assoc, Nat.mul_comm 2]]
      exact h1
    · refine allN_of k _ f h.2 hge ?_
      rw [show (2 * b + 1 + 1) * 2 ^ k = (b + 1) * (2 ^ k * 2) by rw [show 2 * b + 1 + 1 = (b + 1) * 2 by omega, Nat.mul_assoc, Nat.mul_comm 2]]
      exact h2
theorem ok0 : allN 10 0 = true := by decide +kernel
theorem ok1 : allN 10 1 = true := by decide +kernel
theorem ok2 : allN 10 2 = true := by decide +kernel
theorem ok3 : allN 10 3 = true := by decide +kernel
theorem ok4 : allN 10 4 = true := by decide +kernel
theorem ok5 : allN 10 5 = true := by decide +kernel
theorem ok6 : allN 10 6 = true := by decide +kernel
theorem ok7 : allN 10 7 = true := by decide +kernel
theorem ok8 : allN 10 8 = true := by decide +kernel
theorem ok9 : allN 10 9 = true := by decide +kernel
theorem ok10 : allN 10 10 = true := by decide +kernel
theorem ok11 : allN 10 11 = true := by decide +kernel
theorem ok12 : allN 10 12 = true := by decide +kernel
theorem ok13 : allN 10 13 = true := by decide +kernel
theorem ok14 : allN 10 14 = true := by decide +kernel
theorem ok15 : allN 10 15 = true := by decide +kernel
theorem ok16 : allN 10 16 = true := by decide +kernel
theorem ok17 : allN 10 17 = true := by decide +kernel
theorem ok18 : allN 10 18 = true := by decide +kernel
theorem ok19 : allN 10 19 = true := by decide +kernel
theorem ok20 : allN 10 20 = true := by decide +kernel
theorem ok21 : allN 10 21 = true := by decide +kernel
theorem ok22 : allN 10 22 = true := by decide +kernel
theorem ok23 : allN 10 23 = true := by decide +kernel
theorem ok24 : allN 10 24 = true := by decide +kernel
theorem ok25 : allN 10 25 = true := by decide +kernel
theorem ok26 : allN 10 26 = true := by decide +kernel
theorem ok27 : allN 10 27 = true := by decide +kernel
theorem ok28 : allN 10 28 = true := by decide +kernel
theorem ok29 : allN 10 29 = true := by decide +kernel
theorem ok30 : allN 10 30 = true := by decide +kernel
theorem ok31 : allN 10 31 = true := by decide +kernel
theorem ok32 : allN 10 32 = true := by decide +kernel
theorem ok33 : allN 10 33 = true := by decide +kernel
theorem ok34 : allN 10 34 = true := by decide +kernel
theorem ok35 : allN 10 35 = true := by decide +kernel
theorem ok36 : allN 10 36 = true := by decide +kernel
theorem ok37 : allN 10 37 = true := by decide +kernel
theorem ok38 : allN 10 38 = true := by decide +kernel
theorem ok39 : allN 10 39 = true := by decide +kernel
theorem ok40 : allN 10 40 = true := by decide +kernel
theorem ok41 : allN 10 41 = true := by decide +kernel
theorem ok42 : allN 10 42 = true := by decide +kernel
theorem ok43 : allN 10 43 = true := by decide +kernel
theorem ok44 : allN 10 44 = true := by decide +kernel
theorem ok45 : allN 10 45 = true := by decide +kernel
theorem ok46 : allN 10 46 = true := by decide +kernel
theorem ok47 : allN 10 47 = true := by decide +kernel
theorem ok48 : allN 10 48 = true := by decide +kernel
theorem ok49 : allN 10 49 = true := by decide +kernel
theorem ok50 : allN 10 50 = true := by decide +kernel
theorem ok51 : allN 10 51 = true := by decide +kernel
theorem ok52 : allN 10 52 = true := by decide +kernel
theorem ok53 : allN 10 53 = true := by decide +kernel
theorem ok54 : allN 10 54 = true := by decide +kernel
theorem ok55 : allN 10 55 = true := by decide +kernel
theorem ok56 : allN 10 56 = true := by decide +kernel
theorem ok57 : allN 10 57 = true := by decide +kernel
theorem ok58 : allN 10 58 = true := by decide +kernel
theorem ok59 : allN 10 59 = true := by decide +kernel
theorem ok60 : allN 10 60 = true := by decide +kernel
theorem ok61 : allN 10 61 = true := by decide +kernel
theorem ok62 : allN 10 62 = true := by decide +kernel
theorem ok63 : allN 10 63 = true := by decide +kernel
theorem ok_frac {f : Nat} (h : f < 65536) : okN f = true := by
  have hd : f / 1024 < 64 := by omega
  have key : ∀ b, b < 64 → allN 10 b = true := by
    intro b hb
    match b, hb with
    | 0, _ => exact ok0
    | 1, _ => exact ok1
    | 2, _ => exact ok2
    | 3, _ => exact ok3
    | 4, _ => exact ok4
    | 5, _ => exact ok5
    | 6, _ => exact ok6
    | 7, _ => exact ok7
    | 8, _ => exact ok8
    | 9, _ => exact ok9
    | 10, _ => exact ok10
    | 11, _ => exact ok11
    | 12, _ => exact ok12
    | 13, _ => exact ok13
    | 14, _ => exact ok14
    | 15, _ => exact ok15
    | 16, _ => exact ok16
    | 17, _ => exact ok17
    | 18, _ => exact ok18
    | 19, _ => exact ok19
    | 20, _ => exact ok20
    | 21, _ => exact ok21
    | 22, _ => exact ok22
    | 23, _ => exact ok23
    | 24, _ => exact ok24
    | 25, _ => exact ok25
    | 26, _ => exact ok26
    | 27, _ => exact ok27
    | 28, _ => exact ok28
    | 29, _ => exact ok29
    | 30, _ => exact ok30
    | 31, _ => exact ok31
    | 32, _ => exact ok32
    | 33, _ => exact ok33
    | 34, _ => exact ok34
    | 35, _ => exact ok35
    | 36, _ => exact ok36
    | 37, _ => exact ok37
    | 38, _ => exact ok38
    | 39, _ => exact ok39
    | 40, _ => exact ok40
    | 41, _ => exact ok41
    | 42, _ => exact ok42
    | 43, _ => exact ok43
    | 44, _ => exact ok44
    | 45, _ => exact ok45
    | 46, _ => exact ok46
    | 47, _ => exact ok47
    | 48, _ => exact ok48
    | 49, _ => exact ok49
    | 50, _ => exact ok50
    | 51, _ => exact ok51
    | 52, _ => exact ok52
    | 53, _ => exact ok53
    | 54, _ => exact ok54
    | 55, _ => exact ok55
    | 56, _ => exact ok56
    | 57, _ => exact ok57
    | 58, _ => exact ok58
    | 59, _ => exact ok59
    | 60, _ => exact ok60
    | 61, _ => exact ok61
    | 62, _ => exact ok62
    | 63, _ => exact ok63
    | n + 64, hb => omega
  exact allN_of 10 (f / 1024) f (key _ hd) (by rw [show 2 ^ 10 = 1024 from rfl]; omega) (by rw [show 2 ^ 10 = 1024 from rfl]; omega)

end Go.Proofs.YtpnlhphpmkfckaaDoor.Sc
