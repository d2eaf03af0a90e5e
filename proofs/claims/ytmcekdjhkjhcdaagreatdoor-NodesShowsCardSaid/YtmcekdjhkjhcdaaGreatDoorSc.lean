import Derived.WalkKit
import Derived.Lib.ItoaNum
/- The layer scaled, in plain Lean: what its functions answer. No Go in sight. Conditions: those that each theorem names. -/
namespace Go.Proofs.YtmcekdjhkjhcdaaGreatDoor.Sc
set_option linter.unusedVariables false

def farB (x : Int) : Bool := decide (x < -2147483647 ∨ 2147483647 < x)
theorem farB_no {x : Int} (h : farB x = false) : -2147483647 ≤ x ∧ x ≤ 2147483647 := by
  have h1 := of_decide_eq_false h
  omega
theorem farB_yes {x : Int} (h : farB x = true) : x < -2147483647 ∨ 2147483647 < x := of_decide_eq_true h
theorem farB_in {x : Int} (h : -2147483647 ≤ x) (k : x ≤ 2147483647) : farB x = false := decide_eq_false (by omega)
def bigB (x : Int) : Bool := decide (x < -1073741823 ∨ 1073741823 < x)
theorem bigB_no {x : Int} (h : bigB x = false) : -1073741823 ≤ x ∧ x ≤ 1073741823 := by
  have h1 := of_decide_eq_false h
  omega
theorem bigB_yes {x : Int} (h : bigB x = true) : x < -1073741823 ∨ 1073741823 < x := of_decide_eq_true h
theorem bigB_in {x : Int} (h : -1073741823 ≤ x) (k : x ≤ 1073741823) : bigB x = false := decide_eq_false (by omega)
theorem bigB_out {x : Int} (h : x < -1073741823 ∨ 1073741823 < x) : bigB x = true := decide_eq_true h
/-- A dimension, or that it is too great. -/
def dimV (x : Int) : Int := if bigB x = true then 0 else x
def dimE (x : Int) : Int := if bigB x = true then 20 else 0
def addV (a b : Int) : Int := if farB a = true ∨ farB b = true then 0 else dimV (a + b)
def addE (a b : Int) : Int := if farB a = true ∨ farB b = true then 11 else dimE (a + b)
def timV (n x y : Int) : Int := if farB n = true ∨ farB x = true ∨ farB y = true then 0 else dimV (n * x + y)
def timE (n x y : Int) : Int := if farB n = true ∨ farB x = true ∨ farB y = true then 11 else dimE (n * x + y)
def ovQ (x n : Int) : Int := if farB x = true ∨ farB n = true then 0 else if n = 0 then 0 else x.tdiv n
def ovR (x n : Int) : Int := if farB x = true ∨ farB n = true then 0 else if n = 0 then 0 else x.tmod n
def ovE (x n : Int) : Int := if farB x = true ∨ farB n = true then 11 else if n = 0 then 20 else 0
def frQ (x n d : Int) : Int := if farB x = true ∨ farB n = true ∨ farB d = true then 0 else if n < 0 ∨ d < 1 then 0 else if bigB ((x * n).tdiv d) = true then 0 else (x * n).tdiv d
def frR (x n d : Int) : Int := if farB x = true ∨ farB n = true ∨ farB d = true then 0 else if n < 0 ∨ d < 1 then 0 else if bigB ((x * n).tdiv d) = true then 0 else (x * n).tmod d
def frE (x n d : Int) : Int := if farB x = true ∨ farB n = true ∨ farB d = true then 11 else if n < 0 ∨ d < 1 then 1 else if bigB ((x * n).tdiv d) = true then 20 else 0

/-- A product's bounds. -/
theorem mul_bd {a b m n : Int} (ha : -m ≤ a ∧ a ≤ m) (hb : -n ≤ b ∧ b ≤ n) : -(m * n) ≤ a * b ∧ a * b ≤ m * n := by
  have h1 : (a * b).natAbs ≤ (m * n).natAbs := by
    rw [Int.natAbs_mul, Int.natAbs_mul]
    exact Nat.mul_le_mul (by omega) (by omega)
  have h2 : 0 ≤ m * n := Int.mul_nonneg (by omega) (by omega)
  omega

theorem tdiv_bd {a d m : Int} (h : -m ≤ a ∧ a ≤ m) : -m ≤ a.tdiv d ∧ a.tdiv d ≤ m := by
  have h1 : (a.tdiv d).natAbs ≤ a.natAbs := by
    rw [Int.natAbs_tdiv]
    exact Nat.div_le_self _ _
  omega

/-- Rounded: p / d, for p, d from 0 on. -/
def rnd (p d : Nat) : Nat := if d ≤ 2 * (p % d) then p / d + 1 else p / d
def paOk (n d : Int) : Bool := decide (0 ≤ n ∧ n ≤ d ∧ 1 ≤ d ∧ d ≤ 1152921504606846976)
def paV (x n d : Int) : Int := if farB x = true then 0 else if paOk n d = false then 0 else if x < 0 then -(rnd (x.natAbs * n.toNat) d.toNat : Int) else (rnd (x.natAbs * n.toNat) d.toNat : Int)
def paE (x n d : Int) : Int := if farB x = true then 11 else if paOk n d = false then 1 else 0

/-- Badness: the quotient. -/
def bdR (t s : Int) : Int := if t ≤ 7230584 then (297 * t).tdiv s else if 1663497 ≤ s then t.tdiv (s.tdiv 297) else t
def bdV (t s : Int) : Int := if farB t = true ∨ farB s = true then 0 else if t < 0 then 0 else if t = 0 then 0 else if s < 1 then 10000 else if 1290 < bdR t s then 10000 else (bdR t s * bdR t s * bdR t s + 131072) / 262144
def bdE (t s : Int) : Int := if farB t = true ∨ farB s = true then 11 else if t < 0 then 1 else 0
theorem bdR_nonneg {t s : Int} (ht : 0 < t) (hs : 1 ≤ s) : 0 ≤ bdR t s := by
  unfold bdR
  split
  · exact Int.tdiv_nonneg (by omega) (by omega)
  · split
    · exact Int.tdiv_nonneg (by omega) (Int.tdiv_nonneg (by omega) (by omega))
    · omega

/-! ### Texts -/
def digB (c : UInt8) : Bool := decide (48 ≤ c.toNat ∧ c.toNat ≤ 57)
theorem digB_yes {c : UInt8} (h : digB c = true) : 48 ≤ c.toNat ∧ c.toNat ≤ 57 := of_decide_eq_true h
theorem digB_no {c : UInt8} (h : digB c = false) : c.toNat < 48 ∨ 57 < c.toNat := by
  have h1 := of_decide_eq_false h
  omega
def decA : List UInt8 → Int
  | [] => 0
  | c :: l => (decA l + 131072 * ((c.toNat : Int) - 48)) / 10
def decs (l : List UInt8) : Int := (decA (l.take 17) + 1) / 2
theorem decA_bd : ∀ l : List UInt8, l.all digB = true → 0 ≤ decA l ∧ decA l ≤ 131071
  | [], _ => by simp [decA]
  | c :: l, h => by
    simp only [List.all_cons, Bool.and_eq_true] at h
    have h1 := digB_yes h.1
    have h2 := decA_bd l h.2
    simp only [decA]
    omega
theorem all_take {l : List UInt8} {f : UInt8 → Bool} (h : l.all f = true) (n : Nat) : (l.take n).all f = true := by
  rw [List.all_eq_true] at h ⊢
  exact fun x hx => h x (List.mem_of_mem_take hx)
theorem all_drop {l : List UInt8} {f : UInt8 → Bool} (h : l.all f = true) (n : Nat) : (l.drop n).all f = true := by
  rw [List.all_eq_true] at h ⊢
  exact fun x hx => h x (List.mem_of_mem_drop hx)
theorem decs_bd {l : List UInt8} (h : l.all digB = true) : 0 ≤ decs l ∧ decs l ≤ 65536 := by
  have h1 := decA_bd (l.take 17) (all_take h 17)
  unfold decs
  omega
def dcV (l : List UInt8) : Int := if l.all digB = true then decs l else 0
def dcE (l : List UInt8) : Int := if l.all digB = true then 0 else 21
/-- The whole part, held. -/
def whl : List UInt8 → Int → Int
  | [], i => i
  | c :: l, i => whl l (min (10 * i + ((c.toNat : Int) - 48)) 1099511627776)
theorem whl_bd : ∀ (l : List UInt8) (i : Int), l.all digB = true → 0 ≤ i → i ≤ 1099511627776 → 0 ≤ whl l i ∧ whl l i ≤ 1099511627776
  | [], i, _, h0, h1 => ⟨h0, h1⟩
  | c :: l, i, h, h0, h1 => by
    simp only [List.all_cons, Bool.and_eq_true] at h
    have h2 := digB_yes h.1
    exact whl_bd l _ h.2 (by omega) (by omega)
theorem whl_snoc : ∀ (l : List UInt8) (c : UInt8) (i : Int), whl (l ++ [c]) i = min (10 * whl l i + ((c.toNat : Int) - 48)) 1099511627776
  | [], c, i => rfl
  | d :: l, c, i => whl_snoc l c _
def minusB : List UInt8 → Bool
  | 45 :: _ => true
  | _ => false
def bare : List UInt8 → List UInt8
  | 45 :: l => l
  | l => l
def run (l : List UInt8) : List UInt8 := l.takeWhile digB
def rest (l : List UInt8) : List UInt8 := l.dropWhile digB
def pointB : List UInt8 → Bool
  | 46 :: _ => true
  | _ => false
def unpoint : List UInt8 → List UInt8
  | 46 :: l => l
  | l => l
def behind (l : List UInt8) : List UInt8 := if pointB (rest l) = true then run (unpoint (rest l)) else []
def left (l : List UInt8) : List UInt8 := if pointB (rest l) = true then rest (unpoint (rest l)) else rest l
def numOk (l : List UInt8) : Bool := !(run l).isEmpty || !(behind l).isEmpty
def numI (l : List UInt8) : Int := whl (run l) 0
def numF (l : List UInt8) : Int := decs (behind l)
theorem run_all (l : List UInt8) : (run l).all digB = true := by
  rw [List.all_eq_true]
  intro x hx
  exact List.all_eq_true.1 (List.all_takeWhile (l := l) (p := digB)) x hx
theorem behind_all (l : List UInt8) : (behind l).all digB = true := by
  unfold behind
  split
  · exact run_all _
  · rfl
theorem numI_bd (l : List UInt8) : 0 ≤ numI l ∧ numI l ≤ 1099511627776 := whl_bd _ _ (run_all l) (by omega) (by omega)
theorem numF_bd (l : List UInt8) : 0 ≤ numF l ∧ numF l ≤ 65536 := decs_bd (behind_all l)
theorem run_rest (l : List UInt8) : run l ++ rest l = l := List.takeWhile_append_dropWhile
def turn (m : Bool) (x : Int) : Int := if m = true then -x else x
def parV (t : List UInt8) : Int := if numOk (bare t) = true ∧ left (bare t) = [] then turn (minusB t) (dimV (numI (bare t) * 65536 + numF (bare t))) else 0
def parE (t : List UInt8) : Int := if numOk (bare t) = true ∧ left (bare t) = [] then dimE (numI (bare t) * 65536 + numF (bare t)) else 21
/-- Units: their numbers. -/
def unit (l : List UInt8) : Option (Int × Int) :=
  if l = [112, 116] then some (1, 1) else if l = [105, 110] then some (7227, 100) else if l = [112, 99] then some (12, 1) else if l = [99, 109] then some (7227, 254)
  else if l = [109, 109] then some (7227, 2540) else if l = [98, 112] then some (7227, 7200) else if l = [100, 100] then some (1238, 1157) else if l = [99, 99] then some (14856, 1157) else none
/-- A number in a unit. -/
def mea (i f n d : Int) : Int := 65536 * (i * n / d + (n * f + 65536 * (i * n % d)) / d / 65536) + (n * f + 65536 * (i * n % d)) / d % 65536
def diV (t : List UInt8) : Int :=
  if numOk (bare t) = true then
    if left (bare t) = [115, 112] then turn (minusB t) (dimV (numI (bare t)))
    else match unit (left (bare t)) with
      | none => 0
      | some (n, d) => if 2147483647 < numI (bare t) then 0 else turn (minusB t) (dimV (mea (numI (bare t)) (numF (bare t)) n d))
  else 0
def diE (t : List UInt8) : Int :=
  if numOk (bare t) = true then
    if left (bare t) = [115, 112] then dimE (numI (bare t))
    else match unit (left (bare t)) with
      | none => 21
      | some (n, d) => if 2147483647 < numI (bare t) then 20 else dimE (mea (numI (bare t)) (numF (bare t)) n d)
  else 21

/-! ### Print and Roman -/
def dig1 (k : Nat) : UInt8 := UInt8.ofNat (48 + k)
/-- The digits behind the point: so many rounds at most. -/
def frac : Nat → Nat → Nat → List UInt8
  | 0, _, _ => []
  | k + 1, x, delta =>
    let y := if 65536 < delta then x - 17232 else x
    dig1 (y / 65536) :: (if 10 * (y % 65536) ≤ 10 * delta then [] else frac k (10 * (y % 65536)) (10 * delta))
def prA (n : Nat) : List UInt8 := Lib.decDigits (n / 65536) ++ 46 :: frac 5 (10 * (n % 65536) + 5) 10
def prT (s : Int) : List UInt8 := if farB s = true then [] else if s < 0 then 45 :: prA s.natAbs else prA s.natAbs
/-- One place of a numeral. -/
def plc (k : Nat) (a b c : UInt8) : List UInt8 :=
  if k = 9 then [a, c] else if 5 ≤ k then b :: List.replicate (k - 5) a else if k = 4 then [a, b] else List.replicate k a
def roA (n : Nat) : List UInt8 := List.replicate (n / 1000) 109 ++ plc (n / 100 % 10) 99 100 109 ++ plc (n / 10 % 10) 120 108 99 ++ plc (n % 10) 105 118 120
def roT (n : Int) : List UInt8 := if n < 1 ∨ 20000 < n then [] else roA n.toNat
end Go.Proofs.YtmcekdjhkjhcdaaGreatDoor.Sc
