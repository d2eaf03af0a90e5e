import Derived.Test.YtmcekdjhkjhcdaaGreatDoorGlueD
import Derived.Laws.Strings
/- Nodes and lists of nodes, in plain Lean: which nodes are right, which lists are. No Go in sight. Conditions: those that each theorem names. -/
namespace Go.Proofs.YtmcekdjhkjhcdaaGreatDoor.Np

/-- A node: its fields, the glue's among them. -/
structure Nd where
  (kind font char wd ht dp shift gn gs gh ga gb sign order num den pen sub : Int)
  (text : ByteArray)

/-- The node with a kind alone. -/
def nz (k : Int) : Nd := { kind := k, font := 0, char := 0, wd := 0, ht := 0, dp := 0, shift := 0, gn := 0, gs := 0, gh := 0, ga := 0, gb := 0, sign := 0, order := 0, num := 0, den := 0, pen := 0, sub := 0, text := ⟨#[]⟩ }
/-- '==' of two nodes. -/
def eqB (a b : Nd) : Bool :=
  a.kind == b.kind && (a.font == b.font && (a.char == b.char && (a.wd == b.wd && (a.ht == b.ht && (a.dp == b.dp && (a.shift == b.shift && ((a.gn == b.gn && (a.gs == b.gs && (a.gh == b.gh && (a.ga == b.ga && a.gb == b.gb)))) && (a.sign == b.sign && (a.order == b.order && (a.num == b.num && (a.den == b.den && (a.pen == b.pen && (a.sub == b.sub && (a.text.toList == b.text.toList))))))))))))))
theorem text_eq {a b : ByteArray} (h : a.toList = b.toList) : a = b := by
  have e : ∀ x : ByteArray, x.toList = x.data.toList := fun x => ByteArray.toList_eq x
  rw [e, e] at h
  cases a; cases b
  congr
  exact Array.ext' h
theorem eqB_iff (a b : Nd) : eqB a b = true ↔ a = b := by
  constructor
  · intro h
    simp only [eqB, Bool.and_eq_true, beq_iff_eq] at h
    obtain ⟨h0, h1, h2, h3, h4, h5, h6, ⟨h7, h8, h9, h10, h11⟩, h12, h13, h14, h15, h16, h17, h18⟩ := h
    have h19 := text_eq h18
    cases a; cases b
    simp_all
  · rintro rfl
    simp [eqB]
theorem eqB_self (a : Nd) : eqB a a = true := (eqB_iff a a).2 rfl

def winB (x l h : Int) : Bool := decide (l ≤ x ∧ x ≤ h)
def dimB (x : Int) : Bool := decide (-1073741823 ≤ x ∧ x ≤ 1073741823)
def glB (n : Nd) : Bool := Gl.chk n.gn n.gs n.gh n.ga n.gb == 0

def gGlyph (n : Nd) : Bool := winB n.font 0 63 && (dimB n.wd && (dimB n.ht && dimB n.dp))
def gRule (n : Nd) : Bool := winB n.sub 0 3 && (dimB n.wd && (dimB n.ht && dimB n.dp)) && (n.sub == 0 || n.sub == 2 || n.wd == 0) && (n.sub == 0 || n.sub == 1 || (n.ht == 0 && n.dp == 0))
def gBox (n : Nd) : Bool := (dimB n.wd && (dimB n.ht && (dimB n.dp && dimB n.shift))) &&
  (if n.sign = 0 then n.order == 0 && n.num == 0 && n.den == 0
   else winB n.sign 1 2 && winB n.order 0 3 && winB n.num 1 1152921504606846976 && winB n.den 1 1152921504606846976 && !(n.sign == 2 && n.order == 0 && decide (n.den < n.num)))
def gIns (n : Nd) : Bool := winB n.sub 0 254 && (dimB n.ht && dimB n.dp) && winB n.pen (-2147483647) 2147483647 && glB n
/-- Are the fields right that the kind names? -/
def goodK : Nat → Nd → Bool
  | 1, n => gGlyph n
  | 2, n => gGlyph n && winB n.text.size 1 63
  | 3, n => gRule n
  | 4, n => gBox n
  | 5, n => gBox n
  | 7, n => glB n && winB n.sub 0 20
  | 8, n => dimB n.wd && winB n.sub 0 2
  | 9, n => winB n.pen (-2147483647) 2147483647
  | 12, n => decide ((n.text.size : Int) ≤ 1000)
  | 13, n => gIns n
  | 14, n => decide ((n.text.size : Int) ≤ 1000)
  | 15, n => dimB n.wd
  | 16, n => dimB n.wd
  | _, _ => true
def rChar (n : Nd) : Nd := { n with font := 0, char := 0, wd := 0, ht := 0, dp := 0 }
def rText (n : Nd) : Nd := { n with text := ⟨#[]⟩ }
def rWide (n : Nd) : Nd := { n with wd := 0 }
def rBox (n : Nd) : Nd := { n with wd := 0, ht := 0, dp := 0, shift := 0, sign := 0, order := 0, num := 0, den := 0 }
/-- The node without the fields that the kind names. -/
def restK : Nat → Nd → Nd
  | 1, n => rChar n
  | 2, n => rChar (rText n)
  | 3, n => { n with wd := 0, ht := 0, dp := 0, sub := 0 }
  | 4, n => rBox n
  | 5, n => rBox n
  | 7, n => { n with gn := 0, gs := 0, gh := 0, ga := 0, gb := 0, sub := 0 }
  | 8, n => { n with wd := 0, sub := 0 }
  | 9, n => { n with pen := 0 }
  | 12, n => rText n
  | 13, n => { n with sub := 0, ht := 0, dp := 0, pen := 0, gn := 0, gs := 0, gh := 0, ga := 0, gb := 0 }
  | 14, n => rText n
  | 15, n => rWide n
  | 16, n => rWide n
  | _, n => n
/-- Is it a node? -/
def right (n : Nd) : Bool := winB n.kind 1 17 && (goodK n.kind.toNat n && eqB (restK n.kind.toNat n) (nz n.kind))
/-- Does it open? -/
def opensB (n : Nd) : Bool := n.kind == 4 || n.kind == 5 || n.kind == 10 || n.kind == 13 || n.kind == 17
/-- May it stand in a Disc? -/
def smallB (n : Nd) : Bool := n.kind == 1 || n.kind == 2 || n.kind == 8 || n.kind == 3 || n.kind == 4 || n.kind == 5

/-- What is open (how many Seps a Disc still wants; -1: it is none), the innermost first; and how deep it went. -/
abbrev St := List Int × Int
/-- Does a Disc's list stand open, where the node may not stand? -/
def blocked : List Int → Nd → Bool
  | [], _ => false
  | t :: _, n => decide (0 ≤ t) && !smallB n
/-- One node more; none: it may not stand there. -/
def stp (s : St) (n : Nd) : Option St :=
  if right n = true then
    if n.kind = 6 then
      match s.1 with
      | [] => none
      | t :: r => if 0 < t then none else some (r, s.2)
    else if n.kind = 11 then
      match s.1 with
      | [] => none
      | t :: r => if t < 1 then none else some ((t - 1) :: r, s.2)
    else if blocked s.1 n = true then none
    else some (if opensB n = true then (if n.kind = 10 then 2 else -1) :: s.1 else s.1, max s.2 (s.1.length + 1))
  else none
def run : List Nd → St → Option St
  | [], s => some s
  | n :: l, s => match stp s n with
    | none => none
    | some s' => run l s'
/-- Is it a list? -/
def chk (l : List Nd) : Int :=
  if 2000 < l.length then 6
  else match run l ([], 0) with
    | none => 50
    | some s => if s.1 = [] then (if 40 < s.2 then 51 else 0) else 50
theorem run_snoc : ∀ (l : List Nd) (s : St) (n : Nd), run (l ++ [n]) s = (run l s).bind fun s' => stp s' n
  | [], s, n => by simp only [List.nil_append, run, Option.bind_some]; cases stp s n <;> rfl
  | m :: l, s, n => by
    simp only [List.cons_append, run]
    cases stp s m
    · rfl
    · exact run_snoc l _ n
theorem run_append : ∀ (l m : List Nd) (s : St), run (l ++ m) s = (run l s).bind fun s' => run m s'
  | [], m, s => by simp [run]
  | n :: l, m, s => by
    simp only [List.cons_append, run]
    cases stp s n
    · rfl
    · exact run_append l m _
end Go.Proofs.YtmcekdjhkjhcdaaGreatDoor.Np
