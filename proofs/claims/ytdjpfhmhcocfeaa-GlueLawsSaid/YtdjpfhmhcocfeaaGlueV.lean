import Derived.Test.YtdjpfhmhcocfeaaGlueU
import Derived.Test.YtdjpfhmhcocfeaaGlueJ
/- GlueLaws: the walk, a theorem for each way of its first 'if' (printed by gen_laws.py). Conditions: those that each theorem names. -/
namespace Go.Proofs.Ytdjpfhmhcocfeaa.Gl
open Go.ChangeShapes Go.WideShapes Go.ChangeAt Go.RowKit
open Me
set_option linter.unusedVariables false

/-- A glue that lies in a block of its own. -/
def Cel (w : World) (B : Nat) (n s h a b : Int) : Prop :=
  B < w.heap.size ∧ w.cell? ⟨B, 0, none⟩ = some (.int .i64 n) ∧ w.cell? ⟨B, 1, none⟩ = some (.int .i64 s) ∧ w.cell? ⟨B, 2, none⟩ = some (.int .i64 h) ∧ w.cell? ⟨B, 3, none⟩ = some (.int .i64 a) ∧ w.cell? ⟨B, 4, none⟩ = some (.int .i64 b)
theorem Cel.new (w : World) (n s h a b : Int) (t : TypeId) : Cel (w.alloc (.cells #[.int .i64 n, .int .i64 s, .int .i64 h, .int .i64 a, .int .i64 b] t)) w.heap.size n s h a b := by
  refine ⟨by simp, ?_, ?_, ?_, ?_, ?_⟩ <;> simp [go_sem]
theorem Cel.keep {w w' : World} {B : Nat} {n s h a b : Int} (hc : Cel w B n s h a b) (hb : Below w.heap.size w w') : Cel w' B n s h a b := by
  obtain ⟨ho, -⟩ := old_cells hb
  obtain ⟨h0, c0, c1, c2, c3, c4⟩ := hc
  exact ⟨Nat.lt_of_lt_of_le h0 hb.size, (ho _ _ h0).trans c0, (ho _ _ h0).trans c1, (ho _ _ h0).trans c2, (ho _ _ h0).trans c3, (ho _ _ h0).trans c4⟩
theorem Cel.up {w : World} {B : Nat} {n s h a b : Int} (hc : Cel w B n s h a b) (o : Obj) : Cel (w.alloc o) B n s h a b := hc.keep (andAlloc (Below.refl _ _) o)
theorem eqG_same (a b c d e : Int) : eqG a b c d e a b c d e = true := by simp [eqG]
theorem neq_same (a b c d e : Int) : ∀ w : World, (binOp .neq 37 (.agg #[.int .i64 a, .int .i64 b, .int .i64 c, .int .i64 d, .int .i64 e]) (.agg #[.int .i64 a, .int .i64 b, .int .i64 c, .int .i64 d, .int .i64 e])).run Try.prog w = .ok (.bool false) w :=
  fun w => by rw [neq_any, eqG_same]; rfl

set_option maxRecDepth 100000 in
set_option maxHeartbeats 4000000 in
theorem laws_far (xn xs xh xa xb yn ys yh ya yb zn zs zh za zb pn ps ph pa pb qn qs qh qa qb tn ts th ta tb on os oh oa ob un us uh ua ub vn vs vh va vb rn rs rh ra rb k E1 E2 E3 E5 E8 E9 : Int) (w : World)
    (hP1 : plusG ⟨xn, xs, xh, xa, xb⟩ ⟨yn, ys, yh, ya, yb⟩ = (⟨pn, ps, ph, pa, pb⟩, E1)) (hP2 : plusG ⟨yn, ys, yh, ya, yb⟩ ⟨xn, xs, xh, xa, xb⟩ = (⟨pn, ps, ph, pa, pb⟩, E1)) (hP3 : plusG ⟨xn, xs, xh, xa, xb⟩ ⟨xn, xs, xh, xa, xb⟩ = (⟨qn, qs, qh, qa, qb⟩, E2)) (hP4 : timesG ⟨xn, xs, xh, xa, xb⟩ 2 = (⟨qn, qs, qh, qa, qb⟩, E2)) (hP5 : timesG ⟨xn, xs, xh, xa, xb⟩ k = (⟨tn, ts, th, ta, tb⟩, E3))
    (hP8 : plusG ⟨yn, ys, yh, ya, yb⟩ ⟨zn, zs, zh, za, zb⟩ = (⟨un, us, uh, ua, ub⟩, E5)) (hP9 : plusG ⟨pn, ps, ph, pa, pb⟩ ⟨zn, zs, zh, za, zb⟩ = (⟨vn, vs, vh, va, vb⟩, E8)) (hPA : plusG ⟨xn, xs, xh, xa, xb⟩ ⟨un, us, uh, ua, ub⟩ = (⟨rn, rs, rh, ra, rb⟩, E9)) (t3 : (E3 == 0) = false) :
    Calls Try.prog 8 #[.agg #[.int .i64 xn, .int .i64 xs, .int .i64 xh, .int .i64 xa, .int .i64 xb], .agg #[.int .i64 yn, .int .i64 ys, .int .i64 yh, .int .i64 ya, .int .i64 yb], .agg #[.int .i64 zn, .int .i64 zs, .int .i64 zh, .int .i64 za, .int .i64 zb], .int .i64 k] w fun e w' => e = .returned (.bool true) ∧ Below w.heap.size w w' := by
  have qE := eql_any vn vs vh va vb rn rs rh ra rb
  have hq : E1 = 0 → E5 = 0 → ((((0 ≤ xs ∧ 0 ≤ xh) ∧ 0 ≤ ys) ∧ 0 ≤ yh) ∧ 0 ≤ zs) ∧ 0 ≤ zh → E8 = 0 → E9 = 0 → eqG vn vs vh va vb rn rs rh ra rb = true := by
    intro g1 g2 g3 g9 g10
    subst g1 g2 g9 g10
    obtain ⟨⟨⟨⟨⟨g3, g4⟩, g5⟩, g6⟩, g7⟩, g8⟩ := g3
    have := plusG_assoc hP1 hP8 hP9 hPA g3 g4 g5 g6 g7 g8
    injection this with e1 e2 e3 e4 e5
    subst e1 e2 e3 e4 e5
    exact eqG_same _ _ _ _ _
  have n1 := neq_same pn ps ph pa pb
  have n2 := neq_same qn qs qh qa qb
  have K1 := Lib.hid (fun w : World => plus_any xn xs xh xa xb yn ys yh ya yb pn ps ph pa pb E1 hP1 w)
  have K2 := Lib.hid (fun w : World => plus_any yn ys yh ya yb xn xs xh xa xb pn ps ph pa pb E1 hP2 w)
  have K3 := Lib.hid (fun w : World => plus_any xn xs xh xa xb xn xs xh xa xb qn qs qh qa qb E2 hP3 w)
  have K4 := Lib.hid (fun w : World => times2_any xn xs xh xa xb 2 qn qs qh qa qb E2 hP4 w)
  have K5 := Lib.hid (fun w : World => times2_any xn xs xh xa xb k tn ts th ta tb E3 hP5 w)
  have K8 := Lib.hid (fun w : World => plus_any yn ys yh ya yb zn zs zh za zb un us uh ua ub E5 hP8 w)
  have K9 := Lib.hid (fun w : World => plus_any pn ps ph pa pb zn zs zh za zb vn vs vh va vb E8 hP9 w)
  have KA := Lib.hid (fun w : World => plus_any xn xs xh xa xb un us uh ua ub rn rs rh ra rb E9 hPA w)
  have HQ := Lib.hid hq
  clear hq hP1 hP2 hP3 hP4 hP5 hP8 hP9 hPA
  go_enter Try.func8, Try.ntmps8
  go_wp2_with fail
  refine (K1.out _).mono ?_
  rintro e w1 ⟨rfl, hb1⟩
  have CX1 := (((Cel.new w xn xs xh xa xb 37).up (.cells #[.int .i64 yn, .int .i64 ys, .int .i64 yh, .int .i64 ya, .int .i64 yb] 37)).up (.cells #[.int .i64 zn, .int .i64 zs, .int .i64 zh, .int .i64 za, .int .i64 zb] 37)).keep hb1
  have CY1 := ((Cel.new (w.alloc (.cells #[.int .i64 xn, .int .i64 xs, .int .i64 xh, .int .i64 xa, .int .i64 xb] 37)) yn ys yh ya yb 37).up (.cells #[.int .i64 zn, .int .i64 zs, .int .i64 zh, .int .i64 za, .int .i64 zb] 37)).keep hb1
  have CZ1 := (Cel.new ((w.alloc (.cells #[.int .i64 xn, .int .i64 xs, .int .i64 xh, .int .i64 xa, .int .i64 xb] 37)).alloc (.cells #[.int .i64 yn, .int .i64 ys, .int .i64 yh, .int .i64 ya, .int .i64 yb] 37)) zn zs zh za zb 37).keep hb1
  have B1 := andThen (andAlloc (andAlloc (andAlloc (Below.refl w.heap.size w) (.cells #[.int .i64 xn, .int .i64 xs, .int .i64 xh, .int .i64 xa, .int .i64 xb] 37)) (.cells #[.int .i64 yn, .int .i64 ys, .int .i64 yh, .int .i64 ya, .int .i64 yb] 37)) (.cells #[.int .i64 zn, .int .i64 zs, .int .i64 zh, .int .i64 za, .int .i64 zb] 37)) hb1
  simp only [World.size_alloc] at CX1 CY1 CZ1
  obtain ⟨lX1, c0X1, c1X1, c2X1, c3X1, c4X1⟩ := id CX1
  obtain ⟨lY1, c0Y1, c1Y1, c2Y1, c3Y1, c4Y1⟩ := id CY1
  go_wp2_with (first | (go_at_call 11; refine (num_any _ _).mono ?_; rintro e w' ⟨rfl, rfl⟩) | (go_at_call 12; refine (live_any _).mono ?_; rintro e wL ⟨rfl, hbL⟩))
  clear lX1 c0X1 c1X1 c2X1 c3X1 c4X1 lY1 c0Y1 c1Y1 c2Y1 c3Y1 c4Y1
  refine (K2.out _).mono ?_
  rintro e w2 ⟨rfl, hb2⟩
  have CX2 := (CX1.up (.cells #[.int .i64 pn, .int .i64 ps, .int .i64 ph, .int .i64 pa, .int .i64 pb] 37)).keep hb2
  have CY2 := (CY1.up (.cells #[.int .i64 pn, .int .i64 ps, .int .i64 ph, .int .i64 pa, .int .i64 pb] 37)).keep hb2
  have CZ2 := (CZ1.up (.cells #[.int .i64 pn, .int .i64 ps, .int .i64 ph, .int .i64 pa, .int .i64 pb] 37)).keep hb2
  have CP2 := (Cel.new w1 pn ps ph pa pb 37).keep hb2
  have B2 := andThen (andAlloc B1 (.cells #[.int .i64 pn, .int .i64 ps, .int .i64 ph, .int .i64 pa, .int .i64 pb] 37)) hb2
  clear hb2 B1 CX1 CY1 CZ1
  obtain ⟨lP2, c0P2, c1P2, c2P2, c3P2, c4P2⟩ := id CP2
  obtain ⟨lX2, c0X2, c1X2, c2X2, c3X2, c4X2⟩ := id CX2
  go_wp2_with (first | (go_at_call 11; refine (num_any _ _).mono ?_; rintro e w' ⟨rfl, rfl⟩) | (go_at_call 12; refine (live_any _).mono ?_; rintro e wL ⟨rfl, hbL⟩))
  clear lP2 c0P2 c1P2 c2P2 c3P2 c4P2 lX2 c0X2 c1X2 c2X2 c3X2 c4X2
  refine (K3.out _).mono ?_
  rintro e w3 ⟨rfl, hb3⟩
  have CX3 := (CX2.up (.cells #[.int .i64 pn, .int .i64 ps, .int .i64 ph, .int .i64 pa, .int .i64 pb] 37)).keep hb3
  have CY3 := (CY2.up (.cells #[.int .i64 pn, .int .i64 ps, .int .i64 ph, .int .i64 pa, .int .i64 pb] 37)).keep hb3
  have CZ3 := (CZ2.up (.cells #[.int .i64 pn, .int .i64 ps, .int .i64 ph, .int .i64 pa, .int .i64 pb] 37)).keep hb3
  have CP3 := (CP2.up (.cells #[.int .i64 pn, .int .i64 ps, .int .i64 ph, .int .i64 pa, .int .i64 pb] 37)).keep hb3
  have CP23 := (Cel.new w2 pn ps ph pa pb 37).keep hb3
  have B3 := andThen (andAlloc B2 (.cells #[.int .i64 pn, .int .i64 ps, .int .i64 ph, .int .i64 pa, .int .i64 pb] 37)) hb3
  clear hb3 B2 CX2 CY2 CZ2 CP2
  obtain ⟨lX3, c0X3, c1X3, c2X3, c3X3, c4X3⟩ := id CX3
  go_wp2_with (first | (go_at_call 11; refine (num_any _ _).mono ?_; rintro e w' ⟨rfl, rfl⟩) | (go_at_call 12; refine (live_any _).mono ?_; rintro e wL ⟨rfl, hbL⟩))
  clear lX3 c0X3 c1X3 c2X3 c3X3 c4X3
  refine (K4.out _).mono ?_
  rintro e w4 ⟨rfl, hb4⟩
  have CX4 := (CX3.up (.cells #[.int .i64 qn, .int .i64 qs, .int .i64 qh, .int .i64 qa, .int .i64 qb] 37)).keep hb4
  have CY4 := (CY3.up (.cells #[.int .i64 qn, .int .i64 qs, .int .i64 qh, .int .i64 qa, .int .i64 qb] 37)).keep hb4
  have CZ4 := (CZ3.up (.cells #[.int .i64 qn, .int .i64 qs, .int .i64 qh, .int .i64 qa, .int .i64 qb] 37)).keep hb4
  have CP4 := (CP3.up (.cells #[.int .i64 qn, .int .i64 qs, .int .i64 qh, .int .i64 qa, .int .i64 qb] 37)).keep hb4
  have CP24 := (CP23.up (.cells #[.int .i64 qn, .int .i64 qs, .int .i64 qh, .int .i64 qa, .int .i64 qb] 37)).keep hb4
  have CQ4 := (Cel.new w3 qn qs qh qa qb 37).keep hb4
  have B4 := andThen (andAlloc B3 (.cells #[.int .i64 qn, .int .i64 qs, .int .i64 qh, .int .i64 qa, .int .i64 qb] 37)) hb4
  clear hb4 B3 CX3 CY3 CZ3 CP3 CP23
  obtain ⟨lQ4, c0Q4, c1Q4, c2Q4, c3Q4, c4Q4⟩ := id CQ4
  obtain ⟨lX4, c0X4, c1X4, c2X4, c3X4, c4X4⟩ := id CX4
  go_wp2_with (first | (go_at_call 11; refine (num_any _ _).mono ?_; rintro e w' ⟨rfl, rfl⟩) | (go_at_call 12; refine (live_any _).mono ?_; rintro e wL ⟨rfl, hbL⟩))
  clear lQ4 c0Q4 c1Q4 c2Q4 c3Q4 c4Q4 lX4 c0X4 c1X4 c2X4 c3X4 c4X4
  refine (K5.out _).mono ?_
  rintro e w5 ⟨rfl, hb5⟩
  have CX5 := (CX4.up (.cells #[.int .i64 qn, .int .i64 qs, .int .i64 qh, .int .i64 qa, .int .i64 qb] 37)).keep hb5
  have CY5 := (CY4.up (.cells #[.int .i64 qn, .int .i64 qs, .int .i64 qh, .int .i64 qa, .int .i64 qb] 37)).keep hb5
  have CZ5 := (CZ4.up (.cells #[.int .i64 qn, .int .i64 qs, .int .i64 qh, .int .i64 qa, .int .i64 qb] 37)).keep hb5
  have CP5 := (CP4.up (.cells #[.int .i64 qn, .int .i64 qs, .int .i64 qh, .int .i64 qa, .int .i64 qb] 37)).keep hb5
  have CP25 := (CP24.up (.cells #[.int .i64 qn, .int .i64 qs, .int .i64 qh, .int .i64 qa, .int .i64 qb] 37)).keep hb5
  have CQ5 := (CQ4.up (.cells #[.int .i64 qn, .int .i64 qs, .int .i64 qh, .int .i64 qa, .int .i64 qb] 37)).keep hb5
  have CQ25 := (Cel.new w4 qn qs qh qa qb 37).keep hb5
  have B5 := andThen (andAlloc B4 (.cells #[.int .i64 qn, .int .i64 qs, .int .i64 qh, .int .i64 qa, .int .i64 qb] 37)) hb5
  clear hb5 B4 CX4 CY4 CZ4 CP4 CP24 CQ4
  obtain ⟨lY5, c0Y5, c1Y5, c2Y5, c3Y5, c4Y5⟩ := id CY5
  obtain ⟨lZ5, c0Z5, c1Z5, c2Z5, c3Z5, c4Z5⟩ := id CZ5
  go_wp2_with (first | (go_at_call 11; refine (num_any _ _).mono ?_; rintro e w' ⟨rfl, rfl⟩) | (go_at_call 12; refine (live_any _).mono ?_; rintro e wL ⟨rfl, hbL⟩))
  clear lY5 c0Y5 c1Y5 c2Y5 c3Y5 c4Y5 lZ5 c0Z5 c1Z5 c2Z5 c3Z5 c4Z5
  refine (K8.out _).mono ?_
  rintro e w8 ⟨rfl, hb8⟩
  have CX8 := (CX5.up (.cells #[.int .i64 tn, .int .i64 ts, .int .i64 th, .int .i64 ta, .int .i64 tb] 37)).keep hb8
  have CY8 := (CY5.up (.cells #[.int .i64 tn, .int .i64 ts, .int .i64 th, .int .i64 ta, .int .i64 tb] 37)).keep hb8
  have CZ8 := (CZ5.up (.cells #[.int .i64 tn, .int .i64 ts, .int .i64 th, .int .i64 ta, .int .i64 tb] 37)).keep hb8
  have CP8 := (CP5.up (.cells #[.int .i64 tn, .int .i64 ts, .int .i64 th, .int .i64 ta, .int .i64 tb] 37)).keep hb8
  have CP28 := (CP25.up (.cells #[.int .i64 tn, .int .i64 ts, .int .i64 th, .int .i64 ta, .int .i64 tb] 37)).keep hb8
  have CQ8 := (CQ5.up (.cells #[.int .i64 tn, .int .i64 ts, .int .i64 th, .int .i64 ta, .int .i64 tb] 37)).keep hb8
  have CQ28 := (CQ25.up (.cells #[.int .i64 tn, .int .i64 ts, .int .i64 th, .int .i64 ta, .int .i64 tb] 37)).keep hb8
  have CT8 := (Cel.new w5 tn ts th ta tb 37).keep hb8
  have B8 := andThen (andAlloc B5 (.cells #[.int .i64 tn, .int .i64 ts, .int .i64 th, .int .i64 ta, .int .i64 tb] 37)) hb8
  clear hb8 B5 CX5 CY5 CZ5 CP5 CP25 CQ5 CQ25
  obtain ⟨lX8, c0X8, c1X8, c2X8, c3X8, c4X8⟩ := id CX8
  obtain ⟨lY8, c0Y8, c1Y8, c2Y8, c3Y8, c4Y8⟩ := id CY8
  obtain ⟨lZ8, c0Z8, c1Z8, c2Z8, c3Z8, c4Z8⟩ := id CZ8
  obtain ⟨lP8, c0P8, c1P8, c2P8, c3P8, c4P8⟩ := id CP8
  go_wp2_with (first | (go_at_call 11; refine (num_any _ _).mono ?_; rintro e w' ⟨rfl, rfl⟩) | (go_at_call 12; refine (live_any _).mono ?_; rintro e wL ⟨rfl, hbL⟩))
  all_goals try (go_ret; exact ⟨rfl, andThen (andAlloc B8 (.cells #[.int .i64 un, .int .i64 us, .int .i64 uh, .int .i64 ua, .int .i64 ub] 37)) hbL⟩)
  clear lX8 c0X8 c1X8 c2X8 c3X8 c4X8 lY8 c0Y8 c1Y8 c2Y8 c3Y8 c4Y8 lZ8 c0Z8 c1Z8 c2Z8 c3Z8 c4Z8 lP8 c0P8 c1P8 c2P8 c3P8 c4P8
  refine (K9.out _).mono ?_
  rintro e w9 ⟨rfl, hb9⟩
  have CX9 := (CX8.up (.cells #[.int .i64 un, .int .i64 us, .int .i64 uh, .int .i64 ua, .int .i64 ub] 37)).keep hb9
  have CY9 := (CY8.up (.cells #[.int .i64 un, .int .i64 us, .int .i64 uh, .int .i64 ua, .int .i64 ub] 37)).keep hb9
  have CZ9 := (CZ8.up (.cells #[.int .i64 un, .int .i64 us, .int .i64 uh, .int .i64 ua, .int .i64 ub] 37)).keep hb9
  have CP9 := (CP8.up (.cells #[.int .i64 un, .int .i64 us, .int .i64 uh, .int .i64 ua, .int .i64 ub] 37)).keep hb9
  have CP29 := (CP28.up (.cells #[.int .i64 un, .int .i64 us, .int .i64 uh, .int .i64 ua, .int .i64 ub] 37)).keep hb9
  have CQ9 := (CQ8.up (.cells #[.int .i64 un, .int .i64 us, .int .i64 uh, .int .i64 ua, .int .i64 ub] 37)).keep hb9
  have CQ29 := (CQ28.up (.cells #[.int .i64 un, .int .i64 us, .int .i64 uh, .int .i64 ua, .int .i64 ub] 37)).keep hb9
  have CT9 := (CT8.up (.cells #[.int .i64 un, .int .i64 us, .int .i64 uh, .int .i64 ua, .int .i64 ub] 37)).keep hb9
  have CU9 := (Cel.new w8 un us uh ua ub 37).keep hb9
  have B9 := andThen (andAlloc B8 (.cells #[.int .i64 un, .int .i64 us, .int .i64 uh, .int .i64 ua, .int .i64 ub] 37)) hb9
  clear hb9 B8 CX8 CY8 CZ8 CP8 CP28 CQ8 CQ28 CT8
  obtain ⟨lX9, c0X9, c1X9, c2X9, c3X9, c4X9⟩ := id CX9
  obtain ⟨lU9, c0U9, c1U9, c2U9, c3U9, c4U9⟩ := id CU9
  go_wp2_with (first | (go_at_call 11; refine (num_any _ _).mono ?_; rintro e w' ⟨rfl, rfl⟩) | (go_at_call 12; refine (live_any _).mono ?_; rintro e wL ⟨rfl, hbL⟩))
  clear lX9 c0X9 c1X9 c2X9 c3X9 c4X9 lU9 c0U9 c1U9 c2U9 c3U9 c4U9
  refine (KA.out _).mono ?_
  rintro e w10 ⟨rfl, hb10⟩
  have CX10 := (CX9.up (.cells #[.int .i64 vn, .int .i64 vs, .int .i64 vh, .int .i64 va, .int .i64 vb] 37)).keep hb10
  have CY10 := (CY9.up (.cells #[.int .i64 vn, .int .i64 vs, .int .i64 vh, .int .i64 va, .int .i64 vb] 37)).keep hb10
  have CZ10 := (CZ9.up (.cells #[.int .i64 vn, .int .i64 vs, .int .i64 vh, .int .i64 va, .int .i64 vb] 37)).keep hb10
  have CP10 := (CP9.up (.cells #[.int .i64 vn, .int .i64 vs, .int .i64 vh, .int .i64 va, .int .i64 vb] 37)).keep hb10
  have CP210 := (CP29.up (.cells #[.int .i64 vn, .int .i64 vs, .int .i64 vh, .int .i64 va, .int .i64 vb] 37)).keep hb10
  have CQ10 := (CQ9.up (.cells #[.int .i64 vn, .int .i64 vs, .int .i64 vh, .int .i64 va, .int .i64 vb] 37)).keep hb10
  have CQ210 := (CQ29.up (.cells #[.int .i64 vn, .int .i64 vs, .int .i64 vh, .int .i64 va, .int .i64 vb] 37)).keep hb10
  have CT10 := (CT9.up (.cells #[.int .i64 vn, .int .i64 vs, .int .i64 vh, .int .i64 va, .int .i64 vb] 37)).keep hb10
  have CU10 := (CU9.up (.cells #[.int .i64 vn, .int .i64 vs, .int .i64 vh, .int .i64 va, .int .i64 vb] 37)).keep hb10
  have CV10 := (Cel.new w9 vn vs vh va vb 37).keep hb10
  have B10 := andThen (andAlloc B9 (.cells #[.int .i64 vn, .int .i64 vs, .int .i64 vh, .int .i64 va, .int .i64 vb] 37)) hb10
  clear hb10 B9 CX9 CY9 CZ9 CP9 CP29 CQ9 CQ29 CT9 CU9
  obtain ⟨lV10, c0V10, c1V10, c2V10, c3V10, c4V10⟩ := id CV10
  go_wp2_with (first | (go_at_call 11; refine (num_any _ _).mono ?_; rintro e w' ⟨rfl, rfl⟩) | (go_at_call 12; refine (live_any _).mono ?_; rintro e wL ⟨rfl, hbL⟩))
  all_goals first | (go_ret; exact ⟨rfl, andThen (andAlloc B10 (.cells #[.int .i64 rn, .int .i64 rs, .int .i64 rh, .int .i64 ra, .int .i64 rb] 37)) hbL⟩) | (go_ret; exact ⟨rfl, andAlloc B10 (.cells #[.int .i64 rn, .int .i64 rs, .int .i64 rh, .int .i64 ra, .int .i64 rb] 37)⟩) | exact absurd (HQ.out (by assumption) (by assumption) (by assumption) (by assumption) (by assumption)) (by assumption)

set_option maxRecDepth 100000 in
set_option maxHeartbeats 4000000 in
theorem laws_nil (xn xs xh xa xb yn ys yh ya yb zn zs zh za zb pn ps ph pa pb qn qs qh qa qb tn ts th ta tb on os oh oa ob un us uh ua ub vn vs vh va vb rn rs rh ra rb k E1 E2 E3 E5 E8 E9 : Int) (w : World)
    (hP1 : plusG ⟨xn, xs, xh, xa, xb⟩ ⟨yn, ys, yh, ya, yb⟩ = (⟨pn, ps, ph, pa, pb⟩, E1)) (hP2 : plusG ⟨yn, ys, yh, ya, yb⟩ ⟨xn, xs, xh, xa, xb⟩ = (⟨pn, ps, ph, pa, pb⟩, E1)) (hP3 : plusG ⟨xn, xs, xh, xa, xb⟩ ⟨xn, xs, xh, xa, xb⟩ = (⟨qn, qs, qh, qa, qb⟩, E2)) (hP4 : timesG ⟨xn, xs, xh, xa, xb⟩ 2 = (⟨qn, qs, qh, qa, qb⟩, E2)) (hP5 : timesG ⟨xn, xs, xh, xa, xb⟩ k = (⟨tn, ts, th, ta, tb⟩, E3))
    (hP8 : plusG ⟨yn, ys, yh, ya, yb⟩ ⟨zn, zs, zh, za, zb⟩ = (⟨un, us, uh, ua, ub⟩, E5)) (hP9 : plusG ⟨pn, ps, ph, pa, pb⟩ ⟨zn, zs, zh, za, zb⟩ = (⟨vn, vs, vh, va, vb⟩, E8)) (hPA : plusG ⟨xn, xs, xh, xa, xb⟩ ⟨un, us, uh, ua, ub⟩ = (⟨rn, rs, rh, ra, rb⟩, E9)) (t3 : (E3 == 0) = true) (tk : (k != 0) = false) :
    Calls Try.prog 8 #[.agg #[.int .i64 xn, .int .i64 xs, .int .i64 xh, .int .i64 xa, .int .i64 xb], .agg #[.int .i64 yn, .int .i64 ys, .int .i64 yh, .int .i64 ya, .int .i64 yb], .agg #[.int .i64 zn, .int .i64 zs, .int .i64 zh, .int .i64 za, .int .i64 zb], .int .i64 k] w fun e w' => e = .returned (.bool true) ∧ Below w.heap.size w w' := by
  have qE := eql_any vn vs vh va vb rn rs rh ra rb
  have hq : E1 = 0 → E5 = 0 → ((((0 ≤ xs ∧ 0 ≤ xh) ∧ 0 ≤ ys) ∧ 0 ≤ yh) ∧ 0 ≤ zs) ∧ 0 ≤ zh → E8 = 0 → E9 = 0 → eqG vn vs vh va vb rn rs rh ra rb = true := by
    intro g1 g2 g3 g9 g10
    subst g1 g2 g9 g10
    obtain ⟨⟨⟨⟨⟨g3, g4⟩, g5⟩, g6⟩, g7⟩, g8⟩ := g3
    have := plusG_assoc hP1 hP8 hP9 hPA g3 g4 g5 g6 g7 g8
    injection this with e1 e2 e3 e4 e5
    subst e1 e2 e3 e4 e5
    exact eqG_same _ _ _ _ _
  have n1 := neq_same pn ps ph pa pb
  have n2 := neq_same qn qs qh qa qb
  have K1 := Lib.hid (fun w : World => plus_any xn xs xh xa xb yn ys yh ya yb pn ps ph pa pb E1 hP1 w)
  have K2 := Lib.hid (fun w : World => plus_any yn ys yh ya yb xn xs xh xa xb pn ps ph pa pb E1 hP2 w)
  have K3 := Lib.hid (fun w : World => plus_any xn xs xh xa xb xn xs xh xa xb qn qs qh qa qb E2 hP3 w)
  have K4 := Lib.hid (fun w : World => times2_any xn xs xh xa xb 2 qn qs qh qa qb E2 hP4 w)
  have K5 := Lib.hid (fun w : World => times2_any xn xs xh xa xb k tn ts th ta tb E3 hP5 w)
  have K8 := Lib.hid (fun w : World => plus_any yn ys yh ya yb zn zs zh za zb un us uh ua ub E5 hP8 w)
  have K9 := Lib.hid (fun w : World => plus_any pn ps ph pa pb zn zs zh za zb vn vs vh va vb E8 hP9 w)
  have KA := Lib.hid (fun w : World => plus_any xn xs xh xa xb un us uh ua ub rn rs rh ra rb E9 hPA w)
  have HQ := Lib.hid hq
  clear hq hP1 hP2 hP3 hP4 hP5 hP8 hP9 hPA
  go_enter Try.func8, Try.ntmps8
  go_wp2_with fail
  refine (K1.out _).mono ?_
  rintro e w1 ⟨rfl, hb1⟩
  have CX1 := (((Cel.new w xn xs xh xa xb 37).up (.cells #[.int .i64 yn, .int .i64 ys, .int .i64 yh, .int .i64 ya, .int .i64 yb] 37)).up (.cells #[.int .i64 zn, .int .i64 zs, .int .i64 zh, .int .i64 za, .int .i64 zb] 37)).keep hb1
  have CY1 := ((Cel.new (w.alloc (.cells #[.int .i64 xn, .int .i64 xs, .int .i64 xh, .int .i64 xa, .int .i64 xb] 37)) yn ys yh ya yb 37).up (.cells #[.int .i64 zn, .int .i64 zs, .int .i64 zh, .int .i64 za, .int .i64 zb] 37)).keep hb1
  have CZ1 := (Cel.new ((w.alloc (.cells #[.int .i64 xn, .int .i64 xs, .int .i64 xh, .int .i64 xa, .int .i64 xb] 37)).alloc (.cells #[.int .i64 yn, .int .i64 ys, .int .i64 yh, .int .i64 ya, .int .i64 yb] 37)) zn zs zh za zb 37).keep hb1
  have B1 := andThen (andAlloc (andAlloc (andAlloc (Below.refl w.heap.size w) (.cells #[.int .i64 xn, .int .i64 xs, .int .i64 xh, .int .i64 xa, .int .i64 xb] 37)) (.cells #[.int .i64 yn, .int .i64 ys, .int .i64 yh, .int .i64 ya, .int .i64 yb] 37)) (.cells #[.int .i64 zn, .int .i64 zs, .int .i64 zh, .int .i64 za, .int .i64 zb] 37)) hb1
  simp only [World.size_alloc] at CX1 CY1 CZ1
  obtain ⟨lX1, c0X1, c1X1, c2X1, c3X1, c4X1⟩ := id CX1
  obtain ⟨lY1, c0Y1, c1Y1, c2Y1, c3Y1, c4Y1⟩ := id CY1
  go_wp2_with (first | (go_at_call 11; refine (num_any _ _).mono ?_; rintro e w' ⟨rfl, rfl⟩) | (go_at_call 12; refine (live_any _).mono ?_; rintro e wL ⟨rfl, hbL⟩))
  clear lX1 c0X1 c1X1 c2X1 c3X1 c4X1 lY1 c0Y1 c1Y1 c2Y1 c3Y1 c4Y1
  refine (K2.out _).mono ?_
  rintro e w2 ⟨rfl, hb2⟩
  have CX2 := (CX1.up (.cells #[.int .i64 pn, .int .i64 ps, .int .i64 ph, .int .i64 pa, .int .i64 pb] 37)).keep hb2
  have CY2 := (CY1.up (.cells #[.int .i64 pn, .int .i64 ps, .int .i64 ph, .int .i64 pa, .int .i64 pb] 37)).keep hb2
  have CZ2 := (CZ1.up (.cells #[.int .i64 pn, .int .i64 ps, .int .i64 ph, .int .i64 pa, .int .i64 pb] 37)).keep hb2
  have CP2 := (Cel.new w1 pn ps ph pa pb 37).keep hb2
  have B2 := andThen (andAlloc B1 (.cells #[.int .i64 pn, .int .i64 ps, .int .i64 ph, .int .i64 pa, .int .i64 pb] 37)) hb2
  clear hb2 B1 CX1 CY1 CZ1
  obtain ⟨lP2, c0P2, c1P2, c2P2, c3P2, c4P2⟩ := id CP2
  obtain ⟨lX2, c0X2, c1X2, c2X2, c3X2, c4X2⟩ := id CX2
  go_wp2_with (first | (go_at_call 11; refine (num_any _ _).mono ?_; rintro e w' ⟨rfl, rfl⟩) | (go_at_call 12; refine (live_any _).mono ?_; rintro e wL ⟨rfl, hbL⟩))
  clear lP2 c0P2 c1P2 c2P2 c3P2 c4P2 lX2 c0X2 c1X2 c2X2 c3X2 c4X2
  refine (K3.out _).mono ?_
  rintro e w3 ⟨rfl, hb3⟩
  have CX3 := (CX2.up (.cells #[.int .i64 pn, .int .i64 ps, .int .i64 ph, .int .i64 pa, .int .i64 pb] 37)).keep hb3
  have CY3 := (CY2.up (.cells #[.int .i64 pn, .int .i64 ps, .int .i64 ph, .int .i64 pa, .int .i64 pb] 37)).keep hb3
  have CZ3 := (CZ2.up (.cells #[.int .i64 pn, .int .i64 ps, .int .i64 ph, .int .i64 pa, .int .i64 pb] 37)).keep hb3
  have CP3 := (CP2.up (.cells #[.int .i64 pn, .int .i64 ps, .int .i64 ph, .int .i64 pa, .int .i64 pb] 37)).keep hb3
  have CP23 := (Cel.new w2 pn ps ph pa pb 37).keep hb3
  have B3 := andThen (andAlloc B2 (.cells #[.int .i64 pn, .int .i64 ps, .int .i64 ph, .int .i64 pa, .int .i64 pb] 37)) hb3
  clear hb3 B2 CX2 CY2 CZ2 CP2
  obtain ⟨lX3, c0X3, c1X3, c2X3, c3X3, c4X3⟩ := id CX3
  go_wp2_with (first | (go_at_call 11; refine (num_any _ _).mono ?_; rintro e w' ⟨rfl, rfl⟩) | (go_at_call 12; refine (live_any _).mono ?_; rintro e wL ⟨rfl, hbL⟩))
  clear lX3 c0X3 c1X3 c2X3 c3X3 c4X3
  refine (K4.out _).mono ?_
  rintro e w4 ⟨rfl, hb4⟩
  have CX4 := (CX3.up (.cells #[.int .i64 qn, .int .i64 qs, .int .i64 qh, .int .i64 qa, .int .i64 qb] 37)).keep hb4
  have CY4 := (CY3.up (.cells #[.int .i64 qn, .int .i64 qs, .int .i64 qh, .int .i64 qa, .int .i64 qb] 37)).keep hb4
  have CZ4 := (CZ3.up (.cells #[.int .i64 qn, .int .i64 qs, .int .i64 qh, .int .i64 qa, .int .i64 qb] 37)).keep hb4
  have CP4 := (CP3.up (.cells #[.int .i64 qn, .int .i64 qs, .int .i64 qh, .int .i64 qa, .int .i64 qb] 37)).keep hb4
  have CP24 := (CP23.up (.cells #[.int .i64 qn, .int .i64 qs, .int .i64 qh, .int .i64 qa, .int .i64 qb] 37)).keep hb4
  have CQ4 := (Cel.new w3 qn qs qh qa qb 37).keep hb4
  have B4 := andThen (andAlloc B3 (.cells #[.int .i64 qn, .int .i64 qs, .int .i64 qh, .int .i64 qa, .int .i64 qb] 37)) hb4
  clear hb4 B3 CX3 CY3 CZ3 CP3 CP23
  obtain ⟨lQ4, c0Q4, c1Q4, c2Q4, c3Q4, c4Q4⟩ := id CQ4
  obtain ⟨lX4, c0X4, c1X4, c2X4, c3X4, c4X4⟩ := id CX4
  go_wp2_with (first | (go_at_call 11; refine (num_any _ _).mono ?_; rintro e w' ⟨rfl, rfl⟩) | (go_at_call 12; refine (live_any _).mono ?_; rintro e wL ⟨rfl, hbL⟩))
  clear lQ4 c0Q4 c1Q4 c2Q4 c3Q4 c4Q4 lX4 c0X4 c1X4 c2X4 c3X4 c4X4
  refine (K5.out _).mono ?_
  rintro e w5 ⟨rfl, hb5⟩
  have CX5 := (CX4.up (.cells #[.int .i64 qn, .int .i64 qs, .int .i64 qh, .int .i64 qa, .int .i64 qb] 37)).keep hb5
  have CY5 := (CY4.up (.cells #[.int .i64 qn, .int .i64 qs, .int .i64 qh, .int .i64 qa, .int .i64 qb] 37)).keep hb5
  have CZ5 := (CZ4.up (.cells #[.int .i64 qn, .int .i64 qs, .int .i64 qh, .int .i64 qa, .int .i64 qb] 37)).keep hb5
  have CP5 := (CP4.up (.cells #[.int .i64 qn, .int .i64 qs, .int .i64 qh, .int .i64 qa, .int .i64 qb] 37)).keep hb5
  have CP25 := (CP24.up (.cells #[.int .i64 qn, .int .i64 qs, .int .i64 qh, .int .i64 qa, .int .i64 qb] 37)).keep hb5
  have CQ5 := (CQ4.up (.cells #[.int .i64 qn, .int .i64 qs, .int .i64 qh, .int .i64 qa, .int .i64 qb] 37)).keep hb5
  have CQ25 := (Cel.new w4 qn qs qh qa qb 37).keep hb5
  have B5 := andThen (andAlloc B4 (.cells #[.int .i64 qn, .int .i64 qs, .int .i64 qh, .int .i64 qa, .int .i64 qb] 37)) hb5
  clear hb5 B4 CX4 CY4 CZ4 CP4 CP24 CQ4
  obtain ⟨lY5, c0Y5, c1Y5, c2Y5, c3Y5, c4Y5⟩ := id CY5
  obtain ⟨lZ5, c0Z5, c1Z5, c2Z5, c3Z5, c4Z5⟩ := id CZ5
  go_wp2_with (first | (go_at_call 11; refine (num_any _ _).mono ?_; rintro e w' ⟨rfl, rfl⟩) | (go_at_call 12; refine (live_any _).mono ?_; rintro e wL ⟨rfl, hbL⟩))
  clear lY5 c0Y5 c1Y5 c2Y5 c3Y5 c4Y5 lZ5 c0Z5 c1Z5 c2Z5 c3Z5 c4Z5
  refine (K8.out _).mono ?_
  rintro e w8 ⟨rfl, hb8⟩
  have CX8 := (CX5.up (.cells #[.int .i64 tn, .int .i64 ts, .int .i64 th, .int .i64 ta, .int .i64 tb] 37)).keep hb8
  have CY8 := (CY5.up (.cells #[.int .i64 tn, .int .i64 ts, .int .i64 th, .int .i64 ta, .int .i64 tb] 37)).keep hb8
  have CZ8 := (CZ5.up (.cells #[.int .i64 tn, .int .i64 ts, .int .i64 th, .int .i64 ta, .int .i64 tb] 37)).keep hb8
  have CP8 := (CP5.up (.cells #[.int .i64 tn, .int .i64 ts, .int .i64 th, .int .i64 ta, .int .i64 tb] 37)).keep hb8
  have CP28 := (CP25.up (.cells #[.int .i64 tn, .int .i64 ts, .int .i64 th, .int .i64 ta, .int .i64 tb] 37)).keep hb8
  have CQ8 := (CQ5.up (.cells #[.int .i64 tn, .int .i64 ts, .int .i64 th, .int .i64 ta, .int .i64 tb] 37)).keep hb8
  have CQ28 := (CQ25.up (.cells #[.int .i64 tn, .int .i64 ts, .int .i64 th, .int .i64 ta, .int .i64 tb] 37)).keep hb8
  have CT8 := (Cel.new w5 tn ts th ta tb 37).keep hb8
  have B8 := andThen (andAlloc B5 (.cells #[.int .i64 tn, .int .i64 ts, .int .i64 th, .int .i64 ta, .int .i64 tb] 37)) hb8
  clear hb8 B5 CX5 CY5 CZ5 CP5 CP25 CQ5 CQ25
  obtain ⟨lX8, c0X8, c1X8, c2X8, c3X8, c4X8⟩ := id CX8
  obtain ⟨lY8, c0Y8, c1Y8, c2Y8, c3Y8, c4Y8⟩ := id CY8
  obtain ⟨lZ8, c0Z8, c1Z8, c2Z8, c3Z8, c4Z8⟩ := id CZ8
  obtain ⟨lP8, c0P8, c1P8, c2P8, c3P8, c4P8⟩ := id CP8
  go_wp2_with (first | (go_at_call 11; refine (num_any _ _).mono ?_; rintro e w' ⟨rfl, rfl⟩) | (go_at_call 12; refine (live_any _).mono ?_; rintro e wL ⟨rfl, hbL⟩))
  all_goals try (go_ret; exact ⟨rfl, andThen (andAlloc B8 (.cells #[.int .i64 un, .int .i64 us, .int .i64 uh, .int .i64 ua, .int .i64 ub] 37)) hbL⟩)
  clear lX8 c0X8 c1X8 c2X8 c3X8 c4X8 lY8 c0Y8 c1Y8 c2Y8 c3Y8 c4Y8 lZ8 c0Z8 c1Z8 c2Z8 c3Z8 c4Z8 lP8 c0P8 c1P8 c2P8 c3P8 c4P8
  refine (K9.out _).mono ?_
  rintro e w9 ⟨rfl, hb9⟩
  have CX9 := (CX8.up (.cells #[.int .i64 un, .int .i64 us, .int .i64 uh, .int .i64 ua, .int .i64 ub] 37)).keep hb9
  have CY9 := (CY8.up (.cells #[.int .i64 un, .int .i64 us, .int .i64 uh, .int .i64 ua, .int .i64 ub] 37)).keep hb9
  have CZ9 := (CZ8.up (.cells #[.int .i64 un, .int .i64 us, .int .i64 uh, .int .i64 ua, .int .i64 ub] 37)).keep hb9
  have CP9 := (CP8.up (.cells #[.int .i64 un, .int .i64 us, .int .i64 uh, .int .i64 ua, .int .i64 ub] 37)).keep hb9
  have CP29 := (CP28.up (.cells #[.int .i64 un, .int .i64 us, .int .i64 uh, .int .i64 ua, .int .i64 ub] 37)).keep hb9
  have CQ9 := (CQ8.up (.cells #[.int .i64 un, .int .i64 us, .int .i64 uh, .int .i64 ua, .int .i64 ub] 37)).keep hb9
  have CQ29 := (CQ28.up (.cells #[.int .i64 un, .int .i64 us, .int .i64 uh, .int .i64 ua, .int .i64 ub] 37)).keep hb9
  have CT9 := (CT8.up (.cells #[.int .i64 un, .int .i64 us, .int .i64 uh, .int .i64 ua, .int .i64 ub] 37)).keep hb9
  have CU9 := (Cel.new w8 un us uh ua ub 37).keep hb9
  have B9 := andThen (andAlloc B8 (.cells #[.int .i64 un, .int .i64 us, .int .i64 uh, .int .i64 ua, .int .i64 ub] 37)) hb9
  clear hb9 B8 CX8 CY8 CZ8 CP8 CP28 CQ8 CQ28 CT8
  obtain ⟨lX9, c0X9, c1X9, c2X9, c3X9, c4X9⟩ := id CX9
  obtain ⟨lU9, c0U9, c1U9, c2U9, c3U9, c4U9⟩ := id CU9
  go_wp2_with (first | (go_at_call 11; refine (num_any _ _).mono ?_; rintro e w' ⟨rfl, rfl⟩) | (go_at_call 12; refine (live_any _).mono ?_; rintro e wL ⟨rfl, hbL⟩))
  clear lX9 c0X9 c1X9 c2X9 c3X9 c4X9 lU9 c0U9 c1U9 c2U9 c3U9 c4U9
  refine (KA.out _).mono ?_
  rintro e w10 ⟨rfl, hb10⟩
  have CX10 := (CX9.up (.cells #[.int .i64 vn, .int .i64 vs, .int .i64 vh, .int .i64 va, .int .i64 vb] 37)).keep hb10
  have CY10 := (CY9.up (.cells #[.int .i64 vn, .int .i64 vs, .int .i64 vh, .int .i64 va, .int .i64 vb] 37)).keep hb10
  have CZ10 := (CZ9.up (.cells #[.int .i64 vn, .int .i64 vs, .int .i64 vh, .int .i64 va, .int .i64 vb] 37)).keep hb10
  have CP10 := (CP9.up (.cells #[.int .i64 vn, .int .i64 vs, .int .i64 vh, .int .i64 va, .int .i64 vb] 37)).keep hb10
  have CP210 := (CP29.up (.cells #[.int .i64 vn, .int .i64 vs, .int .i64 vh, .int .i64 va, .int .i64 vb] 37)).keep hb10
  have CQ10 := (CQ9.up (.cells #[.int .i64 vn, .int .i64 vs, .int .i64 vh, .int .i64 va, .int .i64 vb] 37)).keep hb10
  have CQ210 := (CQ29.up (.cells #[.int .i64 vn, .int .i64 vs, .int .i64 vh, .int .i64 va, .int .i64 vb] 37)).keep hb10
  have CT10 := (CT9.up (.cells #[.int .i64 vn, .int .i64 vs, .int .i64 vh, .int .i64 va, .int .i64 vb] 37)).keep hb10
  have CU10 := (CU9.up (.cells #[.int .i64 vn, .int .i64 vs, .int .i64 vh, .int .i64 va, .int .i64 vb] 37)).keep hb10
  have CV10 := (Cel.new w9 vn vs vh va vb 37).keep hb10
  have B10 := andThen (andAlloc B9 (.cells #[.int .i64 vn, .int .i64 vs, .int .i64 vh, .int .i64 va, .int .i64 vb] 37)) hb10
  clear hb10 B9 CX9 CY9 CZ9 CP9 CP29 CQ9 CQ29 CT9 CU9
  obtain ⟨lV10, c0V10, c1V10, c2V10, c3V10, c4V10⟩ := id CV10
  go_wp2_with (first | (go_at_call 11; refine (num_any _ _).mono ?_; rintro e w' ⟨rfl, rfl⟩) | (go_at_call 12; refine (live_any _).mono ?_; rintro e wL ⟨rfl, hbL⟩))
  all_goals first | (go_ret; exact ⟨rfl, andThen (andAlloc B10 (.cells #[.int .i64 rn, .int .i64 rs, .int .i64 rh, .int .i64 ra, .int .i64 rb] 37)) hbL⟩) | (go_ret; exact ⟨rfl, andAlloc B10 (.cells #[.int .i64 rn, .int .i64 rs, .int .i64 rh, .int .i64 ra, .int .i64 rb] 37)⟩) | exact absurd (HQ.out (by assumption) (by assumption) (by assumption) (by assumption) (by assumption)) (by assumption)

set_option maxRecDepth 100000 in
set_option maxHeartbeats 4000000 in
theorem laws_back (xn xs xh xa xb yn ys yh ya yb zn zs zh za zb pn ps ph pa pb qn qs qh qa qb tn ts th ta tb on os oh oa ob un us uh ua ub vn vs vh va vb rn rs rh ra rb k E1 E2 E3 E5 E8 E9 : Int) (w : World)
    (hP1 : plusG ⟨xn, xs, xh, xa, xb⟩ ⟨yn, ys, yh, ya, yb⟩ = (⟨pn, ps, ph, pa, pb⟩, E1)) (hP2 : plusG ⟨yn, ys, yh, ya, yb⟩ ⟨xn, xs, xh, xa, xb⟩ = (⟨pn, ps, ph, pa, pb⟩, E1)) (hP3 : plusG ⟨xn, xs, xh, xa, xb⟩ ⟨xn, xs, xh, xa, xb⟩ = (⟨qn, qs, qh, qa, qb⟩, E2)) (hP4 : timesG ⟨xn, xs, xh, xa, xb⟩ 2 = (⟨qn, qs, qh, qa, qb⟩, E2)) (hP5 : timesG ⟨xn, xs, xh, xa, xb⟩ k = (⟨tn, ts, th, ta, tb⟩, E3))
    (hP8 : plusG ⟨yn, ys, yh, ya, yb⟩ ⟨zn, zs, zh, za, zb⟩ = (⟨un, us, uh, ua, ub⟩, E5)) (hP9 : plusG ⟨pn, ps, ph, pa, pb⟩ ⟨zn, zs, zh, za, zb⟩ = (⟨vn, vs, vh, va, vb⟩, E8)) (hPA : plusG ⟨xn, xs, xh, xa, xb⟩ ⟨un, us, uh, ua, ub⟩ = (⟨rn, rs, rh, ra, rb⟩, E9)) (t3 : (E3 == 0) = true) (tk : (k != 0) = true) (hP6 : overG ⟨tn, ts, th, ta, tb⟩ k = (⟨on, os, oh, oa, ob⟩, 0)) (hP7 : timesG ⟨xn, xs, xh, xa, xb⟩ 1 = (⟨on, os, oh, oa, ob⟩, 0)) :
    Calls Try.prog 8 #[.agg #[.int .i64 xn, .int .i64 xs, .int .i64 xh, .int .i64 xa, .int .i64 xb], .agg #[.int .i64 yn, .int .i64 ys, .int .i64 yh, .int .i64 ya, .int .i64 yb], .agg #[.int .i64 zn, .int .i64 zs, .int .i64 zh, .int .i64 za, .int .i64 zb], .int .i64 k] w fun e w' => e = .returned (.bool true) ∧ Below w.heap.size w w' := by
  have qE := eql_any vn vs vh va vb rn rs rh ra rb
  have hq : E1 = 0 → E5 = 0 → ((((0 ≤ xs ∧ 0 ≤ xh) ∧ 0 ≤ ys) ∧ 0 ≤ yh) ∧ 0 ≤ zs) ∧ 0 ≤ zh → E8 = 0 → E9 = 0 → eqG vn vs vh va vb rn rs rh ra rb = true := by
    intro g1 g2 g3 g9 g10
    subst g1 g2 g9 g10
    obtain ⟨⟨⟨⟨⟨g3, g4⟩, g5⟩, g6⟩, g7⟩, g8⟩ := g3
    have := plusG_assoc hP1 hP8 hP9 hPA g3 g4 g5 g6 g7 g8
    injection this with e1 e2 e3 e4 e5
    subst e1 e2 e3 e4 e5
    exact eqG_same _ _ _ _ _
  have n1 := neq_same pn ps ph pa pb
  have n2 := neq_same qn qs qh qa qb
  have n3 := neq_same on os oh oa ob
  have K1 := Lib.hid (fun w : World => plus_any xn xs xh xa xb yn ys yh ya yb pn ps ph pa pb E1 hP1 w)
  have K2 := Lib.hid (fun w : World => plus_any yn ys yh ya yb xn xs xh xa xb pn ps ph pa pb E1 hP2 w)
  have K3 := Lib.hid (fun w : World => plus_any xn xs xh xa xb xn xs xh xa xb qn qs qh qa qb E2 hP3 w)
  have K4 := Lib.hid (fun w : World => times2_any xn xs xh xa xb 2 qn qs qh qa qb E2 hP4 w)
  have K5 := Lib.hid (fun w : World => times2_any xn xs xh xa xb k tn ts th ta tb E3 hP5 w)
  have K8 := Lib.hid (fun w : World => plus_any yn ys yh ya yb zn zs zh za zb un us uh ua ub E5 hP8 w)
  have K9 := Lib.hid (fun w : World => plus_any pn ps ph pa pb zn zs zh za zb vn vs vh va vb E8 hP9 w)
  have KA := Lib.hid (fun w : World => plus_any xn xs xh xa xb un us uh ua ub rn rs rh ra rb E9 hPA w)
  have K6 := Lib.hid (fun w : World => over_any tn ts th ta tb k on os oh oa ob 0 hP6 w)
  have K7 := Lib.hid (fun w : World => times2_any xn xs xh xa xb 1 on os oh oa ob 0 hP7 w)
  have HQ := Lib.hid hq
  clear hq hP1 hP2 hP3 hP4 hP5 hP8 hP9 hPA hP6 hP7
  go_enter Try.func8, Try.ntmps8
  go_wp2_with fail
  refine (K1.out _).mono ?_
  rintro e w1 ⟨rfl, hb1⟩
  have CX1 := (((Cel.new w xn xs xh xa xb 37).up (.cells #[.int .i64 yn, .int .i64 ys, .int .i64 yh, .int .i64 ya, .int .i64 yb] 37)).up (.cells #[.int .i64 zn, .int .i64 zs, .int .i64 zh, .int .i64 za, .int .i64 zb] 37)).keep hb1
  have CY1 := ((Cel.new (w.alloc (.cells #[.int .i64 xn, .int .i64 xs, .int .i64 xh, .int .i64 xa, .int .i64 xb] 37)) yn ys yh ya yb 37).up (.cells #[.int .i64 zn, .int .i64 zs, .int .i64 zh, .int .i64 za, .int .i64 zb] 37)).keep hb1
  have CZ1 := (Cel.new ((w.alloc (.cells #[.int .i64 xn, .int .i64 xs, .int .i64 xh, .int .i64 xa, .int .i64 xb] 37)).alloc (.cells #[.int .i64 yn, .int .i64 ys, .int .i64 yh, .int .i64 ya, .int .i64 yb] 37)) zn zs zh za zb 37).keep hb1
  have B1 := andThen (andAlloc (andAlloc (andAlloc (Below.refl w.heap.size w) (.cells #[.int .i64 xn, .int .i64 xs, .int .i64 xh, .int .i64 xa, .int .i64 xb] 37)) (.cells #[.int .i64 yn, .int .i64 ys, .int .i64 yh, .int .i64 ya, .int .i64 yb] 37)) (.cells #[.int .i64 zn, .int .i64 zs, .int .i64 zh, .int .i64 za, .int .i64 zb] 37)) hb1
  simp only [World.size_alloc] at CX1 CY1 CZ1
  obtain ⟨lX1, c0X1, c1X1, c2X1, c3X1, c4X1⟩ := id CX1
  obtain ⟨lY1, c0Y1, c1Y1, c2Y1, c3Y1, c4Y1⟩ := id CY1
  go_wp2_with (first | (go_at_call 11; refine (num_any _ _).mono ?_; rintro e w' ⟨rfl, rfl⟩) | (go_at_call 12; refine (live_any _).mono ?_; rintro e wL ⟨rfl, hbL⟩))
  clear lX1 c0X1 c1X1 c2X1 c3X1 c4X1 lY1 c0Y1 c1Y1 c2Y1 c3Y1 c4Y1
  refine (K2.out _).mono ?_
  rintro e w2 ⟨rfl, hb2⟩
  have CX2 := (CX1.up (.cells #[.int .i64 pn, .int .i64 ps, .int .i64 ph, .int .i64 pa, .int .i64 pb] 37)).keep hb2
  have CY2 := (CY1.up (.cells #[.int .i64 pn, .int .i64 ps, .int .i64 ph, .int .i64 pa, .int .i64 pb] 37)).keep hb2
  have CZ2 := (CZ1.up (.cells #[.int .i64 pn, .int .i64 ps, .int .i64 ph, .int .i64 pa, .int .i64 pb] 37)).keep hb2
  have CP2 := (Cel.new w1 pn ps ph pa pb 37).keep hb2
  have B2 := andThen (andAlloc B1 (.cells #[.int .i64 pn, .int .i64 ps, .int .i64 ph, .int .i64 pa, .int .i64 pb] 37)) hb2
  clear hb2 B1 CX1 CY1 CZ1
  obtain ⟨lP2, c0P2, c1P2, c2P2, c3P2, c4P2⟩ := id CP2
  obtain ⟨lX2, c0X2, c1X2, c2X2, c3X2, c4X2⟩ := id CX2
  go_wp2_with (first | (go_at_call 11; refine (num_any _ _).mono ?_; rintro e w' ⟨rfl, rfl⟩) | (go_at_call 12; refine (live_any _).mono ?_; rintro e wL ⟨rfl, hbL⟩))
  clear lP2 c0P2 c1P2 c2P2 c3P2 c4P2 lX2 c0X2 c1X2 c2X2 c3X2 c4X2
  refine (K3.out _).mono ?_
  rintro e w3 ⟨rfl, hb3⟩
  have CX3 := (CX2.up (.cells #[.int .i64 pn, .int .i64 ps, .int .i64 ph, .int .i64 pa, .int .i64 pb] 37)).keep hb3
  have CY3 := (CY2.up (.cells #[.int .i64 pn, .int .i64 ps, .int .i64 ph, .int .i64 pa, .int .i64 pb] 37)).keep hb3
  have CZ3 := (CZ2.up (.cells #[.int .i64 pn, .int .i64 ps, .int .i64 ph, .int .i64 pa, .int .i64 pb] 37)).keep hb3
  have CP3 := (CP2.up (.cells #[.int .i64 pn, .int .i64 ps, .int .i64 ph, .int .i64 pa, .int .i64 pb] 37)).keep hb3
  have CP23 := (Cel.new w2 pn ps ph pa pb 37).keep hb3
  have B3 := andThen (andAlloc B2 (.cells #[.int .i64 pn, .int .i64 ps, .int .i64 ph, .int .i64 pa, .int .i64 pb] 37)) hb3
  clear hb3 B2 CX2 CY2 CZ2 CP2
  obtain ⟨lX3, c0X3, c1X3, c2X3, c3X3, c4X3⟩ := id CX3
  go_wp2_with (first | (go_at_call 11; refine (num_any _ _).mono ?_; rintro e w' ⟨rfl, rfl⟩) | (go_at_call 12; refine (live_any _).mono ?_; rintro e wL ⟨rfl, hbL⟩))
  clear lX3 c0X3 c1X3 c2X3 c3X3 c4X3
  refine (K4.out _).mono ?_
  rintro e w4 ⟨rfl, hb4⟩
  have CX4 := (CX3.up (.cells #[.int .i64 qn, .int .i64 qs, .int .i64 qh, .int .i64 qa, .int .i64 qb] 37)).keep hb4
  have CY4 := (CY3.up (.cells #[.int .i64 qn, .int .i64 qs, .int .i64 qh, .int .i64 qa, .int .i64 qb] 37)).keep hb4
  have CZ4 := (CZ3.up (.cells #[.int .i64 qn, .int .i64 qs, .int .i64 qh, .int .i64 qa, .int .i64 qb] 37)).keep hb4
  have CP4 := (CP3.up (.cells #[.int .i64 qn, .int .i64 qs, .int .i64 qh, .int .i64 qa, .int .i64 qb] 37)).keep hb4
  have CP24 := (CP23.up (.cells #[.int .i64 qn, .int .i64 qs, .int .i64 qh, .int .i64 qa, .int .i64 qb] 37)).keep hb4
  have CQ4 := (Cel.new w3 qn qs qh qa qb 37).keep hb4
  have B4 := andThen (andAlloc B3 (.cells #[.int .i64 qn, .int .i64 qs, .int .i64 qh, .int .i64 qa, .int .i64 qb] 37)) hb4
  clear hb4 B3 CX3 CY3 CZ3 CP3 CP23
  obtain ⟨lQ4, c0Q4, c1Q4, c2Q4, c3Q4, c4Q4⟩ := id CQ4
  obtain ⟨lX4, c0X4, c1X4, c2X4, c3X4, c4X4⟩ := id CX4
  go_wp2_with (first | (go_at_call 11; refine (num_any _ _).mono ?_; rintro e w' ⟨rfl, rfl⟩) | (go_at_call 12; refine (live_any _).mono ?_; rintro e wL ⟨rfl, hbL⟩))
  clear lQ4 c0Q4 c1Q4 c2Q4 c3Q4 c4Q4 lX4 c0X4 c1X4 c2X4 c3X4 c4X4
  refine (K5.out _).mono ?_
  rintro e w5 ⟨rfl, hb5⟩
  have CX5 := (CX4.up (.cells #[.int .i64 qn, .int .i64 qs, .int .i64 qh, .int .i64 qa, .int .i64 qb] 37)).keep hb5
  have CY5 := (CY4.up (.cells #[.int .i64 qn, .int .i64 qs, .int .i64 qh, .int .i64 qa, .int .i64 qb] 37)).keep hb5
  have CZ5 := (CZ4.up (.cells #[.int .i64 qn, .int .i64 qs, .int .i64 qh, .int .i64 qa, .int .i64 qb] 37)).keep hb5
  have CP5 := (CP4.up (.cells #[.int .i64 qn, .int .i64 qs, .int .i64 qh, .int .i64 qa, .int .i64 qb] 37)).keep hb5
  have CP25 := (CP24.up (.cells #[.int .i64 qn, .int .i64 qs, .int .i64 qh, .int .i64 qa, .int .i64 qb] 37)).keep hb5
  have CQ5 := (CQ4.up (.cells #[.int .i64 qn, .int .i64 qs, .int .i64 qh, .int .i64 qa, .int .i64 qb] 37)).keep hb5
  have CQ25 := (Cel.new w4 qn qs qh qa qb 37).keep hb5
  have B5 := andThen (andAlloc B4 (.cells #[.int .i64 qn, .int .i64 qs, .int .i64 qh, .int .i64 qa, .int .i64 qb] 37)) hb5
  clear hb5 B4 CX4 CY4 CZ4 CP4 CP24 CQ4
  obtain ⟨lX5, c0X5, c1X5, c2X5, c3X5, c4X5⟩ := id CX5
  go_wp2_with (first | (go_at_call 11; refine (num_any _ _).mono ?_; rintro e w' ⟨rfl, rfl⟩) | (go_at_call 12; refine (live_any _).mono ?_; rintro e wL ⟨rfl, hbL⟩))
  clear lX5 c0X5 c1X5 c2X5 c3X5 c4X5
  refine (K6.out _).mono ?_
  rintro e w6 ⟨rfl, hb6⟩
  have CX6 := (CX5.up (.cells #[.int .i64 tn, .int .i64 ts, .int .i64 th, .int .i64 ta, .int .i64 tb] 37)).keep hb6
  have CY6 := (CY5.up (.cells #[.int .i64 tn, .int .i64 ts, .int .i64 th, .int .i64 ta, .int .i64 tb] 37)).keep hb6
  have CZ6 := (CZ5.up (.cells #[.int .i64 tn, .int .i64 ts, .int .i64 th, .int .i64 ta, .int .i64 tb] 37)).keep hb6
  have CP6 := (CP5.up (.cells #[.int .i64 tn, .int .i64 ts, .int .i64 th, .int .i64 ta, .int .i64 tb] 37)).keep hb6
  have CP26 := (CP25.up (.cells #[.int .i64 tn, .int .i64 ts, .int .i64 th, .int .i64 ta, .int .i64 tb] 37)).keep hb6
  have CQ6 := (CQ5.up (.cells #[.int .i64 tn, .int .i64 ts, .int .i64 th, .int .i64 ta, .int .i64 tb] 37)).keep hb6
  have CQ26 := (CQ25.up (.cells #[.int .i64 tn, .int .i64 ts, .int .i64 th, .int .i64 ta, .int .i64 tb] 37)).keep hb6
  have CT6 := (Cel.new w5 tn ts th ta tb 37).keep hb6
  have B6 := andThen (andAlloc B5 (.cells #[.int .i64 tn, .int .i64 ts, .int .i64 th, .int .i64 ta, .int .i64 tb] 37)) hb6
  clear hb6 B5 CX5 CY5 CZ5 CP5 CP25 CQ5 CQ25
  obtain ⟨lX6, c0X6, c1X6, c2X6, c3X6, c4X6⟩ := id CX6
  go_wp2_with (first | (go_at_call 11; refine (num_any _ _).mono ?_; rintro e w' ⟨rfl, rfl⟩) | (go_at_call 12; refine (live_any _).mono ?_; rintro e wL ⟨rfl, hbL⟩))
  clear lX6 c0X6 c1X6 c2X6 c3X6 c4X6
  refine (K7.out _).mono ?_
  rintro e w7 ⟨rfl, hb7⟩
  have CX7 := (CX6.up (.cells #[.int .i64 on, .int .i64 os, .int .i64 oh, .int .i64 oa, .int .i64 ob] 37)).keep hb7
  have CY7 := (CY6.up (.cells #[.int .i64 on, .int .i64 os, .int .i64 oh, .int .i64 oa, .int .i64 ob] 37)).keep hb7
  have CZ7 := (CZ6.up (.cells #[.int .i64 on, .int .i64 os, .int .i64 oh, .int .i64 oa, .int .i64 ob] 37)).keep hb7
  have CP7 := (CP6.up (.cells #[.int .i64 on, .int .i64 os, .int .i64 oh, .int .i64 oa, .int .i64 ob] 37)).keep hb7
  have CP27 := (CP26.up (.cells #[.int .i64 on, .int .i64 os, .int .i64 oh, .int .i64 oa, .int .i64 ob] 37)).keep hb7
  have CQ7 := (CQ6.up (.cells #[.int .i64 on, .int .i64 os, .int .i64 oh, .int .i64 oa, .int .i64 ob] 37)).keep hb7
  have CQ27 := (CQ26.up (.cells #[.int .i64 on, .int .i64 os, .int .i64 oh, .int .i64 oa, .int .i64 ob] 37)).keep hb7
  have CT7 := (CT6.up (.cells #[.int .i64 on, .int .i64 os, .int .i64 oh, .int .i64 oa, .int .i64 ob] 37)).keep hb7
  have CO7 := (Cel.new w6 on os oh oa ob 37).keep hb7
  have B7 := andThen (andAlloc B6 (.cells #[.int .i64 on, .int .i64 os, .int .i64 oh, .int .i64 oa, .int .i64 ob] 37)) hb7
  clear hb7 B6 CX6 CY6 CZ6 CP6 CP26 CQ6 CQ26 CT6
  obtain ⟨lO7, c0O7, c1O7, c2O7, c3O7, c4O7⟩ := id CO7
  obtain ⟨lY7, c0Y7, c1Y7, c2Y7, c3Y7, c4Y7⟩ := id CY7
  obtain ⟨lZ7, c0Z7, c1Z7, c2Z7, c3Z7, c4Z7⟩ := id CZ7
  go_wp2_with (first | (go_at_call 11; refine (num_any _ _).mono ?_; rintro e w' ⟨rfl, rfl⟩) | (go_at_call 12; refine (live_any _).mono ?_; rintro e wL ⟨rfl, hbL⟩))
  clear lO7 c0O7 c1O7 c2O7 c3O7 c4O7 lY7 c0Y7 c1Y7 c2Y7 c3Y7 c4Y7 lZ7 c0Z7 c1Z7 c2Z7 c3Z7 c4Z7
  refine (K8.out _).mono ?_
  rintro e w8 ⟨rfl, hb8⟩
  have CX8 := (CX7.up (.cells #[.int .i64 on, .int .i64 os, .int .i64 oh, .int .i64 oa, .int .i64 ob] 37)).keep hb8
  have CY8 := (CY7.up (.cells #[.int .i64 on, .int .i64 os, .int .i64 oh, .int .i64 oa, .int .i64 ob] 37)).keep hb8
  have CZ8 := (CZ7.up (.cells #[.int .i64 on, .int .i64 os, .int .i64 oh, .int .i64 oa, .int .i64 ob] 37)).keep hb8
  have CP8 := (CP7.up (.cells #[.int .i64 on, .int .i64 os, .int .i64 oh, .int .i64 oa, .int .i64 ob] 37)).keep hb8
  have CP28 := (CP27.up (.cells #[.int .i64 on, .int .i64 os, .int .i64 oh, .int .i64 oa, .int .i64 ob] 37)).keep hb8
  have CQ8 := (CQ7.up (.cells #[.int .i64 on, .int .i64 os, .int .i64 oh, .int .i64 oa, .int .i64 ob] 37)).keep hb8
  have CQ28 := (CQ27.up (.cells #[.int .i64 on, .int .i64 os, .int .i64 oh, .int .i64 oa, .int .i64 ob] 37)).keep hb8
  have CT8 := (CT7.up (.cells #[.int .i64 on, .int .i64 os, .int .i64 oh, .int .i64 oa, .int .i64 ob] 37)).keep hb8
  have CO8 := (CO7.up (.cells #[.int .i64 on, .int .i64 os, .int .i64 oh, .int .i64 oa, .int .i64 ob] 37)).keep hb8
  have CO28 := (Cel.new w7 on os oh oa ob 37).keep hb8
  have B8 := andThen (andAlloc B7 (.cells #[.int .i64 on, .int .i64 os, .int .i64 oh, .int .i64 oa, .int .i64 ob] 37)) hb8
  clear hb8 B7 CX7 CY7 CZ7 CP7 CP27 CQ7 CQ27 CT7 CO7
  obtain ⟨lX8, c0X8, c1X8, c2X8, c3X8, c4X8⟩ := id CX8
  obtain ⟨lY8, c0Y8, c1Y8, c2Y8, c3Y8, c4Y8⟩ := id CY8
  obtain ⟨lZ8, c0Z8, c1Z8, c2Z8, c3Z8, c4Z8⟩ := id CZ8
  obtain ⟨lP8, c0P8, c1P8, c2P8, c3P8, c4P8⟩ := id CP8
  go_wp2_with (first | (go_at_call 11; refine (num_any _ _).mono ?_; rintro e w' ⟨rfl, rfl⟩) | (go_at_call 12; refine (live_any _).mono ?_; rintro e wL ⟨rfl, hbL⟩))
  all_goals try (go_ret; exact ⟨rfl, andThen (andAlloc B8 (.cells #[.int .i64 un, .int .i64 us, .int .i64 uh, .int .i64 ua, .int .i64 ub] 37)) hbL⟩)
  clear lX8 c0X8 c1X8 c2X8 c3X8 c4X8 lY8 c0Y8 c1Y8 c2Y8 c3Y8 c4Y8 lZ8 c0Z8 c1Z8 c2Z8 c3Z8 c4Z8 lP8 c0P8 c1P8 c2P8 c3P8 c4P8
  refine (K9.out _).mono ?_
  rintro e w9 ⟨rfl, hb9⟩
  have CX9 := (CX8.up (.cells #[.int .i64 un, .int .i64 us, .int .i64 uh, .int .i64 ua, .int .i64 ub] 37)).keep hb9
  have CY9 := (CY8.up (.cells #[.int .i64 un, .int .i64 us, .int .i64 uh, .int .i64 ua, .int .i64 ub] 37)).keep hb9
  have CZ9 := (CZ8.up (.cells #[.int .i64 un, .int .i64 us, .int .i64 uh, .int .i64 ua, .int .i64 ub] 37)).keep hb9
  have CP9 := (CP8.up (.cells #[.int .i64 un, .int .i64 us, .int .i64 uh, .int .i64 ua, .int .i64 ub] 37)).keep hb9
  have CP29 := (CP28.up (.cells #[.int .i64 un, .int .i64 us, .int .i64 uh, .int .i64 ua, .int .i64 ub] 37)).keep hb9
  have CQ9 := (CQ8.up (.cells #[.int .i64 un, .int .i64 us, .int .i64 uh, .int .i64 ua, .int .i64 ub] 37)).keep hb9
  have CQ29 := (CQ28.up (.cells #[.int .i64 un, .int .i64 us, .int .i64 uh, .int .i64 ua, .int .i64 ub] 37)).keep hb9
  have CT9 := (CT8.up (.cells #[.int .i64 un, .int .i64 us, .int .i64 uh, .int .i64 ua, .int .i64 ub] 37)).keep hb9
  have CO9 := (CO8.up (.cells #[.int .i64 un, .int .i64 us, .int .i64 uh, .int .i64 ua, .int .i64 ub] 37)).keep hb9
  have CO29 := (CO28.up (.cells #[.int .i64 un, .int .i64 us, .int .i64 uh, .int .i64 ua, .int .i64 ub] 37)).keep hb9
  have CU9 := (Cel.new w8 un us uh ua ub 37).keep hb9
  have B9 := andThen (andAlloc B8 (.cells #[.int .i64 un, .int .i64 us, .int .i64 uh, .int .i64 ua, .int .i64 ub] 37)) hb9
  clear hb9 B8 CX8 CY8 CZ8 CP8 CP28 CQ8 CQ28 CT8 CO8 CO28
  obtain ⟨lX9, c0X9, c1X9, c2X9, c3X9, c4X9⟩ := id CX9
  obtain ⟨lU9, c0U9, c1U9, c2U9, c3U9, c4U9⟩ := id CU9
  go_wp2_with (first | (go_at_call 11; refine (num_any _ _).mono ?_; rintro e w' ⟨rfl, rfl⟩) | (go_at_call 12; refine (live_any _).mono ?_; rintro e wL ⟨rfl, hbL⟩))
  clear lX9 c0X9 c1X9 c2X9 c3X9 c4X9 lU9 c0U9 c1U9 c2U9 c3U9 c4U9
  refine (KA.out _).mono ?_
  rintro e w10 ⟨rfl, hb10⟩
  have CX10 := (CX9.up (.cells #[.int .i64 vn, .int .i64 vs, .int .i64 vh, .int .i64 va, .int .i64 vb] 37)).keep hb10
  have CY10 := (CY9.up (.cells #[.int .i64 vn, .int .i64 vs, .int .i64 vh, .int .i64 va, .int .i64 vb] 37)).keep hb10
  have CZ10 := (CZ9.up (.cells #[.int .i64 vn, .int .i64 vs, .int .i64 vh, .int .i64 va, .int .i64 vb] 37)).keep hb10
  have CP10 := (CP9.up (.cells #[.int .i64 vn, .int .i64 vs, .int .i64 vh, .int .i64 va, .int .i64 vb] 37)).keep hb10
  have CP210 := (CP29.up (.cells #[.int .i64 vn, .int .i64 vs, .int .i64 vh, .int .i64 va, .int .i64 vb] 37)).keep hb10
  have CQ10 := (CQ9.up (.cells #[.int .i64 vn, .int .i64 vs, .int .i64 vh, .int .i64 va, .int .i64 vb] 37)).keep hb10
  have CQ210 := (CQ29.up (.cells #[.int .i64 vn, .int .i64 vs, .int .i64 vh, .int .i64 va, .int .i64 vb] 37)).keep hb10
  have CT10 := (CT9.up (.cells #[.int .i64 vn, .int .i64 vs, .int .i64 vh, .int .i64 va, .int .i64 vb] 37)).keep hb10
  have CO10 := (CO9.up (.cells #[.int .i64 vn, .int .i64 vs, .int .i64 vh, .int .i64 va, .int .i64 vb] 37)).keep hb10
  have CO210 := (CO29.up (.cells #[.int .i64 vn, .int .i64 vs, .int .i64 vh, .int .i64 va, .int .i64 vb] 37)).keep hb10
  have CU10 := (CU9.up (.cells #[.int .i64 vn, .int .i64 vs, .int .i64 vh, .int .i64 va, .int .i64 vb] 37)).keep hb10
  have CV10 := (Cel.new w9 vn vs vh va vb 37).keep hb10
  have B10 := andThen (andAlloc B9 (.cells #[.int .i64 vn, .int .i64 vs, .int .i64 vh, .int .i64 va, .int .i64 vb] 37)) hb10
  clear hb10 B9 CX9 CY9 CZ9 CP9 CP29 CQ9 CQ29 CT9 CO9 CO29 CU9
  obtain ⟨lV10, c0V10, c1V10, c2V10, c3V10, c4V10⟩ := id CV10
  go_wp2_with (first | (go_at_call 11; refine (num_any _ _).mono ?_; rintro e w' ⟨rfl, rfl⟩) | (go_at_call 12; refine (live_any _).mono ?_; rintro e wL ⟨rfl, hbL⟩))
  all_goals first | (go_ret; exact ⟨rfl, andThen (andAlloc B10 (.cells #[.int .i64 rn, .int .i64 rs, .int .i64 rh, .int .i64 ra, .int .i64 rb] 37)) hbL⟩) | (go_ret; exact ⟨rfl, andAlloc B10 (.cells #[.int .i64 rn, .int .i64 rs, .int .i64 rh, .int .i64 ra, .int .i64 rb] 37)⟩) | exact absurd (HQ.out (by assumption) (by assumption) (by assumption) (by assumption) (by assumption)) (by assumption)

end Go.Proofs.Ytdjpfhmhcocfeaa.Gl
