import Derived.Test.YtmcekdjhkjhcdaaGreatDoorNodeK
import Derived.Deep.RegionHeld3
/- The contract of right: is it a node? (printed by gen_nodert.py) Conditions: those that each theorem names. -/
namespace Go.Proofs.YtmcekdjhkjhcdaaGreatDoor.No
open Go.ChangeShapes Go.WideShapes Go.ChangeAt Go.RowKit
open Me Np
set_option linter.unusedVariables false
set_option linter.unusedSimpArgs false

/-- A whole node's load, closed to the walk. -/
@[irreducible] def ldN (a : Addr) : Sem Value := loadVar 36 a
theorem ldN_eq (a : Addr) : loadVar 36 a = ldN a := by unfold ldN; rfl
theorem run_ldN {w : World} {b o : Nat} {n : Nd} (h : NodeAt w b o n) : (ldN ⟨b, o, none⟩).run Tryz.prog w = .ok (.agg (nc n)) w := by
  rw [← ldN_eq]
  exact run_loadNode w b o n h
@[irreducible] def eqN (x y : Value) : Sem Value := binOp .eql 36 x y
theorem eqN_eq (x y : Value) : binOp .eql 36 x y = eqN x y := by unfold eqN; rfl
theorem run_eqN (a b : Nd) (w : World) : (eqN (.agg (nc a)) (.agg (nc b))).run Tryz.prog w = .ok (.bool (eqB a b)) w := by
  rw [← eqN_eq]
  exact eqB_eq a b w
@[irreducible] def bldN (xs : Array (Nat × Value)) : Sem Value := Instr.build 36 xs
theorem bldN_eq (xs : Array (Nat × Value)) : Instr.build 36 xs = bldN xs := by unfold bldN; rfl
theorem run_bldN (k : Int) (w : World) : (bldN #[(0, .int .i64 k)]).run Tryz.prog w = .ok (.agg (nc (nz k))) w := by
  rw [← bldN_eq]
  exact run_build w 36 #[(0, .int .i64 k)] (nc (nz k)) (by kernel_rfl)
theorem yields_load {P : Program} {ops : Array Oper} {S : World → Prop} {o : Oper} {v : Value} {a : Act} (hw : Region.wanted o (yielded ops a.tmps) = true) (t : TypeId) (x : Operand) (ho : o.op = .load t x) (p : Addr) (hx : a.eval x = .pointer (some p))
    (h : ∀ w, S w → (loadVar t p).run P w = .ok v w) : YieldsIf P ops S o v a := by
  refine .inl ⟨hw, fun w hS => ?_⟩
  unfold execOp
  simp only [ho, hx, Instr.loadAt, Instr.sureAddr, Sem.run_bind, Sem.run_pure, Result.andThen_ok, h w hS]
theorem take_lit {P : Program} {md : Region.Mode} {ops : Array Oper} {Q : Exit → Act → World → Prop} {S : World → Prop} {i : Nat} {v : Value} {fuel : Nat} {listed : Array Bool} {a : Act} {w : World} (hi : (ops[i]?).isSome = true)
    (hs : Region.noSelect ops = true) (hf : Region.free md ops listed i = true) (hr : (Region.ready md ops listed).contains i = true) (hQ : ∀ (d : Tmp) c a w, Q (.panic c) (a.put (some d) v) w → Q (.panic c) a w) (hS : S w)
    (h : ∀ oi, ops[i]? = some oi → YieldsIf P ops S oi v a ∧ wpAnyH P md ops Q S fuel (listed.setIfInBounds i true) (a.put oi.dst v) w) : wpAnyH P md ops Q S (fuel + 1) listed a w := by
  obtain ⟨oi, ho⟩ := Option.isSome_iff_exists.1 hi
  obtain ⟨h1, h2⟩ := h oi ho
  refine wpAnyH_take ho hs hf hr (fun c a w => ?_) h1 hS h2
  cases oi.dst with
  | none => exact fun h => h
  | some d => exact hQ d c a w
theorem run_loadVar_one {P : Program} {w : World} {t : TypeId} {p : Addr} {v : Value} (ht : (isAgg t).run P w = .ok false w) (hc : w.cell? p = some v) : (loadVar t p).run P w = .ok v w := by
  simp [loadVar, Sem.run_bind, ht, run_load, hc]
attribute [local go_sem ↓] ldN_eq eqN_eq bldN_eq
/-- What holds behind each operation of the last statement. -/
def SR (n : Nd) (w : World) (gf : Nat) (v : Value) (w' : World) : Prop :=
  w'.cell? ⟨w.heap.size, 0, none⟩ = some (.int .i64 n.kind) ∧ w'.cell? ⟨w.heap.size + 1, 2, none⟩ = some (.func (.func gf) #[] #[]) ∧ w'.cell? ⟨w.heap.size + 1, 3, none⟩ = some v ∧
  (ldN ⟨w.heap.size, 0, none⟩).run Tryz.prog w' = .ok (.agg (nc n)) w' ∧ NodeAt w' w.heap.size 0 n ∧ Below w.heap.size w w'
theorem SR.keep {n : Nd} {w : World} {gf : Nat} {v : Value} {W w5 : World} (hb : Below W.heap.size W w5) (h : SR n w gf v W) : SR n w gf v w5 := by
  obtain ⟨h0, h1, h2, h3, h4, h5⟩ := h
  have hn := h4.below hb h4.lt
  refine ⟨?_, ?_, ?_, run_ldN hn, hn, andThen h5 hb⟩
  · rw [hb.cell (block_lt_of_cell h0)]; exact h0
  · rw [hb.cell (block_lt_of_cell h1)]; exact h1
  · rw [hb.cell (block_lt_of_cell h2)]; exact h2
theorem SR.drew {n : Nd} {w : World} {gf : Nat} {v : Value} {W : World} (h : SR n w gf v W) : SR n w gf v W.drew := by
  obtain ⟨h0, h1, h2, h3, h4, h5⟩ := h
  have hn : NodeAt W.drew w.heap.size 0 n := NodeAt.drewN h4 1
  exact ⟨h0, h1, h2, run_ldN hn, hn, below_drewN h5 1⟩

set_option maxHeartbeats 1000000 in
set_option maxRecDepth 100000 in
theorem right_no (n : Nd) (tb : Nat) (w : World) (hk0 : 1 ≤ n.kind) (hk1 : n.kind ≤ 17) (s0 : ByteArray) (o0 : Bool) (gf rf : Nat) (r : Nd)
    (c0 : w.cell? ⟨tb, n.kind.toNat * 4, none⟩ = some (.string s0)) (c1 : w.cell? ⟨tb, n.kind.toNat * 4 + 1, none⟩ = some (.bool o0)) (c2 : w.cell? ⟨tb, n.kind.toNat * 4 + 2, none⟩ = some (.func (.func gf) #[] #[])) (c3 : w.cell? ⟨tb, n.kind.toNat * 4 + 3, none⟩ = some (.func (.func rf) #[] #[]))
    (fg : ∀ (xs : Array Value) (w : World), (callFunc gf xs).run Tryz.prog w = .ok (.enter gf xs) w) (fr : ∀ (xs : Array Value) (w : World), (callFunc rf xs).run Tryz.prog w = .ok (.enter rf xs) w)
    (hg : ∀ w', Calls Tryz.prog gf #[.agg (nc n)] w' fun e w'' => e = .returned (.bool false) ∧ Below w'.heap.size w' w'')
    (hr : ∀ w', Below w.heap.size w w' → Calls Tryz.prog rf #[.agg (nc n)] w' fun e w'' => e = .returned (.agg (nc r)) ∧ Below w'.heap.size w' w'') :
    Calls Tryz.prog 21 #[.agg (nc n), .pointer (some ⟨tb, 0, none⟩)] w fun e w' => e = .returned (.bool (false && eqB r (nz n.kind))) ∧ Below w.heap.size w w' := by
  have htb := block_lt_of_cell c0
  simp only at htb
  have hw1 : winB n.kind 1 17 = true := by simp [winB, hk0, hk1]
  have HW := Lib.hid hw1
  have HG := Lib.hid hg
  have HR := Lib.hid hr
  clear hw1 hg hr
  have hk2 : 0 ≤ n.kind := by omega
  have hk3 : n.kind < 18 := by omega
  have hz := World.new_ne w _ c0
  simp only at hz
  go_enter Tryz.func21, Tryz.ntmps21
  go_wp2_with fail
  refine (within_any _ _ _ _).mono ?_
  rintro e w' ⟨rfl, rfl⟩
  rw [HW.out]
  go_wp2_with fail
  go_region_held3 (fun w' => w'.cell? ⟨w.heap.size, 0, none⟩ = some (.int .i64 n.kind) ∧ w'.cell? ⟨tb, n.kind.toNat * 4, none⟩ = some (.string s0) ∧ w'.cell? ⟨tb, n.kind.toNat * 4 + 1, none⟩ = some (.bool o0) ∧ w'.cell? ⟨tb, n.kind.toNat * 4 + 2, none⟩ = some (.func (.func gf) #[] #[]) ∧ w'.cell? ⟨tb, n.kind.toNat * 4 + 3, none⟩ = some (.func (.func rf) #[] #[])) (first | (simp [*, go_sem]; done) | go_keep) (fail)
  go_wp2_with fail
  clear c1 c2 c3 HW
  have hS0 : SR n w gf (.func (.func rf) #[] #[]) (((w.alloc (.cells (nc n) 36)).alloc (.cells #[.string s0, .bool o0, .func (.func gf) #[] #[], .func (.func rf) #[] #[]] 61)).drew) := by
    have hn : NodeAt (((w.alloc (.cells (nc n) 36)).alloc (.cells #[.string s0, .bool o0, .func (.func gf) #[] #[], .func (.func rf) #[] #[]] 61)).drew) w.heap.size 0 n := NodeAt.drewN (NodeAt.alloc (Blk.node (Blk.new' rfl)) _) 1
    refine ⟨by simp [go_sem], by simp [go_sem], by simp [go_sem], run_ldN hn, hn, ?_⟩
    exact below_drewN (andAlloc (andAlloc (Below.refl _ _) _) _) 1
  generalize ((w.alloc (.cells (nc n) 36)).alloc (.cells #[.string s0, .bool o0, .func (.func gf) #[] #[], .func (.func rf) #[] #[]] 61)).drew = W at hS0 ⊢
  have HS := Lib.hid hS0
  clear hS0
  have hBW : Below w.heap.size w W.drew := (SR.drew HS.out).2.2.2.2.2
  have hbn := run_bldN n.kind
  have hq := run_eqN r (nz n.kind)
  refine wp_region_held_drew (S := SR n w gf (.func (.func rf) #[] #[])) (by kernel_rfl) (SR.drew HS.out) (fun hH => ?_)
  refine take_lit (i := 0) (v := .pointer (some ⟨w.heap.size + 1, 2, none⟩)) (by kernel_rfl) (by kernel_rfl) (by kernel_rfl) (by kernel_rfl) (fun _ _ _ _ h => h) hH (fun oi hoi => ?_)
  simp only [List.getElem?_toArray, List.getElem?_cons_succ, List.getElem?_cons_zero, Option.some.injEq] at hoi
  subst hoi
  refine ⟨(.inl ⟨by rfl, fun _ _ => by kernel_rfl⟩), ?_⟩
  simp only [Act.put, List.setIfInBounds_toArray, List.set_cons_zero, List.set_cons_succ]
  refine take_lit (i := 1) (v := .func (.func gf) #[] #[]) (by kernel_rfl) (by kernel_rfl) (by kernel_rfl) (by kernel_rfl) (fun _ _ _ _ h => h) hH (fun oi hoi => ?_)
  simp only [List.getElem?_toArray, List.getElem?_cons_succ, List.getElem?_cons_zero, Option.some.injEq] at hoi
  subst hoi
  refine ⟨(yields_load (by rfl) _ _ rfl _ rfl (fun w' hw' => run_loadVar_one (by kernel_rfl) hw'.2.1)), ?_⟩
  simp only [Act.put, List.setIfInBounds_toArray, List.set_cons_zero, List.set_cons_succ]
  refine take_lit (i := 2) (v := .agg (nc n)) (by kernel_rfl) (by kernel_rfl) (by kernel_rfl) (by kernel_rfl) (fun _ _ _ _ h => h) hH (fun oi hoi => ?_)
  simp only [List.getElem?_toArray, List.getElem?_cons_succ, List.getElem?_cons_zero, Option.some.injEq] at hoi
  subst hoi
  refine ⟨(yields_load (by rfl) _ _ rfl _ rfl (fun w' hw' => run_loadNode w' _ _ n hw'.2.2.2.2.1)), ?_⟩
  simp only [Act.put, List.setIfInBounds_toArray, List.set_cons_zero, List.set_cons_succ]
  refine wpAnyH_ready (rs := [3]) (by kernel_rfl) (by simp) (AllReadyH.cons rfl (fun K hK => ?_) AllReadyH.nil)
  go_simp
  go_wp2_with fail
  refine (HG.out _).mono ?_
  rintro e w5 ⟨rfl, hb5⟩
  refine hK.out _ _ (SR.keep hb5 hH) (fun hH5 => ?_)
  try simp only [Act.put, List.setIfInBounds_toArray, List.set_cons_zero, List.set_cons_succ]
  refine take_lit (i := 4) (v := .bool false) (by kernel_rfl) (by kernel_rfl) (by kernel_rfl) (by kernel_rfl) (fun _ _ _ _ h => h) hH5 (fun oi hoi => ?_)
  simp only [List.getElem?_toArray, List.getElem?_cons_succ, List.getElem?_cons_zero, Option.some.injEq] at hoi
  subst hoi
  refine ⟨(.inl ⟨by rfl, fun _ _ => by kernel_rfl⟩), ?_⟩
  simp only [Act.put, List.setIfInBounds_toArray, List.set_cons_zero, List.set_cons_succ]
  refine take_lit (i := 5) (v := undef) (by kernel_rfl) (by kernel_rfl) (by kernel_rfl) (by kernel_rfl) (fun _ _ _ _ h => h) hH5 (fun oi hoi => ?_)
  simp only [List.getElem?_toArray, List.getElem?_cons_succ, List.getElem?_cons_zero, Option.some.injEq] at hoi
  subst hoi
  refine ⟨(.inr ⟨by rfl, rfl⟩), ?_⟩
  simp only [Act.put, List.setIfInBounds_toArray, List.set_cons_zero, List.set_cons_succ]
  refine take_lit (i := 6) (v := undef) (by kernel_rfl) (by kernel_rfl) (by kernel_rfl) (by kernel_rfl) (fun _ _ _ _ h => h) hH5 (fun oi hoi => ?_)
  simp only [List.getElem?_toArray, List.getElem?_cons_succ, List.getElem?_cons_zero, Option.some.injEq] at hoi
  subst hoi
  refine ⟨(.inr ⟨by rfl, rfl⟩), ?_⟩
  simp only [Act.put, List.setIfInBounds_toArray, List.set_cons_zero, List.set_cons_succ]
  refine take_lit (i := 7) (v := undef) (by kernel_rfl) (by kernel_rfl) (by kernel_rfl) (by kernel_rfl) (fun _ _ _ _ h => h) hH5 (fun oi hoi => ?_)
  simp only [List.getElem?_toArray, List.getElem?_cons_succ, List.getElem?_cons_zero, Option.some.injEq] at hoi
  subst hoi
  refine ⟨(.inr ⟨by rfl, rfl⟩), ?_⟩
  simp only [Act.put, List.setIfInBounds_toArray, List.set_cons_zero, List.set_cons_succ]
  refine take_lit (i := 8) (v := undef) (by kernel_rfl) (by kernel_rfl) (by kernel_rfl) (by kernel_rfl) (fun _ _ _ _ h => h) hH5 (fun oi hoi => ?_)
  simp only [List.getElem?_toArray, List.getElem?_cons_succ, List.getElem?_cons_zero, Option.some.injEq] at hoi
  subst hoi
  refine ⟨(.inr ⟨by rfl, rfl⟩), ?_⟩
  simp only [Act.put, List.setIfInBounds_toArray, List.set_cons_zero, List.set_cons_succ]
  refine take_lit (i := 9) (v := undef) (by kernel_rfl) (by kernel_rfl) (by kernel_rfl) (by kernel_rfl) (fun _ _ _ _ h => h) hH5 (fun oi hoi => ?_)
  simp only [List.getElem?_toArray, List.getElem?_cons_succ, List.getElem?_cons_zero, Option.some.injEq] at hoi
  subst hoi
  refine ⟨(.inr ⟨by rfl, rfl⟩), ?_⟩
  simp only [Act.put, List.setIfInBounds_toArray, List.set_cons_zero, List.set_cons_succ]
  refine take_lit (i := 10) (v := undef) (by kernel_rfl) (by kernel_rfl) (by kernel_rfl) (by kernel_rfl) (fun _ _ _ _ h => h) hH5 (fun oi hoi => ?_)
  simp only [List.getElem?_toArray, List.getElem?_cons_succ, List.getElem?_cons_zero, Option.some.injEq] at hoi
  subst hoi
  refine ⟨(.inr ⟨by rfl, rfl⟩), ?_⟩
  simp only [Act.put, List.setIfInBounds_toArray, List.set_cons_zero, List.set_cons_succ]
  refine take_lit (i := 11) (v := undef) (by kernel_rfl) (by kernel_rfl) (by kernel_rfl) (by kernel_rfl) (fun _ _ _ _ h => h) hH5 (fun oi hoi => ?_)
  simp only [List.getElem?_toArray, List.getElem?_cons_succ, List.getElem?_cons_zero, Option.some.injEq] at hoi
  subst hoi
  refine ⟨(.inr ⟨by rfl, rfl⟩), ?_⟩
  simp only [Act.put, List.setIfInBounds_toArray, List.set_cons_zero, List.set_cons_succ]
  refine take_lit (i := 12) (v := undef) (by kernel_rfl) (by kernel_rfl) (by kernel_rfl) (by kernel_rfl) (fun _ _ _ _ h => h) hH5 (fun oi hoi => ?_)
  simp only [List.getElem?_toArray, List.getElem?_cons_succ, List.getElem?_cons_zero, Option.some.injEq] at hoi
  subst hoi
  refine ⟨(.inr ⟨by rfl, rfl⟩), ?_⟩
  simp only [Act.put, List.setIfInBounds_toArray, List.set_cons_zero, List.set_cons_succ]
  refine take_lit (i := 13) (v := .bool false) (by kernel_rfl) (by kernel_rfl) (by kernel_rfl) (by kernel_rfl) (fun _ _ _ _ h => h) hH5 (fun oi hoi => ?_)
  simp only [List.getElem?_toArray, List.getElem?_cons_succ, List.getElem?_cons_zero, Option.some.injEq] at hoi
  subst hoi
  refine ⟨(.inl ⟨by rfl, fun _ _ => by kernel_rfl⟩), ?_⟩
  simp only [Act.put, List.setIfInBounds_toArray, List.set_cons_zero, List.set_cons_succ]
  refine take_lit (i := 14) (v := .bool false) (by kernel_rfl) (by kernel_rfl) (by kernel_rfl) (by kernel_rfl) (fun _ _ _ _ h => h) hH5 (fun oi hoi => ?_)
  simp only [List.getElem?_toArray, List.getElem?_cons_succ, List.getElem?_cons_zero, Option.some.injEq] at hoi
  subst hoi
  refine ⟨(.inl ⟨by rfl, fun _ _ => by kernel_rfl⟩), ?_⟩
  simp only [Act.put, List.setIfInBounds_toArray, List.set_cons_zero, List.set_cons_succ]
  refine wpAnyH_done (by kernel_rfl) ?_ _
  go_wp2_with fail
  go_ret
  exact ⟨ret_bool (by simp), andThen hBW hb5⟩

set_option maxHeartbeats 1000000 in
set_option maxRecDepth 100000 in
theorem right_yes (n : Nd) (tb : Nat) (w : World) (hk0 : 1 ≤ n.kind) (hk1 : n.kind ≤ 17) (s0 : ByteArray) (o0 : Bool) (gf rf : Nat) (r : Nd)
    (c0 : w.cell? ⟨tb, n.kind.toNat * 4, none⟩ = some (.string s0)) (c1 : w.cell? ⟨tb, n.kind.toNat * 4 + 1, none⟩ = some (.bool o0)) (c2 : w.cell? ⟨tb, n.kind.toNat * 4 + 2, none⟩ = some (.func (.func gf) #[] #[])) (c3 : w.cell? ⟨tb, n.kind.toNat * 4 + 3, none⟩ = some (.func (.func rf) #[] #[]))
    (fg : ∀ (xs : Array Value) (w : World), (callFunc gf xs).run Tryz.prog w = .ok (.enter gf xs) w) (fr : ∀ (xs : Array Value) (w : World), (callFunc rf xs).run Tryz.prog w = .ok (.enter rf xs) w)
    (hg : ∀ w', Calls Tryz.prog gf #[.agg (nc n)] w' fun e w'' => e = .returned (.bool true) ∧ Below w'.heap.size w' w'')
    (hr : ∀ w', Below w.heap.size w w' → Calls Tryz.prog rf #[.agg (nc n)] w' fun e w'' => e = .returned (.agg (nc r)) ∧ Below w'.heap.size w' w'') :
    Calls Tryz.prog 21 #[.agg (nc n), .pointer (some ⟨tb, 0, none⟩)] w fun e w' => e = .returned (.bool (true && eqB r (nz n.kind))) ∧ Below w.heap.size w w' := by
  have htb := block_lt_of_cell c0
  simp only at htb
  have hw1 : winB n.kind 1 17 = true := by simp [winB, hk0, hk1]
  have HW := Lib.hid hw1
  have HG := Lib.hid hg
  have HR := Lib.hid hr
  clear hw1 hg hr
  have hk2 : 0 ≤ n.kind := by omega
  have hk3 : n.kind < 18 := by omega
  have hz := World.new_ne w _ c0
  simp only at hz
  go_enter Tryz.func21, Tryz.ntmps21
  go_wp2_with fail
  refine (within_any _ _ _ _).mono ?_
  rintro e w' ⟨rfl, rfl⟩
  rw [HW.out]
  go_wp2_with fail
  go_region_held3 (fun w' => w'.cell? ⟨w.heap.size, 0, none⟩ = some (.int .i64 n.kind) ∧ w'.cell? ⟨tb, n.kind.toNat * 4, none⟩ = some (.string s0) ∧ w'.cell? ⟨tb, n.kind.toNat * 4 + 1, none⟩ = some (.bool o0) ∧ w'.cell? ⟨tb, n.kind.toNat * 4 + 2, none⟩ = some (.func (.func gf) #[] #[]) ∧ w'.cell? ⟨tb, n.kind.toNat * 4 + 3, none⟩ = some (.func (.func rf) #[] #[])) (first | (simp [*, go_sem]; done) | go_keep) (fail)
  go_wp2_with fail
  clear c1 c2 c3 HW
  have hS0 : SR n w gf (.func (.func rf) #[] #[]) (((w.alloc (.cells (nc n) 36)).alloc (.cells #[.string s0, .bool o0, .func (.func gf) #[] #[], .func (.func rf) #[] #[]] 61)).drew) := by
    have hn : NodeAt (((w.alloc (.cells (nc n) 36)).alloc (.cells #[.string s0, .bool o0, .func (.func gf) #[] #[], .func (.func rf) #[] #[]] 61)).drew) w.heap.size 0 n := NodeAt.drewN (NodeAt.alloc (Blk.node (Blk.new' rfl)) _) 1
    refine ⟨by simp [go_sem], by simp [go_sem], by simp [go_sem], run_ldN hn, hn, ?_⟩
    exact below_drewN (andAlloc (andAlloc (Below.refl _ _) _) _) 1
  generalize ((w.alloc (.cells (nc n) 36)).alloc (.cells #[.string s0, .bool o0, .func (.func gf) #[] #[], .func (.func rf) #[] #[]] 61)).drew = W at hS0 ⊢
  have HS := Lib.hid hS0
  clear hS0
  have hBW : Below w.heap.size w W.drew := (SR.drew HS.out).2.2.2.2.2
  have hbn := run_bldN n.kind
  have hq := run_eqN r (nz n.kind)
  go_region_held3 (fun w' => w'.cell? ⟨w.heap.size, 0, none⟩ = some (.int .i64 n.kind) ∧ w'.cell? ⟨w.heap.size + 1, 2, none⟩ = some (.func (.func gf) #[] #[]) ∧ w'.cell? ⟨w.heap.size + 1, 3, none⟩ = some (.func (.func rf) #[] #[]) ∧ (ldN ⟨w.heap.size, 0, none⟩).run Tryz.prog w' = .ok (.agg (nc n)) w' ∧ NodeAt w' w.heap.size 0 n ∧ Below w.heap.size w w') (first | exact SR.drew HS.out | exact SR.keep hb6 (by assumption) | exact SR.keep hb5 (by assumption)) (first | ((with_reducible refine (HG.out _).mono ?_); rintro e w5 ⟨rfl, hb5⟩) | ((with_reducible refine (HR.out _ (andThen hBW hb5)).mono ?_); rintro e w6 ⟨rfl, hb6⟩))
  all_goals go_wp2_with fail
  all_goals (go_ret; exact ⟨ret_bool (by simp), andThen (andThen hBW hb5) hb6⟩)

set_option maxHeartbeats 1000000 in
set_option maxRecDepth 100000 in
theorem right_lno (n : Nd) (tb : Nat) (w : World) (hk0 : 1 ≤ n.kind) (hk1 : n.kind ≤ 17) (s0 : ByteArray) (o0 : Bool) (gf rf : Nat) (q : Nat) (r : Nd)
    (c0 : w.cell? ⟨tb, n.kind.toNat * 4, none⟩ = some (.string s0)) (c1 : w.cell? ⟨tb, n.kind.toNat * 4 + 1, none⟩ = some (.bool o0)) (c2 : w.cell? ⟨tb, n.kind.toNat * 4 + 2, none⟩ = some (.func (.func gf) #[] #[])) (c3 : w.cell? ⟨tb, n.kind.toNat * 4 + 3, none⟩ = some (.func (.func rf) #[] #[.pointer (some ⟨q, 0, none⟩)]))
    (fg : ∀ (xs : Array Value) (w : World), (callFunc gf xs).run Tryz.prog w = .ok (.enter gf xs) w) (fr : ∀ (xs : Array Value) (w : World), (callFunc rf xs).run Tryz.prog w = .ok (.enter rf xs) w)
    (hg : ∀ w', Calls Tryz.prog gf #[.agg (nc n)] w' fun e w'' => e = .returned (.bool false) ∧ Below w'.heap.size w' w'')
    (hr : ∀ w', Below w.heap.size w w' → Calls Tryz.prog rf #[.agg (nc n), .pointer (some ⟨q, 0, none⟩)] w' fun e w'' => e = .returned (.agg (nc r)) ∧ Below w'.heap.size w' w'') :
    Calls Tryz.prog 21 #[.agg (nc n), .pointer (some ⟨tb, 0, none⟩)] w fun e w' => e = .returned (.bool (false && eqB r (nz n.kind))) ∧ Below w.heap.size w w' := by
  have htb := block_lt_of_cell c0
  simp only at htb
  have hw1 : winB n.kind 1 17 = true := by simp [winB, hk0, hk1]
  have HW := Lib.hid hw1
  have HG := Lib.hid hg
  have HR := Lib.hid hr
  clear hw1 hg hr
  have hk2 : 0 ≤ n.kind := by omega
  have hk3 : n.kind < 18 := by omega
  have hz := World.new_ne w _ c0
  simp only at hz
  go_enter Tryz.func21, Tryz.ntmps21
  go_wp2_with fail
  refine (within_any _ _ _ _).mono ?_
  rintro e w' ⟨rfl, rfl⟩
  rw [HW.out]
  go_wp2_with fail
  go_region_held3 (fun w' => w'.cell? ⟨w.heap.size, 0, none⟩ = some (.int .i64 n.kind) ∧ w'.cell? ⟨tb, n.kind.toNat * 4, none⟩ = some (.string s0) ∧ w'.cell? ⟨tb, n.kind.toNat * 4 + 1, none⟩ = some (.bool o0) ∧ w'.cell? ⟨tb, n.kind.toNat * 4 + 2, none⟩ = some (.func (.func gf) #[] #[]) ∧ w'.cell? ⟨tb, n.kind.toNat * 4 + 3, none⟩ = some (.func (.func rf) #[] #[.pointer (some ⟨q, 0, none⟩)])) (first | (simp [*, go_sem]; done) | go_keep) (fail)
  go_wp2_with fail
  clear c1 c2 c3 HW
  have hS0 : SR n w gf (.func (.func rf) #[] #[.pointer (some ⟨q, 0, none⟩)]) (((w.alloc (.cells (nc n) 36)).alloc (.cells #[.string s0, .bool o0, .func (.func gf) #[] #[], .func (.func rf) #[] #[.pointer (some ⟨q, 0, none⟩)]] 61)).drew) := by
    have hn : NodeAt (((w.alloc (.cells (nc n) 36)).alloc (.cells #[.string s0, .bool o0, .func (.func gf) #[] #[], .func (.func rf) #[] #[.pointer (some ⟨q, 0, none⟩)]] 61)).drew) w.heap.size 0 n := NodeAt.drewN (NodeAt.alloc (Blk.node (Blk.new' rfl)) _) 1
    refine ⟨by simp [go_sem], by simp [go_sem], by simp [go_sem], run_ldN hn, hn, ?_⟩
    exact below_drewN (andAlloc (andAlloc (Below.refl _ _) _) _) 1
  generalize ((w.alloc (.cells (nc n) 36)).alloc (.cells #[.string s0, .bool o0, .func (.func gf) #[] #[], .func (.func rf) #[] #[.pointer (some ⟨q, 0, none⟩)]] 61)).drew = W at hS0 ⊢
  have HS := Lib.hid hS0
  clear hS0
  have hBW : Below w.heap.size w W.drew := (SR.drew HS.out).2.2.2.2.2
  have hbn := run_bldN n.kind
  have hq := run_eqN r (nz n.kind)
  refine wp_region_held_drew (S := SR n w gf (.func (.func rf) #[] #[.pointer (some ⟨q, 0, none⟩)])) (by kernel_rfl) (SR.drew HS.out) (fun hH => ?_)
  refine take_lit (i := 0) (v := .pointer (some ⟨w.heap.size + 1, 2, none⟩)) (by kernel_rfl) (by kernel_rfl) (by kernel_rfl) (by kernel_rfl) (fun _ _ _ _ h => h) hH (fun oi hoi => ?_)
  simp only [List.getElem?_toArray, List.getElem?_cons_succ, List.getElem?_cons_zero, Option.some.injEq] at hoi
  subst hoi
  refine ⟨(.inl ⟨by rfl, fun _ _ => by kernel_rfl⟩), ?_⟩
  simp only [Act.put, List.setIfInBounds_toArray, List.set_cons_zero, List.set_cons_succ]
  refine take_lit (i := 1) (v := .func (.func gf) #[] #[]) (by kernel_rfl) (by kernel_rfl) (by kernel_rfl) (by kernel_rfl) (fun _ _ _ _ h => h) hH (fun oi hoi => ?_)
  simp only [List.getElem?_toArray, List.getElem?_cons_succ, List.getElem?_cons_zero, Option.some.injEq] at hoi
  subst hoi
  refine ⟨(yields_load (by rfl) _ _ rfl _ rfl (fun w' hw' => run_loadVar_one (by kernel_rfl) hw'.2.1)), ?_⟩
  simp only [Act.put, List.setIfInBounds_toArray, List.set_cons_zero, List.set_cons_succ]
  refine take_lit (i := 2) (v := .agg (nc n)) (by kernel_rfl) (by kernel_rfl) (by kernel_rfl) (by kernel_rfl) (fun _ _ _ _ h => h) hH (fun oi hoi => ?_)
  simp only [List.getElem?_toArray, List.getElem?_cons_succ, List.getElem?_cons_zero, Option.some.injEq] at hoi
  subst hoi
  refine ⟨(yields_load (by rfl) _ _ rfl _ rfl (fun w' hw' => run_loadNode w' _ _ n hw'.2.2.2.2.1)), ?_⟩
  simp only [Act.put, List.setIfInBounds_toArray, List.set_cons_zero, List.set_cons_succ]
  refine wpAnyH_ready (rs := [3]) (by kernel_rfl) (by simp) (AllReadyH.cons rfl (fun K hK => ?_) AllReadyH.nil)
  go_simp
  go_wp2_with fail
  refine (HG.out _).mono ?_
  rintro e w5 ⟨rfl, hb5⟩
  refine hK.out _ _ (SR.keep hb5 hH) (fun hH5 => ?_)
  try simp only [Act.put, List.setIfInBounds_toArray, List.set_cons_zero, List.set_cons_succ]
  refine take_lit (i := 4) (v := .bool false) (by kernel_rfl) (by kernel_rfl) (by kernel_rfl) (by kernel_rfl) (fun _ _ _ _ h => h) hH5 (fun oi hoi => ?_)
  simp only [List.getElem?_toArray, List.getElem?_cons_succ, List.getElem?_cons_zero, Option.some.injEq] at hoi
  subst hoi
  refine ⟨(.inl ⟨by rfl, fun _ _ => by kernel_rfl⟩), ?_⟩
  simp only [Act.put, List.setIfInBounds_toArray, List.set_cons_zero, List.set_cons_succ]
  refine take_lit (i := 5) (v := undef) (by kernel_rfl) (by kernel_rfl) (by kernel_rfl) (by kernel_rfl) (fun _ _ _ _ h => h) hH5 (fun oi hoi => ?_)
  simp only [List.getElem?_toArray, List.getElem?_cons_succ, List.getElem?_cons_zero, Option.some.injEq] at hoi
  subst hoi
  refine ⟨(.inr ⟨by rfl, rfl⟩), ?_⟩
  simp only [Act.put, List.setIfInBounds_toArray, List.set_cons_zero, List.set_cons_succ]
  refine take_lit (i := 6) (v := undef) (by kernel_rfl) (by kernel_rfl) (by kernel_rfl) (by kernel_rfl) (fun _ _ _ _ h => h) hH5 (fun oi hoi => ?_)
  simp only [List.getElem?_toArray, List.getElem?_cons_succ, List.getElem?_cons_zero, Option.some.injEq] at hoi
  subst hoi
  refine ⟨(.inr ⟨by rfl, rfl⟩), ?_⟩
  simp only [Act.put, List.setIfInBounds_toArray, List.set_cons_zero, List.set_cons_succ]
  refine take_lit (i := 7) (v := undef) (by kernel_rfl) (by kernel_rfl) (by kernel_rfl) (by kernel_rfl) (fun _ _ _ _ h => h) hH5 (fun oi hoi => ?_)
  simp only [List.getElem?_toArray, List.getElem?_cons_succ, List.getElem?_cons_zero, Option.some.injEq] at hoi
  subst hoi
  refine ⟨(.inr ⟨by rfl, rfl⟩), ?_⟩
  simp only [Act.put, List.setIfInBounds_toArray, List.set_cons_zero, List.set_cons_succ]
  refine take_lit (i := 8) (v := undef) (by kernel_rfl) (by kernel_rfl) (by kernel_rfl) (by kernel_rfl) (fun _ _ _ _ h => h) hH5 (fun oi hoi => ?_)
  simp only [List.getElem?_toArray, List.getElem?_cons_succ, List.getElem?_cons_zero, Option.some.injEq] at hoi
  subst hoi
  refine ⟨(.inr ⟨by rfl, rfl⟩), ?_⟩
  simp only [Act.put, List.setIfInBounds_toArray, List.set_cons_zero, List.set_cons_succ]
  refine take_lit (i := 9) (v := undef) (by kernel_rfl) (by kernel_rfl) (by kernel_rfl) (by kernel_rfl) (fun _ _ _ _ h => h) hH5 (fun oi hoi => ?_)
  simp only [List.getElem?_toArray, List.getElem?_cons_succ, List.getElem?_cons_zero, Option.some.injEq] at hoi
  subst hoi
  refine ⟨(.inr ⟨by rfl, rfl⟩), ?_⟩
  simp only [Act.put, List.setIfInBounds_toArray, List.set_cons_zero, List.set_cons_succ]
  refine take_lit (i := 10) (v := undef) (by kernel_rfl) (by kernel_rfl) (by kernel_rfl) (by kernel_rfl) (fun _ _ _ _ h => h) hH5 (fun oi hoi => ?_)
  simp only [List.getElem?_toArray, List.getElem?_cons_succ, List.getElem?_cons_zero, Option.some.injEq] at hoi
  subst hoi
  refine ⟨(.inr ⟨by rfl, rfl⟩), ?_⟩
  simp only [Act.put, List.setIfInBounds_toArray, List.set_cons_zero, List.set_cons_succ]
  refine take_lit (i := 11) (v := undef) (by kernel_rfl) (by kernel_rfl) (by kernel_rfl) (by kernel_rfl) (fun _ _ _ _ h => h) hH5 (fun oi hoi => ?_)
  simp only [List.getElem?_toArray, List.getElem?_cons_succ, List.getElem?_cons_zero, Option.some.injEq] at hoi
  subst hoi
  refine ⟨(.inr ⟨by rfl, rfl⟩), ?_⟩
  simp only [Act.put, List.setIfInBounds_toArray, List.set_cons_zero, List.set_cons_succ]
  refine take_lit (i := 12) (v := undef) (by kernel_rfl) (by kernel_rfl) (by kernel_rfl) (by kernel_rfl) (fun _ _ _ _ h => h) hH5 (fun oi hoi => ?_)
  simp only [List.getElem?_toArray, List.getElem?_cons_succ, List.getElem?_cons_zero, Option.some.injEq] at hoi
  subst hoi
  refine ⟨(.inr ⟨by rfl, rfl⟩), ?_⟩
  simp only [Act.put, List.setIfInBounds_toArray, List.set_cons_zero, List.set_cons_succ]
  refine take_lit (i := 13) (v := .bool false) (by kernel_rfl) (by kernel_rfl) (by kernel_rfl) (by kernel_rfl) (fun _ _ _ _ h => h) hH5 (fun oi hoi => ?_)
  simp only [List.getElem?_toArray, List.getElem?_cons_succ, List.getElem?_cons_zero, Option.some.injEq] at hoi
  subst hoi
  refine ⟨(.inl ⟨by rfl, fun _ _ => by kernel_rfl⟩), ?_⟩
  simp only [Act.put, List.setIfInBounds_toArray, List.set_cons_zero, List.set_cons_succ]
  refine take_lit (i := 14) (v := .bool false) (by kernel_rfl) (by kernel_rfl) (by kernel_rfl) (by kernel_rfl) (fun _ _ _ _ h => h) hH5 (fun oi hoi => ?_)
  simp only [List.getElem?_toArray, List.getElem?_cons_succ, List.getElem?_cons_zero, Option.some.injEq] at hoi
  subst hoi
  refine ⟨(.inl ⟨by rfl, fun _ _ => by kernel_rfl⟩), ?_⟩
  simp only [Act.put, List.setIfInBounds_toArray, List.set_cons_zero, List.set_cons_succ]
  refine wpAnyH_done (by kernel_rfl) ?_ _
  go_wp2_with fail
  go_ret
  exact ⟨ret_bool (by simp), andThen hBW hb5⟩

set_option maxHeartbeats 1000000 in
set_option maxRecDepth 100000 in
theorem right_lyes (n : Nd) (tb : Nat) (w : World) (hk0 : 1 ≤ n.kind) (hk1 : n.kind ≤ 17) (s0 : ByteArray) (o0 : Bool) (gf rf : Nat) (q : Nat) (r : Nd)
    (c0 : w.cell? ⟨tb, n.kind.toNat * 4, none⟩ = some (.string s0)) (c1 : w.cell? ⟨tb, n.kind.toNat * 4 + 1, none⟩ = some (.bool o0)) (c2 : w.cell? ⟨tb, n.kind.toNat * 4 + 2, none⟩ = some (.func (.func gf) #[] #[])) (c3 : w.cell? ⟨tb, n.kind.toNat * 4 + 3, none⟩ = some (.func (.func rf) #[] #[.pointer (some ⟨q, 0, none⟩)]))
    (fg : ∀ (xs : Array Value) (w : World), (callFunc gf xs).run Tryz.prog w = .ok (.enter gf xs) w) (fr : ∀ (xs : Array Value) (w : World), (callFunc rf xs).run Tryz.prog w = .ok (.enter rf xs) w)
    (hg : ∀ w', Calls Tryz.prog gf #[.agg (nc n)] w' fun e w'' => e = .returned (.bool true) ∧ Below w'.heap.size w' w'')
    (hr : ∀ w', Below w.heap.size w w' → Calls Tryz.prog rf #[.agg (nc n), .pointer (some ⟨q, 0, none⟩)] w' fun e w'' => e = .returned (.agg (nc r)) ∧ Below w'.heap.size w' w'') :
    Calls Tryz.prog 21 #[.agg (nc n), .pointer (some ⟨tb, 0, none⟩)] w fun e w' => e = .returned (.bool (true && eqB r (nz n.kind))) ∧ Below w.heap.size w w' := by
  have htb := block_lt_of_cell c0
  simp only at htb
  have hw1 : winB n.kind 1 17 = true := by simp [winB, hk0, hk1]
  have HW := Lib.hid hw1
  have HG := Lib.hid hg
  have HR := Lib.hid hr
  clear hw1 hg hr
  have hk2 : 0 ≤ n.kind := by omega
  have hk3 : n.kind < 18 := by omega
  have hz := World.new_ne w _ c0
  simp only at hz
  go_enter Tryz.func21, Tryz.ntmps21
  go_wp2_with fail
  refine (within_any _ _ _ _).mono ?_
  rintro e w' ⟨rfl, rfl⟩
  rw [HW.out]
  go_wp2_with fail
  go_region_held3 (fun w' => w'.cell? ⟨w.heap.size, 0, none⟩ = some (.int .i64 n.kind) ∧ w'.cell? ⟨tb, n.kind.toNat * 4, none⟩ = some (.string s0) ∧ w'.cell? ⟨tb, n.kind.toNat * 4 + 1, none⟩ = some (.bool o0) ∧ w'.cell? ⟨tb, n.kind.toNat * 4 + 2, none⟩ = some (.func (.func gf) #[] #[]) ∧ w'.cell? ⟨tb, n.kind.toNat * 4 + 3, none⟩ = some (.func (.func rf) #[] #[.pointer (some ⟨q, 0, none⟩)])) (first | (simp [*, go_sem]; done) | go_keep) (fail)
  go_wp2_with fail
  clear c1 c2 c3 HW
  have hS0 : SR n w gf (.func (.func rf) #[] #[.pointer (some ⟨q, 0, none⟩)]) (((w.alloc (.cells (nc n) 36)).alloc (.cells #[.string s0, .bool o0, .func (.func gf) #[] #[], .func (.func rf) #[] #[.pointer (some ⟨q, 0, none⟩)]] 61)).drew) := by
    have hn : NodeAt (((w.alloc (.cells (nc n) 36)).alloc (.cells #[.string s0, .bool o0, .func (.func gf) #[] #[], .func (.func rf) #[] #[.pointer (some ⟨q, 0, none⟩)]] 61)).drew) w.heap.size 0 n := NodeAt.drewN (NodeAt.alloc (Blk.node (Blk.new' rfl)) _) 1
    refine ⟨by simp [go_sem], by simp [go_sem], by simp [go_sem], run_ldN hn, hn, ?_⟩
    exact below_drewN (andAlloc (andAlloc (Below.refl _ _) _) _) 1
  generalize ((w.alloc (.cells (nc n) 36)).alloc (.cells #[.string s0, .bool o0, .func (.func gf) #[] #[], .func (.func rf) #[] #[.pointer (some ⟨q, 0, none⟩)]] 61)).drew = W at hS0 ⊢
  have HS := Lib.hid hS0
  clear hS0
  have hBW : Below w.heap.size w W.drew := (SR.drew HS.out).2.2.2.2.2
  have hbn := run_bldN n.kind
  have hq := run_eqN r (nz n.kind)
  go_region_held3 (fun w' => w'.cell? ⟨w.heap.size, 0, none⟩ = some (.int .i64 n.kind) ∧ w'.cell? ⟨w.heap.size + 1, 2, none⟩ = some (.func (.func gf) #[] #[]) ∧ w'.cell? ⟨w.heap.size + 1, 3, none⟩ = some (.func (.func rf) #[] #[.pointer (some ⟨q, 0, none⟩)]) ∧ (ldN ⟨w.heap.size, 0, none⟩).run Tryz.prog w' = .ok (.agg (nc n)) w' ∧ NodeAt w' w.heap.size 0 n ∧ Below w.heap.size w w') (first | exact SR.drew HS.out | exact SR.keep hb6 (by assumption) | exact SR.keep hb5 (by assumption)) (first | ((with_reducible refine (HG.out _).mono ?_); rintro e w5 ⟨rfl, hb5⟩) | ((with_reducible refine (HR.out _ (andThen hBW hb5)).mono ?_); rintro e w6 ⟨rfl, hb6⟩))
  all_goals go_wp2_with fail
  all_goals (go_ret; exact ⟨ret_bool (by simp), andThen (andThen hBW hb5) hb6⟩)

theorem right_out (n : Nd) (tb : Nat) (w : World) (h : winB n.kind 1 17 = false) :
    Calls Tryz.prog 21 #[.agg (nc n), .pointer (some ⟨tb, 0, none⟩)] w fun e w' => e = .returned (.bool (right n)) ∧ Below w.heap.size w w' := by
  have hr : false = right n := by simp [right, h]
  have HR := Lib.hid hr
  have HW := Lib.hid h
  clear hr h
  go_enter Tryz.func21, Tryz.ntmps21
  go_wp2_with fail
  refine (within_any _ _ _ _).mono ?_
  rintro e w' ⟨rfl, rfl⟩
  rw [HW.out]
  go_wp2_with fail
  go_ret
  exact ⟨ret_bool HR.out, andAlloc (Below.refl _ _) _⟩
theorem right_eq {n : Nd} {k : Nat} {g : Bool} (e : n.kind = (k : Int)) (h1 : 1 ≤ k) (h2 : k ≤ 17) (hg : goodK k n = g) : (g && eqB (restK k n) (nz n.kind)) = right n := by
  have h : winB n.kind 1 17 = true := by simp [winB]; omega
  have hk : n.kind.toNat = k := by omega
  simp [right, h, hk, hg]
theorem cf_nodes_all (xs : Array Value) (w : World) : (callFunc 52 xs).run Tryz.prog w = .ok (.enter 52 xs) w := by kernel_rfl
theorem cf_nodes_box (xs : Array Value) (w : World) : (callFunc 50 xs).run Tryz.prog w = .ok (.enter 50 xs) w := by kernel_rfl
theorem cf_nodes_glyph (xs : Array Value) (w : World) : (callFunc 45 xs).run Tryz.prog w = .ok (.enter 45 xs) w := by kernel_rfl
theorem cf_nodes_kinds_1 (xs : Array Value) (w : World) : (callFunc 38 xs).run Tryz.prog w = .ok (.enter 38 xs) w := by kernel_rfl
theorem cf_nodes_kinds_10 (xs : Array Value) (w : World) : (callFunc 53 xs).run Tryz.prog w = .ok (.enter 53 xs) w := by kernel_rfl
theorem cf_nodes_kinds_11 (xs : Array Value) (w : World) : (callFunc 55 xs).run Tryz.prog w = .ok (.enter 55 xs) w := by kernel_rfl
theorem cf_nodes_kinds_12 (xs : Array Value) (w : World) : (callFunc 56 xs).run Tryz.prog w = .ok (.enter 56 xs) w := by kernel_rfl
theorem cf_nodes_kinds_13 (xs : Array Value) (w : World) : (callFunc 57 xs).run Tryz.prog w = .ok (.enter 57 xs) w := by kernel_rfl
theorem cf_nodes_kinds_14 (xs : Array Value) (w : World) : (callFunc 58 xs).run Tryz.prog w = .ok (.enter 58 xs) w := by kernel_rfl
theorem cf_nodes_kinds_15 (xs : Array Value) (w : World) : (callFunc 59 xs).run Tryz.prog w = .ok (.enter 59 xs) w := by kernel_rfl
theorem cf_nodes_kinds_16 (xs : Array Value) (w : World) : (callFunc 60 xs).run Tryz.prog w = .ok (.enter 60 xs) w := by kernel_rfl
theorem cf_nodes_kinds_17 (xs : Array Value) (w : World) : (callFunc 61 xs).run Tryz.prog w = .ok (.enter 61 xs) w := by kernel_rfl
theorem cf_nodes_kinds_2 (xs : Array Value) (w : World) : (callFunc 39 xs).run Tryz.prog w = .ok (.enter 39 xs) w := by kernel_rfl
theorem cf_nodes_kinds_3 (xs : Array Value) (w : World) : (callFunc 40 xs).run Tryz.prog w = .ok (.enter 40 xs) w := by kernel_rfl
theorem cf_nodes_kinds_4 (xs : Array Value) (w : World) : (callFunc 41 xs).run Tryz.prog w = .ok (.enter 41 xs) w := by kernel_rfl
theorem cf_nodes_kinds_5 (xs : Array Value) (w : World) : (callFunc 42 xs).run Tryz.prog w = .ok (.enter 42 xs) w := by kernel_rfl
theorem cf_nodes_kinds_6 (xs : Array Value) (w : World) : (callFunc 43 xs).run Tryz.prog w = .ok (.enter 43 xs) w := by kernel_rfl
theorem cf_nodes_kinds_7 (xs : Array Value) (w : World) : (callFunc 44 xs).run Tryz.prog w = .ok (.enter 44 xs) w := by kernel_rfl
theorem cf_nodes_kinds_8 (xs : Array Value) (w : World) : (callFunc 46 xs).run Tryz.prog w = .ok (.enter 46 xs) w := by kernel_rfl
theorem cf_nodes_kinds_9 (xs : Array Value) (w : World) : (callFunc 49 xs).run Tryz.prog w = .ok (.enter 49 xs) w := by kernel_rfl
theorem cf_nodes_ok (xs : Array Value) (w : World) : (callFunc 51 xs).run Tryz.prog w = .ok (.enter 51 xs) w := by kernel_rfl
theorem cf_nodes_rule (xs : Array Value) (w : World) : (callFunc 48 xs).run Tryz.prog w = .ok (.enter 48 xs) w := by kernel_rfl
theorem right_k1 (n : Nd) (tb q : Nat) (w : World) (he : n.kind = ((1 : Nat) : Int)) (ht : Blk w tb 62 (ktab q)) (hq : w.cell? ⟨q, 0, none⟩ = some (.func (.func 38) #[] #[])) :
    Calls Tryz.prog 21 #[.agg (nc n), .pointer (some ⟨tb, 0, none⟩)] w fun e w' => e = .returned (.bool (right n)) ∧ Below w.heap.size w w' := by
  cases hg : goodK 1 n
  · exact (right_no n tb w (by omega) (by omega) ⟨#[]⟩ false _ _ (restK 1 n) (by rw [he]; exact (ht.cell _).trans (by kernel_rfl)) (by rw [he]; exact (ht.cell _).trans (by kernel_rfl)) (by rw [he]; exact (ht.cell _).trans (by kernel_rfl)) (by rw [he]; exact (ht.cell _).trans (by kernel_rfl)) cf_nodes_glyph cf_nodes_kinds_1 (fun w' => (glyph_n n w').mono (fun e w'' h => ⟨h.1.trans (ret_bool hg), h.2⟩)) (fun w' _ => rchar_n n w')).mono (fun e w'' h => ⟨h.1.trans (ret_bool (right_eq he (by omega) (by omega) hg)), h.2⟩)
  · exact (right_yes n tb w (by omega) (by omega) ⟨#[]⟩ false _ _ (restK 1 n) (by rw [he]; exact (ht.cell _).trans (by kernel_rfl)) (by rw [he]; exact (ht.cell _).trans (by kernel_rfl)) (by rw [he]; exact (ht.cell _).trans (by kernel_rfl)) (by rw [he]; exact (ht.cell _).trans (by kernel_rfl)) cf_nodes_glyph cf_nodes_kinds_1 (fun w' => (glyph_n n w').mono (fun e w'' h => ⟨h.1.trans (ret_bool hg), h.2⟩)) (fun w' _ => rchar_n n w')).mono (fun e w'' h => ⟨h.1.trans (ret_bool (right_eq he (by omega) (by omega) hg)), h.2⟩)
theorem right_k2 (n : Nd) (tb q : Nat) (w : World) (he : n.kind = ((2 : Nat) : Int)) (ht : Blk w tb 62 (ktab q)) (hq : w.cell? ⟨q, 0, none⟩ = some (.func (.func 38) #[] #[])) :
    Calls Tryz.prog 21 #[.agg (nc n), .pointer (some ⟨tb, 0, none⟩)] w fun e w' => e = .returned (.bool (right n)) ∧ Below w.heap.size w w' := by
  cases hg : goodK 2 n
  · exact (right_lno n tb w (by omega) (by omega) ⟨#[]⟩ false _ _ q (restK 2 n) (by rw [he]; exact (ht.cell _).trans (by kernel_rfl)) (by rw [he]; exact (ht.cell _).trans (by kernel_rfl)) (by rw [he]; exact (ht.cell _).trans (by kernel_rfl)) (by rw [he]; exact (ht.cell _).trans (by kernel_rfl)) cf_nodes_kinds_8 cf_nodes_kinds_2 (fun w' => (lig_n n w').mono (fun e w'' h => ⟨h.1.trans (ret_bool hg), h.2⟩)) (fun w' hb => rlig_n n q w' ((hb.cell (block_lt_of_cell hq)).trans hq))).mono (fun e w'' h => ⟨h.1.trans (ret_bool (right_eq he (by omega) (by omega) hg)), h.2⟩)
  · exact (right_lyes n tb w (by omega) (by omega) ⟨#[]⟩ false _ _ q (restK 2 n) (by rw [he]; exact (ht.cell _).trans (by kernel_rfl)) (by rw [he]; exact (ht.cell _).trans (by kernel_rfl)) (by rw [he]; exact (ht.cell _).trans (by kernel_rfl)) (by rw [he]; exact (ht.cell _).trans (by kernel_rfl)) cf_nodes_kinds_8 cf_nodes_kinds_2 (fun w' => (lig_n n w').mono (fun e w'' h => ⟨h.1.trans (ret_bool hg), h.2⟩)) (fun w' hb => rlig_n n q w' ((hb.cell (block_lt_of_cell hq)).trans hq))).mono (fun e w'' h => ⟨h.1.trans (ret_bool (right_eq he (by omega) (by omega) hg)), h.2⟩)
theorem right_k3 (n : Nd) (tb q : Nat) (w : World) (he : n.kind = ((3 : Nat) : Int)) (ht : Blk w tb 62 (ktab q)) (hq : w.cell? ⟨q, 0, none⟩ = some (.func (.func 38) #[] #[])) :
    Calls Tryz.prog 21 #[.agg (nc n), .pointer (some ⟨tb, 0, none⟩)] w fun e w' => e = .returned (.bool (right n)) ∧ Below w.heap.size w w' := by
  cases hg : goodK 3 n
  · exact (right_no n tb w (by omega) (by omega) ⟨#[114, 117, 108, 101]⟩ false _ _ (restK 3 n) (by rw [he]; exact (ht.cell _).trans (by kernel_rfl)) (by rw [he]; exact (ht.cell _).trans (by kernel_rfl)) (by rw [he]; exact (ht.cell _).trans (by kernel_rfl)) (by rw [he]; exact (ht.cell _).trans (by kernel_rfl)) cf_nodes_rule cf_nodes_kinds_9 (fun w' => (rule_n n w').mono (fun e w'' h => ⟨h.1.trans (ret_bool hg), h.2⟩)) (fun w' _ => rrule_n n w')).mono (fun e w'' h => ⟨h.1.trans (ret_bool (right_eq he (by omega) (by omega) hg)), h.2⟩)
  · exact (right_yes n tb w (by omega) (by omega) ⟨#[114, 117, 108, 101]⟩ false _ _ (restK 3 n) (by rw [he]; exact (ht.cell _).trans (by kernel_rfl)) (by rw [he]; exact (ht.cell _).trans (by kernel_rfl)) (by rw [he]; exact (ht.cell _).trans (by kernel_rfl)) (by rw [he]; exact (ht.cell _).trans (by kernel_rfl)) cf_nodes_rule cf_nodes_kinds_9 (fun w' => (rule_n n w').mono (fun e w'' h => ⟨h.1.trans (ret_bool hg), h.2⟩)) (fun w' _ => rrule_n n w')).mono (fun e w'' h => ⟨h.1.trans (ret_bool (right_eq he (by omega) (by omega) hg)), h.2⟩)
theorem right_k4 (n : Nd) (tb q : Nat) (w : World) (he : n.kind = ((4 : Nat) : Int)) (ht : Blk w tb 62 (ktab q)) (hq : w.cell? ⟨q, 0, none⟩ = some (.func (.func 38) #[] #[])) :
    Calls Tryz.prog 21 #[.agg (nc n), .pointer (some ⟨tb, 0, none⟩)] w fun e w' => e = .returned (.bool (right n)) ∧ Below w.heap.size w w' := by
  cases hg : goodK 4 n
  · exact (right_no n tb w (by omega) (by omega) ⟨#[104, 98, 111, 120]⟩ true _ _ (restK 4 n) (by rw [he]; exact (ht.cell _).trans (by kernel_rfl)) (by rw [he]; exact (ht.cell _).trans (by kernel_rfl)) (by rw [he]; exact (ht.cell _).trans (by kernel_rfl)) (by rw [he]; exact (ht.cell _).trans (by kernel_rfl)) cf_nodes_box cf_nodes_kinds_3 (fun w' => (box_n n w').mono (fun e w'' h => ⟨h.1.trans (ret_bool hg), h.2⟩)) (fun w' _ => rbox_n n w')).mono (fun e w'' h => ⟨h.1.trans (ret_bool (right_eq he (by omega) (by omega) hg)), h.2⟩)
  · exact (right_yes n tb w (by omega) (by omega) ⟨#[104, 98, 111, 120]⟩ true _ _ (restK 4 n) (by rw [he]; exact (ht.cell _).trans (by kernel_rfl)) (by rw [he]; exact (ht.cell _).trans (by kernel_rfl)) (by rw [he]; exact (ht.cell _).trans (by kernel_rfl)) (by rw [he]; exact (ht.cell _).trans (by kernel_rfl)) cf_nodes_box cf_nodes_kinds_3 (fun w' => (box_n n w').mono (fun e w'' h => ⟨h.1.trans (ret_bool hg), h.2⟩)) (fun w' _ => rbox_n n w')).mono (fun e w'' h => ⟨h.1.trans (ret_bool (right_eq he (by omega) (by omega) hg)), h.2⟩)
theorem right_k5 (n : Nd) (tb q : Nat) (w : World) (he : n.kind = ((5 : Nat) : Int)) (ht : Blk w tb 62 (ktab q)) (hq : w.cell? ⟨q, 0, none⟩ = some (.func (.func 38) #[] #[])) :
    Calls Tryz.prog 21 #[.agg (nc n), .pointer (some ⟨tb, 0, none⟩)] w fun e w' => e = .returned (.bool (right n)) ∧ Below w.heap.size w w' := by
  cases hg : goodK 5 n
  · exact (right_no n tb w (by omega) (by omega) ⟨#[118, 98, 111, 120]⟩ true _ _ (restK 5 n) (by rw [he]; exact (ht.cell _).trans (by kernel_rfl)) (by rw [he]; exact (ht.cell _).trans (by kernel_rfl)) (by rw [he]; exact (ht.cell _).trans (by kernel_rfl)) (by rw [he]; exact (ht.cell _).trans (by kernel_rfl)) cf_nodes_box cf_nodes_kinds_3 (fun w' => (box_n n w').mono (fun e w'' h => ⟨h.1.trans (ret_bool hg), h.2⟩)) (fun w' _ => rbox_n n w')).mono (fun e w'' h => ⟨h.1.trans (ret_bool (right_eq he (by omega) (by omega) hg)), h.2⟩)
  · exact (right_yes n tb w (by omega) (by omega) ⟨#[118, 98, 111, 120]⟩ true _ _ (restK 5 n) (by rw [he]; exact (ht.cell _).trans (by kernel_rfl)) (by rw [he]; exact (ht.cell _).trans (by kernel_rfl)) (by rw [he]; exact (ht.cell _).trans (by kernel_rfl)) (by rw [he]; exact (ht.cell _).trans (by kernel_rfl)) cf_nodes_box cf_nodes_kinds_3 (fun w' => (box_n n w').mono (fun e w'' h => ⟨h.1.trans (ret_bool hg), h.2⟩)) (fun w' _ => rbox_n n w')).mono (fun e w'' h => ⟨h.1.trans (ret_bool (right_eq he (by omega) (by omega) hg)), h.2⟩)
theorem right_k6 (n : Nd) (tb q : Nat) (w : World) (he : n.kind = ((6 : Nat) : Int)) (ht : Blk w tb 62 (ktab q)) (hq : w.cell? ⟨q, 0, none⟩ = some (.func (.func 38) #[] #[])) :
    Calls Tryz.prog 21 #[.agg (nc n), .pointer (some ⟨tb, 0, none⟩)] w fun e w' => e = .returned (.bool (right n)) ∧ Below w.heap.size w w' := by
  cases hg : goodK 6 n
  · exact (right_no n tb w (by omega) (by omega) ⟨#[]⟩ false _ _ (restK 6 n) (by rw [he]; exact (ht.cell _).trans (by kernel_rfl)) (by rw [he]; exact (ht.cell _).trans (by kernel_rfl)) (by rw [he]; exact (ht.cell _).trans (by kernel_rfl)) (by rw [he]; exact (ht.cell _).trans (by kernel_rfl)) cf_nodes_ok cf_nodes_all (fun w' => (ok_n n w').mono (fun e w'' h => ⟨h.1.trans (ret_bool hg), h.2⟩)) (fun w' _ => rall_n n w')).mono (fun e w'' h => ⟨h.1.trans (ret_bool (right_eq he (by omega) (by omega) hg)), h.2⟩)
  · exact (right_yes n tb w (by omega) (by omega) ⟨#[]⟩ false _ _ (restK 6 n) (by rw [he]; exact (ht.cell _).trans (by kernel_rfl)) (by rw [he]; exact (ht.cell _).trans (by kernel_rfl)) (by rw [he]; exact (ht.cell _).trans (by kernel_rfl)) (by rw [he]; exact (ht.cell _).trans (by kernel_rfl)) cf_nodes_ok cf_nodes_all (fun w' => (ok_n n w').mono (fun e w'' h => ⟨h.1.trans (ret_bool hg), h.2⟩)) (fun w' _ => rall_n n w')).mono (fun e w'' h => ⟨h.1.trans (ret_bool (right_eq he (by omega) (by omega) hg)), h.2⟩)
theorem right_k7 (n : Nd) (tb q : Nat) (w : World) (he : n.kind = ((7 : Nat) : Int)) (ht : Blk w tb 62 (ktab q)) (hq : w.cell? ⟨q, 0, none⟩ = some (.func (.func 38) #[] #[])) :
    Calls Tryz.prog 21 #[.agg (nc n), .pointer (some ⟨tb, 0, none⟩)] w fun e w' => e = .returned (.bool (right n)) ∧ Below w.heap.size w w' := by
  cases hg : goodK 7 n
  · exact (right_no n tb w (by omega) (by omega) ⟨#[103, 108, 117, 101]⟩ false _ _ (restK 7 n) (by rw [he]; exact (ht.cell _).trans (by kernel_rfl)) (by rw [he]; exact (ht.cell _).trans (by kernel_rfl)) (by rw [he]; exact (ht.cell _).trans (by kernel_rfl)) (by rw [he]; exact (ht.cell _).trans (by kernel_rfl)) cf_nodes_kinds_10 cf_nodes_kinds_11 (fun w' => (skip_n n w').mono (fun e w'' h => ⟨h.1.trans (ret_bool hg), h.2⟩)) (fun w' _ => rskip_n n w')).mono (fun e w'' h => ⟨h.1.trans (ret_bool (right_eq he (by omega) (by omega) hg)), h.2⟩)
  · exact (right_yes n tb w (by omega) (by omega) ⟨#[103, 108, 117, 101]⟩ false _ _ (restK 7 n) (by rw [he]; exact (ht.cell _).trans (by kernel_rfl)) (by rw [he]; exact (ht.cell _).trans (by kernel_rfl)) (by rw [he]; exact (ht.cell _).trans (by kernel_rfl)) (by rw [he]; exact (ht.cell _).trans (by kernel_rfl)) cf_nodes_kinds_10 cf_nodes_kinds_11 (fun w' => (skip_n n w').mono (fun e w'' h => ⟨h.1.trans (ret_bool hg), h.2⟩)) (fun w' _ => rskip_n n w')).mono (fun e w'' h => ⟨h.1.trans (ret_bool (right_eq he (by omega) (by omega) hg)), h.2⟩)
theorem right_k8 (n : Nd) (tb q : Nat) (w : World) (he : n.kind = ((8 : Nat) : Int)) (ht : Blk w tb 62 (ktab q)) (hq : w.cell? ⟨q, 0, none⟩ = some (.func (.func 38) #[] #[])) :
    Calls Tryz.prog 21 #[.agg (nc n), .pointer (some ⟨tb, 0, none⟩)] w fun e w' => e = .returned (.bool (right n)) ∧ Below w.heap.size w w' := by
  cases hg : goodK 8 n
  · exact (right_no n tb w (by omega) (by omega) ⟨#[107, 101, 114, 110]⟩ false _ _ (restK 8 n) (by rw [he]; exact (ht.cell _).trans (by kernel_rfl)) (by rw [he]; exact (ht.cell _).trans (by kernel_rfl)) (by rw [he]; exact (ht.cell _).trans (by kernel_rfl)) (by rw [he]; exact (ht.cell _).trans (by kernel_rfl)) cf_nodes_kinds_12 cf_nodes_kinds_13 (fun w' => (kern_n n w').mono (fun e w'' h => ⟨h.1.trans (ret_bool hg), h.2⟩)) (fun w' _ => rkern_n n w')).mono (fun e w'' h => ⟨h.1.trans (ret_bool (right_eq he (by omega) (by omega) hg)), h.2⟩)
  · exact (right_yes n tb w (by omega) (by omega) ⟨#[107, 101, 114, 110]⟩ false _ _ (restK 8 n) (by rw [he]; exact (ht.cell _).trans (by kernel_rfl)) (by rw [he]; exact (ht.cell _).trans (by kernel_rfl)) (by rw [he]; exact (ht.cell _).trans (by kernel_rfl)) (by rw [he]; exact (ht.cell _).trans (by kernel_rfl)) cf_nodes_kinds_12 cf_nodes_kinds_13 (fun w' => (kern_n n w').mono (fun e w'' h => ⟨h.1.trans (ret_bool hg), h.2⟩)) (fun w' _ => rkern_n n w')).mono (fun e w'' h => ⟨h.1.trans (ret_bool (right_eq he (by omega) (by omega) hg)), h.2⟩)
theorem right_k9 (n : Nd) (tb q : Nat) (w : World) (he : n.kind = ((9 : Nat) : Int)) (ht : Blk w tb 62 (ktab q)) (hq : w.cell? ⟨q, 0, none⟩ = some (.func (.func 38) #[] #[])) :
    Calls Tryz.prog 21 #[.agg (nc n), .pointer (some ⟨tb, 0, none⟩)] w fun e w' => e = .returned (.bool (right n)) ∧ Below w.heap.size w w' := by
  cases hg : goodK 9 n
  · exact (right_no n tb w (by omega) (by omega) ⟨#[112, 101, 110, 97, 108, 116, 121]⟩ false _ _ (restK 9 n) (by rw [he]; exact (ht.cell _).trans (by kernel_rfl)) (by rw [he]; exact (ht.cell _).trans (by kernel_rfl)) (by rw [he]; exact (ht.cell _).trans (by kernel_rfl)) (by rw [he]; exact (ht.cell _).trans (by kernel_rfl)) cf_nodes_kinds_14 cf_nodes_kinds_15 (fun w' => (pen_n n w').mono (fun e w'' h => ⟨h.1.trans (ret_bool hg), h.2⟩)) (fun w' _ => rpen_n n w')).mono (fun e w'' h => ⟨h.1.trans (ret_bool (right_eq he (by omega) (by omega) hg)), h.2⟩)
  · exact (right_yes n tb w (by omega) (by omega) ⟨#[112, 101, 110, 97, 108, 116, 121]⟩ false _ _ (restK 9 n) (by rw [he]; exact (ht.cell _).trans (by kernel_rfl)) (by rw [he]; exact (ht.cell _).trans (by kernel_rfl)) (by rw [he]; exact (ht.cell _).trans (by kernel_rfl)) (by rw [he]; exact (ht.cell _).trans (by kernel_rfl)) cf_nodes_kinds_14 cf_nodes_kinds_15 (fun w' => (pen_n n w').mono (fun e w'' h => ⟨h.1.trans (ret_bool hg), h.2⟩)) (fun w' _ => rpen_n n w')).mono (fun e w'' h => ⟨h.1.trans (ret_bool (right_eq he (by omega) (by omega) hg)), h.2⟩)
theorem right_k10 (n : Nd) (tb q : Nat) (w : World) (he : n.kind = ((10 : Nat) : Int)) (ht : Blk w tb 62 (ktab q)) (hq : w.cell? ⟨q, 0, none⟩ = some (.func (.func 38) #[] #[])) :
    Calls Tryz.prog 21 #[.agg (nc n), .pointer (some ⟨tb, 0, none⟩)] w fun e w' => e = .returned (.bool (right n)) ∧ Below w.heap.size w w' := by
  cases hg : goodK 10 n
  · exact (right_no n tb w (by omega) (by omega) ⟨#[100, 105, 115, 99, 114, 101, 116, 105, 111, 110, 97, 114, 121]⟩ true _ _ (restK 10 n) (by rw [he]; exact (ht.cell _).trans (by kernel_rfl)) (by rw [he]; exact (ht.cell _).trans (by kernel_rfl)) (by rw [he]; exact (ht.cell _).trans (by kernel_rfl)) (by rw [he]; exact (ht.cell _).trans (by kernel_rfl)) cf_nodes_ok cf_nodes_all (fun w' => (ok_n n w').mono (fun e w'' h => ⟨h.1.trans (ret_bool hg), h.2⟩)) (fun w' _ => rall_n n w')).mono (fun e w'' h => ⟨h.1.trans (ret_bool (right_eq he (by omega) (by omega) hg)), h.2⟩)
  · exact (right_yes n tb w (by omega) (by omega) ⟨#[100, 105, 115, 99, 114, 101, 116, 105, 111, 110, 97, 114, 121]⟩ true _ _ (restK 10 n) (by rw [he]; exact (ht.cell _).trans (by kernel_rfl)) (by rw [he]; exact (ht.cell _).trans (by kernel_rfl)) (by rw [he]; exact (ht.cell _).trans (by kernel_rfl)) (by rw [he]; exact (ht.cell _).trans (by kernel_rfl)) cf_nodes_ok cf_nodes_all (fun w' => (ok_n n w').mono (fun e w'' h => ⟨h.1.trans (ret_bool hg), h.2⟩)) (fun w' _ => rall_n n w')).mono (fun e w'' h => ⟨h.1.trans (ret_bool (right_eq he (by omega) (by omega) hg)), h.2⟩)
theorem right_k11 (n : Nd) (tb q : Nat) (w : World) (he : n.kind = ((11 : Nat) : Int)) (ht : Blk w tb 62 (ktab q)) (hq : w.cell? ⟨q, 0, none⟩ = some (.func (.func 38) #[] #[])) :
    Calls Tryz.prog 21 #[.agg (nc n), .pointer (some ⟨tb, 0, none⟩)] w fun e w' => e = .returned (.bool (right n)) ∧ Below w.heap.size w w' := by
  cases hg : goodK 11 n
  · exact (right_no n tb w (by omega) (by omega) ⟨#[]⟩ false _ _ (restK 11 n) (by rw [he]; exact (ht.cell _).trans (by kernel_rfl)) (by rw [he]; exact (ht.cell _).trans (by kernel_rfl)) (by rw [he]; exact (ht.cell _).trans (by kernel_rfl)) (by rw [he]; exact (ht.cell _).trans (by kernel_rfl)) cf_nodes_ok cf_nodes_all (fun w' => (ok_n n w').mono (fun e w'' h => ⟨h.1.trans (ret_bool hg), h.2⟩)) (fun w' _ => rall_n n w')).mono (fun e w'' h => ⟨h.1.trans (ret_bool (right_eq he (by omega) (by omega) hg)), h.2⟩)
  · exact (right_yes n tb w (by omega) (by omega) ⟨#[]⟩ false _ _ (restK 11 n) (by rw [he]; exact (ht.cell _).trans (by kernel_rfl)) (by rw [he]; exact (ht.cell _).trans (by kernel_rfl)) (by rw [he]; exact (ht.cell _).trans (by kernel_rfl)) (by rw [he]; exact (ht.cell _).trans (by kernel_rfl)) cf_nodes_ok cf_nodes_all (fun w' => (ok_n n w').mono (fun e w'' h => ⟨h.1.trans (ret_bool hg), h.2⟩)) (fun w' _ => rall_n n w')).mono (fun e w'' h => ⟨h.1.trans (ret_bool (right_eq he (by omega) (by omega) hg)), h.2⟩)
theorem right_k12 (n : Nd) (tb q : Nat) (w : World) (he : n.kind = ((12 : Nat) : Int)) (ht : Blk w tb 62 (ktab q)) (hq : w.cell? ⟨q, 0, none⟩ = some (.func (.func 38) #[] #[])) :
    Calls Tryz.prog 21 #[.agg (nc n), .pointer (some ⟨tb, 0, none⟩)] w fun e w' => e = .returned (.bool (right n)) ∧ Below w.heap.size w w' := by
  cases hg : goodK 12 n
  · exact (right_no n tb w (by omega) (by omega) ⟨#[109, 97, 114, 107]⟩ false _ _ (restK 12 n) (by rw [he]; exact (ht.cell _).trans (by kernel_rfl)) (by rw [he]; exact (ht.cell _).trans (by kernel_rfl)) (by rw [he]; exact (ht.cell _).trans (by kernel_rfl)) (by rw [he]; exact (ht.cell _).trans (by kernel_rfl)) cf_nodes_kinds_6 cf_nodes_kinds_5 (fun w' => (short_n n w').mono (fun e w'' h => ⟨h.1.trans (ret_bool hg), h.2⟩)) (fun w' _ => rtext_n n w')).mono (fun e w'' h => ⟨h.1.trans (ret_bool (right_eq he (by omega) (by omega) hg)), h.2⟩)
  · exact (right_yes n tb w (by omega) (by omega) ⟨#[109, 97, 114, 107]⟩ false _ _ (restK 12 n) (by rw [he]; exact (ht.cell _).trans (by kernel_rfl)) (by rw [he]; exact (ht.cell _).trans (by kernel_rfl)) (by rw [he]; exact (ht.cell _).trans (by kernel_rfl)) (by rw [he]; exact (ht.cell _).trans (by kernel_rfl)) cf_nodes_kinds_6 cf_nodes_kinds_5 (fun w' => (short_n n w').mono (fun e w'' h => ⟨h.1.trans (ret_bool hg), h.2⟩)) (fun w' _ => rtext_n n w')).mono (fun e w'' h => ⟨h.1.trans (ret_bool (right_eq he (by omega) (by omega) hg)), h.2⟩)
theorem right_k13 (n : Nd) (tb q : Nat) (w : World) (he : n.kind = ((13 : Nat) : Int)) (ht : Blk w tb 62 (ktab q)) (hq : w.cell? ⟨q, 0, none⟩ = some (.func (.func 38) #[] #[])) :
    Calls Tryz.prog 21 #[.agg (nc n), .pointer (some ⟨tb, 0, none⟩)] w fun e w' => e = .returned (.bool (right n)) ∧ Below w.heap.size w w' := by
  cases hg : goodK 13 n
  · exact (right_no n tb w (by omega) (by omega) ⟨#[105, 110, 115, 101, 114, 116]⟩ true _ _ (restK 13 n) (by rw [he]; exact (ht.cell _).trans (by kernel_rfl)) (by rw [he]; exact (ht.cell _).trans (by kernel_rfl)) (by rw [he]; exact (ht.cell _).trans (by kernel_rfl)) (by rw [he]; exact (ht.cell _).trans (by kernel_rfl)) cf_nodes_kinds_16 cf_nodes_kinds_17 (fun w' => (ins_n n w').mono (fun e w'' h => ⟨h.1.trans (ret_bool hg), h.2⟩)) (fun w' _ => rins_n n w')).mono (fun e w'' h => ⟨h.1.trans (ret_bool (right_eq he (by omega) (by omega) hg)), h.2⟩)
  · exact (right_yes n tb w (by omega) (by omega) ⟨#[105, 110, 115, 101, 114, 116]⟩ true _ _ (restK 13 n) (by rw [he]; exact (ht.cell _).trans (by kernel_rfl)) (by rw [he]; exact (ht.cell _).trans (by kernel_rfl)) (by rw [he]; exact (ht.cell _).trans (by kernel_rfl)) (by rw [he]; exact (ht.cell _).trans (by kernel_rfl)) cf_nodes_kinds_16 cf_nodes_kinds_17 (fun w' => (ins_n n w').mono (fun e w'' h => ⟨h.1.trans (ret_bool hg), h.2⟩)) (fun w' _ => rins_n n w')).mono (fun e w'' h => ⟨h.1.trans (ret_bool (right_eq he (by omega) (by omega) hg)), h.2⟩)
theorem right_k14 (n : Nd) (tb q : Nat) (w : World) (he : n.kind = ((14 : Nat) : Int)) (ht : Blk w tb 62 (ktab q)) (hq : w.cell? ⟨q, 0, none⟩ = some (.func (.func 38) #[] #[])) :
    Calls Tryz.prog 21 #[.agg (nc n), .pointer (some ⟨tb, 0, none⟩)] w fun e w' => e = .returned (.bool (right n)) ∧ Below w.heap.size w w' := by
  cases hg : goodK 14 n
  · exact (right_no n tb w (by omega) (by omega) ⟨#[115, 112, 101, 99, 105, 97, 108]⟩ false _ _ (restK 14 n) (by rw [he]; exact (ht.cell _).trans (by kernel_rfl)) (by rw [he]; exact (ht.cell _).trans (by kernel_rfl)) (by rw [he]; exact (ht.cell _).trans (by kernel_rfl)) (by rw [he]; exact (ht.cell _).trans (by kernel_rfl)) cf_nodes_kinds_6 cf_nodes_kinds_5 (fun w' => (short_n n w').mono (fun e w'' h => ⟨h.1.trans (ret_bool hg), h.2⟩)) (fun w' _ => rtext_n n w')).mono (fun e w'' h => ⟨h.1.trans (ret_bool (right_eq he (by omega) (by omega) hg)), h.2⟩)
  · exact (right_yes n tb w (by omega) (by omega) ⟨#[115, 112, 101, 99, 105, 97, 108]⟩ false _ _ (restK 14 n) (by rw [he]; exact (ht.cell _).trans (by kernel_rfl)) (by rw [he]; exact (ht.cell _).trans (by kernel_rfl)) (by rw [he]; exact (ht.cell _).trans (by kernel_rfl)) (by rw [he]; exact (ht.cell _).trans (by kernel_rfl)) cf_nodes_kinds_6 cf_nodes_kinds_5 (fun w' => (short_n n w').mono (fun e w'' h => ⟨h.1.trans (ret_bool hg), h.2⟩)) (fun w' _ => rtext_n n w')).mono (fun e w'' h => ⟨h.1.trans (ret_bool (right_eq he (by omega) (by omega) hg)), h.2⟩)
theorem right_k15 (n : Nd) (tb q : Nat) (w : World) (he : n.kind = ((15 : Nat) : Int)) (ht : Blk w tb 62 (ktab q)) (hq : w.cell? ⟨q, 0, none⟩ = some (.func (.func 38) #[] #[])) :
    Calls Tryz.prog 21 #[.agg (nc n), .pointer (some ⟨tb, 0, none⟩)] w fun e w' => e = .returned (.bool (right n)) ∧ Below w.heap.size w w' := by
  cases hg : goodK 15 n
  · exact (right_no n tb w (by omega) (by omega) ⟨#[109, 97, 116, 104, 111, 110]⟩ false _ _ (restK 15 n) (by rw [he]; exact (ht.cell _).trans (by kernel_rfl)) (by rw [he]; exact (ht.cell _).trans (by kernel_rfl)) (by rw [he]; exact (ht.cell _).trans (by kernel_rfl)) (by rw [he]; exact (ht.cell _).trans (by kernel_rfl)) cf_nodes_kinds_7 cf_nodes_kinds_4 (fun w' => (width_n n w').mono (fun e w'' h => ⟨h.1.trans (ret_bool hg), h.2⟩)) (fun w' _ => rwide_n n w')).mono (fun e w'' h => ⟨h.1.trans (ret_bool (right_eq he (by omega) (by omega) hg)), h.2⟩)
  · exact (right_yes n tb w (by omega) (by omega) ⟨#[109, 97, 116, 104, 111, 110]⟩ false _ _ (restK 15 n) (by rw [he]; exact (ht.cell _).trans (by kernel_rfl)) (by rw [he]; exact (ht.cell _).trans (by kernel_rfl)) (by rw [he]; exact (ht.cell _).trans (by kernel_rfl)) (by rw [he]; exact (ht.cell _).trans (by kernel_rfl)) cf_nodes_kinds_7 cf_nodes_kinds_4 (fun w' => (width_n n w').mono (fun e w'' h => ⟨h.1.trans (ret_bool hg), h.2⟩)) (fun w' _ => rwide_n n w')).mono (fun e w'' h => ⟨h.1.trans (ret_bool (right_eq he (by omega) (by omega) hg)), h.2⟩)
theorem right_k16 (n : Nd) (tb q : Nat) (w : World) (he : n.kind = ((16 : Nat) : Int)) (ht : Blk w tb 62 (ktab q)) (hq : w.cell? ⟨q, 0, none⟩ = some (.func (.func 38) #[] #[])) :
    Calls Tryz.prog 21 #[.agg (nc n), .pointer (some ⟨tb, 0, none⟩)] w fun e w' => e = .returned (.bool (right n)) ∧ Below w.heap.size w w' := by
  cases hg : goodK 16 n
  · exact (right_no n tb w (by omega) (by omega) ⟨#[109, 97, 116, 104, 111, 102, 102]⟩ false _ _ (restK 16 n) (by rw [he]; exact (ht.cell _).trans (by kernel_rfl)) (by rw [he]; exact (ht.cell _).trans (by kernel_rfl)) (by rw [he]; exact (ht.cell _).trans (by kernel_rfl)) (by rw [he]; exact (ht.cell _).trans (by kernel_rfl)) cf_nodes_kinds_7 cf_nodes_kinds_4 (fun w' => (width_n n w').mono (fun e w'' h => ⟨h.1.trans (ret_bool hg), h.2⟩)) (fun w' _ => rwide_n n w')).mono (fun e w'' h => ⟨h.1.trans (ret_bool (right_eq he (by omega) (by omega) hg)), h.2⟩)
  · exact (right_yes n tb w (by omega) (by omega) ⟨#[109, 97, 116, 104, 111, 102, 102]⟩ false _ _ (restK 16 n) (by rw [he]; exact (ht.cell _).trans (by kernel_rfl)) (by rw [he]; exact (ht.cell _).trans (by kernel_rfl)) (by rw [he]; exact (ht.cell _).trans (by kernel_rfl)) (by rw [he]; exact (ht.cell _).trans (by kernel_rfl)) cf_nodes_kinds_7 cf_nodes_kinds_4 (fun w' => (width_n n w').mono (fun e w'' h => ⟨h.1.trans (ret_bool hg), h.2⟩)) (fun w' _ => rwide_n n w')).mono (fun e w'' h => ⟨h.1.trans (ret_bool (right_eq he (by omega) (by omega) hg)), h.2⟩)
theorem right_k17 (n : Nd) (tb q : Nat) (w : World) (he : n.kind = ((17 : Nat) : Int)) (ht : Blk w tb 62 (ktab q)) (hq : w.cell? ⟨q, 0, none⟩ = some (.func (.func 38) #[] #[])) :
    Calls Tryz.prog 21 #[.agg (nc n), .pointer (some ⟨tb, 0, none⟩)] w fun e w' => e = .returned (.bool (right n)) ∧ Below w.heap.size w w' := by
  cases hg : goodK 17 n
  · exact (right_no n tb w (by omega) (by omega) ⟨#[97, 100, 106, 117, 115, 116]⟩ true _ _ (restK 17 n) (by rw [he]; exact (ht.cell _).trans (by kernel_rfl)) (by rw [he]; exact (ht.cell _).trans (by kernel_rfl)) (by rw [he]; exact (ht.cell _).trans (by kernel_rfl)) (by rw [he]; exact (ht.cell _).trans (by kernel_rfl)) cf_nodes_ok cf_nodes_all (fun w' => (ok_n n w').mono (fun e w'' h => ⟨h.1.trans (ret_bool hg), h.2⟩)) (fun w' _ => rall_n n w')).mono (fun e w'' h => ⟨h.1.trans (ret_bool (right_eq he (by omega) (by omega) hg)), h.2⟩)
  · exact (right_yes n tb w (by omega) (by omega) ⟨#[97, 100, 106, 117, 115, 116]⟩ true _ _ (restK 17 n) (by rw [he]; exact (ht.cell _).trans (by kernel_rfl)) (by rw [he]; exact (ht.cell _).trans (by kernel_rfl)) (by rw [he]; exact (ht.cell _).trans (by kernel_rfl)) (by rw [he]; exact (ht.cell _).trans (by kernel_rfl)) cf_nodes_ok cf_nodes_all (fun w' => (ok_n n w').mono (fun e w'' h => ⟨h.1.trans (ret_bool hg), h.2⟩)) (fun w' _ => rall_n n w')).mono (fun e w'' h => ⟨h.1.trans (ret_bool (right_eq he (by omega) (by omega) hg)), h.2⟩)
theorem right_any (n : Nd) (tb q : Nat) (w : World) (ht : Blk w tb 62 (ktab q)) (hq : w.cell? ⟨q, 0, none⟩ = some (.func (.func 38) #[] #[])) :
    Calls Tryz.prog 21 #[.agg (nc n), .pointer (some ⟨tb, 0, none⟩)] w fun e w' => e = .returned (.bool (right n)) ∧ Below w.heap.size w w' := by
  by_cases h : winB n.kind 1 17 = true
  · have h' : 1 ≤ n.kind ∧ n.kind ≤ 17 := by simpa [winB] using h
    rcases (by omega : n.kind = ((1 : Nat) : Int) ∨ n.kind = ((2 : Nat) : Int) ∨ n.kind = ((3 : Nat) : Int) ∨ n.kind = ((4 : Nat) : Int) ∨ n.kind = ((5 : Nat) : Int) ∨ n.kind = ((6 : Nat) : Int) ∨ n.kind = ((7 : Nat) : Int) ∨ n.kind = ((8 : Nat) : Int) ∨ n.kind = ((9 : Nat) : Int) ∨ n.kind = ((10 : Nat) : Int) ∨ n.kind = ((11 : Nat) : Int) ∨ n.kind = ((12 : Nat) : Int) ∨ n.kind = ((13 : Nat) : Int) ∨ n.kind = ((14 : Nat) : Int) ∨ n.kind = ((15 : Nat) : Int) ∨ n.kind = ((16 : Nat) : Int) ∨ n.kind = ((17 : Nat) : Int)) with e | e | e | e | e | e | e | e | e | e | e | e | e | e | e | e | e
    · exact right_k1 n tb q w e ht hq
    · exact right_k2 n tb q w e ht hq
    · exact right_k3 n tb q w e ht hq
    · exact right_k4 n tb q w e ht hq
    · exact right_k5 n tb q w e ht hq
    · exact right_k6 n tb q w e ht hq
    · exact right_k7 n tb q w e ht hq
    · exact right_k8 n tb q w e ht hq
    · exact right_k9 n tb q w e ht hq
    · exact right_k10 n tb q w e ht hq
    · exact right_k11 n tb q w e ht hq
    · exact right_k12 n tb q w e ht hq
    · exact right_k13 n tb q w e ht hq
    · exact right_k14 n tb q w e ht hq
    · exact right_k15 n tb q w e ht hq
    · exact right_k16 n tb q w e ht hq
    · exact right_k17 n tb q w e ht hq
  · exact right_out n tb w (by simpa using h)
end Go.Proofs.YtmcekdjhkjhcdaaGreatDoor.No
