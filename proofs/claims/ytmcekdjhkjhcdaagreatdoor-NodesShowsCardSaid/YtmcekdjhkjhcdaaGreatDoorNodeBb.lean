import Derived.Test.YtmcekdjhkjhcdaaGreatDoorNodeKb
import Derived.Test.YtmcekdjhkjhcdaaGreatDoorNt
import Derived.Deep.RegionLaw
import Derived.Laws.AppendOwn
/- NodesBroken's walk: a list without one of the nodes that open or close is none. Conditions: those that each theorem names. -/
namespace Go.Proofs.YtmcekdjhkjhcdaaGreatDoor.No
open Go.ChangeShapes Go.WideShapes Go.ChangeAt Go.RowKit
open Me Np
set_option linter.unusedVariables false
set_option linter.unusedSimpArgs false

theorem refOpens_any (n : Nd) (w : World) : Calls Tryz.prog 31 #[.agg (nc n)] w fun e w' => e = .returned (.bool (opensB n)) ∧ w.alloc (.cells (nc n) 36) = w' := by
  go_enter Tryz.func31, Tryz.ntmps31
  go_wp2_with fail
  all_goals (go_ret; exact ⟨ret_bool (by simp_all [opensB]), rfl⟩)
/-- 'append(s, l...)' onto what the call owns, at a step of a region that draws its order. -/
theorem step_append_src {P : Program} {ops : Array Oper} {o : Oper} {a : Act} {w : World} {K : Act → World → Prop} {Q : Exit → Act → World → Prop} {E : Prop} (hgd : o.guard = none) (s x : Operand) (t : TypeId)
    (ho : o.op = .call { callee := .builtin .append, args := #[s, x], argTypes := #[t, t] })
    (base : Nat) (e : TypeId) (z : Value) (size bytes : Nat) (ht : P.underlying t = some (.slice e)) (hinfo : (P.info? e).map (fun i => (i.zero, i.size, i.bytes)) = some (some z, size, bytes))
    (hzs : z.cells.size = size) (hsz : 0 < size)
    (v : Value) (n : Nat) (xs : List Value) (hs : a.eval s = v) (hown : w.ownsRow base e size v n xs)
    (ad : Addr) (m c : Nat) (news : List Value) (hx : a.eval x = .slice (some ad) m c) (hl : news.length = m * size) (hnews : ∀ j u, news[j]? = some u → w.cell? (ad.add j) = some u) (h1 : ∀ u ∈ news, u.oneCell' = true)
    (h63 : n + m ≤ maxLen) (hbytes : (n + m) * bytes ≤ 140737488355328) (hbase : base ≤ w.heap.size)
    (h : ∀ v' w', w'.ownsRow base e size v' (n + m) (xs ++ news) → w.grownBy w' v.ownBlock → K (a.put o.dst v') w') :
    if Region.wanted o (yielded ops a.tmps) = true then Oper.wp P o a w K Q else E := by
  obtain ⟨i, hi, hz, hsi, hbi⟩ := info_parts hinfo
  have hw : Region.wanted o (yielded ops a.tmps) = true := by simp [Region.wanted, hgd]
  rw [if_pos hw]
  obtain ⟨v', w', hr, h2, h3, _⟩ := run_append_own (P := P) w base t o.type e i z size bytes ht hi hz hsi hbi hzs hsz v n xs hown ad m c news hl hnews h1 h63 hbytes hbase
  unfold Oper.wp execOp
  simp only [ho, resolve, invoke, builtin, Sem.run_bind, Sem.run_pure, Result.andThen_ok, List.map_toArray, List.map_cons, List.map_nil, hs, hx, hr]
  exact h v' w' h2 h3
theorem seg_cells {w : World} {B b off : Nat} {xs : List Value} (h : Seg w B (some ⟨b, off, none⟩) xs) : ∀ j u, xs[j]? = some u → w.cell? ((⟨b, off, none⟩ : Addr).add j) = some u := by
  intro j u hu
  rcases h with rfl | ⟨b', off', he, _, hc⟩
  · simp at hu
  · simp only [Option.some.injEq, Addr.mk.injEq, and_true] at he
    obtain ⟨rfl, rfl⟩ := he
    have hadd : (⟨b, off, none⟩ : Addr).add j = ⟨b, off + j, none⟩ := by unfold Addr.add; split <;> simp_all
    rw [hadd]
    exact hc j u hu
theorem node_row : (Tryz.prog.info? 36).map (fun i => (i.zero, i.size, i.bytes)) = some (some (.agg (nc (nz 0))), 19, 160) := by kernel_rfl
theorem ncs_one (l : List Nd) : ∀ u ∈ l.flatMap ncs, u.oneCell' = true := by
  intro u hu
  obtain ⟨n, _, hn⟩ := List.mem_flatMap.1 hu
  have := nc_one n
  rw [Array.all_eq_true_iff_forall_mem] at this
  exact this u (by simpa [ncs] using hn)
theorem place (a : Int) (len : Nat) (h0 : (0 : Int) < len) (h1 : (len : Int) ≤ 2000) : ∃ k : Nat, (wrap64 (a.tmod len + len)).tmod len = (k : Int) ∧ k < len := by
  have t1 := Int.tmod_lt_of_pos a h0
  have t2 := Int.lt_tmod_of_pos a h0
  rw [IntWalk.wrap64_in _ (by omega)]
  have t3 := Int.tmod_lt_of_pos (a.tmod len + len) h0
  have t4 := Int.tmod_nonneg (a := a.tmod len + len) len (by omega)
  exact ⟨((a.tmod len + len).tmod len).toNat, by omega, by omega⟩
end Go.Proofs.YtmcekdjhkjhcdaaGreatDoor.No
