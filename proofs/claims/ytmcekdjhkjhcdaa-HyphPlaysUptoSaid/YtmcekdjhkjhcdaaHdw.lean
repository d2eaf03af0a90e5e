import Derived.Test.YtmcekdjhkjhcdaaHd
import Derived.Laws.AppendOwn
/- An append of one element onto a row of the call's own: where the answer lies, too. Conditions: those that each theorem names. -/
namespace Go.Proofs.Ytmcekdjhkjhcdaa.Hy
open Go.RowKit Me
set_option linter.unusedVariables false

theorem run_push_where {P : Program} {w : World} (base : Nat) (t ty e : TypeId) (i : TypeInfo) (z : Value) (ht : P.underlying t = some (.slice e)) (hi : P.info? e = some i) (hz : i.zero = some z)
    (v : Value) (n : Nat) (xs : List Value) (hown : w.ownsRow base e i.size v n xs) (a : Addr) (c : Nat) (news : List Value) (hl : news.length = 1 * i.size) (hnews : ∀ j u, news[j]? = some u → w.cell? (a.add j) = some u) (h1 : ∀ u ∈ news, u.oneCell' = true)
    (hn : n + 1 ≤ 140737488355328) (hbytes : (n + 1) * i.bytes ≤ 140737488355328) :
    ∃ v' w', (Builtin.append_ #[t, t] ty #[v, .slice (some a) 1 c]).run P w = .ok v' w' ∧ (v'.ownBlock = v.ownBlock ∨ ∃ q, v'.ownBlock = some q ∧ w.heap.size ≤ q) := by
  rcases hown.2 with ⟨rfl, rfl⟩ | ⟨g, cap, cur, rfl, hbg, hg, hnc, hcm, hcs, htake⟩
  · exact ⟨_, _, run_append_nil (P := P) w t ty e i z ht hi hz a 1 c news hl hnews (by omega) (by omega) (by omega), .inr ⟨_, rfl, Nat.le_refl _⟩⟩
  · by_cases hroom : n + 1 ≤ cap
    · have hfit : n * i.size + news.length ≤ cur.size := by rw [hl, hcs, ← Nat.add_mul]; exact Nat.mul_le_mul_right _ hroom
      exact ⟨_, _, run_append_room (P := P) w t ty e i ht hi g n cap cur hg a 1 c news hl hnews h1 hroom hfit, .inl rfl⟩
    · have holds : ∀ j u, xs[j]? = some u → w.cell? ((⟨g, 0, none⟩ : Addr).add j) = some u := hown.cells (g := g) rfl
      exact ⟨_, _, run_append_grow (P := P) w t ty e i z ht hi hz ⟨g, 0, none⟩ n cap xs hown.1 holds a 1 c news hl hnews (by omega) (by omega) (growslice_fits (by omega) (by omega)), .inr ⟨_, rfl, Nat.le_refl _⟩⟩
theorem wpList_push_at {P : Program} {ops : Array Oper} {rest : List Oper} {o : Oper} {a : Act} {Q : Exit → Act → World → Prop} {w : World} (hgd : o.guard = none) (s x : Operand) (t : TypeId)
    (ho : o.op = .call { callee := .builtin .append, args := #[s, x], argTypes := #[t, t] }) (base : Nat) (e : TypeId) (z : Value) (size bytes : Nat) (ht : P.underlying t = some (.slice e))
    (hinfo : (P.info? e).map (fun i => (i.zero, i.size, i.bytes)) = some (some z, size, bytes)) (hzs : z.cells.size = size) (hsz : 0 < size) (hby : 0 < bytes)
    (v : Value) (n : Nat) (xs : List Value) (hs : a.eval s = v) (hown : w.ownsRow base e size v n xs) (hbase : base ≤ w.heap.size)
    (cs : Array Value) (hc : cs.size = size) (h1 : cs.toList.all (fun u => u.oneCell') = true) {g : Nat} (hx : a.eval x = .slice (some ⟨g, 0, none⟩) 1 1) (hg : g = w.heap.size) (hlen : (n + 1) * bytes ≤ 140737488355328)
    (h : ∀ v' w', w'.ownsRow base e size v' (n + 1) (xs ++ cs.toList) → (w.alloc (.cells cs e)).grownBy w' v.ownBlock → (v'.ownBlock = v.ownBlock ∨ ∃ q, v'.ownBlock = some q ∧ w.heap.size ≤ q) → wpList P ops Q rest (a.put o.dst v') w') :
    wpList P ops Q (o :: rest) a (w.alloc (.cells cs e)) :=
  wpList_plain hgd fun K hK => by
    subst hg
    obtain ⟨i, hi, hz, hsi, hbi⟩ := info_parts hinfo
    subst hsi hbi
    have hn : n + 1 ≤ 140737488355328 := Nat.le_trans (Nat.le_mul_of_pos_right _ hby) hlen
    have hnews : ∀ j u, cs.toList[j]? = some u → (w.alloc (.cells cs e)).cell? ((⟨w.heap.size, 0, none⟩ : Addr).add j) = some u := by
      intro j u hu
      have hcell : (w.alloc (.cells cs e)).cell? ⟨w.heap.size, j, none⟩ = some u := by
        rw [(Blk.new w e cs).cell j]
        simpa using hu
      unfold Addr.add
      split
      · rename_i hj; subst hj; exact hcell
      · simpa using hcell
    have h1' : ∀ u ∈ cs.toList, u.oneCell' = true := fun u hu => List.all_eq_true.1 h1 u hu
    obtain ⟨v', w', hr, h2, h3, _⟩ := run_append_own (P := P) (w := w.alloc (.cells cs e)) base t o.type e i z i.size i.bytes ht hi hz rfl rfl hzs hsz v n xs (hown.alloc _) ⟨w.heap.size, 0, none⟩ 1 1 cs.toList (by simp [hc]) hnews h1' (by unfold maxLen; omega) hlen (by simp; omega)
    obtain ⟨v2, w2, hr2, h4⟩ := run_push_where (P := P) (w := w.alloc (.cells cs e)) base t o.type e i z ht hi hz v n xs (hown.alloc _) ⟨w.heap.size, 0, none⟩ 1 cs.toList (by simp [hc]) hnews h1' hn hlen
    rw [hr] at hr2
    injection hr2 with e1 e2
    subst e1
    unfold Oper.wp execOp
    simp only [ho, resolve, invoke, builtin, Sem.run_bind, Sem.run_pure, Result.andThen_ok, List.map_toArray, List.map_cons, List.map_nil, hs, hx, hr]
    refine hK _ _ (h v' w' h2 h3 ?_)
    rcases h4 with h4 | ⟨q, h4, h5⟩
    · exact .inl h4
    · exact .inr ⟨q, h4, by simp at h5; omega⟩
end Go.Proofs.Ytmcekdjhkjhcdaa.Hy
