import Derived.Test.YtmcekdjhkjhcdaaHyd
import Derived.Test.YtmcekdjhkjhcdaaHdw
/- An exception is put in its place: the library's Insert at the end of a row. Conditions: those that each theorem names. -/
namespace Go.Proofs.Ytmcekdjhkjhcdaa.Hy
open Go.ChangeShapes Go.WideShapes Go.ChangeAt Go.RowKit
open Me Hp
set_option linter.unusedVariables false
set_option linter.unusedSimpArgs false

/-- An append of one element that lies anywhere, onto a row of the call's own; where the answer lies. -/
theorem wpList_push_from {P : Program} {ops : Array Oper} {rest : List Oper} {o : Oper} {a : Act} {Q : Exit → Act → World → Prop} {w : World} (hgd : o.guard = none) (s x : Operand) (t : TypeId)
    (ho : o.op = .call { callee := .builtin .append, args := #[s, x], argTypes := #[t, t] }) (base : Nat) (e : TypeId) (z : Value) (size bytes : Nat) (ht : P.underlying t = some (.slice e))
    (hinfo : (P.info? e).map (fun i => (i.zero, i.size, i.bytes)) = some (some z, size, bytes)) (hzs : z.cells.size = size) (hsz : 0 < size) (hby : 0 < bytes)
    (v : Value) (n : Nat) (xs : List Value) (hs : a.eval s = v) (hown : w.ownsRow base e size v n xs) (hbase : base ≤ w.heap.size)
    (cs : Array Value) (hc : cs.size = size) (h1 : cs.toList.all (fun u => u.oneCell') = true) {g : Nat} {te : TypeId} (hx : a.eval x = .slice (some ⟨g, 0, none⟩) 1 1) (hg : Blk w g te cs) (hlen : (n + 1) * bytes ≤ 140737488355328)
    (h : ∀ v' w', w'.ownsRow base e size v' (n + 1) (xs ++ cs.toList) → w.grownBy w' v.ownBlock → (v'.ownBlock = v.ownBlock ∨ ∃ q, v'.ownBlock = some q ∧ w.heap.size ≤ q) → wpList P ops Q rest (a.put o.dst v') w') :
    wpList P ops Q (o :: rest) a w :=
  wpList_plain hgd fun K hK => by
    obtain ⟨i, hi, hz, hsi, hbi⟩ := info_parts hinfo
    subst hsi hbi
    have hn : n + 1 ≤ 140737488355328 := Nat.le_trans (Nat.le_mul_of_pos_right _ hby) hlen
    have hnews : ∀ j u, cs.toList[j]? = some u → w.cell? ((⟨g, 0, none⟩ : Addr).add j) = some u := by
      intro j u hu
      have hcell : w.cell? ⟨g, j, none⟩ = some u := by
        rw [hg.cell j]
        simpa using hu
      unfold Addr.add
      split
      · rename_i hj; subst hj; exact hcell
      · simpa using hcell
    have h1' : ∀ u ∈ cs.toList, u.oneCell' = true := fun u hu => List.all_eq_true.1 h1 u hu
    obtain ⟨v', w', hr, h2, h3, _⟩ := run_append_own (P := P) (w := w) base t o.type e i z i.size i.bytes ht hi hz rfl rfl hzs hsz v n xs hown ⟨g, 0, none⟩ 1 1 cs.toList (by simp [hc]) hnews h1' (by unfold maxLen; omega) hlen hbase
    obtain ⟨v2, w2, hr2, h4⟩ := run_push_where (P := P) (w := w) base t o.type e i z ht hi hz v n xs hown ⟨g, 0, none⟩ 1 cs.toList (by simp [hc]) hnews h1' hn hlen
    rw [hr] at hr2
    injection hr2 with e1 e2
    subst e1
    unfold Oper.wp execOp
    simp only [ho, resolve, invoke, builtin, Sem.run_bind, Sem.run_pure, Result.andThen_ok, List.map_toArray, List.map_cons, List.map_nil, hs, hx, hr]
    exact hK _ _ (h v' w' h2 h3 h4)
theorem two_one {a : ByteArray} {u : Value} (hu : u.oneCell' = true) : (#[Value.string a, u] : Array Value).toList.all (fun u => u.oneCell') = true := by
  show (true && (u.oneCell' && true)) = true
  rw [hu]
  rfl
def insAt {α : Type} (l : List α) (k : Nat) (a : α) : List α := l.take k ++ a :: l.drop k
theorem insAt_end {α : Type} (l : List α) (a : α) : insAt l l.length a = l ++ [a] := by unfold insAt; simp
theorem exc_info : (Try.prog.info? 126).map (fun i => (i.zero, i.size, i.bytes)) = some (some (.agg #[.string ⟨#[]⟩, .slice none 0 0]), 2, 40) := by kernel_rfl
/-- Insert puts x in its place. -/
def InsP (X : List Xc) (x : Xc) : Prop := ∀ (w : World) (B : Nat) (xv u : Value) (g : Nat) (us : List Value), us.length = X.length → (∀ y ∈ us, y.oneCell' = true) → w.ownsRow B 126 2 xv X.length (xcells X us) → u.oneCell' = true → Blk w g 126 #[.string (S x.1), u] → some g ≠ xv.ownBlock →
    B ≤ w.heap.size → X.length < 1000 → Calls Try.prog 85 #[xv, .int .i64 (xk X x.1 : Int), .slice (some ⟨g, 0, none⟩) 1 1] w fun e w' =>
      ∃ xv', e = .returned xv' ∧ w'.ownsRow B 126 2 xv' (X.length + 1) (xcells (insAt X (xk X x.1) x) (insAt us (xk X x.1) u)) ∧ w.grownBy w' xv.ownBlock ∧ (xv'.ownBlock = xv.ownBlock ∨ ∃ q, xv'.ownBlock = some q ∧ w.heap.size ≤ q)
theorem own_sl {w : World} {B n : Nat} {e : TypeId} {size : Nat} {v : Value} {xs : List Value} (h : w.ownsRow B e size v n xs) : ∃ A c, v = .slice A n c ∧ n ≤ c ∧ c ≤ maxLen ∧ (A = none → c = 0) := by
  rcases h.2 with ⟨rfl, h0⟩ | ⟨g, cap, cur, h', _, _, h1, h2, _⟩
  · exact ⟨none, 0, by rw [h0], by omega, by simp [maxLen], fun _ => rfl⟩
  · exact ⟨_, _, h', h1, h2, by intro e; cases e⟩
set_option maxHeartbeats 1000000 in
set_option maxRecDepth 100000 in
theorem ins_end (X : List Xc) (x : Xc) (hk : xk X x.1 = X.length) : InsP X x := by
  intro w B xv u g us hus hus1 hown hu1 hg hgv hB hfew
  rw [hk]
  have e1 : insAt X X.length x = X ++ [x] := insAt_end X x
  have e2 : insAt us X.length u = us ++ [u] := by rw [← hus]; exact insAt_end us u
  rw [e1, e2]
  have hcells : xcells (X ++ [x]) (us ++ [u]) = xcells X us ++ #[Value.string (S x.1), u].toList := by
    unfold xcells
    rw [List.zip_append (by omega), List.flatMap_append]
    rfl
  rw [hcells]
  obtain ⟨A, c, rfl, hnc, hcm, hA⟩ := own_sl hown
  have HO := Lib.hid hown
  have HG := Lib.hid hg
  have hnl : (X.length : Int) ≤ (X.length : Int) := Int.le_refl _
  have hcm' : c ≤ 9223372036854775807 := by unfold maxLen at hcm; omega
  clear hk e1 e2 hcells hown hg
  go_enter Try.func85, Try.ntmps85
  cases A with
  | none =>
    obtain rfl := hA rfl
    have h0 : X.length = 0 := by omega
    rw [h0] at HO ⊢
    go_wp2_with (at_builtin; refine wpList_push_from rfl _ _ 104 rfl B 126 _ 2 40 Try.underlying104 exc_info rfl (by decide) (by decide) _ _ _ rfl HO.out hB _ rfl (two_one hu1) rfl HG.out (by omega) ?_; intro v7 w7 hown7 hg7 hn7; have HD7 := Lib.hid (And.intro hown7 (And.intro hg7 hn7)); clear hown7 hg7 hn7)
    go_ret
    exact ⟨_, rfl, HD7.out⟩
  | some ad =>
    obtain ⟨ab, ao, asp⟩ := ad
    go_wp2_with (at_builtin; refine wpList_push_from rfl _ _ 104 rfl B 126 _ 2 40 Try.underlying104 exc_info rfl (by decide) (by decide) _ _ _ rfl HO.out hB _ rfl (two_one hu1) rfl HG.out (by omega) ?_; intro v7 w7 hown7 hg7 hn7; have HD7 := Lib.hid (And.intro hown7 (And.intro hg7 hn7)); clear hown7 hg7 hn7)
    all_goals
      go_ret
      exact ⟨_, rfl, HD7.out⟩
/-- A byte, as a rune, as a text. -/
theorem rb_enc (c : UInt8) : Utf8.encode (c.toNat : Int) = S (rb c) := by
  have h1 := all_bytes (p := fun c => (Utf8.encode (c.toNat : Int)).data.toList == rb c) (by kernel_rfl) c
  have h2 : (Utf8.encode (c.toNat : Int)).data.toList = rb c := by simpa using h1
  rw [← h2, S_eq]
theorem str_rb (c : UInt8) (w : World) : (convert 21 9 (.int .i32 (c.toNat : Int))).run Try.prog w = .ok (.string (S (rb c))) w := by
  rw [← rb_enc]
  kernel_rfl
theorem word_wide (s : ByteArray) (w : World) (hs : s.size ≤ 4194304) : Calls Try.prog 62 #[.string s] w fun e w' => e = .returned (.bool (wordB s.data.toList)) ∧ w' = w := by
  by_cases h1 : (63 : Int) < s.size
  · have HW := Lib.hid (show wordB s.data.toList = false by unfold wordB; rw [size_list, decide_eq_false (p := s.size ≤ 63) (by omega)]; simp)
    go_enter Try.func62, Try.ntmps62
    go_wp2
    go_ret
    exact ⟨ret_b HW.out.symm, rfl⟩
  · exact word_any s w (by omega)
end Go.Proofs.Ytmcekdjhkjhcdaa.Hy
