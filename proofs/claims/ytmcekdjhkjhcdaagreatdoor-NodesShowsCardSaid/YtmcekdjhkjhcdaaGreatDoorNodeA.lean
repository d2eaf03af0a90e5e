import Derived.Test.YtmcekdjhkjhcdaaGreatDoorRows
import Derived.Test.YtmcekdjhkjhcdaaGreatDoorMem
import Derived.WalkKit
import Derived.ProofKit
import Derived.OpenShut
import Derived.WalkSpells
import Derived.WalkLawsBesides
import Derived.Handy
import Derived.Outline
import Derived.Lib.Hide
import Derived.Deep.DeepCutAuto
import Derived.Laws.StructEq
/- The equality of two nodes (printed by gen_nodes.py). No conditions. -/
namespace Go.Proofs.YtmcekdjhkjhcdaaGreatDoor.No
open Go.ChangeShapes Go.WideShapes Go.ChangeAt Go.RowKit
open Me
set_option linter.unusedVariables false

theorem eqF_cons {P : Program} {d : Nat} {xs ys : Array Value} {f : Field} {fs : List Field} {w : World} {a b : Value} {r s : Bool} (hn : f.name ≠ "_") (pa : (part f.type xs f.offset).run P w = .ok a w)
    (pb : (part f.type ys f.offset).run P w = .ok b w) (hr : (Op.equalIn d f.type a b).run P w = .ok r w) (hs : (Op.eqFields d xs ys fs).run P w = .ok s w) : (Op.eqFields d xs ys (f :: fs)).run P w = .ok (r && s) w := by
  simp only [Op.eqFields, hn, ne_eq, not_false_eq_true, if_true, Sem.run_bind, pa, pb, hr, Result.andThen_ok]
  cases r
  · simp
  · simpa using hs
theorem eqF_last {P : Program} {d : Nat} {xs ys : Array Value} {f : Field} {w : World} {a b : Value} {r : Bool} (hn : f.name ≠ "_") (pa : (part f.type xs f.offset).run P w = .ok a w)
    (pb : (part f.type ys f.offset).run P w = .ok b w) (hr : (Op.equalIn d f.type a b).run P w = .ok r w) : (Op.eqFields d xs ys [f]).run P w = .ok r w := by
  have h := eqF_cons (fs := []) (s := true) hn pa pb hr (by simp [Op.eqFields])
  rwa [Bool.and_true] at h

theorem glueEq (agn ags agh aga agb bgn bgs bgh bga bgb : Int) (d : Nat) (w : World) (hd : d ≠ 0) :
    (Op.equalIn (d + 1) 34 (.agg #[.int .i64 agn, .int .i64 ags, .int .i64 agh, .int .i64 aga, .int .i64 agb]) (.agg #[.int .i64 bgn, .int .i64 bgs, .int .i64 bgh, .int .i64 bga, .int .i64 bgb])).run Tryz.prog w = .ok (agn == bgn && (ags == bgs && (agh == bgh && (aga == bga && agb == bgb)))) w := by
  have hS : Tryz.prog.underlying 34 = some (.struct (Tryz.prog.fieldsOf 34)) := by kernel_rfl
  have hp : Tryz.prog.stoodInHeld 34 = false := by kernel_rfl
  rw [run_equalIn_agg w d _ _ _ hS hp]
  simp only [Program.fieldsOf, Tryz.underlying34]
  match d with
  | 0 => exact absurd rfl hd
  | d + 1 =>
    refine eqF_cons (a := .int .i64 agn) (b := .int .i64 bgn) (by decide) (by kernel_rfl) (by kernel_rfl) (run_equalIn_int w _ _ _ _ _ _ Tryz.underlying3) ?_
    refine eqF_cons (a := .int .i64 ags) (b := .int .i64 bgs) (by decide) (by kernel_rfl) (by kernel_rfl) (run_equalIn_int w _ _ _ _ _ _ Tryz.underlying3) ?_
    refine eqF_cons (a := .int .i64 agh) (b := .int .i64 bgh) (by decide) (by kernel_rfl) (by kernel_rfl) (run_equalIn_int w _ _ _ _ _ _ Tryz.underlying3) ?_
    refine eqF_cons (a := .int .i64 aga) (b := .int .i64 bga) (by decide) (by kernel_rfl) (by kernel_rfl) (run_equalIn_int w _ _ _ _ _ _ Tryz.underlying3) ?_
    refine eqF_last (a := .int .i64 agb) (b := .int .i64 bgb) (by decide) (by kernel_rfl) (by kernel_rfl) (run_equalIn_int w _ _ _ _ _ _ Tryz.underlying3)

theorem eqlN (akind afont achar awd aht adp ashift agn ags agh aga agb asign aorder anum aden apen asub bkind bfont bchar bwd bht bdp bshift bgn bgs bgh bga bgb bsign border bnum bden bpen bsub : Int) (atext btext : ByteArray) (w : World) :
    (binOp .eql 36 (.agg #[.int .i64 akind, .int .i64 afont, .int .u8 achar, .int .i64 awd, .int .i64 aht, .int .i64 adp, .int .i64 ashift, .int .i64 agn, .int .i64 ags, .int .i64 agh, .int .i64 aga, .int .i64 agb, .int .i64 asign, .int .i64 aorder, .int .i64 anum, .int .i64 aden, .int .i64 apen, .int .i64 asub, .string atext]) (.agg #[.int .i64 bkind, .int .i64 bfont, .int .u8 bchar, .int .i64 bwd, .int .i64 bht, .int .i64 bdp, .int .i64 bshift, .int .i64 bgn, .int .i64 bgs, .int .i64 bgh, .int .i64 bga, .int .i64 bgb, .int .i64 bsign, .int .i64 border, .int .i64 bnum, .int .i64 bden, .int .i64 bpen, .int .i64 bsub, .string btext])).run Tryz.prog w = .ok (.bool (akind == bkind && (afont == bfont && (achar == bchar && (awd == bwd && (aht == bht && (adp == bdp && (ashift == bshift && ((agn == bgn && (ags == bgs && (agh == bgh && (aga == bga && agb == bgb)))) && (asign == bsign && (aorder == border && (anum == bnum && (aden == bden && (apen == bpen && (asub == bsub && (atext.toList == btext.toList)))))))))))))))) w := by
  have hS : Tryz.prog.underlying 36 = some (.struct (Tryz.prog.fieldsOf 36)) := by kernel_rfl
  have hp : Tryz.prog.stoodInHeld 36 = false := by kernel_rfl
  have h : (Op.equalIn 10000 36 (.agg #[.int .i64 akind, .int .i64 afont, .int .u8 achar, .int .i64 awd, .int .i64 aht, .int .i64 adp, .int .i64 ashift, .int .i64 agn, .int .i64 ags, .int .i64 agh, .int .i64 aga, .int .i64 agb, .int .i64 asign, .int .i64 aorder, .int .i64 anum, .int .i64 aden, .int .i64 apen, .int .i64 asub, .string atext]) (.agg #[.int .i64 bkind, .int .i64 bfont, .int .u8 bchar, .int .i64 bwd, .int .i64 bht, .int .i64 bdp, .int .i64 bshift, .int .i64 bgn, .int .i64 bgs, .int .i64 bgh, .int .i64 bga, .int .i64 bgb, .int .i64 bsign, .int .i64 border, .int .i64 bnum, .int .i64 bden, .int .i64 bpen, .int .i64 bsub, .string btext])).run Tryz.prog w = .ok (akind == bkind && (afont == bfont && (achar == bchar && (awd == bwd && (aht == bht && (adp == bdp && (ashift == bshift && ((agn == bgn && (ags == bgs && (agh == bgh && (aga == bga && agb == bgb)))) && (asign == bsign && (aorder == border && (anum == bnum && (aden == bden && (apen == bpen && (asub == bsub && (atext.toList == btext.toList))))))))))))))) w := by
    rw [show (10000 : Nat) = 9999 + 1 from rfl, run_equalIn_agg w 9999 _ _ _ hS hp]
    simp only [Program.fieldsOf, Tryz.underlying36]
    refine eqF_cons (a := .int .i64 akind) (b := .int .i64 bkind) (by decide) (by kernel_rfl) (by kernel_rfl) (run_equalIn_int w _ _ _ _ _ _ Tryz.underlying3) ?_
    refine eqF_cons (a := .int .i64 afont) (b := .int .i64 bfont) (by decide) (by kernel_rfl) (by kernel_rfl) (run_equalIn_int w _ _ _ _ _ _ Tryz.underlying3) ?_
    refine eqF_cons (a := .int .u8 achar) (b := .int .u8 bchar) (by decide) (by kernel_rfl) (by kernel_rfl) (run_equalIn_int w _ _ _ _ _ _ Tryz.underlying5) ?_
    refine eqF_cons (a := .int .i64 awd) (b := .int .i64 bwd) (by decide) (by kernel_rfl) (by kernel_rfl) (run_equalIn_int w _ _ _ _ _ _ Tryz.underlying3) ?_
    refine eqF_cons (a := .int .i64 aht) (b := .int .i64 bht) (by decide) (by kernel_rfl) (by kernel_rfl) (run_equalIn_int w _ _ _ _ _ _ Tryz.underlying3) ?_
    refine eqF_cons (a := .int .i64 adp) (b := .int .i64 bdp) (by decide) (by kernel_rfl) (by kernel_rfl) (run_equalIn_int w _ _ _ _ _ _ Tryz.underlying3) ?_
    refine eqF_cons (a := .int .i64 ashift) (b := .int .i64 bshift) (by decide) (by kernel_rfl) (by kernel_rfl) (run_equalIn_int w _ _ _ _ _ _ Tryz.underlying3) ?_
    refine eqF_cons (a := .agg #[.int .i64 agn, .int .i64 ags, .int .i64 agh, .int .i64 aga, .int .i64 agb]) (b := .agg #[.int .i64 bgn, .int .i64 bgs, .int .i64 bgh, .int .i64 bga, .int .i64 bgb]) (by decide) (by kernel_rfl) (by kernel_rfl) (glueEq agn ags agh aga agb bgn bgs bgh bga bgb 9998 w (by omega)) ?_
    refine eqF_cons (a := .int .i64 asign) (b := .int .i64 bsign) (by decide) (by kernel_rfl) (by kernel_rfl) (run_equalIn_int w _ _ _ _ _ _ Tryz.underlying3) ?_
    refine eqF_cons (a := .int .i64 aorder) (b := .int .i64 border) (by decide) (by kernel_rfl) (by kernel_rfl) (run_equalIn_int w _ _ _ _ _ _ Tryz.underlying3) ?_
    refine eqF_cons (a := .int .i64 anum) (b := .int .i64 bnum) (by decide) (by kernel_rfl) (by kernel_rfl) (run_equalIn_int w _ _ _ _ _ _ Tryz.underlying3) ?_
    refine eqF_cons (a := .int .i64 aden) (b := .int .i64 bden) (by decide) (by kernel_rfl) (by kernel_rfl) (run_equalIn_int w _ _ _ _ _ _ Tryz.underlying3) ?_
    refine eqF_cons (a := .int .i64 apen) (b := .int .i64 bpen) (by decide) (by kernel_rfl) (by kernel_rfl) (run_equalIn_int w _ _ _ _ _ _ Tryz.underlying3) ?_
    refine eqF_cons (a := .int .i64 asub) (b := .int .i64 bsub) (by decide) (by kernel_rfl) (by kernel_rfl) (run_equalIn_int w _ _ _ _ _ _ Tryz.underlying3) ?_
    refine eqF_last (a := .string atext) (b := .string btext) (by decide) (by kernel_rfl) (by kernel_rfl) (run_equalIn_string w _ _ _ _ Tryz.underlying9)
  rw [run_eql_struct, h]
  rfl
end Go.Proofs.YtmcekdjhkjhcdaaGreatDoor.No
