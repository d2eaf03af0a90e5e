import Derived.Test.YtdjpfhmhcocfeaaGlueV
/- GlueLaws: its ways joined. No conditions. -/
namespace Go.Proofs.Ytdjpfhmhcocfeaa.Gl
open Go.ChangeShapes Go.WideShapes Go.ChangeAt Go.RowKit
open Me
set_option linter.unusedVariables false

theorem laws_any (xn xs xh xa xb yn ys yh ya yb zn zs zh za zb k : Int) (w : World) :
    Calls Try.prog 8 #[.agg #[.int .i64 xn, .int .i64 xs, .int .i64 xh, .int .i64 xa, .int .i64 xb], .agg #[.int .i64 yn, .int .i64 ys, .int .i64 yh, .int .i64 ya, .int .i64 yb], .agg #[.int .i64 zn, .int .i64 zs, .int .i64 zh, .int .i64 za, .int .i64 zb], .int .i64 k] w fun e w' => e = .returned (.bool true) ∧ Below w.heap.size w w' := by
  rcases hP1 : plusG ⟨xn, xs, xh, xa, xb⟩ ⟨yn, ys, yh, ya, yb⟩ with ⟨⟨pn, ps, ph, pa, pb⟩, E1⟩
  have hP2 := (plusG_comm ⟨yn, ys, yh, ya, yb⟩ ⟨xn, xs, xh, xa, xb⟩).trans hP1
  rcases hP3 : plusG ⟨xn, xs, xh, xa, xb⟩ ⟨xn, xs, xh, xa, xb⟩ with ⟨⟨qn, qs, qh, qa, qb⟩, E2⟩
  have hP4 := (plusG_twice ⟨xn, xs, xh, xa, xb⟩).symm.trans hP3
  rcases hP5 : timesG ⟨xn, xs, xh, xa, xb⟩ k with ⟨⟨tn, ts, th, ta, tb⟩, E3⟩
  rcases hP8 : plusG ⟨yn, ys, yh, ya, yb⟩ ⟨zn, zs, zh, za, zb⟩ with ⟨⟨un, us, uh, ua, ub⟩, E5⟩
  rcases hP9 : plusG ⟨pn, ps, ph, pa, pb⟩ ⟨zn, zs, zh, za, zb⟩ with ⟨⟨vn, vs, vh, va, vb⟩, E8⟩
  rcases hPA : plusG ⟨xn, xs, xh, xa, xb⟩ ⟨un, us, uh, ua, ub⟩ with ⟨⟨rn, rs, rh, ra, rb⟩, E9⟩
  by_cases h3 : E3 = 0
  · subst h3
    by_cases hk : k = 0
    · exact laws_nil xn xs xh xa xb yn ys yh ya yb zn zs zh za zb pn ps ph pa pb qn qs qh qa qb tn ts th ta tb 0 0 0 0 0 un us uh ua ub vn vs vh va vb rn rs rh ra rb k E1 E2 0 E5 E8 E9 w hP1 hP2 hP3 hP4 hP5 hP8 hP9 hPA rfl (by simp [hk])
    · obtain ⟨h6, h7⟩ := times_over hP5 hk
      rcases hP7 : timesG ⟨xn, xs, xh, xa, xb⟩ 1 with ⟨⟨on, os, oh, oa, ob⟩, E7⟩
      rw [hP7] at h6 h7
      simp only at h7
      subst h7
      exact laws_back xn xs xh xa xb yn ys yh ya yb zn zs zh za zb pn ps ph pa pb qn qs qh qa qb tn ts th ta tb on os oh oa ob un us uh ua ub vn vs vh va vb rn rs rh ra rb k E1 E2 0 E5 E8 E9 w hP1 hP2 hP3 hP4 hP5 hP8 hP9 hPA rfl (by simp [hk]) h6 hP7
  · exact laws_far xn xs xh xa xb yn ys yh ya yb zn zs zh za zb pn ps ph pa pb qn qs qh qa qb tn ts th ta tb 0 0 0 0 0 un us uh ua ub vn vs vh va vb rn rs rh ra rb k E1 E2 E3 E5 E8 E9 w hP1 hP2 hP3 hP4 hP5 hP8 hP9 hPA (by simp [h3])
end Go.Proofs.Ytdjpfhmhcocfeaa.Gl
