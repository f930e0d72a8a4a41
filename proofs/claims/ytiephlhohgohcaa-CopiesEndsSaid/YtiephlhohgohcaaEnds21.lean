/- Part 21 of what the row rests on: each text as it stands among the working texts, cut to what is used; those of the print of the kit as a program printed them. -/
import Derived.Test.YtiephlhohgohcaaEnds10
import Derived.Test.YtiephlhohgohcaaEnds18
set_option linter.unusedVariables false
set_option linter.unusedSimpArgs false
namespace Go.Proofs.Ytiephlhohgohcaa.PAll
open Go.RowKit Go.WideShapes Go.Proofs.YtiephlhohgohcaaW.PrintWords Go.Proofs.YtiephlhohgohcaaW.PrintLast Go.Proofs.YtiephlhohgohcaaW.PrintMore
set_option linter.unusedVariables false
set_option linter.unusedSimpArgs false
set_option maxRecDepth 100000 in
theorem post_arg {H : Type} {enc : TypeId × Value → H} {W : World} {r : Reach} {b0 : Nat} {sp : Nat → Bool} {hd : Bool} {v : Value} {d : DataW H} {p : List MemPlace} (hv : Value.okWide Try.prog W r b0 25 v) (h : DataW.Trod enc Try.prog W 0 sp hd 25 v d p) :
    ∃ A0 c0 sends A1 c1 routes pat, v = .agg #[.slice A0 (sends : List Int).length c0, .slice A1 (routes : List S54).length c1, .int .i64 pat] ∧ PostAt W A0 c0 sends A1 c1 routes ∧ (Lit.int .i64 pat).wf = true := by
  obtain ⟨v0, v1, v2, y0, y1, y2, n, rfl, _, _, t0, t1, t2⟩ := Go.Joins.open_agg3 Try.underlying25 (by kernel_rfl) (by kernel_rfl) hv h
  obtain ⟨sends, ⟨A0, c0, e0, l0, h0⟩, _⟩ := opens22.2 enc W sp hd n _ _ t0
  obtain ⟨routes, ⟨A1, c1, e1, l1, h1⟩, _⟩ := opens23.2 enc W sp hd n _ _ t1
  obtain ⟨pat, e2, w2⟩ := opens3.2 enc W sp hd n _ _ t2
  injection e0 with e0
  injection e1 with e1
  injection e2 with e2
  subst e0
  subst e1
  subst e2
  exact ⟨A0, c0, sends, A1, c1, routes, pat, rfl, ⟨h0, l0, h1, l1⟩, w2⟩
end Go.Proofs.Ytiephlhohgohcaa.PAll
