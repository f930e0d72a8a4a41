/- Part 23 of what the row rests on: each text as it stands among the working texts, cut to what is used; those of the print of the kit as a program printed them. -/
import Derived.Test.YtiephlhohgohcaaMore21
import Derived.SizedLaws
set_option linter.unusedVariables false
set_option linter.unusedSimpArgs false
namespace Go.Proofs.Ytiephlhohgohcaa.PAll
open Go.RowKit Go.WideShapes Go.Proofs.YtiephlhohgohcaaW.PrintWords Go.Proofs.YtiephlhohgohcaaW.PrintLast Go.Proofs.YtiephlhohgohcaaW.PrintMore
set_option linter.unusedVariables false
set_option linter.unusedSimpArgs false
set_option maxRecDepth 100000 in
/-- The routes of a post that came in are no more than memory holds. -/
theorem post_sized {H : Type} {enc : TypeId × Value → H} {W : World} {r : Reach} {b0 : Nat} {sp : Nat → Bool} {hd : Bool} {A0 A1 : Option Addr} {n0 c0 n1 c1 : Nat} {pat : Int} {d : DataW H} {p : List MemPlace} {ts : List TypeId} {ds : List (DataW H)} {j : Nat}
    (hsz : (DataW.weightsEach Try.prog ts ds).all (· ≤ reachBytes) = true) (ht : ts[j]? = some 25) (hdd : ds[j]? = some d)
    (hv : Value.okWide Try.prog W r b0 25 (.agg #[.slice A0 n0 c0, .slice A1 n1 c1, .int .i64 pat])) (h : DataW.Trod enc Try.prog W 0 sp hd 25 (.agg #[.slice A0 n0 c0, .slice A1 n1 c1, .int .i64 pat]) d p) : n1 * 32 ≤ 140737488351232 := by
  obtain ⟨v0, v1, v2, y0, y1, y2, n, hvv, hdv, _, t0, t1, t2⟩ := Go.Joins.open_agg3 Try.underlying25 (by kernel_rfl) (by kernel_rfl) hv h
  have hvl : v1 = .slice A1 n1 c1 := by
    injection hvv with hvv
    have := congrArg (fun a : Array Value => a[1]?) hvv
    simp at this
    exact this.symm
  subst hvl
  rcases Go.Deep.open_slice (P := Try.prog) (e := 54) (by kernel_rfl) t1 with ⟨h1, _⟩ | ⟨a, len, cap, m, k, D, Pl, h1, _, hl, hm, hmm, hx, _⟩
  · injection h1 with h1
    injection h1 with _ h1
    omega
  · injection h1 with h1
    injection h1 with _ h1
    have hy : y1.1 = .slice ((List.range len).map D) ((List.range (m - len)).map fun j => D (len + j)) := by rw [hx]
    have hb : Try.prog.bytesOf 54 = 32 := by kernel_rfl
    have hu : Try.prog.underlying 23 = some (.slice 54) := by kernel_rfl
    have := List.all_eq_true.1 hsz _ (DataW.weights_mem_each ht hdd ((len + (m - len)) * 32) (by
      rw [hdv]
      simp only [DataW.weights, Try.underlying25, Array.toList, List.map_cons, List.map_nil, DataW.weightsEach, List.mem_append]
      refine .inr (.inl ?_)
      show (len + (m - len)) * 32 ∈ DataW.weights Try.prog 23 y1.1
      rw [hy]
      simp [DataW.weights, hu, hb]))
    have h2 : (len + (m - len)) * 32 ≤ reachBytes := by simpa using this
    have h3 : reachBytes = 140737488351232 := rfl
    rw [h3] at h2
    omega
end Go.Proofs.Ytiephlhohgohcaa.PAll
