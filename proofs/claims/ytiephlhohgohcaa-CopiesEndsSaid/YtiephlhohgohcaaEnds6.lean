/- Part 6 of what the row rests on: each text as it stands among the working texts, cut to what is used; those of the print of the kit as a program printed them. -/
import Derived.Test.YtiephlhohgohcaaEnds5
set_option linter.unusedVariables false
set_option linter.unusedSimpArgs false
namespace Go.Proofs.Ytiephlhohgohcaa.PAll
open Go.RowKit Go.Proofs.YtiephlhohgohcaaW.PrintWords Go.Proofs.YtiephlhohgohcaaW.PrintLast Go.Proofs.YtiephlhohgohcaaW.PrintMore
attribute [local go_sem] max2_int min2_int max_two min_two max_three min_three max_four min_four   -- for this text's walks alone
set_option linter.unusedVariables false
set_option linter.unusedSimpArgs false
mutual
def glisterref05_Fault.j0 : Nat → Int → Bool → List Int → List (S54) → Int → Option (Int)
 | 0, _, _, _, _, _ => none
 | k + 1, x3, x18, x204000, x204001, x204002 => if x18 = true then (some 3) else (if (x204000.length : Int) = 0 then (glisterref05_Fault.j1 k x3 true x204000 x204001 x204002) else (if (x204001.length : Int) = 0 then (glisterref05_Fault.j1 k x3 true x204000 x204001 x204002) else ((glisterref05_In.f x204002 0 30).bind fun t204 => (glisterref05_Fault.j1 k x3 (!t204) x204000 x204001 x204002))))
def glisterref05_Fault.j1 : Nat → Int → Bool → List Int → List (S54) → Int → Option (Int)
 | 0, _, _, _, _, _ => none
 | k + 1, x3, x34, x204000, x204001, x204002 => if x34 = true then (glisterref05_Fault.j2 k 1 x204000 x204001 x204002) else (glisterref05_Fault.j2 k x3 x204000 x204001 x204002)
def glisterref05_Fault.j2 : Nat → Int → List Int → List (S54) → Int → Option (Int)
 | 0, _, _, _, _ => none
 | k + 1, x3, x204000, x204001, x204002 => glisterref05_Fault.l0 k x3 0 x204000 x204001 x204002
def glisterref05_Fault.l0 : Nat → Int → Int → List Int → List (S54) → Int → Option (Int)
 | 0, _, _, _, _, _ => none
 | k + 1, x3, x4, x204000, x204001, x204002 => if x4 < (x204000.length : Int) then (if 0 ≤ x4 then ((glisterref05_In.f (rd x204000 x4) 0 30).bind fun t206 => (if t206 = true then (if x4 > 0 then (if 0 ≤ (wrap64 (x4 - 1)) then (if (wrap64 (x4 - 1)) < (x204000.length : Int) then (if (rd x204000 x4) ≤ (rd x204000 (wrap64 (x4 - 1))) then (glisterref05_Fault.l0 k 1 (wrap64 (x4 + 1)) x204000 x204001 x204002) else (glisterref05_Fault.l0 k x3 (wrap64 (x4 + 1)) x204000 x204001 x204002)) else (none)) else (none)) else (glisterref05_Fault.l0 k x3 (wrap64 (x4 + 1)) x204000 x204001 x204002)) else (glisterref05_Fault.l0 k 1 (wrap64 (x4 + 1)) x204000 x204001 x204002))) else (none)) else (glisterref05_Fault.l1 k x3 0 x204000 x204001 x204002)
def glisterref05_Fault.l1 : Nat → Int → Int → List Int → List (S54) → Int → Option (Int)
 | 0, _, _, _, _, _ => none
 | k + 1, x3, x5, x204000, x204001, x204002 => if x5 < (x204001.length : Int) then (if 0 ≤ x5 then (if (((rd_T54 x204001 x5).f0).length : Int) > 3 then (some 3) else (if (((rd_T54 x204001 x5).f0).length : Int) = 0 then (glisterref05_Fault.j5 k 1 x5 ((rd_T54 x204001 x5).f0) x204000 x204001 x204002) else (glisterref05_Fault.j5 k x3 x5 ((rd_T54 x204001 x5).f0) x204000 x204001 x204002))) else (none)) else (some x3)
def glisterref05_Fault.j5 : Nat → Int → Int → List (S101) → List Int → List (S54) → Int → Option (Int)
 | 0, _, _, _, _, _, _ => none
 | k + 1, x3, x5, x6, x204000, x204001, x204002 => glisterref05_Fault.l2 k x3 x5 x6 0 x204000 x204001 x204002
def glisterref05_Fault.l2 : Nat → Int → Int → List (S101) → Int → List Int → List (S54) → Int → Option (Int)
 | 0, _, _, _, _, _, _, _ => none
 | k + 1, x3, x5, x6, x7, x204000, x204001, x204002 => if x7 < (x6.length : Int) then (if 0 ≤ x7 then (if (((rd_T101 x6 x7).f1).length : Int) > 2 then (some 3) else ((glisterref05_Span.f ((rd_T101 x6 x7).f0.f0) ((rd_T101 x6 x7).f0.f1) 6).bind fun t212 => (if t212 = true then (glisterref05_Fault.j7 k x3 x5 x6 x7 x204000 x204001 x204002) else (glisterref05_Fault.j7 k 1 x5 x6 x7 x204000 x204001 x204002)))) else (none)) else (glisterref05_Fault.l1 k x3 (wrap64 (x5 + 1)) x204000 x204001 x204002)
def glisterref05_Fault.j7 : Nat → Int → Int → List (S101) → Int → List Int → List (S54) → Int → Option (Int)
 | 0, _, _, _, _, _, _, _ => none
 | k + 1, x3, x5, x6, x7, x204000, x204001, x204002 => glisterref05_Fault.l3 k x3 x5 x6 x7 0 x204000 x204001 x204002
def glisterref05_Fault.l3 : Nat → Int → Int → List (S101) → Int → Int → List Int → List (S54) → Int → Option (Int)
 | 0, _, _, _, _, _, _, _, _ => none
 | k + 1, x3, x5, x6, x7, x8, x204000, x204001, x204002 => if 0 ≤ x7 then (if x7 < (x6.length : Int) then (if x8 < (((rd_T101 x6 x7).f1).length : Int) then (if 0 ≤ x8 then ((glisterref05_Span.f ((rd_T64 ((rd_T101 x6 x7).f1) x8).f0) ((rd_T64 ((rd_T101 x6 x7).f1) x8).f1) 30).bind fun t216 => (if t216 = true then (glisterref05_Fault.l3 k x3 x5 x6 x7 (wrap64 (x8 + 1)) x204000 x204001 x204002) else (glisterref05_Fault.l3 k 1 x5 x6 x7 (wrap64 (x8 + 1)) x204000 x204001 x204002))) else (none)) else (glisterref05_Fault.l2 k x3 x5 x6 (wrap64 (x7 + 1)) x204000 x204001 x204002)) else (none)) else (none)
end
def glisterref05_Fault.f (k : Nat) (l0_0 : List Int) (l0_1 : List (S54)) (a0_2 : Int) : Option (Int) := if (l0_0.length : Int) > 4 then (glisterref05_Fault.j0 k 0 true l0_0 l0_1 a0_2) else (glisterref05_Fault.j0 k 0 (decide ((l0_1.length : Int) > 3)) l0_0 l0_1 a0_2)
theorem glisterref05_Fault.mono_l : ∀ k, (∀ y0 y1 y2 y3 y4, LeO (glisterref05_Fault.j0 k y0 y1 y2 y3 y4) (glisterref05_Fault.j0 (k + 1) y0 y1 y2 y3 y4)) ∧ (∀ y0 y1 y2 y3 y4, LeO (glisterref05_Fault.j1 k y0 y1 y2 y3 y4) (glisterref05_Fault.j1 (k + 1) y0 y1 y2 y3 y4)) ∧ (∀ y0 y1 y2 y3, LeO (glisterref05_Fault.j2 k y0 y1 y2 y3) (glisterref05_Fault.j2 (k + 1) y0 y1 y2 y3)) ∧ (∀ y0 y1 y2 y3 y4, LeO (glisterref05_Fault.l0 k y0 y1 y2 y3 y4) (glisterref05_Fault.l0 (k + 1) y0 y1 y2 y3 y4)) ∧ (∀ y0 y1 y2 y3 y4, LeO (glisterref05_Fault.l1 k y0 y1 y2 y3 y4) (glisterref05_Fault.l1 (k + 1) y0 y1 y2 y3 y4)) ∧ (∀ y0 y1 y2 y3 y4 y5, LeO (glisterref05_Fault.j5 k y0 y1 y2 y3 y4 y5) (glisterref05_Fault.j5 (k + 1) y0 y1 y2 y3 y4 y5)) ∧ (∀ y0 y1 y2 y3 y4 y5 y6, LeO (glisterref05_Fault.l2 k y0 y1 y2 y3 y4 y5 y6) (glisterref05_Fault.l2 (k + 1) y0 y1 y2 y3 y4 y5 y6)) ∧ (∀ y0 y1 y2 y3 y4 y5 y6, LeO (glisterref05_Fault.j7 k y0 y1 y2 y3 y4 y5 y6) (glisterref05_Fault.j7 (k + 1) y0 y1 y2 y3 y4 y5 y6)) ∧ (∀ y0 y1 y2 y3 y4 y5 y6 y7, LeO (glisterref05_Fault.l3 k y0 y1 y2 y3 y4 y5 y6 y7) (glisterref05_Fault.l3 (k + 1) y0 y1 y2 y3 y4 y5 y6 y7))
 | 0 => ⟨fun _ _ _ _ _ r h => by simp [glisterref05_Fault.j0] at h, fun _ _ _ _ _ r h => by simp [glisterref05_Fault.j1] at h, fun _ _ _ _ r h => by simp [glisterref05_Fault.j2] at h, fun _ _ _ _ _ r h => by simp [glisterref05_Fault.l0] at h, fun _ _ _ _ _ r h => by simp [glisterref05_Fault.l1] at h, fun _ _ _ _ _ _ r h => by simp [glisterref05_Fault.j5] at h, fun _ _ _ _ _ _ _ r h => by simp [glisterref05_Fault.l2] at h, fun _ _ _ _ _ _ _ r h => by simp [glisterref05_Fault.j7] at h, fun _ _ _ _ _ _ _ _ r h => by simp [glisterref05_Fault.l3] at h⟩
 | k + 1 => by
  obtain ⟨ih0, ih1, ih2, ih3, ih4, ih5, ih6, ih7, ih8⟩ := glisterref05_Fault.mono_l k
  refine ⟨?_, ?_, ?_, ?_, ?_, ?_, ?_, ?_, ?_⟩
  ·intro y0 y1 y2 y3 y4
   unfold glisterref05_Fault.j0
   repeat' first
   | (with_reducible exact ih0 _ _ _ _ _)
   | (with_reducible exact ih1 _ _ _ _ _)
   | (with_reducible exact ih2 _ _ _ _)
   | (with_reducible exact ih3 _ _ _ _ _)
   | (with_reducible exact ih4 _ _ _ _ _)
   | (with_reducible exact ih5 _ _ _ _ _ _)
   | (with_reducible exact ih6 _ _ _ _ _ _ _)
   | (with_reducible exact ih7 _ _ _ _ _ _ _)
   | (with_reducible exact ih8 _ _ _ _ _ _ _ _)
   | (with_reducible exact LeO.refl _)
   | (with_reducible exact LeO.none _)
   | (with_reducible refine LeO.ite ?_ ?_)
   | (with_reducible refine LeO.bind ?_ (fun _ => ?_))
   | exact ih0 _ _ _ _ _
   | exact ih1 _ _ _ _ _
   | exact ih2 _ _ _ _
   | exact ih3 _ _ _ _ _
   | exact ih4 _ _ _ _ _
   | exact ih5 _ _ _ _ _ _
   | exact ih6 _ _ _ _ _ _ _
   | exact ih7 _ _ _ _ _ _ _
   | exact ih8 _ _ _ _ _ _ _ _
   | exact LeO.none _
   | refine LeO.ite ?_ ?_
   | refine LeO.bind ?_ (fun _ => ?_)
  ·intro y0 y1 y2 y3 y4
   unfold glisterref05_Fault.j1
   repeat' first
   | (with_reducible exact ih0 _ _ _ _ _)
   | (with_reducible exact ih1 _ _ _ _ _)
   | (with_reducible exact ih2 _ _ _ _)
   | (with_reducible exact ih3 _ _ _ _ _)
   | (with_reducible exact ih4 _ _ _ _ _)
   | (with_reducible exact ih5 _ _ _ _ _ _)
   | (with_reducible exact ih6 _ _ _ _ _ _ _)
   | (with_reducible exact ih7 _ _ _ _ _ _ _)
   | (with_reducible exact ih8 _ _ _ _ _ _ _ _)
   | (with_reducible exact LeO.refl _)
   | (with_reducible exact LeO.none _)
   | (with_reducible refine LeO.ite ?_ ?_)
   | (with_reducible refine LeO.bind ?_ (fun _ => ?_))
   | exact ih0 _ _ _ _ _
   | exact ih1 _ _ _ _ _
   | exact ih2 _ _ _ _
   | exact ih3 _ _ _ _ _
   | exact ih4 _ _ _ _ _
   | exact ih5 _ _ _ _ _ _
   | exact ih6 _ _ _ _ _ _ _
   | exact ih7 _ _ _ _ _ _ _
   | exact ih8 _ _ _ _ _ _ _ _
   | exact LeO.none _
   | refine LeO.ite ?_ ?_
   | refine LeO.bind ?_ (fun _ => ?_)
  ·intro y0 y1 y2 y3
   unfold glisterref05_Fault.j2
   repeat' first
   | (with_reducible exact ih0 _ _ _ _ _)
   | (with_reducible exact ih1 _ _ _ _ _)
   | (with_reducible exact ih2 _ _ _ _)
   | (with_reducible exact ih3 _ _ _ _ _)
   | (with_reducible exact ih4 _ _ _ _ _)
   | (with_reducible exact ih5 _ _ _ _ _ _)
   | (with_reducible exact ih6 _ _ _ _ _ _ _)
   | (with_reducible exact ih7 _ _ _ _ _ _ _)
   | (with_reducible exact ih8 _ _ _ _ _ _ _ _)
   | (with_reducible exact LeO.refl _)
   | (with_reducible exact LeO.none _)
   | (with_reducible refine LeO.ite ?_ ?_)
   | (with_reducible refine LeO.bind ?_ (fun _ => ?_))
   | exact ih0 _ _ _ _ _
   | exact ih1 _ _ _ _ _
   | exact ih2 _ _ _ _
   | exact ih3 _ _ _ _ _
   | exact ih4 _ _ _ _ _
   | exact ih5 _ _ _ _ _ _
   | exact ih6 _ _ _ _ _ _ _
   | exact ih7 _ _ _ _ _ _ _
   | exact ih8 _ _ _ _ _ _ _ _
   | exact LeO.none _
   | refine LeO.ite ?_ ?_
   | refine LeO.bind ?_ (fun _ => ?_)
  ·intro y0 y1 y2 y3 y4
   unfold glisterref05_Fault.l0
   repeat' first
   | (with_reducible exact ih0 _ _ _ _ _)
   | (with_reducible exact ih1 _ _ _ _ _)
   | (with_reducible exact ih2 _ _ _ _)
   | (with_reducible exact ih3 _ _ _ _ _)
   | (with_reducible exact ih4 _ _ _ _ _)
   | (with_reducible exact ih5 _ _ _ _ _ _)
   | (with_reducible exact ih6 _ _ _ _ _ _ _)
   | (with_reducible exact ih7 _ _ _ _ _ _ _)
   | (with_reducible exact ih8 _ _ _ _ _ _ _ _)
   | (with_reducible exact LeO.refl _)
   | (with_reducible exact LeO.none _)
   | (with_reducible refine LeO.ite ?_ ?_)
   | (with_reducible refine LeO.bind ?_ (fun _ => ?_))
   | exact ih0 _ _ _ _ _
   | exact ih1 _ _ _ _ _
   | exact ih2 _ _ _ _
   | exact ih3 _ _ _ _ _
   | exact ih4 _ _ _ _ _
   | exact ih5 _ _ _ _ _ _
   | exact ih6 _ _ _ _ _ _ _
   | exact ih7 _ _ _ _ _ _ _
   | exact ih8 _ _ _ _ _ _ _ _
   | exact LeO.none _
   | refine LeO.ite ?_ ?_
   | refine LeO.bind ?_ (fun _ => ?_)
  ·intro y0 y1 y2 y3 y4
   unfold glisterref05_Fault.l1
   repeat' first
   | (with_reducible exact ih0 _ _ _ _ _)
   | (with_reducible exact ih1 _ _ _ _ _)
   | (with_reducible exact ih2 _ _ _ _)
   | (with_reducible exact ih3 _ _ _ _ _)
   | (with_reducible exact ih4 _ _ _ _ _)
   | (with_reducible exact ih5 _ _ _ _ _ _)
   | (with_reducible exact ih6 _ _ _ _ _ _ _)
   | (with_reducible exact ih7 _ _ _ _ _ _ _)
   | (with_reducible exact ih8 _ _ _ _ _ _ _ _)
   | (with_reducible exact LeO.refl _)
   | (with_reducible exact LeO.none _)
   | (with_reducible refine LeO.ite ?_ ?_)
   | (with_reducible refine LeO.bind ?_ (fun _ => ?_))
   | exact ih0 _ _ _ _ _
   | exact ih1 _ _ _ _ _
   | exact ih2 _ _ _ _
   | exact ih3 _ _ _ _ _
   | exact ih4 _ _ _ _ _
   | exact ih5 _ _ _ _ _ _
   | exact ih6 _ _ _ _ _ _ _
   | exact ih7 _ _ _ _ _ _ _
   | exact ih8 _ _ _ _ _ _ _ _
   | exact LeO.none _
   | refine LeO.ite ?_ ?_
   | refine LeO.bind ?_ (fun _ => ?_)
  ·intro y0 y1 y2 y3 y4 y5
   unfold glisterref05_Fault.j5
   repeat' first
   | (with_reducible exact ih0 _ _ _ _ _)
   | (with_reducible exact ih1 _ _ _ _ _)
   | (with_reducible exact ih2 _ _ _ _)
   | (with_reducible exact ih3 _ _ _ _ _)
   | (with_reducible exact ih4 _ _ _ _ _)
   | (with_reducible exact ih5 _ _ _ _ _ _)
   | (with_reducible exact ih6 _ _ _ _ _ _ _)
   | (with_reducible exact ih7 _ _ _ _ _ _ _)
   | (with_reducible exact ih8 _ _ _ _ _ _ _ _)
   | (with_reducible exact LeO.refl _)
   | (with_reducible exact LeO.none _)
   | (with_reducible refine LeO.ite ?_ ?_)
   | (with_reducible refine LeO.bind ?_ (fun _ => ?_))
   | exact ih0 _ _ _ _ _
   | exact ih1 _ _ _ _ _
   | exact ih2 _ _ _ _
   | exact ih3 _ _ _ _ _
   | exact ih4 _ _ _ _ _
   | exact ih5 _ _ _ _ _ _
   | exact ih6 _ _ _ _ _ _ _
   | exact ih7 _ _ _ _ _ _ _
   | exact ih8 _ _ _ _ _ _ _ _
   | exact LeO.none _
   | refine LeO.ite ?_ ?_
   | refine LeO.bind ?_ (fun _ => ?_)
  ·intro y0 y1 y2 y3 y4 y5 y6
   unfold glisterref05_Fault.l2
   repeat' first
   | (with_reducible exact ih0 _ _ _ _ _)
   | (with_reducible exact ih1 _ _ _ _ _)
   | (with_reducible exact ih2 _ _ _ _)
   | (with_reducible exact ih3 _ _ _ _ _)
   | (with_reducible exact ih4 _ _ _ _ _)
   | (with_reducible exact ih5 _ _ _ _ _ _)
   | (with_reducible exact ih6 _ _ _ _ _ _ _)
   | (with_reducible exact ih7 _ _ _ _ _ _ _)
   | (with_reducible exact ih8 _ _ _ _ _ _ _ _)
   | (with_reducible exact LeO.refl _)
   | (with_reducible exact LeO.none _)
   | (with_reducible refine LeO.ite ?_ ?_)
   | (with_reducible refine LeO.bind ?_ (fun _ => ?_))
   | exact ih0 _ _ _ _ _
   | exact ih1 _ _ _ _ _
   | exact ih2 _ _ _ _
   | exact ih3 _ _ _ _ _
   | exact ih4 _ _ _ _ _
   | exact ih5 _ _ _ _ _ _
   | exact ih6 _ _ _ _ _ _ _
   | exact ih7 _ _ _ _ _ _ _
   | exact ih8 _ _ _ _ _ _ _ _
   | exact LeO.none _
   | refine LeO.ite ?_ ?_
   | refine LeO.bind ?_ (fun _ => ?_)
  ·intro y0 y1 y2 y3 y4 y5 y6
   unfold glisterref05_Fault.j7
   repeat' first
   | (with_reducible exact ih0 _ _ _ _ _)
   | (with_reducible exact ih1 _ _ _ _ _)
   | (with_reducible exact ih2 _ _ _ _)
   | (with_reducible exact ih3 _ _ _ _ _)
   | (with_reducible exact ih4 _ _ _ _ _)
   | (with_reducible exact ih5 _ _ _ _ _ _)
   | (with_reducible exact ih6 _ _ _ _ _ _ _)
   | (with_reducible exact ih7 _ _ _ _ _ _ _)
   | (with_reducible exact ih8 _ _ _ _ _ _ _ _)
   | (with_reducible exact LeO.refl _)
   | (with_reducible exact LeO.none _)
   | (with_reducible refine LeO.ite ?_ ?_)
   | (with_reducible refine LeO.bind ?_ (fun _ => ?_))
   | exact ih0 _ _ _ _ _
   | exact ih1 _ _ _ _ _
   | exact ih2 _ _ _ _
   | exact ih3 _ _ _ _ _
   | exact ih4 _ _ _ _ _
   | exact ih5 _ _ _ _ _ _
   | exact ih6 _ _ _ _ _ _ _
   | exact ih7 _ _ _ _ _ _ _
   | exact ih8 _ _ _ _ _ _ _ _
   | exact LeO.none _
   | refine LeO.ite ?_ ?_
   | refine LeO.bind ?_ (fun _ => ?_)
  ·intro y0 y1 y2 y3 y4 y5 y6 y7
   unfold glisterref05_Fault.l3
   repeat' first
   | (with_reducible exact ih0 _ _ _ _ _)
   | (with_reducible exact ih1 _ _ _ _ _)
   | (with_reducible exact ih2 _ _ _ _)
   | (with_reducible exact ih3 _ _ _ _ _)
   | (with_reducible exact ih4 _ _ _ _ _)
   | (with_reducible exact ih5 _ _ _ _ _ _)
   | (with_reducible exact ih6 _ _ _ _ _ _ _)
   | (with_reducible exact ih7 _ _ _ _ _ _ _)
   | (with_reducible exact ih8 _ _ _ _ _ _ _ _)
   | (with_reducible exact LeO.refl _)
   | (with_reducible exact LeO.none _)
   | (with_reducible refine LeO.ite ?_ ?_)
   | (with_reducible refine LeO.bind ?_ (fun _ => ?_))
   | exact ih0 _ _ _ _ _
   | exact ih1 _ _ _ _ _
   | exact ih2 _ _ _ _
   | exact ih3 _ _ _ _ _
   | exact ih4 _ _ _ _ _
   | exact ih5 _ _ _ _ _ _
   | exact ih6 _ _ _ _ _ _ _
   | exact ih7 _ _ _ _ _ _ _
   | exact ih8 _ _ _ _ _ _ _ _
   | exact LeO.none _
   | refine LeO.ite ?_ ?_
   | refine LeO.bind ?_ (fun _ => ?_)
theorem glisterref05_Fault.mono : ∀ a0 a1 a2 k, LeO (glisterref05_Fault.f k a0 a1 a2) (glisterref05_Fault.f (k + 1) a0 a1 a2) := by
 intro a0 a1 a2 k
 obtain ⟨ih0, ih1, ih2, ih3, ih4, ih5, ih6, ih7, ih8⟩ := glisterref05_Fault.mono_l k
 unfold glisterref05_Fault.f
 repeat' first
   | (with_reducible exact ih0 _ _ _ _ _)
   | (with_reducible exact ih1 _ _ _ _ _)
   | (with_reducible exact ih2 _ _ _ _)
   | (with_reducible exact ih3 _ _ _ _ _)
   | (with_reducible exact ih4 _ _ _ _ _)
   | (with_reducible exact ih5 _ _ _ _ _ _)
   | (with_reducible exact ih6 _ _ _ _ _ _ _)
   | (with_reducible exact ih7 _ _ _ _ _ _ _)
   | (with_reducible exact ih8 _ _ _ _ _ _ _ _)
   | (with_reducible exact LeO.refl _)
   | (with_reducible exact LeO.none _)
   | (with_reducible refine LeO.ite ?_ ?_)
   | (with_reducible refine LeO.bind ?_ (fun _ => ?_))
   | exact ih0 _ _ _ _ _
   | exact ih1 _ _ _ _ _
   | exact ih2 _ _ _ _
   | exact ih3 _ _ _ _ _
   | exact ih4 _ _ _ _ _
   | exact ih5 _ _ _ _ _ _
   | exact ih6 _ _ _ _ _ _ _
   | exact ih7 _ _ _ _ _ _ _
   | exact ih8 _ _ _ _ _ _ _ _
   | exact LeO.none _
   | refine LeO.ite ?_ ?_
   | refine LeO.bind ?_ (fun _ => ?_)
set_option maxHeartbeats 8000000 in
set_option maxRecDepth 100000 in
theorem glisterref05_Fault.calls (k : Nat) (A0_0 : Option Addr) (c0_0 : Nat) (l0_0 : List Int) (A0_1 : Option Addr) (c0_1 : Nat) (l0_1 : List (S54)) (a0_2 : Int) (r : Int) (w : World) (hr0_0 : Kd.C (Kd.int .i64) w A0_0 l0_0.length l0_0) (hc0_0 : l0_0.length ≤ c0_0) (hr0_1 : Kd.C k54 w A0_1 l0_1.length l0_1) (hc0_1 : l0_1.length ≤ c0_1) (h : glisterref05_Fault.f k l0_0 l0_1 a0_2 = some r) :
  Calls Try.prog 43 #[.agg #[.slice A0_0 l0_0.length c0_0, .slice A0_1 l0_1.length c0_1, .int .i64 a0_2]] w fun e w' => e = .returned (.int .i64 r) ∧ Below w.heap.size w w' := by
 have hu25 := Try.underlying25
 have hu64 := Try.underlying64
 have HR0_0 := Aside0.mk hr0_0
 have HC0_0 := Aside0.mk hc0_0
 clear hr0_0 hc0_0
 have HR0_1 := Aside0.mk hr0_1
 have HC0_1 := Aside0.mk hc0_1
 clear hr0_1 hc0_1
 have HB := Aside0.mk (Below.refl w.heap.size w)
 have H : (if (l0_0.length : Int) > 4 then (glisterref05_Fault.j0 k 0 true l0_0 l0_1 a0_2) else (glisterref05_Fault.j0 k 0 (decide ((l0_1.length : Int) > 3)) l0_0 l0_1 a0_2)) = some r := h
 clear h
 have HC2 := Aside0.mk H
 clear H
 go_enter Try.func43, Try.ntmps43
 go_upto_region 2 with (first | ((with_reducible refine gate_dst (N := 1) rfl ?_); (try (refine gate_guard (by rfl) ?_; dsimp only)); refine box_event ?hg (N := 1) ?hd (cs := #[.slice A0_0 l0_0.length c0_0, .slice A0_1 l0_1.length c0_1, .int .i64 a0_2]) (t := 25) ?hr ?_; (case hd => rfl); (case hg => rfl); (case hr => first | (go_simp; done) | (go_simp; rfl)); intro gb203 hg w3 hbox hb; have n0_ := Aside0.mk (below_step (by repeat (first | (with_reducible first | exact HB.out | apply below_alloc | apply pw_below_drewN | apply below_drew1) | exact HB.out)) hb); have n1_ := Aside0.mk (hbox); have n2_ := Aside0.mk ((by rw [hg]; exact (below_size (by repeat (first | (with_reducible first | exact HB.out | apply below_alloc | apply pw_below_drewN | apply below_drew1) | exact HB.out))) : w.heap.size ≤ gb203)); have n3_ := Aside0.mk ((by rw [hg]; exact (below_size (by repeat (first | (with_reducible first | exact HB.out | apply below_alloc | apply pw_below_drewN | apply below_drew1) | exact HB.out))) : w.heap.size ≤ gb203)); clear HB; have HB := n0_; have BK203 := n1_; have GW203 := n2_; have GE203 := n3_; clear n0_ n1_ n2_ n3_; clear hb hbox hg))
 repeat (go_quiet (first | ((with_reducible refine gate_dst (N := 1) rfl ?_); (try (refine gate_guard (by rfl) ?_; dsimp only)); refine box_event ?hg (N := 1) ?hd (cs := #[.slice A0_0 l0_0.length c0_0, .slice A0_1 l0_1.length c0_1, .int .i64 a0_2]) (t := 25) ?hr ?_; (case hd => rfl); (case hg => rfl); (case hr => first | (go_simp; done) | (go_simp; rfl)); intro gb203 hg w3 hbox hb; have n0_ := Aside0.mk (below_step (by repeat (first | (with_reducible first | exact HB.out | apply below_alloc | apply pw_below_drewN | apply below_drew1) | exact HB.out)) hb); have n1_ := Aside0.mk (hbox); have n2_ := Aside0.mk ((by rw [hg]; exact (below_size (by repeat (first | (with_reducible first | exact HB.out | apply below_alloc | apply pw_below_drewN | apply below_drew1) | exact HB.out))) : w.heap.size ≤ gb203)); have n3_ := Aside0.mk ((by rw [hg]; exact (below_size (by repeat (first | (with_reducible first | exact HB.out | apply below_alloc | apply pw_below_drewN | apply below_drew1) | exact HB.out))) : w.heap.size ≤ gb203)); clear HB; have HB := n0_; have BK203 := n1_; have GW203 := n2_; have GE203 := n3_; clear n0_ n1_ n2_ n3_; clear hb hbox hg)); go_upto_region 2 with (first | ((with_reducible refine gate_dst (N := 1) rfl ?_); (try (refine gate_guard (by rfl) ?_; dsimp only)); refine box_event ?hg (N := 1) ?hd (cs := #[.slice A0_0 l0_0.length c0_0, .slice A0_1 l0_1.length c0_1, .int .i64 a0_2]) (t := 25) ?hr ?_; (case hd => rfl); (case hg => rfl); (case hr => first | (go_simp; done) | (go_simp; rfl)); intro gb203 hg w3 hbox hb; have n0_ := Aside0.mk (below_step (by repeat (first | (with_reducible first | exact HB.out | apply below_alloc | apply pw_below_drewN | apply below_drew1) | exact HB.out)) hb); have n1_ := Aside0.mk (hbox); have n2_ := Aside0.mk ((by rw [hg]; exact (below_size (by repeat (first | (with_reducible first | exact HB.out | apply below_alloc | apply pw_below_drewN | apply below_drew1) | exact HB.out))) : w.heap.size ≤ gb203)); have n3_ := Aside0.mk ((by rw [hg]; exact (below_size (by repeat (first | (with_reducible first | exact HB.out | apply below_alloc | apply pw_below_drewN | apply below_drew1) | exact HB.out))) : w.heap.size ≤ gb203)); clear HB; have HB := n0_; have BK203 := n1_; have GW203 := n2_; have GE203 := n3_; clear n0_ n1_ n2_ n3_; clear hb hbox hg)))
 (try simp only [Act.put, List.setIfInBounds_toArray, List.set_cons_zero, List.set_cons_succ])
 go_cut [18] (fun v18 wc => ∃ (kq : Nat) (x18_1 : Bool), v18 = .bool x18_1 ∧ Aside0 (glisterref05_Fault.j0 kq 0 x18_1 l0_0 l0_1 a0_2 = some r) ∧ Aside0 (kq ≤ k) ∧ Aside0 (wc.heap[gb203]? = some (.cells #[(.slice A0_0 l0_0.length c0_0), (.slice A0_1 l0_1.length c0_1), .int .i64 a0_2] 25 (0, 0))) ∧ Aside0 (Below w.heap.size w wc))
 case first =>
  have H := HC2.out
  clear HC2
  by_cases c4 : (l0_0.length : Int) > 4
  ·rw [if_pos c4] at H
   have c4b0 : decide (4 < (l0_0.length : Int)) = true := decide_eq_true c4
   have c4b1 : decide (4 < l0_0.length) = true := decide_eq_true (by omega)
   clear c4
   (first | rw [c4b0] | (simp only [i64_w, i32_w]; rw [c4b0]) | skip)
   have H' := Aside0.mk H
   clear H
   have hcz5_0 : w3.cell? ⟨gb203, 0, none⟩ = some (.slice A0_0 l0_0.length c0_0) := (blk_cell BK203.out 0).trans rfl
   have hcz5_1 : w3.cell? ⟨gb203, 1, none⟩ = some (.slice A0_1 l0_1.length c0_1) := (blk_cell BK203.out 1).trans rfl
   have hcz5_2 : w3.cell? ⟨gb203, 2, none⟩ = some (.int .i64 a0_2) := (blk_cell BK203.out 2).trans rfl
   have hfz5_0 := blk_frozen BK203.out 0
   have hfz5_1 := blk_frozen BK203.out 1
   have hfz5_2 := blk_frozen BK203.out 2
   go_wp2
   repeat (go_quiet (fail); try go_wp2)
   go_meet
   case rel => exact ⟨_, (true), (by first | rfl | (simp; done) | (simp [*]; done)), H', ⟨by first | omega | exact Nat.le_refl _⟩, ⟨by (with_reducible repeat (first | refine blk_drewN ?_ _ | refine blk_drew ?_ | refine blk_alloc ?_ _)); exact BK203.out⟩, ⟨by repeat (first | (with_reducible first | exact HB.out | apply below_alloc | apply pw_below_drewN | apply below_drew1 | refine below_set ?_ GE203.out) | exact HB.out)⟩⟩
  ·rw [if_neg c4] at H
   have c4b0 : decide (4 < (l0_0.length : Int)) = false := decide_eq_false c4
   have c4b1 : decide (4 < l0_0.length) = false := decide_eq_false (by omega)
   clear c4
   (first | rw [c4b0] | (simp only [i64_w, i32_w]; rw [c4b0]) | skip)
   have H' := Aside0.mk H
   clear H
   have hcz6_0 : w3.cell? ⟨gb203, 0, none⟩ = some (.slice A0_0 l0_0.length c0_0) := (blk_cell BK203.out 0).trans rfl
   have hcz6_1 : w3.cell? ⟨gb203, 1, none⟩ = some (.slice A0_1 l0_1.length c0_1) := (blk_cell BK203.out 1).trans rfl
   have hcz6_2 : w3.cell? ⟨gb203, 2, none⟩ = some (.int .i64 a0_2) := (blk_cell BK203.out 2).trans rfl
   have hfz6_0 := blk_frozen BK203.out 0
   have hfz6_1 := blk_frozen BK203.out 1
   have hfz6_2 := blk_frozen BK203.out 2
   go_wp2
   repeat (go_quiet (fail); try go_wp2)
   go_meet
   case rel => exact ⟨_, (decide ((l0_1.length : Int) > 3)), (by first | rfl | (simp; done) | (simp [*]; done)), H', ⟨by first | omega | exact Nat.le_refl _⟩, ⟨by (with_reducible repeat (first | refine blk_drewN ?_ _ | refine blk_drew ?_ | refine blk_alloc ?_ _)); exact BK203.out⟩, ⟨by repeat (first | (with_reducible first | exact HB.out | apply below_alloc | apply pw_below_drewN | apply below_drew1 | refine below_set ?_ GE203.out) | exact HB.out)⟩⟩
 case rest =>
  clear HC2
  try clear p2
  try clear c4
  try clear c4b0
  try clear c4b1
  try clear hcz5_0
  try clear hcz5_1
  try clear hcz5_2
  try clear hcz6_0
  try clear hcz6_1
  try clear hcz6_2
  try clear hfz5_0
  try clear hfz5_1
  try clear hfz5_2
  try clear hfz6_0
  try clear hfz6_1
  try clear hfz6_2
  obtain ⟨kq, x18_1, rfl, HA, HJ1, BK203, HB⟩ := hcut
  cases kq with
  | zero => exact absurd HA.out (by simp [glisterref05_Fault.j0])
  | succ kj1 =>
   have H := HA.out
   clear HA
   simp only [glisterref05_Fault.j0] at H
   by_cases c7 : x18_1 = true
   ·subst c7
    have H1 : (some 3) = some r := by rw [if_pos rfl] at H; exact H
    clear H
    have H := H1
    clear H1
    obtain rfl := Option.some.inj H
    go_wp2
    repeat (go_quiet (fail); try go_wp2)
    go_ret
    exact ⟨by first | rfl | (simp [errW_none, errW_some] <;> rfl) | (simp [*, errW_none, errW_some] <;> rfl), by repeat (first | (with_reducible first | exact HB.out | apply below_alloc | apply pw_below_drewN | apply below_drew1 | refine below_set ?_ GE203.out) | exact HB.out)⟩
   ·replace c7 := Bool.eq_false_iff.mpr c7
    subst c7
    have H1 : (if (l0_0.length : Int) = 0 then (glisterref05_Fault.j1 kj1 0 true l0_0 l0_1 a0_2) else (if (l0_1.length : Int) = 0 then (glisterref05_Fault.j1 kj1 0 true l0_0 l0_1 a0_2) else ((glisterref05_In.f a0_2 0 30).bind fun t204 => (glisterref05_Fault.j1 kj1 0 (!t204) l0_0 l0_1 a0_2)))) = some r := by rw [if_neg (show ¬ (false = true) by decide)] at H; exact H
    clear H
    have H := H1
    clear H1
    have HC8 := Aside0.mk H
    clear H
    go_upto_region 4 with (fail)
    repeat (go_quiet (fail); go_upto_region 4 with (fail))
    go_cut [34] (fun v34 wc => ∃ (kq : Nat) (x34_7 : Bool), v34 = .bool x34_7 ∧ Aside0 (glisterref05_Fault.j1 kq 0 x34_7 l0_0 l0_1 a0_2 = some r) ∧ Aside0 (kq ≤ kj1) ∧ Aside0 (wc.heap[gb203]? = some (.cells #[(.slice A0_0 l0_0.length c0_0), (.slice A0_1 l0_1.length c0_1), .int .i64 a0_2] 25 (0, 0))) ∧ Aside0 (Below w.heap.size w wc))
    case first =>
     have H := HC8.out
     clear HC8
     by_cases c9 : (l0_0.length : Int) = 0
     ·rw [if_pos c9] at H
      have c9b0 : ((l0_0.length : Int) == 0) = true := beq_iff_eq.mpr c9
      have c9b1 : ((l0_0.length : Int) != 0) = false := bne_eq_false_iff_eq.mpr c9
      clear c9
      (first | rw [c9b0] | (simp only [i64_w, i32_w]; rw [c9b0]) | skip)
      have H' := Aside0.mk H
      clear H
      have hcz10_0 : wc.cell? ⟨gb203, 0, none⟩ = some (.slice A0_0 l0_0.length c0_0) := (blk_cell BK203.out 0).trans rfl
      have hcz10_1 : wc.cell? ⟨gb203, 1, none⟩ = some (.slice A0_1 l0_1.length c0_1) := (blk_cell BK203.out 1).trans rfl
      have hcz10_2 : wc.cell? ⟨gb203, 2, none⟩ = some (.int .i64 a0_2) := (blk_cell BK203.out 2).trans rfl
      have hfz10_0 := blk_frozen BK203.out 0
      have hfz10_1 := blk_frozen BK203.out 1
      have hfz10_2 := blk_frozen BK203.out 2
      go_wp2
      repeat (go_quiet (fail); try go_wp2)
      go_meet
      case rel => exact ⟨_, (true), (by first | rfl | (simp; done) | (simp [*]; done)), H', ⟨by have := HJ1.out; first | omega | exact Nat.le_refl _⟩, ⟨by (with_reducible repeat (first | refine blk_drewN ?_ _ | refine blk_drew ?_ | refine blk_alloc ?_ _)); exact BK203.out⟩, ⟨by repeat (first | (with_reducible first | exact HB.out | apply below_alloc | apply pw_below_drewN | apply below_drew1 | refine below_set ?_ GE203.out) | exact HB.out)⟩⟩
     ·rw [if_neg c9] at H
      have c9b0 : ((l0_0.length : Int) == 0) = false := beq_eq_false_iff_ne.mpr c9
      have c9b1 : ((l0_0.length : Int) != 0) = true := bne_iff_ne.mpr c9
      have c9b2 : ¬ (l0_0 = []) := fun h_ => c9 (by rw [h_]; rfl)
      (first | rw [c9b0] | (simp only [i64_w, i32_w]; rw [c9b0]) | skip)
      by_cases c11 : (l0_1.length : Int) = 0
      ·rw [if_pos c11] at H
       have c11b0 : ((l0_1.length : Int) == 0) = true := beq_iff_eq.mpr c11
       have c11b1 : ((l0_1.length : Int) != 0) = false := bne_eq_false_iff_eq.mpr c11
       clear c11
       have H' := Aside0.mk H
       clear H
       have hcz12_0 : wc.cell? ⟨gb203, 0, none⟩ = some (.slice A0_0 l0_0.length c0_0) := (blk_cell BK203.out 0).trans rfl
       have hcz12_1 : wc.cell? ⟨gb203, 1, none⟩ = some (.slice A0_1 l0_1.length c0_1) := (blk_cell BK203.out 1).trans rfl
       have hcz12_2 : wc.cell? ⟨gb203, 2, none⟩ = some (.int .i64 a0_2) := (blk_cell BK203.out 2).trans rfl
       have hfz12_0 := blk_frozen BK203.out 0
       have hfz12_1 := blk_frozen BK203.out 1
       have hfz12_2 := blk_frozen BK203.out 2
       go_wp2
       repeat (go_quiet (fail); try go_wp2)
       go_meet
       case rel => exact ⟨_, (true), (by first | rfl | (simp; done) | (simp [*]; done)), H', ⟨by have := HJ1.out; first | omega | exact Nat.le_refl _⟩, ⟨by (with_reducible repeat (first | refine blk_drewN ?_ _ | refine blk_drew ?_ | refine blk_alloc ?_ _)); exact BK203.out⟩, ⟨by repeat (first | (with_reducible first | exact HB.out | apply below_alloc | apply pw_below_drewN | apply below_drew1 | refine below_set ?_ GE203.out) | exact HB.out)⟩⟩
      ·rw [if_neg c11] at H
       have c11b0 : ((l0_1.length : Int) == 0) = false := beq_eq_false_iff_ne.mpr c11
       have c11b1 : ((l0_1.length : Int) != 0) = true := bne_iff_ne.mpr c11
       have c11b2 : ¬ (l0_1 = []) := fun h_ => c11 (by rw [h_]; rfl)
       replace H := Option.bind_eq_some_iff.mp H
       obtain ⟨t204, A130, H⟩ := H
       replace H : (glisterref05_Fault.j1 kj1 0 (!t204) l0_0 l0_1 a0_2) = some r := H
       have A13 := Aside0.mk A130
       clear A130
       have H' := Aside0.mk H
       clear H
       have hcz14_0 : wc.cell? ⟨gb203, 0, none⟩ = some (.slice A0_0 l0_0.length c0_0) := (blk_cell BK203.out 0).trans rfl
       have hcz14_1 : wc.cell? ⟨gb203, 1, none⟩ = some (.slice A0_1 l0_1.length c0_1) := (blk_cell BK203.out 1).trans rfl
       have hcz14_2 : wc.cell? ⟨gb203, 2, none⟩ = some (.int .i64 a0_2) := (blk_cell BK203.out 2).trans rfl
       have hfz14_0 := blk_frozen BK203.out 0
       have hfz14_1 := blk_frozen BK203.out 1
       have hfz14_2 := blk_frozen BK203.out 2
       go_wp2_with (first | (go_at_call 30; (with_reducible refine (glisterref05_In.calls a0_2 0 30 t204 _ A13.out).mono ?_); rintro e w' ⟨rfl, ⟨nd, rfl⟩⟩; (try first | exact ⟨rfl, _, World.drewN_drewN _ _ _⟩ | exact ⟨rfl, _, Eq.trans (World.drewN_drewN _ _ _) (congrArg (World.drewN _) (Nat.add_assoc _ _ _))⟩)))
       repeat (go_quiet (first | (go_at_call 30; (with_reducible refine (glisterref05_In.calls a0_2 0 30 t204 _ A13.out).mono ?_); rintro e w' ⟨rfl, ⟨nd, rfl⟩⟩; (try first | exact ⟨rfl, _, World.drewN_drewN _ _ _⟩ | exact ⟨rfl, _, Eq.trans (World.drewN_drewN _ _ _) (congrArg (World.drewN _) (Nat.add_assoc _ _ _))⟩))); try go_wp2_with (first | (go_at_call 30; (with_reducible refine (glisterref05_In.calls a0_2 0 30 t204 _ A13.out).mono ?_); rintro e w' ⟨rfl, ⟨nd, rfl⟩⟩; (try first | exact ⟨rfl, _, World.drewN_drewN _ _ _⟩ | exact ⟨rfl, _, Eq.trans (World.drewN_drewN _ _ _) (congrArg (World.drewN _) (Nat.add_assoc _ _ _))⟩))))
       go_meet
       case rel => exact ⟨_, (!t204), (by first | rfl | (simp; done) | (simp [*]; done)), H', ⟨by have := HJ1.out; first | omega | exact Nat.le_refl _⟩, ⟨by (with_reducible repeat (first | refine blk_drewN ?_ _ | refine blk_drew ?_ | refine blk_alloc ?_ _)); exact BK203.out⟩, ⟨by repeat (first | (with_reducible first | exact HB.out | apply below_alloc | apply pw_below_drewN | apply below_drew1 | refine below_set ?_ GE203.out) | exact HB.out)⟩⟩
    case rest =>
     clear HC8
     try clear c1
     try clear p2
     try clear c4
     try clear c4b0
     try clear c4b1
     try clear c7
     try clear c9
     try clear c9b0
     try clear c9b1
     try clear c9b2
     try clear c11
     try clear c11b0
     try clear c11b1
     try clear c11b2
     try clear hcz10_0
     try clear hcz10_1
     try clear hcz10_2
     try clear hcz12_0
     try clear hcz12_1
     try clear hcz12_2
     try clear hcz14_0
     try clear hcz14_1
     try clear hcz14_2
     try clear hcz5_0
     try clear hcz5_1
     try clear hcz5_2
     try clear hcz6_0
     try clear hcz6_1
     try clear hcz6_2
     try clear hfz10_0
     try clear hfz10_1
     try clear hfz10_2
     try clear hfz12_0
     try clear hfz12_1
     try clear hfz12_2
     try clear hfz14_0
     try clear hfz14_1
     try clear hfz14_2
     try clear hfz5_0
     try clear hfz5_1
     try clear hfz5_2
     try clear hfz6_0
     try clear hfz6_1
     try clear hfz6_2
     try clear p2
     obtain ⟨kq, x34_7, rfl, HA, HJ7, BK203, HB⟩ := hcut
     cases kq with
     | zero => exact absurd HA.out (by simp [glisterref05_Fault.j1])
     | succ kj7 =>
      have H := HA.out
      clear HA
      simp only [glisterref05_Fault.j1] at H
      have HC15 := Aside0.mk H
      clear H
      go_upto_if 34 with (fail)
      repeat (go_quiet (fail); go_upto_if 34 with (fail))
      go_cut [3] (fun v3 wc => ∃ (kq : Nat) (x3_14 : Int), v3 = .int .i64 x3_14 ∧ Aside0 (glisterref05_Fault.j2 kq x3_14 l0_0 l0_1 a0_2 = some r) ∧ Aside0 (kq ≤ kj7) ∧ Aside0 (wc.heap[gb203]? = some (.cells #[(.slice A0_0 l0_0.length c0_0), (.slice A0_1 l0_1.length c0_1), .int .i64 a0_2] 25 (0, 0))) ∧ Aside0 (Below w.heap.size w wc))
      case first =>
       have H := HC15.out
       clear HC15
       by_cases c16 : x34_7 = true
       ·subst c16
        have H1 : (glisterref05_Fault.j2 kj7 1 l0_0 l0_1 a0_2) = some r := by rw [if_pos rfl] at H; exact H
        clear H
        have H := H1
        clear H1
        have H' := Aside0.mk H
        clear H
        go_wp2
        repeat (go_quiet (fail); try go_wp2)
        go_meet
        case rel => exact ⟨_, (1), (by first | rfl | (simp; done) | (simp [*]; done)), H', ⟨by have := HJ1.out; have := HJ7.out; first | omega | exact Nat.le_refl _⟩, ⟨by (with_reducible repeat (first | refine blk_drewN ?_ _ | refine blk_drew ?_ | refine blk_alloc ?_ _)); exact BK203.out⟩, ⟨by repeat (first | (with_reducible first | exact HB.out | apply below_alloc | apply pw_below_drewN | apply below_drew1 | refine below_set ?_ GE203.out) | exact HB.out)⟩⟩
       ·replace c16 := Bool.eq_false_iff.mpr c16
        subst c16
        have H1 : (glisterref05_Fault.j2 kj7 0 l0_0 l0_1 a0_2) = some r := by rw [if_neg (show ¬ (false = true) by decide)] at H; exact H
        clear H
        have H := H1
        clear H1
        have H' := Aside0.mk H
        clear H
        go_wp2
        repeat (go_quiet (fail); try go_wp2)
        go_meet
        case rel => exact ⟨_, (0), (by first | rfl | (simp; done) | (simp [*]; done)), H', ⟨by have := HJ1.out; have := HJ7.out; first | omega | exact Nat.le_refl _⟩, ⟨by (with_reducible repeat (first | refine blk_drewN ?_ _ | refine blk_drew ?_ | refine blk_alloc ?_ _)); exact BK203.out⟩, ⟨by repeat (first | (with_reducible first | exact HB.out | apply below_alloc | apply pw_below_drewN | apply below_drew1 | refine below_set ?_ GE203.out) | exact HB.out)⟩⟩
      case rest =>
       clear HC15
       try clear c1
       try clear p2
       try clear c4
       try clear c4b0
       try clear c4b1
       try clear c7
       try clear c9
       try clear c9b0
       try clear c9b1
       try clear c9b2
       try clear c11
       try clear c11b0
       try clear c11b1
       try clear c11b2
       try clear c16
       try clear hcz10_0
       try clear hcz10_1
       try clear hcz10_2
       try clear hcz12_0
       try clear hcz12_1
       try clear hcz12_2
       try clear hcz14_0
       try clear hcz14_1
       try clear hcz14_2
       try clear hcz5_0
       try clear hcz5_1
       try clear hcz5_2
       try clear hcz6_0
       try clear hcz6_1
       try clear hcz6_2
       try clear hfz10_0
       try clear hfz10_1
       try clear hfz10_2
       try clear hfz12_0
       try clear hfz12_1
       try clear hfz12_2
       try clear hfz14_0
       try clear hfz14_1
       try clear hfz14_2
       try clear hfz5_0
       try clear hfz5_1
       try clear hfz5_2
       try clear hfz6_0
       try clear hfz6_1
       try clear hfz6_2
       try clear p2
       obtain ⟨kq, x3_14, rfl, HA, HJ14, BK203, HB⟩ := hcut
       cases kq with
       | zero => exact absurd HA.out (by simp [glisterref05_Fault.j2])
       | succ kj14 =>
        have H := HA.out
        clear HA
        simp only [glisterref05_Fault.j2] at H
        have H' := Aside0.mk H
        clear H
        go_wp2
        repeat (go_quiet (fail); try go_wp2)
        go_loopg [3, 4] kj14 (fun kq v3 v4 w' => ∃ (x3_4 : Int) (x4_4 : Int), v3 = .int .i64 x3_4 ∧ v4 = .int .i64 x4_4 ∧ Aside0 (glisterref05_Fault.l0 kq x3_4 x4_4 l0_0 l0_1 a0_2 = some r) ∧ Aside0 (kq ≤ kj14) ∧ Aside0 (w'.heap[gb203]? = some (.cells #[(.slice A0_0 l0_0.length c0_0), (.slice A0_1 l0_1.length c0_1), .int .i64 a0_2] 25 (0, 0))) ∧ Aside0 (Below w.heap.size w w'))
        case atStart => exact ⟨(x3_14), (0), (by first | rfl | (simp; done) | (simp [*]; done)), (by first | rfl | (simp; done) | (simp [*]; done)), H', ⟨Nat.le_refl _⟩, ⟨by (with_reducible repeat (first | refine blk_drewN ?_ _ | refine blk_drew ?_ | refine blk_alloc ?_ _)); exact BK203.out⟩, ⟨by repeat (first | (with_reducible first | exact HB.out | apply below_alloc | apply pw_below_drewN | apply below_drew1 | refine below_set ?_ GE203.out) | exact HB.out)⟩⟩
        case round =>
         clear H'
         try clear c1
         try clear p2
         try clear c4
         try clear c4b0
         try clear c4b1
         try clear c7
         try clear c9
         try clear c9b0
         try clear c9b1
         try clear c9b2
         try clear c11
         try clear c11b0
         try clear c11b1
         try clear c11b2
         try clear c16
         try clear hcz10_0
         try clear hcz10_1
         try clear hcz10_2
         try clear hcz12_0
         try clear hcz12_1
         try clear hcz12_2
         try clear hcz14_0
         try clear hcz14_1
         try clear hcz14_2
         try clear hcz5_0
         try clear hcz5_1
         try clear hcz5_2
         try clear hcz6_0
         try clear hcz6_1
         try clear hcz6_2
         try clear hfz10_0
         try clear hfz10_1
         try clear hfz10_2
         try clear hfz12_0
         try clear hfz12_1
         try clear hfz12_2
         try clear hfz14_0
         try clear hfz14_1
         try clear hfz14_2
         try clear hfz5_0
         try clear hfz5_1
         try clear hfz5_2
         try clear hfz6_0
         try clear hfz6_1
         try clear hfz6_2
         try clear p2
         obtain ⟨x3_4, x4_4, rfl, rfl, HA, HK4, BK203, HB⟩ := hrel
         cases gk with
         | zero => exact absurd HA.out (by simp [glisterref05_Fault.l0])
         | succ k4 =>
          have H := HA.out
          clear HA
          simp only [glisterref05_Fault.l0] at H
          by_cases c17 : x4_4 < (l0_0.length : Int)
          ·rw [if_pos c17] at H
           have c17b0 : decide (x4_4 < (l0_0.length : Int)) = true := decide_eq_true c17
           clear c17
           by_cases c18 : 0 ≤ x4_4
           ·rw [if_pos c18] at H
            have c18b0 : decide (0 ≤ x4_4) = true := decide_eq_true c18
            clear c18
            replace H := Option.bind_eq_some_iff.mp H
            obtain ⟨t206, A190, H⟩ := H
            replace H : (if t206 = true then (if x4_4 > 0 then (if 0 ≤ (wrap64 (x4_4 - 1)) then (if (wrap64 (x4_4 - 1)) < (l0_0.length : Int) then (if (rd l0_0 x4_4) ≤ (rd l0_0 (wrap64 (x4_4 - 1))) then (glisterref05_Fault.l0 k4 1 (wrap64 (x4_4 + 1)) l0_0 l0_1 a0_2) else (glisterref05_Fault.l0 k4 x3_4 (wrap64 (x4_4 + 1)) l0_0 l0_1 a0_2)) else (none)) else (none)) else (glisterref05_Fault.l0 k4 x3_4 (wrap64 (x4_4 + 1)) l0_0 l0_1 a0_2)) else (glisterref05_Fault.l0 k4 1 (wrap64 (x4_4 + 1)) l0_0 l0_1 a0_2)) = some r := H
            have A19 := Aside0.mk A190
            clear A190
            by_cases c20 : t206 = true
            ·subst c20
             have H1 : (if x4_4 > 0 then (if 0 ≤ (wrap64 (x4_4 - 1)) then (if (wrap64 (x4_4 - 1)) < (l0_0.length : Int) then (if (rd l0_0 x4_4) ≤ (rd l0_0 (wrap64 (x4_4 - 1))) then (glisterref05_Fault.l0 k4 1 (wrap64 (x4_4 + 1)) l0_0 l0_1 a0_2) else (glisterref05_Fault.l0 k4 x3_4 (wrap64 (x4_4 + 1)) l0_0 l0_1 a0_2)) else (none)) else (none)) else (glisterref05_Fault.l0 k4 x3_4 (wrap64 (x4_4 + 1)) l0_0 l0_1 a0_2)) = some r := by rw [if_pos rfl] at H; exact H
             clear H
             have H := H1
             clear H1
             by_cases c21 : x4_4 > 0
             ·rw [if_pos c21] at H
              have c21b0 : decide (0 < x4_4) = true := decide_eq_true c21
              clear c21
              obtain ⟨ji22, hji22⟩ : ∃ j_ : Int, (wrap64 (x4_4 - 1)) = j_ := ⟨_, rfl⟩
              replace H : (if 0 ≤ (ji22) then (if (ji22) < (l0_0.length : Int) then (if (rd l0_0 x4_4) ≤ (rd l0_0 (ji22)) then (glisterref05_Fault.l0 k4 1 (wrap64 (x4_4 + 1)) l0_0 l0_1 a0_2) else (glisterref05_Fault.l0 k4 x3_4 (wrap64 (x4_4 + 1)) l0_0 l0_1 a0_2)) else (none)) else (none)) = some r := by first | (rw [hji22] at H; exact H) | (simp only [hji22] at H ⊢; exact H)
              (try rw [hji22] at A19)
              have hji22w : (IntKind.i64.wrap (x4_4 - 1)) = ji22 := (i64_w _).trans hji22
              by_cases c23 : 0 ≤ (ji22)
              ·rw [if_pos c23] at H
               have c23b0 : decide (0 ≤ (ji22)) = true := decide_eq_true c23
               clear c23
               by_cases c24 : (ji22) < (l0_0.length : Int)
               ·rw [if_pos c24] at H
                have c24b0 : decide ((ji22) < (l0_0.length : Int)) = true := decide_eq_true c24
                clear c24
                by_cases c25 : (rd l0_0 x4_4) ≤ (rd l0_0 (ji22))
                ·rw [if_pos c25] at H
                 have c25b0 : decide ((rd l0_0 x4_4) ≤ (rd l0_0 (ji22))) = true := decide_eq_true c25
                 clear c25
                 have H' := Aside0.mk H
                 clear H
                 have hcz26_0 : wr.cell? ⟨gb203, 0, none⟩ = some (.slice A0_0 l0_0.length c0_0) := (blk_cell BK203.out 0).trans rfl
                 have hcz26_1 : wr.cell? ⟨gb203, 1, none⟩ = some (.slice A0_1 l0_1.length c0_1) := (blk_cell BK203.out 1).trans rfl
                 have hcz26_2 : wr.cell? ⟨gb203, 2, none⟩ = some (.int .i64 a0_2) := (blk_cell BK203.out 2).trans rfl
                 have hfz26_0 := blk_frozen BK203.out 0
                 have hfz26_1 := blk_frozen BK203.out 1
                 have hfz26_2 := blk_frozen BK203.out 2
                 have p205 : 0 ≤ (x4_4 : Int) := of_decide_eq_true (by first | (with_reducible assumption) | assumption)
                 have q205 : x4_4 < (l0_0.length : Int) := of_decide_eq_true (by first | (with_reducible assumption) | assumption)
                 obtain ⟨ad205, e205, hx205_0⟩ := Kd.at_int HR0_0.out x4_4 p205 q205
                 cases e205
                 replace hx205_0 := (HB.out.cell (World.block_lt_of_cell? w _ hx205_0)).trans hx205_0
                 replace p205 := eq_true p205
                 replace q205 := eq_true q205
                 go_wp2_with (first | (go_at_call 30; (with_reducible refine (glisterref05_In.calls (rd l0_0 x4_4) 0 30 true _ A19.out).mono ?_); rintro e w' ⟨rfl, ⟨nd, rfl⟩⟩; (try first | exact ⟨rfl, _, World.drewN_drewN _ _ _⟩ | exact ⟨rfl, _, Eq.trans (World.drewN_drewN _ _ _) (congrArg (World.drewN _) (Nat.add_assoc _ _ _))⟩); have p207 : 0 ≤ (x4_4 : Int) := of_decide_eq_true (by first | (with_reducible assumption) | assumption); have q207 : x4_4 < (l0_0.length : Int) := of_decide_eq_true (by first | (with_reducible assumption) | assumption); obtain ⟨ad207, e207, hx207_0⟩ := Kd.at_int HR0_0.out x4_4 p207 q207; obtain rfl : ad205 = ad207 := (by injection e207); replace hx207_0 := (HB.out.cell (World.block_lt_of_cell? w _ hx207_0)).trans hx207_0; replace p207 := eq_true p207; replace q207 := eq_true q207; have p208 : 0 ≤ ((ji22) : Int) := of_decide_eq_true (by first | (with_reducible assumption) | assumption); have q208 : (ji22) < (l0_0.length : Int) := of_decide_eq_true (by first | (with_reducible assumption) | assumption); obtain ⟨ad208, e208, hx208_0⟩ := Kd.at_int HR0_0.out (ji22) p208 q208; obtain rfl : ad205 = ad208 := (by injection e208); replace hx208_0 := (HB.out.cell (World.block_lt_of_cell? w _ hx208_0)).trans hx208_0; replace p208 := eq_true p208; replace q208 := eq_true q208))
                 repeat (go_quiet (first | (go_at_call 30; (with_reducible refine (glisterref05_In.calls (rd l0_0 x4_4) 0 30 true _ A19.out).mono ?_); rintro e w' ⟨rfl, ⟨nd, rfl⟩⟩; (try first | exact ⟨rfl, _, World.drewN_drewN _ _ _⟩ | exact ⟨rfl, _, Eq.trans (World.drewN_drewN _ _ _) (congrArg (World.drewN _) (Nat.add_assoc _ _ _))⟩); have p207 : 0 ≤ (x4_4 : Int) := of_decide_eq_true (by first | (with_reducible assumption) | assumption); have q207 : x4_4 < (l0_0.length : Int) := of_decide_eq_true (by first | (with_reducible assumption) | assumption); obtain ⟨ad207, e207, hx207_0⟩ := Kd.at_int HR0_0.out x4_4 p207 q207; obtain rfl : ad205 = ad207 := (by injection e207); replace hx207_0 := (HB.out.cell (World.block_lt_of_cell? w _ hx207_0)).trans hx207_0; replace p207 := eq_true p207; replace q207 := eq_true q207; have p208 : 0 ≤ ((ji22) : Int) := of_decide_eq_true (by first | (with_reducible assumption) | assumption); have q208 : (ji22) < (l0_0.length : Int) := of_decide_eq_true (by first | (with_reducible assumption) | assumption); obtain ⟨ad208, e208, hx208_0⟩ := Kd.at_int HR0_0.out (ji22) p208 q208; obtain rfl : ad205 = ad208 := (by injection e208); replace hx208_0 := (HB.out.cell (World.block_lt_of_cell? w _ hx208_0)).trans hx208_0; replace p208 := eq_true p208; replace q208 := eq_true q208)); try go_wp2_with (first | (go_at_call 30; (with_reducible refine (glisterref05_In.calls (rd l0_0 x4_4) 0 30 true _ A19.out).mono ?_); rintro e w' ⟨rfl, ⟨nd, rfl⟩⟩; (try first | exact ⟨rfl, _, World.drewN_drewN _ _ _⟩ | exact ⟨rfl, _, Eq.trans (World.drewN_drewN _ _ _) (congrArg (World.drewN _) (Nat.add_assoc _ _ _))⟩); have p207 : 0 ≤ (x4_4 : Int) := of_decide_eq_true (by first | (with_reducible assumption) | assumption); have q207 : x4_4 < (l0_0.length : Int) := of_decide_eq_true (by first | (with_reducible assumption) | assumption); obtain ⟨ad207, e207, hx207_0⟩ := Kd.at_int HR0_0.out x4_4 p207 q207; obtain rfl : ad205 = ad207 := (by injection e207); replace hx207_0 := (HB.out.cell (World.block_lt_of_cell? w _ hx207_0)).trans hx207_0; replace p207 := eq_true p207; replace q207 := eq_true q207; have p208 : 0 ≤ ((ji22) : Int) := of_decide_eq_true (by first | (with_reducible assumption) | assumption); have q208 : (ji22) < (l0_0.length : Int) := of_decide_eq_true (by first | (with_reducible assumption) | assumption); obtain ⟨ad208, e208, hx208_0⟩ := Kd.at_int HR0_0.out (ji22) p208 q208; obtain rfl : ad205 = ad208 := (by injection e208); replace hx208_0 := (HB.out.cell (World.block_lt_of_cell? w _ hx208_0)).trans hx208_0; replace p208 := eq_true p208; replace q208 := eq_true q208)))
                 go_roundg k4
                 case measure => have := HJ1.out; have := HJ7.out; have := HJ14.out; have := HK4.out; omega
                 case rel => exact ⟨(1), (wrap64 (x4_4 + 1)), (by first | rfl | (simp; done) | (simp [*]; done)), (by first | rfl | (simp; done) | (simp [*]; done)), H', ⟨by have := HJ1.out; have := HJ7.out; have := HJ14.out; have := HK4.out; omega⟩, ⟨by (with_reducible repeat (first | refine blk_drewN ?_ _ | refine blk_drew ?_ | refine blk_alloc ?_ _)); exact BK203.out⟩, ⟨by repeat (first | (with_reducible first | exact HB.out | apply below_alloc | apply pw_below_drewN | apply below_drew1 | refine below_set ?_ GE203.out) | exact HB.out)⟩⟩
                ·rw [if_neg c25] at H
                 have c25b0 : decide ((rd l0_0 x4_4) ≤ (rd l0_0 (ji22))) = false := decide_eq_false c25
                 clear c25
                 have H' := Aside0.mk H
                 clear H
                 have hcz27_0 : wr.cell? ⟨gb203, 0, none⟩ = some (.slice A0_0 l0_0.length c0_0) := (blk_cell BK203.out 0).trans rfl
                 have hcz27_1 : wr.cell? ⟨gb203, 1, none⟩ = some (.slice A0_1 l0_1.length c0_1) := (blk_cell BK203.out 1).trans rfl
                 have hcz27_2 : wr.cell? ⟨gb203, 2, none⟩ = some (.int .i64 a0_2) := (blk_cell BK203.out 2).trans rfl
                 have hfz27_0 := blk_frozen BK203.out 0
                 have hfz27_1 := blk_frozen BK203.out 1
                 have hfz27_2 := blk_frozen BK203.out 2
                 have p205 : 0 ≤ (x4_4 : Int) := of_decide_eq_true (by first | (with_reducible assumption) | assumption)
                 have q205 : x4_4 < (l0_0.length : Int) := of_decide_eq_true (by first | (with_reducible assumption) | assumption)
                 obtain ⟨ad205, e205, hx205_0⟩ := Kd.at_int HR0_0.out x4_4 p205 q205
                 cases e205
                 replace hx205_0 := (HB.out.cell (World.block_lt_of_cell? w _ hx205_0)).trans hx205_0
                 replace p205 := eq_true p205
                 replace q205 := eq_true q205
                 go_wp2_with (first | (go_at_call 30; (with_reducible refine (glisterref05_In.calls (rd l0_0 x4_4) 0 30 true _ A19.out).mono ?_); rintro e w' ⟨rfl, ⟨nd, rfl⟩⟩; (try first | exact ⟨rfl, _, World.drewN_drewN _ _ _⟩ | exact ⟨rfl, _, Eq.trans (World.drewN_drewN _ _ _) (congrArg (World.drewN _) (Nat.add_assoc _ _ _))⟩); have p207 : 0 ≤ (x4_4 : Int) := of_decide_eq_true (by first | (with_reducible assumption) | assumption); have q207 : x4_4 < (l0_0.length : Int) := of_decide_eq_true (by first | (with_reducible assumption) | assumption); obtain ⟨ad207, e207, hx207_0⟩ := Kd.at_int HR0_0.out x4_4 p207 q207; obtain rfl : ad205 = ad207 := (by injection e207); replace hx207_0 := (HB.out.cell (World.block_lt_of_cell? w _ hx207_0)).trans hx207_0; replace p207 := eq_true p207; replace q207 := eq_true q207; have p208 : 0 ≤ ((ji22) : Int) := of_decide_eq_true (by first | (with_reducible assumption) | assumption); have q208 : (ji22) < (l0_0.length : Int) := of_decide_eq_true (by first | (with_reducible assumption) | assumption); obtain ⟨ad208, e208, hx208_0⟩ := Kd.at_int HR0_0.out (ji22) p208 q208; obtain rfl : ad205 = ad208 := (by injection e208); replace hx208_0 := (HB.out.cell (World.block_lt_of_cell? w _ hx208_0)).trans hx208_0; replace p208 := eq_true p208; replace q208 := eq_true q208))
                 repeat (go_quiet (first | (go_at_call 30; (with_reducible refine (glisterref05_In.calls (rd l0_0 x4_4) 0 30 true _ A19.out).mono ?_); rintro e w' ⟨rfl, ⟨nd, rfl⟩⟩; (try first | exact ⟨rfl, _, World.drewN_drewN _ _ _⟩ | exact ⟨rfl, _, Eq.trans (World.drewN_drewN _ _ _) (congrArg (World.drewN _) (Nat.add_assoc _ _ _))⟩); have p207 : 0 ≤ (x4_4 : Int) := of_decide_eq_true (by first | (with_reducible assumption) | assumption); have q207 : x4_4 < (l0_0.length : Int) := of_decide_eq_true (by first | (with_reducible assumption) | assumption); obtain ⟨ad207, e207, hx207_0⟩ := Kd.at_int HR0_0.out x4_4 p207 q207; obtain rfl : ad205 = ad207 := (by injection e207); replace hx207_0 := (HB.out.cell (World.block_lt_of_cell? w _ hx207_0)).trans hx207_0; replace p207 := eq_true p207; replace q207 := eq_true q207; have p208 : 0 ≤ ((ji22) : Int) := of_decide_eq_true (by first | (with_reducible assumption) | assumption); have q208 : (ji22) < (l0_0.length : Int) := of_decide_eq_true (by first | (with_reducible assumption) | assumption); obtain ⟨ad208, e208, hx208_0⟩ := Kd.at_int HR0_0.out (ji22) p208 q208; obtain rfl : ad205 = ad208 := (by injection e208); replace hx208_0 := (HB.out.cell (World.block_lt_of_cell? w _ hx208_0)).trans hx208_0; replace p208 := eq_true p208; replace q208 := eq_true q208)); try go_wp2_with (first | (go_at_call 30; (with_reducible refine (glisterref05_In.calls (rd l0_0 x4_4) 0 30 true _ A19.out).mono ?_); rintro e w' ⟨rfl, ⟨nd, rfl⟩⟩; (try first | exact ⟨rfl, _, World.drewN_drewN _ _ _⟩ | exact ⟨rfl, _, Eq.trans (World.drewN_drewN _ _ _) (congrArg (World.drewN _) (Nat.add_assoc _ _ _))⟩); have p207 : 0 ≤ (x4_4 : Int) := of_decide_eq_true (by first | (with_reducible assumption) | assumption); have q207 : x4_4 < (l0_0.length : Int) := of_decide_eq_true (by first | (with_reducible assumption) | assumption); obtain ⟨ad207, e207, hx207_0⟩ := Kd.at_int HR0_0.out x4_4 p207 q207; obtain rfl : ad205 = ad207 := (by injection e207); replace hx207_0 := (HB.out.cell (World.block_lt_of_cell? w _ hx207_0)).trans hx207_0; replace p207 := eq_true p207; replace q207 := eq_true q207; have p208 : 0 ≤ ((ji22) : Int) := of_decide_eq_true (by first | (with_reducible assumption) | assumption); have q208 : (ji22) < (l0_0.length : Int) := of_decide_eq_true (by first | (with_reducible assumption) | assumption); obtain ⟨ad208, e208, hx208_0⟩ := Kd.at_int HR0_0.out (ji22) p208 q208; obtain rfl : ad205 = ad208 := (by injection e208); replace hx208_0 := (HB.out.cell (World.block_lt_of_cell? w _ hx208_0)).trans hx208_0; replace p208 := eq_true p208; replace q208 := eq_true q208)))
                 go_roundg k4
                 case measure => have := HJ1.out; have := HJ7.out; have := HJ14.out; have := HK4.out; omega
                 case rel => exact ⟨(x3_4), (wrap64 (x4_4 + 1)), (by first | rfl | (simp; done) | (simp [*]; done)), (by first | rfl | (simp; done) | (simp [*]; done)), H', ⟨by have := HJ1.out; have := HJ7.out; have := HJ14.out; have := HK4.out; omega⟩, ⟨by (with_reducible repeat (first | refine blk_drewN ?_ _ | refine blk_drew ?_ | refine blk_alloc ?_ _)); exact BK203.out⟩, ⟨by repeat (first | (with_reducible first | exact HB.out | apply below_alloc | apply pw_below_drewN | apply below_drew1 | refine below_set ?_ GE203.out) | exact HB.out)⟩⟩
               ·rw [if_neg c24] at H
                exact absurd H (by simp)
              ·rw [if_neg c23] at H
               exact absurd H (by simp)
             ·rw [if_neg c21] at H
              have c21b0 : decide (0 < x4_4) = false := decide_eq_false c21
              clear c21
              have H' := Aside0.mk H
              clear H
              have hcz28_0 : wr.cell? ⟨gb203, 0, none⟩ = some (.slice A0_0 l0_0.length c0_0) := (blk_cell BK203.out 0).trans rfl
              have hcz28_1 : wr.cell? ⟨gb203, 1, none⟩ = some (.slice A0_1 l0_1.length c0_1) := (blk_cell BK203.out 1).trans rfl
              have hcz28_2 : wr.cell? ⟨gb203, 2, none⟩ = some (.int .i64 a0_2) := (blk_cell BK203.out 2).trans rfl
              have hfz28_0 := blk_frozen BK203.out 0
              have hfz28_1 := blk_frozen BK203.out 1
              have hfz28_2 := blk_frozen BK203.out 2
              have p205 : 0 ≤ (x4_4 : Int) := of_decide_eq_true (by first | (with_reducible assumption) | assumption)
              have q205 : x4_4 < (l0_0.length : Int) := of_decide_eq_true (by first | (with_reducible assumption) | assumption)
              obtain ⟨ad205, e205, hx205_0⟩ := Kd.at_int HR0_0.out x4_4 p205 q205
              cases e205
              replace hx205_0 := (HB.out.cell (World.block_lt_of_cell? w _ hx205_0)).trans hx205_0
              replace p205 := eq_true p205
              replace q205 := eq_true q205
              go_wp2_with (first | (go_at_call 30; (with_reducible refine (glisterref05_In.calls (rd l0_0 x4_4) 0 30 true _ A19.out).mono ?_); rintro e w' ⟨rfl, ⟨nd, rfl⟩⟩; (try first | exact ⟨rfl, _, World.drewN_drewN _ _ _⟩ | exact ⟨rfl, _, Eq.trans (World.drewN_drewN _ _ _) (congrArg (World.drewN _) (Nat.add_assoc _ _ _))⟩)))
              repeat (go_quiet (first | (go_at_call 30; (with_reducible refine (glisterref05_In.calls (rd l0_0 x4_4) 0 30 true _ A19.out).mono ?_); rintro e w' ⟨rfl, ⟨nd, rfl⟩⟩; (try first | exact ⟨rfl, _, World.drewN_drewN _ _ _⟩ | exact ⟨rfl, _, Eq.trans (World.drewN_drewN _ _ _) (congrArg (World.drewN _) (Nat.add_assoc _ _ _))⟩))); try go_wp2_with (first | (go_at_call 30; (with_reducible refine (glisterref05_In.calls (rd l0_0 x4_4) 0 30 true _ A19.out).mono ?_); rintro e w' ⟨rfl, ⟨nd, rfl⟩⟩; (try first | exact ⟨rfl, _, World.drewN_drewN _ _ _⟩ | exact ⟨rfl, _, Eq.trans (World.drewN_drewN _ _ _) (congrArg (World.drewN _) (Nat.add_assoc _ _ _))⟩))))
              go_roundg k4
              case measure => have := HJ1.out; have := HJ7.out; have := HJ14.out; have := HK4.out; omega
              case rel => exact ⟨(x3_4), (wrap64 (x4_4 + 1)), (by first | rfl | (simp; done) | (simp [*]; done)), (by first | rfl | (simp; done) | (simp [*]; done)), H', ⟨by have := HJ1.out; have := HJ7.out; have := HJ14.out; have := HK4.out; omega⟩, ⟨by (with_reducible repeat (first | refine blk_drewN ?_ _ | refine blk_drew ?_ | refine blk_alloc ?_ _)); exact BK203.out⟩, ⟨by repeat (first | (with_reducible first | exact HB.out | apply below_alloc | apply pw_below_drewN | apply below_drew1 | refine below_set ?_ GE203.out) | exact HB.out)⟩⟩
            ·replace c20 := Bool.eq_false_iff.mpr c20
             subst c20
             have H1 : (glisterref05_Fault.l0 k4 1 (wrap64 (x4_4 + 1)) l0_0 l0_1 a0_2) = some r := by rw [if_neg (show ¬ (false = true) by decide)] at H; exact H
             clear H
             have H := H1
             clear H1
             have H' := Aside0.mk H
             clear H
             have hcz29_0 : wr.cell? ⟨gb203, 0, none⟩ = some (.slice A0_0 l0_0.length c0_0) := (blk_cell BK203.out 0).trans rfl
             have hcz29_1 : wr.cell? ⟨gb203, 1, none⟩ = some (.slice A0_1 l0_1.length c0_1) := (blk_cell BK203.out 1).trans rfl
             have hcz29_2 : wr.cell? ⟨gb203, 2, none⟩ = some (.int .i64 a0_2) := (blk_cell BK203.out 2).trans rfl
             have hfz29_0 := blk_frozen BK203.out 0
             have hfz29_1 := blk_frozen BK203.out 1
             have hfz29_2 := blk_frozen BK203.out 2
             have p205 : 0 ≤ (x4_4 : Int) := of_decide_eq_true (by first | (with_reducible assumption) | assumption)
             have q205 : x4_4 < (l0_0.length : Int) := of_decide_eq_true (by first | (with_reducible assumption) | assumption)
             obtain ⟨ad205, e205, hx205_0⟩ := Kd.at_int HR0_0.out x4_4 p205 q205
             cases e205
             replace hx205_0 := (HB.out.cell (World.block_lt_of_cell? w _ hx205_0)).trans hx205_0
             replace p205 := eq_true p205
             replace q205 := eq_true q205
             go_wp2_with (first | (go_at_call 30; (with_reducible refine (glisterref05_In.calls (rd l0_0 x4_4) 0 30 false _ A19.out).mono ?_); rintro e w' ⟨rfl, ⟨nd, rfl⟩⟩; (try first | exact ⟨rfl, _, World.drewN_drewN _ _ _⟩ | exact ⟨rfl, _, Eq.trans (World.drewN_drewN _ _ _) (congrArg (World.drewN _) (Nat.add_assoc _ _ _))⟩)))
             repeat (go_quiet (first | (go_at_call 30; (with_reducible refine (glisterref05_In.calls (rd l0_0 x4_4) 0 30 false _ A19.out).mono ?_); rintro e w' ⟨rfl, ⟨nd, rfl⟩⟩; (try first | exact ⟨rfl, _, World.drewN_drewN _ _ _⟩ | exact ⟨rfl, _, Eq.trans (World.drewN_drewN _ _ _) (congrArg (World.drewN _) (Nat.add_assoc _ _ _))⟩))); try go_wp2_with (first | (go_at_call 30; (with_reducible refine (glisterref05_In.calls (rd l0_0 x4_4) 0 30 false _ A19.out).mono ?_); rintro e w' ⟨rfl, ⟨nd, rfl⟩⟩; (try first | exact ⟨rfl, _, World.drewN_drewN _ _ _⟩ | exact ⟨rfl, _, Eq.trans (World.drewN_drewN _ _ _) (congrArg (World.drewN _) (Nat.add_assoc _ _ _))⟩))))
             go_roundg k4
             case measure => have := HJ1.out; have := HJ7.out; have := HJ14.out; have := HK4.out; omega
             case rel => exact ⟨(1), (wrap64 (x4_4 + 1)), (by first | rfl | (simp; done) | (simp [*]; done)), (by first | rfl | (simp; done) | (simp [*]; done)), H', ⟨by have := HJ1.out; have := HJ7.out; have := HJ14.out; have := HK4.out; omega⟩, ⟨by (with_reducible repeat (first | refine blk_drewN ?_ _ | refine blk_drew ?_ | refine blk_alloc ?_ _)); exact BK203.out⟩, ⟨by repeat (first | (with_reducible first | exact HB.out | apply below_alloc | apply pw_below_drewN | apply below_drew1 | refine below_set ?_ GE203.out) | exact HB.out)⟩⟩
           ·rw [if_neg c18] at H
            exact absurd H (by simp)
          ·rw [if_neg c17] at H
           have c17b0 : decide (x4_4 < (l0_0.length : Int)) = false := decide_eq_false c17
           clear c17
           have H' := Aside0.mk H
           clear H
           have hcz30_0 : wr.cell? ⟨gb203, 0, none⟩ = some (.slice A0_0 l0_0.length c0_0) := (blk_cell BK203.out 0).trans rfl
           have hcz30_1 : wr.cell? ⟨gb203, 1, none⟩ = some (.slice A0_1 l0_1.length c0_1) := (blk_cell BK203.out 1).trans rfl
           have hcz30_2 : wr.cell? ⟨gb203, 2, none⟩ = some (.int .i64 a0_2) := (blk_cell BK203.out 2).trans rfl
           have hfz30_0 := blk_frozen BK203.out 0
           have hfz30_1 := blk_frozen BK203.out 1
           have hfz30_2 := blk_frozen BK203.out 2
           go_wp2
           repeat (go_quiet (fail); try go_wp2)
           go_loopg [3, 5] k4 (fun kq v3 v5 w' => ∃ (x3_5 : Int) (x5_5 : Int), v3 = .int .i64 x3_5 ∧ v5 = .int .i64 x5_5 ∧ Aside0 (glisterref05_Fault.l1 kq x3_5 x5_5 l0_0 l0_1 a0_2 = some r) ∧ Aside0 (kq ≤ k4) ∧ Aside0 (w'.heap[gb203]? = some (.cells #[(.slice A0_0 l0_0.length c0_0), (.slice A0_1 l0_1.length c0_1), .int .i64 a0_2] 25 (0, 0))) ∧ Aside0 (Below w.heap.size w w'))
           case atStart => exact ⟨(x3_4), (0), (by first | rfl | (simp; done) | (simp [*]; done)), (by first | rfl | (simp; done) | (simp [*]; done)), H', ⟨Nat.le_refl _⟩, ⟨by (with_reducible repeat (first | refine blk_drewN ?_ _ | refine blk_drew ?_ | refine blk_alloc ?_ _)); exact BK203.out⟩, ⟨by repeat (first | (with_reducible first | exact HB.out | apply below_alloc | apply pw_below_drewN | apply below_drew1 | refine below_set ?_ GE203.out) | exact HB.out)⟩⟩
           case round =>
            clear H'
            try clear c1
            try clear c2
            try clear p2
            try clear q2
            try clear hx2
            try clear c4
            try clear c4b0
            try clear c4b1
            try clear p6
            try clear c7
            try clear c9
            try clear c9b0
            try clear c9b1
            try clear c9b2
            try clear c11
            try clear c11b0
            try clear c11b1
            try clear c11b2
            try clear c16
            try clear c17
            try clear c17b0
            try clear c18
            try clear c18b0
            try clear c20
            try clear p20
            try clear q20
            try clear hx20
            try clear c21
            try clear c21b0
            try clear c23
            try clear c23b0
            try clear c24
            try clear c24b0
            try clear c25
            try clear c25b0
            try clear hcz10_0
            try clear hcz10_1
            try clear hcz10_2
            try clear hcz12_0
            try clear hcz12_1
            try clear hcz12_2
            try clear hcz14_0
            try clear hcz14_1
            try clear hcz14_2
            try clear hcz26_0
            try clear hcz26_1
            try clear hcz26_2
            try clear hcz27_0
            try clear hcz27_1
            try clear hcz27_2
            try clear hcz28_0
            try clear hcz28_1
            try clear hcz28_2
            try clear hcz29_0
            try clear hcz29_1
            try clear hcz29_2
            try clear hcz30_0
            try clear hcz30_1
            try clear hcz30_2
            try clear hcz5_0
            try clear hcz5_1
            try clear hcz5_2
            try clear hcz6_0
            try clear hcz6_1
            try clear hcz6_2
            try clear hfz10_0
            try clear hfz10_1
            try clear hfz10_2
            try clear hfz12_0
            try clear hfz12_1
            try clear hfz12_2
            try clear hfz14_0
            try clear hfz14_1
            try clear hfz14_2
            try clear hfz26_0
            try clear hfz26_1
            try clear hfz26_2
            try clear hfz27_0
            try clear hfz27_1
            try clear hfz27_2
            try clear hfz28_0
            try clear hfz28_1
            try clear hfz28_2
            try clear hfz29_0
            try clear hfz29_1
            try clear hfz29_2
            try clear hfz30_0
            try clear hfz30_1
            try clear hfz30_2
            try clear hfz5_0
            try clear hfz5_1
            try clear hfz5_2
            try clear hfz6_0
            try clear hfz6_1
            try clear hfz6_2
            try clear hx205_0
            try clear hx207_0
            try clear hx208_0
            try clear p2
            try clear p205
            try clear p207
            try clear p208
            try clear q205
            try clear q207
            try clear q208
            obtain ⟨x3_5, x5_5, rfl, rfl, HA, HK5, BK203, HB⟩ := hrel
            cases gk with
            | zero => exact absurd HA.out (by simp [glisterref05_Fault.l1])
            | succ k5 =>
             have H := HA.out
             clear HA
             simp only [glisterref05_Fault.l1] at H
             by_cases c31 : x5_5 < (l0_1.length : Int)
             ·rw [if_pos c31] at H
              have c31b0 : decide (x5_5 < (l0_1.length : Int)) = true := decide_eq_true c31
              clear c31
              by_cases c32 : 0 ≤ x5_5
              ·rw [if_pos c32] at H
               have c32b0 : decide (0 ≤ x5_5) = true := decide_eq_true c32
               clear c32
               by_cases c33 : (((rd_T54 l0_1 x5_5).f0).length : Int) > 3
               ·rw [if_pos c33] at H
                have c33b0 : decide (3 < (((rd_T54 l0_1 x5_5).f0).length : Int)) = true := decide_eq_true c33
                have c33b1 : decide (3 < ((rd_T54 l0_1 x5_5).f0).length) = true := decide_eq_true (by omega)
                clear c33
                obtain rfl := Option.some.inj H
                have hcz34_0 : wr.cell? ⟨gb203, 0, none⟩ = some (.slice A0_0 l0_0.length c0_0) := (blk_cell BK203.out 0).trans rfl
                have hcz34_1 : wr.cell? ⟨gb203, 1, none⟩ = some (.slice A0_1 l0_1.length c0_1) := (blk_cell BK203.out 1).trans rfl
                have hcz34_2 : wr.cell? ⟨gb203, 2, none⟩ = some (.int .i64 a0_2) := (blk_cell BK203.out 2).trans rfl
                have hfz34_0 := blk_frozen BK203.out 0
                have hfz34_1 := blk_frozen BK203.out 1
                have hfz34_2 := blk_frozen BK203.out 2
                have p209 : 0 ≤ (x5_5 : Int) := of_decide_eq_true (by first | (with_reducible assumption) | assumption)
                have q209 : x5_5 < (l0_1.length : Int) := of_decide_eq_true (by first | (with_reducible assumption) | assumption)
                obtain ⟨ad209, A209_0, c209_0, e209, hx209_0, hx209_1, hl209_0, hi209_0⟩ := at_T54 HR0_1.out x5_5 p209 q209
                cases e209
                replace hx209_0 := (HB.out.cell (World.block_lt_of_cell? w _ hx209_0)).trans hx209_0
                replace hx209_1 := (HB.out.cell (World.block_lt_of_cell? w _ hx209_1)).trans hx209_1
                have HR209_0 := Aside0.mk hi209_0
                have HC209_0 := Aside0.mk hl209_0
                clear hi209_0 hl209_0
                replace p209 := eq_true p209
                replace q209 := eq_true q209
                go_wp2
                repeat (go_quiet (fail); try go_wp2)
                go_ret
                exact ⟨by first | rfl | (simp [errW_none, errW_some] <;> rfl) | (simp [*, errW_none, errW_some] <;> rfl), by repeat (first | (with_reducible first | exact HB.out | apply below_alloc | apply pw_below_drewN | apply below_drew1 | refine below_set ?_ GE203.out) | exact HB.out)⟩
               ·rw [if_neg c33] at H
                have c33b0 : decide (3 < (((rd_T54 l0_1 x5_5).f0).length : Int)) = false := decide_eq_false c33
                have c33b1 : decide (3 < ((rd_T54 l0_1 x5_5).f0).length) = false := decide_eq_false (by omega)
                clear c33
                have HC35 := Aside0.mk H
                clear H
                have hcz36_0 : wr.cell? ⟨gb203, 0, none⟩ = some (.slice A0_0 l0_0.length c0_0) := (blk_cell BK203.out 0).trans rfl
                have hcz36_1 : wr.cell? ⟨gb203, 1, none⟩ = some (.slice A0_1 l0_1.length c0_1) := (blk_cell BK203.out 1).trans rfl
                have hcz36_2 : wr.cell? ⟨gb203, 2, none⟩ = some (.int .i64 a0_2) := (blk_cell BK203.out 2).trans rfl
                have hfz36_0 := blk_frozen BK203.out 0
                have hfz36_1 := blk_frozen BK203.out 1
                have hfz36_2 := blk_frozen BK203.out 2
                have p209 : 0 ≤ (x5_5 : Int) := of_decide_eq_true (by first | (with_reducible assumption) | assumption)
                have q209 : x5_5 < (l0_1.length : Int) := of_decide_eq_true (by first | (with_reducible assumption) | assumption)
                obtain ⟨ad209, A209_0, c209_0, e209, hx209_0, hx209_1, hl209_0, hi209_0⟩ := at_T54 HR0_1.out x5_5 p209 q209
                cases e209
                replace hx209_0 := (HB.out.cell (World.block_lt_of_cell? w _ hx209_0)).trans hx209_0
                replace hx209_1 := (HB.out.cell (World.block_lt_of_cell? w _ hx209_1)).trans hx209_1
                have HR209_0 := Aside0.mk hi209_0
                have HC209_0 := Aside0.mk hl209_0
                clear hi209_0 hl209_0
                replace p209 := eq_true p209
                replace q209 := eq_true q209
                go_upto_if 85 with (fail)
                repeat (go_quiet (fail); go_upto_if 85 with (fail))
                go_cut [3] (fun v3 wc => ∃ (kq : Nat) (x3_34 : Int), v3 = .int .i64 x3_34 ∧ Aside0 (glisterref05_Fault.j5 kq x3_34 x5_5 ((rd_T54 l0_1 x5_5).f0) l0_0 l0_1 a0_2 = some r) ∧ Aside0 (kq ≤ k5) ∧ Aside0 (wc.heap[gb203]? = some (.cells #[(.slice A0_0 l0_0.length c0_0), (.slice (some ad209) l0_1.length c0_1), .int .i64 a0_2] 25 (0, 0))) ∧ Aside0 (Below w.heap.size w wc))
                case first =>
                 have H := HC35.out
                 clear HC35
                 by_cases c37 : (((rd_T54 l0_1 x5_5).f0).length : Int) = 0
                 ·rw [if_pos c37] at H
                  have c37b0 : ((((rd_T54 l0_1 x5_5).f0).length : Int) == 0) = true := beq_iff_eq.mpr c37
                  have c37b1 : ((((rd_T54 l0_1 x5_5).f0).length : Int) != 0) = false := bne_eq_false_iff_eq.mpr c37
                  clear c37
                  (first | rw [c37b0] | (simp only [i64_w, i32_w]; rw [c37b0]) | skip)
                  have H' := Aside0.mk H
                  clear H
                  go_wp2
                  repeat (go_quiet (fail); try go_wp2)
                  go_meet
                  case rel => exact ⟨_, (1), (by first | rfl | (simp; done) | (simp [*]; done)), H', ⟨by have := HJ1.out; have := HJ7.out; have := HJ14.out; have := HK4.out; have := HK5.out; first | omega | exact Nat.le_refl _⟩, ⟨by (with_reducible repeat (first | refine blk_drewN ?_ _ | refine blk_drew ?_ | refine blk_alloc ?_ _)); exact BK203.out⟩, ⟨by repeat (first | (with_reducible first | exact HB.out | apply below_alloc | apply pw_below_drewN | apply below_drew1 | refine below_set ?_ GE203.out) | exact HB.out)⟩⟩
                 ·rw [if_neg c37] at H
                  have c37b0 : ((((rd_T54 l0_1 x5_5).f0).length : Int) == 0) = false := beq_eq_false_iff_ne.mpr c37
                  have c37b1 : ((((rd_T54 l0_1 x5_5).f0).length : Int) != 0) = true := bne_iff_ne.mpr c37
                  have c37b2 : ¬ (((rd_T54 l0_1 x5_5).f0) = []) := fun h_ => c37 (by rw [h_]; rfl)
                  (first | rw [c37b0] | (simp only [i64_w, i32_w]; rw [c37b0]) | skip)
                  have H' := Aside0.mk H
                  clear H
                  go_wp2
                  repeat (go_quiet (fail); try go_wp2)
                  go_meet
                  case rel => exact ⟨_, (x3_5), (by first | rfl | (simp; done) | (simp [*]; done)), H', ⟨by have := HJ1.out; have := HJ7.out; have := HJ14.out; have := HK4.out; have := HK5.out; first | omega | exact Nat.le_refl _⟩, ⟨by (with_reducible repeat (first | refine blk_drewN ?_ _ | refine blk_drew ?_ | refine blk_alloc ?_ _)); exact BK203.out⟩, ⟨by repeat (first | (with_reducible first | exact HB.out | apply below_alloc | apply pw_below_drewN | apply below_drew1 | refine below_set ?_ GE203.out) | exact HB.out)⟩⟩
                case rest =>
                 clear HC35
                 try clear c1
                 try clear c2
                 try clear p2
                 try clear q2
                 try clear hx2
                 try clear c3
                 try clear c4
                 try clear c4b0
                 try clear c4b1
                 try clear p6
                 try clear c7
                 try clear c9
                 try clear c9b0
                 try clear c9b1
                 try clear c9b2
                 try clear c11
                 try clear c11b0
                 try clear c11b1
                 try clear c11b2
                 try clear c16
                 try clear c17
                 try clear c17b0
                 try clear c18
                 try clear c18b0
                 try clear c20
                 try clear p20
                 try clear q20
                 try clear hx20
                 try clear c21
                 try clear c21b0
                 try clear c23
                 try clear c23b0
                 try clear c24
                 try clear c24b0
                 try clear c25
                 try clear c25b0
                 try clear c31
                 try clear c31b0
                 try clear c32
                 try clear c32b0
                 try clear c33
                 try clear c33b0
                 try clear c33b1
                 try clear c37
                 try clear c37b0
                 try clear c37b1
                 try clear c37b2
                 try clear hcz10_0
                 try clear hcz10_1
                 try clear hcz10_2
                 try clear hcz12_0
                 try clear hcz12_1
                 try clear hcz12_2
                 try clear hcz14_0
                 try clear hcz14_1
                 try clear hcz14_2
                 try clear hcz26_0
                 try clear hcz26_1
                 try clear hcz26_2
                 try clear hcz27_0
                 try clear hcz27_1
                 try clear hcz27_2
                 try clear hcz28_0
                 try clear hcz28_1
                 try clear hcz28_2
                 try clear hcz29_0
                 try clear hcz29_1
                 try clear hcz29_2
                 try clear hcz30_0
                 try clear hcz30_1
                 try clear hcz30_2
                 try clear hcz34_0
                 try clear hcz34_1
                 try clear hcz34_2
                 try clear hcz36_0
                 try clear hcz36_1
                 try clear hcz36_2
                 try clear hcz5_0
                 try clear hcz5_1
                 try clear hcz5_2
                 try clear hcz6_0
                 try clear hcz6_1
                 try clear hcz6_2
                 try clear hfz10_0
                 try clear hfz10_1
                 try clear hfz10_2
                 try clear hfz12_0
                 try clear hfz12_1
                 try clear hfz12_2
                 try clear hfz14_0
                 try clear hfz14_1
                 try clear hfz14_2
                 try clear hfz26_0
                 try clear hfz26_1
                 try clear hfz26_2
                 try clear hfz27_0
                 try clear hfz27_1
                 try clear hfz27_2
                 try clear hfz28_0
                 try clear hfz28_1
                 try clear hfz28_2
                 try clear hfz29_0
                 try clear hfz29_1
                 try clear hfz29_2
                 try clear hfz30_0
                 try clear hfz30_1
                 try clear hfz30_2
                 try clear hfz34_0
                 try clear hfz34_1
                 try clear hfz34_2
                 try clear hfz36_0
                 try clear hfz36_1
                 try clear hfz36_2
                 try clear hfz5_0
                 try clear hfz5_1
                 try clear hfz5_2
                 try clear hfz6_0
                 try clear hfz6_1
                 try clear hfz6_2
                 try clear hx205_0
                 try clear hx207_0
                 try clear hx208_0
                 try clear hx209_0
                 try clear hx209_1
                 try clear p2
                 try clear p20
                 try clear p205
                 try clear p207
                 try clear p208
                 try clear p209
                 try clear p6
                 try clear q2
                 try clear q20
                 try clear q205
                 try clear q207
                 try clear q208
                 try clear q209
                 obtain ⟨kq, x3_34, rfl, HA, HJ34, BK203, HB⟩ := hcut
                 cases kq with
                 | zero => exact absurd HA.out (by simp [glisterref05_Fault.j5])
                 | succ kj34 =>
                  have H := HA.out
                  clear HA
                  simp only [glisterref05_Fault.j5] at H
                  have H' := Aside0.mk H
                  clear H
                  go_wp2
                  repeat (go_quiet (fail); try go_wp2)
                  go_loopg [3, 7] kj34 (fun kq v3 v7 w' => ∃ (x3_7 : Int) (x7_7 : Int), v3 = .int .i64 x3_7 ∧ v7 = .int .i64 x7_7 ∧ Aside0 (glisterref05_Fault.l2 kq x3_7 x5_5 ((rd_T54 l0_1 x5_5).f0) x7_7 l0_0 l0_1 a0_2 = some r) ∧ Aside0 (kq ≤ kj34) ∧ Aside0 (w'.heap[gb203]? = some (.cells #[(.slice A0_0 l0_0.length c0_0), (.slice (some ad209) l0_1.length c0_1), .int .i64 a0_2] 25 (0, 0))) ∧ Aside0 (Below w.heap.size w w'))
                  case atStart => exact ⟨(x3_34), (0), (by first | rfl | (simp; done) | (simp [*]; done)), (by first | rfl | (simp; done) | (simp [*]; done)), H', ⟨Nat.le_refl _⟩, ⟨by (with_reducible repeat (first | refine blk_drewN ?_ _ | refine blk_drew ?_ | refine blk_alloc ?_ _)); exact BK203.out⟩, ⟨by repeat (first | (with_reducible first | exact HB.out | apply below_alloc | apply pw_below_drewN | apply below_drew1 | refine below_set ?_ GE203.out) | exact HB.out)⟩⟩
                  case round =>
                   clear H'
                   try clear c1
                   try clear c2
                   try clear p2
                   try clear q2
                   try clear hx2
                   try clear c3
                   try clear c4
                   try clear c4b0
                   try clear c4b1
                   try clear p6
                   try clear c7
                   try clear c9
                   try clear c9b0
                   try clear c9b1
                   try clear c9b2
                   try clear c11
                   try clear c11b0
                   try clear c11b1
                   try clear c11b2
                   try clear c16
                   try clear c17
                   try clear c17b0
                   try clear c18
                   try clear c18b0
                   try clear c20
                   try clear p20
                   try clear q20
                   try clear hx20
                   try clear c21
                   try clear c21b0
                   try clear c23
                   try clear c23b0
                   try clear c24
                   try clear c24b0
                   try clear c25
                   try clear c25b0
                   try clear c31
                   try clear c31b0
                   try clear c32
                   try clear c32b0
                   try clear c33
                   try clear c33b0
                   try clear c33b1
                   try clear c37
                   try clear c37b0
                   try clear c37b1
                   try clear c37b2
                   try clear hcz10_0
                   try clear hcz10_1
                   try clear hcz10_2
                   try clear hcz12_0
                   try clear hcz12_1
                   try clear hcz12_2
                   try clear hcz14_0
                   try clear hcz14_1
                   try clear hcz14_2
                   try clear hcz26_0
                   try clear hcz26_1
                   try clear hcz26_2
                   try clear hcz27_0
                   try clear hcz27_1
                   try clear hcz27_2
                   try clear hcz28_0
                   try clear hcz28_1
                   try clear hcz28_2
                   try clear hcz29_0
                   try clear hcz29_1
                   try clear hcz29_2
                   try clear hcz30_0
                   try clear hcz30_1
                   try clear hcz30_2
                   try clear hcz34_0
                   try clear hcz34_1
                   try clear hcz34_2
                   try clear hcz36_0
                   try clear hcz36_1
                   try clear hcz36_2
                   try clear hcz5_0
                   try clear hcz5_1
                   try clear hcz5_2
                   try clear hcz6_0
                   try clear hcz6_1
                   try clear hcz6_2
                   try clear hfz10_0
                   try clear hfz10_1
                   try clear hfz10_2
                   try clear hfz12_0
                   try clear hfz12_1
                   try clear hfz12_2
                   try clear hfz14_0
                   try clear hfz14_1
                   try clear hfz14_2
                   try clear hfz26_0
                   try clear hfz26_1
                   try clear hfz26_2
                   try clear hfz27_0
                   try clear hfz27_1
                   try clear hfz27_2
                   try clear hfz28_0
                   try clear hfz28_1
                   try clear hfz28_2
                   try clear hfz29_0
                   try clear hfz29_1
                   try clear hfz29_2
                   try clear hfz30_0
                   try clear hfz30_1
                   try clear hfz30_2
                   try clear hfz34_0
                   try clear hfz34_1
                   try clear hfz34_2
                   try clear hfz36_0
                   try clear hfz36_1
                   try clear hfz36_2
                   try clear hfz5_0
                   try clear hfz5_1
                   try clear hfz5_2
                   try clear hfz6_0
                   try clear hfz6_1
                   try clear hfz6_2
                   try clear hx205_0
                   try clear hx207_0
                   try clear hx208_0
                   try clear hx209_0
                   try clear hx209_1
                   try clear p2
                   try clear p20
                   try clear p205
                   try clear p207
                   try clear p208
                   try clear p209
                   try clear p6
                   try clear q2
                   try clear q20
                   try clear q205
                   try clear q207
                   try clear q208
                   try clear q209
                   obtain ⟨x3_7, x7_7, rfl, rfl, HA, HK7, BK203, HB⟩ := hrel
                   cases gk with
                   | zero => exact absurd HA.out (by simp [glisterref05_Fault.l2])
                   | succ k7 =>
                    have H := HA.out
                    clear HA
                    simp only [glisterref05_Fault.l2] at H
                    by_cases c38 : x7_7 < (((rd_T54 l0_1 x5_5).f0).length : Int)
                    ·rw [if_pos c38] at H
                     have c38b0 : decide (x7_7 < (((rd_T54 l0_1 x5_5).f0).length : Int)) = true := decide_eq_true c38
                     clear c38
                     by_cases c39 : 0 ≤ x7_7
                     ·rw [if_pos c39] at H
                      have c39b0 : decide (0 ≤ x7_7) = true := decide_eq_true c39
                      clear c39
                      by_cases c40 : (((rd_T101 ((rd_T54 l0_1 x5_5).f0) x7_7).f1).length : Int) > 2
                      ·rw [if_pos c40] at H
                       have c40b0 : decide (2 < (((rd_T101 ((rd_T54 l0_1 x5_5).f0) x7_7).f1).length : Int)) = true := decide_eq_true c40
                       have c40b1 : decide (2 < ((rd_T101 ((rd_T54 l0_1 x5_5).f0) x7_7).f1).length) = true := decide_eq_true (by omega)
                       clear c40
                       obtain rfl := Option.some.inj H
                       have p210 : 0 ≤ (x7_7 : Int) := of_decide_eq_true (by first | (with_reducible assumption) | assumption)
                       have q210 : x7_7 < (((rd_T54 l0_1 x5_5).f0).length : Int) := of_decide_eq_true (by first | (with_reducible assumption) | assumption)
                       obtain ⟨ad210, A210_2, c210_2, e210, hx210_0, hx210_1, hx210_2, hl210_2, hi210_2⟩ := at_T101 HR209_0.out x7_7 p210 q210
                       cases e210
                       replace hx210_0 := (HB.out.cell (World.block_lt_of_cell? w _ hx210_0)).trans hx210_0
                       replace hx210_1 := (HB.out.cell (World.block_lt_of_cell? w _ hx210_1)).trans hx210_1
                       replace hx210_2 := (HB.out.cell (World.block_lt_of_cell? w _ hx210_2)).trans hx210_2
                       have HR210_2 := Aside0.mk hi210_2
                       have HC210_2 := Aside0.mk hl210_2
                       clear hi210_2 hl210_2
                       replace p210 := eq_true p210
                       replace q210 := eq_true q210
                       go_wp2
                       repeat (go_quiet (fail); try go_wp2)
                       go_ret
                       exact ⟨by first | rfl | (simp [errW_none, errW_some] <;> rfl) | (simp [*, errW_none, errW_some] <;> rfl), by repeat (first | (with_reducible first | exact HB.out | apply below_alloc | apply pw_below_drewN | apply below_drew1 | refine below_set ?_ GE203.out) | exact HB.out)⟩
                      ·rw [if_neg c40] at H
                       have c40b0 : decide (2 < (((rd_T101 ((rd_T54 l0_1 x5_5).f0) x7_7).f1).length : Int)) = false := decide_eq_false c40
                       have c40b1 : decide (2 < ((rd_T101 ((rd_T54 l0_1 x5_5).f0) x7_7).f1).length) = false := decide_eq_false (by omega)
                       clear c40
                       replace H := Option.bind_eq_some_iff.mp H
                       obtain ⟨t212, A410, H⟩ := H
                       replace H : (if t212 = true then (glisterref05_Fault.j7 k7 x3_7 x5_5 ((rd_T54 l0_1 x5_5).f0) x7_7 l0_0 l0_1 a0_2) else (glisterref05_Fault.j7 k7 1 x5_5 ((rd_T54 l0_1 x5_5).f0) x7_7 l0_0 l0_1 a0_2)) = some r := H
                       have A41 := Aside0.mk A410
                       clear A410
                       have HC42 := Aside0.mk H
                       clear H
                       have p210 : 0 ≤ (x7_7 : Int) := of_decide_eq_true (by first | (with_reducible assumption) | assumption)
                       have q210 : x7_7 < (((rd_T54 l0_1 x5_5).f0).length : Int) := of_decide_eq_true (by first | (with_reducible assumption) | assumption)
                       obtain ⟨ad210, A210_2, c210_2, e210, hx210_0, hx210_1, hx210_2, hl210_2, hi210_2⟩ := at_T101 HR209_0.out x7_7 p210 q210
                       cases e210
                       replace hx210_0 := (HB.out.cell (World.block_lt_of_cell? w _ hx210_0)).trans hx210_0
                       replace hx210_1 := (HB.out.cell (World.block_lt_of_cell? w _ hx210_1)).trans hx210_1
                       replace hx210_2 := (HB.out.cell (World.block_lt_of_cell? w _ hx210_2)).trans hx210_2
                       have HR210_2 := Aside0.mk hi210_2
                       have HC210_2 := Aside0.mk hl210_2
                       clear hi210_2 hl210_2
                       replace p210 := eq_true p210
                       replace q210 := eq_true q210
                       have p211 : 0 ≤ (x7_7 : Int) := of_decide_eq_true (by first | (with_reducible assumption) | assumption)
                       have q211 : x7_7 < (((rd_T54 l0_1 x5_5).f0).length : Int) := of_decide_eq_true (by first | (with_reducible assumption) | assumption)
                       obtain ⟨ad211, A211_2, c211_2, e211, hx211_0, hx211_1, hx211_2, hl211_2, hi211_2⟩ := at_T101 HR209_0.out x7_7 p211 q211
                       obtain rfl : ad210 = ad211 := (by injection e211)
                       replace hx211_0 := (HB.out.cell (World.block_lt_of_cell? w _ hx211_0)).trans hx211_0
                       replace hx211_1 := (HB.out.cell (World.block_lt_of_cell? w _ hx211_1)).trans hx211_1
                       replace hx211_2 := (HB.out.cell (World.block_lt_of_cell? w _ hx211_2)).trans hx211_2
                       have HR211_2 := Aside0.mk hi211_2
                       have HC211_2 := Aside0.mk hl211_2
                       clear hi211_2 hl211_2
                       replace p211 := eq_true p211
                       replace q211 := eq_true q211
                       have ea_ := Option.some.inj (hx210_2.symm.trans hx211_2)
                       injection ea_ with ea_ en_ ec_
                       subst ea_
                       subst ec_
                       clear en_
                       go_upto_if 105 with (first | (go_at_call 89; (with_reducible refine (glisterref05_Span.calls ((rd_T101 ((rd_T54 l0_1 x5_5).f0) x7_7).f0.f0) ((rd_T101 ((rd_T54 l0_1 x5_5).f0) x7_7).f0.f1) 6 t212 _ A41.out).mono ?_); rintro e w43 ⟨rfl, hb⟩; have n0_ := Aside0.mk (blk_below (g := gb203) (o := .cells #[.slice A0_0 l0_0.length c0_0, .slice (some ad209) l0_1.length c0_1, .int .i64 a0_2] 25 (0, 0)) (by (with_reducible repeat (first | refine blk_drewN ?_ _ | refine blk_drew ?_ | refine blk_alloc ?_ _)); exact BK203.out) hb); have n1_ := Aside0.mk (below_step (by repeat (first | (with_reducible first | exact HB.out | apply below_alloc | apply pw_below_drewN | apply below_drew1 | refine below_set ?_ GE203.out) | exact HB.out)) hb); clear BK203; clear HB; have BK203 := n0_; have HB := n1_; clear n0_ n1_; (try clear hb); (try clear hb2); (try clear hk); (try clear hi)))
                       repeat (go_quiet (first | (go_at_call 89; (with_reducible refine (glisterref05_Span.calls ((rd_T101 ((rd_T54 l0_1 x5_5).f0) x7_7).f0.f0) ((rd_T101 ((rd_T54 l0_1 x5_5).f0) x7_7).f0.f1) 6 t212 _ A41.out).mono ?_); rintro e w43 ⟨rfl, hb⟩; have n0_ := Aside0.mk (blk_below (g := gb203) (o := .cells #[.slice A0_0 l0_0.length c0_0, .slice (some ad209) l0_1.length c0_1, .int .i64 a0_2] 25 (0, 0)) (by (with_reducible repeat (first | refine blk_drewN ?_ _ | refine blk_drew ?_ | refine blk_alloc ?_ _)); exact BK203.out) hb); have n1_ := Aside0.mk (below_step (by repeat (first | (with_reducible first | exact HB.out | apply below_alloc | apply pw_below_drewN | apply below_drew1 | refine below_set ?_ GE203.out) | exact HB.out)) hb); clear BK203; clear HB; have BK203 := n0_; have HB := n1_; clear n0_ n1_; (try clear hb); (try clear hb2); (try clear hk); (try clear hi))); go_upto_if 105 with (first | (go_at_call 89; (with_reducible refine (glisterref05_Span.calls ((rd_T101 ((rd_T54 l0_1 x5_5).f0) x7_7).f0.f0) ((rd_T101 ((rd_T54 l0_1 x5_5).f0) x7_7).f0.f1) 6 t212 _ A41.out).mono ?_); rintro e w43 ⟨rfl, hb⟩; have n0_ := Aside0.mk (blk_below (g := gb203) (o := .cells #[.slice A0_0 l0_0.length c0_0, .slice (some ad209) l0_1.length c0_1, .int .i64 a0_2] 25 (0, 0)) (by (with_reducible repeat (first | refine blk_drewN ?_ _ | refine blk_drew ?_ | refine blk_alloc ?_ _)); exact BK203.out) hb); have n1_ := Aside0.mk (below_step (by repeat (first | (with_reducible first | exact HB.out | apply below_alloc | apply pw_below_drewN | apply below_drew1 | refine below_set ?_ GE203.out) | exact HB.out)) hb); clear BK203; clear HB; have BK203 := n0_; have HB := n1_; clear n0_ n1_; (try clear hb); (try clear hb2); (try clear hk); (try clear hi))))
                       (try simp only [Act.put, List.setIfInBounds_toArray, List.set_cons_zero, List.set_cons_succ])
                       go_cut [3] (fun v3 wc => ∃ (kq : Nat) (x3_41 : Int), v3 = .int .i64 x3_41 ∧ Aside0 (glisterref05_Fault.j7 kq x3_41 x5_5 ((rd_T54 l0_1 x5_5).f0) x7_7 l0_0 l0_1 a0_2 = some r) ∧ Aside0 (kq ≤ k7) ∧ Aside0 (wc.heap[gb203]? = some (.cells #[(.slice A0_0 l0_0.length c0_0), (.slice (some ad209) l0_1.length c0_1), .int .i64 a0_2] 25 (0, 0))) ∧ Aside0 (Below w.heap.size w wc))
                       case first =>
                        have H := HC42.out
                        clear HC42
                        by_cases c44 : t212 = true
                        ·subst c44
                         have H1 : (glisterref05_Fault.j7 k7 x3_7 x5_5 ((rd_T54 l0_1 x5_5).f0) x7_7 l0_0 l0_1 a0_2) = some r := by rw [if_pos rfl] at H; exact H
                         clear H
                         have H := H1
                         clear H1
                         have H' := Aside0.mk H
                         clear H
                         go_wp2
                         repeat (go_quiet (fail); try go_wp2)
                         go_meet
                         case rel => exact ⟨_, (x3_7), (by first | rfl | (simp; done) | (simp [*]; done)), H', ⟨by have := HJ1.out; have := HJ7.out; have := HJ14.out; have := HK4.out; have := HK5.out; have := HJ34.out; have := HK7.out; first | omega | exact Nat.le_refl _⟩, ⟨by (with_reducible repeat (first | refine blk_drewN ?_ _ | refine blk_drew ?_ | refine blk_alloc ?_ _)); exact BK203.out⟩, ⟨by repeat (first | (with_reducible first | exact HB.out | apply below_alloc | apply pw_below_drewN | apply below_drew1 | refine below_set ?_ GE203.out) | exact HB.out)⟩⟩
                        ·replace c44 := Bool.eq_false_iff.mpr c44
                         subst c44
                         have H1 : (glisterref05_Fault.j7 k7 1 x5_5 ((rd_T54 l0_1 x5_5).f0) x7_7 l0_0 l0_1 a0_2) = some r := by rw [if_neg (show ¬ (false = true) by decide)] at H; exact H
                         clear H
                         have H := H1
                         clear H1
                         have H' := Aside0.mk H
                         clear H
                         go_wp2
                         repeat (go_quiet (fail); try go_wp2)
                         go_meet
                         case rel => exact ⟨_, (1), (by first | rfl | (simp; done) | (simp [*]; done)), H', ⟨by have := HJ1.out; have := HJ7.out; have := HJ14.out; have := HK4.out; have := HK5.out; have := HJ34.out; have := HK7.out; first | omega | exact Nat.le_refl _⟩, ⟨by (with_reducible repeat (first | refine blk_drewN ?_ _ | refine blk_drew ?_ | refine blk_alloc ?_ _)); exact BK203.out⟩, ⟨by repeat (first | (with_reducible first | exact HB.out | apply below_alloc | apply pw_below_drewN | apply below_drew1 | refine below_set ?_ GE203.out) | exact HB.out)⟩⟩
                       case rest =>
                        clear HC42
                        try clear c1
                        try clear c2
                        try clear p2
                        try clear q2
                        try clear hx2
                        try clear c3
                        try clear c4
                        try clear c4b0
                        try clear c4b1
                        try clear p6
                        try clear c7
                        try clear c9
                        try clear c9b0
                        try clear c9b1
                        try clear c9b2
                        try clear c11
                        try clear c11b0
                        try clear c11b1
                        try clear c11b2
                        try clear c16
                        try clear c17
                        try clear c17b0
                        try clear c18
                        try clear c18b0
                        try clear c20
                        try clear p20
                        try clear q20
                        try clear hx20
                        try clear c21
                        try clear c21b0
                        try clear p21
                        try clear q21
                        try clear hx21
                        try clear c23
                        try clear c23b0
                        try clear c24
                        try clear c24b0
                        try clear c25
                        try clear c25b0
                        try clear c31
                        try clear c31b0
                        try clear c32
                        try clear c32b0
                        try clear c33
                        try clear c33b0
                        try clear c33b1
                        try clear c37
                        try clear c37b0
                        try clear c37b1
                        try clear c37b2
                        try clear c38
                        try clear c38b0
                        try clear c39
                        try clear c39b0
                        try clear c40
                        try clear c40b0
                        try clear c40b1
                        try clear c44
                        try clear hcz10_0
                        try clear hcz10_1
                        try clear hcz10_2
                        try clear hcz12_0
                        try clear hcz12_1
                        try clear hcz12_2
                        try clear hcz14_0
                        try clear hcz14_1
                        try clear hcz14_2
                        try clear hcz26_0
                        try clear hcz26_1
                        try clear hcz26_2
                        try clear hcz27_0
                        try clear hcz27_1
                        try clear hcz27_2
                        try clear hcz28_0
                        try clear hcz28_1
                        try clear hcz28_2
                        try clear hcz29_0
                        try clear hcz29_1
                        try clear hcz29_2
                        try clear hcz30_0
                        try clear hcz30_1
                        try clear hcz30_2
                        try clear hcz34_0
                        try clear hcz34_1
                        try clear hcz34_2
                        try clear hcz36_0
                        try clear hcz36_1
                        try clear hcz36_2
                        try clear hcz5_0
                        try clear hcz5_1
                        try clear hcz5_2
                        try clear hcz6_0
                        try clear hcz6_1
                        try clear hcz6_2
                        try clear hfz10_0
                        try clear hfz10_1
                        try clear hfz10_2
                        try clear hfz12_0
                        try clear hfz12_1
                        try clear hfz12_2
                        try clear hfz14_0
                        try clear hfz14_1
                        try clear hfz14_2
                        try clear hfz26_0
                        try clear hfz26_1
                        try clear hfz26_2
                        try clear hfz27_0
                        try clear hfz27_1
                        try clear hfz27_2
                        try clear hfz28_0
                        try clear hfz28_1
                        try clear hfz28_2
                        try clear hfz29_0
                        try clear hfz29_1
                        try clear hfz29_2
                        try clear hfz30_0
                        try clear hfz30_1
                        try clear hfz30_2
                        try clear hfz34_0
                        try clear hfz34_1
                        try clear hfz34_2
                        try clear hfz36_0
                        try clear hfz36_1
                        try clear hfz36_2
                        try clear hfz5_0
                        try clear hfz5_1
                        try clear hfz5_2
                        try clear hfz6_0
                        try clear hfz6_1
                        try clear hfz6_2
                        try clear hx205_0
                        try clear hx207_0
                        try clear hx208_0
                        try clear hx209_0
                        try clear hx209_1
                        try clear hx210_0
                        try clear hx210_1
                        try clear hx210_2
                        try clear hx211_0
                        try clear hx211_1
                        try clear hx211_2
                        try clear p2
                        try clear p20
                        try clear p205
                        try clear p207
                        try clear p208
                        try clear p209
                        try clear p210
                        try clear p211
                        try clear p6
                        try clear q2
                        try clear q20
                        try clear q205
                        try clear q207
                        try clear q208
                        try clear q209
                        try clear q210
                        try clear q211
                        obtain ⟨kq, x3_41, rfl, HA, HJ41, BK203, HB⟩ := hcut
                        cases kq with
                        | zero => exact absurd HA.out (by simp [glisterref05_Fault.j7])
                        | succ kj41 =>
                         have H := HA.out
                         clear HA
                         simp only [glisterref05_Fault.j7] at H
                         have H' := Aside0.mk H
                         clear H
                         go_wp2
                         repeat (go_quiet (fail); try go_wp2)
                         go_loopg [3, 8] kj41 (fun kq v3 v8 w' => ∃ (x3_9 : Int) (x8_9 : Int), v3 = .int .i64 x3_9 ∧ v8 = .int .i64 x8_9 ∧ Aside0 (glisterref05_Fault.l3 kq x3_9 x5_5 ((rd_T54 l0_1 x5_5).f0) x7_7 x8_9 l0_0 l0_1 a0_2 = some r) ∧ Aside0 (kq ≤ kj41) ∧ Aside0 (w'.heap[gb203]? = some (.cells #[(.slice A0_0 l0_0.length c0_0), (.slice (some ad209) l0_1.length c0_1), .int .i64 a0_2] 25 (0, 0))) ∧ Aside0 (Below w.heap.size w w'))
                         case atStart => exact ⟨(x3_41), (0), (by first | rfl | (simp; done) | (simp [*]; done)), (by first | rfl | (simp; done) | (simp [*]; done)), H', ⟨Nat.le_refl _⟩, ⟨by (with_reducible repeat (first | refine blk_drewN ?_ _ | refine blk_drew ?_ | refine blk_alloc ?_ _)); exact BK203.out⟩, ⟨by repeat (first | (with_reducible first | exact HB.out | apply below_alloc | apply pw_below_drewN | apply below_drew1 | refine below_set ?_ GE203.out) | exact HB.out)⟩⟩
                         case round =>
                          clear H'
                          try clear c1
                          try clear c2
                          try clear p2
                          try clear q2
                          try clear hx2
                          try clear c3
                          try clear c4
                          try clear c4b0
                          try clear c4b1
                          try clear p6
                          try clear c7
                          try clear c9
                          try clear c9b0
                          try clear c9b1
                          try clear c9b2
                          try clear c11
                          try clear c11b0
                          try clear c11b1
                          try clear c11b2
                          try clear c16
                          try clear c17
                          try clear c17b0
                          try clear c18
                          try clear c18b0
                          try clear c20
                          try clear p20
                          try clear q20
                          try clear hx20
                          try clear c21
                          try clear c21b0
                          try clear p21
                          try clear q21
                          try clear hx21
                          try clear c23
                          try clear c23b0
                          try clear c24
                          try clear c24b0
                          try clear c25
                          try clear c25b0
                          try clear c31
                          try clear c31b0
                          try clear c32
                          try clear c32b0
                          try clear c33
                          try clear c33b0
                          try clear c33b1
                          try clear c37
                          try clear c37b0
                          try clear c37b1
                          try clear c37b2
                          try clear c38
                          try clear c38b0
                          try clear c39
                          try clear c39b0
                          try clear c40
                          try clear c40b0
                          try clear c40b1
                          try clear c44
                          try clear hcz10_0
                          try clear hcz10_1
                          try clear hcz10_2
                          try clear hcz12_0
                          try clear hcz12_1
                          try clear hcz12_2
                          try clear hcz14_0
                          try clear hcz14_1
                          try clear hcz14_2
                          try clear hcz26_0
                          try clear hcz26_1
                          try clear hcz26_2
                          try clear hcz27_0
                          try clear hcz27_1
                          try clear hcz27_2
                          try clear hcz28_0
                          try clear hcz28_1
                          try clear hcz28_2
                          try clear hcz29_0
                          try clear hcz29_1
                          try clear hcz29_2
                          try clear hcz30_0
                          try clear hcz30_1
                          try clear hcz30_2
                          try clear hcz34_0
                          try clear hcz34_1
                          try clear hcz34_2
                          try clear hcz36_0
                          try clear hcz36_1
                          try clear hcz36_2
                          try clear hcz5_0
                          try clear hcz5_1
                          try clear hcz5_2
                          try clear hcz6_0
                          try clear hcz6_1
                          try clear hcz6_2
                          try clear hfz10_0
                          try clear hfz10_1
                          try clear hfz10_2
                          try clear hfz12_0
                          try clear hfz12_1
                          try clear hfz12_2
                          try clear hfz14_0
                          try clear hfz14_1
                          try clear hfz14_2
                          try clear hfz26_0
                          try clear hfz26_1
                          try clear hfz26_2
                          try clear hfz27_0
                          try clear hfz27_1
                          try clear hfz27_2
                          try clear hfz28_0
                          try clear hfz28_1
                          try clear hfz28_2
                          try clear hfz29_0
                          try clear hfz29_1
                          try clear hfz29_2
                          try clear hfz30_0
                          try clear hfz30_1
                          try clear hfz30_2
                          try clear hfz34_0
                          try clear hfz34_1
                          try clear hfz34_2
                          try clear hfz36_0
                          try clear hfz36_1
                          try clear hfz36_2
                          try clear hfz5_0
                          try clear hfz5_1
                          try clear hfz5_2
                          try clear hfz6_0
                          try clear hfz6_1
                          try clear hfz6_2
                          try clear hx205_0
                          try clear hx207_0
                          try clear hx208_0
                          try clear hx209_0
                          try clear hx209_1
                          try clear hx210_0
                          try clear hx210_1
                          try clear hx210_2
                          try clear hx211_0
                          try clear hx211_1
                          try clear hx211_2
                          try clear p2
                          try clear p20
                          try clear p205
                          try clear p207
                          try clear p208
                          try clear p209
                          try clear p21
                          try clear p210
                          try clear p211
                          try clear p6
                          try clear q2
                          try clear q20
                          try clear q205
                          try clear q207
                          try clear q208
                          try clear q209
                          try clear q21
                          try clear q210
                          try clear q211
                          obtain ⟨x3_9, x8_9, rfl, rfl, HA, HK9, BK203, HB⟩ := hrel
                          cases gk with
                          | zero => exact absurd HA.out (by simp [glisterref05_Fault.l3])
                          | succ k9 =>
                           have H := HA.out
                           clear HA
                           simp only [glisterref05_Fault.l3] at H
                           by_cases c45 : 0 ≤ x7_7
                           ·rw [if_pos c45] at H
                            have c45b0 : decide (0 ≤ x7_7) = true := decide_eq_true c45
                            clear c45
                            by_cases c46 : x7_7 < (((rd_T54 l0_1 x5_5).f0).length : Int)
                            ·rw [if_pos c46] at H
                             have c46b0 : decide (x7_7 < (((rd_T54 l0_1 x5_5).f0).length : Int)) = true := decide_eq_true c46
                             clear c46
                             by_cases c47 : x8_9 < (((rd_T101 ((rd_T54 l0_1 x5_5).f0) x7_7).f1).length : Int)
                             ·rw [if_pos c47] at H
                              have c47b0 : decide (x8_9 < (((rd_T101 ((rd_T54 l0_1 x5_5).f0) x7_7).f1).length : Int)) = true := decide_eq_true c47
                              clear c47
                              by_cases c48 : 0 ≤ x8_9
                              ·rw [if_pos c48] at H
                               have c48b0 : decide (0 ≤ x8_9) = true := decide_eq_true c48
                               clear c48
                               replace H := Option.bind_eq_some_iff.mp H
                               obtain ⟨t216, A490, H⟩ := H
                               replace H : (if t216 = true then (glisterref05_Fault.l3 k9 x3_9 x5_5 ((rd_T54 l0_1 x5_5).f0) x7_7 (wrap64 (x8_9 + 1)) l0_0 l0_1 a0_2) else (glisterref05_Fault.l3 k9 1 x5_5 ((rd_T54 l0_1 x5_5).f0) x7_7 (wrap64 (x8_9 + 1)) l0_0 l0_1 a0_2)) = some r := H
                               have A49 := Aside0.mk A490
                               clear A490
                               by_cases c50 : t216 = true
                               ·subst c50
                                have H1 : (glisterref05_Fault.l3 k9 x3_9 x5_5 ((rd_T54 l0_1 x5_5).f0) x7_7 (wrap64 (x8_9 + 1)) l0_0 l0_1 a0_2) = some r := by rw [if_pos rfl] at H; exact H
                                clear H
                                have H := H1
                                clear H1
                                have H' := Aside0.mk H
                                clear H
                                have p213 : 0 ≤ (x7_7 : Int) := of_decide_eq_true (by first | (with_reducible assumption) | assumption)
                                have q213 : x7_7 < (((rd_T54 l0_1 x5_5).f0).length : Int) := of_decide_eq_true (by first | (with_reducible assumption) | assumption)
                                obtain ⟨ad213, A213_2, c213_2, e213, hx213_0, hx213_1, hx213_2, hl213_2, hi213_2⟩ := at_T101 HR209_0.out x7_7 p213 q213
                                obtain rfl : ad210 = ad213 := (by injection e213)
                                replace hx213_0 := (HB.out.cell (World.block_lt_of_cell? w _ hx213_0)).trans hx213_0
                                replace hx213_1 := (HB.out.cell (World.block_lt_of_cell? w _ hx213_1)).trans hx213_1
                                replace hx213_2 := (HB.out.cell (World.block_lt_of_cell? w _ hx213_2)).trans hx213_2
                                have HR213_2 := Aside0.mk hi213_2
                                have HC213_2 := Aside0.mk hl213_2
                                clear hi213_2 hl213_2
                                replace p213 := eq_true p213
                                replace q213 := eq_true q213
                                have p214 : 0 ≤ (x7_7 : Int) := of_decide_eq_true (by first | (with_reducible assumption) | assumption)
                                have q214 : x7_7 < (((rd_T54 l0_1 x5_5).f0).length : Int) := of_decide_eq_true (by first | (with_reducible assumption) | assumption)
                                obtain ⟨ad214, A214_2, c214_2, e214, hx214_0, hx214_1, hx214_2, hl214_2, hi214_2⟩ := at_T101 HR209_0.out x7_7 p214 q214
                                obtain rfl : ad210 = ad214 := (by injection e214)
                                replace hx214_0 := (HB.out.cell (World.block_lt_of_cell? w _ hx214_0)).trans hx214_0
                                replace hx214_1 := (HB.out.cell (World.block_lt_of_cell? w _ hx214_1)).trans hx214_1
                                replace hx214_2 := (HB.out.cell (World.block_lt_of_cell? w _ hx214_2)).trans hx214_2
                                have HR214_2 := Aside0.mk hi214_2
                                have HC214_2 := Aside0.mk hl214_2
                                clear hi214_2 hl214_2
                                replace p214 := eq_true p214
                                replace q214 := eq_true q214
                                have ea_ := Option.some.inj (hx213_2.symm.trans hx214_2)
                                injection ea_ with ea_ en_ ec_
                                subst ea_
                                subst ec_
                                clear en_
                                have p215 : 0 ≤ (x8_9 : Int) := of_decide_eq_true (by first | (with_reducible assumption) | assumption)
                                have q215 : x8_9 < (((rd_T101 ((rd_T54 l0_1 x5_5).f0) x7_7).f1).length : Int) := of_decide_eq_true (by first | (with_reducible assumption) | assumption)
                                obtain ⟨ad215, e215, hx215_0, hx215_1⟩ := at_T64 HR214_2.out x8_9 p215 q215
                                cases e215
                                replace hx215_0 := (HB.out.cell (World.block_lt_of_cell? w _ hx215_0)).trans hx215_0
                                replace hx215_1 := (HB.out.cell (World.block_lt_of_cell? w _ hx215_1)).trans hx215_1
                                replace p215 := eq_true p215
                                replace q215 := eq_true q215
                                go_wp2_with (first | (go_at_call 89; (with_reducible refine (glisterref05_Span.calls ((rd_T64 ((rd_T101 ((rd_T54 l0_1 x5_5).f0) x7_7).f1) x8_9).f0) ((rd_T64 ((rd_T101 ((rd_T54 l0_1 x5_5).f0) x7_7).f1) x8_9).f1) 30 true _ A49.out).mono ?_); rintro e w51 ⟨rfl, hb⟩; have n0_ := Aside0.mk (blk_below (g := gb203) (o := .cells #[.slice A0_0 l0_0.length c0_0, .slice (some ad209) l0_1.length c0_1, .int .i64 a0_2] 25 (0, 0)) (by (with_reducible repeat (first | refine blk_drewN ?_ _ | refine blk_drew ?_ | refine blk_alloc ?_ _)); exact BK203.out) hb); have n1_ := Aside0.mk (below_step (by repeat (first | (with_reducible first | exact HB.out | apply below_alloc | apply pw_below_drewN | apply below_drew1 | refine below_set ?_ GE203.out) | exact HB.out)) hb); clear BK203; clear HB; have BK203 := n0_; have HB := n1_; clear n0_ n1_; (try clear hb); (try clear hb2); (try clear hk); (try clear hi)))
                                repeat (go_quiet (first | (go_at_call 89; (with_reducible refine (glisterref05_Span.calls ((rd_T64 ((rd_T101 ((rd_T54 l0_1 x5_5).f0) x7_7).f1) x8_9).f0) ((rd_T64 ((rd_T101 ((rd_T54 l0_1 x5_5).f0) x7_7).f1) x8_9).f1) 30 true _ A49.out).mono ?_); rintro e w51 ⟨rfl, hb⟩; have n0_ := Aside0.mk (blk_below (g := gb203) (o := .cells #[.slice A0_0 l0_0.length c0_0, .slice (some ad209) l0_1.length c0_1, .int .i64 a0_2] 25 (0, 0)) (by (with_reducible repeat (first | refine blk_drewN ?_ _ | refine blk_drew ?_ | refine blk_alloc ?_ _)); exact BK203.out) hb); have n1_ := Aside0.mk (below_step (by repeat (first | (with_reducible first | exact HB.out | apply below_alloc | apply pw_below_drewN | apply below_drew1 | refine below_set ?_ GE203.out) | exact HB.out)) hb); clear BK203; clear HB; have BK203 := n0_; have HB := n1_; clear n0_ n1_; (try clear hb); (try clear hb2); (try clear hk); (try clear hi))); try go_wp2_with (first | (go_at_call 89; (with_reducible refine (glisterref05_Span.calls ((rd_T64 ((rd_T101 ((rd_T54 l0_1 x5_5).f0) x7_7).f1) x8_9).f0) ((rd_T64 ((rd_T101 ((rd_T54 l0_1 x5_5).f0) x7_7).f1) x8_9).f1) 30 true _ A49.out).mono ?_); rintro e w51 ⟨rfl, hb⟩; have n0_ := Aside0.mk (blk_below (g := gb203) (o := .cells #[.slice A0_0 l0_0.length c0_0, .slice (some ad209) l0_1.length c0_1, .int .i64 a0_2] 25 (0, 0)) (by (with_reducible repeat (first | refine blk_drewN ?_ _ | refine blk_drew ?_ | refine blk_alloc ?_ _)); exact BK203.out) hb); have n1_ := Aside0.mk (below_step (by repeat (first | (with_reducible first | exact HB.out | apply below_alloc | apply pw_below_drewN | apply below_drew1 | refine below_set ?_ GE203.out) | exact HB.out)) hb); clear BK203; clear HB; have BK203 := n0_; have HB := n1_; clear n0_ n1_; (try clear hb); (try clear hb2); (try clear hk); (try clear hi))))
                                go_roundg k9
                                case measure => have := HJ1.out; have := HJ7.out; have := HJ14.out; have := HK4.out; have := HK5.out; have := HJ34.out; have := HK7.out; have := HJ41.out; have := HK9.out; omega
                                case rel => exact ⟨(x3_9), (wrap64 (x8_9 + 1)), (by first | rfl | (simp; done) | (simp [*]; done)), (by first | rfl | (simp; done) | (simp [*]; done)), H', ⟨by have := HJ1.out; have := HJ7.out; have := HJ14.out; have := HK4.out; have := HK5.out; have := HJ34.out; have := HK7.out; have := HJ41.out; have := HK9.out; omega⟩, ⟨by (with_reducible repeat (first | refine blk_drewN ?_ _ | refine blk_drew ?_ | refine blk_alloc ?_ _)); exact BK203.out⟩, ⟨by repeat (first | (with_reducible first | exact HB.out | apply below_alloc | apply pw_below_drewN | apply below_drew1 | refine below_set ?_ GE203.out) | exact HB.out)⟩⟩
                               ·replace c50 := Bool.eq_false_iff.mpr c50
                                subst c50
                                have H1 : (glisterref05_Fault.l3 k9 1 x5_5 ((rd_T54 l0_1 x5_5).f0) x7_7 (wrap64 (x8_9 + 1)) l0_0 l0_1 a0_2) = some r := by rw [if_neg (show ¬ (false = true) by decide)] at H; exact H
                                clear H
                                have H := H1
                                clear H1
                                have H' := Aside0.mk H
                                clear H
                                have p213 : 0 ≤ (x7_7 : Int) := of_decide_eq_true (by first | (with_reducible assumption) | assumption)
                                have q213 : x7_7 < (((rd_T54 l0_1 x5_5).f0).length : Int) := of_decide_eq_true (by first | (with_reducible assumption) | assumption)
                                obtain ⟨ad213, A213_2, c213_2, e213, hx213_0, hx213_1, hx213_2, hl213_2, hi213_2⟩ := at_T101 HR209_0.out x7_7 p213 q213
                                obtain rfl : ad210 = ad213 := (by injection e213)
                                replace hx213_0 := (HB.out.cell (World.block_lt_of_cell? w _ hx213_0)).trans hx213_0
                                replace hx213_1 := (HB.out.cell (World.block_lt_of_cell? w _ hx213_1)).trans hx213_1
                                replace hx213_2 := (HB.out.cell (World.block_lt_of_cell? w _ hx213_2)).trans hx213_2
                                have HR213_2 := Aside0.mk hi213_2
                                have HC213_2 := Aside0.mk hl213_2
                                clear hi213_2 hl213_2
                                replace p213 := eq_true p213
                                replace q213 := eq_true q213
                                have p214 : 0 ≤ (x7_7 : Int) := of_decide_eq_true (by first | (with_reducible assumption) | assumption)
                                have q214 : x7_7 < (((rd_T54 l0_1 x5_5).f0).length : Int) := of_decide_eq_true (by first | (with_reducible assumption) | assumption)
                                obtain ⟨ad214, A214_2, c214_2, e214, hx214_0, hx214_1, hx214_2, hl214_2, hi214_2⟩ := at_T101 HR209_0.out x7_7 p214 q214
                                obtain rfl : ad210 = ad214 := (by injection e214)
                                replace hx214_0 := (HB.out.cell (World.block_lt_of_cell? w _ hx214_0)).trans hx214_0
                                replace hx214_1 := (HB.out.cell (World.block_lt_of_cell? w _ hx214_1)).trans hx214_1
                                replace hx214_2 := (HB.out.cell (World.block_lt_of_cell? w _ hx214_2)).trans hx214_2
                                have HR214_2 := Aside0.mk hi214_2
                                have HC214_2 := Aside0.mk hl214_2
                                clear hi214_2 hl214_2
                                replace p214 := eq_true p214
                                replace q214 := eq_true q214
                                have ea_ := Option.some.inj (hx213_2.symm.trans hx214_2)
                                injection ea_ with ea_ en_ ec_
                                subst ea_
                                subst ec_
                                clear en_
                                have p215 : 0 ≤ (x8_9 : Int) := of_decide_eq_true (by first | (with_reducible assumption) | assumption)
                                have q215 : x8_9 < (((rd_T101 ((rd_T54 l0_1 x5_5).f0) x7_7).f1).length : Int) := of_decide_eq_true (by first | (with_reducible assumption) | assumption)
                                obtain ⟨ad215, e215, hx215_0, hx215_1⟩ := at_T64 HR214_2.out x8_9 p215 q215
                                cases e215
                                replace hx215_0 := (HB.out.cell (World.block_lt_of_cell? w _ hx215_0)).trans hx215_0
                                replace hx215_1 := (HB.out.cell (World.block_lt_of_cell? w _ hx215_1)).trans hx215_1
                                replace p215 := eq_true p215
                                replace q215 := eq_true q215
                                go_wp2_with (first | (go_at_call 89; (with_reducible refine (glisterref05_Span.calls ((rd_T64 ((rd_T101 ((rd_T54 l0_1 x5_5).f0) x7_7).f1) x8_9).f0) ((rd_T64 ((rd_T101 ((rd_T54 l0_1 x5_5).f0) x7_7).f1) x8_9).f1) 30 false _ A49.out).mono ?_); rintro e w52 ⟨rfl, hb⟩; have n0_ := Aside0.mk (blk_below (g := gb203) (o := .cells #[.slice A0_0 l0_0.length c0_0, .slice (some ad209) l0_1.length c0_1, .int .i64 a0_2] 25 (0, 0)) (by (with_reducible repeat (first | refine blk_drewN ?_ _ | refine blk_drew ?_ | refine blk_alloc ?_ _)); exact BK203.out) hb); have n1_ := Aside0.mk (below_step (by repeat (first | (with_reducible first | exact HB.out | apply below_alloc | apply pw_below_drewN | apply below_drew1 | refine below_set ?_ GE203.out) | exact HB.out)) hb); clear BK203; clear HB; have BK203 := n0_; have HB := n1_; clear n0_ n1_; (try clear hb); (try clear hb2); (try clear hk); (try clear hi)))
                                repeat (go_quiet (first | (go_at_call 89; (with_reducible refine (glisterref05_Span.calls ((rd_T64 ((rd_T101 ((rd_T54 l0_1 x5_5).f0) x7_7).f1) x8_9).f0) ((rd_T64 ((rd_T101 ((rd_T54 l0_1 x5_5).f0) x7_7).f1) x8_9).f1) 30 false _ A49.out).mono ?_); rintro e w52 ⟨rfl, hb⟩; have n0_ := Aside0.mk (blk_below (g := gb203) (o := .cells #[.slice A0_0 l0_0.length c0_0, .slice (some ad209) l0_1.length c0_1, .int .i64 a0_2] 25 (0, 0)) (by (with_reducible repeat (first | refine blk_drewN ?_ _ | refine blk_drew ?_ | refine blk_alloc ?_ _)); exact BK203.out) hb); have n1_ := Aside0.mk (below_step (by repeat (first | (with_reducible first | exact HB.out | apply below_alloc | apply pw_below_drewN | apply below_drew1 | refine below_set ?_ GE203.out) | exact HB.out)) hb); clear BK203; clear HB; have BK203 := n0_; have HB := n1_; clear n0_ n1_; (try clear hb); (try clear hb2); (try clear hk); (try clear hi))); try go_wp2_with (first | (go_at_call 89; (with_reducible refine (glisterref05_Span.calls ((rd_T64 ((rd_T101 ((rd_T54 l0_1 x5_5).f0) x7_7).f1) x8_9).f0) ((rd_T64 ((rd_T101 ((rd_T54 l0_1 x5_5).f0) x7_7).f1) x8_9).f1) 30 false _ A49.out).mono ?_); rintro e w52 ⟨rfl, hb⟩; have n0_ := Aside0.mk (blk_below (g := gb203) (o := .cells #[.slice A0_0 l0_0.length c0_0, .slice (some ad209) l0_1.length c0_1, .int .i64 a0_2] 25 (0, 0)) (by (with_reducible repeat (first | refine blk_drewN ?_ _ | refine blk_drew ?_ | refine blk_alloc ?_ _)); exact BK203.out) hb); have n1_ := Aside0.mk (below_step (by repeat (first | (with_reducible first | exact HB.out | apply below_alloc | apply pw_below_drewN | apply below_drew1 | refine below_set ?_ GE203.out) | exact HB.out)) hb); clear BK203; clear HB; have BK203 := n0_; have HB := n1_; clear n0_ n1_; (try clear hb); (try clear hb2); (try clear hk); (try clear hi))))
                                go_roundg k9
                                case measure => have := HJ1.out; have := HJ7.out; have := HJ14.out; have := HK4.out; have := HK5.out; have := HJ34.out; have := HK7.out; have := HJ41.out; have := HK9.out; omega
                                case rel => exact ⟨(1), (wrap64 (x8_9 + 1)), (by first | rfl | (simp; done) | (simp [*]; done)), (by first | rfl | (simp; done) | (simp [*]; done)), H', ⟨by have := HJ1.out; have := HJ7.out; have := HJ14.out; have := HK4.out; have := HK5.out; have := HJ34.out; have := HK7.out; have := HJ41.out; have := HK9.out; omega⟩, ⟨by (with_reducible repeat (first | refine blk_drewN ?_ _ | refine blk_drew ?_ | refine blk_alloc ?_ _)); exact BK203.out⟩, ⟨by repeat (first | (with_reducible first | exact HB.out | apply below_alloc | apply pw_below_drewN | apply below_drew1 | refine below_set ?_ GE203.out) | exact HB.out)⟩⟩
                              ·rw [if_neg c48] at H
                               exact absurd H (by simp)
                             ·rw [if_neg c47] at H
                              have c47b0 : decide (x8_9 < (((rd_T101 ((rd_T54 l0_1 x5_5).f0) x7_7).f1).length : Int)) = false := decide_eq_false c47
                              clear c47
                              have H' := Aside0.mk H
                              clear H
                              have p213 : 0 ≤ (x7_7 : Int) := of_decide_eq_true (by first | (with_reducible assumption) | assumption)
                              have q213 : x7_7 < (((rd_T54 l0_1 x5_5).f0).length : Int) := of_decide_eq_true (by first | (with_reducible assumption) | assumption)
                              obtain ⟨ad213, A213_2, c213_2, e213, hx213_0, hx213_1, hx213_2, hl213_2, hi213_2⟩ := at_T101 HR209_0.out x7_7 p213 q213
                              obtain rfl : ad210 = ad213 := (by injection e213)
                              replace hx213_0 := (HB.out.cell (World.block_lt_of_cell? w _ hx213_0)).trans hx213_0
                              replace hx213_1 := (HB.out.cell (World.block_lt_of_cell? w _ hx213_1)).trans hx213_1
                              replace hx213_2 := (HB.out.cell (World.block_lt_of_cell? w _ hx213_2)).trans hx213_2
                              have HR213_2 := Aside0.mk hi213_2
                              have HC213_2 := Aside0.mk hl213_2
                              clear hi213_2 hl213_2
                              replace p213 := eq_true p213
                              replace q213 := eq_true q213
                              go_wp2
                              repeat (go_quiet (fail); try go_wp2)
                              go_roundg k9
                              case measure => have := HJ1.out; have := HJ7.out; have := HJ14.out; have := HK4.out; have := HK5.out; have := HJ34.out; have := HK7.out; have := HJ41.out; have := HK9.out; omega
                              case rel => exact ⟨(x3_9), (wrap64 (x7_7 + 1)), (by first | rfl | (simp; done) | (simp [*]; done)), (by first | rfl | (simp; done) | (simp [*]; done)), H', ⟨by have := HJ1.out; have := HJ7.out; have := HJ14.out; have := HK4.out; have := HK5.out; have := HJ34.out; have := HK7.out; have := HJ41.out; have := HK9.out; omega⟩, ⟨by (with_reducible repeat (first | refine blk_drewN ?_ _ | refine blk_drew ?_ | refine blk_alloc ?_ _)); exact BK203.out⟩, ⟨by repeat (first | (with_reducible first | exact HB.out | apply below_alloc | apply pw_below_drewN | apply below_drew1 | refine below_set ?_ GE203.out) | exact HB.out)⟩⟩
                            ·rw [if_neg c46] at H
                             exact absurd H (by simp)
                           ·rw [if_neg c45] at H
                            exact absurd H (by simp)
                     ·rw [if_neg c39] at H
                      exact absurd H (by simp)
                    ·rw [if_neg c38] at H
                     have c38b0 : decide (x7_7 < (((rd_T54 l0_1 x5_5).f0).length : Int)) = false := decide_eq_false c38
                     clear c38
                     have H' := Aside0.mk H
                     clear H
                     go_wp2
                     repeat (go_quiet (fail); try go_wp2)
                     go_roundg k7
                     case measure => have := HJ1.out; have := HJ7.out; have := HJ14.out; have := HK4.out; have := HK5.out; have := HJ34.out; have := HK7.out; omega
                     case rel => exact ⟨(x3_7), (wrap64 (x5_5 + 1)), (by first | rfl | (simp; done) | (simp [*]; done)), (by first | rfl | (simp; done) | (simp [*]; done)), H', ⟨by have := HJ1.out; have := HJ7.out; have := HJ14.out; have := HK4.out; have := HK5.out; have := HJ34.out; have := HK7.out; omega⟩, ⟨by (with_reducible repeat (first | refine blk_drewN ?_ _ | refine blk_drew ?_ | refine blk_alloc ?_ _)); exact BK203.out⟩, ⟨by repeat (first | (with_reducible first | exact HB.out | apply below_alloc | apply pw_below_drewN | apply below_drew1 | refine below_set ?_ GE203.out) | exact HB.out)⟩⟩
              ·rw [if_neg c32] at H
               exact absurd H (by simp)
             ·rw [if_neg c31] at H
              have c31b0 : decide (x5_5 < (l0_1.length : Int)) = false := decide_eq_false c31
              clear c31
              obtain rfl := Option.some.inj H
              have hcz53_0 : wr.cell? ⟨gb203, 0, none⟩ = some (.slice A0_0 l0_0.length c0_0) := (blk_cell BK203.out 0).trans rfl
              have hcz53_1 : wr.cell? ⟨gb203, 1, none⟩ = some (.slice A0_1 l0_1.length c0_1) := (blk_cell BK203.out 1).trans rfl
              have hcz53_2 : wr.cell? ⟨gb203, 2, none⟩ = some (.int .i64 a0_2) := (blk_cell BK203.out 2).trans rfl
              have hfz53_0 := blk_frozen BK203.out 0
              have hfz53_1 := blk_frozen BK203.out 1
              have hfz53_2 := blk_frozen BK203.out 2
              go_wp2
              repeat (go_quiet (fail); try go_wp2)
              go_ret
              exact ⟨by first | rfl | (simp [errW_none, errW_some] <;> rfl) | (simp [*, errW_none, errW_some] <;> rfl), by repeat (first | (with_reducible first | exact HB.out | apply below_alloc | apply pw_below_drewN | apply below_drew1 | refine below_set ?_ GE203.out) | exact HB.out)⟩
end Go.Proofs.Ytiephlhohgohcaa.PAll
namespace Go.Proofs.Ytiephlhohgohcaa.PAll
open Go.RowKit Go.Proofs.YtiephlhohgohcaaW.PrintWords Go.Proofs.YtiephlhohgohcaaW.PrintLast Go.Proofs.YtiephlhohgohcaaW.PrintMore
attribute [local go_sem] max2_int min2_int max_two min_two max_three min_three max_four min_four   -- for this text's walks alone
set_option linter.unusedVariables false
set_option linter.unusedSimpArgs false
def glisterlaw05_fault.f (k : Nat) (l0_0 : List Int) (l0_1 : List (S54)) (a0_2 : Int) : Option (Int) := (glisterref05_Fault.f k l0_0 l0_1 a0_2).bind fun t218 => (some t218)
theorem glisterlaw05_fault.mono : ∀ a0 a1 a2 k, LeO (glisterlaw05_fault.f k a0 a1 a2) (glisterlaw05_fault.f (k + 1) a0 a1 a2) := by
 intro a0 a1 a2 k
 unfold glisterlaw05_fault.f
 repeat' first
   | (with_reducible exact glisterref05_Fault.mono _ _ _ _)
   | (with_reducible exact LeO.refl _)
   | (with_reducible exact LeO.none _)
   | (with_reducible refine LeO.ite ?_ ?_)
   | (with_reducible refine LeO.bind ?_ (fun _ => ?_))
   | exact glisterref05_Fault.mono _ _ _ _
   | exact LeO.none _
   | refine LeO.ite ?_ ?_
   | refine LeO.bind ?_ (fun _ => ?_)
set_option maxHeartbeats 8000000 in
set_option maxRecDepth 100000 in
theorem glisterlaw05_fault.calls (k : Nat) (A0_0 : Option Addr) (c0_0 : Nat) (l0_0 : List Int) (A0_1 : Option Addr) (c0_1 : Nat) (l0_1 : List (S54)) (a0_2 : Int) (r : Int) (w : World) (hr0_0 : Kd.C (Kd.int .i64) w A0_0 l0_0.length l0_0) (hc0_0 : l0_0.length ≤ c0_0) (hr0_1 : Kd.C k54 w A0_1 l0_1.length l0_1) (hc0_1 : l0_1.length ≤ c0_1) (h : glisterlaw05_fault.f k l0_0 l0_1 a0_2 = some r) :
  Calls Try.prog 25 #[.agg #[.slice A0_0 l0_0.length c0_0, .slice A0_1 l0_1.length c0_1, .int .i64 a0_2]] w fun e w' => e = .returned (.int .i64 r) ∧ Below w.heap.size w w' := by
 have hu25 := Try.underlying25
 have HR0_0 := Aside0.mk hr0_0
 have HC0_0 := Aside0.mk hc0_0
 clear hr0_0 hc0_0
 have HR0_1 := Aside0.mk hr0_1
 have HC0_1 := Aside0.mk hc0_1
 clear hr0_1 hc0_1
 have HB := Aside0.mk (Below.refl w.heap.size w)
 have H : ((glisterref05_Fault.f k l0_0 l0_1 a0_2).bind fun t218 => (some t218)) = some r := h
 clear h
 replace H := Option.bind_eq_some_iff.mp H
 obtain ⟨t218, A20, H⟩ := H
 replace H : (some t218) = some r := H
 have A2 := Aside0.mk A20
 clear A20
 obtain rfl := Option.some.inj H
 go_enter Try.func25, Try.ntmps25
 go_wp2_with (first | ((with_reducible refine gate_dst (N := 1) rfl ?_); refine box_event ?hg (N := 1) ?hd (cs := #[.slice A0_0 l0_0.length c0_0, .slice A0_1 l0_1.length c0_1, .int .i64 a0_2]) (t := 25) ?hr ?_; (case hd => rfl); (case hg => rfl); (case hr => first | (go_simp; done) | (go_simp; rfl)); intro gb217 hg w3 hbox hb; have n0_ := Aside0.mk (below_step (by repeat (first | (with_reducible first | exact HB.out | apply below_alloc | apply pw_below_drewN | apply below_drew1) | exact HB.out)) hb); have n1_ := Aside0.mk (hbox); have n2_ := Aside0.mk ((by rw [hg]; exact (below_size (by repeat (first | (with_reducible first | exact HB.out | apply below_alloc | apply pw_below_drewN | apply below_drew1) | exact HB.out))) : w.heap.size ≤ gb217)); have n3_ := Aside0.mk ((by rw [hg]; exact (below_size (by repeat (first | (with_reducible first | exact HB.out | apply below_alloc | apply pw_below_drewN | apply below_drew1) | exact HB.out))) : w.heap.size ≤ gb217)); clear HB; have HB := n0_; have BK217 := n1_; have GW217 := n2_; have GE217 := n3_; clear n0_ n1_ n2_ n3_; clear hb hbox hg; have hcz4_0 : w3.cell? ⟨gb217, 0, none⟩ = some (.slice A0_0 l0_0.length c0_0) := (blk_cell BK217.out 0).trans rfl; have hcz4_1 : w3.cell? ⟨gb217, 1, none⟩ = some (.slice A0_1 l0_1.length c0_1) := (blk_cell BK217.out 1).trans rfl; have hcz4_2 : w3.cell? ⟨gb217, 2, none⟩ = some (.int .i64 a0_2) := (blk_cell BK217.out 2).trans rfl; have hfz4_0 := blk_frozen BK217.out 0; have hfz4_1 := blk_frozen BK217.out 1; have hfz4_2 := blk_frozen BK217.out 2) | ((with_reducible refine gate_callee (f := 43) rfl ?_); refine goesL_ (some 4) rfl rfl Try.func43 (by kernel_rfl) rfl #[.agg #[.slice A0_0 l0_0.length c0_0, .slice A0_1 l0_1.length c0_1, .int .i64 a0_2]] rfl (by (try simp only [List.map_toArray, List.map_cons, List.map_nil]); first | done | rfl | (simp only [List.length_drop, List.length_take]; rfl)) ?_; (with_reducible refine (glisterref05_Fault.calls k _ _ l0_0 _ _ l0_1 a0_2 t218 _ ?side1 ?side2 ?side3 ?side4 A2.out).mono ?_); (case side1 => repeat (first | exact (Kd.C_below HR0_0.out HB.out) | (with_reducible refine Kd.C_alloc ?_ _) | (with_reducible refine Kd.C_drewN ?_ _) | (with_reducible refine Kd.C_drew ?_))); (case side2 => exact HC0_0.out); (case side3 => repeat (first | exact (Kd.C_below HR0_1.out HB.out) | (with_reducible refine Kd.C_alloc ?_ _) | (with_reducible refine Kd.C_drewN ?_ _) | (with_reducible refine Kd.C_drew ?_))); (case side4 => exact HC0_1.out); rintro e w5 ⟨rfl, hb⟩; refine ⟨_, rfl, ?_⟩; have n0_ := Aside0.mk (blk_below (g := gb217) (o := .cells #[.slice A0_0 l0_0.length c0_0, .slice A0_1 l0_1.length c0_1, .int .i64 a0_2] 25 (0, 0)) (by (with_reducible repeat (first | refine blk_drewN ?_ _ | refine blk_drew ?_ | refine blk_alloc ?_ _)); exact BK217.out) hb); have n1_ := Aside0.mk (below_step (by repeat (first | (with_reducible first | exact HB.out | apply below_alloc | apply pw_below_drewN | apply below_drew1 | refine below_set ?_ GE217.out) | exact HB.out)) hb); clear BK217; clear HB; have BK217 := n0_; have HB := n1_; clear n0_ n1_; (try clear hb); (try clear hb2); (try clear hk); (try clear hi)))
 go_ret
 exact ⟨by first | rfl | (simp [errW_none, errW_some] <;> rfl) | (simp [*, errW_none, errW_some] <;> rfl), by repeat (first | (with_reducible first | exact HB.out | apply below_alloc | apply pw_below_drewN | apply below_drew1 | refine below_set ?_ GE217.out) | exact HB.out)⟩
end Go.Proofs.Ytiephlhohgohcaa.PAll
namespace Go.Proofs.Ytiephlhohgohcaa.PAll
open Go.RowKit Go.Proofs.YtiephlhohgohcaaW.PrintWords Go.Proofs.YtiephlhohgohcaaW.PrintLast Go.Proofs.YtiephlhohgohcaaW.PrintMore
attribute [local go_sem] max2_int min2_int max_two min_two max_three min_three max_four min_four   -- for this text's walks alone
set_option linter.unusedVariables false
set_option linter.unusedSimpArgs false
mutual
def glisterlaw05_Thin.j0 : Nat → Bool → List Int → List (S54) → Int → Option (Bool)
 | 0, _, _, _, _ => none
 | k + 1, x14, x102000, x102001, x102002 => if x14 = true then (some false) else (glisterlaw05_Thin.l0 k 0 x102000 x102001 x102002)
def glisterlaw05_Thin.l0 : Nat → Int → List Int → List (S54) → Int → Option (Bool)
 | 0, _, _, _, _ => none
 | k + 1, x3, x102000, x102001, x102002 => if x3 < (x102001.length : Int) then (if 0 ≤ x3 then (if (((rd_T54 x102001 x3).f0).length : Int) > 6 then (some false) else (glisterlaw05_Thin.l1 k x3 0 x102000 x102001 x102002)) else (none)) else (some true)
def glisterlaw05_Thin.l1 : Nat → Int → Int → List Int → List (S54) → Int → Option (Bool)
 | 0, _, _, _, _, _ => none
 | k + 1, x3, x4, x102000, x102001, x102002 => if 0 ≤ x3 then (if x3 < (x102001.length : Int) then (if x4 < (((rd_T54 x102001 x3).f0).length : Int) then (if 0 ≤ x4 then (if (((rd_T101 ((rd_T54 x102001 x3).f0) x4).f1).length : Int) > 5 then (some false) else (glisterlaw05_Thin.l1 k x3 (wrap64 (x4 + 1)) x102000 x102001 x102002)) else (none)) else (glisterlaw05_Thin.l0 k (wrap64 (x3 + 1)) x102000 x102001 x102002)) else (none)) else (none)
end
def glisterlaw05_Thin.f (k : Nat) (l0_0 : List Int) (l0_1 : List (S54)) (a0_2 : Int) : Option (Bool) := if (l0_0.length : Int) > 7 then (glisterlaw05_Thin.j0 k true l0_0 l0_1 a0_2) else (glisterlaw05_Thin.j0 k (decide ((l0_1.length : Int) > 6)) l0_0 l0_1 a0_2)
theorem glisterlaw05_Thin.mono_l : ∀ k, (∀ y0 y1 y2 y3, LeO (glisterlaw05_Thin.j0 k y0 y1 y2 y3) (glisterlaw05_Thin.j0 (k + 1) y0 y1 y2 y3)) ∧ (∀ y0 y1 y2 y3, LeO (glisterlaw05_Thin.l0 k y0 y1 y2 y3) (glisterlaw05_Thin.l0 (k + 1) y0 y1 y2 y3)) ∧ (∀ y0 y1 y2 y3 y4, LeO (glisterlaw05_Thin.l1 k y0 y1 y2 y3 y4) (glisterlaw05_Thin.l1 (k + 1) y0 y1 y2 y3 y4))
 | 0 => ⟨fun _ _ _ _ r h => by simp [glisterlaw05_Thin.j0] at h, fun _ _ _ _ r h => by simp [glisterlaw05_Thin.l0] at h, fun _ _ _ _ _ r h => by simp [glisterlaw05_Thin.l1] at h⟩
 | k + 1 => by
  obtain ⟨ih0, ih1, ih2⟩ := glisterlaw05_Thin.mono_l k
  refine ⟨?_, ?_, ?_⟩
  ·intro y0 y1 y2 y3
   unfold glisterlaw05_Thin.j0
   repeat' first
   | (with_reducible exact ih0 _ _ _ _)
   | (with_reducible exact ih1 _ _ _ _)
   | (with_reducible exact ih2 _ _ _ _ _)
   | (with_reducible exact LeO.refl _)
   | (with_reducible exact LeO.none _)
   | (with_reducible refine LeO.ite ?_ ?_)
   | (with_reducible refine LeO.bind ?_ (fun _ => ?_))
   | exact ih0 _ _ _ _
   | exact ih1 _ _ _ _
   | exact ih2 _ _ _ _ _
   | exact LeO.none _
   | refine LeO.ite ?_ ?_
   | refine LeO.bind ?_ (fun _ => ?_)
  ·intro y0 y1 y2 y3
   unfold glisterlaw05_Thin.l0
   repeat' first
   | (with_reducible exact ih0 _ _ _ _)
   | (with_reducible exact ih1 _ _ _ _)
   | (with_reducible exact ih2 _ _ _ _ _)
   | (with_reducible exact LeO.refl _)
   | (with_reducible exact LeO.none _)
   | (with_reducible refine LeO.ite ?_ ?_)
   | (with_reducible refine LeO.bind ?_ (fun _ => ?_))
   | exact ih0 _ _ _ _
   | exact ih1 _ _ _ _
   | exact ih2 _ _ _ _ _
   | exact LeO.none _
   | refine LeO.ite ?_ ?_
   | refine LeO.bind ?_ (fun _ => ?_)
  ·intro y0 y1 y2 y3 y4
   unfold glisterlaw05_Thin.l1
   repeat' first
   | (with_reducible exact ih0 _ _ _ _)
   | (with_reducible exact ih1 _ _ _ _)
   | (with_reducible exact ih2 _ _ _ _ _)
   | (with_reducible exact LeO.refl _)
   | (with_reducible exact LeO.none _)
   | (with_reducible refine LeO.ite ?_ ?_)
   | (with_reducible refine LeO.bind ?_ (fun _ => ?_))
   | exact ih0 _ _ _ _
   | exact ih1 _ _ _ _
   | exact ih2 _ _ _ _ _
   | exact LeO.none _
   | refine LeO.ite ?_ ?_
   | refine LeO.bind ?_ (fun _ => ?_)
theorem glisterlaw05_Thin.mono : ∀ a0 a1 a2 k, LeO (glisterlaw05_Thin.f k a0 a1 a2) (glisterlaw05_Thin.f (k + 1) a0 a1 a2) := by
 intro a0 a1 a2 k
 obtain ⟨ih0, ih1, ih2⟩ := glisterlaw05_Thin.mono_l k
 unfold glisterlaw05_Thin.f
 repeat' first
   | (with_reducible exact ih0 _ _ _ _)
   | (with_reducible exact ih1 _ _ _ _)
   | (with_reducible exact ih2 _ _ _ _ _)
   | (with_reducible exact LeO.refl _)
   | (with_reducible exact LeO.none _)
   | (with_reducible refine LeO.ite ?_ ?_)
   | (with_reducible refine LeO.bind ?_ (fun _ => ?_))
   | exact ih0 _ _ _ _
   | exact ih1 _ _ _ _
   | exact ih2 _ _ _ _ _
   | exact LeO.none _
   | refine LeO.ite ?_ ?_
   | refine LeO.bind ?_ (fun _ => ?_)
set_option maxHeartbeats 8000000 in
set_option maxRecDepth 100000 in
theorem glisterlaw05_Thin.calls (k : Nat) (A0_0 : Option Addr) (c0_0 : Nat) (l0_0 : List Int) (A0_1 : Option Addr) (c0_1 : Nat) (l0_1 : List (S54)) (a0_2 : Int) (r : Bool) (w : World) (hr0_0 : Kd.C (Kd.int .i64) w A0_0 l0_0.length l0_0) (hc0_0 : l0_0.length ≤ c0_0) (hr0_1 : Kd.C k54 w A0_1 l0_1.length l0_1) (hc0_1 : l0_1.length ≤ c0_1) (h : glisterlaw05_Thin.f k l0_0 l0_1 a0_2 = some r) :
  Calls Try.prog 18 #[.agg #[.slice A0_0 l0_0.length c0_0, .slice A0_1 l0_1.length c0_1, .int .i64 a0_2]] w fun e w' => e = .returned (.bool r) ∧ Below w.heap.size w w' := by
 have hu25 := Try.underlying25
 have HR0_0 := Aside0.mk hr0_0
 have HC0_0 := Aside0.mk hc0_0
 clear hr0_0 hc0_0
 have HR0_1 := Aside0.mk hr0_1
 have HC0_1 := Aside0.mk hc0_1
 clear hr0_1 hc0_1
 have HB := Aside0.mk (Below.refl w.heap.size w)
 have H : (if (l0_0.length : Int) > 7 then (glisterlaw05_Thin.j0 k true l0_0 l0_1 a0_2) else (glisterlaw05_Thin.j0 k (decide ((l0_1.length : Int) > 6)) l0_0 l0_1 a0_2)) = some r := h
 clear h
 have HC2 := Aside0.mk H
 clear H
 go_enter Try.func18, Try.ntmps18
 go_upto_region 1 with (first | ((with_reducible refine gate_dst (N := 1) rfl ?_); (try (refine gate_guard (by rfl) ?_; dsimp only)); refine box_event ?hg (N := 1) ?hd (cs := #[.slice A0_0 l0_0.length c0_0, .slice A0_1 l0_1.length c0_1, .int .i64 a0_2]) (t := 25) ?hr ?_; (case hd => rfl); (case hg => rfl); (case hr => first | (go_simp; done) | (go_simp; rfl)); intro gb101 hg w3 hbox hb; have n0_ := Aside0.mk (below_step (by repeat (first | (with_reducible first | exact HB.out | apply below_alloc | apply pw_below_drewN | apply below_drew1) | exact HB.out)) hb); have n1_ := Aside0.mk (hbox); have n2_ := Aside0.mk ((by rw [hg]; exact (below_size (by repeat (first | (with_reducible first | exact HB.out | apply below_alloc | apply pw_below_drewN | apply below_drew1) | exact HB.out))) : w.heap.size ≤ gb101)); have n3_ := Aside0.mk ((by rw [hg]; exact (below_size (by repeat (first | (with_reducible first | exact HB.out | apply below_alloc | apply pw_below_drewN | apply below_drew1) | exact HB.out))) : w.heap.size ≤ gb101)); clear HB; have HB := n0_; have BK101 := n1_; have GW101 := n2_; have GE101 := n3_; clear n0_ n1_ n2_ n3_; clear hb hbox hg))
 (try simp only [Act.put, List.setIfInBounds_toArray, List.set_cons_zero, List.set_cons_succ])
 go_cut [14] (fun v14 wc => ∃ (kq : Nat) (x14_1 : Bool), v14 = .bool x14_1 ∧ Aside0 (glisterlaw05_Thin.j0 kq x14_1 l0_0 l0_1 a0_2 = some r) ∧ Aside0 (kq ≤ k) ∧ Aside0 (wc.heap[gb101]? = some (.cells #[(.slice A0_0 l0_0.length c0_0), (.slice A0_1 l0_1.length c0_1), .int .i64 a0_2] 25 (0, 0))) ∧ Aside0 (Below w.heap.size w wc))
 case first =>
  have H := HC2.out
  clear HC2
  by_cases c4 : (l0_0.length : Int) > 7
  ·rw [if_pos c4] at H
   have c4b0 : decide (7 < (l0_0.length : Int)) = true := decide_eq_true c4
   have c4b1 : decide (7 < l0_0.length) = true := decide_eq_true (by omega)
   clear c4
   (first | rw [c4b0] | (simp only [i64_w, i32_w]; rw [c4b0]) | skip)
   have H' := Aside0.mk H
   clear H
   have hcz5_0 : w3.cell? ⟨gb101, 0, none⟩ = some (.slice A0_0 l0_0.length c0_0) := (blk_cell BK101.out 0).trans rfl
   have hcz5_1 : w3.cell? ⟨gb101, 1, none⟩ = some (.slice A0_1 l0_1.length c0_1) := (blk_cell BK101.out 1).trans rfl
   have hcz5_2 : w3.cell? ⟨gb101, 2, none⟩ = some (.int .i64 a0_2) := (blk_cell BK101.out 2).trans rfl
   have hfz5_0 := blk_frozen BK101.out 0
   have hfz5_1 := blk_frozen BK101.out 1
   have hfz5_2 := blk_frozen BK101.out 2
   go_wp2
   go_meet
   case rel => exact ⟨_, (true), (by first | rfl | (simp; done) | (simp [*]; done)), H', ⟨by first | omega | exact Nat.le_refl _⟩, ⟨by (with_reducible repeat (first | refine blk_drewN ?_ _ | refine blk_drew ?_ | refine blk_alloc ?_ _)); exact BK101.out⟩, ⟨by repeat (first | (with_reducible first | exact HB.out | apply below_alloc | apply pw_below_drewN | apply below_drew1 | refine below_set ?_ GE101.out) | exact HB.out)⟩⟩
  ·rw [if_neg c4] at H
   have c4b0 : decide (7 < (l0_0.length : Int)) = false := decide_eq_false c4
   have c4b1 : decide (7 < l0_0.length) = false := decide_eq_false (by omega)
   clear c4
   (first | rw [c4b0] | (simp only [i64_w, i32_w]; rw [c4b0]) | skip)
   have H' := Aside0.mk H
   clear H
   have hcz6_0 : w3.cell? ⟨gb101, 0, none⟩ = some (.slice A0_0 l0_0.length c0_0) := (blk_cell BK101.out 0).trans rfl
   have hcz6_1 : w3.cell? ⟨gb101, 1, none⟩ = some (.slice A0_1 l0_1.length c0_1) := (blk_cell BK101.out 1).trans rfl
   have hcz6_2 : w3.cell? ⟨gb101, 2, none⟩ = some (.int .i64 a0_2) := (blk_cell BK101.out 2).trans rfl
   have hfz6_0 := blk_frozen BK101.out 0
   have hfz6_1 := blk_frozen BK101.out 1
   have hfz6_2 := blk_frozen BK101.out 2
   go_wp2
   go_meet
   case rel => exact ⟨_, (decide ((l0_1.length : Int) > 6)), (by first | rfl | (simp; done) | (simp [*]; done)), H', ⟨by first | omega | exact Nat.le_refl _⟩, ⟨by (with_reducible repeat (first | refine blk_drewN ?_ _ | refine blk_drew ?_ | refine blk_alloc ?_ _)); exact BK101.out⟩, ⟨by repeat (first | (with_reducible first | exact HB.out | apply below_alloc | apply pw_below_drewN | apply below_drew1 | refine below_set ?_ GE101.out) | exact HB.out)⟩⟩
 case rest =>
  clear HC2
  try clear c1
  try clear p2
  try clear c4
  try clear c4b0
  try clear c4b1
  try clear hcz5_0
  try clear hcz5_1
  try clear hcz5_2
  try clear hcz6_0
  try clear hcz6_1
  try clear hcz6_2
  try clear hfz5_0
  try clear hfz5_1
  try clear hfz5_2
  try clear hfz6_0
  try clear hfz6_1
  try clear hfz6_2
  obtain ⟨kq, x14_1, rfl, HA, HJ1, BK101, HB⟩ := hcut
  cases kq with
  | zero => exact absurd HA.out (by simp [glisterlaw05_Thin.j0])
  | succ kj1 =>
   have H := HA.out
   clear HA
   simp only [glisterlaw05_Thin.j0] at H
   by_cases c7 : x14_1 = true
   ·subst c7
    have H1 : (some false) = some r := by rw [if_pos rfl] at H; exact H
    clear H
    have H := H1
    clear H1
    obtain rfl := Option.some.inj H
    go_wp2
    go_ret
    exact ⟨by first | rfl | (simp [errW_none, errW_some] <;> rfl) | (simp [*, errW_none, errW_some] <;> rfl), by repeat (first | (with_reducible first | exact HB.out | apply below_alloc | apply pw_below_drewN | apply below_drew1 | refine below_set ?_ GE101.out) | exact HB.out)⟩
   ·replace c7 := Bool.eq_false_iff.mpr c7
    subst c7
    have H1 : (glisterlaw05_Thin.l0 kj1 0 l0_0 l0_1 a0_2) = some r := by rw [if_neg (show ¬ (false = true) by decide)] at H; exact H
    clear H
    have H := H1
    clear H1
    have H' := Aside0.mk H
    clear H
    go_wp2
    go_loopg [3] kj1 (fun kq v3 w' => ∃ (x3_2 : Int), v3 = .int .i64 x3_2 ∧ Aside0 (glisterlaw05_Thin.l0 kq x3_2 l0_0 l0_1 a0_2 = some r) ∧ Aside0 (kq ≤ kj1) ∧ Aside0 (w'.heap[gb101]? = some (.cells #[(.slice A0_0 l0_0.length c0_0), (.slice A0_1 l0_1.length c0_1), .int .i64 a0_2] 25 (0, 0))) ∧ Aside0 (Below w.heap.size w w'))
    case atStart => exact ⟨(0), (by first | rfl | (simp; done) | (simp [*]; done)), H', ⟨Nat.le_refl _⟩, ⟨by (with_reducible repeat (first | refine blk_drewN ?_ _ | refine blk_drew ?_ | refine blk_alloc ?_ _)); exact BK101.out⟩, ⟨by repeat (first | (with_reducible first | exact HB.out | apply below_alloc | apply pw_below_drewN | apply below_drew1 | refine below_set ?_ GE101.out) | exact HB.out)⟩⟩
    case round =>
     clear H'
     try clear c1
     try clear p2
     try clear c4
     try clear c4b0
     try clear c4b1
     try clear c7
     try clear hcz5_0
     try clear hcz5_1
     try clear hcz5_2
     try clear hcz6_0
     try clear hcz6_1
     try clear hcz6_2
     try clear hfz5_0
     try clear hfz5_1
     try clear hfz5_2
     try clear hfz6_0
     try clear hfz6_1
     try clear hfz6_2
     try clear p2
     obtain ⟨x3_2, rfl, HA, HK2, BK101, HB⟩ := hrel
     cases gk with
     | zero => exact absurd HA.out (by simp [glisterlaw05_Thin.l0])
     | succ k2 =>
      have H := HA.out
      clear HA
      simp only [glisterlaw05_Thin.l0] at H
      by_cases c8 : x3_2 < (l0_1.length : Int)
      ·rw [if_pos c8] at H
       have c8b0 : decide (x3_2 < (l0_1.length : Int)) = true := decide_eq_true c8
       clear c8
       by_cases c9 : 0 ≤ x3_2
       ·rw [if_pos c9] at H
        have c9b0 : decide (0 ≤ x3_2) = true := decide_eq_true c9
        clear c9
        by_cases c10 : (((rd_T54 l0_1 x3_2).f0).length : Int) > 6
        ·rw [if_pos c10] at H
         have c10b0 : decide (6 < (((rd_T54 l0_1 x3_2).f0).length : Int)) = true := decide_eq_true c10
         have c10b1 : decide (6 < ((rd_T54 l0_1 x3_2).f0).length) = true := decide_eq_true (by omega)
         clear c10
         obtain rfl := Option.some.inj H
         have hcz11_0 : wr.cell? ⟨gb101, 0, none⟩ = some (.slice A0_0 l0_0.length c0_0) := (blk_cell BK101.out 0).trans rfl
         have hcz11_1 : wr.cell? ⟨gb101, 1, none⟩ = some (.slice A0_1 l0_1.length c0_1) := (blk_cell BK101.out 1).trans rfl
         have hcz11_2 : wr.cell? ⟨gb101, 2, none⟩ = some (.int .i64 a0_2) := (blk_cell BK101.out 2).trans rfl
         have hfz11_0 := blk_frozen BK101.out 0
         have hfz11_1 := blk_frozen BK101.out 1
         have hfz11_2 := blk_frozen BK101.out 2
         have p102 : 0 ≤ (x3_2 : Int) := of_decide_eq_true (by first | (with_reducible assumption) | assumption)
         have q102 : x3_2 < (l0_1.length : Int) := of_decide_eq_true (by first | (with_reducible assumption) | assumption)
         obtain ⟨ad102, A102_0, c102_0, e102, hx102_0, hx102_1, hl102_0, hi102_0⟩ := at_T54 HR0_1.out x3_2 p102 q102
         cases e102
         replace hx102_0 := (HB.out.cell (World.block_lt_of_cell? w _ hx102_0)).trans hx102_0
         replace hx102_1 := (HB.out.cell (World.block_lt_of_cell? w _ hx102_1)).trans hx102_1
         have HR102_0 := Aside0.mk hi102_0
         have HC102_0 := Aside0.mk hl102_0
         clear hi102_0 hl102_0
         replace p102 := eq_true p102
         replace q102 := eq_true q102
         go_wp2
         go_ret
         exact ⟨by first | rfl | (simp [errW_none, errW_some] <;> rfl) | (simp [*, errW_none, errW_some] <;> rfl), by repeat (first | (with_reducible first | exact HB.out | apply below_alloc | apply pw_below_drewN | apply below_drew1 | refine below_set ?_ GE101.out) | exact HB.out)⟩
        ·rw [if_neg c10] at H
         have c10b0 : decide (6 < (((rd_T54 l0_1 x3_2).f0).length : Int)) = false := decide_eq_false c10
         have c10b1 : decide (6 < ((rd_T54 l0_1 x3_2).f0).length) = false := decide_eq_false (by omega)
         clear c10
         have H' := Aside0.mk H
         clear H
         have hcz12_0 : wr.cell? ⟨gb101, 0, none⟩ = some (.slice A0_0 l0_0.length c0_0) := (blk_cell BK101.out 0).trans rfl
         have hcz12_1 : wr.cell? ⟨gb101, 1, none⟩ = some (.slice A0_1 l0_1.length c0_1) := (blk_cell BK101.out 1).trans rfl
         have hcz12_2 : wr.cell? ⟨gb101, 2, none⟩ = some (.int .i64 a0_2) := (blk_cell BK101.out 2).trans rfl
         have hfz12_0 := blk_frozen BK101.out 0
         have hfz12_1 := blk_frozen BK101.out 1
         have hfz12_2 := blk_frozen BK101.out 2
         have p102 : 0 ≤ (x3_2 : Int) := of_decide_eq_true (by first | (with_reducible assumption) | assumption)
         have q102 : x3_2 < (l0_1.length : Int) := of_decide_eq_true (by first | (with_reducible assumption) | assumption)
         obtain ⟨ad102, A102_0, c102_0, e102, hx102_0, hx102_1, hl102_0, hi102_0⟩ := at_T54 HR0_1.out x3_2 p102 q102
         cases e102
         replace hx102_0 := (HB.out.cell (World.block_lt_of_cell? w _ hx102_0)).trans hx102_0
         replace hx102_1 := (HB.out.cell (World.block_lt_of_cell? w _ hx102_1)).trans hx102_1
         have HR102_0 := Aside0.mk hi102_0
         have HC102_0 := Aside0.mk hl102_0
         clear hi102_0 hl102_0
         replace p102 := eq_true p102
         replace q102 := eq_true q102
         go_wp2
         go_loopg [4] k2 (fun kq v4 w' => ∃ (x4_3 : Int), v4 = .int .i64 x4_3 ∧ Aside0 (glisterlaw05_Thin.l1 kq x3_2 x4_3 l0_0 l0_1 a0_2 = some r) ∧ Aside0 (kq ≤ k2) ∧ Aside0 (w'.heap[gb101]? = some (.cells #[(.slice A0_0 l0_0.length c0_0), (.slice (some ad102) l0_1.length c0_1), .int .i64 a0_2] 25 (0, 0))) ∧ Aside0 (Below w.heap.size w w'))
         case atStart => exact ⟨(0), (by first | rfl | (simp; done) | (simp [*]; done)), H', ⟨Nat.le_refl _⟩, ⟨by (with_reducible repeat (first | refine blk_drewN ?_ _ | refine blk_drew ?_ | refine blk_alloc ?_ _)); exact BK101.out⟩, ⟨by repeat (first | (with_reducible first | exact HB.out | apply below_alloc | apply pw_below_drewN | apply below_drew1 | refine below_set ?_ GE101.out) | exact HB.out)⟩⟩
         case round =>
          clear H'
          try clear c1
          try clear p1
          try clear q1
          try clear hx1
          try clear p2
          try clear c4
          try clear c4b0
          try clear c4b1
          try clear c7
          try clear c8
          try clear c8b0
          try clear c9
          try clear c9b0
          try clear c10
          try clear c10b0
          try clear c10b1
          try clear p10
          try clear q10
          try clear hx10
          try clear hcz11_0
          try clear hcz11_1
          try clear hcz11_2
          try clear hcz12_0
          try clear hcz12_1
          try clear hcz12_2
          try clear hcz5_0
          try clear hcz5_1
          try clear hcz5_2
          try clear hcz6_0
          try clear hcz6_1
          try clear hcz6_2
          try clear hfz11_0
          try clear hfz11_1
          try clear hfz11_2
          try clear hfz12_0
          try clear hfz12_1
          try clear hfz12_2
          try clear hfz5_0
          try clear hfz5_1
          try clear hfz5_2
          try clear hfz6_0
          try clear hfz6_1
          try clear hfz6_2
          try clear hx102_0
          try clear hx102_1
          try clear p102
          try clear p2
          try clear q102
          obtain ⟨x4_3, rfl, HA, HK3, BK101, HB⟩ := hrel
          cases gk with
          | zero => exact absurd HA.out (by simp [glisterlaw05_Thin.l1])
          | succ k3 =>
           have H := HA.out
           clear HA
           simp only [glisterlaw05_Thin.l1] at H
           by_cases c13 : 0 ≤ x3_2
           ·rw [if_pos c13] at H
            have c13b0 : decide (0 ≤ x3_2) = true := decide_eq_true c13
            clear c13
            by_cases c14 : x3_2 < (l0_1.length : Int)
            ·rw [if_pos c14] at H
             have c14b0 : decide (x3_2 < (l0_1.length : Int)) = true := decide_eq_true c14
             clear c14
             by_cases c15 : x4_3 < (((rd_T54 l0_1 x3_2).f0).length : Int)
             ·rw [if_pos c15] at H
              have c15b0 : decide (x4_3 < (((rd_T54 l0_1 x3_2).f0).length : Int)) = true := decide_eq_true c15
              clear c15
              by_cases c16 : 0 ≤ x4_3
              ·rw [if_pos c16] at H
               have c16b0 : decide (0 ≤ x4_3) = true := decide_eq_true c16
               clear c16
               by_cases c17 : (((rd_T101 ((rd_T54 l0_1 x3_2).f0) x4_3).f1).length : Int) > 5
               ·rw [if_pos c17] at H
                have c17b0 : decide (5 < (((rd_T101 ((rd_T54 l0_1 x3_2).f0) x4_3).f1).length : Int)) = true := decide_eq_true c17
                have c17b1 : decide (5 < ((rd_T101 ((rd_T54 l0_1 x3_2).f0) x4_3).f1).length) = true := decide_eq_true (by omega)
                clear c17
                obtain rfl := Option.some.inj H
                have hcz18_0 : wr.cell? ⟨gb101, 0, none⟩ = some (.slice A0_0 l0_0.length c0_0) := (blk_cell BK101.out 0).trans rfl
                have hcz18_1 : wr.cell? ⟨gb101, 1, none⟩ = some (.slice (some ad102) l0_1.length c0_1) := (blk_cell BK101.out 1).trans rfl
                have hcz18_2 : wr.cell? ⟨gb101, 2, none⟩ = some (.int .i64 a0_2) := (blk_cell BK101.out 2).trans rfl
                have hfz18_0 := blk_frozen BK101.out 0
                have hfz18_1 := blk_frozen BK101.out 1
                have hfz18_2 := blk_frozen BK101.out 2
                have p103 : 0 ≤ (x3_2 : Int) := of_decide_eq_true (by first | (with_reducible assumption) | assumption)
                have q103 : x3_2 < (l0_1.length : Int) := of_decide_eq_true (by first | (with_reducible assumption) | assumption)
                obtain ⟨ad103, A103_0, c103_0, e103, hx103_0, hx103_1, hl103_0, hi103_0⟩ := at_T54 HR0_1.out x3_2 p103 q103
                obtain rfl : ad102 = ad103 := (by injection e103)
                replace hx103_0 := (HB.out.cell (World.block_lt_of_cell? w _ hx103_0)).trans hx103_0
                replace hx103_1 := (HB.out.cell (World.block_lt_of_cell? w _ hx103_1)).trans hx103_1
                have HR103_0 := Aside0.mk hi103_0
                have HC103_0 := Aside0.mk hl103_0
                clear hi103_0 hl103_0
                replace p103 := eq_true p103
                replace q103 := eq_true q103
                have p104 : 0 ≤ (x3_2 : Int) := of_decide_eq_true (by first | (with_reducible assumption) | assumption)
                have q104 : x3_2 < (l0_1.length : Int) := of_decide_eq_true (by first | (with_reducible assumption) | assumption)
                obtain ⟨ad104, A104_0, c104_0, e104, hx104_0, hx104_1, hl104_0, hi104_0⟩ := at_T54 HR0_1.out x3_2 p104 q104
                obtain rfl : ad102 = ad104 := (by injection e104)
                replace hx104_0 := (HB.out.cell (World.block_lt_of_cell? w _ hx104_0)).trans hx104_0
                replace hx104_1 := (HB.out.cell (World.block_lt_of_cell? w _ hx104_1)).trans hx104_1
                have HR104_0 := Aside0.mk hi104_0
                have HC104_0 := Aside0.mk hl104_0
                clear hi104_0 hl104_0
                replace p104 := eq_true p104
                replace q104 := eq_true q104
                have ea_ := Option.some.inj (hx103_0.symm.trans hx104_0)
                injection ea_ with ea_ en_ ec_
                subst ea_
                subst ec_
                clear en_
                have p105 : 0 ≤ (x4_3 : Int) := of_decide_eq_true (by first | (with_reducible assumption) | assumption)
                have q105 : x4_3 < (((rd_T54 l0_1 x3_2).f0).length : Int) := of_decide_eq_true (by first | (with_reducible assumption) | assumption)
                obtain ⟨ad105, A105_2, c105_2, e105, hx105_0, hx105_1, hx105_2, hl105_2, hi105_2⟩ := at_T101 HR104_0.out x4_3 p105 q105
                cases e105
                replace hx105_0 := (HB.out.cell (World.block_lt_of_cell? w _ hx105_0)).trans hx105_0
                replace hx105_1 := (HB.out.cell (World.block_lt_of_cell? w _ hx105_1)).trans hx105_1
                replace hx105_2 := (HB.out.cell (World.block_lt_of_cell? w _ hx105_2)).trans hx105_2
                have HR105_2 := Aside0.mk hi105_2
                have HC105_2 := Aside0.mk hl105_2
                clear hi105_2 hl105_2
                replace p105 := eq_true p105
                replace q105 := eq_true q105
                go_wp2
                go_ret
                exact ⟨by first | rfl | (simp [errW_none, errW_some] <;> rfl) | (simp [*, errW_none, errW_some] <;> rfl), by repeat (first | (with_reducible first | exact HB.out | apply below_alloc | apply pw_below_drewN | apply below_drew1 | refine below_set ?_ GE101.out) | exact HB.out)⟩
               ·rw [if_neg c17] at H
                have c17b0 : decide (5 < (((rd_T101 ((rd_T54 l0_1 x3_2).f0) x4_3).f1).length : Int)) = false := decide_eq_false c17
                have c17b1 : decide (5 < ((rd_T101 ((rd_T54 l0_1 x3_2).f0) x4_3).f1).length) = false := decide_eq_false (by omega)
                clear c17
                have H' := Aside0.mk H
                clear H
                have hcz19_0 : wr.cell? ⟨gb101, 0, none⟩ = some (.slice A0_0 l0_0.length c0_0) := (blk_cell BK101.out 0).trans rfl
                have hcz19_1 : wr.cell? ⟨gb101, 1, none⟩ = some (.slice (some ad102) l0_1.length c0_1) := (blk_cell BK101.out 1).trans rfl
                have hcz19_2 : wr.cell? ⟨gb101, 2, none⟩ = some (.int .i64 a0_2) := (blk_cell BK101.out 2).trans rfl
                have hfz19_0 := blk_frozen BK101.out 0
                have hfz19_1 := blk_frozen BK101.out 1
                have hfz19_2 := blk_frozen BK101.out 2
                have p103 : 0 ≤ (x3_2 : Int) := of_decide_eq_true (by first | (with_reducible assumption) | assumption)
                have q103 : x3_2 < (l0_1.length : Int) := of_decide_eq_true (by first | (with_reducible assumption) | assumption)
                obtain ⟨ad103, A103_0, c103_0, e103, hx103_0, hx103_1, hl103_0, hi103_0⟩ := at_T54 HR0_1.out x3_2 p103 q103
                obtain rfl : ad102 = ad103 := (by injection e103)
                replace hx103_0 := (HB.out.cell (World.block_lt_of_cell? w _ hx103_0)).trans hx103_0
                replace hx103_1 := (HB.out.cell (World.block_lt_of_cell? w _ hx103_1)).trans hx103_1
                have HR103_0 := Aside0.mk hi103_0
                have HC103_0 := Aside0.mk hl103_0
                clear hi103_0 hl103_0
                replace p103 := eq_true p103
                replace q103 := eq_true q103
                have p104 : 0 ≤ (x3_2 : Int) := of_decide_eq_true (by first | (with_reducible assumption) | assumption)
                have q104 : x3_2 < (l0_1.length : Int) := of_decide_eq_true (by first | (with_reducible assumption) | assumption)
                obtain ⟨ad104, A104_0, c104_0, e104, hx104_0, hx104_1, hl104_0, hi104_0⟩ := at_T54 HR0_1.out x3_2 p104 q104
                obtain rfl : ad102 = ad104 := (by injection e104)
                replace hx104_0 := (HB.out.cell (World.block_lt_of_cell? w _ hx104_0)).trans hx104_0
                replace hx104_1 := (HB.out.cell (World.block_lt_of_cell? w _ hx104_1)).trans hx104_1
                have HR104_0 := Aside0.mk hi104_0
                have HC104_0 := Aside0.mk hl104_0
                clear hi104_0 hl104_0
                replace p104 := eq_true p104
                replace q104 := eq_true q104
                have ea_ := Option.some.inj (hx103_0.symm.trans hx104_0)
                injection ea_ with ea_ en_ ec_
                subst ea_
                subst ec_
                clear en_
                have p105 : 0 ≤ (x4_3 : Int) := of_decide_eq_true (by first | (with_reducible assumption) | assumption)
                have q105 : x4_3 < (((rd_T54 l0_1 x3_2).f0).length : Int) := of_decide_eq_true (by first | (with_reducible assumption) | assumption)
                obtain ⟨ad105, A105_2, c105_2, e105, hx105_0, hx105_1, hx105_2, hl105_2, hi105_2⟩ := at_T101 HR104_0.out x4_3 p105 q105
                cases e105
                replace hx105_0 := (HB.out.cell (World.block_lt_of_cell? w _ hx105_0)).trans hx105_0
                replace hx105_1 := (HB.out.cell (World.block_lt_of_cell? w _ hx105_1)).trans hx105_1
                replace hx105_2 := (HB.out.cell (World.block_lt_of_cell? w _ hx105_2)).trans hx105_2
                have HR105_2 := Aside0.mk hi105_2
                have HC105_2 := Aside0.mk hl105_2
                clear hi105_2 hl105_2
                replace p105 := eq_true p105
                replace q105 := eq_true q105
                go_wp2
                go_roundg k3
                case measure => have := HJ1.out; have := HK2.out; have := HK3.out; omega
                case rel => exact ⟨(wrap64 (x4_3 + 1)), (by first | rfl | (simp; done) | (simp [*]; done)), H', ⟨by have := HJ1.out; have := HK2.out; have := HK3.out; omega⟩, ⟨by (with_reducible repeat (first | refine blk_drewN ?_ _ | refine blk_drew ?_ | refine blk_alloc ?_ _)); exact BK101.out⟩, ⟨by repeat (first | (with_reducible first | exact HB.out | apply below_alloc | apply pw_below_drewN | apply below_drew1 | refine below_set ?_ GE101.out) | exact HB.out)⟩⟩
              ·rw [if_neg c16] at H
               exact absurd H (by simp)
             ·rw [if_neg c15] at H
              have c15b0 : decide (x4_3 < (((rd_T54 l0_1 x3_2).f0).length : Int)) = false := decide_eq_false c15
              clear c15
              have H' := Aside0.mk H
              clear H
              have hcz20_0 : wr.cell? ⟨gb101, 0, none⟩ = some (.slice A0_0 l0_0.length c0_0) := (blk_cell BK101.out 0).trans rfl
              have hcz20_1 : wr.cell? ⟨gb101, 1, none⟩ = some (.slice (some ad102) l0_1.length c0_1) := (blk_cell BK101.out 1).trans rfl
              have hcz20_2 : wr.cell? ⟨gb101, 2, none⟩ = some (.int .i64 a0_2) := (blk_cell BK101.out 2).trans rfl
              have hfz20_0 := blk_frozen BK101.out 0
              have hfz20_1 := blk_frozen BK101.out 1
              have hfz20_2 := blk_frozen BK101.out 2
              have p103 : 0 ≤ (x3_2 : Int) := of_decide_eq_true (by first | (with_reducible assumption) | assumption)
              have q103 : x3_2 < (l0_1.length : Int) := of_decide_eq_true (by first | (with_reducible assumption) | assumption)
              obtain ⟨ad103, A103_0, c103_0, e103, hx103_0, hx103_1, hl103_0, hi103_0⟩ := at_T54 HR0_1.out x3_2 p103 q103
              obtain rfl : ad102 = ad103 := (by injection e103)
              replace hx103_0 := (HB.out.cell (World.block_lt_of_cell? w _ hx103_0)).trans hx103_0
              replace hx103_1 := (HB.out.cell (World.block_lt_of_cell? w _ hx103_1)).trans hx103_1
              have HR103_0 := Aside0.mk hi103_0
              have HC103_0 := Aside0.mk hl103_0
              clear hi103_0 hl103_0
              replace p103 := eq_true p103
              replace q103 := eq_true q103
              go_wp2
              go_roundg k3
              case measure => have := HJ1.out; have := HK2.out; have := HK3.out; omega
              case rel => exact ⟨(wrap64 (x3_2 + 1)), (by first | rfl | (simp; done) | (simp [*]; done)), H', ⟨by have := HJ1.out; have := HK2.out; have := HK3.out; omega⟩, ⟨by (with_reducible repeat (first | refine blk_drewN ?_ _ | refine blk_drew ?_ | refine blk_alloc ?_ _)); exact BK101.out⟩, ⟨by repeat (first | (with_reducible first | exact HB.out | apply below_alloc | apply pw_below_drewN | apply below_drew1 | refine below_set ?_ GE101.out) | exact HB.out)⟩⟩
            ·rw [if_neg c14] at H
             exact absurd H (by simp)
           ·rw [if_neg c13] at H
            exact absurd H (by simp)
       ·rw [if_neg c9] at H
        exact absurd H (by simp)
      ·rw [if_neg c8] at H
       have c8b0 : decide (x3_2 < (l0_1.length : Int)) = false := decide_eq_false c8
       clear c8
       obtain rfl := Option.some.inj H
       have hcz21_0 : wr.cell? ⟨gb101, 0, none⟩ = some (.slice A0_0 l0_0.length c0_0) := (blk_cell BK101.out 0).trans rfl
       have hcz21_1 : wr.cell? ⟨gb101, 1, none⟩ = some (.slice A0_1 l0_1.length c0_1) := (blk_cell BK101.out 1).trans rfl
       have hcz21_2 : wr.cell? ⟨gb101, 2, none⟩ = some (.int .i64 a0_2) := (blk_cell BK101.out 2).trans rfl
       have hfz21_0 := blk_frozen BK101.out 0
       have hfz21_1 := blk_frozen BK101.out 1
       have hfz21_2 := blk_frozen BK101.out 2
       go_wp2
       go_ret
       exact ⟨by first | rfl | (simp [errW_none, errW_some] <;> rfl) | (simp [*, errW_none, errW_some] <;> rfl), by repeat (first | (with_reducible first | exact HB.out | apply below_alloc | apply pw_below_drewN | apply below_drew1 | refine below_set ?_ GE101.out) | exact HB.out)⟩
end Go.Proofs.Ytiephlhohgohcaa.PAll
namespace Go.Proofs.Ytiephlhohgohcaa.PAll
open Go.RowKit Go.Proofs.YtiephlhohgohcaaW.PrintWords Go.Proofs.YtiephlhohgohcaaW.PrintLast Go.Proofs.YtiephlhohgohcaaW.PrintMore
set_option linter.unusedVariables false
set_option linter.unusedSimpArgs false
theorem Ev.yes {α : Type} {c : Prop} [Decidable c] {f g : Nat → Option α} {r : α} (h : c) (k : Ev f r) : Ev (fun n => if c then f n else g n) r := Ev.congr (fun n => if_pos h) k
theorem Ev.no {α : Type} {c : Prop} [Decidable c] {f g : Nat → Option α} {r : α} (h : ¬ c) (k : Ev g r) : Ev (fun n => if c then f n else g n) r := Ev.congr (fun n => if_neg h) k
theorem Ev.ite {α : Type} {c : Prop} [Decidable c] {f g : Nat → Option α} {r s : α} (k : c → Ev f r) (k' : ¬ c → Ev g s) : Ev (fun n => if c then f n else g n) (if c then r else s) := by
  by_cases h : c
  · rw [if_pos h]; exact Ev.yes h (k h)
  · rw [if_neg h]; exact Ev.no h (k' h)
theorem wrapS (i : Nat) (h : i ≤ 1000000000) : wrap64 ((i : Int) + 1) = ((i + 1 : Nat) : Int) := by unfold wrap64; omega
theorem wrapP (i : Nat) (h : i ≤ 1000000000) (h0 : 0 < i) : wrap64 ((i : Int) - 1) = ((i - 1 : Nat) : Int) := by unfold wrap64; omega
theorem in_f (a lo hi : Int) : glisterref05_In.f a lo hi = some (inB lo hi a) := by
  unfold glisterref05_In.f inB
  by_cases h : lo ≤ a <;> simp [h]
theorem span_f (lo hi most : Int) : glisterref05_Span.f lo hi most = some (uptoB most ⟨lo, hi⟩) := by
  unfold glisterref05_Span.f
  rw [in_f, Option.bind_some]
  unfold inB uptoB
  by_cases h : 0 ≤ lo <;> by_cases h2 : lo ≤ hi <;> simp [h, h2]
theorem rdT54 {l : List S54} {i : Nat} (h : i < l.length) : rd_T54 l (i : Int) = l[i] := by unfold rd_T54; rw [Int.toNat_natCast, rd_in _ _ _ h]
theorem rdT101 {l : List S101} {i : Nat} (h : i < l.length) : rd_T101 l (i : Int) = l[i] := by unfold rd_T101; rw [Int.toNat_natCast, rd_in _ _ _ h]
theorem rdT64 {l : List S64} {i : Nat} (h : i < l.length) : rd_T64 l (i : Int) = l[i] := by unfold rd_T64; rw [Int.toNat_natCast, rd_in _ _ _ h]
theorem rdI {l : List Int} {i : Nat} (h : i < l.length) : rd l (i : Int) = l[i] := by unfold rd; rw [Int.toNat_natCast, rd_in _ _ _ h]
def p5 (l : S101) : Bool := decide (l.f1.length ≤ 5)
def thinR (r : S54) : Bool := decide (r.f0.length ≤ 6) && r.f0.all p5
def thinB (sends : List Int) (routes : List S54) : Bool := decide (sends.length ≤ 7) && (decide (routes.length ≤ 6) && routes.all thinR)
theorem thin_l1 (sends : List Int) (routes : List S54) (pat : Int) (i : Nat) (hi : i < routes.length) (h6 : routes.length ≤ 6) (hl : routes[i].f0.length ≤ 6) (b : Bool) (hn : Ev (fun k => glisterlaw05_Thin.l0 k ((i + 1 : Nat) : Int) sends routes pat) b) :
    ∀ (d j : Nat), j + d = routes[i].f0.length → Ev (fun k => glisterlaw05_Thin.l1 k (i : Int) (j : Int) sends routes pat) ((routes[i].f0.drop j).all p5 && b)
  | 0, j, hj => by
    rw [List.drop_eq_nil_of_le (by omega)]
    refine Ev.step (fun k => by rw [glisterlaw05_Thin.l1]) ?_
    refine Ev.yes (by omega) (Ev.yes (by omega) (Ev.no (by rw [rdT54 hi]; omega) ?_))
    rw [wrapS i (by omega)]
    simpa using hn
  | d + 1, j, hj => by
    have hlt : j < routes[i].f0.length := by omega
    have ih := thin_l1 sends routes pat i hi h6 hl b hn d (j + 1) (by omega)
    rw [List.drop_eq_getElem_cons hlt, List.all_cons]
    refine Ev.step (fun k => by rw [glisterlaw05_Thin.l1]) ?_
    refine Ev.yes (by omega) (Ev.yes (by omega) (Ev.yes (by rw [rdT54 hi]; omega) (Ev.yes (by omega) ?_)))
    rw [rdT54 hi, rdT101 hlt]
    by_cases h5 : routes[i].f0[j].f1.length ≤ 5
    · have hp : p5 routes[i].f0[j] = true := by simpa [p5] using h5
      refine Ev.no (by omega) ?_
      rw [wrapS j (by omega), hp]
      exact ih
    · have hp : p5 routes[i].f0[j] = false := by simpa [p5] using h5
      refine Ev.yes (by omega) ?_
      rw [hp]
      exact Ev.now _
theorem thin_l0 (sends : List Int) (routes : List S54) (pat : Int) (h6 : routes.length ≤ 6) : ∀ (d i : Nat), i + d = routes.length → Ev (fun k => glisterlaw05_Thin.l0 k (i : Int) sends routes pat) ((routes.drop i).all thinR)
  | 0, i, hi => by
    rw [List.drop_eq_nil_of_le (by omega)]
    refine Ev.step (fun k => by rw [glisterlaw05_Thin.l0]) ?_
    exact Ev.no (by omega) (Ev.now _)
  | d + 1, i, hi => by
    have hlt : i < routes.length := by omega
    have ih := thin_l0 sends routes pat h6 d (i + 1) (by omega)
    rw [List.drop_eq_getElem_cons hlt, List.all_cons]
    refine Ev.step (fun k => by rw [glisterlaw05_Thin.l0]) ?_
    refine Ev.yes (by omega) (Ev.yes (by omega) ?_)
    rw [rdT54 hlt]
    by_cases hl : routes[i].f0.length ≤ 6
    · refine Ev.no (by omega) ?_
      have h := thin_l1 sends routes pat i hlt h6 hl _ ih routes[i].f0.length 0 (by omega)
      have ht : thinR routes[i] = (routes[i].f0.drop 0).all p5 := by simp [thinR, hl]
      rw [ht]
      exact h
    · refine Ev.yes (by omega) ?_
      have ht : thinR routes[i] = false := by simp [thinR, hl]
      rw [ht]
      exact Ev.now _
theorem thin_f (sends : List Int) (routes : List S54) (pat : Int) : ∃ k, glisterlaw05_Thin.f k sends routes pat = some (thinB sends routes) := by
  refine Ev.rounds ?_
  unfold glisterlaw05_Thin.f thinB
  by_cases h7 : sends.length ≤ 7
  · refine Ev.no (by omega) (Ev.step (fun k => by rw [glisterlaw05_Thin.j0]) ?_)
    by_cases h6 : routes.length ≤ 6
    · refine Ev.no (by simp; omega) ?_
      have h := thin_l0 sends routes pat h6 routes.length 0 (by omega)
      simpa [h7, h6] using h
    · refine Ev.yes (by simp; omega) ?_
      simpa [h7, h6] using Ev.now false
  · refine Ev.yes (by omega) (Ev.step (fun k => by rw [glisterlaw05_Thin.j0]) ?_)
    refine Ev.yes rfl ?_
    simpa [h7] using Ev.now false
end Go.Proofs.Ytiephlhohgohcaa.PAll
namespace Go.Proofs.Ytiephlhohgohcaa.PAll
open Go.RowKit Go.Proofs.YtiephlhohgohcaaW.PrintWords Go.Proofs.YtiephlhohgohcaaW.PrintLast Go.Proofs.YtiephlhohgohcaaW.PrintMore
set_option linter.unusedVariables false
set_option linter.unusedSimpArgs false
def bi (b : Bool) : Int := if b = true then 1 else 0
def spanBad (most : Int) (r : S64) : Bool := !uptoB most (toR r)
def legsR : List S101 → (Bool → Int) → Bool → Int
  | [], X, b => X b
  | l :: ls, X, b => if 2 < l.f1.length then 3 else legsR ls X ((b || spanBad 6 l.f0) || l.f1.any (spanBad 30))
def routesR : List S54 → Bool → Int
  | [], b => bi b
  | r :: rs, b => if 3 < r.f0.length then 3 else legsR r.f0 (routesR rs) (b || decide (r.f0.length = 0))
def upBad : Option Int → List Int → Bool
  | _, [] => false
  | prev, x :: xs => (!inB 0 30 x || (match prev with | some p => decide (x ≤ p) | none => false)) || upBad (some x) xs
theorem upBad_nil (p : Option Int) : upBad p [] = false := by cases p <;> rfl
theorem upBad_cons (p : Option Int) (x : Int) (xs : List Int) : upBad p (x :: xs) = ((!inB 0 30 x || (match p with | some q => decide (x ≤ q) | none => false)) || upBad (some x) xs) := by cases p <;> rfl
section
variable (sends : List Int) (routes : List S54) (pat : Int)
theorem fault_l3 (i : Nat) (legs : List S101) (j : Nat) (hj : j < legs.length) (hjl : legs.length ≤ 6) (h5 : legs[j].f1.length ≤ 5) (X : Bool → Int) (hn : ∀ b, Ev (fun k => glisterref05_Fault.l2 k (bi b) (i : Int) legs ((j + 1 : Nat) : Int) sends routes pat) (X b)) :
    ∀ (d m : Nat) (b : Bool), m + d = legs[j].f1.length → Ev (fun k => glisterref05_Fault.l3 k (bi b) (i : Int) legs (j : Int) (m : Int) sends routes pat) (X (b || (legs[j].f1.drop m).any (spanBad 30)))
  | 0, m, b, hm => by
    rw [List.drop_eq_nil_of_le (by omega)]
    refine Ev.step (fun k => by rw [glisterref05_Fault.l3]) ?_
    refine Ev.yes (by omega) (Ev.yes (by omega) (Ev.no (by rw [rdT101 hj]; omega) ?_))
    rw [wrapS j (by omega)]
    simpa using hn b
  | d + 1, m, b, hm => by
    have hlt : m < legs[j].f1.length := by omega
    rw [List.drop_eq_getElem_cons hlt, List.any_cons]
    refine Ev.step (fun k => by rw [glisterref05_Fault.l3]) ?_
    refine Ev.yes (by omega) (Ev.yes (by omega) (Ev.yes (by rw [rdT101 hj]; omega) (Ev.yes (by omega) ?_)))
    rw [rdT101 hj, rdT64 hlt, span_f]
    simp only [Option.bind_some]
    rw [wrapS m (by omega)]
    by_cases h : uptoB 30 (toR legs[j].f1[m]) = true
    · refine Ev.yes h ?_
      have hb : spanBad 30 legs[j].f1[m] = false := by unfold spanBad; rw [h]; rfl
      rw [hb]
      exact fault_l3 i legs j hj hjl h5 X hn d (m + 1) b (by omega)
    · refine Ev.no h ?_
      have hb : spanBad 30 legs[j].f1[m] = true := by unfold spanBad; simpa using h
      rw [hb]
      have := fault_l3 i legs j hj hjl h5 X hn d (m + 1) true (by omega)
      simpa [bi] using this
theorem fault_l2 (i : Nat) (hi : i ≤ 1000) (legs : List S101) (hjl : legs.length ≤ 6) (X : Bool → Int) (hn : ∀ b, Ev (fun k => glisterref05_Fault.l1 k (bi b) ((i + 1 : Nat) : Int) sends routes pat) (X b)) :
    ∀ (d j : Nat) (b : Bool), j + d = legs.length → Ev (fun k => glisterref05_Fault.l2 k (bi b) (i : Int) legs (j : Int) sends routes pat) (legsR (legs.drop j) X b)
  | 0, j, b, hj => by
    rw [List.drop_eq_nil_of_le (by omega)]
    refine Ev.step (fun k => by rw [glisterref05_Fault.l2]) ?_
    refine Ev.no (by omega) ?_
    rw [wrapS i (by omega)]
    exact hn b
  | d + 1, j, b, hj => by
    have hlt : j < legs.length := by omega
    rw [List.drop_eq_getElem_cons hlt, legsR]
    refine Ev.step (fun k => by rw [glisterref05_Fault.l2]) ?_
    refine Ev.yes (by omega) (Ev.yes (by omega) ?_)
    rw [rdT101 hlt]
    by_cases h2 : 2 < legs[j].f1.length
    · rw [if_pos h2]
      exact Ev.yes (by omega) (Ev.now _)
    · rw [if_neg h2]
      refine Ev.no (by omega) ?_
      rw [span_f]
      simp only [Option.bind_some]
      have ih : ∀ b, Ev (fun k => glisterref05_Fault.l2 k (bi b) (i : Int) legs ((j + 1 : Nat) : Int) sends routes pat) (legsR (legs.drop (j + 1)) X b) := fun b => fault_l2 i hi legs hjl X hn d (j + 1) b (by omega)
      by_cases h : uptoB 6 (toR legs[j].f0) = true
      · refine Ev.yes h (Ev.step (fun k => by rw [glisterref05_Fault.j7]) ?_)
        have hb : spanBad 6 legs[j].f0 = false := by unfold spanBad; rw [h]; rfl
        have := fault_l3 sends routes pat i legs j hlt hjl (by omega) _ ih legs[j].f1.length 0 b (by omega)
        rw [hb, Bool.or_false]
        simpa using this
      · refine Ev.no h (Ev.step (fun k => by rw [glisterref05_Fault.j7]) ?_)
        have hb : spanBad 6 legs[j].f0 = true := by unfold spanBad; simpa using h
        have := fault_l3 sends routes pat i legs j hlt hjl (by omega) _ ih legs[j].f1.length 0 true (by omega)
        rw [hb, Bool.or_true, Bool.true_or]
        simpa [bi] using this
theorem fault_l1 (h3 : routes.length ≤ 3) : ∀ (d i : Nat) (b : Bool), i + d = routes.length → Ev (fun k => glisterref05_Fault.l1 k (bi b) (i : Int) sends routes pat) (routesR (routes.drop i) b)
  | 0, i, b, hi => by
    rw [List.drop_eq_nil_of_le (by omega)]
    refine Ev.step (fun k => by rw [glisterref05_Fault.l1]) ?_
    exact Ev.no (by omega) (Ev.now _)
  | d + 1, i, b, hi => by
    have hlt : i < routes.length := by omega
    rw [List.drop_eq_getElem_cons hlt, routesR]
    refine Ev.step (fun k => by rw [glisterref05_Fault.l1]) ?_
    refine Ev.yes (by omega) (Ev.yes (by omega) ?_)
    rw [rdT54 hlt]
    by_cases hl : 3 < routes[i].f0.length
    · rw [if_pos hl]
      exact Ev.yes (by omega) (Ev.now _)
    · rw [if_neg hl]
      refine Ev.no (by omega) ?_
      have ih : ∀ b, Ev (fun k => glisterref05_Fault.l1 k (bi b) ((i + 1 : Nat) : Int) sends routes pat) (routesR (routes.drop (i + 1)) b) := fun b => fault_l1 h3 d (i + 1) b (by omega)
      have h2 := fun b => fault_l2 sends routes pat i (by omega) routes[i].f0 (by omega) _ ih routes[i].f0.length 0 b (by omega)
      by_cases h0 : routes[i].f0.length = 0
      · refine Ev.yes (by omega) (Ev.step (fun k => by rw [glisterref05_Fault.j5]) ?_)
        rw [decide_eq_true h0, Bool.or_true]
        exact h2 true
      · refine Ev.no (by omega) (Ev.step (fun k => by rw [glisterref05_Fault.j5]) ?_)
        rw [decide_eq_false h0, Bool.or_false]
        exact h2 b
theorem fault_l0 (h3 : routes.length ≤ 3) (h7 : sends.length ≤ 7) : ∀ (d i : Nat) (b : Bool), i + d = sends.length → Ev (fun k => glisterref05_Fault.l0 k (bi b) (i : Int) sends routes pat) (routesR routes (b || upBad (if h : 0 < i ∧ i ≤ sends.length then some (sends[i - 1]'(by omega)) else none) (sends.drop i)))
  | 0, i, b, hi => by
    rw [List.drop_eq_nil_of_le (by omega), upBad_nil, Bool.or_false]
    refine Ev.step (fun k => by rw [glisterref05_Fault.l0]) ?_
    refine Ev.no (by omega) ?_
    exact fault_l1 sends routes pat h3 routes.length 0 b (by omega)
  | d + 1, i, b, hi => by
    have hlt : i < sends.length := by omega
    rw [List.drop_eq_getElem_cons hlt, upBad_cons]
    have ih := fun b => fault_l0 h3 h7 d (i + 1) b (by omega)
    have hprev : (if h : 0 < i + 1 ∧ i + 1 ≤ sends.length then some (sends[i + 1 - 1]'(by omega)) else none) = some sends[i] := by rw [dif_pos ⟨by omega, by omega⟩]; rfl
    rw [hprev] at ih
    refine Ev.step (fun k => by rw [glisterref05_Fault.l0]) ?_
    refine Ev.yes (by omega) (Ev.yes (by omega) ?_)
    rw [rdI hlt, in_f]
    simp only [Option.bind_some]
    rw [wrapS i (by omega)]
    by_cases h : inB 0 30 sends[i] = true
    · refine Ev.yes h ?_
      rw [h, Bool.not_true, Bool.false_or]
      by_cases h0 : 0 < i
      · refine Ev.yes (by omega) ?_
        rw [wrapP i (by omega) h0]
        refine Ev.yes (by omega) (Ev.yes (by omega) ?_)
        rw [rdI (show i - 1 < sends.length by omega), dif_pos ⟨h0, by omega⟩]
        by_cases hle : sends[i] ≤ sends[i - 1]
        · refine Ev.yes hle ?_
          have := ih true
          simpa [bi, hle] using this
        · refine Ev.no hle ?_
          simpa [hle] using ih b
      · refine Ev.no (by omega) ?_
        rw [dif_neg (by omega)]
        simpa using ih b
    · refine Ev.no h ?_
      have hf : inB 0 30 sends[i] = false := by simpa using h
      rw [hf]
      have := ih true
      simpa [bi] using this
end
theorem upBad_some : ∀ (xs : List Int) (p : Int), upBad (some p) xs = (!xs.all (inB 0 30) || !risesB (p :: xs))
  | [], p => rfl
  | x :: xs, p => by
    rw [upBad, upBad_some xs x, List.all_cons]
    have hr : risesB (p :: x :: xs) = (decide (p < x) && risesB (x :: xs)) := by rw [risesB]
    rw [hr]
    have hd : decide (x ≤ p) = !decide (p < x) := by by_cases h : p < x <;> simp [h] <;> omega
    simp only [hd]
    cases inB 0 30 x <;> cases decide (p < x) <;> cases xs.all (inB 0 30) <;> cases risesB (x :: xs) <;> rfl
theorem upBad_none (xs : List Int) : upBad none xs = (!xs.all (inB 0 30) || !risesB xs) := by
  cases xs with
  | nil => rfl
  | cons x xs =>
    rw [upBad, upBad_some, List.all_cons]
    cases inB 0 30 x <;> cases xs.all (inB 0 30) <;> cases risesB (x :: xs) <;> rfl
theorem any_spanBad (l : List S64) (most : Int) : l.any (spanBad most) = !(l.map toR).all (uptoB most) := by
  induction l with
  | nil => rfl
  | cons x xs ih => rw [List.any_cons, ih, List.map_cons, List.all_cons]; unfold spanBad; cases uptoB most (toR x) <;> simp
theorem legsR_eq (P : Bool) (Q : Bool) (X : Bool → Int) (hX : ∀ b, X b = if P = true then 3 else bi (b || Q)) : ∀ (ls : List S101) (b : Bool), legsR ls X b = if (!(ls.map toL).all fewL || P) = true then 3 else bi (b || (!(ls.map toL).all okL || Q))
  | [], b => by rw [legsR, hX]; simp
  | l :: ls, b => by
    rw [legsR, legsR_eq P Q X hX ls, List.map_cons, List.all_cons, List.all_cons, any_spanBad]
    have hfew : fewL (toL l) = decide (¬ 2 < l.f1.length) := by
      unfold fewL toL
      rw [List.length_map]
      by_cases h : 2 < l.f1.length
      · rw [decide_eq_false (by omega), decide_eq_false (by omega)]
      · rw [decide_eq_true (by omega), decide_eq_true h]
    have hok : okL (toL l) = (uptoB 6 (toR l.f0) && (l.f1.map toR).all (uptoB 30)) := rfl
    rw [hfew, hok]
    unfold spanBad
    by_cases h : 2 < l.f1.length
    · simp [h]
    · rw [if_neg h, decide_eq_true h, Bool.true_and]
      generalize (!(ls.map toL).all fewL || P) = c
      cases c <;> cases b <;> cases uptoB 6 (toR l.f0) <;> cases (l.f1.map toR).all (uptoB 30) <;> simp
theorem routesR_eq : ∀ (rs : List S54) (b : Bool), routesR rs b = if (!(rs.map toX).all fewR) = true then 3 else bi (b || !(rs.map toX).all okR)
  | [], b => by rw [routesR]; simp
  | r :: rs, b => by
    rw [routesR, legsR_eq (!(rs.map toX).all fewR) (!(rs.map toX).all okR) _ (routesR_eq rs), List.map_cons, List.all_cons, List.all_cons]
    have hf : fewR (toX r) = (decide (¬ 3 < r.f0.length) && (r.f0.map toL).all fewL) := by
      unfold fewR toX
      simp only [List.length_map]
      congr 1
      by_cases h : 3 < r.f0.length
      · rw [decide_eq_false (by omega), decide_eq_false (by omega)]
      · rw [decide_eq_true (by omega), decide_eq_true h]
    have ho : okR (toX r) = (!decide (r.f0.length = 0) && (r.f0.map toL).all okL) := by
      unfold okR toX
      simp only [List.length_map]
      congr 1
      by_cases h : r.f0.length = 0
      · rw [decide_eq_true h, decide_eq_false (by omega)]; rfl
      · rw [decide_eq_false h, decide_eq_true (by omega)]; rfl
    rw [hf, ho]
    by_cases h : 3 < r.f0.length
    · simp [h]
    · rw [if_neg h, decide_eq_true h, Bool.true_and]
      generalize decide (r.f0.length = 0) = c
      generalize (r.f0.map toL).all fewL = d1
      generalize (r.f0.map toL).all okL = d2
      generalize (rs.map toX).all fewR = d3
      generalize (rs.map toX).all okR = d4
      cases b <;> cases c <;> cases d1 <;> cases d2 <;> cases d3 <;> cases d4 <;> rfl
theorem fault_f (sends : List Int) (routes : List S54) (pat : Int) (h7 : sends.length ≤ 7) : ∃ k, glisterref05_Fault.f k sends routes pat = some (check sends (routes.map toX) pat) := by
  refine Ev.rounds ?_
  unfold glisterref05_Fault.f check big bad
  rw [List.length_map]
  by_cases h4 : 4 < sends.length
  · refine Ev.yes (by omega) (Ev.step (fun k => by rw [glisterref05_Fault.j0]) (Ev.yes rfl ?_))
    rw [decide_eq_true (show (sends.length : Int) > 4 by omega)]
    exact Ev.now _
  · refine Ev.no (by omega) (Ev.step (fun k => by rw [glisterref05_Fault.j0]) ?_)
    rw [decide_eq_false (show ¬ (sends.length : Int) > 4 by omega), Bool.false_or]
    by_cases h3 : 3 < routes.length
    · refine Ev.yes (by simp; omega) ?_
      rw [decide_eq_true (show (routes.length : Int) > 3 by omega)]
      exact Ev.now _
    · refine Ev.no (by simp; omega) ?_
      rw [decide_eq_false (show ¬ (routes.length : Int) > 3 by omega), Bool.false_or]
      have H : ∀ b : Bool, Ev (fun k => glisterref05_Fault.j1 k 0 b sends routes pat) (routesR routes (b || upBad none sends)) := fun b => by
        refine Ev.step (fun k => by rw [glisterref05_Fault.j1]) ?_
        have h := fun b => fault_l0 sends routes pat (by omega) h7 sends.length 0 b (by omega)
        cases b with
        | true =>
          refine Ev.yes rfl (Ev.step (fun k => by rw [glisterref05_Fault.j2]) ?_)
          simpa [bi] using h true
        | false =>
          refine Ev.no (by simp) (Ev.step (fun k => by rw [glisterref05_Fault.j2]) ?_)
          simpa [bi] using h false
      have E : ∀ b : Bool, routesR routes (b || upBad none sends) = if (!(routes.map toX).all fewR) = true then 3 else if (b || (!sends.all (inB 0 30) || !risesB sends) || !(routes.map toX).all okR) = true then 1 else 0 := fun b => by
        rw [routesR_eq, upBad_none]; rfl
      by_cases hs : sends.length = 0
      · refine Ev.yes (by omega) ?_
        have := H true
        rw [E] at this
        simpa [hs] using this
      · refine Ev.no (by omega) ?_
        rw [decide_eq_false hs, Bool.false_or]
        by_cases hr : routes.length = 0
        · refine Ev.yes (by omega) ?_
          have := H true
          rw [E] at this
          simpa [hr] using this
        · refine Ev.no (by omega) ?_
          rw [in_f, decide_eq_false hr, Bool.false_or]
          simp only [Option.bind_some]
          have := H (!inB 0 30 pat)
          rw [E] at this
          rw [← Bool.or_assoc] at this
          exact this
theorem lawFault_f (sends : List Int) (routes : List S54) (pat : Int) (h7 : sends.length ≤ 7) : ∃ k, glisterlaw05_fault.f k sends routes pat = some (check sends (routes.map toX) pat) := by
  obtain ⟨k, h⟩ := fault_f sends routes pat h7
  exact ⟨k, by unfold glisterlaw05_fault.f; rw [h]; rfl⟩
end Go.Proofs.Ytiephlhohgohcaa.PAll
