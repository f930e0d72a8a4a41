/- Part 10 of what the row rests on: each text as it stands among the working texts, cut to what is used; those of the print of the kit as a program printed them. -/
import Derived.Test.YtiephlhohgohcaaEnds5
import Derived.Deep.Slices
import Derived.Deep.Strs
import Derived.Lib.SmallJoins
set_option linter.unusedVariables false
set_option linter.unusedSimpArgs false
namespace Go.Proofs.Ytiephlhohgohcaa.PAll
open Go.RowKit Go.Proofs.YtiephlhohgohcaaW.PrintWords Go.Proofs.YtiephlhohgohcaaW.PrintLast Go.Proofs.YtiephlhohgohcaaW.PrintMore
set_option linter.unusedVariables false
set_option linter.unusedSimpArgs false
/-- Whatever reads at a type is of a kind. -/
def Opens {α : Type} (d : Kd α) (t : TypeId) (good : α → Prop) : Prop :=
  Try.prog.cellsOf t = d.sz ∧ ∀ {H : Type} (enc : TypeId × Value → H) (w : World) (sp : Nat → Bool) (hd : Bool) (fuel : Nat) (cs : List Value) (x : DataW H × List MemPlace), DataW.trod enc Try.prog w 0 sp hd fuel t cs = some x → ∃ y, d.K w y cs ∧ good y
theorem opens_int {t : TypeId} {k : IntKind} (hu : Try.prog.underlying t = some (.int k)) (hc : Try.prog.cellsOf t = 1) : Opens (Kd.int k) t (fun n => (Lit.int k n).wf = true) := by
  refine ⟨hc, fun enc w sp hd fuel cs x h => ?_⟩
  obtain ⟨n, rfl, _, hw⟩ := DataW.trod_int hu h
  exact ⟨n, rfl, hw⟩
theorem opens_bool {t : TypeId} (hu : Try.prog.underlying t = some .bool) (hc : Try.prog.cellsOf t = 1) : Opens Kd.bool t (fun _ => True) := by
  refine ⟨hc, fun enc w sp hd fuel cs x h => ?_⟩
  obtain ⟨b, rfl, _⟩ := DataW.trod_bool hu h
  exact ⟨b, rfl, trivial⟩
theorem list_of {α : Type} {P : Nat → α → Prop} : ∀ n, (∀ i, i < n → ∃ y, P i y) → ∃ ys : List α, ys.length = n ∧ ∀ i (h : i < ys.length), P i ys[i]
  | 0, _ => ⟨[], rfl, fun i h => by cases h⟩
  | n + 1, h => by
    obtain ⟨ys, hl, hy⟩ := list_of n (fun i hi => h i (by omega))
    obtain ⟨y, hP⟩ := h n (by omega)
    refine ⟨ys ++ [y], by simp [hl], fun i hi => ?_⟩
    by_cases e : i < ys.length
    · rw [List.getElem_append_left e]; exact hy i e
    · have hi' : i = n := by rw [List.length_append, List.length_singleton] at hi; omega
      subst hi'
      rw [List.getElem_append_right (by omega)]
      simpa [hl] using hP
theorem opens_slice {α : Type} {d : Kd α} {t e : TypeId} {good : α → Prop} (hu : Try.prog.underlying t = some (.slice e)) (hc : Try.prog.cellsOf t = 1) (ho : Opens d e good) : Opens (Kd.slice e d) t (fun ys => ∀ y ∈ ys, good y) := by
  refine ⟨hc, fun enc w sp hd fuel cs x h => ?_⟩
  rcases Go.Deep.open_slice hu h with ⟨rfl, _⟩ | ⟨a, len, cap, m, n, D, Pl, rfl, _, hl, hm, hmm, _, hx⟩
  · exact ⟨[], ⟨none, 0, rfl, Nat.le_refl _, rfl, by simp, fun h => absurd h (by simp)⟩, fun y hy => by cases hy⟩
  · have hlm : len ≤ m := by rw [hmm]; split <;> omega
    obtain ⟨ys, hys, hP⟩ := list_of (P := fun i y => ∃ cs', w.cells? 0 (a.add (i * Try.prog.cellsOf e)) (Try.prog.cellsOf e) = some cs' ∧ d.K w y cs' ∧ good y) len (fun i hi => by
      obtain ⟨cs', h1, h2⟩ := hx i (by omega)
      obtain ⟨y, h3, h4⟩ := ho.2 enc w sp hd n cs' _ h2
      exact ⟨y, cs', h1, h3, h4⟩)
    refine ⟨ys, ⟨some a, cap, by rw [hys], by omega, rfl, by unfold maxLen at hm; omega, fun _ => ⟨a, rfl, fun j p hj => ?_⟩⟩, fun y hy => ?_⟩
    · obtain ⟨hlt, hp⟩ := List.getElem?_eq_some_iff.1 hj
      obtain ⟨cs', h1, h2, _⟩ := hP j hlt
      obtain ⟨_, h3, h4⟩ := World.cells?_some h1
      rw [hp] at h2
      refine ⟨cs', d.K_len h2, h2, fun i u hu' => ?_⟩
      have hi := (List.getElem?_eq_some_iff.1 hu').1
      have h5 := h4 i (by omega)
      rw [Addr.add_add, hu'] at h5
      rw [← ho.1]
      exact h5
    · obtain ⟨i, hi, rfl⟩ := List.getElem_of_mem hy
      obtain ⟨_, _, _, h⟩ := hP i hi
      exact h
theorem opens_struct2 {α β : Type} {a : Kd α} {b : Kd β} {t : TypeId} {f0 f1 : Field} {g0 : α → Prop} {g1 : β → Prop} (hu : Try.prog.underlying t = some (.struct #[f0, f1])) (hc : Try.prog.cellsOf t = a.sz + b.sz) (o0 : f0.offset = 0) (o1 : f1.offset = a.sz)
    (h0 : Opens a f0.type g0) (h1 : Opens b f1.type g1) : Opens (Kd.pair a b) t (fun y => g0 y.1 ∧ g1 y.2) := by
  refine ⟨hc, fun enc w sp hd fuel cs x h => ?_⟩
  obtain ⟨y0, y1, n, _, hl, k0, k1⟩ := Go.ChangeShapes.trod_struct2 hu h
  rw [o0, h0.1, List.drop_zero] at k0
  rw [o1, h1.1] at k1
  obtain ⟨u0, e0, w0⟩ := h0.2 enc w sp hd n _ _ k0
  obtain ⟨u1, e1, w1⟩ := h1.2 enc w sp hd n _ _ k1
  have hd1 : (cs.drop a.sz).take b.sz = cs.drop a.sz := List.take_of_length_le (by rw [List.length_drop]; omega)
  rw [hd1] at e1
  exact ⟨(u0, u1), ⟨_, _, (List.take_append_drop a.sz cs).symm, e0, e1⟩, w0, w1⟩
theorem opens_iso {α β : Type} {d : Kd α} {t : TypeId} {good : α → Prop} (ho : Opens d t good) (f : β → α) (inv : α → β) (hi : ∀ x, f (inv x) = x) : Opens (Kd.iso d f) t (fun y => good (f y)) := by
  refine ⟨ho.1, fun enc w sp hd fuel cs x h => ?_⟩
  obtain ⟨y, h1, h2⟩ := ho.2 enc w sp hd fuel cs x h
  refine ⟨inv y, ?_, by show good (f (inv y)); rw [hi]; exact h2⟩
  show d.K w (f (inv y)) cs
  rw [hi]; exact h1
theorem Opens.imp {α : Type} {d : Kd α} {t : TypeId} {good good' : α → Prop} (h : Opens d t good) (hg : ∀ y, good y → good' y) : Opens d t good' :=
  ⟨h.1, fun enc w sp hd fuel cs x hx => by obtain ⟨y, h1, h2⟩ := h.2 enc w sp hd fuel cs x hx; exact ⟨y, h1, hg y h2⟩⟩
theorem opens3 : Opens (Kd.int .i64) 3 (fun n => (Lit.int .i64 n).wf = true) := opens_int Try.underlying3 (by kernel_rfl)
theorem opens22 : Opens (Kd.slice 3 (Kd.int .i64)) 22 (fun ys => ∀ y ∈ ys, (Lit.int .i64 y).wf = true) := opens_slice Try.underlying22 (by kernel_rfl) opens3
theorem opens64 : Opens k64 64 (fun _ => True) := (opens_iso (opens_struct2 Try.underlying64 (by kernel_rfl) rfl rfl opens3 opens3) _ (fun y : Int × Int => (⟨y.1, y.2⟩ : S64)) (fun _ => rfl)).imp (fun _ _ => trivial)
theorem opens99 : Opens (Kd.slice 64 k64) 99 (fun _ => True) := (opens_slice (by kernel_rfl) (by kernel_rfl) opens64).imp (fun _ _ => trivial)
theorem opens101 : Opens k101 101 (fun _ => True) := (opens_iso (opens_struct2 Try.underlying101 (by kernel_rfl) rfl rfl opens64 opens99) _ (fun y : S64 × List S64 => (⟨y.1, y.2⟩ : S101)) (fun _ => rfl)).imp (fun _ _ => trivial)
theorem opens52 : Opens (Kd.slice 101 k101) 52 (fun _ => True) := (opens_slice (by kernel_rfl) (by kernel_rfl) opens101).imp (fun _ _ => trivial)
theorem opens4 : Opens Kd.bool 4 (fun _ => True) := opens_bool Try.underlying4 (by kernel_rfl)
theorem opens54 : Opens k54 54 (fun _ => True) := (opens_iso (opens_struct2 Try.underlying54 (by kernel_rfl) rfl rfl opens52 opens4) _ (fun y : List S101 × Bool => (⟨y.1, y.2⟩ : S54)) (fun _ => rfl)).imp (fun _ _ => trivial)
theorem opens23 : Opens (Kd.slice 54 k54) 23 (fun _ => True) := (opens_slice (by kernel_rfl) (by kernel_rfl) opens54).imp (fun _ _ => trivial)
end Go.Proofs.Ytiephlhohgohcaa.PAll
