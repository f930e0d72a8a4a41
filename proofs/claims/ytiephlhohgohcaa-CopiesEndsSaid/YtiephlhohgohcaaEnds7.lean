/- Part 7 of what the row rests on: each text as it stands among the working texts, cut to what is used; those of the print of the kit as a program printed them. -/
import Derived.Test.YtiephlhohgohcaaEnds5
import Derived.Lib.SliceRun
set_option linter.unusedVariables false
set_option linter.unusedSimpArgs false
namespace Go.Proofs.Ytiephlhohgohcaa.PAll
open Go.RowKit Go.Proofs.YtiephlhohgohcaaW.PrintWords Go.Proofs.YtiephlhohgohcaaW.PrintLast Go.Proofs.YtiephlhohgohcaaW.PrintMore
attribute [local go_sem] max2_int min2_int max_two min_two max_three min_three max_four min_four
set_option linter.unusedVariables false
set_option linter.unusedSimpArgs false
theorem R_empty {α : Type} (d : Kd α) (e : Nat) (w : World) : d.R e (w.alloc (.cells #[] e)) w.heap.size (fun _ => True) (.slice (some ⟨w.heap.size, 0, none⟩) 0 0) [] :=
  ⟨fun _ _ => trivial, [], ⟨by simp, .inr ⟨w.heap.size, 0, #[], rfl, Nat.le_refl _, blk_new _ _, Nat.le_refl _, Nat.zero_le _, by simp, by simp⟩⟩, Reps.none _ _⟩
set_option maxRecDepth 100000 in
set_option maxHeartbeats 1000000 in
theorem clone105 (a : Addr) (c : Nat) (xs : List Int) (w : World) (h : Kd.C (Kd.int .i64) w (some a) xs.length xs) (hl : xs.length ≤ 1000000) :
    Calls Try.prog 105 #[.slice (some a) xs.length c] w fun e w' => ∃ v, e = .returned v ∧ Kd.R (Kd.int .i64) 3 w' w.heap.size (fun _ => True) v xs ∧ Below w.heap.size w w' := by
  have hb1 : Below w.heap.size w (w.alloc (.cells #[] 3)) := (Below.refl _ w).alloc (Nat.le_refl _) _
  have H := Aside0.mk (Kd.C_below h hb1)
  have HB1 := Aside0.mk hb1
  have q22 : ∀ W : World, (binOp .eql 22 (.slice (some a) xs.length c) (.slice none 0 0)).run Try.prog W = .ok (.bool false) W := fun W => Lib.run_eql_slice_nil W _ _ (some a) xs.length c 0 0 Try.underlying22
  clear h hb1
  go_enter Try.func105, Try.ntmps105
  go_wp2_with (at_builtin; refine Kd.R_append_row (Value.int .i64) (0 : Int) (w0 := w) w.heap.size rfl (.tmp 5) (.tmp 6) 22 3 (.int .i64 0) 8 rfl Try.underlying22 info3 rfl (by decide) (.slice (some ⟨w.heap.size, 0, none⟩) 0 0) [] xs (some a) xs.length c (fun _ => True) rfl rfl (fun _ _ => trivial) (R_empty (Kd.int .i64) 3 w) H.out HB1.out (by simp) (by simp; omega) ?_; intro v1 w1 hr hb hg hat; have HR := Aside0.mk hr; have HB := Aside0.mk hb; clear hr hb hg hat)
  go_ret
  exact ⟨_, rfl, HR.out, HB.out⟩
set_option maxRecDepth 100000 in
set_option maxHeartbeats 1000000 in
theorem clone105_nil (w : World) : Calls Try.prog 105 #[.slice none 0 0] w fun e w' => e = .returned (.slice none 0 0) ∧ w' = w := by
  have q22 : ∀ W : World, (binOp .eql 22 (.slice none 0 0) (.slice none 0 0)).run Try.prog W = .ok (.bool true) W := fun W => Lib.run_eql_slice_nil W _ _ none 0 0 0 0 Try.underlying22
  go_enter Try.func105, Try.ntmps105
  go_wp2_with fail
  go_ret
  exact ⟨rfl, rfl⟩
/-- What is one's own is cloned. -/
theorem clone105_R {v : Value} {ok : Nat → Prop} {base : Nat} (xs : List Int) (w : World) (h : Kd.R (Kd.int .i64) 3 w base ok v xs) (hl : xs.length ≤ 1000000) :
    Calls Try.prog 105 #[v] w fun e w' => ∃ v', e = .returned v' ∧ Kd.R (Kd.int .i64) 3 w' w.heap.size (fun _ => True) v' xs ∧ Below w.heap.size w w' := by
  obtain ⟨A, c, rfl, hlc, hC⟩ := Kd.R_reads h
  cases A with
  | some a => exact clone105 a c xs w hC hl
  | none =>
    obtain ⟨inner, _, ho⟩ := Kd.R_own h
    rcases ho with ⟨he, h0⟩ | ⟨g, cap, cur, he, _⟩
    · injection he with _ h1 h2
      have hx : xs = [] := List.length_eq_zero_iff.1 h1
      subst hx
      subst h2
      refine (clone105_nil w).mono ?_
      rintro e w' ⟨rfl, rfl⟩
      exact ⟨_, rfl, Kd.R_nil _ _ _ _ _, Below.refl _ _⟩
    · injection he with h1; cases h1
set_option maxRecDepth 100000 in
set_option maxHeartbeats 1000000 in
theorem clone110 (a : Addr) (c : Nat) (xs : List S87) (w : World) (h : Kd.C k87 w (some a) xs.length xs) (hl : xs.length ≤ 1000000) :
    Calls Try.prog 110 #[.slice (some a) xs.length c] w fun e w' => ∃ v, e = .returned v ∧ Kd.R k87 87 w' w.heap.size (fun _ => True) v xs ∧ Below w.heap.size w w' := by
  have hb1 : Below w.heap.size w (w.alloc (.cells #[] 87)) := (Below.refl _ w).alloc (Nat.le_refl _) _
  have H := Aside0.mk (Kd.C_below h hb1)
  have HB1 := Aside0.mk hb1
  have q22 : ∀ W : World, (binOp .eql 36 (.slice (some a) xs.length c) (.slice none 0 0)).run Try.prog W = .ok (.bool false) W := fun W => Lib.run_eql_slice_nil W _ _ (some a) xs.length c 0 0 Try.underlying36
  clear h hb1
  go_enter Try.func110, Try.ntmps110
  go_wp2_with (at_builtin; refine Kd.R_append_rows k87 (Rr := k87.K (w.alloc (.cells #[] 87))) (w0 := w) w.heap.size rfl (.tmp 5) (.tmp 6) 36 87 (.agg #[.int .i64 0, .int .i64 0, .bool false]) 24 rfl Try.underlying36 info87 rfl (by decide) (by omega) (.slice (some ⟨w.heap.size, 0, none⟩) 0 0) [] xs (some a) xs.length c (fun _ => True) (fun _ => False) rfl rfl (R_empty k87 87 w) H.out (fun x cs hx => by rw [k87_open hx]; exact k87_mkM _ _ _ x) (fun _ hk => hk.elim) (fun _ _ => trivial) HB1.out (by simp) (by simp; omega) ?_; intro v1 w1 hr hb hg hat; have HR := Aside0.mk hr; have HB := Aside0.mk hb; clear hr hb hg hat)
  go_ret
  exact ⟨_, rfl, HR.out, HB.out⟩
set_option maxRecDepth 100000 in
set_option maxHeartbeats 1000000 in
theorem clone110_nil (w : World) : Calls Try.prog 110 #[.slice none 0 0] w fun e w' => e = .returned (.slice none 0 0) ∧ w' = w := by
  have q22 : ∀ W : World, (binOp .eql 36 (.slice none 0 0) (.slice none 0 0)).run Try.prog W = .ok (.bool true) W := fun W => Lib.run_eql_slice_nil W _ _ none 0 0 0 0 Try.underlying36
  go_enter Try.func110, Try.ntmps110
  go_wp2_with fail
  go_ret
  exact ⟨rfl, rfl⟩
/-- What is one's own is cloned. -/
theorem clone110_R {v : Value} {ok : Nat → Prop} {base : Nat} (xs : List S87) (w : World) (h : Kd.R k87 87 w base ok v xs) (hl : xs.length ≤ 1000000) :
    Calls Try.prog 110 #[v] w fun e w' => ∃ v', e = .returned v' ∧ Kd.R k87 87 w' w.heap.size (fun _ => True) v' xs ∧ Below w.heap.size w w' := by
  obtain ⟨A, c, rfl, hlc, hC⟩ := Kd.R_reads h
  cases A with
  | some a => exact clone110 a c xs w hC hl
  | none =>
    obtain ⟨inner, _, ho⟩ := Kd.R_own h
    rcases ho with ⟨he, h0⟩ | ⟨g, cap, cur, he, _⟩
    · injection he with _ h1 h2
      have hx : xs = [] := List.length_eq_zero_iff.1 h1
      subst hx
      subst h2
      refine (clone110_nil w).mono ?_
      rintro e w' ⟨rfl, rfl⟩
      exact ⟨_, rfl, Kd.R_nil _ _ _ _ _, Below.refl _ _⟩
    · injection he with h1; cases h1
end Go.Proofs.Ytiephlhohgohcaa.PAll
