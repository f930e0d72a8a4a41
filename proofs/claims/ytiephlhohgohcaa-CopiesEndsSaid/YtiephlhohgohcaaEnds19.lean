/- Part 19 of what the row rests on: each text as it stands among the working texts, cut to what is used; those of the print of the kit as a program printed them. -/
import Derived.Test.YtiephlhohgohcaaEnds18
import Derived.Test.YtiephlhohgohcaaEnds11
import Derived.Test.YtiephlhohgohcaaEnds13
import Derived.Test.YtiephlhohgohcaaEnds6
import Derived.Test.YtiephlhohgohcaaEnds17
import Derived.Test.YtiephlhohgohcaaEnds15
import Derived.Test.YtiephlhohgohcaaEnds5
import Derived.Test.YtiephlhohgohcaaEnds16
import Derived.Laws.Tables
import Derived.BigQuiet
set_option linter.unusedVariables false
set_option linter.unusedSimpArgs false
namespace Go.Proofs.Ytiephlhohgohcaa.PAll
open Go.RowKit Go.Proofs.YtiephlhohgohcaaW.PrintWords Go.Proofs.YtiephlhohgohcaaW.PrintLast Go.Proofs.YtiephlhohgohcaaW.PrintMore
attribute [local go_sem] max2_int min2_int max_two min_two max_three min_three max_four min_four
set_option linter.unusedVariables false
set_option linter.unusedSimpArgs false
/-- The cells of a set of hours, 0 to 101. -/
def rcells (f : Int → Bool) : Array Value := ((List.range 102).map (fun j : Nat => Value.bool (f (j : Int)))).toArray
theorem rcells_size (f : Int → Bool) : (rcells f).size = 102 := by simp [rcells]
theorem rcells_at (f : Int → Bool) {j : Nat} (hj : j < 102) : (rcells f)[j]? = some (.bool (f (j : Int))) := by simp [rcells, hj]
theorem rcells_set (f : Int → Bool) {j : Nat} (hj : j < 102) : (rcells f).setIfInBounds j (.bool true) = rcells (fun x => f x || x == (j : Int)) := by
  apply Array.ext
  · simp [rcells_size]
  · intro i h1 h2
    rw [rcells_size] at h2
    rw [Array.getElem_setIfInBounds (by rw [rcells_size]; exact h2)]
    simp only [rcells, List.getElem_toArray, List.getElem_map, List.getElem_range]
    by_cases e : j = i
    · subst e; simp
    · rw [if_neg e]
      have : ((i : Int) == (j : Int)) = false := beq_eq_false_iff_ne.2 (by omega)
      rw [this, Bool.or_false]
theorem rcells_congr {f g : Int → Bool} (h : ∀ j : Nat, j < 102 → f (j : Int) = g (j : Int)) : rcells f = rcells g := by
  unfold rcells
  congr 1
  apply List.map_congr_left
  intro j hj
  rw [h j (List.mem_range.1 hj)]
/-- A block that is the set f. -/
def RSet (W : World) (b : Nat) (f : Int → Bool) : Prop := W.heap[b]? = some (.cells (rcells f) 50 (0, 0))
theorem RSet.cell {W : World} {b : Nat} {f : Int → Bool} (h : RSet W b f) {j : Nat} (hj : j < 102) : W.cell? ⟨b, j, none⟩ = some (.bool (f (j : Int))) := (blk_cell h j).trans (rcells_at f hj)
theorem RSet.frozen {W : World} {b : Nat} {f : Int → Bool} (h : RSet W b f) (j : Nat) : W.frozen? ⟨b, j, none⟩ = false := blk_frozen h j
theorem RSet.below {W W' : World} {b : Nat} {f : Int → Bool} (h : RSet W b f) (hb : Below W.heap.size W W') : RSet W' b f := blk_below h hb
theorem RSet.set {W : World} {b : Nat} {f : Int → Bool} (h : RSet W b f) {j : Nat} (hj : j < 102) : RSet (W.setCell ⟨b, j, none⟩ (.bool true)) b (fun x => f x || x == (j : Int)) := by
  have := blk_set h j (.bool true)
  rw [rcells_set f hj] at this
  exact this
theorem RSet.far {W : World} {b : Nat} {f : Int → Bool} (h : RSet W b f) {p : Addr} (hp : b ≠ p.block) (u : Value) : RSet (W.setCell p u) b f := blk_far h hp u
end Go.Proofs.Ytiephlhohgohcaa.PAll
namespace Go.Proofs.Ytiephlhohgohcaa.PAll
open Go.RowKit Go.Proofs.YtiephlhohgohcaaW.PrintWords Go.Proofs.YtiephlhohgohcaaW.PrintLast Go.Proofs.YtiephlhohgohcaaW.PrintMore
attribute [local go_sem] max2_int min2_int max_two min_two max_three min_three max_four min_four
set_option linter.unusedVariables false
set_option linter.unusedSimpArgs false
theorem heap_setRow_other (w : World) (g k : Nat) (cs : Array Value) (h : k ≠ g) : (w.setRow g cs).heap[k]? = w.heap[k]? := by
  simp only [World.setRow, Array.getElem?_modify]
  rw [if_neg (by omega)]
theorem below_setRow {B : Nat} {a w : World} {g : Nat} (h : Below B a w) (hg : B ≤ g) (cs : Array Value) : Below B a (w.setRow g cs) :=
  h.trans ⟨rfl, rfl, rfl, by simp, fun k hk => heap_setRow_other w g k cs (by omega)⟩
end Go.Proofs.Ytiephlhohgohcaa.PAll
namespace Go.Proofs.Ytiephlhohgohcaa.PAll
open Go.RowKit Go.Proofs.YtiephlhohgohcaaW.PrintWords Go.Proofs.YtiephlhohgohcaaW.PrintLast Go.Proofs.YtiephlhohgohcaaW.PrintMore
attribute [local go_sem] max2_int min2_int max_two min_two max_three min_three max_four min_four
set_option linter.unusedVariables false
set_option linter.unusedSimpArgs false
theorem in30 (a lo hi : Int) (w : World) : Calls Try.prog 30 #[.int .i64 a, .int .i64 lo, .int .i64 hi] w fun e w' => e = .returned (.bool (inB lo hi a)) ∧ Below w.heap.size w w' :=
  (glisterref05_In.calls a lo hi _ w (in_f a lo hi)).mono fun _ _ h => ⟨h.1, by obtain ⟨n, rfl⟩ := h.2.out; exact pw_below_drewN (Below.refl _ _) n⟩
end Go.Proofs.Ytiephlhohgohcaa.PAll
namespace Go.Proofs.Ytiephlhohgohcaa.PAll
open Go.RowKit Go.Proofs.YtiephlhohgohcaaW.PrintWords Go.Proofs.YtiephlhohgohcaaW.PrintLast Go.Proofs.YtiephlhohgohcaaW.PrintMore
attribute [local go_sem] max2_int min2_int max_two min_two max_three min_three max_four min_four
set_option linter.unusedVariables false
set_option linter.unusedSimpArgs false
theorem rcells_put (f : Int → Bool) {j : Nat} (hj : j < 102) (v : Bool) : (rcells f).setIfInBounds j (.bool v) = rcells (fun x => if x = (j : Int) then v else f x) := by
  apply Array.ext
  · simp [rcells_size]
  · intro i h1 h2
    rw [rcells_size] at h2
    rw [Array.getElem_setIfInBounds (by rw [rcells_size]; exact h2)]
    simp only [rcells, List.getElem_toArray, List.getElem_map, List.getElem_range]
    by_cases e : j = i
    · subst e; simp
    · rw [if_neg e, if_neg (by omega)]
theorem RSet.put {W : World} {b : Nat} {f : Int → Bool} (h : RSet W b f) {j : Nat} (hj : j < 102) (v : Bool) : RSet (W.setCell ⟨b, j, none⟩ (.bool v)) b (fun x => if x = (j : Int) then v else f x) := by
  have := blk_set h j (.bool v)
  rw [rcells_put f hj v] at this
  exact this
theorem RSet.congr {W : World} {b : Nat} {f g : Int → Bool} (h : RSet W b f) (hfg : ∀ j : Nat, j < 102 → f (j : Int) = g (j : Int)) : RSet W b g := by
  unfold RSet at h ⊢
  rw [h, rcells_congr hfg]
theorem BoxAt.far {w W : World} {A0 : Option Addr} {c0 n0 : Nat} {A1 : Option Addr} {c1 n1 : Nat} {pat : Int} (h : BoxAt w W A0 c0 n0 A1 c1 n1 pat) {p : Addr} (hp : w.heap.size < p.block) (u : Value) : BoxAt w (W.setCell p u) A0 c0 n0 A1 c1 n1 pat :=
  ⟨h.below.setCell (by omega) u, blk_far h.box (by omega) u⟩
theorem BoxAt.row {w W : World} {A0 : Option Addr} {c0 n0 : Nat} {A1 : Option Addr} {c1 n1 : Nat} {pat : Int} (h : BoxAt w W A0 c0 n0 A1 c1 n1 pat) {g : Nat} (hg : w.heap.size < g) (cs : Array Value) : BoxAt w (W.setRow g cs) A0 c0 n0 A1 c1 n1 pat :=
  ⟨below_setRow h.below (by omega) cs, (heap_setRow_other W g _ cs (by omega)).trans h.box⟩
theorem RSet.row {W : World} {b : Nat} {f : Int → Bool} (h : RSet W b f) {g : Nat} (hg : b ≠ g) (cs : Array Value) : RSet (W.setRow g cs) b f := (heap_setRow_other W g b cs hg).trans h
end Go.Proofs.Ytiephlhohgohcaa.PAll
namespace Go.Proofs.Ytiephlhohgohcaa.PAll
open Go.RowKit Go.Proofs.YtiephlhohgohcaaW.PrintWords Go.Proofs.YtiephlhohgohcaaW.PrintLast Go.Proofs.YtiephlhohgohcaaW.PrintMore
attribute [local go_sem] max2_int min2_int max_two min_two max_three min_three max_four min_four
set_option linter.unusedVariables false
set_option linter.unusedSimpArgs false
def loK (f : Int → Bool) : Nat → Int
  | 0 => 102
  | k + 1 => if f (k : Int) = true then min (loK f k) (k : Int) else loK f k
def hiK (f : Int → Bool) : Nat → Int
  | 0 => -1
  | k + 1 => if f (k : Int) = true then (k : Int) else hiK f k
end Go.Proofs.Ytiephlhohgohcaa.PAll
namespace Go.Proofs.Ytiephlhohgohcaa.PAll
open Go.RowKit Go.Proofs.YtiephlhohgohcaaW.PrintWords Go.Proofs.YtiephlhohgohcaaW.PrintLast Go.Proofs.YtiephlhohgohcaaW.PrintMore
set_option linter.unusedVariables false
set_option linter.unusedSimpArgs false
theorem loK_spec (f : Int → Bool) : ∀ k : Nat, k ≤ 102 → (∀ y : Nat, y < k → f y = true → loK f k ≤ y) ∧ ((loK f k = 102 ∧ ∀ y : Nat, y < k → f y = false) ∨ ∃ y : Nat, y < k ∧ f y = true ∧ loK f k = y)
  | 0, _ => ⟨fun y hy => by omega, .inl ⟨rfl, fun y hy => by omega⟩⟩
  | k + 1, hk => by
    obtain ⟨h1, h2⟩ := loK_spec f k (by omega)
    rw [loK]
    cases hf : f (k : Int) with
    | true =>
      rw [if_pos rfl]
      refine ⟨fun y hy hy2 => ?_, .inr ?_⟩
      · by_cases e : y = k
        · subst e; omega
        · have := h1 y (by omega) hy2; omega
      · rcases h2 with ⟨h2, _⟩ | ⟨y, hy, hy2, h2⟩
        · exact ⟨k, by omega, hf, by omega⟩
        · have := h1 y hy hy2
          exact ⟨y, by omega, hy2, by omega⟩
    | false =>
      rw [if_neg (by simp)]
      refine ⟨fun y hy hy2 => ?_, ?_⟩
      · by_cases e : y = k
        · subst e; rw [hf] at hy2; cases hy2
        · exact h1 y (by omega) hy2
      · rcases h2 with ⟨h2, h3⟩ | ⟨y, hy, hy2, h2⟩
        · refine .inl ⟨h2, fun y hy => ?_⟩
          by_cases e : y = k
          · subst e; exact hf
          · exact h3 y (by omega)
        · exact .inr ⟨y, by omega, hy2, h2⟩
theorem hiK_spec (f : Int → Bool) : ∀ k : Nat, (∀ y : Nat, y < k → f y = true → (y : Int) ≤ hiK f k) ∧ ((hiK f k = -1 ∧ ∀ y : Nat, y < k → f y = false) ∨ ∃ y : Nat, y < k ∧ f y = true ∧ hiK f k = y)
  | 0 => ⟨fun y hy => by omega, .inl ⟨rfl, fun y hy => by omega⟩⟩
  | k + 1 => by
    obtain ⟨h1, h2⟩ := hiK_spec f k
    rw [hiK]
    cases hf : f (k : Int) with
    | true =>
      rw [if_pos rfl]
      exact ⟨fun y hy hy2 => by omega, .inr ⟨k, by omega, hf, rfl⟩⟩
    | false =>
      rw [if_neg (by simp)]
      refine ⟨fun y hy hy2 => ?_, ?_⟩
      · by_cases e : y = k
        · subst e; rw [hf] at hy2; cases hy2
        · exact h1 y (by omega) hy2
      · rcases h2 with ⟨h2, h3⟩ | ⟨y, hy, hy2, h2⟩
        · refine .inl ⟨h2, fun y hy => ?_⟩
          by_cases e : y = k
          · subst e; exact hf
          · exact h3 y (by omega)
        · exact .inr ⟨y, by omega, hy2, h2⟩
/-- The least and the greatest number of a set. -/
def EndsOf (f : Int → Bool) (a b : Int) : Prop := 0 ≤ a ∧ b ≤ 101 ∧ f a = true ∧ f b = true ∧ ∀ y : Nat, f y = true → y ≤ 101 → a ≤ y ∧ (y : Int) ≤ b
theorem EndsOf.lo {f : Int → Bool} {a b : Int} (h : EndsOf f a b) (ha : a ≤ 101) : loK f 102 = a := by
  obtain ⟨h0, h1, h2, h3, h4⟩ := h
  obtain ⟨s1, s2⟩ := loK_spec f 102 (by omega)
  have e : ((a.toNat : Nat) : Int) = a := Int.toNat_of_nonneg h0
  have := s1 a.toNat (by omega) (by rw [e]; exact h2)
  rcases s2 with ⟨s2, _⟩ | ⟨y, hy, hy2, s2⟩
  · omega
  · have := h4 y hy2 (by omega); omega
theorem EndsOf.hi {f : Int → Bool} {a b : Int} (h : EndsOf f a b) (hb : 0 ≤ b) : hiK f 102 = b := by
  obtain ⟨h0, h1, h2, h3, h4⟩ := h
  obtain ⟨s1, s2⟩ := hiK_spec f 102
  have e : ((b.toNat : Nat) : Int) = b := Int.toNat_of_nonneg hb
  have := s1 b.toNat (by omega) (by rw [e]; exact h3)
  rcases s2 with ⟨s2, _⟩ | ⟨y, hy, hy2, s2⟩
  · omega
  · have := h4 y hy2 (by omega); omega
theorem early_spec (s : Int) : ∀ (rs : List S122) (n : Int), (rs.foldl (fun n r => min n (firstOf (setsOf r.f0 s))) n ≤ n) ∧ (∀ r ∈ rs, rs.foldl (fun n r => min n (firstOf (setsOf r.f0 s))) n ≤ firstOf (setsOf r.f0 s)) ∧
    (rs.foldl (fun n r => min n (firstOf (setsOf r.f0 s))) n = n ∨ ∃ r ∈ rs, rs.foldl (fun n r => min n (firstOf (setsOf r.f0 s))) n = firstOf (setsOf r.f0 s))
  | [], n => ⟨Int.le_refl _, fun r hr => (List.not_mem_nil hr).elim, .inl rfl⟩
  | a :: rs, n => by
    obtain ⟨h1, h2, h3⟩ := early_spec s rs (min n (firstOf (setsOf a.f0 s)))
    rw [List.foldl_cons]
    refine ⟨by omega, fun r hr => ?_, ?_⟩
    · rcases List.mem_cons.1 hr with rfl | hr
      · omega
      · exact h2 r hr
    · rcases h3 with h3 | ⟨r, hr, h3⟩
      · by_cases e : n ≤ firstOf (setsOf a.f0 s)
        · exact .inl (by omega)
        · exact .inr ⟨a, List.mem_cons_self, by omega⟩
      · exact .inr ⟨r, List.mem_cons_of_mem _ hr, h3⟩
theorem can_ends {rs : List S122} {s : Int} (h : SetsOk rs s) : EndsOf (comL rs s) (earlyL rs s) (lateL rs s) ∧ earlyL rs s ≤ 101 ∧ 0 ≤ lateL rs s := by
  obtain ⟨e1, e2, e3⟩ := early_spec s rs 101
  have e0 : 0 ≤ earlyL rs s := by
    rcases e3 with e3 | ⟨r, hr, e3⟩
    · rw [earlyL, e3]; omega
    · have := (mem_hoursOf.1 (firstOf_mem (h r hr).1)).1
      rw [earlyL, e3]; exact this
  have hl := can_late' h
  have hlm := lateL_le rs s
  have nat : ∀ y : Int, 0 ≤ y → y ≤ 101 → comL rs s y = canL rs s y (y == 101) := fun y h0 h1 => by
    have := comL_can rs h y.toNat (by omega)
    rw [Int.toNat_of_nonneg h0] at this
    exact this
  refine ⟨⟨e0, hlm, ?_, ?_, fun y hy hy1 => ?_⟩, e1, hl.1⟩
  · rw [nat _ e0 e1, canL_iff]
    refine ⟨fun r hr => .inr ?_, ?_⟩
    · have a1 := e2 r hr
      have a2 := firstOf_le (lastOf_mem (h r hr).1)
      exact Int.le_trans a1 a2
    · rcases e3 with e3 | ⟨r, hr, e3⟩
      · exact .inl e3
      · have a1 := mem_hoursOf.1 (firstOf_mem (h r hr).1)
        have a2 := (h r hr).2 _ a1.2.2
        refine .inr ⟨by show earlyL rs s < 101; rw [earlyL, e3]; omega, r, hr, ?_⟩
        rw [earlyL, e3]; exact a1.2.2
  · rw [nat _ hl.1 hlm]; exact hl.2
  · rw [nat _ (by omega) (by omega), canL_iff] at hy
    obtain ⟨c1, c2⟩ := hy
    constructor
    · rcases c2 with c2 | ⟨c2, r, hr, c3⟩
      · exact Int.le_trans e1 (by omega)
      · have a1 := e2 r hr
        have a2 := firstOf_le (x := (y : Int)) (mem_hoursOf.2 ⟨by omega, by omega, c3⟩)
        exact Int.le_trans a1 a2
    · obtain ⟨l1, l2⟩ := lateF_mem s rs 101
      rw [← lateL_F] at l1 l2
      rcases l2 with l2 | ⟨r, hr, hf, l2⟩
      · omega
      · rcases c1 r hr with c | c
        · rw [hf] at c; cases c
        · omega
end Go.Proofs.Ytiephlhohgohcaa.PAll
namespace Go.Proofs.Ytiephlhohgohcaa.PAll
open Go.RowKit Go.Proofs.YtiephlhohgohcaaW.PrintWords Go.Proofs.YtiephlhohgohcaaW.PrintLast Go.Proofs.YtiephlhohgohcaaW.PrintMore
set_option linter.unusedVariables false
set_option linter.unusedSimpArgs false
theorem u8_of {a : Int} (h : (Lit.int .u8 a).wf = true) : 0 ≤ a ∧ a ≤ 255 := by
  have h1 : IntKind.u8.min = 0 := by decide
  have h2 : IntKind.u8.max = 255 := by decide
  simp [Lit.wf, h1, h2] at h
  omega
end Go.Proofs.Ytiephlhohgohcaa.PAll
namespace Go.Proofs.Ytiephlhohgohcaa.PAll
open Go.RowKit Go.Proofs.YtiephlhohgohcaaW.PrintWords Go.Proofs.YtiephlhohgohcaaW.PrintLast Go.Proofs.YtiephlhohgohcaaW.PrintMore
attribute [local go_sem] max2_int min2_int max_two min_two max_three min_three max_four min_four
set_option linter.unusedVariables false
set_option linter.unusedSimpArgs false
set_option maxRecDepth 100000 in
set_option maxHeartbeats 4000000 in
theorem ready54 (A0 : Option Addr) (c0 : Nat) (sends : List Int) (A1 : Option Addr) (c1 : Nat) (routes : List S54) (pat : Int) (rs : List S122) (w : World) (hrs : rs = routes.map toX) (h : PostAt w A0 c0 sends A1 c1 routes) :
    Calls Try.prog 54 #[.agg #[.slice A0 sends.length c0, .slice A1 routes.length c1, .int .i64 pat]] w fun e w' => e = .returned (.bool (thinB sends routes && check sends rs pat == 0)) ∧ Below w.heap.size w w' := by
  have HRS := Aside0.mk hrs
  clear hrs
  obtain ⟨R, hR⟩ : ∃ R, (thinB sends routes && check sends rs pat == 0) = R := ⟨_, rfl⟩
  have HRR := Aside0.mk hR
  rw [hR]
  clear hR
  obtain ⟨W1, hW1⟩ : ∃ W1, W1 = w.alloc (.cells #[.slice A0 sends.length c0, .slice A1 routes.length c1, .int .i64 pat] 25) := ⟨_, rfl⟩
  have hx := BoxAt.start w A0 c0 sends.length A1 c1 routes.length pat
  rw [← hW1] at hx
  have HX := Aside0.mk hx
  have HP := Aside0.mk h
  have x0 := hx.x0
  have x1 := hx.x1
  have x2 := hx.x2
  have HW1 := Aside0.mk hW1
  clear h hx hW1
  go_enter Try.func54, Try.ntmps54
  go_wp2_with fail
  rw [← HW1.out]
  clear HW1
  refine (thin18 pat (HP.out.below HX.out.below)).mono ?_
  rintro e w2 ⟨rfl, hb⟩
  replace HX := Aside0.mk (HX.out.later hb)
  clear hb x0 x1 x2
  cases hth : thinB sends routes with
  | false =>
    have HTH := Aside0.mk hth
    clear hth
    go_wp2_with fail
    go_ret
    exact ⟨by rw [← HRR.out, HTH.out]; rfl, HX.out.below⟩
  | true =>
    have HTH := Aside0.mk hth
    clear hth
    have x0 := HX.out.x0
    have x1 := HX.out.x1
    have x2 := HX.out.x2
    go_wp2_with fail
    refine (fault25 pat HRS.out (HP.out.below HX.out.below) (thin_spec HTH.out).1).mono ?_
    rintro e w3 ⟨rfl, hb⟩
    replace HX := Aside0.mk (HX.out.later hb)
    clear hb x0 x1 x2
    have HCC : Aside0 ((check sends rs pat == 0) = R) := ⟨by have := HRR.out; rw [HTH.out, Bool.true_and] at this; exact this⟩
    generalize check sends rs pat = ck at HCC ⊢
    by_cases hck : ck = 0
    · subst hck
      go_wp2_with fail
      go_ret
      exact ⟨by rw [← HCC.out]; rfl, HX.out.below⟩
    · have hcd : decide (ck = 0) = false := decide_eq_false hck
      have HCB := Aside0.mk (show (ck == 0) = false from beq_eq_false_iff_ne.2 hck)
      go_wp2_with fail
      go_ret
      exact ⟨by rw [← HCC.out, HCB.out]; rfl, HX.out.below⟩
end Go.Proofs.Ytiephlhohgohcaa.PAll
namespace Go.Proofs.Ytiephlhohgohcaa.PAll
open Go.RowKit Go.Proofs.YtiephlhohgohcaaW.PrintWords Go.Proofs.YtiephlhohgohcaaW.PrintLast Go.Proofs.YtiephlhohgohcaaW.PrintMore
set_option linter.unusedVariables false
set_option linter.unusedSimpArgs false
theorem finF_le {F G : List S122 → Int → Int} {rs rs' : List S122} {pat pat' : Int} : ∀ (ss : List Int) (a b : Int), a ≤ b → (∀ s ∈ ss, min (F rs s) (s + pat) ≤ min (G rs' s) (s + pat')) → finF F rs pat a ss ≤ finF G rs' pat' b ss
  | [], a, b, h, _ => h
  | s :: ss, a, b, h, hs => by
    have h1 := hs s List.mem_cons_self
    rw [finF, finF]
    exact finF_le ss _ _ (by omega) (fun t ht => hs t (List.mem_cons_of_mem _ ht))
end Go.Proofs.Ytiephlhohgohcaa.PAll
namespace Go.Proofs.Ytiephlhohgohcaa.PAll
open Go.RowKit Go.Proofs.YtiephlhohgohcaaW.PrintWords Go.Proofs.YtiephlhohgohcaaW.PrintLast Go.Proofs.YtiephlhohgohcaaW.PrintMore
set_option linter.unusedVariables false
set_option linter.unusedSimpArgs false
theorem srchL_some {rs : List S122} {pat : Int} (l : List S87) (s : Int) (ss : List Int) (n f : Int) : (srchL rs pat l (s :: ss) n f).isSome = true ↔ ∃ h : Nat, h < 102 ∧ goodB rs pat l n f s (h : Int) = true ∧ (srchL rs pat l ss (n + 1) (recvE n f h (s + pat)).f1).isSome = true := by
  rw [srchL_cons, List.findSome?_isSome_iff]
  constructor
  · rintro ⟨h, hh, h1⟩
    refine ⟨h, List.mem_range.1 hh, ?_⟩
    rw [tryL] at h1
    cases hg : goodB rs pat l n f s (h : Int) with
    | true => rw [hg, if_pos rfl] at h1; exact ⟨rfl, by simpa using h1⟩
    | false => rw [hg] at h1; simp at h1
  · rintro ⟨h, hh, h1, h2⟩
    refine ⟨h, List.mem_range.2 hh, ?_⟩
    rw [tryL, if_pos h1]
    simpa using h2
end Go.Proofs.Ytiephlhohgohcaa.PAll
namespace Go.Proofs.Ytiephlhohgohcaa.PAll
open Go.RowKit Go.Proofs.YtiephlhohgohcaaW.PrintWords Go.Proofs.YtiephlhohgohcaaW.PrintLast Go.Proofs.YtiephlhohgohcaaW.PrintMore
set_option linter.unusedVariables false
set_option linter.unusedSimpArgs false
def lexLt : List Int → List Int → Bool
  | x :: a, y :: b => if x ≠ y then decide (x < y) else lexLt a b
  | _, _ => false
def lessB (a b : List Int) : Bool := if a.length = b.length then lexLt a b else decide (a.length < b.length)
theorem lexLt_tot : ∀ a b : List Int, a.length = b.length → a = b ∨ lexLt a b = true ∨ lexLt b a = true
  | [], [], _ => .inl rfl
  | [], y :: b, h => by simp at h
  | x :: a, [], h => by simp at h
  | x :: a, y :: b, h => by
    by_cases e : x = y
    · subst e
      rcases lexLt_tot a b (by simpa using h) with h1 | h1 | h1
      · exact .inl (by rw [h1])
      · exact .inr (.inl (by rw [lexLt, if_neg (by simp)]; exact h1))
      · exact .inr (.inr (by rw [lexLt, if_neg (by simp)]; exact h1))
    · rcases Int.lt_or_gt_of_ne e with h1 | h1
      · exact .inr (.inl (by rw [lexLt, if_pos e]; exact decide_eq_true h1))
      · exact .inr (.inr (by rw [lexLt, if_pos (fun q => e q.symm)]; exact decide_eq_true h1))
theorem lessB_tot (a b : List Int) : a = b ∨ lessB a b = true ∨ lessB b a = true := by
  unfold lessB
  by_cases e : a.length = b.length
  · rw [if_pos e, if_pos e.symm]
    exact lexLt_tot a b e
  · rw [if_neg e, if_neg (fun q => e q.symm)]
    rcases Nat.lt_or_gt_of_ne e with h | h
    · exact .inr (.inl (decide_eq_true h))
    · exact .inr (.inr (decide_eq_true h))
/-- The indexes of the entries that are left out, and the others. -/
def outs : Int → List Bool → List Int
  | _, [] => []
  | n, b :: bs => if b = true then n :: outs (n + 1) bs else outs (n + 1) bs
def keeps {α : Type} : List α → List Bool → List α
  | x :: xs, b :: bs => if b = true then keeps xs bs else x :: keeps xs bs
  | _, _ => []
end Go.Proofs.Ytiephlhohgohcaa.PAll
namespace Go.Proofs.Ytiephlhohgohcaa.PAll
open Go.RowKit Go.Proofs.YtiephlhohgohcaaW.PrintWords Go.Proofs.YtiephlhohgohcaaW.PrintLast Go.Proofs.YtiephlhohgohcaaW.PrintMore
set_option linter.unusedVariables false
set_option linter.unusedSimpArgs false
/-- A smallest set among those without which the others are explained. -/
def Least (E : List Bool → Bool) (n : Nat) (r : List Int) : Prop := (∃ bs : List Bool, bs.length = n ∧ E bs = true ∧ r = outs 0 bs) ∧ ∀ bs : List Bool, bs.length = n → E bs = true → lessB (outs 0 bs) r = false
theorem Least.only {E : List Bool → Bool} {n : Nat} {r q : List Int} (h : Least E n r) (k : Least E n q) : r = q := by
  obtain ⟨⟨a, a1, a2, rfl⟩, a4⟩ := h
  obtain ⟨⟨b, b1, b2, rfl⟩, b4⟩ := k
  rcases lessB_tot (outs 0 a) (outs 0 b) with h | h | h
  · exact h
  · rw [b4 a a1 a2] at h; cases h
  · rw [a4 b b1 b2] at h; cases h
end Go.Proofs.Ytiephlhohgohcaa.PAll
namespace Go.Proofs.Ytiephlhohgohcaa.PAll
open Go.RowKit Go.Proofs.YtiephlhohgohcaaW.PrintWords Go.Proofs.YtiephlhohgohcaaW.PrintLast Go.Proofs.YtiephlhohgohcaaW.PrintMore
set_option linter.unusedVariables false
set_option linter.unusedSimpArgs false
/-- What the copies of a dispatch take, so that it has an hour. -/
def copyT (s h : Int) (r : S122) : List Int := match takesL r.f0 s h with
  | some t => t
  | none => if r.f1 = true then [] else (takesL r.f0 s (lastOf (setsOf r.f0 s))).getD []
def rowT (rs : List S122) (s h : Int) : List (List Int) := rs.map (copyT s h)
def truthL (rs : List S122) : List Int → List Int → List (List (List Int))
  | s :: ss, h :: hs => rowT rs s h :: truthL rs ss hs
  | _, _ => []
section
variable {sends : List Int} {rs : List S122} {pat : Int}
/-- The journal of hours. -/
def runL (pat : Int) : Int → Int → List Int → List Int → List S87
  | n, before, s :: ss, h :: hs => recvE n before h (s + pat) :: runL pat (n + 1) (recvE n before h (s + pat)).f1 ss hs
  | _, _, _, _ => []
/-- Hours that dispatches can have. -/
def CanAll (rs : List S122) : List Int → List Int → Prop
  | s :: ss, h :: hs => canL rs s h (h == 101) = true ∧ CanAll rs ss hs
  | [], [] => True
  | _, _ => False
theorem CanAll.len {rs : List S122} : ∀ {ss hs : List Int}, CanAll rs ss hs → hs.length = ss.length
  | [], [], _ => rfl
  | [], _ :: _, h => h.elim
  | _ :: _, [], h => h.elim
  | s :: ss, h :: hs, hc => by rw [List.length_cons, List.length_cons, hc.2.len]
/-- No entry contradicts a journal. -/
def Agrees (l : List S87) (n : Int) : List S87 → Prop
  | [] => True
  | e :: es => l.any (wrongB n e) = false ∧ Agrees l (n + 1) es
theorem srchL_spec (pat : Int) (l : List S87) : ∀ (ss : List Int) (n b : Int) (hs : List Int), srchL rs pat l ss n b = some hs → CanAll rs ss hs ∧ Agrees l n (runL pat n b ss hs)
  | [], n, b, hs, h => by
    rw [srchL] at h
    cases h
    exact ⟨trivial, trivial⟩
  | s :: ss, n, b, hs, h => by
    rw [srchL] at h
    obtain ⟨k, hk, h1⟩ := List.exists_of_findSome?_eq_some h
    split at h1
    · rename_i hg
      cases h2 : srchL rs pat l ss (n + 1) (recvE n b k (s + pat)).f1 with
      | none => rw [h2] at h1; cases h1
      | some r =>
        rw [h2] at h1
        cases h1
        obtain ⟨i1, i2⟩ := srchL_spec pat l ss _ _ _ h2
        rw [goodB, Bool.and_eq_true] at hg
        exact ⟨⟨hg.1, i1⟩, by simpa using hg.2, i2⟩
    · cases h1
theorem srchL_of (pat : Int) (l : List S87) : ∀ (ss : List Int) (n b : Int) (hs : List Int), CanAll rs ss hs → (∀ h ∈ hs, 0 ≤ h) → Agrees l n (runL pat n b ss hs) → (srchL rs pat l ss n b).isSome = true
  | [], n, b, hs, _, _, _ => rfl
  | s :: ss, n, b, [], h, _, _ => h.elim
  | s :: ss, n, b, h :: hs, hc, h0, ha => by
    rw [srchL_some]
    have hh := h0 h List.mem_cons_self
    have hle : h ≤ 101 := by
      have := (canL_iff.1 hc.1).2
      rcases this with h1 | h1 <;> omega
    have e : ((h.toNat : Nat) : Int) = h := Int.toNat_of_nonneg hh
    refine ⟨h.toNat, by omega, ?_, ?_⟩
    · rw [e, goodB, Bool.and_eq_true]
      exact ⟨hc.1, by rw [runL] at ha; rw [ha.1]; rfl⟩
    · rw [e]
      rw [runL] at ha
      exact srchL_of pat l ss _ _ hs hc.2 (fun x hx => h0 x (List.mem_cons_of_mem _ hx)) ha.2
/-- Agreeing, entry by entry. -/
theorem agrees_iff (l : List S87) : ∀ (j : List S87) (n : Nat), Agrees l (n : Int) j ↔ ∀ x ∈ l, (n : Int) ≤ x.f0 → x.f0 < (n : Int) + j.length → rd_T87 j (x.f0 - n) = x
  | [], n => by
    simp only [Agrees, List.length_nil, true_iff]
    intro x _ h1 h2; omega
  | e :: j, n => by
    rw [Agrees, show (n : Int) + 1 = ((n + 1 : Nat) : Int) by omega, agrees_iff l j (n + 1), List.any_eq_false]
    constructor
    · rintro ⟨h1, h2⟩ x hx h3 h4
      by_cases e1 : x.f0 = (n : Int)
      · have := h1 x hx
        simp only [wrongB, e1, beq_self_eq_true, Bool.true_and, Bool.not_eq_true', decide_eq_false_iff_not, Decidable.not_not] at this
        rw [e1, Int.sub_self]
        simp [rd_T87, this]
      · have h5 := h2 x hx (by omega) (by rw [List.length_cons] at h4; omega)
        rw [← h5]
        obtain ⟨k, hk⟩ : ∃ k : Nat, x.f0 - n = ((k + 1 : Nat) : Int) := ⟨(x.f0 - n - 1).toNat, by omega⟩
        rw [h5, hk]
        have e2 : x.f0 - ((n + 1 : Nat) : Int) = (k : Int) := by omega
        rw [e2] at h5
        unfold rd_T87 at h5 ⊢
        rw [Int.toNat_natCast] at h5 ⊢
        rw [List.getD_cons_succ]
        exact h5
    · intro h
      refine ⟨fun x hx => ?_, fun x hx h3 h4 => ?_⟩
      · by_cases e1 : x.f0 = (n : Int)
        · have := h x hx (by omega) (by rw [List.length_cons]; omega)
          rw [e1, Int.sub_self] at this
          have e3 : e = x := by simpa [rd_T87] using this
          simp [wrongB, e3]
        · simp [wrongB, e1]
      · have h5 := h x hx (by omega) (by rw [List.length_cons]; omega)
        obtain ⟨k, hk⟩ : ∃ k : Nat, x.f0 - n = ((k + 1 : Nat) : Int) := ⟨(x.f0 - n - 1).toNat, by omega⟩
        rw [hk] at h5
        have e2 : x.f0 - ((n + 1 : Nat) : Int) = (k : Int) := by omega
        rw [e2]
        unfold rd_T87 at h5 ⊢
        rw [Int.toNat_natCast] at h5 ⊢
        rw [List.getD_cons_succ] at h5
        exact h5
theorem booked_zero {l : List S87} (h : bookedL sends rs pat l = 0) : check sends rs pat = 0 ∧ l.length ≤ 8 ∧ ∀ x ∈ l, (0 ≤ x.f0 ∧ x.f0 ≤ (sends.length : Int) - 1) ∧ 0 ≤ x.f1 ∧ x.f1 ≤ 100 := by
  unfold bookedL at h
  split at h
  · rename_i h1; exact absurd h h1
  · rename_i h1
    split at h
    · cases h
    · split at h
      · rename_i h2 h3
        refine ⟨by simpa using h1, by omega, fun x hx => ?_⟩
        rw [List.all_eq_true] at h3
        have := h3 x hx
        rw [entOk, Bool.and_eq_true, inB_iff, inB_iff] at this
        exact this
      · cases h
theorem runL_len (pat : Int) : ∀ (ss hs : List Int) (n b : Int), hs.length = ss.length → (runL pat n b ss hs).length = ss.length
  | [], hs, n, b, _ => by cases hs <;> simp [runL]
  | s :: ss, [], n, b, h => by simp at h
  | s :: ss, h :: hs, n, b, hl => by
    rw [List.length_cons, List.length_cons, Nat.add_right_cancel_iff] at hl
    rw [runL, List.length_cons, List.length_cons, runL_len pat ss hs _ _ hl]
/-- What Explain returns. -/
def explainRes (sends : List Int) (rs : List S122) (pat : Int) (l : List S87) : List (List (List Int)) × Int :=
  if bookedL sends rs pat l ≠ 0 then ([], bookedL sends rs pat l) else match srchL rs pat l sends 0 0 with
    | none => ([], 9)
    | some hs => (truthL rs sends hs, 0)
end
end Go.Proofs.Ytiephlhohgohcaa.PAll
namespace Go.Proofs.Ytiephlhohgohcaa.PAll
open Go.RowKit Go.Proofs.YtiephlhohgohcaaW.PrintWords Go.Proofs.YtiephlhohgohcaaW.PrintLast Go.Proofs.YtiephlhohgohcaaW.PrintMore
attribute [local go_sem] max2_int min2_int max_two min_two max_three min_three max_four min_four
set_option linter.unusedVariables false
set_option linter.unusedSimpArgs false
theorem truthL_take (rs : List S122) : ∀ (ss hs : List Int) (i : Nat) (h1 : i < ss.length) (h2 : i < hs.length), truthL rs (ss.take (i + 1)) (hs.take (i + 1)) = truthL rs (ss.take i) (hs.take i) ++ [rowT rs ss[i] hs[i]]
  | [], _, _, h1, _ => by cases h1
  | _ :: _, [], _, _, h2 => by cases h2
  | s :: ss, h :: hs, 0, _, _ => by simp [truthL]
  | s :: ss, h :: hs, i + 1, h1, h2 => by
    rw [List.take_succ_cons, List.take_succ_cons, truthL, truthL_take rs ss hs i (by simpa using h1) (by simpa using h2), List.take_succ_cons, List.take_succ_cons, truthL]
    rfl
theorem truthL_len (rs : List S122) : ∀ (ss hs : List Int), (truthL rs ss hs).length ≤ ss.length
  | [], _ => by simp [truthL]
  | _ :: _, [] => by simp [truthL]
  | s :: ss, h :: hs => by
    have := truthL_len rs ss hs
    rw [truthL, List.length_cons, List.length_cons]
    omega
def pickT (T : Option (List Int)) (lossy : Bool) (d : List Int) : List Int := match T with | some t => t | none => if lossy = true then [] else d
theorem copyT_pick (s h : Int) (r : S122) : copyT s h r = pickT (takesL r.f0 s h) r.f1 ((takesL r.f0 s (lastOf (setsOf r.f0 s))).getD []) := rfl
theorem last128_of (b : Nat) (f : Int → Bool) (w : World) (hS : SetAt w b f) (hne : hoursOf f 101 ≠ []) : Calls Try.prog 128 #[.pointer (some ⟨b, 0, none⟩)] w fun e W' => e = .returned (.int .i64 (lastOf f)) ∧ Below w.heap.size w W' := by
  have hl0 : 0 < (hoursOf f 101).length := List.length_pos_iff.2 hne
  have : (hoursOf f 101).getLast hne = lastOf f := by
    unfold lastOf rd
    rw [Int.toNat_natCast, rd_in _ _ _ (by omega), List.getLast_eq_getElem]
  rw [← this]
  exact last128 b f w hS hne
set_option maxRecDepth 100000 in
set_option maxHeartbeats 8000000 in
theorem truth112 (g : Nat) (A0 : Option Addr) (c0 : Nat) (sends : List Int) (A1 : Option Addr) (c1 : Nat) (rs : List S122) (pat : Int) (w : World) (h0 : Kd.C (Kd.int .i64) w A0 sends.length sends) (l0 : sends.length ≤ c0) (h1 : Kd.C k122 w A1 rs.length rs) (l1 : rs.length ≤ c1)
    (hw : WorkAt w g A0 c0 sends A1 c1 rs pat) (v : Valid sends rs pat) (Ah : Option Addr) (ch : Nat) (hours : List Int) (hh : Kd.C (Kd.int .i64) w Ah hours.length hours) (hl : hours.length = sends.length) :
    Calls Try.prog 112 #[.pointer (some ⟨g, 0, none⟩), .slice Ah hours.length ch] w fun e w' => ∃ v, e = .returned v ∧ Kd.R (Kd.slice 22 (Kd.slice 3 (Kd.int .i64))) 78 w' w.heap.size (fun _ => True) v (truthL rs sends hours) ∧ Below w.heap.size w w' := by
  have HR0 := Aside0.mk h0
  have HR1 := Aside0.mk h1
  have HH := Aside0.mk hh
  have V := Aside0.mk v
  have HHL := Aside0.mk hl
  have hs4 := v.sn
  have hr3 := v.rn
  obtain ⟨mb, nm, m, hg, hm, hd⟩ := hw
  have HG := Aside0.mk hg
  have HM := Aside0.mk hm
  have HD := Aside0.mk hd
  clear hg hm hd v h0 h1 hh hl
  go_enter Try.func112, Try.ntmps112
  go_wp2_with fail
  go_loopg [4, 14] hours.length (fun gg s4 s14 wr => ∃ i : Nat, i ≤ hours.length ∧ hours.length - i ≤ gg ∧ s14 = .int .i64 i ∧ Aside0 (Kd.R (Kd.slice 22 (Kd.slice 3 (Kd.int .i64))) 78 wr w.heap.size (fun _ => True) s4 (truthL rs (sends.take i) (hours.take i))) ∧ Aside0 (Below w.heap.size w wr))
  case atStart => exact ⟨0, by omega, by omega, rfl, ⟨by simp only [List.take_zero, truthL]; exact Kd.R_nil _ _ _ _ _⟩, ⟨Below.refl _ _⟩⟩
  case round =>
    obtain ⟨i, hi, hgi, rfl, HO, HB⟩ := hrel
    obtain ⟨wm, rfl⟩ : ∃ wm : World, wm = wr := ⟨_, rfl⟩
    by_cases hlt : i < hours.length
    · have hltz : (i : Int) < (hours.length : Int) := by omega
      have hls : i < sends.length := by have := HHL.out; omega
      have hlsz : (i : Int) < (sends.length : Int) := by omega
      obtain ⟨ads, ea, ds⟩ := Kd.at_int HR0.out (i : Int) (by omega) hlsz
      obtain ⟨adh, eh, dh⟩ := Kd.at_int HH.out (i : Int) (by omega) hltz
      cases ea
      cases eh
      rw [Int.toNat_natCast, rdI hls] at ds
      rw [Int.toNat_natCast, rdI hlt] at dh
      have HTT : Aside0 (truthL rs (sends.take (i + 1)) (hours.take (i + 1)) = truthL rs (sends.take i) (hours.take i) ++ [rowT rs sends[i] hours[i]]) := ⟨truthL_take rs sends hours i hls hlt⟩
      have HS30 := Aside0.mk (V.out.s0 _ (List.getElem_mem hls))
      have HSM := Aside0.mk (List.getElem_mem hls)
      have HDI : Aside0 (∀ (k : Nat) (hk : k < rs.length), ∃ s, m i k = some s ∧ SetAt w s (setsOf rs[k].f0 sends[i])) := ⟨fun k hk => HD.out i hls k hk⟩
      have hi4 : i ≤ 4 := by omega
      have htl := truthL_len rs (sends.take i) (hours.take i)
      have htl4 : (truthL rs (sends.take i) (hours.take i)).length ≤ 100 := by rw [List.length_take] at htl; omega
      have HTL := Aside0.mk htl4
      clear htl htl4
      generalize truthL rs (sends.take i) (hours.take i) = tt at HO HTT HTL
      generalize sends[i] = sn at ds HTT HS30 HSM HDI
      generalize hours[i] = hn at dh HTT
      have DS := Aside0.mk ds
      have dh' := (HB.out.cell (World.block_lt_of_cell? w _ dh)).trans dh
      have g1 : wm.cell? ⟨g, 1, none⟩ = some (.slice A1 rs.length c1) := (blk_cell (blk_below HG.out HB.out) 1).trans rfl
      clear ds dh
      go_wp2_with fail
      clear dh' g1
      go_loopg [7, 25] rs.length (fun gk s7 s25 wi => ∃ k : Nat, k ≤ rs.length ∧ rs.length - k ≤ gk ∧ s25 = .int .i64 k ∧ Aside0 (Kd.R (Kd.slice 3 (Kd.int .i64)) 22 wi w.heap.size (fun _ => True) s7 ((rs.take k).map (copyT sn hn))) ∧
        Aside0 (Kd.R (Kd.slice 22 (Kd.slice 3 (Kd.int .i64))) 78 wi w.heap.size (fun k' => True ∧ some k' ≠ s7.ownBlock) u4 tt) ∧ Aside0 (Below w.heap.size w wi))
      case atStart => exact ⟨0, by omega, by omega, rfl, ⟨Kd.R_nil _ _ _ _ _⟩, ⟨Kd.R_mono HO.out (fun k' _ => ⟨trivial, fun e => by simp [Value.ownBlock] at e⟩)⟩, HB⟩
      case round =>
        obtain ⟨k, hk, hgk, rfl, HI, HOi, HBi⟩ := hrel
        obtain ⟨wn, rfl⟩ : ∃ wn : World, wn = wr := ⟨_, rfl⟩
        by_cases hkl : k < rs.length
        · have hklz : (k : Int) < (rs.length : Int) := by omega
          have hk2 : k ≤ 2 := by omega
          obtain ⟨ad2, A3, c3, e3, d3a, d3b, l3, g3⟩ := at_T122 HR1.out (k : Int) (by omega) hklz
          cases e3
          rw [Int.toNat_natCast] at d3a d3b
          have hx : rd_T122 rs (k : Int) = rs[k] := by unfold rd_T122; rw [Int.toNat_natCast, rd_in _ _ _ hkl]
          obtain ⟨ts, ht1, ht2⟩ := HDI.out k hkl
          have hln := V.out.ln _ (List.getElem_mem hkl)
          have HOKL : Aside0 (∀ l ∈ rs[k].f0, LegOk l ∧ l.f1.length ≤ 100) := ⟨fun l hl => ⟨V.out.leg (List.getElem_mem hkl) hl, by have := V.out.an _ (List.getElem_mem hkl) l hl; omega⟩⟩
          have HNE := Aside0.mk (V.out.setAt HSM.out (List.getElem_mem hkl)).1
          have HTK : Aside0 ((rs.take (k + 1)).map (copyT sn hn) = (rs.take k).map (copyT sn hn) ++ [copyT sn hn rs[k]]) := ⟨by rw [List.take_succ_eq_append_getElem hkl, List.map_append]; rfl⟩
          rw [hx] at d3a d3b g3
          clear hx
          generalize rs[k] = x at d3a d3b g3 ht2 hln HOKL HNE HTK
          obtain ⟨legs, lossy⟩ := x
          dsimp only at d3a d3b g3 ht2 hln HOKL HNE
          replace d3a := (HBi.out.cell (World.block_lt_of_cell? w _ d3a)).trans d3a
          replace d3b := (HBi.out.cell (World.block_lt_of_cell? w _ d3b)).trans d3b
          have G3 := Aside0.mk g3
          have H141 : Aside0 (∀ (hour : Int) (w' : World), Below w.heap.size w w' → Calls Try.prog 141 #[.agg #[.slice A3 legs.length c3, .bool lossy], .int .i64 0, .int .i64 sn, .int .i64 hour] w' fun e w'' => ∃ v, e = .returned (.tuple #[v, .bool (takesL legs sn hour).isSome]) ∧ Kd.R (Kd.int .i64) 3 w'' w'.heap.size (fun _ => True) v ((takesL legs sn hour).getD []) ∧ Below w'.heap.size w' w'') := ⟨fun hour w' hb => by
            have := takes141 A3 c3 legs lossy hour HOKL.out hln.2 legs.length 0 sn w' (by omega) HS30.out.1 (by have := HS30.out.2; omega) (Kd.C_below G3.out hb)
            rwa [List.drop_zero] at this⟩
          have H128 : Aside0 (∀ w', Below w.heap.size w w' → Calls Try.prog 128 #[.pointer (some ⟨ts, 0, none⟩)] w' fun e w'' => e = .returned (.int .i64 (lastOf (setsOf legs sn))) ∧ Below w'.heap.size w' w'') := ⟨fun w' hb => last128_of ts _ w' (ht2.below hb) HNE.out⟩
          have HLK : Aside0 (∀ w', Below w.heap.size w w' → (Instr.lookup 136 (.map (some mb)) (.agg #[.int .i64 (i : Int), .int .i64 (k : Int)]) false).run Try.prog w' = .ok (.pointer (some ⟨ts, 0, none⟩)) w') := ⟨fun w' hb => (HM.out.below hb).lookup (WalkArith.wf_i64 (by omega)) (WalkArith.wf_i64 (by omega)) ht1⟩
          clear ht1 ht2 g3 l3 hln
          obtain ⟨W5, hW5⟩ : ∃ W5, W5 = wn.alloc (.cells #[.slice A3 legs.length c3, .bool lossy] 122) := ⟨_, rfl⟩
          have hb5 : Below wn.heap.size wn W5 := hW5 ▸ (Below.refl _ wn).alloc (Nat.le_refl _) _
          have HX5 := Aside0.mk (show W5.heap[wn.heap.size]? = some (.cells #[.slice A3 legs.length c3, .bool lossy] 122 (0, 0)) from by rw [hW5]; exact blk_new _ _)
          have HB5 := Aside0.mk (below_then HBi.out HBi.out.size hb5)
          have HI5 := Aside0.mk (Kd.R_below HI.out hb5)
          have HO5 := Aside0.mk (Kd.R_below HOi.out hb5)
          have HW5 := Aside0.mk hW5
          clear hb5 hW5 HI HOi HBi
          go_upto_region 8 with fail
          rw [← HW5.out]
          clear HW5 d3a d3b
          have KEEP : Aside0 (∀ w', Below W5.heap.size W5 w' → (w'.cell? ⟨wn.heap.size, 0, none⟩ = some (.slice A3 legs.length c3) ∧ w'.cell? ⟨wn.heap.size, 1, none⟩ = some (.bool lossy) ∧ w'.cell? ⟨g, 0, none⟩ = some (.slice (some ads) sends.length c0) ∧ w'.cell? (ads.add i) = some (.int .i64 sn) ∧ w'.cell? ⟨g, 3, none⟩ = some (.map (some mb)) ∧ (Instr.lookup 136 (.map (some mb)) (.agg #[.int .i64 (i : Int), .int .i64 (k : Int)]) false).run Try.prog w' = .ok (.pointer (some ⟨ts, 0, none⟩)) w')) := ⟨fun w' hb => by
            have hbw := below_then HB5.out HB5.out.size hb
            exact ⟨(blk_cell (blk_below HX5.out hb) 0).trans rfl, (blk_cell (blk_below HX5.out hb) 1).trans rfl, (blk_cell (blk_below HG.out hbw) 0).trans rfl, (hbw.cell (World.block_lt_of_cell? w _ DS.out)).trans DS.out, (blk_cell (blk_below HG.out hbw) 3).trans rfl, HLK.out w' hbw⟩⟩
          have KEEP1 : Aside0 (∀ w', Below W5.heap.size W5 w' → (w'.cell? ⟨wn.heap.size, 0, none⟩ = some (.slice A3 legs.length c3) ∧ w'.cell? ⟨wn.heap.size, 1, none⟩ = some (.bool lossy) ∧ w'.cell? ⟨g, 0, none⟩ = some (.slice (some ads) sends.length c0) ∧ w'.cell? (ads.add i) = some (.int .i64 sn))) := ⟨fun w' hb => by
            obtain ⟨k1, k2, k3, k4, _⟩ := KEEP.out w' hb
            exact ⟨k1, k2, k3, k4⟩⟩
          have hq0 : Aside0 (Below W5.heap.size W5 W5.drew) := ⟨below_drew (Below.refl _ _)⟩
          have H141b : Aside0 (∀ w', Below w.heap.size w w' → Calls Try.prog 141 #[.agg #[.slice A3 legs.length c3, .bool lossy], .int .i64 0, .int .i64 sn, .int .i64 (lastOf (setsOf legs sn))] w' fun e w'' => ∃ v, e = .returned (.tuple #[v, .bool (takesL legs sn (lastOf (setsOf legs sn))).isSome]) ∧ Kd.R (Kd.int .i64) 3 w'' w'.heap.size (fun _ => True) v ((takesL legs sn (lastOf (setsOf legs sn))).getD []) ∧ Below w'.heap.size w' w'') := ⟨fun w' hb => H141.out _ w' hb⟩
          have H141a : Aside0 (∀ w', Below w.heap.size w w' → Calls Try.prog 141 #[.agg #[.slice A3 legs.length c3, .bool lossy], .int .i64 0, .int .i64 sn, .int .i64 hn] w' fun e w'' => ∃ v, e = .returned (.tuple #[v, .bool (takesL legs sn hn).isSome]) ∧ Kd.R (Kd.int .i64) 3 w'' w'.heap.size (fun _ => True) v ((takesL legs sn hn).getD []) ∧ Below w'.heap.size w' w'') := ⟨fun w' hb => H141.out _ w' hb⟩
          obtain ⟨CT, hCT⟩ : ∃ CT, copyT sn hn ⟨legs, lossy⟩ = CT := ⟨_, rfl⟩
          have HCT := Aside0.mk hCT
          rw [hCT] at HTK
          obtain ⟨T, hT⟩ : ∃ T, takesL legs sn hn = T := ⟨_, rfl⟩
          rw [hT] at H141a
          obtain ⟨T2, hT2⟩ : ∃ T2, takesL legs sn (lastOf (setsOf legs sn)) = T2 := ⟨_, rfl⟩
          rw [hT2] at H141b
          have HTE : Aside0 (CT = pickT T lossy (T2.getD [])) := ⟨by rw [← hCT, copyT_pick]; dsimp only; rw [hT, hT2]⟩
          generalize lastOf (setsOf legs sn) = lz at H141b H128
          clear hCT hT hT2 H141
          go_region_held3 (fun w' => w'.cell? ⟨wn.heap.size, 0, none⟩ = some (.slice A3 legs.length c3) ∧ w'.cell? ⟨wn.heap.size, 1, none⟩ = some (.bool lossy) ∧ w'.cell? ⟨g, 0, none⟩ = some (.slice (some ads) sends.length c0) ∧ w'.cell? (ads.add i) = some (.int .i64 sn))
            (first
              | exact KEEP1.out _ hq0.out
              | exact KEEP1.out _ hq1.out)
            (first
              | (go_at_call 141; refine (H141a.out _ (below_then HB5.out HB5.out.size hq0.out)).mono ?_; rintro e wa ⟨va, rfl, hra, hb⟩; have hq1 := Aside0.mk (below_then hq0.out hq0.out.size hb); have HRA := Aside0.mk hra; clear hb hra))
          have HBa := Aside0.mk (below_then HB5.out HB5.out.size hq1.out)
          have HIa := Aside0.mk (Kd.R_below HI5.out hq1.out)
          have HOa := Aside0.mk (Kd.R_below HO5.out hq1.out)
          have HVa := Aside0.mk (Kd.R_lower HRA.out (Nat.le_trans HB5.out.size hq0.out.size))
          have e1 : wa.cell? ⟨wn.heap.size, 1, none⟩ = some (.bool lossy) := (KEEP1.out _ hq1.out).2.1
          clear HRA HI5 HO5
          cases T with
          | some tk =>
            have hct : tk = CT := HTE.out.symm
            dsimp only [Option.getD, Option.isSome] at HVa ⊢
            rw [hct] at HVa
            clear HTE hct
            obtain ⟨A6, c6, hv6⟩ := Kd.R_slice HVa.out
            have HVT := Aside0.mk (R_apart_types HVa.out HIa.out (by decide))
            subst hv6
            have hll1 : ((rs.take k).map (copyT sn hn)).length ≤ 100 := by rw [List.length_map, List.length_take]; omega
            go_wp2_with (at_builtin; refine Kd.R_append (Kd.slice 3 (Kd.int .i64)) (w0 := w) w.heap.size rfl (.tmp 73) (.tmp 75) 78 22 (.slice none 0 0) 24 rfl Try.underlying78 info22 rfl (by decide) (by omega) u7 ((rs.take k).map (copyT sn hn)) CT [.slice A6 CT.length c6] (fun _ => True) (fun k' => some k' ≠ u7.ownBlock) rfl rfl (Kd.M_row HVT.out) (fun _ hk => ⟨trivial, hk⟩) (fun _ _ => trivial) HIa.out HBa.out HBa.out.size (by omega) ?_; intro v4 w4 hr4 hb4 hg4 hat4; have HR4 := Aside0.mk hr4; have HB4 := Aside0.mk hb4; have HO4 := Aside0.mk (Kd.R_after HOa.out hg4 hat4); clear hr4 hb4 hg4 hat4)
            go_roundg (rs.length - (k + 1))
            case measure => omega
            case rel =>
              refine ⟨k + 1, by omega, by omega, by go_num, ⟨?_⟩, HO4, HB4⟩
              rw [HTK.out]
              exact HR4.out
          | none =>
            cases lossy with
            | true =>
              have hct : [] = CT := HTE.out.symm
              dsimp only [Option.getD, Option.isSome] at HVa ⊢
              rw [hct] at HVa
              clear HTE hct
              obtain ⟨A6, c6, hv6⟩ := Kd.R_slice HVa.out
              have HVT := Aside0.mk (R_apart_types HVa.out HIa.out (by decide))
              subst hv6
              have hll1 : ((rs.take k).map (copyT sn hn)).length ≤ 100 := by rw [List.length_map, List.length_take]; omega
              go_wp2_with (at_builtin; refine Kd.R_append (Kd.slice 3 (Kd.int .i64)) (w0 := w) w.heap.size rfl (.tmp 73) (.tmp 75) 78 22 (.slice none 0 0) 24 rfl Try.underlying78 info22 rfl (by decide) (by omega) u7 ((rs.take k).map (copyT sn hn)) CT [.slice A6 CT.length c6] (fun _ => True) (fun k' => some k' ≠ u7.ownBlock) rfl rfl (Kd.M_row HVT.out) (fun _ hk => ⟨trivial, hk⟩) (fun _ _ => trivial) HIa.out HBa.out HBa.out.size (by omega) ?_; intro v4 w4 hr4 hb4 hg4 hat4; have HR4 := Aside0.mk hr4; have HB4 := Aside0.mk hb4; have HO4 := Aside0.mk (Kd.R_after HOa.out hg4 hat4); clear hr4 hb4 hg4 hat4)
              go_roundg (rs.length - (k + 1))
              case measure => omega
              case rel =>
                refine ⟨k + 1, by omega, by omega, by go_num, ⟨?_⟩, HO4, HB4⟩
                rw [HTK.out]
                exact HR4.out
            | false =>
              have hct : T2.getD [] = CT := HTE.out.symm
              dsimp only [Option.isSome]
              clear HTE HVa
              go_upto_region 10 with fail
              clear e1
              have hp0 : Aside0 (Below W5.heap.size W5 wa.drew) := ⟨below_drew hq1.out⟩
              have ha0 : Aside0 (Below wa.heap.size wa wa.drew) := ⟨below_drew (Below.refl _ _)⟩
              go_region_held3 (fun w' => w'.cell? ⟨wn.heap.size, 0, none⟩ = some (.slice A3 legs.length c3) ∧ w'.cell? ⟨wn.heap.size, 1, none⟩ = some (.bool false) ∧ w'.cell? ⟨g, 0, none⟩ = some (.slice (some ads) sends.length c0) ∧ w'.cell? (ads.add i) = some (.int .i64 sn) ∧ w'.cell? ⟨g, 3, none⟩ = some (.map (some mb)) ∧ (Instr.lookup 136 (.map (some mb)) (.agg #[.int .i64 (i : Int), .int .i64 (k : Int)]) false).run Try.prog w' = .ok (.pointer (some ⟨ts, 0, none⟩)) w')
                (first
                  | exact KEEP.out _ hp0.out
                  | exact KEEP.out _ hp1.out
                  | exact KEEP.out _ hp2.out)
                (first
                  | (go_at_call 128; refine (H128.out _ (below_then HB5.out HB5.out.size hp0.out)).mono ?_; rintro e wb ⟨rfl, hb⟩; have hp1 := Aside0.mk (below_then hp0.out hp0.out.size hb); have ha1 := Aside0.mk (below_then ha0.out ha0.out.size hb); clear hb)
                  | (go_at_call 141; refine (H141b.out _ (below_then HB5.out HB5.out.size hp1.out)).mono ?_; rintro e wc ⟨vc, rfl, hrc, hb⟩; have hp2 := Aside0.mk (below_then hp1.out hp1.out.size hb); have HRC := Aside0.mk hrc; have ha2 := Aside0.mk (below_then ha1.out ha1.out.size hb); clear hb hrc))
              have HBc := Aside0.mk (below_then HB5.out HB5.out.size hp2.out)
              have HIc := Aside0.mk (Kd.R_below HIa.out ha2.out)
              have HOc := Aside0.mk (Kd.R_below HOa.out ha2.out)
              have HVc := Aside0.mk (Kd.R_lower HRC.out (Nat.le_trans HB5.out.size hp1.out.size))
              rw [hct] at HVc
              clear HRC hct HIa HOa
              obtain ⟨A6, c6, hv6⟩ := Kd.R_slice HVc.out
              have HVT := Aside0.mk (R_apart_types HVc.out HIc.out (by decide))
              subst hv6
              have hll1 : ((rs.take k).map (copyT sn hn)).length ≤ 100 := by rw [List.length_map, List.length_take]; omega
              go_wp2_with (at_builtin; refine Kd.R_append (Kd.slice 3 (Kd.int .i64)) (w0 := w) w.heap.size rfl (.tmp 73) (.tmp 75) 78 22 (.slice none 0 0) 24 rfl Try.underlying78 info22 rfl (by decide) (by omega) u7 ((rs.take k).map (copyT sn hn)) CT [.slice A6 CT.length c6] (fun _ => True) (fun k' => some k' ≠ u7.ownBlock) rfl rfl (Kd.M_row HVT.out) (fun _ hk => ⟨trivial, hk⟩) (fun _ _ => trivial) HIc.out HBc.out HBc.out.size (by omega) ?_; intro v4 w4 hr4 hb4 hg4 hat4; have HR4 := Aside0.mk hr4; have HB4 := Aside0.mk hb4; have HO4 := Aside0.mk (Kd.R_after HOc.out hg4 hat4); clear hr4 hb4 hg4 hat4)
              go_roundg (rs.length - (k + 1))
              case measure => omega
              case rel =>
                refine ⟨k + 1, by omega, by omega, by go_num, ⟨?_⟩, HO4, HB4⟩
                rw [HTK.out]
                exact HR4.out
        · have hklz : ¬ (k : Int) < (rs.length : Int) := by omega
          have hkk : k = rs.length := by omega
          have HI' := HI.out
          rw [hkk, List.take_length] at HI'
          obtain ⟨row, hrow⟩ : ∃ row, rs.map (copyT sn hn) = row := ⟨_, rfl⟩
          rw [hrow] at HI'
          have HRW := Aside0.mk (show rowT rs sn hn = row from hrow)
          obtain ⟨A6, c6, hv6⟩ := Kd.R_slice HI'
          have HV6 := Aside0.mk (R_apart_types HI' HOi.out (by decide))
          have HOO := Aside0.mk (Kd.R_mono (ok' := fun _ => True) HOi.out (fun _ _ => trivial))
          have htk := HTL.out
          clear hkk HI' HOi HI hrow
          subst hv6
          go_wp2_with (at_builtin; refine Kd.R_append (Kd.slice 22 (Kd.slice 3 (Kd.int .i64))) (w0 := w) w.heap.size rfl (.tmp 78) (.tmp 80) 26 78 (.slice none 0 0) 24 rfl Try.underlying26 info78 rfl (by decide) (by omega) u4 tt row [.slice A6 row.length c6] (fun _ => True) (fun k' => some k' ≠ u4.ownBlock) rfl rfl (Kd.M_row HV6.out) (fun _ hk => ⟨trivial, hk⟩) (fun _ _ => trivial) HOO.out HBi.out HBi.out.size (by omega) ?_; intro v4 w4 hr4 hb4 hg4 hat4; have HR4 := Aside0.mk hr4; have HB4 := Aside0.mk hb4; clear hr4 hb4 hg4 hat4)
          go_roundg (hours.length - (i + 1))
          case measure => omega
          case rel =>
            refine ⟨i + 1, by omega, by omega, by go_num, ⟨?_⟩, HB4⟩
            rw [HTT.out, HRW.out]
            exact HR4.out
    · have hltz : ¬ (i : Int) < (hours.length : Int) := by omega
      have HQ := Aside0.mk (show Kd.R (Kd.slice 22 (Kd.slice 3 (Kd.int .i64))) 78 wm w.heap.size (fun _ => True) u4 (truthL rs sends hours) by have := HO.out; rw [show i = hours.length by omega, List.take_length, HHL.out, List.take_length] at this; exact this)
      go_wp2_with fail
      go_ret
      exact ⟨_, rfl, HQ.out, HB.out⟩
end Go.Proofs.Ytiephlhohgohcaa.PAll
namespace Go.Proofs.Ytiephlhohgohcaa.PAll
open Go.RowKit Go.Proofs.YtiephlhohgohcaaW.PrintWords Go.Proofs.YtiephlhohgohcaaW.PrintLast Go.Proofs.YtiephlhohgohcaaW.PrintMore
attribute [local go_sem] max2_int min2_int max_two min_two max_three min_three max_four min_four
set_option linter.unusedVariables false
set_option linter.unusedSimpArgs false
theorem eqA87 (d : Nat) (w : World) (x0 y0 : Int) (x1 y1 : Int) (x2 y2 : Bool) :
    (Op.equalIn (d + 2) 87 (.agg #[.int .i64 x0, .int .i64 x1, .bool x2]) (.agg #[.int .i64 y0, .int .i64 y1, .bool y2])).run Try.prog w = .ok (x0 == y0 && (x1 == y1 && (x2 == y2))) w := by
  refine eqA_of Try.underlying87 (by kernel_rfl) ?_
  refine eqf_cons (by rfl) (by go_simp; rfl) (by go_simp; rfl) (by go_simp) ?_
  refine eqf_cons (by rfl) (by go_simp; rfl) (by go_simp; rfl) (by go_simp) ?_
  exact eqf_last (by rfl) (by go_simp; rfl) (by go_simp; rfl) (by go_simp)
attribute [local go_sem high] eqA87
set_option maxRecDepth 100000 in
set_option maxHeartbeats 4000000 in
theorem explain57 (A0 : Option Addr) (c0 : Nat) (sends : List Int) (A1 : Option Addr) (c1 : Nat) (routes : List S122) (pat : Int) (Al : Option Addr) (cl : Nat) (l : List S87) (w : World)
    (h0 : Kd.C (Kd.int .i64) w A0 sends.length sends) (l0 : sends.length ≤ c0) (h1 : Kd.C k122 w A1 routes.length routes) (l1 : routes.length ≤ c1) (hl : Kd.C k87 w Al l.length l) :
    Calls Try.prog 57 #[.agg #[.slice A0 sends.length c0, .slice A1 routes.length c1, .int .i64 pat], .slice Al l.length cl] w fun e w' =>
      ∃ v, e = .returned (.tuple #[v, .int .i64 (explainRes sends routes pat l).2]) ∧ Kd.R (Kd.slice 22 (Kd.slice 3 (Kd.int .i64))) 78 w' w.heap.size (fun _ => True) v (explainRes sends routes pat l).1 ∧ Below w.heap.size w w' := by
  have HL0 := Aside0.mk l0
  have HL1 := Aside0.mk l1
  obtain ⟨⟨rt, re⟩, hR⟩ : ∃ p, explainRes sends routes pat l = p := ⟨_, rfl⟩
  have HRE := Aside0.mk hR
  rw [hR]
  clear hR
  dsimp only
  obtain ⟨W1, hW1⟩ : ∃ W1, W1 = w.alloc (.cells #[.slice A0 sends.length c0, .slice A1 routes.length c1, .int .i64 pat] 34) := ⟨_, rfl⟩
  have hb1 : Below w.heap.size w W1 := hW1 ▸ (Below.refl _ w).alloc (Nat.le_refl _) _
  have HX := Aside0.mk (show W1.heap[w.heap.size]? = some (.cells #[.slice A0 sends.length c0, .slice A1 routes.length c1, .int .i64 pat] 34 (0, 0)) from by rw [hW1]; exact blk_new _ _)
  have HB := Aside0.mk hb1
  have HW1 := Aside0.mk hW1
  have g0 := Aside0.mk (Kd.C_below h0 hb1)
  have g1 := Aside0.mk (Kd.C_below h1 hb1)
  have g2 := Aside0.mk (Kd.C_below hl hb1)
  clear h0 h1 hl l0 l1 hW1 hb1
  have x0 : W1.cell? ⟨w.heap.size, 0, none⟩ = some (.slice A0 sends.length c0) := (blk_cell HX.out 0).trans rfl
  have x1 : W1.cell? ⟨w.heap.size, 1, none⟩ = some (.slice A1 routes.length c1) := (blk_cell HX.out 1).trans rfl
  have x2 : W1.cell? ⟨w.heap.size, 2, none⟩ = some (.int .i64 pat) := (blk_cell HX.out 2).trans rfl
  go_enter Try.func57, Try.ntmps57
  go_wp2_with fail
  rw [← HW1.out]
  clear HW1
  refine (booked107 A0 c0 sends A1 c1 routes pat Al cl l W1 g0.out HL0.out g1.out HL1.out g2.out).mono ?_
  rintro e w2 ⟨rfl, hb⟩
  have HB2 := Aside0.mk (below_then HB.out HB.out.size hb)
  have HX2 := Aside0.mk (blk_below HX.out hb)
  have G0 := Aside0.mk (Kd.C_below g0.out hb)
  have G1 := Aside0.mk (Kd.C_below g1.out hb)
  have G2 := Aside0.mk (Kd.C_below g2.out hb)
  clear hb x0 x1 x2 HX HB g0 g1 g2
  have x0 : w2.cell? ⟨w.heap.size, 0, none⟩ = some (.slice A0 sends.length c0) := (blk_cell HX2.out 0).trans rfl
  have x1 : w2.cell? ⟨w.heap.size, 1, none⟩ = some (.slice A1 routes.length c1) := (blk_cell HX2.out 1).trans rfl
  have x2 : w2.cell? ⟨w.heap.size, 2, none⟩ = some (.int .i64 pat) := (blk_cell HX2.out 2).trans rfl
  by_cases hc : bookedL sends routes pat l = 0
  · have hcb : (bookedL sends routes pat l != (0 : Int)) = false := by rw [hc]; rfl
    have HC := Aside0.mk hc
    have V := Aside0.mk (valid_of (booked_zero hc).1)
    clear hc
    go_wp2_with fail
    refine (work78 A0 c0 sends A1 c1 routes pat w2 G0.out G1.out V.out.sn V.out.rn V.out.s0 (fun r hr => (V.out.ln r hr).2) (fun r hr l hl => V.out.leg hr hl)).mono ?_
    rintro e w3 ⟨g, rfl, hwk, hb⟩
    have HB3 := Aside0.mk (below_then HB2.out HB2.out.size hb)
    have HK3 := Aside0.mk hwk
    have HR03 := Aside0.mk (Kd.C_below G0.out hb)
    have HR13 := Aside0.mk (Kd.C_below G1.out hb)
    have HR23 := Aside0.mk (Kd.C_below G2.out hb)
    clear hb hwk x0 x1 x2 HX2 HB2 G0 G1 G2
    go_wp2_with fail
    refine (search109 g A0 c0 sends A1 c1 routes pat Al cl l w3 HK3.out HR03.out HL0.out HR13.out HL1.out HR23.out V.out).mono ?_
    rintro e w4 ⟨v4, rfl, hs, hb⟩
    have HB4 := Aside0.mk (below_then HB3.out HB3.out.size hb)
    have HK4 := Aside0.mk (HK3.out.below hb)
    have HR04 := Aside0.mk (Kd.C_below HR03.out hb)
    have HR14 := Aside0.mk (Kd.C_below HR13.out hb)
    have HS4 := Aside0.mk hs
    clear hb hs HB3 HK3 HR03 HR13 HR23
    have HE : Aside0 (explainRes sends routes pat l = match srchL routes pat l sends 0 0 with | none => ([], 9) | some hs => (truthL routes sends hs, 0)) := ⟨by rw [explainRes, if_neg (by rw [HC.out]; exact fun e => e rfl)] <;> (cases srchL routes pat l sends 0 0 <;> rfl)⟩
    cases hsr : srchL routes pat l sends 0 0 with
    | none =>
      rw [hsr] at HE HS4
      have HE2 : Aside0 (explainRes sends routes pat l = ([], 9)) := ⟨HE.out⟩
      clear HE hsr
      have h5 := HRE.out
      rw [HE2.out, Prod.mk.injEq] at h5
      obtain ⟨rfl, rfl⟩ := h5
      dsimp only [Option.isSome]
      go_wp2_with fail
      go_ret2
      exact ⟨_, rfl, Kd.R_nil _ _ _ _ _, HB4.out⟩
    | some hs =>
      have HCA := Aside0.mk (srchL_spec pat l sends 0 0 hs hsr).1
      rw [hsr] at HE HS4
      have HE2 : Aside0 (explainRes sends routes pat l = (truthL routes sends hs, 0)) := ⟨HE.out⟩
      clear HE hsr
      have h5 := HRE.out
      rw [HE2.out, Prod.mk.injEq] at h5
      obtain ⟨rfl, rfl⟩ := h5
      obtain ⟨Ah, ch, rfl, hlh, hCh⟩ := Kd.R_reads (HS4.out hs rfl)
      have HCH := Aside0.mk hCh
      have HHL := Aside0.mk HCA.out.len
      clear hlh hCh HS4
      dsimp only [Option.isSome]
      go_wp2_with fail
      refine (truth112 g A0 c0 sends A1 c1 routes pat w4 HR04.out HL0.out HR14.out HL1.out HK4.out V.out Ah ch hs HCH.out HHL.out).mono ?_
      rintro e w5 ⟨v5, rfl, hr, hb⟩
      have HB5 := Aside0.mk (below_then HB4.out HB4.out.size hb)
      have HR5 := Aside0.mk (Kd.R_lower hr HB4.out.size)
      clear hr hb
      go_wp2_with fail
      go_ret2
      exact ⟨_, rfl, HR5.out, HB5.out⟩
  · have hcb : (bookedL sends routes pat l != (0 : Int)) = true := by simpa using hc
    have HC := Aside0.mk hc
    clear hc
    go_wp2_with fail
    go_ret2
    have h5 := HRE.out
    rw [explainRes, if_pos HC.out, Prod.mk.injEq] at h5
    obtain ⟨rfl, rfl⟩ := h5
    exact ⟨_, rfl, Kd.R_nil _ _ _ _ _, HB2.out⟩
end Go.Proofs.Ytiephlhohgohcaa.PAll
namespace Go.Proofs.Ytiephlhohgohcaa.PAll
open Go.RowKit Go.Proofs.YtiephlhohgohcaaW.PrintWords Go.Proofs.YtiephlhohgohcaaW.PrintLast Go.Proofs.YtiephlhohgohcaaW.PrintMore
set_option linter.unusedVariables false
set_option linter.unusedSimpArgs false
section
variable {sends : List Int} {rs : List S122} {pat : Int}
/-- An hour that a dispatch can have lies between the ends. -/
theorem can_between {s y : Int} (h : SetsOk rs s) (hc : canL rs s y (y == 101) = true) (h0 : 0 ≤ y) : earlyL rs s ≤ y ∧ y ≤ lateL rs s ∧ y ≤ 101 := by
  have hy : y ≤ 101 := by rcases (canL_iff.1 hc).2 with h1 | h1 <;> omega
  obtain ⟨he, _⟩ := can_ends h
  have e : ((y.toNat : Nat) : Int) = y := Int.toNat_of_nonneg h0
  have := he.2.2.2.2 y.toNat (by rw [comL_can rs h y.toNat (by omega), e]; exact hc) (by omega)
  rw [e] at this
  exact ⟨this.1, this.2, hy⟩
theorem can_nonneg {s y : Int} (h : SetsOk rs s) (hc : canL rs s y (y == 101) = true) : 0 ≤ y := by
  rcases (canL_iff.1 hc).2 with h1 | ⟨_, r, hr, h1⟩
  · omega
  · exact ((h r hr).2 y h1).1
theorem canAll_nonneg : ∀ {ss hs : List Int}, (∀ s ∈ ss, SetsOk rs s) → CanAll rs ss hs → ∀ h ∈ hs, 0 ≤ h
  | [], [], _, _ => fun h hh => (List.not_mem_nil hh).elim
  | [], _ :: _, _, h => h.elim
  | _ :: _, [], _, h => h.elim
  | s :: ss, h :: hs, ho, hc => fun x hx => by
    rcases List.mem_cons.1 hx with rfl | hx
    · exact can_nonneg (ho s List.mem_cons_self) hc.1
    · exact canAll_nonneg (fun t ht => ho t (List.mem_cons_of_mem _ ht)) hc.2 x hx
/-- Each dispatch is finished within its span. -/
theorem run_span : ∀ (ss hs : List Int) (n a b c : Int), (∀ s ∈ ss, SetsOk rs s) → CanAll rs ss hs → a ≤ b → b ≤ c → ∀ k : Nat, k < ss.length →
    finF earlyL rs pat a (ss.take (k + 1)) ≤ (rd_T87 (runL pat n b ss hs) (k : Int)).f1 ∧ (rd_T87 (runL pat n b ss hs) (k : Int)).f1 ≤ finF lateL rs pat c (ss.take (k + 1)) ∧ (rd_T87 (runL pat n b ss hs) (k : Int)).f0 = n + k
  | [], _, _, _, _, _, _, _, _, _ => fun k hk => by cases hk
  | _ :: _, [], _, _, _, _, _, h, _, _ => h.elim
  | s :: ss, h :: hs, n, a, b, c, ho, hc, hab, hbc => fun k hk => by
    have hs0 := ho s List.mem_cons_self
    have hb := can_between hs0 hc.1 (can_nonneg hs0 hc.1)
    rw [runL]
    cases k with
    | zero =>
      simp only [List.take_succ_cons, List.take_zero, finF]
      refine ⟨?_, ?_, ?_⟩
      · show max a (min (earlyL rs s) (s + pat)) ≤ max b (min h (s + pat)); omega
      · show max b (min h (s + pat)) ≤ max c (min (lateL rs s) (s + pat)); omega
      · show n = n + ((0 : Nat) : Int); omega
    | succ k =>
      have ih := run_span ss hs (n + 1) (max a (min (earlyL rs s) (s + pat))) (recvE n b h (s + pat)).f1 (max c (min (lateL rs s) (s + pat))) (fun t ht => ho t (List.mem_cons_of_mem _ ht)) hc.2
        (by show max a (min (earlyL rs s) (s + pat)) ≤ max b (min h (s + pat)); omega) (by show max b (min h (s + pat)) ≤ max c (min (lateL rs s) (s + pat)); omega) k (by simpa using hk)
      have e : rd_T87 (recvE n b h (s + pat) :: runL pat (n + 1) (recvE n b h (s + pat)).f1 ss hs) ((k + 1 : Nat) : Int) = rd_T87 (runL pat (n + 1) (recvE n b h (s + pat)).f1 ss hs) (k : Int) := by
        unfold rd_T87; rw [Int.toNat_natCast, Int.toNat_natCast, List.getD_cons_succ]
      rw [e, List.take_succ_cons, finF, finF]
      refine ⟨ih.1, ih.2.1, by rw [ih.2.2]; omega⟩
theorem canAll_map (F : List S122 → Int → Int) : ∀ ss : List Int, (∀ s ∈ ss, canL rs s (F rs s) (F rs s == 101) = true) → CanAll rs ss (ss.map (F rs))
  | [], _ => trivial
  | s :: ss, h => ⟨h s List.mem_cons_self, canAll_map F ss (fun t ht => h t (List.mem_cons_of_mem _ ht))⟩
theorem run_map (F : List S122 → Int → Int) : ∀ (ss : List Int) (n b : Int) (k : Nat), k < ss.length → (rd_T87 (runL pat n b ss (ss.map (F rs))) (k : Int)).f1 = finF F rs pat b (ss.take (k + 1))
  | [], _, _, k, hk => by cases hk
  | s :: ss, n, b, k, hk => by
    rw [List.map_cons, runL]
    cases k with
    | zero => rfl
    | succ k =>
      have e : rd_T87 (recvE n b (F rs s) (s + pat) :: runL pat (n + 1) (recvE n b (F rs s) (s + pat)).f1 ss (ss.map (F rs))) ((k + 1 : Nat) : Int) = rd_T87 (runL pat (n + 1) (recvE n b (F rs s) (s + pat)).f1 ss (ss.map (F rs))) (k : Int) := by
        unfold rd_T87; rw [Int.toNat_natCast, Int.toNat_natCast, List.getD_cons_succ]
      rw [e, run_map F ss (n + 1) _ k (by simpa using hk), List.take_succ_cons, finF]
      rfl
theorem canL_early (V : Valid sends rs pat) {s : Int} (hs : s ∈ sends) : canL rs s (earlyL rs s) (earlyL rs s == 101) = true := by
  obtain ⟨he, h1, _⟩ := can_ends (V.setsOk hs)
  have e : (((earlyL rs s).toNat : Nat) : Int) = earlyL rs s := Int.toNat_of_nonneg he.1
  have := comL_can rs (V.setsOk hs) (earlyL rs s).toNat (by omega)
  rw [e] at this
  rw [← this]; exact he.2.2.1
/-- The entry of an end: some truth explains it. -/
theorem end_reached (V : Valid sends rs pat) (F : List S122 → Int → Int) (hF : ∀ s ∈ sends, canL rs s (F rs s) (F rs s == 101) = true) {k : Nat} (hk : k < sends.length) :
    ∃ sk : Bool, (srchL rs pat [⟨(k : Int), finF F rs pat 0 (sends.take (k + 1)), sk⟩] sends 0 0).isSome = true := by
  have hc := canAll_map F sends hF
  have h1 := run_map (rs := rs) (pat := pat) F sends 0 0 k hk
  obtain ⟨_, _, h2⟩ := run_span (pat := pat) sends (sends.map (F rs)) 0 0 0 0 (fun s hs => V.setsOk hs) hc (Int.le_refl _) (Int.le_refl _) k hk
  refine ⟨(rd_T87 (runL pat 0 0 sends (sends.map (F rs))) (k : Int)).f2, srchL_of pat _ sends 0 0 (sends.map (F rs)) hc (canAll_nonneg (fun s hs => V.setsOk hs) hc) ?_⟩
  have := (agrees_iff [⟨(k : Int), finF F rs pat 0 (sends.take (k + 1)), (rd_T87 (runL pat 0 0 sends (sends.map (F rs))) (k : Int)).f2⟩] (runL pat 0 0 sends (sends.map (F rs))) 0).2
  refine this (fun x hx _ _ => ?_)
  obtain rfl := List.mem_singleton.1 hx
  show rd_T87 _ ((k : Int) - ((0 : Nat) : Int)) = _
  rw [show (k : Int) - ((0 : Nat) : Int) = (k : Int) by omega, ← h1]
  have h3 : (rd_T87 (runL pat 0 0 sends (sends.map (F rs))) (k : Int)).f0 = (k : Int) := by rw [h2]; omega
  generalize rd_T87 (runL pat 0 0 sends (sends.map (F rs))) (k : Int) = z at h3 ⊢
  obtain ⟨a, b, c⟩ := z
  dsimp only at h3 ⊢
  rw [h3]
/-- No truth explains an hour beyond a span. -/
theorem end_beyond (V : Valid sends rs pat) {k : Nat} (hk : k < sends.length) {y : Int} {sk : Bool} (h : (srchL rs pat [⟨(k : Int), y, sk⟩] sends 0 0).isSome = true) : (spanAt sends rs pat k).f0 ≤ y ∧ y ≤ (spanAt sends rs pat k).f1 := by
  obtain ⟨hs, hh⟩ := Option.isSome_iff_exists.1 h
  obtain ⟨hc, ha⟩ := srchL_spec pat _ sends 0 0 hs hh
  obtain ⟨r1, r2, r3⟩ := run_span (pat := pat) sends hs 0 0 0 0 (fun s hs => V.setsOk hs) hc (Int.le_refl _) (Int.le_refl _) k hk
  have := (agrees_iff [⟨(k : Int), y, sk⟩] (runL pat 0 0 sends hs) 0).1 ha _ List.mem_cons_self (by show ((0 : Nat) : Int) ≤ (k : Int); omega) (by rw [runL_len pat sends hs 0 0 hc.len]; show (k : Int) < _; omega)
  have h4 : rd_T87 (runL pat 0 0 sends hs) (k : Int) = ⟨(k : Int), y, sk⟩ := by
    rw [← this]; congr 1
  rw [h4] at r1 r2
  exact ⟨r1, r2⟩
theorem span_bounds (V : Valid sends rs pat) {k : Nat} (hk : k < sends.length) : 0 ≤ (spanAt sends rs pat k).f0 ∧ (spanAt sends rs pat k).f0 ≤ (spanAt sends rs pat k).f1 ∧ (spanAt sends rs pat k).f1 ≤ 60 := by
  have hb : ∀ (F : List S122 → Int → Int) (ss : List Int) (a : Int), (∀ s ∈ ss, s ∈ sends) → 0 ≤ a → a ≤ 60 → 0 ≤ finF F rs pat a ss ∧ finF F rs pat a ss ≤ 60 := by
    intro F ss
    induction ss with
    | nil => intro a _ h0 h1; exact ⟨h0, h1⟩
    | cons s ss ih =>
      intro a hm h0 h1
      have := V.s0 s (hm s List.mem_cons_self)
      have := V.p0
      rw [finF]
      exact ih _ (fun t ht => hm t (List.mem_cons_of_mem _ ht)) (by omega) (by omega)
  have hm : ∀ s ∈ sends.take (k + 1), s ∈ sends := fun s hs => List.mem_of_mem_take hs
  refine ⟨(hb earlyL _ 0 hm (by omega) (by omega)).1, ?_, (hb lateL _ 0 hm (by omega) (by omega)).2⟩
  refine finF_le _ 0 0 (Int.le_refl _) (fun s hs => ?_)
  have := can_between (V.setsOk (hm s hs)) (canL_early V (hm s hs)) (can_nonneg (V.setsOk (hm s hs)) (canL_early V (hm s hs)))
  omega
/-- What Explain says of one entry. -/
theorem explain_one (V : Valid sends rs pat) (hck : check sends rs pat = 0) {k : Nat} (hk : k < sends.length) {y : Int} (hy : 0 ≤ y ∧ y ≤ 100) (sk : Bool) :
    ((srchL rs pat [⟨(k : Int), y, sk⟩] sends 0 0).isSome = true ∧ (explainRes sends rs pat [⟨(k : Int), y, sk⟩]).2 = 0) ∨ ((srchL rs pat [⟨(k : Int), y, sk⟩] sends 0 0).isSome = false ∧ (explainRes sends rs pat [⟨(k : Int), y, sk⟩]).2 = 9) := by
  have hb : bookedL sends rs pat [⟨(k : Int), y, sk⟩] = 0 := by
    rw [bookedL, if_neg (by rw [hck]; exact fun e => e rfl), if_neg (by simp), if_pos]
    simp only [List.all_cons, List.all_nil, Bool.and_true, entOk, Bool.and_eq_true, inB_iff]
    omega
  rw [explainRes, if_neg (by rw [hb]; exact fun e => e rfl)]
  cases srchL rs pat [⟨(k : Int), y, sk⟩] sends 0 0 with
  | none => exact .inr ⟨rfl, rfl⟩
  | some hs => exact .inl ⟨rfl, rfl⟩
/-- The hours that CopiesEnds tries. -/
def triedL (sp : S68) (i : Nat) : Int := [sp.f0, sp.f1, sp.f0 - 1, sp.f1 + 1].getD i 0
/-- CopiesEnds, in plain words. -/
theorem ends_law (V : Valid sends rs pat) (hck : check sends rs pat = 0) {k : Nat} (hk : k < sends.length) {i : Nat} (hi : i < 4) :
    (i < 2 → inB 0 100 (triedL (spanAt sends rs pat k) i) = true) ∧ (inB 0 100 (triedL (spanAt sends rs pat k) i) = true →
      ((explainRes sends rs pat [⟨(k : Int), triedL (spanAt sends rs pat k) i, false⟩]).2 = 0 ∨ (explainRes sends rs pat [⟨(k : Int), triedL (spanAt sends rs pat k) i, false⟩]).2 = 9) ∧
      ((explainRes sends rs pat [⟨(k : Int), triedL (spanAt sends rs pat k) i, true⟩]).2 = 0 ∨ (explainRes sends rs pat [⟨(k : Int), triedL (spanAt sends rs pat k) i, true⟩]).2 = 9) ∧
      (((explainRes sends rs pat [⟨(k : Int), triedL (spanAt sends rs pat k) i, false⟩]).2 = 0 ∨ (explainRes sends rs pat [⟨(k : Int), triedL (spanAt sends rs pat k) i, true⟩]).2 = 0) ↔ i < 2)) := by
  have hsb := span_bounds V hk
  have hcases : i = 0 ∨ i = 1 ∨ i = 2 ∨ i = 3 := by omega
  have key : ∀ y : Int, 0 ≤ y → y ≤ 100 → ((explainRes sends rs pat [⟨(k : Int), y, false⟩]).2 = 0 ∨ (explainRes sends rs pat [⟨(k : Int), y, false⟩]).2 = 9) ∧ ((explainRes sends rs pat [⟨(k : Int), y, true⟩]).2 = 0 ∨ (explainRes sends rs pat [⟨(k : Int), y, true⟩]).2 = 9) := fun y h0 h1 =>
    ⟨(explain_one V hck hk ⟨h0, h1⟩ false).imp (·.2) (·.2), (explain_one V hck hk ⟨h0, h1⟩ true).imp (·.2) (·.2)⟩
  have good : ∀ y : Int, 0 ≤ y → y ≤ 100 → (∃ sk : Bool, (srchL rs pat [⟨(k : Int), y, sk⟩] sends 0 0).isSome = true) → ((explainRes sends rs pat [⟨(k : Int), y, false⟩]).2 = 0 ∨ (explainRes sends rs pat [⟨(k : Int), y, true⟩]).2 = 0) := by
    rintro y h0 h1 ⟨sk, hs⟩
    have := explain_one V hck hk ⟨h0, h1⟩ sk
    rw [hs] at this
    rcases this with ⟨_, h⟩ | ⟨h, _⟩
    · cases sk
      · exact .inl h
      · exact .inr h
    · cases h
  have bad : ∀ y : Int, 0 ≤ y → y ≤ 100 → (y < (spanAt sends rs pat k).f0 ∨ (spanAt sends rs pat k).f1 < y) → ¬ ((explainRes sends rs pat [⟨(k : Int), y, false⟩]).2 = 0 ∨ (explainRes sends rs pat [⟨(k : Int), y, true⟩]).2 = 0) := by
    intro y h0 h1 hout hz
    have no : ∀ sk : Bool, (explainRes sends rs pat [⟨(k : Int), y, sk⟩]).2 = 0 → False := fun sk e => by
      rcases explain_one V hck hk ⟨h0, h1⟩ sk with ⟨h, _⟩ | ⟨_, h⟩
      · have := end_beyond V hk h; omega
      · omega
    rcases hz with h | h
    · exact no _ h
    · exact no _ h
  rcases hcases with rfl | rfl | rfl | rfl
  · have e : triedL (spanAt sends rs pat k) 0 = (spanAt sends rs pat k).f0 := rfl
    rw [e]
    refine ⟨fun _ => inB_iff.2 (by omega), fun _ => ⟨(key _ (by omega) (by omega)).1, (key _ (by omega) (by omega)).2, fun _ => by omega, fun _ => good _ (by omega) (by omega) (end_reached V earlyL (fun s hs => canL_early V hs) hk)⟩⟩
  · have e : triedL (spanAt sends rs pat k) 1 = (spanAt sends rs pat k).f1 := rfl
    rw [e]
    refine ⟨fun _ => inB_iff.2 (by omega), fun _ => ⟨(key _ (by omega) (by omega)).1, (key _ (by omega) (by omega)).2, fun _ => by omega, fun _ => good _ (by omega) (by omega) (end_reached V lateL (fun s hs => (can_late V hs).2) hk)⟩⟩
  · have e : triedL (spanAt sends rs pat k) 2 = (spanAt sends rs pat k).f0 - 1 := rfl
    rw [e]
    refine ⟨fun h => by omega, fun h => ?_⟩
    rw [inB_iff] at h
    exact ⟨(key _ h.1 h.2).1, (key _ h.1 h.2).2, fun hz => absurd hz (bad _ h.1 h.2 (by omega)), fun h => by omega⟩
  · have e : triedL (spanAt sends rs pat k) 3 = (spanAt sends rs pat k).f1 + 1 := rfl
    rw [e]
    refine ⟨fun h => by omega, fun h => ?_⟩
    rw [inB_iff] at h
    exact ⟨(key _ h.1 h.2).1, (key _ h.1 h.2).2, fun hz => absurd hz (bad _ h.1 h.2 (by omega)), fun h => by omega⟩
end
end Go.Proofs.Ytiephlhohgohcaa.PAll
