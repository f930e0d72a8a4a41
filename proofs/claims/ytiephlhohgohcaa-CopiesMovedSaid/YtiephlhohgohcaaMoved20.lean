/- Part 20 of what the row rests on: each text as it stands among the working texts, cut to what is used; those of the print of the kit as a program printed them. -/
import Derived.Test.YtiephlhohgohcaaMoved19
import Derived.Test.YtiephlhohgohcaaMoved12
import Derived.Test.YtiephlhohgohcaaMoved14
import Derived.Test.YtiephlhohgohcaaMoved6
import Derived.Test.YtiephlhohgohcaaMoved18
import Derived.Test.YtiephlhohgohcaaMoved16
import Derived.Test.YtiephlhohgohcaaMoved5
import Derived.Test.YtiephlhohgohcaaMoved8
import Derived.Test.YtiephlhohgohcaaMoved17
import Derived.Laws.Tables
import Derived.BigQuiet
set_option linter.unusedVariables false
set_option linter.unusedSimpArgs false
namespace Go.Proofs.Ytiephlhohgohcaa.PAll
open Go.RowKit Go.Proofs.YtiephlhohgohcaaW.PrintWords Go.Proofs.YtiephlhohgohcaaW.PrintLast Go.Proofs.YtiephlhohgohcaaW.PrintMore
attribute [local go_sem] max2_int min2_int max_two min_two max_three min_three max_four min_four
set_option linter.unusedVariables false
set_option linter.unusedSimpArgs false
/-- The cells of a set of hours, 0 to 101. -/
def rcells (f : Int → Bool) : Array Value := ((List.range 102).map (fun j : Nat => Value.bool (f (j : Int)))).toArray
theorem rcells_size (f : Int → Bool) : (rcells f).size = 102 := by simp [rcells]
theorem rcells_at (f : Int → Bool) {j : Nat} (hj : j < 102) : (rcells f)[j]? = some (.bool (f (j : Int))) := by simp [rcells, hj]
theorem rcells_set (f : Int → Bool) {j : Nat} (hj : j < 102) : (rcells f).setIfInBounds j (.bool true) = rcells (fun x => f x || x == (j : Int)) := by
  apply Array.ext
  · simp [rcells_size]
  · intro i h1 h2
    rw [rcells_size] at h2
    rw [Array.getElem_setIfInBounds (by rw [rcells_size]; exact h2)]
    simp only [rcells, List.getElem_toArray, List.getElem_map, List.getElem_range]
    by_cases e : j = i
    · subst e; simp
    · rw [if_neg e]
      have : ((i : Int) == (j : Int)) = false := beq_eq_false_iff_ne.2 (by omega)
      rw [this, Bool.or_false]
theorem rcells_congr {f g : Int → Bool} (h : ∀ j : Nat, j < 102 → f (j : Int) = g (j : Int)) : rcells f = rcells g := by
  unfold rcells
  congr 1
  apply List.map_congr_left
  intro j hj
  rw [h j (List.mem_range.1 hj)]
/-- A block that is the set f. -/
def RSet (W : World) (b : Nat) (f : Int → Bool) : Prop := W.heap[b]? = some (.cells (rcells f) 50 (0, 0))
theorem RSet.cell {W : World} {b : Nat} {f : Int → Bool} (h : RSet W b f) {j : Nat} (hj : j < 102) : W.cell? ⟨b, j, none⟩ = some (.bool (f (j : Int))) := (blk_cell h j).trans (rcells_at f hj)
theorem RSet.frozen {W : World} {b : Nat} {f : Int → Bool} (h : RSet W b f) (j : Nat) : W.frozen? ⟨b, j, none⟩ = false := blk_frozen h j
theorem RSet.below {W W' : World} {b : Nat} {f : Int → Bool} (h : RSet W b f) (hb : Below W.heap.size W W') : RSet W' b f := blk_below h hb
theorem RSet.set {W : World} {b : Nat} {f : Int → Bool} (h : RSet W b f) {j : Nat} (hj : j < 102) : RSet (W.setCell ⟨b, j, none⟩ (.bool true)) b (fun x => f x || x == (j : Int)) := by
  have := blk_set h j (.bool true)
  rw [rcells_set f hj] at this
  exact this
theorem RSet.far {W : World} {b : Nat} {f : Int → Bool} (h : RSet W b f) {p : Addr} (hp : b ≠ p.block) (u : Value) : RSet (W.setCell p u) b f := blk_far h hp u
end Go.Proofs.Ytiephlhohgohcaa.PAll
namespace Go.Proofs.Ytiephlhohgohcaa.PAll
open Go.RowKit Go.Proofs.YtiephlhohgohcaaW.PrintWords Go.Proofs.YtiephlhohgohcaaW.PrintLast Go.Proofs.YtiephlhohgohcaaW.PrintMore
attribute [local go_sem] max2_int min2_int max_two min_two max_three min_three max_four min_four
set_option linter.unusedVariables false
set_option linter.unusedSimpArgs false
theorem heap_setRow_other (w : World) (g k : Nat) (cs : Array Value) (h : k ≠ g) : (w.setRow g cs).heap[k]? = w.heap[k]? := by
  simp only [World.setRow, Array.getElem?_modify]
  rw [if_neg (by omega)]
theorem below_setRow {B : Nat} {a w : World} {g : Nat} (h : Below B a w) (hg : B ≤ g) (cs : Array Value) : Below B a (w.setRow g cs) :=
  h.trans ⟨rfl, rfl, rfl, by simp, fun k hk => heap_setRow_other w g k cs (by omega)⟩
end Go.Proofs.Ytiephlhohgohcaa.PAll
namespace Go.Proofs.Ytiephlhohgohcaa.PAll
open Go.RowKit Go.Proofs.YtiephlhohgohcaaW.PrintWords Go.Proofs.YtiephlhohgohcaaW.PrintLast Go.Proofs.YtiephlhohgohcaaW.PrintMore
attribute [local go_sem] max2_int min2_int max_two min_two max_three min_three max_four min_four
set_option linter.unusedVariables false
set_option linter.unusedSimpArgs false
theorem rcells_put (f : Int → Bool) {j : Nat} (hj : j < 102) (v : Bool) : (rcells f).setIfInBounds j (.bool v) = rcells (fun x => if x = (j : Int) then v else f x) := by
  apply Array.ext
  · simp [rcells_size]
  · intro i h1 h2
    rw [rcells_size] at h2
    rw [Array.getElem_setIfInBounds (by rw [rcells_size]; exact h2)]
    simp only [rcells, List.getElem_toArray, List.getElem_map, List.getElem_range]
    by_cases e : j = i
    · subst e; simp
    · rw [if_neg e, if_neg (by omega)]
theorem RSet.put {W : World} {b : Nat} {f : Int → Bool} (h : RSet W b f) {j : Nat} (hj : j < 102) (v : Bool) : RSet (W.setCell ⟨b, j, none⟩ (.bool v)) b (fun x => if x = (j : Int) then v else f x) := by
  have := blk_set h j (.bool v)
  rw [rcells_put f hj v] at this
  exact this
theorem RSet.congr {W : World} {b : Nat} {f g : Int → Bool} (h : RSet W b f) (hfg : ∀ j : Nat, j < 102 → f (j : Int) = g (j : Int)) : RSet W b g := by
  unfold RSet at h ⊢
  rw [h, rcells_congr hfg]
theorem BoxAt.far {w W : World} {A0 : Option Addr} {c0 n0 : Nat} {A1 : Option Addr} {c1 n1 : Nat} {pat : Int} (h : BoxAt w W A0 c0 n0 A1 c1 n1 pat) {p : Addr} (hp : w.heap.size < p.block) (u : Value) : BoxAt w (W.setCell p u) A0 c0 n0 A1 c1 n1 pat :=
  ⟨h.below.setCell (by omega) u, blk_far h.box (by omega) u⟩
theorem BoxAt.row {w W : World} {A0 : Option Addr} {c0 n0 : Nat} {A1 : Option Addr} {c1 n1 : Nat} {pat : Int} (h : BoxAt w W A0 c0 n0 A1 c1 n1 pat) {g : Nat} (hg : w.heap.size < g) (cs : Array Value) : BoxAt w (W.setRow g cs) A0 c0 n0 A1 c1 n1 pat :=
  ⟨below_setRow h.below (by omega) cs, (heap_setRow_other W g _ cs (by omega)).trans h.box⟩
theorem RSet.row {W : World} {b : Nat} {f : Int → Bool} (h : RSet W b f) {g : Nat} (hg : b ≠ g) (cs : Array Value) : RSet (W.setRow g cs) b f := (heap_setRow_other W g b cs hg).trans h
end Go.Proofs.Ytiephlhohgohcaa.PAll
namespace Go.Proofs.Ytiephlhohgohcaa.PAll
open Go.RowKit Go.Proofs.YtiephlhohgohcaaW.PrintWords Go.Proofs.YtiephlhohgohcaaW.PrintLast Go.Proofs.YtiephlhohgohcaaW.PrintMore
attribute [local go_sem] max2_int min2_int max_two min_two max_three min_three max_four min_four
set_option linter.unusedVariables false
set_option linter.unusedSimpArgs false
def loK (f : Int → Bool) : Nat → Int
  | 0 => 102
  | k + 1 => if f (k : Int) = true then min (loK f k) (k : Int) else loK f k
def hiK (f : Int → Bool) : Nat → Int
  | 0 => -1
  | k + 1 => if f (k : Int) = true then (k : Int) else hiK f k
end Go.Proofs.Ytiephlhohgohcaa.PAll
namespace Go.Proofs.Ytiephlhohgohcaa.PAll
open Go.RowKit Go.Proofs.YtiephlhohgohcaaW.PrintWords Go.Proofs.YtiephlhohgohcaaW.PrintLast Go.Proofs.YtiephlhohgohcaaW.PrintMore
set_option linter.unusedVariables false
set_option linter.unusedSimpArgs false
theorem loK_spec (f : Int → Bool) : ∀ k : Nat, k ≤ 102 → (∀ y : Nat, y < k → f y = true → loK f k ≤ y) ∧ ((loK f k = 102 ∧ ∀ y : Nat, y < k → f y = false) ∨ ∃ y : Nat, y < k ∧ f y = true ∧ loK f k = y)
  | 0, _ => ⟨fun y hy => by omega, .inl ⟨rfl, fun y hy => by omega⟩⟩
  | k + 1, hk => by
    obtain ⟨h1, h2⟩ := loK_spec f k (by omega)
    rw [loK]
    cases hf : f (k : Int) with
    | true =>
      rw [if_pos rfl]
      refine ⟨fun y hy hy2 => ?_, .inr ?_⟩
      · by_cases e : y = k
        · subst e; omega
        · have := h1 y (by omega) hy2; omega
      · rcases h2 with ⟨h2, _⟩ | ⟨y, hy, hy2, h2⟩
        · exact ⟨k, by omega, hf, by omega⟩
        · have := h1 y hy hy2
          exact ⟨y, by omega, hy2, by omega⟩
    | false =>
      rw [if_neg (by simp)]
      refine ⟨fun y hy hy2 => ?_, ?_⟩
      · by_cases e : y = k
        · subst e; rw [hf] at hy2; cases hy2
        · exact h1 y (by omega) hy2
      · rcases h2 with ⟨h2, h3⟩ | ⟨y, hy, hy2, h2⟩
        · refine .inl ⟨h2, fun y hy => ?_⟩
          by_cases e : y = k
          · subst e; exact hf
          · exact h3 y (by omega)
        · exact .inr ⟨y, by omega, hy2, h2⟩
theorem hiK_spec (f : Int → Bool) : ∀ k : Nat, (∀ y : Nat, y < k → f y = true → (y : Int) ≤ hiK f k) ∧ ((hiK f k = -1 ∧ ∀ y : Nat, y < k → f y = false) ∨ ∃ y : Nat, y < k ∧ f y = true ∧ hiK f k = y)
  | 0 => ⟨fun y hy => by omega, .inl ⟨rfl, fun y hy => by omega⟩⟩
  | k + 1 => by
    obtain ⟨h1, h2⟩ := hiK_spec f k
    rw [hiK]
    cases hf : f (k : Int) with
    | true =>
      rw [if_pos rfl]
      exact ⟨fun y hy hy2 => by omega, .inr ⟨k, by omega, hf, rfl⟩⟩
    | false =>
      rw [if_neg (by simp)]
      refine ⟨fun y hy hy2 => ?_, ?_⟩
      · by_cases e : y = k
        · subst e; rw [hf] at hy2; cases hy2
        · exact h1 y (by omega) hy2
      · rcases h2 with ⟨h2, h3⟩ | ⟨y, hy, hy2, h2⟩
        · refine .inl ⟨h2, fun y hy => ?_⟩
          by_cases e : y = k
          · subst e; exact hf
          · exact h3 y (by omega)
        · exact .inr ⟨y, by omega, hy2, h2⟩
/-- The least and the greatest number of a set. -/
def EndsOf (f : Int → Bool) (a b : Int) : Prop := 0 ≤ a ∧ b ≤ 101 ∧ f a = true ∧ f b = true ∧ ∀ y : Nat, f y = true → y ≤ 101 → a ≤ y ∧ (y : Int) ≤ b
theorem EndsOf.lo {f : Int → Bool} {a b : Int} (h : EndsOf f a b) (ha : a ≤ 101) : loK f 102 = a := by
  obtain ⟨h0, h1, h2, h3, h4⟩ := h
  obtain ⟨s1, s2⟩ := loK_spec f 102 (by omega)
  have e : ((a.toNat : Nat) : Int) = a := Int.toNat_of_nonneg h0
  have := s1 a.toNat (by omega) (by rw [e]; exact h2)
  rcases s2 with ⟨s2, _⟩ | ⟨y, hy, hy2, s2⟩
  · omega
  · have := h4 y hy2 (by omega); omega
theorem EndsOf.hi {f : Int → Bool} {a b : Int} (h : EndsOf f a b) (hb : 0 ≤ b) : hiK f 102 = b := by
  obtain ⟨h0, h1, h2, h3, h4⟩ := h
  obtain ⟨s1, s2⟩ := hiK_spec f 102
  have e : ((b.toNat : Nat) : Int) = b := Int.toNat_of_nonneg hb
  have := s1 b.toNat (by omega) (by rw [e]; exact h3)
  rcases s2 with ⟨s2, _⟩ | ⟨y, hy, hy2, s2⟩
  · omega
  · have := h4 y hy2 (by omega); omega
theorem early_spec (s : Int) : ∀ (rs : List S122) (n : Int), (rs.foldl (fun n r => min n (firstOf (setsOf r.f0 s))) n ≤ n) ∧ (∀ r ∈ rs, rs.foldl (fun n r => min n (firstOf (setsOf r.f0 s))) n ≤ firstOf (setsOf r.f0 s)) ∧
    (rs.foldl (fun n r => min n (firstOf (setsOf r.f0 s))) n = n ∨ ∃ r ∈ rs, rs.foldl (fun n r => min n (firstOf (setsOf r.f0 s))) n = firstOf (setsOf r.f0 s))
  | [], n => ⟨Int.le_refl _, fun r hr => (List.not_mem_nil hr).elim, .inl rfl⟩
  | a :: rs, n => by
    obtain ⟨h1, h2, h3⟩ := early_spec s rs (min n (firstOf (setsOf a.f0 s)))
    rw [List.foldl_cons]
    refine ⟨by omega, fun r hr => ?_, ?_⟩
    · rcases List.mem_cons.1 hr with rfl | hr
      · omega
      · exact h2 r hr
    · rcases h3 with h3 | ⟨r, hr, h3⟩
      · by_cases e : n ≤ firstOf (setsOf a.f0 s)
        · exact .inl (by omega)
        · exact .inr ⟨a, List.mem_cons_self, by omega⟩
      · exact .inr ⟨r, List.mem_cons_of_mem _ hr, h3⟩
theorem can_ends {rs : List S122} {s : Int} (h : SetsOk rs s) : EndsOf (comL rs s) (earlyL rs s) (lateL rs s) ∧ earlyL rs s ≤ 101 ∧ 0 ≤ lateL rs s := by
  obtain ⟨e1, e2, e3⟩ := early_spec s rs 101
  have e0 : 0 ≤ earlyL rs s := by
    rcases e3 with e3 | ⟨r, hr, e3⟩
    · rw [earlyL, e3]; omega
    · have := (mem_hoursOf.1 (firstOf_mem (h r hr).1)).1
      rw [earlyL, e3]; exact this
  have hl := can_late' h
  have hlm := lateL_le rs s
  have nat : ∀ y : Int, 0 ≤ y → y ≤ 101 → comL rs s y = canL rs s y (y == 101) := fun y h0 h1 => by
    have := comL_can rs h y.toNat (by omega)
    rw [Int.toNat_of_nonneg h0] at this
    exact this
  refine ⟨⟨e0, hlm, ?_, ?_, fun y hy hy1 => ?_⟩, e1, hl.1⟩
  · rw [nat _ e0 e1, canL_iff]
    refine ⟨fun r hr => .inr ?_, ?_⟩
    · have a1 := e2 r hr
      have a2 := firstOf_le (lastOf_mem (h r hr).1)
      exact Int.le_trans a1 a2
    · rcases e3 with e3 | ⟨r, hr, e3⟩
      · exact .inl e3
      · have a1 := mem_hoursOf.1 (firstOf_mem (h r hr).1)
        have a2 := (h r hr).2 _ a1.2.2
        refine .inr ⟨by show earlyL rs s < 101; rw [earlyL, e3]; omega, r, hr, ?_⟩
        rw [earlyL, e3]; exact a1.2.2
  · rw [nat _ hl.1 hlm]; exact hl.2
  · rw [nat _ (by omega) (by omega), canL_iff] at hy
    obtain ⟨c1, c2⟩ := hy
    constructor
    · rcases c2 with c2 | ⟨c2, r, hr, c3⟩
      · exact Int.le_trans e1 (by omega)
      · have a1 := e2 r hr
        have a2 := firstOf_le (x := (y : Int)) (mem_hoursOf.2 ⟨by omega, by omega, c3⟩)
        exact Int.le_trans a1 a2
    · obtain ⟨l1, l2⟩ := lateF_mem s rs 101
      rw [← lateL_F] at l1 l2
      rcases l2 with l2 | ⟨r, hr, hf, l2⟩
      · omega
      · rcases c1 r hr with c | c
        · rw [hf] at c; cases c
        · omega
end Go.Proofs.Ytiephlhohgohcaa.PAll
namespace Go.Proofs.Ytiephlhohgohcaa.PAll
open Go.RowKit Go.Proofs.YtiephlhohgohcaaW.PrintWords Go.Proofs.YtiephlhohgohcaaW.PrintLast Go.Proofs.YtiephlhohgohcaaW.PrintMore
set_option linter.unusedVariables false
set_option linter.unusedSimpArgs false
theorem u8_of {a : Int} (h : (Lit.int .u8 a).wf = true) : 0 ≤ a ∧ a ≤ 255 := by
  have h1 : IntKind.u8.min = 0 := by decide
  have h2 : IntKind.u8.max = 255 := by decide
  simp [Lit.wf, h1, h2] at h
  omega
end Go.Proofs.Ytiephlhohgohcaa.PAll
namespace Go.Proofs.Ytiephlhohgohcaa.PAll
open Go.RowKit Go.Proofs.YtiephlhohgohcaaW.PrintWords Go.Proofs.YtiephlhohgohcaaW.PrintLast Go.Proofs.YtiephlhohgohcaaW.PrintMore
attribute [local go_sem] max2_int min2_int max_two min_two max_three min_three max_four min_four
set_option linter.unusedVariables false
set_option linter.unusedSimpArgs false
set_option maxRecDepth 100000 in
set_option maxHeartbeats 4000000 in
theorem ready54 (A0 : Option Addr) (c0 : Nat) (sends : List Int) (A1 : Option Addr) (c1 : Nat) (routes : List S54) (pat : Int) (rs : List S122) (w : World) (hrs : rs = routes.map toX) (h : PostAt w A0 c0 sends A1 c1 routes) :
    Calls Try.prog 54 #[.agg #[.slice A0 sends.length c0, .slice A1 routes.length c1, .int .i64 pat]] w fun e w' => e = .returned (.bool (thinB sends routes && check sends rs pat == 0)) ∧ Below w.heap.size w w' := by
  have HRS := Aside0.mk hrs
  clear hrs
  obtain ⟨R, hR⟩ : ∃ R, (thinB sends routes && check sends rs pat == 0) = R := ⟨_, rfl⟩
  have HRR := Aside0.mk hR
  rw [hR]
  clear hR
  obtain ⟨W1, hW1⟩ : ∃ W1, W1 = w.alloc (.cells #[.slice A0 sends.length c0, .slice A1 routes.length c1, .int .i64 pat] 25) := ⟨_, rfl⟩
  have hx := BoxAt.start w A0 c0 sends.length A1 c1 routes.length pat
  rw [← hW1] at hx
  have HX := Aside0.mk hx
  have HP := Aside0.mk h
  have x0 := hx.x0
  have x1 := hx.x1
  have x2 := hx.x2
  have HW1 := Aside0.mk hW1
  clear h hx hW1
  go_enter Try.func54, Try.ntmps54
  go_wp2_with fail
  rw [← HW1.out]
  clear HW1
  refine (thin18 pat (HP.out.below HX.out.below)).mono ?_
  rintro e w2 ⟨rfl, hb⟩
  replace HX := Aside0.mk (HX.out.later hb)
  clear hb x0 x1 x2
  cases hth : thinB sends routes with
  | false =>
    have HTH := Aside0.mk hth
    clear hth
    go_wp2_with fail
    go_ret
    exact ⟨by rw [← HRR.out, HTH.out]; rfl, HX.out.below⟩
  | true =>
    have HTH := Aside0.mk hth
    clear hth
    have x0 := HX.out.x0
    have x1 := HX.out.x1
    have x2 := HX.out.x2
    go_wp2_with fail
    refine (fault25 pat HRS.out (HP.out.below HX.out.below) (thin_spec HTH.out).1).mono ?_
    rintro e w3 ⟨rfl, hb⟩
    replace HX := Aside0.mk (HX.out.later hb)
    clear hb x0 x1 x2
    have HCC : Aside0 ((check sends rs pat == 0) = R) := ⟨by have := HRR.out; rw [HTH.out, Bool.true_and] at this; exact this⟩
    generalize check sends rs pat = ck at HCC ⊢
    by_cases hck : ck = 0
    · subst hck
      go_wp2_with fail
      go_ret
      exact ⟨by rw [← HCC.out]; rfl, HX.out.below⟩
    · have hcd : decide (ck = 0) = false := decide_eq_false hck
      have HCB := Aside0.mk (show (ck == 0) = false from beq_eq_false_iff_ne.2 hck)
      go_wp2_with fail
      go_ret
      exact ⟨by rw [← HCC.out, HCB.out]; rfl, HX.out.below⟩
end Go.Proofs.Ytiephlhohgohcaa.PAll
namespace Go.Proofs.Ytiephlhohgohcaa.PAll
open Go.RowKit Go.Proofs.YtiephlhohgohcaaW.PrintWords Go.Proofs.YtiephlhohgohcaaW.PrintLast Go.Proofs.YtiephlhohgohcaaW.PrintMore
attribute [local go_sem] max2_int min2_int max_two min_two max_three min_three max_four min_four
set_option linter.unusedVariables false
set_option linter.unusedSimpArgs false
/-- Words in memory. -/
structure WordsAt (w : World) (A : Option Addr) (c : Nat) (words : List Int) : Prop where
  at' : Kd.C (Kd.int .u16) w A words.length words
  cap : words.length ≤ c
  wf : ∀ x ∈ words, (Lit.int .u16 x).wf = true
  len : words.length ≤ 9223372036854775807
theorem WordsAt.below {w w' : World} {A : Option Addr} {c : Nat} {words : List Int} (h : WordsAt w A c words) (hb : Below w.heap.size w w') : WordsAt w' A c words := ⟨Kd.C_below h.at' hb, h.cap, h.wf, h.len⟩
/-- Rows of a truth that are made so far. -/
def RowsOk (rs : List S122) (t : List (List (List Int))) : Prop := ∀ l ∈ t, l.length = rs.length ∧ restRow true rs l = some true
theorem RowsOk.snoc {rs : List S122} {t : List (List (List Int))} {l : List (List Int)} (h : RowsOk rs t) (h1 : l.length = rs.length) (h2 : restRow true rs l = some true) : RowsOk rs (t ++ [l]) := by
  intro x hx
  rcases List.mem_append.1 hx with hx | hx
  · exact h x hx
  · obtain rfl := List.mem_singleton.1 hx; exact ⟨h1, h2⟩
end Go.Proofs.Ytiephlhohgohcaa.PAll
namespace Go.Proofs.Ytiephlhohgohcaa.PAll
open Go.RowKit Go.Proofs.YtiephlhohgohcaaW.PrintWords Go.Proofs.YtiephlhohgohcaaW.PrintLast Go.Proofs.YtiephlhohgohcaaW.PrintMore
set_option linter.unusedVariables false
set_option linter.unusedSimpArgs false
theorem finF_le {F G : List S122 → Int → Int} {rs rs' : List S122} {pat pat' : Int} : ∀ (ss : List Int) (a b : Int), a ≤ b → (∀ s ∈ ss, min (F rs s) (s + pat) ≤ min (G rs' s) (s + pat')) → finF F rs pat a ss ≤ finF G rs' pat' b ss
  | [], a, b, h, _ => h
  | s :: ss, a, b, h, hs => by
    have h1 := hs s List.mem_cons_self
    rw [finF, finF]
    exact finF_le ss _ _ (by omega) (fun t ht => hs t (List.mem_cons_of_mem _ ht))
end Go.Proofs.Ytiephlhohgohcaa.PAll
namespace Go.Proofs.Ytiephlhohgohcaa.PAll
open Go.RowKit Go.Proofs.YtiephlhohgohcaaW.PrintWords Go.Proofs.YtiephlhohgohcaaW.PrintLast Go.Proofs.YtiephlhohgohcaaW.PrintMore
set_option linter.unusedVariables false
set_option linter.unusedSimpArgs false
def lexLt : List Int → List Int → Bool
  | x :: a, y :: b => if x ≠ y then decide (x < y) else lexLt a b
  | _, _ => false
def lessB (a b : List Int) : Bool := if a.length = b.length then lexLt a b else decide (a.length < b.length)
theorem lexLt_tot : ∀ a b : List Int, a.length = b.length → a = b ∨ lexLt a b = true ∨ lexLt b a = true
  | [], [], _ => .inl rfl
  | [], y :: b, h => by simp at h
  | x :: a, [], h => by simp at h
  | x :: a, y :: b, h => by
    by_cases e : x = y
    · subst e
      rcases lexLt_tot a b (by simpa using h) with h1 | h1 | h1
      · exact .inl (by rw [h1])
      · exact .inr (.inl (by rw [lexLt, if_neg (by simp)]; exact h1))
      · exact .inr (.inr (by rw [lexLt, if_neg (by simp)]; exact h1))
    · rcases Int.lt_or_gt_of_ne e with h1 | h1
      · exact .inr (.inl (by rw [lexLt, if_pos e]; exact decide_eq_true h1))
      · exact .inr (.inr (by rw [lexLt, if_pos (fun q => e q.symm)]; exact decide_eq_true h1))
theorem lessB_tot (a b : List Int) : a = b ∨ lessB a b = true ∨ lessB b a = true := by
  unfold lessB
  by_cases e : a.length = b.length
  · rw [if_pos e, if_pos e.symm]
    exact lexLt_tot a b e
  · rw [if_neg e, if_neg (fun q => e q.symm)]
    rcases Nat.lt_or_gt_of_ne e with h | h
    · exact .inr (.inl (decide_eq_true h))
    · exact .inr (.inr (decide_eq_true h))
/-- The indexes of the entries that are left out, and the others. -/
def outs : Int → List Bool → List Int
  | _, [] => []
  | n, b :: bs => if b = true then n :: outs (n + 1) bs else outs (n + 1) bs
def keeps {α : Type} : List α → List Bool → List α
  | x :: xs, b :: bs => if b = true then keeps xs bs else x :: keeps xs bs
  | _, _ => []
end Go.Proofs.Ytiephlhohgohcaa.PAll
namespace Go.Proofs.Ytiephlhohgohcaa.PAll
open Go.RowKit Go.Proofs.YtiephlhohgohcaaW.PrintWords Go.Proofs.YtiephlhohgohcaaW.PrintLast Go.Proofs.YtiephlhohgohcaaW.PrintMore
set_option linter.unusedVariables false
set_option linter.unusedSimpArgs false
/-- A smallest set among those without which the others are explained. -/
def Least (E : List Bool → Bool) (n : Nat) (r : List Int) : Prop := (∃ bs : List Bool, bs.length = n ∧ E bs = true ∧ r = outs 0 bs) ∧ ∀ bs : List Bool, bs.length = n → E bs = true → lessB (outs 0 bs) r = false
theorem Least.only {E : List Bool → Bool} {n : Nat} {r q : List Int} (h : Least E n r) (k : Least E n q) : r = q := by
  obtain ⟨⟨a, a1, a2, rfl⟩, a4⟩ := h
  obtain ⟨⟨b, b1, b2, rfl⟩, b4⟩ := k
  rcases lessB_tot (outs 0 a) (outs 0 b) with h | h | h
  · exact h
  · rw [b4 a a1 a2] at h; cases h
  · rw [a4 b b1 b2] at h; cases h
end Go.Proofs.Ytiephlhohgohcaa.PAll
namespace Go.Proofs.Ytiephlhohgohcaa.PAll
open Go.RowKit Go.Proofs.YtiephlhohgohcaaW.PrintWords Go.Proofs.YtiephlhohgohcaaW.PrintLast Go.Proofs.YtiephlhohgohcaaW.PrintMore
set_option linter.unusedVariables false
set_option linter.unusedSimpArgs false
theorem sorted_ext : ∀ {a b : List Int}, a.Pairwise (· < ·) → b.Pairwise (· < ·) → (∀ x, x ∈ a ↔ x ∈ b) → a = b
  | [], [], _, _, _ => rfl
  | [], y :: b, _, _, h => by have := (h y).2 List.mem_cons_self; cases this
  | x :: a, [], _, _, h => by have := (h x).1 List.mem_cons_self; cases this
  | x :: a, y :: b, ha, hb, h => by
    obtain ⟨a1, a2⟩ := List.pairwise_cons.1 ha
    obtain ⟨b1, b2⟩ := List.pairwise_cons.1 hb
    have hxy : x = y := by
      rcases List.mem_cons.1 ((h x).1 List.mem_cons_self) with e | e
      · exact e
      · rcases List.mem_cons.1 ((h y).2 List.mem_cons_self) with e' | e'
        · exact e'.symm
        · have := a1 _ e'; have := b1 _ e; omega
    subst hxy
    rw [sorted_ext a2 b2 (fun z => ?_)]
    constructor
    · intro hz
      rcases List.mem_cons.1 ((h z).1 (List.mem_cons_of_mem _ hz)) with e | e
      · have := a1 _ hz; omega
      · exact e
    · intro hz
      rcases List.mem_cons.1 ((h z).2 (List.mem_cons_of_mem _ hz)) with e | e
      · have := b1 _ hz; omega
      · exact e
def shQ (n : Int) (q : S68) : S68 := ⟨q.f0 + n, q.f1 + n⟩
def shL (n : Int) (l : S119) : S119 := ⟨l.f0, l.f1.map (shQ n)⟩
def shR (n : Int) (r : S122) : S122 := ⟨r.f0.map (shL n), r.f1⟩
theorem asleep_sh (n : Int) (l : S119) (h : Int) : asleepAt (shL n l) (h + n) = asleepAt l h := by
  unfold asleepAt shL
  rw [List.any_map]
  congr 1
  funext q
  show inB (q.f0 + n) (q.f1 + n) (h + n) = inB q.f0 q.f1 h
  rw [Bool.eq_iff_iff, inB_iff, inB_iff]
  omega
theorem awakeF_sh (n : Int) (l : S119) : ∀ (k : Nat) (h : Int), awakeF k (shL n l) (h + n) = awakeF k l h + n
  | 0, h => rfl
  | k + 1, h => by
    rw [awakeF, awakeF, asleep_sh]
    split
    · rw [show h + n + 1 = (h + 1) + n by omega, awakeF_sh n l k]
    · rfl
theorem awakeL_sh (n : Int) (l : S119) (h : Int) : awakeL (shL n l) (h + n) = awakeL l h + n := awakeF_sh n l 40 h
theorem stepSet_iff {l : S119} {f : Int → Bool} {y : Int} : stepSet l f y = true ↔ ∃ h : Int, 0 ≤ h ∧ h < 101 ∧ f h = true ∧ ∃ m : Nat, m < (l.f0.f1 - l.f0.f0 + 1).toNat ∧ awakeL l (h + l.f0.f0 + (m : Int)) = y := by
  simp only [stepSet, manyB, oneB, List.any_eq_true, List.mem_range, beq_iff_eq, mem_hoursOf]
  constructor
  · rintro ⟨h, ⟨h0, h1, h2⟩, m, hm, e⟩; exact ⟨h, h0, by omega, h2, m, hm, e⟩
  · rintro ⟨h, h0, h1, h2, m, hm, e⟩; exact ⟨h, ⟨h0, by omega, h2⟩, m, hm, e⟩
theorem step_sh {n : Int} (hn : 0 ≤ n ∧ n ≤ 11) {l : S119} {f f' : Int → Bool} {B : Int} (hf : Upto f B) (hB : B ≤ 80) (he : ∀ x, f' x = f (x - n)) (y : Int) : stepSet (shL n l) f' y = stepSet l f (y - n) := by
  rw [Bool.eq_iff_iff, stepSet_iff, stepSet_iff]
  constructor
  · rintro ⟨h, h0, h1, h2, m, hm, e⟩
    rw [he] at h2
    have := hf _ h2
    refine ⟨h - n, this.1, by omega, h2, m, hm, ?_⟩
    have := awakeL_sh n l (h - n + l.f0.f0 + m)
    have e2 : h - n + l.f0.f0 + (m : Int) + n = h + l.f0.f0 + m := by omega
    rw [e2] at this
    have e3 : awakeL (shL n l) (h + l.f0.f0 + m) = y := e
    omega
  · rintro ⟨h, h0, h1, h2, m, hm, e⟩
    have hb := hf _ h2
    refine ⟨h + n, by omega, by omega, by rw [he]; rw [show h + n - n = h by omega]; exact h2, m, hm, ?_⟩
    show awakeL (shL n l) (h + n + l.f0.f0 + (m : Int)) = y
    have := awakeL_sh n l (h + l.f0.f0 + m)
    rw [show h + n + l.f0.f0 + (m : Int) = h + l.f0.f0 + m + n by omega]
    omega
theorem setsFrom_sh {n : Int} (hn : 0 ≤ n ∧ n ≤ 11) : ∀ (ls : List S119) (f f' : Int → Bool) (k : Nat), (∀ l ∈ ls, LegOk l) → Upto f (30 + 6 * k) → k + ls.length ≤ 6 → (∀ x, f' x = f (x - n)) → ∀ x, setsFrom (ls.map (shL n)) f' x = setsFrom ls f (x - n)
  | [], f, f', k, _, _, _, he, x => he x
  | l :: ls, f, f', k, hl, hf, hk, he, x => by
    have hl0 := hl l List.mem_cons_self
    rw [List.length_cons] at hk
    rw [List.map_cons, setsFrom, setsFrom]
    exact setsFrom_sh hn ls (stepSet l f) _ (k + 1) (fun z hz => hl z (List.mem_cons_of_mem _ hz)) (fun z hz => by have := step_upto hl0 hf (by omega) z hz; omega) (by omega) (fun z => step_sh hn hf (by omega) he z) x
theorem setsOf_sh {n : Int} (hn : 0 ≤ n ∧ n ≤ 11) {ls : List S119} (hl : ∀ l ∈ ls, LegOk l) (h5 : ls.length ≤ 5) {s : Int} (h0 : 0 ≤ s) (h1 : s ≤ 30) (x : Int) : setsOf (ls.map (shL n)) (s + n) x = setsOf ls s (x - n) := by
  refine setsFrom_sh hn ls (startSet s) _ 0 hl (fun z hz => by have := start_upto h0 h1 z hz; omega) (by omega) (fun z => ?_) x
  rw [Bool.eq_iff_iff]
  simp only [startSet, beq_iff_eq]
  omega
theorem hoursOf_sh {n : Int} (hn : 0 ≤ n ∧ n ≤ 11) {f f' : Int → Bool} {B : Int} (hf : Upto f B) (hB : B ≤ 80) (he : ∀ x, f' x = f (x - n)) : hoursOf f' 101 = (hoursOf f 101).map (fun x => x + n) := by
  refine sorted_ext (hoursOf_sorted _ _) ?_ (fun x => ?_)
  · rw [List.pairwise_map]
    exact (hoursOf_sorted f 101).imp (fun h => by omega)
  · rw [mem_hoursOf, List.mem_map]
    constructor
    · rintro ⟨h0, h1, h2⟩
      rw [he] at h2
      have := hf _ h2
      exact ⟨x - n, mem_hoursOf.2 ⟨this.1, by omega, h2⟩, by omega⟩
    · rintro ⟨y, hy, rfl⟩
      rw [mem_hoursOf] at hy
      have := hf _ hy.2.2
      exact ⟨by omega, by omega, by rw [he, show y + n - n = y by omega]; exact hy.2.2⟩
theorem ends_sh {n : Int} (hn : 0 ≤ n ∧ n ≤ 11) {f f' : Int → Bool} {B : Int} (hf : Upto f B) (hB : B ≤ 80) (he : ∀ x, f' x = f (x - n)) (hne : hoursOf f 101 ≠ []) : firstOf f' = firstOf f + n ∧ lastOf f' = lastOf f + n := by
  have h := hoursOf_sh hn hf hB he
  have hl : 0 < (hoursOf f 101).length := List.length_pos_iff.2 hne
  unfold firstOf lastOf
  rw [h, List.length_map]
  constructor
  · have : rd ((hoursOf f 101).map (fun x => x + n)) ((0 : Nat) : Int) = rd (hoursOf f 101) ((0 : Nat) : Int) + n := by
      rw [rdI (by rw [List.length_map]; exact hl), rdI hl, List.getElem_map]
    exact this
  · rw [rdI (by rw [List.length_map]; omega), rdI (by omega), List.getElem_map]
/-- Later by so much, or never. -/
def LaterBy (n a a' : Int) : Prop := a' = a + n ∨ (a = 101 ∧ a' = 101)
theorem fold_sh {n : Int} (hn : 0 ≤ n ∧ n ≤ 11) {s : Int} : ∀ (rs : List S122), (∀ r ∈ rs, hoursOf (setsOf r.f0 s) 101 ≠ [] ∧ Upto (setsOf r.f0 s) 48 ∧ ∀ x, setsOf (shR n r).f0 (s + n) x = setsOf r.f0 s (x - n)) →
    (∀ a a', LaterBy n a a' → LaterBy n (rs.foldl (fun n r => min n (firstOf (setsOf r.f0 s))) a) ((rs.map (shR n)).foldl (fun m r => min m (firstOf (setsOf r.f0 (s + n)))) a')) ∧
    (∀ a a', LaterBy n a a' → LaterBy n (rs.foldl (fun n r => if r.f1 = true then n else min n (lastOf (setsOf r.f0 s))) a) ((rs.map (shR n)).foldl (fun m r => if r.f1 = true then m else min m (lastOf (setsOf r.f0 (s + n)))) a'))
  | [], _ => ⟨fun _ _ h => h, fun _ _ h => h⟩
  | r :: rs, h => by
    obtain ⟨i1, i2⟩ := fold_sh hn rs (fun q hq => h q (List.mem_cons_of_mem _ hq))
    obtain ⟨r1, r2, r3⟩ := h r List.mem_cons_self
    obtain ⟨e1, e2⟩ := ends_sh hn r2 (by omega) r3 r1
    have b1 := r2 _ (mem_hoursOf.1 (firstOf_mem r1)).2.2
    have b2 := r2 _ (mem_hoursOf.1 (lastOf_mem r1)).2.2
    refine ⟨fun a a' ha => ?_, fun a a' ha => ?_⟩
    · rw [List.map_cons, List.foldl_cons, List.foldl_cons, e1]
      refine i1 _ _ ?_
      unfold LaterBy at ha ⊢
      omega
    · rw [List.map_cons, List.foldl_cons, List.foldl_cons, e2]
      refine i2 _ _ ?_
      show LaterBy n (if r.f1 = true then a else min a (lastOf (setsOf r.f0 s))) (if r.f1 = true then a' else min a' (lastOf (setsOf r.f0 s) + n))
      split
      · exact ha
      · unfold LaterBy at ha ⊢
        omega
theorem finF_sh {F : List S122 → Int → Int} {rs rs' : List S122} {pat n : Int} : ∀ (ss : List Int) (a : Int), (∀ s ∈ ss, min (F rs' (s + n)) (s + n + pat) = min (F rs s) (s + pat) + n) → finF F rs' pat (a + n) (ss.map (fun s => s + n)) = finF F rs pat a ss + n
  | [], a, _ => rfl
  | s :: ss, a, h => by
    have h1 := h s List.mem_cons_self
    rw [List.map_cons, finF, finF, h1, show max (a + n) (min (F rs s) (s + pat) + n) = max a (min (F rs s) (s + pat)) + n by omega]
    exact finF_sh ss _ (fun t ht => h t (List.mem_cons_of_mem _ ht))
theorem fin_sh {F : List S122 → Int → Int} {rs rs' : List S122} {pat n : Int} (hn : 0 ≤ n) {ss : List Int} (hne : ss ≠ []) (h0 : ∀ s ∈ ss, 0 ≤ min (F rs s) (s + pat)) (h : ∀ s ∈ ss, min (F rs' (s + n)) (s + n + pat) = min (F rs s) (s + pat) + n) : finF F rs' pat 0 (ss.map (fun s => s + n)) = finF F rs pat 0 ss + n := by
  cases ss with
  | nil => exact absurd rfl hne
  | cons s ss =>
    have h1 := h s List.mem_cons_self
    have h2 := h0 s List.mem_cons_self
    rw [List.map_cons, finF, finF, h1, show max 0 (min (F rs s) (s + pat) + n) = max 0 (min (F rs s) (s + pat)) + n by omega]
    exact finF_sh ss _ (fun t ht => h t (List.mem_cons_of_mem _ ht))
section
variable {sends : List Int} {rs : List S122} {pat : Int}
theorem Valid.sh (V : Valid sends rs pat) {n : Int} (hn : 0 ≤ n ∧ n ≤ 11) {s : Int} (hs : s ∈ sends) {r : S122} (hr : r ∈ rs) (x : Int) : setsOf (shR n r).f0 (s + n) x = setsOf r.f0 s (x - n) := by
  have h := V.s0 s hs
  have hl := V.ln r hr
  exact setsOf_sh hn (fun l hl => V.leg hr hl) (by omega) h.1 h.2 x
theorem Valid.late0 (V : Valid sends rs pat) {s : Int} (hs : s ∈ sends) : 0 ≤ earlyL rs s ∧ 0 ≤ lateL rs s := by
  have := can_ends (V.setsOk hs)
  exact ⟨this.1.1, this.2.2⟩
/-- Both ends of a span are later. -/
theorem span_sh (V : Valid sends rs pat) {n : Int} (hn : 0 ≤ n ∧ n ≤ 11) {i : Nat} (hi : i < sends.length) :
    spanAt (sends.map (fun s => s + n)) (rs.map (shR n)) pat i = ⟨(spanAt sends rs pat i).f0 + n, (spanAt sends rs pat i).f1 + n⟩ := by
  have hne : sends.take (i + 1) ≠ [] := by
    intro e
    have := congrArg List.length e
    rw [List.length_take, List.length_nil] at this
    omega
  have hf : ∀ s ∈ sends, LaterBy n (earlyL rs s) (earlyL (rs.map (shR n)) (s + n)) ∧ LaterBy n (lateL rs s) (lateL (rs.map (shR n)) (s + n)) := fun s hs => by
    obtain ⟨h1, h2⟩ := fold_sh hn (s := s) rs (fun r hr => ⟨(V.setAt hs hr).1, (V.setAt hs hr).2, fun x => V.sh hn hs hr x⟩)
    exact ⟨h1 101 101 (.inr ⟨rfl, rfl⟩), h2 101 101 (.inr ⟨rfl, rfl⟩)⟩
  have hb : ∀ s ∈ sends, 0 ≤ s + pat ∧ s + pat ≤ 60 := fun s hs => by have := V.s0 s hs; have := V.p0; omega
  unfold spanAt
  rw [← List.map_take]
  congr 1
  · refine fin_sh hn.1 hne (fun s hs => ?_) (fun s hs => ?_)
    · have hm := List.mem_of_mem_take hs; have := V.late0 hm; have := hb s hm; omega
    · have hm := List.mem_of_mem_take hs; have h1 := (hf s hm).1; have := hb s hm; unfold LaterBy at h1; omega
  · refine fin_sh hn.1 hne (fun s hs => ?_) (fun s hs => ?_)
    · have hm := List.mem_of_mem_take hs; have := V.late0 hm; have := hb s hm; omega
    · have hm := List.mem_of_mem_take hs; have h1 := (hf s hm).2; have := hb s hm; unfold LaterBy at h1; omega
theorem hours_sh (V : Valid sends rs pat) {n : Int} (hn : 0 ≤ n ∧ n ≤ 11) {s : Int} (hs : s ∈ sends) {r : S122} (hr : r ∈ rs) : hoursOf (setsOf (shR n r).f0 (s + n)) 101 = (hoursOf (setsOf r.f0 s) 101).map (fun x => x + n) :=
  hoursOf_sh hn (V.setAt hs hr).2 (by omega) (fun x => V.sh hn hs hr x)
end
end Go.Proofs.Ytiephlhohgohcaa.PAll
namespace Go.Proofs.Ytiephlhohgohcaa.PAll
open Go.RowKit Go.Proofs.YtiephlhohgohcaaW.PrintWords Go.Proofs.YtiephlhohgohcaaW.PrintLast Go.Proofs.YtiephlhohgohcaaW.PrintMore
set_option linter.unusedVariables false
set_option linter.unusedSimpArgs false
section
variable {sends : List Int} {rs : List S122} {pat : Int}
/-- Hours that dispatches can have. -/
def CanAll (rs : List S122) : List Int → List Int → Prop
  | s :: ss, h :: hs => canL rs s h (h == 101) = true ∧ CanAll rs ss hs
  | [], [] => True
  | _, _ => False
theorem CanAll.len {rs : List S122} : ∀ {ss hs : List Int}, CanAll rs ss hs → hs.length = ss.length
  | [], [], _ => rfl
  | [], _ :: _, h => h.elim
  | _ :: _, [], h => h.elim
  | s :: ss, h :: hs, hc => by rw [List.length_cons, List.length_cons, hc.2.len]
end
end Go.Proofs.Ytiephlhohgohcaa.PAll
namespace Go.Proofs.Ytiephlhohgohcaa.PAll
open Go.RowKit Go.Proofs.YtiephlhohgohcaaW.PrintWords Go.Proofs.YtiephlhohgohcaaW.PrintLast Go.Proofs.YtiephlhohgohcaaW.PrintMore
set_option linter.unusedVariables false
set_option linter.unusedSimpArgs false
section
variable {sends : List Int} {rs : List S122} {pat : Int}
/-- An hour that a dispatch can have lies between the ends. -/
theorem can_between {s y : Int} (h : SetsOk rs s) (hc : canL rs s y (y == 101) = true) (h0 : 0 ≤ y) : earlyL rs s ≤ y ∧ y ≤ lateL rs s ∧ y ≤ 101 := by
  have hy : y ≤ 101 := by rcases (canL_iff.1 hc).2 with h1 | h1 <;> omega
  obtain ⟨he, _⟩ := can_ends h
  have e : ((y.toNat : Nat) : Int) = y := Int.toNat_of_nonneg h0
  have := he.2.2.2.2 y.toNat (by rw [comL_can rs h y.toNat (by omega), e]; exact hc) (by omega)
  rw [e] at this
  exact ⟨this.1, this.2, hy⟩
theorem can_nonneg {s y : Int} (h : SetsOk rs s) (hc : canL rs s y (y == 101) = true) : 0 ≤ y := by
  rcases (canL_iff.1 hc).2 with h1 | ⟨_, r, hr, h1⟩
  · omega
  · exact ((h r hr).2 y h1).1
theorem canL_early (V : Valid sends rs pat) {s : Int} (hs : s ∈ sends) : canL rs s (earlyL rs s) (earlyL rs s == 101) = true := by
  obtain ⟨he, h1, _⟩ := can_ends (V.setsOk hs)
  have e : (((earlyL rs s).toNat : Nat) : Int) = earlyL rs s := Int.toNat_of_nonneg he.1
  have := comL_can rs (V.setsOk hs) (earlyL rs s).toNat (by omega)
  rw [e] at this
  rw [← this]; exact he.2.2.1
theorem span_bounds (V : Valid sends rs pat) {k : Nat} (hk : k < sends.length) : 0 ≤ (spanAt sends rs pat k).f0 ∧ (spanAt sends rs pat k).f0 ≤ (spanAt sends rs pat k).f1 ∧ (spanAt sends rs pat k).f1 ≤ 60 := by
  have hb : ∀ (F : List S122 → Int → Int) (ss : List Int) (a : Int), (∀ s ∈ ss, s ∈ sends) → 0 ≤ a → a ≤ 60 → 0 ≤ finF F rs pat a ss ∧ finF F rs pat a ss ≤ 60 := by
    intro F ss
    induction ss with
    | nil => intro a _ h0 h1; exact ⟨h0, h1⟩
    | cons s ss ih =>
      intro a hm h0 h1
      have := V.s0 s (hm s List.mem_cons_self)
      have := V.p0
      rw [finF]
      exact ih _ (fun t ht => hm t (List.mem_cons_of_mem _ ht)) (by omega) (by omega)
  have hm : ∀ s ∈ sends.take (k + 1), s ∈ sends := fun s hs => List.mem_of_mem_take hs
  refine ⟨(hb earlyL _ 0 hm (by omega) (by omega)).1, ?_, (hb lateL _ 0 hm (by omega) (by omega)).2⟩
  refine finF_le _ 0 0 (Int.le_refl _) (fun s hs => ?_)
  have := can_between (V.setsOk (hm s hs)) (canL_early V (hm s hs)) (can_nonneg (V.setsOk (hm s hs)) (canL_early V (hm s hs)))
  omega
end
end Go.Proofs.Ytiephlhohgohcaa.PAll
