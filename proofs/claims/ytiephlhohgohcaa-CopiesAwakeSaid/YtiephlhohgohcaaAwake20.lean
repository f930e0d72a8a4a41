/- Part 20 of what the row rests on: each text as it stands among the working texts, cut to what is used; those of the print of the kit as a program printed them. -/
import Derived.Test.YtiephlhohgohcaaAwake19
import Derived.Test.YtiephlhohgohcaaAwake12
import Derived.Test.YtiephlhohgohcaaAwake14
import Derived.Test.YtiephlhohgohcaaAwake6
import Derived.Test.YtiephlhohgohcaaAwake18
import Derived.Test.YtiephlhohgohcaaAwake16
import Derived.Test.YtiephlhohgohcaaAwake5
import Derived.Test.YtiephlhohgohcaaAwake8
import Derived.Test.YtiephlhohgohcaaAwake17
import Derived.Laws.Tables
import Derived.BigQuiet
set_option linter.unusedVariables false
set_option linter.unusedSimpArgs false
namespace Go.Proofs.Ytiephlhohgohcaa.PAll
open Go.RowKit Go.Proofs.YtiephlhohgohcaaW.PrintWords Go.Proofs.YtiephlhohgohcaaW.PrintLast Go.Proofs.YtiephlhohgohcaaW.PrintMore
attribute [local go_sem] max2_int min2_int max_two min_two max_three min_three max_four min_four
set_option linter.unusedVariables false
set_option linter.unusedSimpArgs false
/-- The cells of a set of hours, 0 to 101. -/
def rcells (f : Int → Bool) : Array Value := ((List.range 102).map (fun j : Nat => Value.bool (f (j : Int)))).toArray
theorem rcells_size (f : Int → Bool) : (rcells f).size = 102 := by simp [rcells]
theorem rcells_at (f : Int → Bool) {j : Nat} (hj : j < 102) : (rcells f)[j]? = some (.bool (f (j : Int))) := by simp [rcells, hj]
theorem rcells_set (f : Int → Bool) {j : Nat} (hj : j < 102) : (rcells f).setIfInBounds j (.bool true) = rcells (fun x => f x || x == (j : Int)) := by
  apply Array.ext
  · simp [rcells_size]
  · intro i h1 h2
    rw [rcells_size] at h2
    rw [Array.getElem_setIfInBounds (by rw [rcells_size]; exact h2)]
    simp only [rcells, List.getElem_toArray, List.getElem_map, List.getElem_range]
    by_cases e : j = i
    · subst e; simp
    · rw [if_neg e]
      have : ((i : Int) == (j : Int)) = false := beq_eq_false_iff_ne.2 (by omega)
      rw [this, Bool.or_false]
theorem rcells_congr {f g : Int → Bool} (h : ∀ j : Nat, j < 102 → f (j : Int) = g (j : Int)) : rcells f = rcells g := by
  unfold rcells
  congr 1
  apply List.map_congr_left
  intro j hj
  rw [h j (List.mem_range.1 hj)]
/-- A block that is the set f. -/
def RSet (W : World) (b : Nat) (f : Int → Bool) : Prop := W.heap[b]? = some (.cells (rcells f) 50 (0, 0))
theorem RSet.cell {W : World} {b : Nat} {f : Int → Bool} (h : RSet W b f) {j : Nat} (hj : j < 102) : W.cell? ⟨b, j, none⟩ = some (.bool (f (j : Int))) := (blk_cell h j).trans (rcells_at f hj)
theorem RSet.frozen {W : World} {b : Nat} {f : Int → Bool} (h : RSet W b f) (j : Nat) : W.frozen? ⟨b, j, none⟩ = false := blk_frozen h j
theorem RSet.below {W W' : World} {b : Nat} {f : Int → Bool} (h : RSet W b f) (hb : Below W.heap.size W W') : RSet W' b f := blk_below h hb
theorem RSet.set {W : World} {b : Nat} {f : Int → Bool} (h : RSet W b f) {j : Nat} (hj : j < 102) : RSet (W.setCell ⟨b, j, none⟩ (.bool true)) b (fun x => f x || x == (j : Int)) := by
  have := blk_set h j (.bool true)
  rw [rcells_set f hj] at this
  exact this
theorem RSet.far {W : World} {b : Nat} {f : Int → Bool} (h : RSet W b f) {p : Addr} (hp : b ≠ p.block) (u : Value) : RSet (W.setCell p u) b f := blk_far h hp u
end Go.Proofs.Ytiephlhohgohcaa.PAll
namespace Go.Proofs.Ytiephlhohgohcaa.PAll
open Go.RowKit Go.Proofs.YtiephlhohgohcaaW.PrintWords Go.Proofs.YtiephlhohgohcaaW.PrintLast Go.Proofs.YtiephlhohgohcaaW.PrintMore
attribute [local go_sem] max2_int min2_int max_two min_two max_three min_three max_four min_four
set_option linter.unusedVariables false
set_option linter.unusedSimpArgs false
theorem heap_setRow_other (w : World) (g k : Nat) (cs : Array Value) (h : k ≠ g) : (w.setRow g cs).heap[k]? = w.heap[k]? := by
  simp only [World.setRow, Array.getElem?_modify]
  rw [if_neg (by omega)]
theorem below_setRow {B : Nat} {a w : World} {g : Nat} (h : Below B a w) (hg : B ≤ g) (cs : Array Value) : Below B a (w.setRow g cs) :=
  h.trans ⟨rfl, rfl, rfl, by simp, fun k hk => heap_setRow_other w g k cs (by omega)⟩
end Go.Proofs.Ytiephlhohgohcaa.PAll
namespace Go.Proofs.Ytiephlhohgohcaa.PAll
open Go.RowKit Go.Proofs.YtiephlhohgohcaaW.PrintWords Go.Proofs.YtiephlhohgohcaaW.PrintLast Go.Proofs.YtiephlhohgohcaaW.PrintMore
attribute [local go_sem] max2_int min2_int max_two min_two max_three min_three max_four min_four
set_option linter.unusedVariables false
set_option linter.unusedSimpArgs false
theorem rcells_put (f : Int → Bool) {j : Nat} (hj : j < 102) (v : Bool) : (rcells f).setIfInBounds j (.bool v) = rcells (fun x => if x = (j : Int) then v else f x) := by
  apply Array.ext
  · simp [rcells_size]
  · intro i h1 h2
    rw [rcells_size] at h2
    rw [Array.getElem_setIfInBounds (by rw [rcells_size]; exact h2)]
    simp only [rcells, List.getElem_toArray, List.getElem_map, List.getElem_range]
    by_cases e : j = i
    · subst e; simp
    · rw [if_neg e, if_neg (by omega)]
theorem RSet.put {W : World} {b : Nat} {f : Int → Bool} (h : RSet W b f) {j : Nat} (hj : j < 102) (v : Bool) : RSet (W.setCell ⟨b, j, none⟩ (.bool v)) b (fun x => if x = (j : Int) then v else f x) := by
  have := blk_set h j (.bool v)
  rw [rcells_put f hj v] at this
  exact this
theorem RSet.congr {W : World} {b : Nat} {f g : Int → Bool} (h : RSet W b f) (hfg : ∀ j : Nat, j < 102 → f (j : Int) = g (j : Int)) : RSet W b g := by
  unfold RSet at h ⊢
  rw [h, rcells_congr hfg]
theorem BoxAt.far {w W : World} {A0 : Option Addr} {c0 n0 : Nat} {A1 : Option Addr} {c1 n1 : Nat} {pat : Int} (h : BoxAt w W A0 c0 n0 A1 c1 n1 pat) {p : Addr} (hp : w.heap.size < p.block) (u : Value) : BoxAt w (W.setCell p u) A0 c0 n0 A1 c1 n1 pat :=
  ⟨h.below.setCell (by omega) u, blk_far h.box (by omega) u⟩
theorem BoxAt.row {w W : World} {A0 : Option Addr} {c0 n0 : Nat} {A1 : Option Addr} {c1 n1 : Nat} {pat : Int} (h : BoxAt w W A0 c0 n0 A1 c1 n1 pat) {g : Nat} (hg : w.heap.size < g) (cs : Array Value) : BoxAt w (W.setRow g cs) A0 c0 n0 A1 c1 n1 pat :=
  ⟨below_setRow h.below (by omega) cs, (heap_setRow_other W g _ cs (by omega)).trans h.box⟩
theorem RSet.row {W : World} {b : Nat} {f : Int → Bool} (h : RSet W b f) {g : Nat} (hg : b ≠ g) (cs : Array Value) : RSet (W.setRow g cs) b f := (heap_setRow_other W g b cs hg).trans h
end Go.Proofs.Ytiephlhohgohcaa.PAll
namespace Go.Proofs.Ytiephlhohgohcaa.PAll
open Go.RowKit Go.Proofs.YtiephlhohgohcaaW.PrintWords Go.Proofs.YtiephlhohgohcaaW.PrintLast Go.Proofs.YtiephlhohgohcaaW.PrintMore
attribute [local go_sem] max2_int min2_int max_two min_two max_three min_three max_four min_four
set_option linter.unusedVariables false
set_option linter.unusedSimpArgs false
def loK (f : Int → Bool) : Nat → Int
  | 0 => 102
  | k + 1 => if f (k : Int) = true then min (loK f k) (k : Int) else loK f k
def hiK (f : Int → Bool) : Nat → Int
  | 0 => -1
  | k + 1 => if f (k : Int) = true then (k : Int) else hiK f k
end Go.Proofs.Ytiephlhohgohcaa.PAll
namespace Go.Proofs.Ytiephlhohgohcaa.PAll
open Go.RowKit Go.Proofs.YtiephlhohgohcaaW.PrintWords Go.Proofs.YtiephlhohgohcaaW.PrintLast Go.Proofs.YtiephlhohgohcaaW.PrintMore
set_option linter.unusedVariables false
set_option linter.unusedSimpArgs false
theorem loK_spec (f : Int → Bool) : ∀ k : Nat, k ≤ 102 → (∀ y : Nat, y < k → f y = true → loK f k ≤ y) ∧ ((loK f k = 102 ∧ ∀ y : Nat, y < k → f y = false) ∨ ∃ y : Nat, y < k ∧ f y = true ∧ loK f k = y)
  | 0, _ => ⟨fun y hy => by omega, .inl ⟨rfl, fun y hy => by omega⟩⟩
  | k + 1, hk => by
    obtain ⟨h1, h2⟩ := loK_spec f k (by omega)
    rw [loK]
    cases hf : f (k : Int) with
    | true =>
      rw [if_pos rfl]
      refine ⟨fun y hy hy2 => ?_, .inr ?_⟩
      · by_cases e : y = k
        · subst e; omega
        · have := h1 y (by omega) hy2; omega
      · rcases h2 with ⟨h2, _⟩ | ⟨y, hy, hy2, h2⟩
        · exact ⟨k, by omega, hf, by omega⟩
        · have := h1 y hy hy2
          exact ⟨y, by omega, hy2, by omega⟩
    | false =>
      rw [if_neg (by simp)]
      refine ⟨fun y hy hy2 => ?_, ?_⟩
      · by_cases e : y = k
        · subst e; rw [hf] at hy2; cases hy2
        · exact h1 y (by omega) hy2
      · rcases h2 with ⟨h2, h3⟩ | ⟨y, hy, hy2, h2⟩
        · refine .inl ⟨h2, fun y hy => ?_⟩
          by_cases e : y = k
          · subst e; exact hf
          · exact h3 y (by omega)
        · exact .inr ⟨y, by omega, hy2, h2⟩
theorem hiK_spec (f : Int → Bool) : ∀ k : Nat, (∀ y : Nat, y < k → f y = true → (y : Int) ≤ hiK f k) ∧ ((hiK f k = -1 ∧ ∀ y : Nat, y < k → f y = false) ∨ ∃ y : Nat, y < k ∧ f y = true ∧ hiK f k = y)
  | 0 => ⟨fun y hy => by omega, .inl ⟨rfl, fun y hy => by omega⟩⟩
  | k + 1 => by
    obtain ⟨h1, h2⟩ := hiK_spec f k
    rw [hiK]
    cases hf : f (k : Int) with
    | true =>
      rw [if_pos rfl]
      exact ⟨fun y hy hy2 => by omega, .inr ⟨k, by omega, hf, rfl⟩⟩
    | false =>
      rw [if_neg (by simp)]
      refine ⟨fun y hy hy2 => ?_, ?_⟩
      · by_cases e : y = k
        · subst e; rw [hf] at hy2; cases hy2
        · exact h1 y (by omega) hy2
      · rcases h2 with ⟨h2, h3⟩ | ⟨y, hy, hy2, h2⟩
        · refine .inl ⟨h2, fun y hy => ?_⟩
          by_cases e : y = k
          · subst e; exact hf
          · exact h3 y (by omega)
        · exact .inr ⟨y, by omega, hy2, h2⟩
/-- The least and the greatest number of a set. -/
def EndsOf (f : Int → Bool) (a b : Int) : Prop := 0 ≤ a ∧ b ≤ 101 ∧ f a = true ∧ f b = true ∧ ∀ y : Nat, f y = true → y ≤ 101 → a ≤ y ∧ (y : Int) ≤ b
theorem EndsOf.lo {f : Int → Bool} {a b : Int} (h : EndsOf f a b) (ha : a ≤ 101) : loK f 102 = a := by
  obtain ⟨h0, h1, h2, h3, h4⟩ := h
  obtain ⟨s1, s2⟩ := loK_spec f 102 (by omega)
  have e : ((a.toNat : Nat) : Int) = a := Int.toNat_of_nonneg h0
  have := s1 a.toNat (by omega) (by rw [e]; exact h2)
  rcases s2 with ⟨s2, _⟩ | ⟨y, hy, hy2, s2⟩
  · omega
  · have := h4 y hy2 (by omega); omega
theorem EndsOf.hi {f : Int → Bool} {a b : Int} (h : EndsOf f a b) (hb : 0 ≤ b) : hiK f 102 = b := by
  obtain ⟨h0, h1, h2, h3, h4⟩ := h
  obtain ⟨s1, s2⟩ := hiK_spec f 102
  have e : ((b.toNat : Nat) : Int) = b := Int.toNat_of_nonneg hb
  have := s1 b.toNat (by omega) (by rw [e]; exact h3)
  rcases s2 with ⟨s2, _⟩ | ⟨y, hy, hy2, s2⟩
  · omega
  · have := h4 y hy2 (by omega); omega
end Go.Proofs.Ytiephlhohgohcaa.PAll
namespace Go.Proofs.Ytiephlhohgohcaa.PAll
open Go.RowKit Go.Proofs.YtiephlhohgohcaaW.PrintWords Go.Proofs.YtiephlhohgohcaaW.PrintLast Go.Proofs.YtiephlhohgohcaaW.PrintMore
set_option linter.unusedVariables false
set_option linter.unusedSimpArgs false
theorem u8_of {a : Int} (h : (Lit.int .u8 a).wf = true) : 0 ≤ a ∧ a ≤ 255 := by
  have h1 : IntKind.u8.min = 0 := by decide
  have h2 : IntKind.u8.max = 255 := by decide
  simp [Lit.wf, h1, h2] at h
  omega
end Go.Proofs.Ytiephlhohgohcaa.PAll
namespace Go.Proofs.Ytiephlhohgohcaa.PAll
open Go.RowKit Go.Proofs.YtiephlhohgohcaaW.PrintWords Go.Proofs.YtiephlhohgohcaaW.PrintLast Go.Proofs.YtiephlhohgohcaaW.PrintMore
attribute [local go_sem] max2_int min2_int max_two min_two max_three min_three max_four min_four
set_option linter.unusedVariables false
set_option linter.unusedSimpArgs false
set_option maxRecDepth 100000 in
set_option maxHeartbeats 4000000 in
theorem ready54 (A0 : Option Addr) (c0 : Nat) (sends : List Int) (A1 : Option Addr) (c1 : Nat) (routes : List S54) (pat : Int) (rs : List S122) (w : World) (hrs : rs = routes.map toX) (h : PostAt w A0 c0 sends A1 c1 routes) :
    Calls Try.prog 54 #[.agg #[.slice A0 sends.length c0, .slice A1 routes.length c1, .int .i64 pat]] w fun e w' => e = .returned (.bool (thinB sends routes && check sends rs pat == 0)) ∧ Below w.heap.size w w' := by
  have HRS := Aside0.mk hrs
  clear hrs
  obtain ⟨R, hR⟩ : ∃ R, (thinB sends routes && check sends rs pat == 0) = R := ⟨_, rfl⟩
  have HRR := Aside0.mk hR
  rw [hR]
  clear hR
  obtain ⟨W1, hW1⟩ : ∃ W1, W1 = w.alloc (.cells #[.slice A0 sends.length c0, .slice A1 routes.length c1, .int .i64 pat] 25) := ⟨_, rfl⟩
  have hx := BoxAt.start w A0 c0 sends.length A1 c1 routes.length pat
  rw [← hW1] at hx
  have HX := Aside0.mk hx
  have HP := Aside0.mk h
  have x0 := hx.x0
  have x1 := hx.x1
  have x2 := hx.x2
  have HW1 := Aside0.mk hW1
  clear h hx hW1
  go_enter Try.func54, Try.ntmps54
  go_wp2_with fail
  rw [← HW1.out]
  clear HW1
  refine (thin18 pat (HP.out.below HX.out.below)).mono ?_
  rintro e w2 ⟨rfl, hb⟩
  replace HX := Aside0.mk (HX.out.later hb)
  clear hb x0 x1 x2
  cases hth : thinB sends routes with
  | false =>
    have HTH := Aside0.mk hth
    clear hth
    go_wp2_with fail
    go_ret
    exact ⟨by rw [← HRR.out, HTH.out]; rfl, HX.out.below⟩
  | true =>
    have HTH := Aside0.mk hth
    clear hth
    have x0 := HX.out.x0
    have x1 := HX.out.x1
    have x2 := HX.out.x2
    go_wp2_with fail
    refine (fault25 pat HRS.out (HP.out.below HX.out.below) (thin_spec HTH.out).1).mono ?_
    rintro e w3 ⟨rfl, hb⟩
    replace HX := Aside0.mk (HX.out.later hb)
    clear hb x0 x1 x2
    have HCC : Aside0 ((check sends rs pat == 0) = R) := ⟨by have := HRR.out; rw [HTH.out, Bool.true_and] at this; exact this⟩
    generalize check sends rs pat = ck at HCC ⊢
    by_cases hck : ck = 0
    · subst hck
      go_wp2_with fail
      go_ret
      exact ⟨by rw [← HCC.out]; rfl, HX.out.below⟩
    · have hcd : decide (ck = 0) = false := decide_eq_false hck
      have HCB := Aside0.mk (show (ck == 0) = false from beq_eq_false_iff_ne.2 hck)
      go_wp2_with fail
      go_ret
      exact ⟨by rw [← HCC.out, HCB.out]; rfl, HX.out.below⟩
end Go.Proofs.Ytiephlhohgohcaa.PAll
namespace Go.Proofs.Ytiephlhohgohcaa.PAll
open Go.RowKit Go.Proofs.YtiephlhohgohcaaW.PrintWords Go.Proofs.YtiephlhohgohcaaW.PrintLast Go.Proofs.YtiephlhohgohcaaW.PrintMore
attribute [local go_sem] max2_int min2_int max_two min_two max_three min_three max_four min_four
set_option linter.unusedVariables false
set_option linter.unusedSimpArgs false
/-- Words in memory. -/
structure WordsAt (w : World) (A : Option Addr) (c : Nat) (words : List Int) : Prop where
  at' : Kd.C (Kd.int .u16) w A words.length words
  cap : words.length ≤ c
  wf : ∀ x ∈ words, (Lit.int .u16 x).wf = true
  len : words.length ≤ 9223372036854775807
theorem WordsAt.below {w w' : World} {A : Option Addr} {c : Nat} {words : List Int} (h : WordsAt w A c words) (hb : Below w.heap.size w w') : WordsAt w' A c words := ⟨Kd.C_below h.at' hb, h.cap, h.wf, h.len⟩
/-- Rows of a truth that are made so far. -/
def RowsOk (rs : List S122) (t : List (List (List Int))) : Prop := ∀ l ∈ t, l.length = rs.length ∧ restRow true rs l = some true
theorem RowsOk.snoc {rs : List S122} {t : List (List (List Int))} {l : List (List Int)} (h : RowsOk rs t) (h1 : l.length = rs.length) (h2 : restRow true rs l = some true) : RowsOk rs (t ++ [l]) := by
  intro x hx
  rcases List.mem_append.1 hx with hx | hx
  · exact h x hx
  · obtain rfl := List.mem_singleton.1 hx; exact ⟨h1, h2⟩
end Go.Proofs.Ytiephlhohgohcaa.PAll
namespace Go.Proofs.Ytiephlhohgohcaa.PAll
open Go.RowKit Go.Proofs.YtiephlhohgohcaaW.PrintWords Go.Proofs.YtiephlhohgohcaaW.PrintLast Go.Proofs.YtiephlhohgohcaaW.PrintMore
set_option linter.unusedVariables false
set_option linter.unusedSimpArgs false
def lexLt : List Int → List Int → Bool
  | x :: a, y :: b => if x ≠ y then decide (x < y) else lexLt a b
  | _, _ => false
def lessB (a b : List Int) : Bool := if a.length = b.length then lexLt a b else decide (a.length < b.length)
theorem lexLt_tot : ∀ a b : List Int, a.length = b.length → a = b ∨ lexLt a b = true ∨ lexLt b a = true
  | [], [], _ => .inl rfl
  | [], y :: b, h => by simp at h
  | x :: a, [], h => by simp at h
  | x :: a, y :: b, h => by
    by_cases e : x = y
    · subst e
      rcases lexLt_tot a b (by simpa using h) with h1 | h1 | h1
      · exact .inl (by rw [h1])
      · exact .inr (.inl (by rw [lexLt, if_neg (by simp)]; exact h1))
      · exact .inr (.inr (by rw [lexLt, if_neg (by simp)]; exact h1))
    · rcases Int.lt_or_gt_of_ne e with h1 | h1
      · exact .inr (.inl (by rw [lexLt, if_pos e]; exact decide_eq_true h1))
      · exact .inr (.inr (by rw [lexLt, if_pos (fun q => e q.symm)]; exact decide_eq_true h1))
theorem lessB_tot (a b : List Int) : a = b ∨ lessB a b = true ∨ lessB b a = true := by
  unfold lessB
  by_cases e : a.length = b.length
  · rw [if_pos e, if_pos e.symm]
    exact lexLt_tot a b e
  · rw [if_neg e, if_neg (fun q => e q.symm)]
    rcases Nat.lt_or_gt_of_ne e with h | h
    · exact .inr (.inl (decide_eq_true h))
    · exact .inr (.inr (decide_eq_true h))
/-- The indexes of the entries that are left out, and the others. -/
def outs : Int → List Bool → List Int
  | _, [] => []
  | n, b :: bs => if b = true then n :: outs (n + 1) bs else outs (n + 1) bs
def keeps {α : Type} : List α → List Bool → List α
  | x :: xs, b :: bs => if b = true then keeps xs bs else x :: keeps xs bs
  | _, _ => []
end Go.Proofs.Ytiephlhohgohcaa.PAll
namespace Go.Proofs.Ytiephlhohgohcaa.PAll
open Go.RowKit Go.Proofs.YtiephlhohgohcaaW.PrintWords Go.Proofs.YtiephlhohgohcaaW.PrintLast Go.Proofs.YtiephlhohgohcaaW.PrintMore
set_option linter.unusedVariables false
set_option linter.unusedSimpArgs false
/-- A smallest set among those without which the others are explained. -/
def Least (E : List Bool → Bool) (n : Nat) (r : List Int) : Prop := (∃ bs : List Bool, bs.length = n ∧ E bs = true ∧ r = outs 0 bs) ∧ ∀ bs : List Bool, bs.length = n → E bs = true → lessB (outs 0 bs) r = false
theorem Least.only {E : List Bool → Bool} {n : Nat} {r q : List Int} (h : Least E n r) (k : Least E n q) : r = q := by
  obtain ⟨⟨a, a1, a2, rfl⟩, a4⟩ := h
  obtain ⟨⟨b, b1, b2, rfl⟩, b4⟩ := k
  rcases lessB_tot (outs 0 a) (outs 0 b) with h | h | h
  · exact h
  · rw [b4 a a1 a2] at h; cases h
  · rw [a4 b b1 b2] at h; cases h
end Go.Proofs.Ytiephlhohgohcaa.PAll
namespace Go.Proofs.Ytiephlhohgohcaa.PAll
open Go.RowKit Go.Proofs.YtiephlhohgohcaaW.PrintWords Go.Proofs.YtiephlhohgohcaaW.PrintLast Go.Proofs.YtiephlhohgohcaaW.PrintMore
set_option linter.unusedVariables false
set_option linter.unusedSimpArgs false
theorem sorted_ext : ∀ {a b : List Int}, a.Pairwise (· < ·) → b.Pairwise (· < ·) → (∀ x, x ∈ a ↔ x ∈ b) → a = b
  | [], [], _, _, _ => rfl
  | [], y :: b, _, _, h => by have := (h y).2 List.mem_cons_self; cases this
  | x :: a, [], _, _, h => by have := (h x).1 List.mem_cons_self; cases this
  | x :: a, y :: b, ha, hb, h => by
    obtain ⟨a1, a2⟩ := List.pairwise_cons.1 ha
    obtain ⟨b1, b2⟩ := List.pairwise_cons.1 hb
    have hxy : x = y := by
      rcases List.mem_cons.1 ((h x).1 List.mem_cons_self) with e | e
      · exact e
      · rcases List.mem_cons.1 ((h y).2 List.mem_cons_self) with e' | e'
        · exact e'.symm
        · have := a1 _ e'; have := b1 _ e; omega
    subst hxy
    rw [sorted_ext a2 b2 (fun z => ?_)]
    constructor
    · intro hz
      rcases List.mem_cons.1 ((h z).1 (List.mem_cons_of_mem _ hz)) with e | e
      · have := a1 _ hz; omega
      · exact e
    · intro hz
      rcases List.mem_cons.1 ((h z).2 (List.mem_cons_of_mem _ hz)) with e | e
      · have := b1 _ hz; omega
      · exact e
def shQ (n : Int) (q : S68) : S68 := ⟨q.f0 + n, q.f1 + n⟩
def shL (n : Int) (l : S119) : S119 := ⟨l.f0, l.f1.map (shQ n)⟩
def shR (n : Int) (r : S122) : S122 := ⟨r.f0.map (shL n), r.f1⟩
theorem asleep_sh (n : Int) (l : S119) (h : Int) : asleepAt (shL n l) (h + n) = asleepAt l h := by
  unfold asleepAt shL
  rw [List.any_map]
  congr 1
  funext q
  show inB (q.f0 + n) (q.f1 + n) (h + n) = inB q.f0 q.f1 h
  rw [Bool.eq_iff_iff, inB_iff, inB_iff]
  omega
theorem awakeF_sh (n : Int) (l : S119) : ∀ (k : Nat) (h : Int), awakeF k (shL n l) (h + n) = awakeF k l h + n
  | 0, h => rfl
  | k + 1, h => by
    rw [awakeF, awakeF, asleep_sh]
    split
    · rw [show h + n + 1 = (h + 1) + n by omega, awakeF_sh n l k]
    · rfl
theorem awakeL_sh (n : Int) (l : S119) (h : Int) : awakeL (shL n l) (h + n) = awakeL l h + n := awakeF_sh n l 40 h
theorem stepSet_iff {l : S119} {f : Int → Bool} {y : Int} : stepSet l f y = true ↔ ∃ h : Int, 0 ≤ h ∧ h < 101 ∧ f h = true ∧ ∃ m : Nat, m < (l.f0.f1 - l.f0.f0 + 1).toNat ∧ awakeL l (h + l.f0.f0 + (m : Int)) = y := by
  simp only [stepSet, manyB, oneB, List.any_eq_true, List.mem_range, beq_iff_eq, mem_hoursOf]
  constructor
  · rintro ⟨h, ⟨h0, h1, h2⟩, m, hm, e⟩; exact ⟨h, h0, by omega, h2, m, hm, e⟩
  · rintro ⟨h, h0, h1, h2, m, hm, e⟩; exact ⟨h, ⟨h0, by omega, h2⟩, m, hm, e⟩
theorem step_sh {n : Int} (hn : 0 ≤ n ∧ n ≤ 11) {l : S119} {f f' : Int → Bool} {B : Int} (hf : Upto f B) (hB : B ≤ 80) (he : ∀ x, f' x = f (x - n)) (y : Int) : stepSet (shL n l) f' y = stepSet l f (y - n) := by
  rw [Bool.eq_iff_iff, stepSet_iff, stepSet_iff]
  constructor
  · rintro ⟨h, h0, h1, h2, m, hm, e⟩
    rw [he] at h2
    have := hf _ h2
    refine ⟨h - n, this.1, by omega, h2, m, hm, ?_⟩
    have := awakeL_sh n l (h - n + l.f0.f0 + m)
    have e2 : h - n + l.f0.f0 + (m : Int) + n = h + l.f0.f0 + m := by omega
    rw [e2] at this
    have e3 : awakeL (shL n l) (h + l.f0.f0 + m) = y := e
    omega
  · rintro ⟨h, h0, h1, h2, m, hm, e⟩
    have hb := hf _ h2
    refine ⟨h + n, by omega, by omega, by rw [he]; rw [show h + n - n = h by omega]; exact h2, m, hm, ?_⟩
    show awakeL (shL n l) (h + n + l.f0.f0 + (m : Int)) = y
    have := awakeL_sh n l (h + l.f0.f0 + m)
    rw [show h + n + l.f0.f0 + (m : Int) = h + l.f0.f0 + m + n by omega]
    omega
theorem setsFrom_sh {n : Int} (hn : 0 ≤ n ∧ n ≤ 11) : ∀ (ls : List S119) (f f' : Int → Bool) (k : Nat), (∀ l ∈ ls, LegOk l) → Upto f (30 + 6 * k) → k + ls.length ≤ 6 → (∀ x, f' x = f (x - n)) → ∀ x, setsFrom (ls.map (shL n)) f' x = setsFrom ls f (x - n)
  | [], f, f', k, _, _, _, he, x => he x
  | l :: ls, f, f', k, hl, hf, hk, he, x => by
    have hl0 := hl l List.mem_cons_self
    rw [List.length_cons] at hk
    rw [List.map_cons, setsFrom, setsFrom]
    exact setsFrom_sh hn ls (stepSet l f) _ (k + 1) (fun z hz => hl z (List.mem_cons_of_mem _ hz)) (fun z hz => by have := step_upto hl0 hf (by omega) z hz; omega) (by omega) (fun z => step_sh hn hf (by omega) he z) x
theorem setsOf_sh {n : Int} (hn : 0 ≤ n ∧ n ≤ 11) {ls : List S119} (hl : ∀ l ∈ ls, LegOk l) (h5 : ls.length ≤ 5) {s : Int} (h0 : 0 ≤ s) (h1 : s ≤ 30) (x : Int) : setsOf (ls.map (shL n)) (s + n) x = setsOf ls s (x - n) := by
  refine setsFrom_sh hn ls (startSet s) _ 0 hl (fun z hz => by have := start_upto h0 h1 z hz; omega) (by omega) (fun z => ?_) x
  rw [Bool.eq_iff_iff]
  simp only [startSet, beq_iff_eq]
  omega
section
variable {sends : List Int} {rs : List S122} {pat : Int}
theorem Valid.sh (V : Valid sends rs pat) {n : Int} (hn : 0 ≤ n ∧ n ≤ 11) {s : Int} (hs : s ∈ sends) {r : S122} (hr : r ∈ rs) (x : Int) : setsOf (shR n r).f0 (s + n) x = setsOf r.f0 s (x - n) := by
  have h := V.s0 s hs
  have hl := V.ln r hr
  exact setsOf_sh hn (fun l hl => V.leg hr hl) (by omega) h.1 h.2 x
end
end Go.Proofs.Ytiephlhohgohcaa.PAll
namespace Go.Proofs.Ytiephlhohgohcaa.PAll
open Go.RowKit Go.Proofs.YtiephlhohgohcaaW.PrintWords Go.Proofs.YtiephlhohgohcaaW.PrintLast Go.Proofs.YtiephlhohgohcaaW.PrintMore
set_option linter.unusedVariables false
set_option linter.unusedSimpArgs false
def bare (l : S119) : S119 := ⟨l.f0, []⟩
def sumLo (ls : List S119) (s : Int) : Int := ls.foldl (fun a l => a + l.f0.f0) s
def sumHi (ls : List S119) (s : Int) : Int := ls.foldl (fun a l => a + l.f0.f1) s
theorem awake_bare (l : S119) (h : Int) : awakeL (bare l) h = h := by
  unfold awakeL
  rw [awakeF, if_neg (by simp [asleepAt, bare])]
theorem sets_bare : ∀ (ls : List S119) (f : Int → Bool) (a b : Int), (∀ l ∈ ls, LegOk l) → 0 ≤ a → a ≤ b → b + 6 * ls.length ≤ 100 → (∀ x, f x = true ↔ a ≤ x ∧ x ≤ b) →
    (∀ x, setsFrom (ls.map bare) f x = true ↔ sumLo ls a ≤ x ∧ x ≤ sumHi ls b) ∧ 0 ≤ sumLo ls a ∧ sumLo ls a ≤ sumHi ls b ∧ sumHi ls b ≤ b + 6 * ls.length
  | [], f, a, b, _, h0, h1, h2, hf => ⟨hf, h0, h1, by simp [sumHi]⟩
  | l :: ls, f, a, b, hl, h0, h1, h2, hf => by
    have hl0 := hl l List.mem_cons_self
    have k1 := hl0.lo; have k2 := hl0.hi; have k3 := hl0.most
    rw [List.length_cons] at h2
    have ih := sets_bare ls (stepSet (bare l) f) (a + l.f0.f0) (b + l.f0.f1) (fun z hz => hl z (List.mem_cons_of_mem _ hz)) (by omega) (by omega) (by omega) (fun x => by
      rw [stepSet_iff]
      constructor
      · rintro ⟨h, g0, g1, g2, m, hm, e⟩
        rw [hf] at g2
        rw [awake_bare] at e
        have hm' : m < (l.f0.f1 - l.f0.f0 + 1).toNat := hm
        have e' : h + l.f0.f0 + (m : Int) = x := e
        omega
      · rintro ⟨g1, g2⟩
        by_cases c : x - l.f0.f0 ≤ b
        · refine ⟨x - l.f0.f0, by omega, by omega, (hf _).2 ⟨by omega, c⟩, 0, by show 0 < (l.f0.f1 - l.f0.f0 + 1).toNat; omega, ?_⟩
          rw [awake_bare]
          show x - l.f0.f0 + l.f0.f0 + ((0 : Nat) : Int) = x
          omega
        · refine ⟨b, by omega, by omega, (hf _).2 ⟨by omega, by omega⟩, (x - l.f0.f0 - b).toNat, by show (x - l.f0.f0 - b).toNat < (l.f0.f1 - l.f0.f0 + 1).toNat; omega, ?_⟩
          rw [awake_bare]
          show b + l.f0.f0 + ((x - l.f0.f0 - b).toNat : Int) = x
          omega)
    obtain ⟨i1, i2, i3, i4⟩ := ih
    refine ⟨i1, i2, i3, ?_⟩
    rw [List.length_cons]
    show sumHi ls (b + l.f0.f1) ≤ _
    omega
theorem hours_bare {ls : List S119} (hl : ∀ l ∈ ls, LegOk l) (h3 : ls.length ≤ 3) {s : Int} (h0 : 0 ≤ s) (h1 : s ≤ 30) :
    sumLo ls s ≤ sumHi ls s ∧ 0 ≤ sumLo ls s ∧ sumHi ls s ≤ 48 ∧ hoursOf (setsOf (ls.map bare) s) 101 = (List.range (sumHi ls s - sumLo ls s + 1).toNat).map (fun k : Nat => sumLo ls s + (k : Int)) := by
  obtain ⟨i1, i2, i3, i4⟩ := sets_bare ls (startSet s) s s hl h0 (Int.le_refl _) (by omega) (fun x => by simp only [startSet, beq_iff_eq]; omega)
  refine ⟨i3, i2, by omega, sorted_ext (hoursOf_sorted _ _) ?_ (fun x => ?_)⟩
  · rw [List.pairwise_map]
    exact List.pairwise_lt_range.imp (fun h => by omega)
  · rw [mem_hoursOf, List.mem_map]
    have ii := i1 x
    constructor
    · rintro ⟨g0, g1, g2⟩
      have := ii.1 g2
      exact ⟨(x - sumLo ls s).toNat, List.mem_range.2 (by omega), by omega⟩
    · rintro ⟨k, hk, rfl⟩
      rw [List.mem_range] at hk
      exact ⟨by omega, by omega, ii.2 ⟨by omega, by omega⟩⟩
theorem sets_late : ∀ (ls : List S119) (f : Int → Bool) (a b : Int) (k : Nat), (∀ l ∈ ls, LegOk l) → Upto f (30 + 6 * k) → k + ls.length ≤ 6 → (∀ x, f x = true → a ≤ x) → (∃ x, f x = true ∧ b ≤ x) →
    (∀ x, setsFrom ls f x = true → sumLo ls a ≤ x) ∧ ∃ x, setsFrom ls f x = true ∧ sumHi ls b ≤ x
  | [], f, a, b, k, _, _, _, h1, h2 => ⟨h1, h2⟩
  | l :: ls, f, a, b, k, hl, hf, hk, h1, h2 => by
    have hl0 := hl l List.mem_cons_self
    have k1 := hl0.lo; have k2 := hl0.hi
    rw [List.length_cons] at hk
    refine sets_late ls (stepSet l f) (a + l.f0.f0) (b + l.f0.f1) (k + 1) (fun z hz => hl z (List.mem_cons_of_mem _ hz)) (fun z hz => by have := step_upto hl0 hf (by omega) z hz; omega) (by omega) (fun x hx => ?_) ?_
    · rw [stepSet_iff] at hx
      obtain ⟨h, g0, g1, g2, m, hm, e⟩ := hx
      have := h1 _ g2
      have := (awakeL_spec hl0.wk (h := h + l.f0.f0 + m) (by omega)).1
      omega
    · obtain ⟨x, hx, hbx⟩ := h2
      have hu := hf x hx
      refine ⟨awakeL l (x + l.f0.f0 + ((l.f0.f1 - l.f0.f0).toNat : Int)), stepSet_iff.2 ⟨x, hu.1, by omega, hx, (l.f0.f1 - l.f0.f0).toNat, by omega, rfl⟩, ?_⟩
      have := (awakeL_spec hl0.wk (h := x + l.f0.f0 + ((l.f0.f1 - l.f0.f0).toNat : Int)) (by omega)).1
      omega
/-- With anybody asleep no end is earlier. -/
theorem hours_late {sends : List Int} {rs : List S122} {pat : Int} (V : Valid sends rs pat) {s : Int} (hs : s ∈ sends) {r : S122} (hr : r ∈ rs) : sumLo r.f0 s ≤ firstOf (setsOf r.f0 s) ∧ sumHi r.f0 s ≤ lastOf (setsOf r.f0 s) := by
  have h := V.s0 s hs
  have h3 := V.ln r hr
  obtain ⟨h1, x, h2, h4⟩ := sets_late r.f0 (startSet s) s s 0 (fun l hl => V.leg hr hl) (fun z hz => by have := start_upto h.1 h.2 z hz; omega) (by omega) (fun x hx => by simp only [startSet, beq_iff_eq] at hx; omega) ⟨s, by simp [startSet], Int.le_refl _⟩
  have hv := V.setAt hs hr
  have hu := hv.2 x h2
  have hm : x ∈ hoursOf (setsOf r.f0 s) 101 := mem_hoursOf.2 ⟨hu.1, by omega, h2⟩
  exact ⟨h1 _ (mem_hoursOf.1 (firstOf_mem hv.1)).2.2, by have := le_lastOf hm; omega⟩
end Go.Proofs.Ytiephlhohgohcaa.PAll
namespace Go.Proofs.Ytiephlhohgohcaa.PAll
open Go.RowKit Go.Proofs.YtiephlhohgohcaaW.PrintWords Go.Proofs.YtiephlhohgohcaaW.PrintLast Go.Proofs.YtiephlhohgohcaaW.PrintMore
set_option linter.unusedVariables false
set_option linter.unusedSimpArgs false
def bareR (l : S101) : S101 := ⟨l.f0, []⟩
def bareX (r : S122) : S122 := ⟨r.f0.map bare, r.f1⟩
def bareW (r : S54) : S54 := ⟨r.f0.map bareR, r.f1⟩
theorem toX_bare (r : S54) : toX (bareW r) = bareX (toX r) := by
  simp only [toX, bareW, bareX, List.map_map]
  congr 1
theorem set_toX (routes : List S54) (r : Nat) (hr : r < routes.length) : (routes.set r (bareW routes[r])).map toX = (routes.map toX).set r (bareX ((routes.map toX)[r]'(by rw [List.length_map]; exact hr))) := by
  rw [List.map_set, toX_bare, List.getElem_map]
theorem few_bare {r : S122} (h : fewR r = true) : fewR (bareX r) = true := by
  simp only [fewR, bareX, Bool.and_eq_true, decide_eq_true_eq, List.length_map, List.all_map, List.all_eq_true] at h ⊢
  exact ⟨h.1, fun l hl => by simp [Function.comp, fewL, bare]⟩
theorem ok_bare {r : S122} (h : okR r = true) : okR (bareX r) = true := by
  simp only [okR, bareX, Bool.and_eq_true, decide_eq_true_eq, List.length_map, List.all_map, List.all_eq_true] at h ⊢
  refine ⟨h.1, fun l hl => ?_⟩
  have := h.2 l hl
  simp only [okL, Bool.and_eq_true] at this
  simp [Function.comp, okL, bare, this.1]
theorem check_bare {sends : List Int} {rs : List S122} {pat : Int} (h : check sends rs pat = 0) {r : Nat} (hr : r < rs.length) : check sends (rs.set r (bareX rs[r])) pat = 0 := by
  obtain ⟨h1, h2⟩ := check_zero h
  simp only [big, Bool.or_eq_false_iff, decide_eq_false_iff_not, Bool.not_eq_false', List.all_eq_true] at h1
  simp only [bad, Bool.or_eq_false_iff, decide_eq_false_iff_not, Bool.not_eq_false', List.all_eq_true] at h2
  have hm : ∀ x ∈ rs.set r (bareX rs[r]), x ∈ rs ∨ x = bareX rs[r] := fun x hx => List.mem_or_eq_of_mem_set hx
  have b1 : big sends (rs.set r (bareX rs[r])) = false := by
    simp only [big, Bool.or_eq_false_iff, decide_eq_false_iff_not, Bool.not_eq_false', List.all_eq_true, List.length_set]
    refine ⟨h1.1, fun x hx => ?_⟩
    rcases hm x hx with h | h
    · exact h1.2 x h
    · rw [h]; exact few_bare (h1.2 _ (List.getElem_mem hr))
  have b2 : bad sends (rs.set r (bareX rs[r])) pat = false := by
    simp only [bad, Bool.or_eq_false_iff, decide_eq_false_iff_not, Bool.not_eq_false', List.all_eq_true, List.length_set]
    refine ⟨h2.1, fun x hx => ?_⟩
    rcases hm x hx with h | h
    · exact h2.2 x h
    · rw [h]; exact ok_bare (h2.2 _ (List.getElem_mem hr))
  simp [check, b1, b2]
theorem thin_bare {sends : List Int} {routes : List S54} (h : thinB sends routes = true) {r : Nat} (hr : r < routes.length) : thinB sends (routes.set r (bareW routes[r])) = true := by
  simp only [thinB, thinR, Bool.and_eq_true, decide_eq_true_eq, List.all_eq_true, List.length_set] at h ⊢
  refine ⟨h.1, h.2.1, fun x hx => ?_⟩
  rcases List.mem_or_eq_of_mem_set hx with h3 | h3
  · exact h.2.2 x h3
  · have h4 := h.2.2 _ (List.getElem_mem hr)
    rw [h3]
    refine ⟨by simp only [bareW, List.length_map]; exact h4.1, fun l hl => ?_⟩
    simp only [bareW, List.mem_map] at hl
    obtain ⟨l', _, rfl⟩ := hl
    simp [p5, bareR]
/-- CopiesAwake, in plain words. -/
theorem awake_law {sends : List Int} {rs : List S122} {pat : Int} (V : Valid sends rs pat) (hck : check sends rs pat = 0) {i r : Nat} (hi : i < sends.length) (hr : r < rs.length) :
    ∃ lo hi' : Int, lo = sumLo rs[r].f0 sends[i] ∧ hi' = sumHi rs[r].f0 sends[i] ∧ 0 ≤ lo ∧ lo ≤ hi' ∧ hi' ≤ 48 ∧
      hoursRes sends (rs.set r (bareX rs[r])) pat (i : Int) (r : Int) = ((List.range (hi' - lo + 1).toNat).map (fun k : Nat => lo + (k : Int)), 0) ∧
      ∃ hl : List Int, hoursRes sends rs pat (i : Int) (r : Int) = (hl, 0) ∧ 0 < hl.length ∧ hl.length ≤ 101 ∧ lo ≤ rd hl 0 ∧ hi' ≤ rd hl ((hl.length - 1 : Nat) : Int) := by
  have hs := List.getElem_mem hi
  have hm := List.getElem_mem hr
  have h3 := V.ln _ hm
  obtain ⟨b1, b2, b3, b4⟩ := hours_bare (fun l hl => V.leg hm hl) h3.2 (V.s0 _ hs).1 (V.s0 _ hs).2
  have hin1 : inB 0 ((sends.length : Int) - 1) (i : Int) = true := inB_iff.2 (by omega)
  have hin2 : inB 0 ((rs.length : Int) - 1) (r : Int) = true := inB_iff.2 (by omega)
  refine ⟨_, _, rfl, rfl, b2, b1, b3, ?_, hoursOf (setsOf rs[r].f0 sends[i]) 101, ?_, ?_, hoursOf_len _ _, ?_, ?_⟩
  · rw [hoursRes, if_neg (by rw [check_bare hck hr]; exact fun e => e rfl), List.length_set, if_neg (by rw [hin1, hin2]; decide)]
    rw [rdI hi, show rd_T122 (rs.set r (bareX rs[r])) (r : Int) = bareX rs[r] by unfold rd_T122; rw [Int.toNat_natCast, rd_in _ _ _ (by rw [List.length_set]; exact hr), List.getElem_set_self]]
    rw [← b4]; rfl
  · rw [hoursRes, if_neg (by rw [hck]; exact fun e => e rfl), if_neg (by rw [hin1, hin2]; decide)]
    rw [rdI hi, show rd_T122 rs (r : Int) = rs[r] by unfold rd_T122; rw [Int.toNat_natCast, rd_in _ _ _ hr]]
  · exact List.length_pos_iff.2 (V.setAt hs hm).1
  · exact (hours_late V hs hm).1
  · exact (hours_late V hs hm).2
theorem sumLo_take (ls : List S119) (s : Int) (k : Nat) (hk : k < ls.length) : sumLo (ls.take (k + 1)) s = sumLo (ls.take k) s + ls[k].f0.f0 := by
  rw [sumLo, List.take_succ_eq_append_getElem hk, List.foldl_append]; rfl
theorem sumHi_take (ls : List S119) (s : Int) (k : Nat) (hk : k < ls.length) : sumHi (ls.take (k + 1)) s = sumHi (ls.take k) s + ls[k].f0.f1 := by
  rw [sumHi, List.take_succ_eq_append_getElem hk, List.foldl_append]; rfl
theorem sum_bounds : ∀ (ls : List S119) (s : Int), (∀ l ∈ ls, LegOk l) → 0 ≤ s → s ≤ sumLo ls s ∧ sumLo ls s ≤ s + 6 * ls.length ∧ s ≤ sumHi ls s ∧ sumHi ls s ≤ s + 6 * ls.length
  | [], s, _, _ => by simp [sumLo, sumHi]
  | l :: ls, s, h, h0 => by
    have hl := h l List.mem_cons_self
    have k1 := hl.lo; have k2 := hl.hi; have k3 := hl.most
    have a := sum_bounds ls (s + l.f0.f0) (fun x hx => h x (List.mem_cons_of_mem _ hx)) (by omega)
    have b := sum_bounds ls (s + l.f0.f1) (fun x hx => h x (List.mem_cons_of_mem _ hx)) (by omega)
    have e1 : sumLo (l :: ls) s = sumLo ls (s + l.f0.f0) := rfl
    have e2 : sumHi (l :: ls) s = sumHi ls (s + l.f0.f1) := rfl
    rw [e1, e2, List.length_cons]
    omega
end Go.Proofs.Ytiephlhohgohcaa.PAll
