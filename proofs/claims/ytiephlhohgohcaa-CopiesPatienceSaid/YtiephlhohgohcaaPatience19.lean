/- Part 19 of what the row rests on: each text as it stands among the working texts, cut to what is used; those of the print of the kit as a program printed them. -/
import Derived.Test.YtiephlhohgohcaaPatience18
import Derived.Test.YtiephlhohgohcaaPatience11
import Derived.Test.YtiephlhohgohcaaPatience13
import Derived.Test.YtiephlhohgohcaaPatience6
import Derived.Test.YtiephlhohgohcaaPatience17
import Derived.Test.YtiephlhohgohcaaPatience15
import Derived.Test.YtiephlhohgohcaaPatience5
import Derived.Test.YtiephlhohgohcaaPatience8
import Derived.Test.YtiephlhohgohcaaPatience16
import Derived.Laws.Tables
import Derived.BigQuiet
set_option linter.unusedVariables false
set_option linter.unusedSimpArgs false
namespace Go.Proofs.Ytiephlhohgohcaa.PAll
open Go.RowKit Go.Proofs.YtiephlhohgohcaaW.PrintWords Go.Proofs.YtiephlhohgohcaaW.PrintLast Go.Proofs.YtiephlhohgohcaaW.PrintMore
attribute [local go_sem] max2_int min2_int max_two min_two max_three min_three max_four min_four
set_option linter.unusedVariables false
set_option linter.unusedSimpArgs false
/-- The cells of a set of hours, 0 to 101. -/
def rcells (f : Int → Bool) : Array Value := ((List.range 102).map (fun j : Nat => Value.bool (f (j : Int)))).toArray
theorem rcells_size (f : Int → Bool) : (rcells f).size = 102 := by simp [rcells]
theorem rcells_at (f : Int → Bool) {j : Nat} (hj : j < 102) : (rcells f)[j]? = some (.bool (f (j : Int))) := by simp [rcells, hj]
theorem rcells_set (f : Int → Bool) {j : Nat} (hj : j < 102) : (rcells f).setIfInBounds j (.bool true) = rcells (fun x => f x || x == (j : Int)) := by
  apply Array.ext
  · simp [rcells_size]
  · intro i h1 h2
    rw [rcells_size] at h2
    rw [Array.getElem_setIfInBounds (by rw [rcells_size]; exact h2)]
    simp only [rcells, List.getElem_toArray, List.getElem_map, List.getElem_range]
    by_cases e : j = i
    · subst e; simp
    · rw [if_neg e]
      have : ((i : Int) == (j : Int)) = false := beq_eq_false_iff_ne.2 (by omega)
      rw [this, Bool.or_false]
theorem rcells_congr {f g : Int → Bool} (h : ∀ j : Nat, j < 102 → f (j : Int) = g (j : Int)) : rcells f = rcells g := by
  unfold rcells
  congr 1
  apply List.map_congr_left
  intro j hj
  rw [h j (List.mem_range.1 hj)]
/-- A block that is the set f. -/
def RSet (W : World) (b : Nat) (f : Int → Bool) : Prop := W.heap[b]? = some (.cells (rcells f) 50 (0, 0))
theorem RSet.cell {W : World} {b : Nat} {f : Int → Bool} (h : RSet W b f) {j : Nat} (hj : j < 102) : W.cell? ⟨b, j, none⟩ = some (.bool (f (j : Int))) := (blk_cell h j).trans (rcells_at f hj)
theorem RSet.frozen {W : World} {b : Nat} {f : Int → Bool} (h : RSet W b f) (j : Nat) : W.frozen? ⟨b, j, none⟩ = false := blk_frozen h j
theorem RSet.below {W W' : World} {b : Nat} {f : Int → Bool} (h : RSet W b f) (hb : Below W.heap.size W W') : RSet W' b f := blk_below h hb
theorem RSet.set {W : World} {b : Nat} {f : Int → Bool} (h : RSet W b f) {j : Nat} (hj : j < 102) : RSet (W.setCell ⟨b, j, none⟩ (.bool true)) b (fun x => f x || x == (j : Int)) := by
  have := blk_set h j (.bool true)
  rw [rcells_set f hj] at this
  exact this
theorem RSet.far {W : World} {b : Nat} {f : Int → Bool} (h : RSet W b f) {p : Addr} (hp : b ≠ p.block) (u : Value) : RSet (W.setCell p u) b f := blk_far h hp u
end Go.Proofs.Ytiephlhohgohcaa.PAll
namespace Go.Proofs.Ytiephlhohgohcaa.PAll
open Go.RowKit Go.Proofs.YtiephlhohgohcaaW.PrintWords Go.Proofs.YtiephlhohgohcaaW.PrintLast Go.Proofs.YtiephlhohgohcaaW.PrintMore
attribute [local go_sem] max2_int min2_int max_two min_two max_three min_three max_four min_four
set_option linter.unusedVariables false
set_option linter.unusedSimpArgs false
theorem heap_setRow_other (w : World) (g k : Nat) (cs : Array Value) (h : k ≠ g) : (w.setRow g cs).heap[k]? = w.heap[k]? := by
  simp only [World.setRow, Array.getElem?_modify]
  rw [if_neg (by omega)]
theorem below_setRow {B : Nat} {a w : World} {g : Nat} (h : Below B a w) (hg : B ≤ g) (cs : Array Value) : Below B a (w.setRow g cs) :=
  h.trans ⟨rfl, rfl, rfl, by simp, fun k hk => heap_setRow_other w g k cs (by omega)⟩
end Go.Proofs.Ytiephlhohgohcaa.PAll
namespace Go.Proofs.Ytiephlhohgohcaa.PAll
open Go.RowKit Go.Proofs.YtiephlhohgohcaaW.PrintWords Go.Proofs.YtiephlhohgohcaaW.PrintLast Go.Proofs.YtiephlhohgohcaaW.PrintMore
attribute [local go_sem] max2_int min2_int max_two min_two max_three min_three max_four min_four
set_option linter.unusedVariables false
set_option linter.unusedSimpArgs false
theorem rcells_put (f : Int → Bool) {j : Nat} (hj : j < 102) (v : Bool) : (rcells f).setIfInBounds j (.bool v) = rcells (fun x => if x = (j : Int) then v else f x) := by
  apply Array.ext
  · simp [rcells_size]
  · intro i h1 h2
    rw [rcells_size] at h2
    rw [Array.getElem_setIfInBounds (by rw [rcells_size]; exact h2)]
    simp only [rcells, List.getElem_toArray, List.getElem_map, List.getElem_range]
    by_cases e : j = i
    · subst e; simp
    · rw [if_neg e, if_neg (by omega)]
theorem RSet.put {W : World} {b : Nat} {f : Int → Bool} (h : RSet W b f) {j : Nat} (hj : j < 102) (v : Bool) : RSet (W.setCell ⟨b, j, none⟩ (.bool v)) b (fun x => if x = (j : Int) then v else f x) := by
  have := blk_set h j (.bool v)
  rw [rcells_put f hj v] at this
  exact this
theorem RSet.congr {W : World} {b : Nat} {f g : Int → Bool} (h : RSet W b f) (hfg : ∀ j : Nat, j < 102 → f (j : Int) = g (j : Int)) : RSet W b g := by
  unfold RSet at h ⊢
  rw [h, rcells_congr hfg]
theorem BoxAt.far {w W : World} {A0 : Option Addr} {c0 n0 : Nat} {A1 : Option Addr} {c1 n1 : Nat} {pat : Int} (h : BoxAt w W A0 c0 n0 A1 c1 n1 pat) {p : Addr} (hp : w.heap.size < p.block) (u : Value) : BoxAt w (W.setCell p u) A0 c0 n0 A1 c1 n1 pat :=
  ⟨h.below.setCell (by omega) u, blk_far h.box (by omega) u⟩
theorem BoxAt.row {w W : World} {A0 : Option Addr} {c0 n0 : Nat} {A1 : Option Addr} {c1 n1 : Nat} {pat : Int} (h : BoxAt w W A0 c0 n0 A1 c1 n1 pat) {g : Nat} (hg : w.heap.size < g) (cs : Array Value) : BoxAt w (W.setRow g cs) A0 c0 n0 A1 c1 n1 pat :=
  ⟨below_setRow h.below (by omega) cs, (heap_setRow_other W g _ cs (by omega)).trans h.box⟩
theorem RSet.row {W : World} {b : Nat} {f : Int → Bool} (h : RSet W b f) {g : Nat} (hg : b ≠ g) (cs : Array Value) : RSet (W.setRow g cs) b f := (heap_setRow_other W g b cs hg).trans h
end Go.Proofs.Ytiephlhohgohcaa.PAll
namespace Go.Proofs.Ytiephlhohgohcaa.PAll
open Go.RowKit Go.Proofs.YtiephlhohgohcaaW.PrintWords Go.Proofs.YtiephlhohgohcaaW.PrintLast Go.Proofs.YtiephlhohgohcaaW.PrintMore
attribute [local go_sem] max2_int min2_int max_two min_two max_three min_three max_four min_four
set_option linter.unusedVariables false
set_option linter.unusedSimpArgs false
def loK (f : Int → Bool) : Nat → Int
  | 0 => 102
  | k + 1 => if f (k : Int) = true then min (loK f k) (k : Int) else loK f k
def hiK (f : Int → Bool) : Nat → Int
  | 0 => -1
  | k + 1 => if f (k : Int) = true then (k : Int) else hiK f k
end Go.Proofs.Ytiephlhohgohcaa.PAll
namespace Go.Proofs.Ytiephlhohgohcaa.PAll
open Go.RowKit Go.Proofs.YtiephlhohgohcaaW.PrintWords Go.Proofs.YtiephlhohgohcaaW.PrintLast Go.Proofs.YtiephlhohgohcaaW.PrintMore
set_option linter.unusedVariables false
set_option linter.unusedSimpArgs false
theorem loK_spec (f : Int → Bool) : ∀ k : Nat, k ≤ 102 → (∀ y : Nat, y < k → f y = true → loK f k ≤ y) ∧ ((loK f k = 102 ∧ ∀ y : Nat, y < k → f y = false) ∨ ∃ y : Nat, y < k ∧ f y = true ∧ loK f k = y)
  | 0, _ => ⟨fun y hy => by omega, .inl ⟨rfl, fun y hy => by omega⟩⟩
  | k + 1, hk => by
    obtain ⟨h1, h2⟩ := loK_spec f k (by omega)
    rw [loK]
    cases hf : f (k : Int) with
    | true =>
      rw [if_pos rfl]
      refine ⟨fun y hy hy2 => ?_, .inr ?_⟩
      · by_cases e : y = k
        · subst e; omega
        · have := h1 y (by omega) hy2; omega
      · rcases h2 with ⟨h2, _⟩ | ⟨y, hy, hy2, h2⟩
        · exact ⟨k, by omega, hf, by omega⟩
        · have := h1 y hy hy2
          exact ⟨y, by omega, hy2, by omega⟩
    | false =>
      rw [if_neg (by simp)]
      refine ⟨fun y hy hy2 => ?_, ?_⟩
      · by_cases e : y = k
        · subst e; rw [hf] at hy2; cases hy2
        · exact h1 y (by omega) hy2
      · rcases h2 with ⟨h2, h3⟩ | ⟨y, hy, hy2, h2⟩
        · refine .inl ⟨h2, fun y hy => ?_⟩
          by_cases e : y = k
          · subst e; exact hf
          · exact h3 y (by omega)
        · exact .inr ⟨y, by omega, hy2, h2⟩
theorem hiK_spec (f : Int → Bool) : ∀ k : Nat, (∀ y : Nat, y < k → f y = true → (y : Int) ≤ hiK f k) ∧ ((hiK f k = -1 ∧ ∀ y : Nat, y < k → f y = false) ∨ ∃ y : Nat, y < k ∧ f y = true ∧ hiK f k = y)
  | 0 => ⟨fun y hy => by omega, .inl ⟨rfl, fun y hy => by omega⟩⟩
  | k + 1 => by
    obtain ⟨h1, h2⟩ := hiK_spec f k
    rw [hiK]
    cases hf : f (k : Int) with
    | true =>
      rw [if_pos rfl]
      exact ⟨fun y hy hy2 => by omega, .inr ⟨k, by omega, hf, rfl⟩⟩
    | false =>
      rw [if_neg (by simp)]
      refine ⟨fun y hy hy2 => ?_, ?_⟩
      · by_cases e : y = k
        · subst e; rw [hf] at hy2; cases hy2
        · exact h1 y (by omega) hy2
      · rcases h2 with ⟨h2, h3⟩ | ⟨y, hy, hy2, h2⟩
        · refine .inl ⟨h2, fun y hy => ?_⟩
          by_cases e : y = k
          · subst e; exact hf
          · exact h3 y (by omega)
        · exact .inr ⟨y, by omega, hy2, h2⟩
/-- The least and the greatest number of a set. -/
def EndsOf (f : Int → Bool) (a b : Int) : Prop := 0 ≤ a ∧ b ≤ 101 ∧ f a = true ∧ f b = true ∧ ∀ y : Nat, f y = true → y ≤ 101 → a ≤ y ∧ (y : Int) ≤ b
theorem EndsOf.lo {f : Int → Bool} {a b : Int} (h : EndsOf f a b) (ha : a ≤ 101) : loK f 102 = a := by
  obtain ⟨h0, h1, h2, h3, h4⟩ := h
  obtain ⟨s1, s2⟩ := loK_spec f 102 (by omega)
  have e : ((a.toNat : Nat) : Int) = a := Int.toNat_of_nonneg h0
  have := s1 a.toNat (by omega) (by rw [e]; exact h2)
  rcases s2 with ⟨s2, _⟩ | ⟨y, hy, hy2, s2⟩
  · omega
  · have := h4 y hy2 (by omega); omega
theorem EndsOf.hi {f : Int → Bool} {a b : Int} (h : EndsOf f a b) (hb : 0 ≤ b) : hiK f 102 = b := by
  obtain ⟨h0, h1, h2, h3, h4⟩ := h
  obtain ⟨s1, s2⟩ := hiK_spec f 102
  have e : ((b.toNat : Nat) : Int) = b := Int.toNat_of_nonneg hb
  have := s1 b.toNat (by omega) (by rw [e]; exact h3)
  rcases s2 with ⟨s2, _⟩ | ⟨y, hy, hy2, s2⟩
  · omega
  · have := h4 y hy2 (by omega); omega
end Go.Proofs.Ytiephlhohgohcaa.PAll
namespace Go.Proofs.Ytiephlhohgohcaa.PAll
open Go.RowKit Go.Proofs.YtiephlhohgohcaaW.PrintWords Go.Proofs.YtiephlhohgohcaaW.PrintLast Go.Proofs.YtiephlhohgohcaaW.PrintMore
set_option linter.unusedVariables false
set_option linter.unusedSimpArgs false
theorem u8_of {a : Int} (h : (Lit.int .u8 a).wf = true) : 0 ≤ a ∧ a ≤ 255 := by
  have h1 : IntKind.u8.min = 0 := by decide
  have h2 : IntKind.u8.max = 255 := by decide
  simp [Lit.wf, h1, h2] at h
  omega
theorem check_pat {sends : List Int} {rs : List S122} {pat q : Int} (h : check sends rs pat = 0) (hq : 0 ≤ q ∧ q ≤ 30) : check sends rs q = 0 := by
  obtain ⟨h1, h2⟩ := check_zero h
  unfold bad at h2
  have : bad sends rs q = false := by
    simp only [bad, Bool.or_eq_false_iff] at h2 ⊢
    exact ⟨⟨⟨⟨⟨h2.1.1.1.1.1, h2.1.1.1.1.2⟩, by simp [inB_iff, hq]⟩, h2.1.1.2⟩, h2.1.2⟩, h2.2⟩
  simp [check, h1, this]
end Go.Proofs.Ytiephlhohgohcaa.PAll
namespace Go.Proofs.Ytiephlhohgohcaa.PAll
open Go.RowKit Go.Proofs.YtiephlhohgohcaaW.PrintWords Go.Proofs.YtiephlhohgohcaaW.PrintLast Go.Proofs.YtiephlhohgohcaaW.PrintMore
attribute [local go_sem] max2_int min2_int max_two min_two max_three min_three max_four min_four
set_option linter.unusedVariables false
set_option linter.unusedSimpArgs false
set_option maxRecDepth 100000 in
set_option maxHeartbeats 4000000 in
theorem ready54 (A0 : Option Addr) (c0 : Nat) (sends : List Int) (A1 : Option Addr) (c1 : Nat) (routes : List S54) (pat : Int) (rs : List S122) (w : World) (hrs : rs = routes.map toX) (h : PostAt w A0 c0 sends A1 c1 routes) :
    Calls Try.prog 54 #[.agg #[.slice A0 sends.length c0, .slice A1 routes.length c1, .int .i64 pat]] w fun e w' => e = .returned (.bool (thinB sends routes && check sends rs pat == 0)) ∧ Below w.heap.size w w' := by
  have HRS := Aside0.mk hrs
  clear hrs
  obtain ⟨R, hR⟩ : ∃ R, (thinB sends routes && check sends rs pat == 0) = R := ⟨_, rfl⟩
  have HRR := Aside0.mk hR
  rw [hR]
  clear hR
  obtain ⟨W1, hW1⟩ : ∃ W1, W1 = w.alloc (.cells #[.slice A0 sends.length c0, .slice A1 routes.length c1, .int .i64 pat] 25) := ⟨_, rfl⟩
  have hx := BoxAt.start w A0 c0 sends.length A1 c1 routes.length pat
  rw [← hW1] at hx
  have HX := Aside0.mk hx
  have HP := Aside0.mk h
  have x0 := hx.x0
  have x1 := hx.x1
  have x2 := hx.x2
  have HW1 := Aside0.mk hW1
  clear h hx hW1
  go_enter Try.func54, Try.ntmps54
  go_wp2_with fail
  rw [← HW1.out]
  clear HW1
  refine (thin18 pat (HP.out.below HX.out.below)).mono ?_
  rintro e w2 ⟨rfl, hb⟩
  replace HX := Aside0.mk (HX.out.later hb)
  clear hb x0 x1 x2
  cases hth : thinB sends routes with
  | false =>
    have HTH := Aside0.mk hth
    clear hth
    go_wp2_with fail
    go_ret
    exact ⟨by rw [← HRR.out, HTH.out]; rfl, HX.out.below⟩
  | true =>
    have HTH := Aside0.mk hth
    clear hth
    have x0 := HX.out.x0
    have x1 := HX.out.x1
    have x2 := HX.out.x2
    go_wp2_with fail
    refine (fault25 pat HRS.out (HP.out.below HX.out.below) (thin_spec HTH.out).1).mono ?_
    rintro e w3 ⟨rfl, hb⟩
    replace HX := Aside0.mk (HX.out.later hb)
    clear hb x0 x1 x2
    have HCC : Aside0 ((check sends rs pat == 0) = R) := ⟨by have := HRR.out; rw [HTH.out, Bool.true_and] at this; exact this⟩
    generalize check sends rs pat = ck at HCC ⊢
    by_cases hck : ck = 0
    · subst hck
      go_wp2_with fail
      go_ret
      exact ⟨by rw [← HCC.out]; rfl, HX.out.below⟩
    · have hcd : decide (ck = 0) = false := decide_eq_false hck
      have HCB := Aside0.mk (show (ck == 0) = false from beq_eq_false_iff_ne.2 hck)
      go_wp2_with fail
      go_ret
      exact ⟨by rw [← HCC.out, HCB.out]; rfl, HX.out.below⟩
end Go.Proofs.Ytiephlhohgohcaa.PAll
namespace Go.Proofs.Ytiephlhohgohcaa.PAll
open Go.RowKit Go.Proofs.YtiephlhohgohcaaW.PrintWords Go.Proofs.YtiephlhohgohcaaW.PrintLast Go.Proofs.YtiephlhohgohcaaW.PrintMore
set_option linter.unusedVariables false
set_option linter.unusedSimpArgs false
theorem restRow_snoc : ∀ (rs : List S122) (ts : List (List Int)) (r : S122) (tk : List Int) (right : Bool), rs.length = ts.length → restRow right rs ts = some true → ((r.f1 = true ∧ tk.length = 0) ∨ (tk.length = r.f0.length ∧ rangesB r.f0 tk = true)) → restRow right (rs ++ [r]) (ts ++ [tk]) = some true
  | [], [], r, tk, right, _, h, hc => by
    simp [restRow] at h
    subst h
    rw [List.nil_append, List.nil_append, restRow]
    by_cases e : (r.f1 && tk.length == 0) = true
    · rw [if_pos e]; rfl
    · rw [if_neg e]
      rcases hc with ⟨h1, h2⟩ | ⟨h1, h2⟩
      · exact absurd (by simp [h1, h2]) e
      · rw [if_pos h1, h2]; rfl
  | [], _ :: _, _, _, _, hl, _, _ => by simp at hl
  | _ :: _, [], _, _, _, hl, _, _ => by simp at hl
  | q :: rs, x :: ts, r, tk, right, hl, h, hc => by
    rw [List.length_cons, List.length_cons, Nat.add_right_cancel_iff] at hl
    rw [restRow] at h
    rw [List.cons_append, List.cons_append, restRow]
    split
    · rename_i h1; rw [if_pos h1] at h; exact restRow_snoc rs ts r tk right hl h hc
    · rename_i h1
      rw [if_neg h1] at h
      split
      · rename_i h2; rw [if_pos h2] at h; exact restRow_snoc rs ts r tk _ hl h hc
      · rename_i h2; rw [if_neg h2] at h; cases h
theorem rangesB_snoc : ∀ (ls : List S119) (ns : List Int) (l : S119) (n : Int), ls.length = ns.length → rangesB ls ns = true → inB l.f0.f0 l.f0.f1 n = true → rangesB (ls ++ [l]) (ns ++ [n]) = true
  | [], [], l, n, _, _, h => by simp [rangesB, h]
  | [], _ :: _, _, _, hl, _, _ => by simp at hl
  | _ :: _, [], _, _, hl, _, _ => by simp at hl
  | q :: ls, x :: ns, l, n, hl, h, hn => by
    rw [List.length_cons, List.length_cons, Nat.add_right_cancel_iff] at hl
    rw [rangesB, Bool.and_eq_true] at h
    rw [List.cons_append, List.cons_append, rangesB, Bool.and_eq_true]
    exact ⟨h.1, rangesB_snoc ls ns l n hl h.2 hn⟩
theorem restT_of (rs : List S122) : ∀ t : List (List (List Int)), (∀ l ∈ t, l.length = rs.length ∧ restRow true rs l = some true) → restT rs true t = 0
  | [], _ => rfl
  | l :: t, h => by
    obtain ⟨h1, h2⟩ := h l List.mem_cons_self
    rw [restT, if_pos h1, h2]
    exact restT_of rs t (fun x hx => h x (List.mem_cons_of_mem _ hx))
theorem shaped_of {sends : List Int} {rs : List S122} {t : List (List (List Int))} (hl : t.length = sends.length) (h : ∀ l ∈ t, l.length = rs.length ∧ restRow true rs l = some true) : shapedL sends rs t = 0 := by
  rw [shapedL, if_pos hl]
  exact restT_of rs t h
theorem restRow_lens {n : Nat} : ∀ (rs : List S122) (ts : List (List Int)) (right b : Bool), (∀ r ∈ rs, r.f0.length ≤ n) → rs.length = ts.length → restRow right rs ts = some b → ∀ x ∈ ts, x.length ≤ n
  | [], [], _, _, _, _, _ => fun x hx => by cases hx
  | [], _ :: _, _, _, _, hl, _ => by simp at hl
  | _ :: _, [], _, _, _, hl, _ => by simp at hl
  | q :: rs, y :: ts, right, b, hr, hl, h => by
    rw [List.length_cons, List.length_cons, Nat.add_right_cancel_iff] at hl
    intro x hx
    have ih := fun right' h' => restRow_lens rs ts right' b (fun r hr' => hr r (List.mem_cons_of_mem _ hr')) hl h'
    rw [restRow] at h
    split at h
    · rename_i h1
      rw [Bool.and_eq_true] at h1
      rcases List.mem_cons.1 hx with rfl | hx
      · have : x.length = 0 := by simpa using h1.2
        omega
      · exact ih _ h x hx
    · split at h
      · rename_i h2
        rcases List.mem_cons.1 hx with rfl | hx
        · rw [h2]; exact hr q List.mem_cons_self
        · exact ih _ h x hx
      · cases h
/-- A truth of a valid post is not long. -/
theorem short_of {sends : List Int} {rs : List S122} {pat : Int} {t : List (List (List Int))} (V : Valid sends rs pat) (hl : t.length = sends.length) (h : ∀ l ∈ t, l.length = rs.length ∧ restRow true rs l = some true) : shortB t = true := by
  have h4 := V.sn
  have h3 := V.rn
  rw [shortB, Bool.and_eq_true, List.all_eq_true]
  refine ⟨decide_eq_true (by omega), fun l hm => ?_⟩
  obtain ⟨h1, h2⟩ := h l hm
  rw [shortL, Bool.and_eq_true, List.all_eq_true]
  refine ⟨decide_eq_true (by omega), fun x hx => decide_eq_true ?_⟩
  have := restRow_lens (n := 3) rs l true true (fun r hr => (V.ln r hr).2) h1.symm h2 x hx
  omega
theorem u16_of {a : Int} (h : (Lit.int .u16 a).wf = true) : 0 ≤ a ∧ a ≤ 65535 := by
  have h1 : IntKind.u16.min = 0 := by decide
  have h2 : IntKind.u16.max = 65535 := by decide
  simp [Lit.wf, h1, h2] at h
  omega
theorem word_f {words : List Int} (hw : ∀ x ∈ words, (Lit.int .u16 x).wf = true) (hl : words.length ≤ 9223372036854775807) {n : Int} (h0 : 0 ≤ n) : ∃ r, glisterlaw05_word.f words n = some r ∧ 0 ≤ r ∧ r ≤ 65535 := by
  unfold glisterlaw05_word.f
  by_cases h : (words.length : Int) = 0
  · rw [if_pos h]; exact ⟨0, rfl, by omega, by omega⟩
  · rw [if_neg h]
    have e : Int.tmod n (words.length : Int) = n % (words.length : Int) := Int.tmod_eq_emod_of_nonneg h0
    have h1 := Int.emod_nonneg n h
    have h2 := Int.emod_lt_of_pos n (show 0 < (words.length : Int) by omega)
    rw [e, if_pos h1, if_pos h2]
    obtain ⟨k, hk⟩ : ∃ k : Nat, (k : Int) = n % (words.length : Int) := ⟨(n % (words.length : Int)).toNat, Int.toNat_of_nonneg h1⟩
    rw [← hk] at h2 ⊢
    have hlt : k < words.length := by omega
    rw [rdI hlt]
    have := u16_of (hw _ (List.getElem_mem hlt))
    exact ⟨wrap64 words[k], rfl, by unfold wrap64; omega, by unfold wrap64; omega⟩
theorem picked_f {lo hi n : Int} (h0 : 0 ≤ lo) (h1 : lo ≤ hi) (h2 : hi ≤ 6) (n0 : 0 ≤ n) (n1 : n ≤ 65535) : ∃ r, glisterlaw05_picked.f lo hi n = some r ∧ lo ≤ r ∧ r ≤ hi := by
  unfold glisterlaw05_picked.f
  have e1 : Int.tmod n 4 = n % 4 := Int.tmod_eq_emod_of_nonneg n0
  rw [e1]
  by_cases c0 : n % 4 = 0
  · rw [if_pos c0]; exact ⟨lo, rfl, by omega, by omega⟩
  · rw [if_neg c0]
    by_cases c1 : n % 4 = 1
    · rw [if_pos c1]; exact ⟨hi, rfl, by omega, by omega⟩
    · have ew : wrap64 (wrap64 (hi - lo) + 1) = hi - lo + 1 := by unfold wrap64; omega
      have ed : Int.tdiv n 4 = n / 4 := Int.tdiv_eq_ediv_of_nonneg n0
      have eq : wrap64 (n / 4) = n / 4 := by unfold wrap64; omega
      rw [if_neg c1, ew, if_neg (by omega), ed, eq, Int.tmod_eq_emod_of_nonneg (by omega)]
      have a1 := Int.emod_nonneg (n / 4) (show hi - lo + 1 ≠ 0 by omega)
      have a2 := Int.emod_lt_of_pos (n / 4) (show 0 < hi - lo + 1 by omega)
      refine ⟨_, rfl, ?_, ?_⟩ <;> unfold wrap64 <;> omega
end Go.Proofs.Ytiephlhohgohcaa.PAll
namespace Go.Proofs.Ytiephlhohgohcaa.PAll
open Go.RowKit Go.Proofs.YtiephlhohgohcaaW.PrintWords Go.Proofs.YtiephlhohgohcaaW.PrintLast Go.Proofs.YtiephlhohgohcaaW.PrintMore
attribute [local go_sem] max2_int min2_int max_two min_two max_three min_three max_four min_four
set_option linter.unusedVariables false
set_option linter.unusedSimpArgs false
/-- Words in memory. -/
structure WordsAt (w : World) (A : Option Addr) (c : Nat) (words : List Int) : Prop where
  at' : Kd.C (Kd.int .u16) w A words.length words
  cap : words.length ≤ c
  wf : ∀ x ∈ words, (Lit.int .u16 x).wf = true
  len : words.length ≤ 9223372036854775807
theorem WordsAt.below {w w' : World} {A : Option Addr} {c : Nat} {words : List Int} (h : WordsAt w A c words) (hb : Below w.heap.size w w') : WordsAt w' A c words := ⟨Kd.C_below h.at' hb, h.cap, h.wf, h.len⟩
theorem word100 {A : Option Addr} {c : Nat} {words : List Int} {w : World} (h : WordsAt w A c words) (n : Int) (h0 : 0 ≤ n) : Calls Try.prog 100 #[.slice A words.length c, .int .i64 n] w fun e w' => ∃ r : Int, e = .returned (.int .i64 r) ∧ 0 ≤ r ∧ r ≤ 65535 ∧ Below w.heap.size w w' := by
  obtain ⟨r, h1, h2, h3⟩ := word_f h.wf h.len h0
  refine (glisterlaw05_word.calls A c words n r w h.at' h.cap h1).mono ?_
  rintro e w' ⟨rfl, hd⟩
  exact ⟨r, rfl, h2, h3, by obtain ⟨k, rfl⟩ := hd; exact pw_below_drewN (Below.refl _ _) k⟩
theorem picked101 {lo hi n : Int} (w : World) (h0 : 0 ≤ lo) (h1 : lo ≤ hi) (h2 : hi ≤ 6) (n0 : 0 ≤ n) (n1 : n ≤ 65535) : Calls Try.prog 101 #[.agg #[.int .i64 lo, .int .i64 hi], .int .i64 n] w fun e w' => ∃ r : Int, e = .returned (.int .i64 r) ∧ lo ≤ r ∧ r ≤ hi ∧ Below w.heap.size w w' := by
  obtain ⟨r, h3, h4, h5⟩ := picked_f h0 h1 h2 n0 n1
  refine (glisterlaw05_picked.calls lo hi n r w h3).mono ?_
  rintro e w' ⟨rfl, hb⟩
  exact ⟨r, rfl, h4, h5, hb⟩
/-- An append within a region that draws its order; the row is the elder one, or new. -/
theorem kd_append_hat {α : Type} (d : Kd α) {P : Program} {ops : Array Oper} {o : Oper} {a : Act} {Kc : Act → World → Prop} {Q : Exit → Act → World → Prop} {E : Prop} {w0 W : World} (base : Nat) (hgd : o.guard = none) (s x : Operand) (t e : TypeId) (z : Value) (bytes : Nat)
    (ho : o.op = .call { callee := .builtin .append, args := #[s, x], argTypes := #[t, t] })
    (ht : P.underlying t = some (.slice e)) (hinfo : (P.info? e).map (fun i => (i.zero, i.size, i.bytes)) = some (some z, d.sz, bytes)) (hz : z.cells.size = d.sz) (hs0 : 0 < d.sz)
    (v : Value) (xs : List α) (p : α) (cs : List Value) (hs : a.eval s = v) (hx : a.eval x = .slice (some ⟨W.heap.size, 0, none⟩) 1 1) (okp : Nat → Prop) (hp : d.M W base okp p cs) (hokp : ∀ k, okp k → some k ≠ v.ownBlock)
    (HO : d.R e W base (fun _ => True) v xs) (HB : Below base w0 W) (hbase : base ≤ W.heap.size) (hl : (xs.length + 1) * bytes ≤ 140737488355328) (h63 : xs.length + 1 ≤ maxLen)
    (h : ∀ v1 w1, d.R e w1 base (fun _ => True) v1 (xs ++ [p]) → Below base w0 w1 → W.grownBy w1 v.ownBlock → (v1.ownBlock = v.ownBlock ∨ ∃ b, v1.ownBlock = some b ∧ W.heap.size ≤ b) → Kc (a.put o.dst v1) w1) :
    if Region.wanted o (yielded ops a.tmps) = true then Oper.wp P o a (W.alloc (.cells cs.toArray e)) Kc Q else E := by
  obtain ⟨i0, hi, hzz⟩ := Option.map_eq_some_iff.1 hinfo
  simp only [Prod.mk.injEq] at hzz
  obtain ⟨hz0, hz1, hz2⟩ := hzz
  obtain ⟨h0, inner, hown, hr⟩ := HO
  have hlen := d.K_len (d.K_of_M hp)
  refine step_append_lies _ hgd s x t ho base e i0 z d.sz bytes ht hi hz0 hz1 hz2 hz hs0 v xs.length inner hs (hown.alloc (.cells cs.toArray e)) ⟨W.heap.size, 0, none⟩ 1 1 cs hx (by omega)
    (World.news_of_block (cs := cs.toArray) (t := e) (fr := (0, 0)) (heap_alloc_new W _)) (d.K_one (d.K_of_M hp)) (by omega) h63 hl (by simp; omega) _ rfl ?_
  intro g cap w1 hown1 hg hat hlt
  have hg' : W.grownBy w1 v.ownBlock := World.grownBy.trans (World.grownBy_alloc W (.cells cs.toArray e) v.ownBlock) hg
  have hat' : ((Value.slice (some ⟨g, 0, none⟩) (xs.length + 1) cap).ownBlock = v.ownBlock ∨ ∃ b, (Value.slice (some ⟨g, 0, none⟩) (xs.length + 1) cap).ownBlock = some b ∧ W.heap.size ≤ b) := by
    rcases hat with hat | hat
    · exact .inl (by rw [hat]; rfl)
    · exact .inr ⟨g, rfl, by rw [hat]; simp⟩
  exact h _ w1 (Kd.R_appended h0 hr hp (fun k hk => ⟨trivial, hokp k hk⟩) (fun _ _ => trivial) hown1 hg' hat') (HB.grown hg' hbase (fun k hk => own_base hown k hk)) hg' hat'
theorem third_of {r : Int} (h0 : 0 ≤ r) (h1 : r ≤ 65535) : 0 ≤ Int.tdiv r 3 ∧ Int.tdiv r 3 ≤ 65535 ∧ IntKind.i64.wrap (Int.tdiv r 3) = Int.tdiv r 3 := by
  have e : Int.tdiv r 3 = r / 3 := Int.tdiv_eq_ediv_of_nonneg h0
  rw [e]
  exact ⟨by omega, by omega, IntWalk.i64_in _ (by omega)⟩
/-- Rows of a truth that are made so far. -/
def RowsOk (rs : List S122) (t : List (List (List Int))) : Prop := ∀ l ∈ t, l.length = rs.length ∧ restRow true rs l = some true
theorem RowsOk.snoc {rs : List S122} {t : List (List (List Int))} {l : List (List Int)} (h : RowsOk rs t) (h1 : l.length = rs.length) (h2 : restRow true rs l = some true) : RowsOk rs (t ++ [l]) := by
  intro x hx
  rcases List.mem_append.1 hx with hx | hx
  · exact h x hx
  · obtain rfl := List.mem_singleton.1 hx; exact ⟨h1, h2⟩
set_option maxRecDepth 100000 in
set_option maxHeartbeats 8000000 in
theorem picked47 (A0 : Option Addr) (c0 : Nat) (sends : List Int) (A1 : Option Addr) (c1 : Nat) (routes : List S54) (pat : Int) (rs : List S122) (A2 : Option Addr) (c2 : Nat) (words : List Int) (w : World) (hrs : rs = routes.map toX) (h : PostAt w A0 c0 sends A1 c1 routes) (V : Valid sends rs pat) (hw : WordsAt w A2 c2 words) :
    Calls Try.prog 47 #[.agg #[.slice A0 sends.length c0, .slice A1 routes.length c1, .int .i64 pat], .slice A2 words.length c2] w fun e w' =>
      ∃ A c t, e = .returned (.slice A (t : List (List (List Int))).length c) ∧ t.length ≤ c ∧ Kd.C (Kd.slice 22 (Kd.slice 3 (Kd.int .i64))) w' A t.length t ∧ t.length = sends.length ∧ RowsOk rs t ∧ Below w.heap.size w w' := by
  have HRS := Aside0.mk hrs
  obtain ⟨W1, hW1⟩ : ∃ W1, W1 = w.alloc (.cells #[.slice A0 sends.length c0, .slice A1 routes.length c1, .int .i64 pat] 25) := ⟨_, rfl⟩
  have hx := BoxAt.start w A0 c0 sends.length A1 c1 routes.length pat
  rw [← hW1] at hx
  have HX := Aside0.mk hx
  have HP := Aside0.mk h
  have HV := Aside0.mk V
  have HWD := Aside0.mk hw
  have HW1 := Aside0.mk hW1
  have hs4 := V.sn
  have hr3 : routes.length ≤ 3 := by have := V.rn; rw [hrs, List.length_map] at this; exact this
  have HRL : Aside0 (rs.length = routes.length) := ⟨by rw [hrs, List.length_map]⟩
  clear h hx hW1 hrs V hw
  go_enter Try.func47, Try.ntmps47
  go_wp2_with fail
  rw [← HW1.out]
  clear HW1
  go_loopg [5, 6] sends.length (fun gg s5 s6 wr => ∃ (i : Nat) (t : List (List (List Int))), i ≤ sends.length ∧ sends.length - i ≤ gg ∧ s6 = .int .i64 i ∧ Aside0 (t.length = i) ∧ Aside0 (RowsOk rs t) ∧ Aside0 (Kd.R (Kd.slice 22 (Kd.slice 3 (Kd.int .i64))) 78 wr w.heap.size (fun _ => True) s5 t) ∧ Aside0 (BoxAt w wr A0 c0 sends.length A1 c1 routes.length pat))
  case atStart => exact ⟨0, [], by omega, by omega, rfl, ⟨rfl⟩, ⟨fun l hl => by cases hl⟩, ⟨Kd.R_nil _ _ _ _ _⟩, HX⟩
  case round =>
    obtain ⟨i, t, hi, hgi, rfl, HTLN, HOK, HO, HXr⟩ := hrel
    obtain ⟨wm, rfl⟩ : ∃ wm : World, wm = wr := ⟨_, rfl⟩
    have x0 := HXr.out.x0
    by_cases hlt : i < sends.length
    · have hltz : (i : Int) < (sends.length : Int) := by omega
      go_wp2_with fail
      clear x0
      go_loopg [7, 8] routes.length (fun gm s7 s8 wi => ∃ (m : Nat) (l : List (List Int)), m ≤ routes.length ∧ routes.length - m ≤ gm ∧ s8 = .int .i64 m ∧ Aside0 (l.length = m) ∧ Aside0 (restRow true (rs.take m) l = some true) ∧ Aside0 (Kd.R (Kd.slice 3 (Kd.int .i64)) 22 wi w.heap.size (fun _ => True) s7 l) ∧
        Aside0 (Kd.R (Kd.slice 22 (Kd.slice 3 (Kd.int .i64))) 78 wi w.heap.size (fun k' => True ∧ some k' ≠ s7.ownBlock) u5 t) ∧ Aside0 (BoxAt w wi A0 c0 sends.length A1 c1 routes.length pat))
      case atStart => exact ⟨0, [], by omega, by omega, rfl, ⟨rfl⟩, ⟨rfl⟩, ⟨Kd.R_nil _ _ _ _ _⟩, ⟨Kd.R_mono HO.out (fun k' _ => ⟨trivial, fun e => by simp [Value.ownBlock] at e⟩)⟩, HXr⟩
      case round =>
        obtain ⟨m, l, hm, hgm, rfl, HLLN, HLR, HI, HOi, HXi⟩ := hrel
        obtain ⟨wn, rfl⟩ : ∃ wn : World, wn = wr := ⟨_, rfl⟩
        have x1 := HXi.out.x1
        by_cases hml : m < routes.length
        · have hmlz : (m : Int) < (routes.length : Int) := by omega
          have hmrs : m < rs.length := by have := HRL.out; omega
          have hi4 : i ≤ 3 := by omega
          have hm2 : m ≤ 2 := by omega
          obtain ⟨ad5, A5, c5, e5, d50, d51, l5, g5⟩ := at_T54 HP.out.h1 (m : Int) (by omega) hmlz
          cases e5
          rw [Int.toNat_natCast] at d50 d51
          have hx54 : rd_T54 routes (m : Int) = routes[m] := rdT54 hml
          have hX : rs[m] = toX (rd_T54 routes (m : Int)) := by rw [hx54]; simp [HRS.out]
          have HXX := Aside0.mk hX
          have HTK : Aside0 (rs.take (m + 1) = rs.take m ++ [rs[m]]) := ⟨List.take_succ_eq_append_getElem hmrs⟩
          have HLN := Aside0.mk (HV.out.ln _ (List.getElem_mem hmrs))
          have HTKS := Aside0.mk (HV.out.tk _ (List.getElem_mem hmrs))
          rw [hX] at HLN HTKS
          have G5 := Aside0.mk g5
          clear hx54 hX g5
          generalize rd_T54 routes (m : Int) = x at d50 d51 l5 HXX G5 HLN HTKS
          have D50 := Aside0.mk d50
          have D51 := Aside0.mk d51
          have e50 := (HXi.out.below.cell (World.block_lt_of_cell? w _ d50)).trans d50
          have e51 := (HXi.out.below.cell (World.block_lt_of_cell? w _ d51)).trans d51
          clear d50 d51
          have hlx : x.f0.length ≤ 3 := by have := HLN.out.2; simp [toX] at this; exact this
          go_wp2_with fail
          refine (word100 (HWD.out.below HXi.out.below) _ (by first | omega | (unfold wrap64; omega))).mono ?_
          rintro e wa ⟨r1, rfl, hr10, hr11, hb⟩
          have HXa := Aside0.mk (HXi.out.later hb)
          have HIa := Aside0.mk (Kd.R_below HI.out hb)
          have HOa := Aside0.mk (Kd.R_below HOi.out hb)
          replace e50 := pw_cell_below hb e50
          replace e51 := pw_cell_below hb e51
          clear hb x1 HXi HI HOi
          have x1 := HXa.out.x1
          have hr1m : Int.tmod r1 3 = r1 % 3 := Int.tmod_eq_emod_of_nonneg hr10
          by_cases hlossy : x.f1 = true ∧ r1 % 3 = 0
          · have hz : (r1 % 3 == 0) = true := by simp [hlossy.2]
            have hz2 : x.f1 = true := hlossy.1
            have HZ := Aside0.mk hz2
            rw [hz2] at e51
            clear hlossy hr1m hz2
            have hll1 : l.length ≤ 100 := by have := HLLN.out; omega
            go_wp2_with (at_builtin; refine Kd.R_append (Kd.slice 3 (Kd.int .i64)) (w0 := w) w.heap.size rfl (.tmp 43) (.tmp 44) 78 22 (.slice none 0 0) 24 rfl Try.underlying78 info22 rfl (by decide) (by omega) u7 l [] [.slice none 0 0] (fun _ => True) (fun k' => some k' ≠ u7.ownBlock) rfl rfl (Kd.M_row (Kd.R_nil _ _ _ _ _)) (fun _ hk => ⟨trivial, hk⟩) (fun _ _ => trivial) HIa.out HXa.out.below HXa.out.below.size (by omega) ?_; intro v4 w4 hr4 hb4 hg4 hat4; have HR4 := Aside0.mk hr4; have HB4 := Aside0.mk hb4; have HO4 := Aside0.mk (Kd.R_after HOa.out hg4 hat4); have HX4 := Aside0.mk (show BoxAt w w4 A0 c0 sends.length (some ad5) c1 routes.length pat from ⟨hb4, blk_grown HXa.out.box hg4 (R_row_ne HIa.out HXa.out.box (fun cs e => by injection e with _ e2 _; cases e2))⟩); clear hr4 hb4 hg4 hat4)
            go_roundg (routes.length - (m + 1))
            case measure => omega
            case rel =>
              refine ⟨m + 1, l ++ [[]], by omega, by omega, by go_num, ⟨by have := HLLN.out; simp; omega⟩, ⟨?_⟩, HR4, HO4, HX4⟩
              rw [HTK.out]
              refine restRow_snoc _ _ _ _ _ (by have := HLLN.out; rw [List.length_take]; omega) HLR.out (.inl ⟨?_, rfl⟩)
              rw [HXX.out]; exact HZ.out
          · have hcases : (x.f1 = false) ∨ (x.f1 = true ∧ ¬ r1 % 3 = 0) := by
              cases hf : x.f1 with
              | false => exact .inl rfl
              | true => exact .inr ⟨rfl, fun e => hlossy ⟨hf, e⟩⟩
            clear hlossy
            have HWC : Aside0 (∀ (n : Int) (w' : World), 0 ≤ n → Below w.heap.size w w' → Calls Try.prog 100 #[.slice A2 words.length c2, .int .i64 n] w' fun e w'' => ∃ r : Int, e = .returned (.int .i64 r) ∧ 0 ≤ r ∧ r ≤ 65535 ∧ Below w'.heap.size w' w'') := ⟨fun n w' h0 hb => word100 (HWD.out.below hb) n h0⟩
            rcases hcases with hfx | ⟨hfx, hfr⟩
            · rw [hfx] at e51
              clear hr1m hfx
              go_wp2_with fail
              clear x1 e50 e51
              go_loopg [10, 11] x.f0.length (fun gk s10 s11 wj => ∃ (k : Nat) (tk : List Int), k ≤ x.f0.length ∧ x.f0.length - k ≤ gk ∧ s11 = .int .i64 k ∧ Aside0 (tk.length = k) ∧ Aside0 (rangesB ((toX x).f0.take k) tk = true) ∧ Aside0 (Kd.R (Kd.int .i64) 3 wj w.heap.size (fun _ => True) s10 tk) ∧
                Aside0 (Kd.R (Kd.slice 3 (Kd.int .i64)) 22 wj w.heap.size (fun k' => True ∧ some k' ≠ s10.ownBlock) u7 l) ∧ Aside0 (Kd.R (Kd.slice 22 (Kd.slice 3 (Kd.int .i64))) 78 wj w.heap.size (fun k' => (True ∧ some k' ≠ u7.ownBlock) ∧ some k' ≠ s10.ownBlock) u5 t) ∧ Aside0 (BoxAt w wj A0 c0 sends.length (some ad5) c1 routes.length pat))
              case atStart => exact ⟨0, [], by omega, by omega, rfl, ⟨rfl⟩, ⟨rfl⟩, ⟨Kd.R_nil _ _ _ _ _⟩, ⟨Kd.R_mono HIa.out (fun k' _ => ⟨trivial, fun e => by simp [Value.ownBlock] at e⟩)⟩, ⟨Kd.R_mono HOa.out (fun k' hk => ⟨hk, fun e => by simp [Value.ownBlock] at e⟩)⟩, HXa⟩
              case round =>
                obtain ⟨k, tk, hk, hgk, rfl, HTKN, HRG, HT, HIk, HOk, HXk⟩ := hrel
                obtain ⟨wo, rfl⟩ : ∃ wo : World, wo = wr := ⟨_, rfl⟩
                have x1 := HXk.out.x1
                have f50 := (HXk.out.below.cell (World.block_lt_of_cell? w _ D50.out)).trans D50.out
                by_cases hkl : k < x.f0.length
                · have hklz : (k : Int) < (x.f0.length : Int) := by omega
                  have hk2 : k ≤ 2 := by omega
                  obtain ⟨ad7, A7, c7, e7, y0, y1, y2, l7, g7⟩ := at_T101 G5.out (k : Int) (by omega) hklz
                  cases e7
                  have hx101 : rd_T101 x.f0 (k : Int) = x.f0[k] := rdT101 hkl
                  have hkX : k < (toX x).f0.length := by simpa [toX] using hkl
                  have hLX : (toX x).f0[k] = toL x.f0[k] := by simp [toX]
                  have HTKL : Aside0 ((toX x).f0.take (k + 1) = (toX x).f0.take k ++ [toL x.f0[k]]) := ⟨by rw [List.take_succ_eq_append_getElem hkX, hLX]⟩
                  have hb3 := HTKS.out _ (List.getElem_mem hkX)
                  rw [hLX] at hb3
                  rw [Int.toNat_natCast, hx101] at y0 y1
                  clear y2 l7 g7 hx101 hLX hkX
                  generalize x.f0[k] = lg at y0 y1 hb3 HTKL
                  obtain ⟨⟨lo, hi⟩, asl⟩ := lg
                  dsimp only [toL, toR] at y0 y1 hb3
                  have Y0 := Aside0.mk y0
                  have Y1 := Aside0.mk y1
                  replace y0 := (HXk.out.below.cell (World.block_lt_of_cell? w _ Y0.out)).trans Y0.out
                  replace y1 := (HXk.out.below.cell (World.block_lt_of_cell? w _ Y1.out)).trans Y1.out
                  have HPK : Aside0 (∀ (n : Int) (w' : World), 0 ≤ n → n ≤ 65535 → Calls Try.prog 101 #[.agg #[.int .i64 lo, .int .i64 hi], .int .i64 n] w' fun e w'' => ∃ r : Int, e = .returned (.int .i64 r) ∧ lo ≤ r ∧ r ≤ hi ∧ Below w'.heap.size w' w'') := ⟨fun n w' h0 h1 => picked101 w' hb3.1 hb3.2.1 hb3.2.2 h0 h1⟩
                  have KEEP : Aside0 (∀ w', BoxAt w w' A0 c0 sends.length (some ad5) c1 routes.length pat → (w'.cell? ⟨w.heap.size, 1, none⟩ = some (.slice (some ad5) routes.length c1) ∧ w'.cell? (ad5.add (m * 2)) = some (.slice (some ad7) x.f0.length c5) ∧ w'.cell? (ad7.add (k * 3)) = some (.int .i64 lo) ∧ w'.cell? ⟨(ad7.add (k * 3)).block, (ad7.add (k * 3)).off + 1, none⟩ = some (.int .i64 hi))) :=
                    ⟨fun w' hb => ⟨hb.x1, (hb.below.cell (World.block_lt_of_cell? w _ D50.out)).trans D50.out, (hb.below.cell (World.block_lt_of_cell? w _ Y0.out)).trans Y0.out, (hb.below.cell (World.block_lt_of_cell? w _ Y1.out)).trans Y1.out⟩⟩
                  have hq0 : Aside0 (Below wo.heap.size wo wo.drew) := ⟨below_drew (Below.refl _ _)⟩
                  have HIT := Aside0.mk (Kd.R_mono (ok' := fun _ => True) HT.out (fun _ _ => trivial))
                  have q1 : IntKind.i64.wrap (4 * (i : Int)) = 4 * (i : Int) := IntWalk.i64_in _ (by omega)
                  have q2 : IntKind.i64.wrap (4 * (i : Int) + (m : Int)) = 4 * (i : Int) + (m : Int) := IntWalk.i64_in _ (by omega)
                  have q3 : IntKind.i64.wrap (4 * (i : Int) + (m : Int) + (k : Int)) = 4 * (i : Int) + (m : Int) + (k : Int) := IntWalk.i64_in _ (by omega)
                  have q4 : IntKind.i64.wrap (4 * (i : Int) + (m : Int) + (k : Int) + 1) = 4 * (i : Int) + (m : Int) + (k : Int) + 1 := IntWalk.i64_in _ (by omega)
                  have HN0 : Aside0 (0 ≤ 4 * (i : Int) + (m : Int) + (k : Int) + 1) := ⟨by omega⟩
                  go_wp2_with fail
                  go_region_held3 (fun w' => w'.cell? ⟨w.heap.size, 1, none⟩ = some (.slice (some ad5) routes.length c1) ∧ w'.cell? (ad5.add (m * 2)) = some (.slice (some ad7) x.f0.length c5) ∧ w'.cell? (ad7.add (k * 3)) = some (.int .i64 lo) ∧ w'.cell? ⟨(ad7.add (k * 3)).block, (ad7.add (k * 3)).off + 1, none⟩ = some (.int .i64 hi))
                    (first
                      | exact KEEP.out _ (HXk.out.later hq0.out)
                      | exact KEEP.out _ (HXk.out.later hq1.out)
                      | exact KEEP.out _ (HXk.out.later hq2.out)
                      | exact KEEP.out _ (HXk.out.later (hq2.out.alloc hq2.out.size _))
                      | exact KEEP.out _ HX6.out)
                    (first
                      | (go_at_call 100; refine (HWC.out _ _ HN0.out (below_then HXk.out.below HXk.out.below.size hq0.out)).mono ?_; rintro e wb ⟨r2, rfl, hr20, hr21, hb⟩; have hq1 := Aside0.mk (below_then hq0.out hq0.out.size hb); have H3 := Aside0.mk (third_of hr20 hr21); have q5 := H3.out.2.2; clear hb hr20 hr21)
                      | (go_at_call 101; refine (HPK.out _ _ H3.out.1 H3.out.2.1).mono ?_; rintro e wc ⟨r3, rfl, hr30, hr31, hb⟩; have hq2 := Aside0.mk (below_then hq1.out hq1.out.size hb); have H4 := Aside0.mk (And.intro hr30 hr31); clear hb hr30 hr31)
                      | (refine kd_append_hat (Kd.int .i64) (w0 := w) w.heap.size (by rfl) (.tmp 57) (.tmp 79) 22 3 (.int .i64 0) 8 (by rfl) Try.underlying22 info3 rfl (by decide) u10 tk r3 [.int .i64 r3] (by rfl) (by rfl) (fun _ => False) rfl (fun _ hk => hk.elim) (Kd.R_below HIT.out hq2.out) (below_then HXk.out.below HXk.out.below.size hq2.out) (Nat.le_trans HXk.out.below.size hq2.out.size) (by have := HTKN.out; omega) (by have := HTKN.out; unfold maxLen; omega) ?_; intro v6 w6 hr6 hb6 hg6 hat6; have HR6 := Aside0.mk hr6; have HX6 := Aside0.mk (show BoxAt w w6 A0 c0 sends.length (some ad5) c1 routes.length pat from ⟨hb6, blk_grown (HXk.out.later hq2.out).box hg6 (R_row_ne (Kd.R_below HIT.out hq2.out) (HXk.out.later hq2.out).box (fun cs e => by injection e with _ e2 _; cases e2))⟩); have HI6 := Aside0.mk (Kd.R_after (Kd.R_below HIk.out hq2.out) hg6 hat6); have HO6 := Aside0.mk (Kd.R_after (Kd.R_below HOk.out hq2.out) hg6 hat6); clear hr6 hb6 hg6 hat6))
                  clear q1 q2 q3 q4 q5
                  go_wp2_with fail
                  go_roundg (x.f0.length - (k + 1))
                  case measure => omega
                  case rel =>
                    refine ⟨k + 1, tk ++ [r3], by omega, by omega, by go_num, ⟨by have := HTKN.out; simp; omega⟩, ⟨?_⟩, HR6, HI6, HO6, HX6⟩
                    rw [HTKL.out]
                    refine rangesB_snoc _ _ _ _ (by have := HTKN.out; rw [List.length_take]; simp [toX]; omega) HRG.out (inB_iff.2 H4.out)
                · have hklz : ¬ (k : Int) < (x.f0.length : Int) := by omega
                  have HKX : Aside0 (tk.length = x.f0.length) := ⟨by have := HTKN.out; omega⟩
                  have hkxx : k = (toX x).f0.length := by simp [toX]; omega
                  have HRF : Aside0 (rangesB (toX x).f0 tk = true) := ⟨by have := HRG.out; rw [hkxx, List.take_length] at this; exact this⟩
                  have HLF : Aside0 (tk.length = (toX x).f0.length) := ⟨by have := HKX.out; simp [toX]; omega⟩
                  obtain ⟨A8, c8, hv8⟩ := Kd.R_slice HT.out
                  have HVT := Aside0.mk (R_apart_types HT.out HIk.out (by decide))
                  have HII := Aside0.mk (Kd.R_mono (ok' := fun _ => True) HIk.out (fun _ _ => trivial))
                  have HOO := Aside0.mk (Kd.R_mono (ok' := fun k' => True ∧ some k' ≠ u7.ownBlock) HOk.out (fun _ hk => hk.1))
                  have hll1 : l.length ≤ 100 := by have := HLLN.out; omega
                  clear hkxx HIk HOk HRG
                  subst hv8
                  go_wp2_with (at_builtin; refine Kd.R_append (Kd.slice 3 (Kd.int .i64)) (w0 := w) w.heap.size rfl (.tmp 81) (.tmp 83) 78 22 (.slice none 0 0) 24 rfl Try.underlying78 info22 rfl (by decide) (by omega) u7 l tk [.slice A8 tk.length c8] (fun _ => True) (fun k' => some k' ≠ u7.ownBlock) rfl rfl (Kd.M_row HVT.out) (fun _ hk => ⟨trivial, hk⟩) (fun _ _ => trivial) HII.out HXk.out.below HXk.out.below.size (by omega) ?_; intro v4 w4 hr4 hb4 hg4 hat4; have HR4 := Aside0.mk hr4; have HO4 := Aside0.mk (Kd.R_after HOO.out hg4 hat4); have HX4 := Aside0.mk (show BoxAt w w4 A0 c0 sends.length (some ad5) c1 routes.length pat from ⟨hb4, blk_grown HXk.out.box hg4 (R_row_ne HII.out HXk.out.box (fun cs e => by injection e with _ e2 _; cases e2))⟩); clear hr4 hb4 hg4 hat4)
                  go_roundg (routes.length - (m + 1))
                  case measure => omega
                  case rel =>
                    refine ⟨m + 1, l ++ [tk], by omega, by omega, by go_num, ⟨by have := HLLN.out; simp; omega⟩, ⟨?_⟩, HR4, HO4, HX4⟩
                    rw [HTK.out]
                    refine restRow_snoc _ _ _ _ _ (by have := HLLN.out; rw [List.length_take]; omega) HLR.out (.inr ?_)
                    rw [HXX.out]
                    exact ⟨HLF.out, HRF.out⟩
            · rw [hfx] at e51
              have hz : (r1 % 3 == 0) = false := by simpa using hfr
              clear hfr
              clear hr1m hfx
              go_wp2_with fail
              clear x1 e50 e51
              clear hz
              go_loopg [10, 11] x.f0.length (fun gk s10 s11 wj => ∃ (k : Nat) (tk : List Int), k ≤ x.f0.length ∧ x.f0.length - k ≤ gk ∧ s11 = .int .i64 k ∧ Aside0 (tk.length = k) ∧ Aside0 (rangesB ((toX x).f0.take k) tk = true) ∧ Aside0 (Kd.R (Kd.int .i64) 3 wj w.heap.size (fun _ => True) s10 tk) ∧
                Aside0 (Kd.R (Kd.slice 3 (Kd.int .i64)) 22 wj w.heap.size (fun k' => True ∧ some k' ≠ s10.ownBlock) u7 l) ∧ Aside0 (Kd.R (Kd.slice 22 (Kd.slice 3 (Kd.int .i64))) 78 wj w.heap.size (fun k' => (True ∧ some k' ≠ u7.ownBlock) ∧ some k' ≠ s10.ownBlock) u5 t) ∧ Aside0 (BoxAt w wj A0 c0 sends.length (some ad5) c1 routes.length pat))
              case atStart => exact ⟨0, [], by omega, by omega, rfl, ⟨rfl⟩, ⟨rfl⟩, ⟨Kd.R_nil _ _ _ _ _⟩, ⟨Kd.R_mono HIa.out (fun k' _ => ⟨trivial, fun e => by simp [Value.ownBlock] at e⟩)⟩, ⟨Kd.R_mono HOa.out (fun k' hk => ⟨hk, fun e => by simp [Value.ownBlock] at e⟩)⟩, HXa⟩
              case round =>
                obtain ⟨k, tk, hk, hgk, rfl, HTKN, HRG, HT, HIk, HOk, HXk⟩ := hrel
                obtain ⟨wo, rfl⟩ : ∃ wo : World, wo = wr := ⟨_, rfl⟩
                have x1 := HXk.out.x1
                have f50 := (HXk.out.below.cell (World.block_lt_of_cell? w _ D50.out)).trans D50.out
                by_cases hkl : k < x.f0.length
                · have hklz : (k : Int) < (x.f0.length : Int) := by omega
                  have hk2 : k ≤ 2 := by omega
                  obtain ⟨ad7, A7, c7, e7, y0, y1, y2, l7, g7⟩ := at_T101 G5.out (k : Int) (by omega) hklz
                  cases e7
                  have hx101 : rd_T101 x.f0 (k : Int) = x.f0[k] := rdT101 hkl
                  have hkX : k < (toX x).f0.length := by simpa [toX] using hkl
                  have hLX : (toX x).f0[k] = toL x.f0[k] := by simp [toX]
                  have HTKL : Aside0 ((toX x).f0.take (k + 1) = (toX x).f0.take k ++ [toL x.f0[k]]) := ⟨by rw [List.take_succ_eq_append_getElem hkX, hLX]⟩
                  have hb3 := HTKS.out _ (List.getElem_mem hkX)
                  rw [hLX] at hb3
                  rw [Int.toNat_natCast, hx101] at y0 y1
                  clear y2 l7 g7 hx101 hLX hkX
                  generalize x.f0[k] = lg at y0 y1 hb3 HTKL
                  obtain ⟨⟨lo, hi⟩, asl⟩ := lg
                  dsimp only [toL, toR] at y0 y1 hb3
                  have Y0 := Aside0.mk y0
                  have Y1 := Aside0.mk y1
                  replace y0 := (HXk.out.below.cell (World.block_lt_of_cell? w _ Y0.out)).trans Y0.out
                  replace y1 := (HXk.out.below.cell (World.block_lt_of_cell? w _ Y1.out)).trans Y1.out
                  have HPK : Aside0 (∀ (n : Int) (w' : World), 0 ≤ n → n ≤ 65535 → Calls Try.prog 101 #[.agg #[.int .i64 lo, .int .i64 hi], .int .i64 n] w' fun e w'' => ∃ r : Int, e = .returned (.int .i64 r) ∧ lo ≤ r ∧ r ≤ hi ∧ Below w'.heap.size w' w'') := ⟨fun n w' h0 h1 => picked101 w' hb3.1 hb3.2.1 hb3.2.2 h0 h1⟩
                  have KEEP : Aside0 (∀ w', BoxAt w w' A0 c0 sends.length (some ad5) c1 routes.length pat → (w'.cell? ⟨w.heap.size, 1, none⟩ = some (.slice (some ad5) routes.length c1) ∧ w'.cell? (ad5.add (m * 2)) = some (.slice (some ad7) x.f0.length c5) ∧ w'.cell? (ad7.add (k * 3)) = some (.int .i64 lo) ∧ w'.cell? ⟨(ad7.add (k * 3)).block, (ad7.add (k * 3)).off + 1, none⟩ = some (.int .i64 hi))) :=
                    ⟨fun w' hb => ⟨hb.x1, (hb.below.cell (World.block_lt_of_cell? w _ D50.out)).trans D50.out, (hb.below.cell (World.block_lt_of_cell? w _ Y0.out)).trans Y0.out, (hb.below.cell (World.block_lt_of_cell? w _ Y1.out)).trans Y1.out⟩⟩
                  have hq0 : Aside0 (Below wo.heap.size wo wo.drew) := ⟨below_drew (Below.refl _ _)⟩
                  have HIT := Aside0.mk (Kd.R_mono (ok' := fun _ => True) HT.out (fun _ _ => trivial))
                  have q1 : IntKind.i64.wrap (4 * (i : Int)) = 4 * (i : Int) := IntWalk.i64_in _ (by omega)
                  have q2 : IntKind.i64.wrap (4 * (i : Int) + (m : Int)) = 4 * (i : Int) + (m : Int) := IntWalk.i64_in _ (by omega)
                  have q3 : IntKind.i64.wrap (4 * (i : Int) + (m : Int) + (k : Int)) = 4 * (i : Int) + (m : Int) + (k : Int) := IntWalk.i64_in _ (by omega)
                  have q4 : IntKind.i64.wrap (4 * (i : Int) + (m : Int) + (k : Int) + 1) = 4 * (i : Int) + (m : Int) + (k : Int) + 1 := IntWalk.i64_in _ (by omega)
                  have HN0 : Aside0 (0 ≤ 4 * (i : Int) + (m : Int) + (k : Int) + 1) := ⟨by omega⟩
                  go_wp2_with fail
                  go_region_held3 (fun w' => w'.cell? ⟨w.heap.size, 1, none⟩ = some (.slice (some ad5) routes.length c1) ∧ w'.cell? (ad5.add (m * 2)) = some (.slice (some ad7) x.f0.length c5) ∧ w'.cell? (ad7.add (k * 3)) = some (.int .i64 lo) ∧ w'.cell? ⟨(ad7.add (k * 3)).block, (ad7.add (k * 3)).off + 1, none⟩ = some (.int .i64 hi))
                    (first
                      | exact KEEP.out _ (HXk.out.later hq0.out)
                      | exact KEEP.out _ (HXk.out.later hq1.out)
                      | exact KEEP.out _ (HXk.out.later hq2.out)
                      | exact KEEP.out _ (HXk.out.later (hq2.out.alloc hq2.out.size _))
                      | exact KEEP.out _ HX6.out)
                    (first
                      | (go_at_call 100; refine (HWC.out _ _ HN0.out (below_then HXk.out.below HXk.out.below.size hq0.out)).mono ?_; rintro e wb ⟨r2, rfl, hr20, hr21, hb⟩; have hq1 := Aside0.mk (below_then hq0.out hq0.out.size hb); have H3 := Aside0.mk (third_of hr20 hr21); have q5 := H3.out.2.2; clear hb hr20 hr21)
                      | (go_at_call 101; refine (HPK.out _ _ H3.out.1 H3.out.2.1).mono ?_; rintro e wc ⟨r3, rfl, hr30, hr31, hb⟩; have hq2 := Aside0.mk (below_then hq1.out hq1.out.size hb); have H4 := Aside0.mk (And.intro hr30 hr31); clear hb hr30 hr31)
                      | (refine kd_append_hat (Kd.int .i64) (w0 := w) w.heap.size (by rfl) (.tmp 57) (.tmp 79) 22 3 (.int .i64 0) 8 (by rfl) Try.underlying22 info3 rfl (by decide) u10 tk r3 [.int .i64 r3] (by rfl) (by rfl) (fun _ => False) rfl (fun _ hk => hk.elim) (Kd.R_below HIT.out hq2.out) (below_then HXk.out.below HXk.out.below.size hq2.out) (Nat.le_trans HXk.out.below.size hq2.out.size) (by have := HTKN.out; omega) (by have := HTKN.out; unfold maxLen; omega) ?_; intro v6 w6 hr6 hb6 hg6 hat6; have HR6 := Aside0.mk hr6; have HX6 := Aside0.mk (show BoxAt w w6 A0 c0 sends.length (some ad5) c1 routes.length pat from ⟨hb6, blk_grown (HXk.out.later hq2.out).box hg6 (R_row_ne (Kd.R_below HIT.out hq2.out) (HXk.out.later hq2.out).box (fun cs e => by injection e with _ e2 _; cases e2))⟩); have HI6 := Aside0.mk (Kd.R_after (Kd.R_below HIk.out hq2.out) hg6 hat6); have HO6 := Aside0.mk (Kd.R_after (Kd.R_below HOk.out hq2.out) hg6 hat6); clear hr6 hb6 hg6 hat6))
                  clear q1 q2 q3 q4 q5
                  go_wp2_with fail
                  go_roundg (x.f0.length - (k + 1))
                  case measure => omega
                  case rel =>
                    refine ⟨k + 1, tk ++ [r3], by omega, by omega, by go_num, ⟨by have := HTKN.out; simp; omega⟩, ⟨?_⟩, HR6, HI6, HO6, HX6⟩
                    rw [HTKL.out]
                    refine rangesB_snoc _ _ _ _ (by have := HTKN.out; rw [List.length_take]; simp [toX]; omega) HRG.out (inB_iff.2 H4.out)
                · have hklz : ¬ (k : Int) < (x.f0.length : Int) := by omega
                  have HKX : Aside0 (tk.length = x.f0.length) := ⟨by have := HTKN.out; omega⟩
                  have hkxx : k = (toX x).f0.length := by simp [toX]; omega
                  have HRF : Aside0 (rangesB (toX x).f0 tk = true) := ⟨by have := HRG.out; rw [hkxx, List.take_length] at this; exact this⟩
                  have HLF : Aside0 (tk.length = (toX x).f0.length) := ⟨by have := HKX.out; simp [toX]; omega⟩
                  obtain ⟨A8, c8, hv8⟩ := Kd.R_slice HT.out
                  have HVT := Aside0.mk (R_apart_types HT.out HIk.out (by decide))
                  have HII := Aside0.mk (Kd.R_mono (ok' := fun _ => True) HIk.out (fun _ _ => trivial))
                  have HOO := Aside0.mk (Kd.R_mono (ok' := fun k' => True ∧ some k' ≠ u7.ownBlock) HOk.out (fun _ hk => hk.1))
                  have hll1 : l.length ≤ 100 := by have := HLLN.out; omega
                  clear hkxx HIk HOk HRG
                  subst hv8
                  go_wp2_with (at_builtin; refine Kd.R_append (Kd.slice 3 (Kd.int .i64)) (w0 := w) w.heap.size rfl (.tmp 81) (.tmp 83) 78 22 (.slice none 0 0) 24 rfl Try.underlying78 info22 rfl (by decide) (by omega) u7 l tk [.slice A8 tk.length c8] (fun _ => True) (fun k' => some k' ≠ u7.ownBlock) rfl rfl (Kd.M_row HVT.out) (fun _ hk => ⟨trivial, hk⟩) (fun _ _ => trivial) HII.out HXk.out.below HXk.out.below.size (by omega) ?_; intro v4 w4 hr4 hb4 hg4 hat4; have HR4 := Aside0.mk hr4; have HO4 := Aside0.mk (Kd.R_after HOO.out hg4 hat4); have HX4 := Aside0.mk (show BoxAt w w4 A0 c0 sends.length (some ad5) c1 routes.length pat from ⟨hb4, blk_grown HXk.out.box hg4 (R_row_ne HII.out HXk.out.box (fun cs e => by injection e with _ e2 _; cases e2))⟩); clear hr4 hb4 hg4 hat4)
                  go_roundg (routes.length - (m + 1))
                  case measure => omega
                  case rel =>
                    refine ⟨m + 1, l ++ [tk], by omega, by omega, by go_num, ⟨by have := HLLN.out; simp; omega⟩, ⟨?_⟩, HR4, HO4, HX4⟩
                    rw [HTK.out]
                    refine restRow_snoc _ _ _ _ _ (by have := HLLN.out; rw [List.length_take]; omega) HLR.out (.inr ?_)
                    rw [HXX.out]
                    exact ⟨HLF.out, HRF.out⟩
        · have hmlz : ¬ (m : Int) < (routes.length : Int) := by omega
          have HLX : Aside0 (l.length = rs.length) := ⟨by have := HRL.out; have := HLLN.out; omega⟩
          have HRX : Aside0 (restRow true rs l = some true) := ⟨by have := HLR.out; rw [show m = rs.length by have := HRL.out; omega, List.take_length] at this; exact this⟩
          obtain ⟨A8, c8, hv8⟩ := Kd.R_slice HI.out
          have HVT := Aside0.mk (R_apart_types HI.out HOi.out (by decide))
          have HOO := Aside0.mk (Kd.R_mono (ok' := fun _ => True) HOi.out (fun _ _ => trivial))
          have htl1 : t.length ≤ 100 := by have := HTLN.out; omega
          clear HOi HLR
          subst hv8
          go_wp2_with (at_builtin; refine Kd.R_append (Kd.slice 22 (Kd.slice 3 (Kd.int .i64))) (w0 := w) w.heap.size rfl (.tmp 85) (.tmp 87) 26 78 (.slice none 0 0) 24 rfl Try.underlying26 info78 rfl (by decide) (by omega) u5 t l [.slice A8 l.length c8] (fun _ => True) (fun k' => some k' ≠ u5.ownBlock) rfl rfl (Kd.M_row HVT.out) (fun _ hk => ⟨trivial, hk⟩) (fun _ _ => trivial) HOO.out HXi.out.below HXi.out.below.size (by omega) ?_; intro v4 w4 hr4 hb4 hg4 hat4; have HR4 := Aside0.mk hr4; have HX4 := Aside0.mk (show BoxAt w w4 A0 c0 sends.length A1 c1 routes.length pat from ⟨hb4, blk_grown HXi.out.box hg4 (R_row_ne HOO.out HXi.out.box (fun cs e => by injection e with _ e2 _; cases e2))⟩); clear hr4 hb4 hg4 hat4)
          go_roundg (sends.length - (i + 1))
          case measure => omega
          case rel => exact ⟨i + 1, t ++ [l], by omega, by omega, by go_num, ⟨by have := HTLN.out; simp; omega⟩, ⟨HOK.out.snoc HLX.out HRX.out⟩, HR4, HX4⟩
    · have hltz : ¬ (i : Int) < (sends.length : Int) := by omega
      have HTL : Aside0 (t.length = sends.length) := ⟨by have := HTLN.out; omega⟩
      go_wp2_with fail
      go_ret
      obtain ⟨A8, c8, hv8, hl8, hC8⟩ := Kd.R_reads HO.out
      subst hv8
      exact ⟨A8, c8, t, rfl, hl8, hC8, HTL.out, HOK.out, HXr.out.below⟩
end Go.Proofs.Ytiephlhohgohcaa.PAll
namespace Go.Proofs.Ytiephlhohgohcaa.PAll
open Go.RowKit Go.Proofs.YtiephlhohgohcaaW.PrintWords Go.Proofs.YtiephlhohgohcaaW.PrintLast Go.Proofs.YtiephlhohgohcaaW.PrintMore
set_option linter.unusedVariables false
set_option linter.unusedSimpArgs false
theorem finF_le {F G : List S122 → Int → Int} {rs rs' : List S122} {pat pat' : Int} : ∀ (ss : List Int) (a b : Int), a ≤ b → (∀ s ∈ ss, min (F rs s) (s + pat) ≤ min (G rs' s) (s + pat')) → finF F rs pat a ss ≤ finF G rs' pat' b ss
  | [], a, b, h, _ => h
  | s :: ss, a, b, h, hs => by
    have h1 := hs s List.mem_cons_self
    rw [finF, finF]
    exact finF_le ss _ _ (by omega) (fun t ht => hs t (List.mem_cons_of_mem _ ht))
theorem span_patient {pat pat' : Int} (h : pat ≤ pat') (sends : List Int) (rs : List S122) (i : Nat) :
    (spanAt sends rs pat i).f0 ≤ (spanAt sends rs pat' i).f0 ∧ (spanAt sends rs pat i).f1 ≤ (spanAt sends rs pat' i).f1 :=
  ⟨finF_le _ 0 0 (Int.le_refl _) (fun s _ => by omega), finF_le _ 0 0 (Int.le_refl _) (fun s _ => by omega)⟩
/-- With more patience no dispatch is skipped that was delivered, and none is finished earlier. -/
theorem play_patient {rs : List S122} {pat pat' : Int} (h : pat ≤ pat') : ∀ (ss : List Int) (t : List (List (List Int))) (n b b' : Int), b ≤ b' →
    (playL rs pat n b ss t).length = (playL rs pat' n b' ss t).length ∧
    ∀ k : Nat, ((rd_T87 (playL rs pat' n b' ss t) (k : Int)).f2 = true → (rd_T87 (playL rs pat n b ss t) (k : Int)).f2 = true) ∧ (rd_T87 (playL rs pat n b ss t) (k : Int)).f1 ≤ (rd_T87 (playL rs pat' n b' ss t) (k : Int)).f1
  | [], _, n, b, b', hb => by simp [playL]
  | s :: ss, [], n, b, b', hb => by simp [playL]
  | s :: ss, l :: t, n, b, b', hb => by
    rw [playL, playL]
    obtain ⟨h1, h2⟩ := play_patient h ss t (n + 1) (recvE n b (hourL rs s l 101) (s + pat)).f1 (recvE n b' (hourL rs s l 101) (s + pat')).f1 (by simp only [recvE]; omega)
    refine ⟨by rw [List.length_cons, List.length_cons, h1], fun k => ?_⟩
    cases k with
    | zero =>
      refine ⟨fun hh => ?_, ?_⟩
      · have e : (s + pat' < hourL rs s l 101) := by simpa [rd_T87, recvE] using hh
        have : decide (s + pat < hourL rs s l 101) = true := decide_eq_true (by omega)
        simpa [rd_T87, recvE] using this
      · show max b (min (hourL rs s l 101) (s + pat)) ≤ max b' (min (hourL rs s l 101) (s + pat'))
        omega
    | succ k =>
      have := h2 k
      simpa [rd_T87] using this
end Go.Proofs.Ytiephlhohgohcaa.PAll
namespace Go.Proofs.Ytiephlhohgohcaa.PAll
open Go.RowKit Go.Proofs.YtiephlhohgohcaaW.PrintWords Go.Proofs.YtiephlhohgohcaaW.PrintLast Go.Proofs.YtiephlhohgohcaaW.PrintMore
set_option linter.unusedVariables false
set_option linter.unusedSimpArgs false
def lexLt : List Int → List Int → Bool
  | x :: a, y :: b => if x ≠ y then decide (x < y) else lexLt a b
  | _, _ => false
def lessB (a b : List Int) : Bool := if a.length = b.length then lexLt a b else decide (a.length < b.length)
theorem lexLt_tot : ∀ a b : List Int, a.length = b.length → a = b ∨ lexLt a b = true ∨ lexLt b a = true
  | [], [], _ => .inl rfl
  | [], y :: b, h => by simp at h
  | x :: a, [], h => by simp at h
  | x :: a, y :: b, h => by
    by_cases e : x = y
    · subst e
      rcases lexLt_tot a b (by simpa using h) with h1 | h1 | h1
      · exact .inl (by rw [h1])
      · exact .inr (.inl (by rw [lexLt, if_neg (by simp)]; exact h1))
      · exact .inr (.inr (by rw [lexLt, if_neg (by simp)]; exact h1))
    · rcases Int.lt_or_gt_of_ne e with h1 | h1
      · exact .inr (.inl (by rw [lexLt, if_pos e]; exact decide_eq_true h1))
      · exact .inr (.inr (by rw [lexLt, if_pos (fun q => e q.symm)]; exact decide_eq_true h1))
theorem lessB_tot (a b : List Int) : a = b ∨ lessB a b = true ∨ lessB b a = true := by
  unfold lessB
  by_cases e : a.length = b.length
  · rw [if_pos e, if_pos e.symm]
    exact lexLt_tot a b e
  · rw [if_neg e, if_neg (fun q => e q.symm)]
    rcases Nat.lt_or_gt_of_ne e with h | h
    · exact .inr (.inl (decide_eq_true h))
    · exact .inr (.inr (decide_eq_true h))
/-- The indexes of the entries that are left out, and the others. -/
def outs : Int → List Bool → List Int
  | _, [] => []
  | n, b :: bs => if b = true then n :: outs (n + 1) bs else outs (n + 1) bs
def keeps {α : Type} : List α → List Bool → List α
  | x :: xs, b :: bs => if b = true then keeps xs bs else x :: keeps xs bs
  | _, _ => []
end Go.Proofs.Ytiephlhohgohcaa.PAll
namespace Go.Proofs.Ytiephlhohgohcaa.PAll
open Go.RowKit Go.Proofs.YtiephlhohgohcaaW.PrintWords Go.Proofs.YtiephlhohgohcaaW.PrintLast Go.Proofs.YtiephlhohgohcaaW.PrintMore
set_option linter.unusedVariables false
set_option linter.unusedSimpArgs false
/-- A smallest set among those without which the others are explained. -/
def Least (E : List Bool → Bool) (n : Nat) (r : List Int) : Prop := (∃ bs : List Bool, bs.length = n ∧ E bs = true ∧ r = outs 0 bs) ∧ ∀ bs : List Bool, bs.length = n → E bs = true → lessB (outs 0 bs) r = false
theorem Least.only {E : List Bool → Bool} {n : Nat} {r q : List Int} (h : Least E n r) (k : Least E n q) : r = q := by
  obtain ⟨⟨a, a1, a2, rfl⟩, a4⟩ := h
  obtain ⟨⟨b, b1, b2, rfl⟩, b4⟩ := k
  rcases lessB_tot (outs 0 a) (outs 0 b) with h | h | h
  · exact h
  · rw [b4 a a1 a2] at h; cases h
  · rw [a4 b b1 b2] at h; cases h
end Go.Proofs.Ytiephlhohgohcaa.PAll
namespace Go.Proofs.Ytiephlhohgohcaa.PAll
open Go.RowKit Go.Proofs.YtiephlhohgohcaaW.PrintWords Go.Proofs.YtiephlhohgohcaaW.PrintLast Go.Proofs.YtiephlhohgohcaaW.PrintMore
attribute [local go_sem] max2_int min2_int max_two min_two max_three min_three max_four min_four
set_option linter.unusedVariables false
set_option linter.unusedSimpArgs false
theorem playL_len (rs : List S122) (pat : Int) : ∀ (ss : List Int) (ls : List (List (List Int))) (n b : Int), ls.length = ss.length → (playL rs pat n b ss ls).length = ss.length
  | [], ls, n, b, _ => by cases ls <;> simp [playL]
  | s :: ss, [], n, b, h => by simp at h
  | s :: ss, l :: ls, n, b, h => by
    rw [List.length_cons, List.length_cons, Nat.add_right_cancel_iff] at h
    rw [playL, List.length_cons, List.length_cons, playL_len rs pat ss ls _ _ h]
theorem words_of {w : World} {A : Option Addr} {c : Nat} {words : List Int} (h : Kd.C (Kd.int .u16) w A words.length words) (hc : words.length ≤ c) (hw : ∀ x ∈ words, (Lit.int .u16 x).wf = true) : WordsAt w A c words := ⟨h, hc, hw, by have := h.2.1; omega⟩
set_option maxRecDepth 100000 in
set_option maxHeartbeats 8000000 in
theorem copiesPatience10 (A0 : Option Addr) (c0 : Nat) (sends : List Int) (A1 : Option Addr) (c1 : Nat) (routes : List S54) (pat : Int) (A2 : Option Addr) (c2 : Nat) (words : List Int) (a : Int) (w : World) (h : PostAt w A0 c0 sends A1 c1 routes) (hw : Kd.C (Kd.int .u16) w A2 words.length words) (hwc : words.length ≤ c2) (hww : ∀ x ∈ words, (Lit.int .u16 x).wf = true) (ha : (Lit.int .u8 a).wf = true) :
    Calls Try.prog 10 #[.agg #[.slice A0 sends.length c0, .slice A1 routes.length c1, .int .i64 pat], .slice A2 words.length c2, .int .u8 a] w fun e w' => e = .returned (.bool true) ∧ Below w.heap.size w w' := by
  obtain ⟨rs, hrs⟩ : ∃ rs, rs = routes.map toX := ⟨_, rfl⟩
  have HRS := Aside0.mk hrs
  have HWD := Aside0.mk (words_of hw hwc hww)
  have hau := u8_of ha
  clear hrs ha hw hwc hww
  obtain ⟨W1, hW1⟩ : ∃ W1, W1 = w.alloc (.cells #[.slice A0 sends.length c0, .slice A1 routes.length c1, .int .i64 pat] 25) := ⟨_, rfl⟩
  have hx := BoxAt.start w A0 c0 sends.length A1 c1 routes.length pat
  rw [← hW1] at hx
  have HX := Aside0.mk hx
  have HP := Aside0.mk h
  have x0 := hx.x0
  have x1 := hx.x1
  have x2 := hx.x2
  have HW1 := Aside0.mk hW1
  clear h hx hW1
  go_enter Try.func10, Try.ntmps10
  go_wp2_with fail
  rw [← HW1.out]
  clear HW1
  refine (ready54 A0 c0 sends A1 c1 routes pat rs W1 HRS.out (HP.out.below HX.out.below)).mono ?_
  rintro e w2 ⟨rfl, hb⟩
  replace HX := Aside0.mk (HX.out.later hb)
  clear hb x0 x1 x2
  cases hrd : (thinB sends routes && check sends rs pat == 0) with
  | false =>
    clear hrd
    go_wp2_with fail
    refine (awake20 w2).mono ?_
    rintro e w3 ⟨rfl, hb⟩
    replace HX := Aside0.mk (HX.out.later hb)
    clear hb
    go_wp2_with fail
    go_ret
    exact ⟨rfl, HX.out.below⟩
  | true =>
    rw [Bool.and_eq_true, beq_iff_eq] at hrd
    have HTH := Aside0.mk hrd.1
    have HCK := Aside0.mk hrd.2
    have HV := Aside0.mk (valid_of hrd.2)
    have hsl := (valid_of hrd.2).sn
    have hp0 := (valid_of hrd.2).p0
    clear hrd
    obtain ⟨q, hq, hq15⟩ : ∃ q : Nat, Int.tmod a 16 = (q : Int) ∧ q ≤ 15 := by
      rw [Int.tmod_eq_emod_of_nonneg hau.1]
      exact ⟨(a % 16).toNat, by omega, by omega⟩
    have hq2 : a % 16 = (q : Int) := by rw [Int.tmod_eq_emod_of_nonneg hau.1] at hq; exact hq
    have x0 := HX.out.x0
    have x1 := HX.out.x1
    have x2 := HX.out.x2
    have x2' := pw_cell_below (show Below w2.heap.size w2 (w2.alloc (Obj.cells #[Value.slice A0 sends.length c0, Value.slice A1 routes.length c1, Value.int IntKind.i64 pat] 25)) from (Below.refl _ w2).alloc (Nat.le_refl _) _) x2
    obtain ⟨P, hP⟩ : ∃ P : Int, (if pat + (q : Int) < 30 then pat + (q : Int) else 30) = P := ⟨_, rfl⟩
    have hPle : pat ≤ P := by rw [← hP]; split <;> omega
    have hP30 : 0 ≤ P ∧ P ≤ 30 := by rw [← hP]; split <;> omega
    go_upto_region 5 with fail
    clear hP hq hq2 hau x2'
    obtain ⟨gx, hgx⟩ : ∃ gx, gx = w2.heap.size := ⟨_, rfl⟩
    obtain ⟨W3, hW3⟩ : ∃ W3, W3 = w2.alloc (Obj.cells #[Value.slice A0 sends.length c0, Value.slice A1 routes.length c1, Value.int IntKind.i64 P] 25) := ⟨_, rfl⟩
    rw [← hW3]
    have hb3 : Below w2.heap.size w2 W3 := hW3 ▸ (Below.refl _ w2).alloc (Nat.le_refl _) _
    have HG3 := Aside0.mk (show W3.heap[gx]? = some (.cells #[.slice A0 sends.length c0, .slice A1 routes.length c1, .int .i64 P] 25 (0, 0)) from by rw [hW3, hgx]; exact blk_new _ _)
    have HX3 := Aside0.mk (HX.out.later hb3)
    rw [← hgx]
    clear hb3 hW3 hgx x0 x1 x2 HX
    have x0 := HX3.out.x0
    have x1 := HX3.out.x1
    have x2 := HX3.out.x2
    go_wp2_with fail
    refine (picked47 A0 c0 sends A1 c1 routes pat rs A2 c2 words W3 HRS.out (HP.out.below HX3.out.below) HV.out (HWD.out.below HX3.out.below)).mono ?_
    rintro e w4 ⟨A4, c4, t, rfl, hl4, hC4, htl, hrows, hb⟩
    have HX4 := Aside0.mk (HX3.out.later hb)
    have HG4 := Aside0.mk (blk_below HG3.out hb)
    have HT4 := Aside0.mk hC4
    have HSF := Aside0.mk (shaped_of htl hrows)
    have HSH := Aside0.mk (short_of HV.out htl hrows)
    have HTL := Aside0.mk htl
    clear hb hl4 hC4 htl hrows x0 x1 x2 HX3 HG3
    have x0 := HX4.out.x0
    have x1 := HX4.out.x1
    have x2 := HX4.out.x2
    go_wp2_with fail
    refine (post22_thin pat HRS.out (HP.out.below HX4.out.below) HTH.out).mono ?_
    rintro e w5 ⟨Ap, cp, Aq, cq, rfl, hp, hb⟩
    have HX5 := Aside0.mk (HX4.out.later hb)
    have HG5 := Aside0.mk (blk_below HG4.out hb)
    have HT5 := Aside0.mk (Kd.C_below HT4.out hb)
    have HPP := Aside0.mk hp
    clear hb HX4 HG4 HT4 hp x0 x1 x2
    go_wp2_with fail
    have hts := short_spec HSH.out
    refine (truth24 A4 c4 t w5 HT5.out (by omega) (fun l hl => by have := (hts.2 l hl).1; omega) (fun l hl y hy => by have := (hts.2 l hl).2 y hy; omega)).mono ?_
    rintro e w6 ⟨vt, rfl, hr, hb⟩
    have HX6 := Aside0.mk (HX5.out.later hb)
    have HG6 := Aside0.mk (blk_below HG5.out hb)
    have HT6 := Aside0.mk (Kd.C_below HT5.out hb)
    obtain ⟨At, ct, rfl, hlt', hCt⟩ := Kd.R_reads hr
    replace HPP := Aside0.mk (HPP.out.below hb)
    have HTT := Aside0.mk hCt
    clear hb HX5 HG5 HT5 hr hlt' hCt hts
    go_wp2_with fail
    have hct := play23 Ap cp sends Aq cq rs pat At ct t w6 HPP.out.h0 HPP.out.l0 HPP.out.h1 HPP.out.l1 HTT.out
    rw [playRes, if_neg (by rw [HCK.out]; exact fun e => e rfl), if_neg (by rw [HSF.out]; exact fun e => e rfl)] at hct
    refine (hct).mono ?_
    rintro e w7 ⟨vj, rfl, hr, hb⟩
    have HX7 := Aside0.mk (HX6.out.later hb)
    have HG7 := Aside0.mk (blk_below HG6.out hb)
    have HT7 := Aside0.mk (Kd.C_below HT6.out hb)
    obtain ⟨AI, cI, rfl, hlj, hCj⟩ := Kd.R_reads hr
    have HI7 := Aside0.mk hCj
    clear hct
    dsimp only at HI7 ⊢
    clear hb HX6 HG6 HT6 hr hlj hCj HPP HTT
    have g0 : w7.cell? ⟨gx, 0, none⟩ = some (.slice A0 sends.length c0) := (blk_cell HG7.out 0).trans rfl
    have g1 : w7.cell? ⟨gx, 1, none⟩ = some (.slice A1 routes.length c1) := (blk_cell HG7.out 1).trans rfl
    have g2 : w7.cell? ⟨gx, 2, none⟩ = some (.int .i64 P) := (blk_cell HG7.out 2).trans rfl
    go_wp2_with fail
    refine (post22_thin P HRS.out (HP.out.below HX7.out.below) HTH.out).mono ?_
    rintro e w8 ⟨Ap, cp, Aq, cq, rfl, hp, hb⟩
    have HX8 := Aside0.mk (HX7.out.later hb)
    have HG8 := Aside0.mk (blk_below HG7.out hb)
    have HT8 := Aside0.mk (Kd.C_below HT7.out hb)
    have HI8 := Aside0.mk (Kd.C_below HI7.out hb)
    have HPP := Aside0.mk hp
    clear hb HX7 HG7 HT7 HI7 hp g0 g1 g2
    go_wp2_with fail
    have hts := short_spec HSH.out
    refine (truth24 A4 c4 t w8 HT8.out (by omega) (fun l hl => by have := (hts.2 l hl).1; omega) (fun l hl y hy => by have := (hts.2 l hl).2 y hy; omega)).mono ?_
    rintro e w9 ⟨vt, rfl, hr, hb⟩
    have HX9 := Aside0.mk (HX8.out.later hb)
    have HG9 := Aside0.mk (blk_below HG8.out hb)
    have HT9 := Aside0.mk (Kd.C_below HT8.out hb)
    have HI9 := Aside0.mk (Kd.C_below HI8.out hb)
    obtain ⟨At, ct, rfl, hlt', hCt⟩ := Kd.R_reads hr
    replace HPP := Aside0.mk (HPP.out.below hb)
    have HTT := Aside0.mk hCt
    clear hb HX8 HG8 HT8 HI8 hr hlt' hCt hts
    go_wp2_with fail
    have hct := play23 Ap cp sends Aq cq rs P At ct t w9 HPP.out.h0 HPP.out.l0 HPP.out.h1 HPP.out.l1 HTT.out
    rw [playRes, if_neg (by rw [check_pat HCK.out hP30]; exact fun e => e rfl), if_neg (by rw [HSF.out]; exact fun e => e rfl)] at hct
    refine (hct).mono ?_
    rintro e w10 ⟨vj, rfl, hr, hb⟩
    have HX10 := Aside0.mk (HX9.out.later hb)
    have HG10 := Aside0.mk (blk_below HG9.out hb)
    have HT10 := Aside0.mk (Kd.C_below HT9.out hb)
    have HI10 := Aside0.mk (Kd.C_below HI9.out hb)
    obtain ⟨AJ, cJ, rfl, hlj, hCj⟩ := Kd.R_reads hr
    have HJ10 := Aside0.mk hCj
    clear hct
    dsimp only at HJ10 ⊢
    clear hb HX9 HG9 HT9 HI9 hr hlj hCj HPP HTT
    have x0 := HX10.out.x0
    have x1 := HX10.out.x1
    have x2 := HX10.out.x2
    go_wp2_with fail
    refine (post22_thin pat HRS.out (HP.out.below HX10.out.below) HTH.out).mono ?_
    rintro e w11 ⟨Ap, cp, Aq, cq, rfl, hp, hb⟩
    have HX11 := Aside0.mk (HX10.out.later hb)
    have HG11 := Aside0.mk (blk_below HG10.out hb)
    have HT11 := Aside0.mk (Kd.C_below HT10.out hb)
    have HI11 := Aside0.mk (Kd.C_below HI10.out hb)
    have HJ11 := Aside0.mk (Kd.C_below HJ10.out hb)
    have HPP := Aside0.mk hp
    clear hb HX10 HG10 HT10 HI10 HJ10 hp x0 x1 x2
    go_wp2_with fail
    have hct := spans33 Ap cp sends Aq cq rs pat w11 HPP.out.h0 HPP.out.l0 HPP.out.h1 HPP.out.l1
    rw [spansRes, if_neg (by rw [HCK.out]; exact fun e => e rfl)] at hct
    refine (hct).mono ?_
    rintro e w12 ⟨vj, rfl, hr, hb⟩
    have HX12 := Aside0.mk (HX11.out.later hb)
    have HG12 := Aside0.mk (blk_below HG11.out hb)
    have HT12 := Aside0.mk (Kd.C_below HT11.out hb)
    have HI12 := Aside0.mk (Kd.C_below HI11.out hb)
    have HJ12 := Aside0.mk (Kd.C_below HJ11.out hb)
    obtain ⟨AS, cS, rfl, hlj, hCj⟩ := Kd.R_reads hr
    have HS12 := Aside0.mk hCj
    clear hct
    dsimp only at HS12 ⊢
    clear hb HX11 HG11 HT11 HI11 HJ11 hr hlj hCj HPP
    have g0 : w12.cell? ⟨gx, 0, none⟩ = some (.slice A0 sends.length c0) := (blk_cell HG12.out 0).trans rfl
    have g1 : w12.cell? ⟨gx, 1, none⟩ = some (.slice A1 routes.length c1) := (blk_cell HG12.out 1).trans rfl
    have g2 : w12.cell? ⟨gx, 2, none⟩ = some (.int .i64 P) := (blk_cell HG12.out 2).trans rfl
    go_wp2_with fail
    refine (post22_thin P HRS.out (HP.out.below HX12.out.below) HTH.out).mono ?_
    rintro e w13 ⟨Ap, cp, Aq, cq, rfl, hp, hb⟩
    have HX13 := Aside0.mk (HX12.out.later hb)
    have HG13 := Aside0.mk (blk_below HG12.out hb)
    have HT13 := Aside0.mk (Kd.C_below HT12.out hb)
    have HI13 := Aside0.mk (Kd.C_below HI12.out hb)
    have HJ13 := Aside0.mk (Kd.C_below HJ12.out hb)
    have HS13 := Aside0.mk (Kd.C_below HS12.out hb)
    have HPP := Aside0.mk hp
    clear hb HX12 HG12 HT12 HI12 HJ12 HS12 hp g0 g1 g2
    go_wp2_with fail
    have hct := spans33 Ap cp sends Aq cq rs P w13 HPP.out.h0 HPP.out.l0 HPP.out.h1 HPP.out.l1
    rw [spansRes, if_neg (by rw [check_pat HCK.out hP30]; exact fun e => e rfl)] at hct
    refine (hct).mono ?_
    rintro e w14 ⟨vj, rfl, hr, hb⟩
    have HX14 := Aside0.mk (HX13.out.later hb)
    have HG14 := Aside0.mk (blk_below HG13.out hb)
    have HT14 := Aside0.mk (Kd.C_below HT13.out hb)
    have HI14 := Aside0.mk (Kd.C_below HI13.out hb)
    have HJ14 := Aside0.mk (Kd.C_below HJ13.out hb)
    have HS14 := Aside0.mk (Kd.C_below HS13.out hb)
    obtain ⟨AU, cU, rfl, hlj, hCj⟩ := Kd.R_reads hr
    have HU14 := Aside0.mk hCj
    clear hct
    dsimp only at HU14 ⊢
    clear hb HX13 HG13 HT13 HI13 HJ13 HS13 hr hlj hCj HPP
    have HLI : Aside0 ((playL rs pat 0 0 sends t).length = sends.length) := ⟨playL_len rs pat sends t 0 0 HTL.out⟩
    have HLJ : Aside0 ((playL rs P 0 0 sends t).length = sends.length) := ⟨playL_len rs P sends t 0 0 HTL.out⟩
    have HSL : Aside0 ((spansL sends rs pat sends.length).length = sends.length) := ⟨spansL_len sends rs pat sends.length⟩
    have HUL : Aside0 ((spansL sends rs P sends.length).length = sends.length) := ⟨spansL_len sends rs P sends.length⟩
    rw [HLI.out] at HI14
    rw [HLJ.out] at HJ14
    rw [HSL.out] at HS14
    rw [HUL.out] at HU14
    rw [HLI.out, HLJ.out, HSL.out, HUL.out]
    have HPT := Aside0.mk (play_patient (rs := rs) hPle sends t 0 0 0 (Int.le_refl _)).2
    have HSP : Aside0 (∀ i : Nat, i < sends.length → (rd_T68 (spansL sends rs pat sends.length) (i : Int)).f0 ≤ (rd_T68 (spansL sends rs P sends.length) (i : Int)).f0 ∧ (rd_T68 (spansL sends rs pat sends.length) (i : Int)).f1 ≤ (rd_T68 (spansL sends rs P sends.length) (i : Int)).f1) := ⟨fun i hi => by
      have e1 : ∀ p, rd_T68 (spansL sends rs p sends.length) (i : Int) = spanAt sends rs p i := fun p => by
        rw [rd_T68, Int.toNat_natCast, spansL]
        simp [List.getD, hi]
      rw [e1, e1]
      exact span_patient hPle sends rs i⟩
    generalize playL rs pat 0 0 sends t = li at HI14 HPT
    generalize playL rs P 0 0 sends t = lj at HJ14 HPT
    generalize spansL sends rs pat sends.length = ls at HS14 HSP
    generalize spansL sends rs P sends.length = lu at HU14 HSP
    clear HG14 HT14 HLI HLJ HSL HUL HTL HSF HSH
    go_wp2_with fail
    go_loopg [17] sends.length (fun gg s17 wr => ∃ k : Nat, k ≤ sends.length ∧ sends.length - k ≤ gg ∧ s17 = .int .i64 k ∧ Aside0 (Below w14.heap.size w14 wr))
    case atStart => exact ⟨0, by omega, by omega, rfl, ⟨Below.refl _ _⟩⟩
    case round =>
      obtain ⟨k, hk, hgk, rfl, HBr⟩ := hrel
      obtain ⟨wm, rfl⟩ : ∃ wm : World, wm = wr := ⟨_, rfl⟩
      by_cases hlt : k < sends.length
      · have hltz : (k : Int) < (sends.length : Int) := by omega
        obtain ⟨adi, eai, i0, i1, i2⟩ := at_T87 (Kd.C_below HI14.out HBr.out) (k : Int) (by omega) hltz
        obtain ⟨adj, eaj, j0, j1, j2⟩ := at_T87 (Kd.C_below HJ14.out HBr.out) (k : Int) (by omega) hltz
        cases eai
        cases eaj
        rw [Int.toNat_natCast] at i1 i2 j1 j2
        have hpt := HPT.out k
        clear i0 j0
        generalize rd_T87 li (k : Int) = ei at i1 i2 hpt
        generalize rd_T87 lj (k : Int) = ej at j1 j2 hpt
        obtain ⟨in', iat, isk⟩ := ei
        obtain ⟨jn', jat, jsk⟩ := ej
        dsimp only at i1 i2 j1 j2 hpt
        have hle : ¬ jat < iat := by omega
        have hlt' : decide (jat < iat) = false := decide_eq_false hle
        have hsk := hpt.1
        clear hpt
        cases jsk with
        | false =>
          clear hsk
          cases isk <;> (
            go_wp2_with fail
            go_quiet (fail)
            go_wp2_with fail
            go_roundg (sends.length - (k + 1))
            case measure => omega
            case rel => exact ⟨k + 1, by omega, by omega, by go_num, ⟨by first | exact HBr.out | exact pw_below_drewN HBr.out _⟩⟩)
        | true =>
          cases isk with
          | false => exact absurd (hsk rfl) (by simp)
          | true =>
            clear hsk
            go_wp2_with fail
            go_quiet (fail)
            go_wp2_with fail
            go_roundg (sends.length - (k + 1))
            case measure => omega
            case rel => exact ⟨k + 1, by omega, by omega, by go_num, ⟨by first | exact HBr.out | exact pw_below_drewN HBr.out _⟩⟩
      · have hltz : ¬ (k : Int) < (sends.length : Int) := by omega
        go_wp2_with fail
        clear hltz
        go_loopg [18] sends.length (fun gg s18 wr => ∃ k : Nat, k ≤ sends.length ∧ sends.length - k ≤ gg ∧ s18 = .int .i64 k ∧ Aside0 (Below w14.heap.size w14 wr))
        case atStart => exact ⟨0, by omega, by omega, rfl, HBr⟩
        case round =>
          obtain ⟨k, hk, hgk, rfl, HBi⟩ := hrel
          obtain ⟨wn, rfl⟩ : ∃ wn : World, wn = wr := ⟨_, rfl⟩
          by_cases hlt : k < sends.length
          · have hltz : (k : Int) < (sends.length : Int) := by omega
            obtain ⟨adi, eai, i0, i1⟩ := at_T68 (Kd.C_below HS14.out HBi.out) (k : Int) (by omega) hltz
            obtain ⟨adj, eaj, j0, j1⟩ := at_T68 (Kd.C_below HU14.out HBi.out) (k : Int) (by omega) hltz
            cases eai
            cases eaj
            rw [Int.toNat_natCast] at i0 i1 j0 j1
            have hpt := HSP.out k hlt
            generalize rd_T68 ls (k : Int) = ei at i0 i1 hpt
            generalize rd_T68 lu (k : Int) = ej at j0 j1 hpt
            obtain ⟨ilo, ihi⟩ := ei
            obtain ⟨jlo, jhi⟩ := ej
            dsimp only at i0 i1 j0 j1 hpt
            have hle : ¬ jlo < ilo := by omega
            have hle2 : ¬ jhi < ihi := by omega
            have hd : decide (jlo < ilo) = false := decide_eq_false hle
            have hd2 : decide (jhi < ihi) = false := decide_eq_false hle2
            clear hpt
            go_wp2_with fail
            go_quiet (fail)
            go_wp2_with fail
            go_roundg (sends.length - (k + 1))
            case measure => omega
            case rel => exact ⟨k + 1, by omega, by omega, by go_num, ⟨by first | exact HBi.out | exact pw_below_drewN HBi.out _⟩⟩
          · have hltz : ¬ (k : Int) < (sends.length : Int) := by omega
            go_wp2_with fail
            refine (awake20 wn).mono ?_
            rintro e wz ⟨rfl, hb⟩
            have HZ := Aside0.mk ((HX14.out.later HBi.out).later hb)
            clear hb
            go_wp2_with fail
            go_ret
            exact ⟨rfl, HZ.out.below⟩
end Go.Proofs.Ytiephlhohgohcaa.PAll
