/- Part 19 of what the row rests on: each text as it stands among the working texts, cut to what is used; those of the print of the kit as a program printed them. -/
import Derived.Test.YtiephlhohgohcaaLeast18
import Derived.Test.YtiephlhohgohcaaLeast11
import Derived.Test.YtiephlhohgohcaaLeast13
import Derived.Test.YtiephlhohgohcaaLeast6
import Derived.Test.YtiephlhohgohcaaLeast17
import Derived.Test.YtiephlhohgohcaaLeast15
import Derived.Test.YtiephlhohgohcaaLeast5
import Derived.Laws.Tables
set_option linter.unusedVariables false
set_option linter.unusedSimpArgs false
namespace Go.Proofs.Ytiephlhohgohcaa.PAll
open Go.RowKit Go.Proofs.YtiephlhohgohcaaW.PrintWords Go.Proofs.YtiephlhohgohcaaW.PrintLast Go.Proofs.YtiephlhohgohcaaW.PrintMore
attribute [local go_sem] max2_int min2_int max_two min_two max_three min_three max_four min_four
set_option linter.unusedVariables false
set_option linter.unusedSimpArgs false
/-- The cells of a set of hours, 0 to 101. -/
def rcells (f : Int → Bool) : Array Value := ((List.range 102).map (fun j : Nat => Value.bool (f (j : Int)))).toArray
theorem rcells_size (f : Int → Bool) : (rcells f).size = 102 := by simp [rcells]
theorem rcells_at (f : Int → Bool) {j : Nat} (hj : j < 102) : (rcells f)[j]? = some (.bool (f (j : Int))) := by simp [rcells, hj]
theorem rcells_set (f : Int → Bool) {j : Nat} (hj : j < 102) : (rcells f).setIfInBounds j (.bool true) = rcells (fun x => f x || x == (j : Int)) := by
  apply Array.ext
  · simp [rcells_size]
  · intro i h1 h2
    rw [rcells_size] at h2
    rw [Array.getElem_setIfInBounds (by rw [rcells_size]; exact h2)]
    simp only [rcells, List.getElem_toArray, List.getElem_map, List.getElem_range]
    by_cases e : j = i
    · subst e; simp
    · rw [if_neg e]
      have : ((i : Int) == (j : Int)) = false := beq_eq_false_iff_ne.2 (by omega)
      rw [this, Bool.or_false]
theorem rcells_congr {f g : Int → Bool} (h : ∀ j : Nat, j < 102 → f (j : Int) = g (j : Int)) : rcells f = rcells g := by
  unfold rcells
  congr 1
  apply List.map_congr_left
  intro j hj
  rw [h j (List.mem_range.1 hj)]
/-- A block that is the set f. -/
def RSet (W : World) (b : Nat) (f : Int → Bool) : Prop := W.heap[b]? = some (.cells (rcells f) 50 (0, 0))
theorem RSet.cell {W : World} {b : Nat} {f : Int → Bool} (h : RSet W b f) {j : Nat} (hj : j < 102) : W.cell? ⟨b, j, none⟩ = some (.bool (f (j : Int))) := (blk_cell h j).trans (rcells_at f hj)
theorem RSet.frozen {W : World} {b : Nat} {f : Int → Bool} (h : RSet W b f) (j : Nat) : W.frozen? ⟨b, j, none⟩ = false := blk_frozen h j
theorem RSet.below {W W' : World} {b : Nat} {f : Int → Bool} (h : RSet W b f) (hb : Below W.heap.size W W') : RSet W' b f := blk_below h hb
theorem RSet.set {W : World} {b : Nat} {f : Int → Bool} (h : RSet W b f) {j : Nat} (hj : j < 102) : RSet (W.setCell ⟨b, j, none⟩ (.bool true)) b (fun x => f x || x == (j : Int)) := by
  have := blk_set h j (.bool true)
  rw [rcells_set f hj] at this
  exact this
theorem RSet.far {W : World} {b : Nat} {f : Int → Bool} (h : RSet W b f) {p : Addr} (hp : b ≠ p.block) (u : Value) : RSet (W.setCell p u) b f := blk_far h hp u
end Go.Proofs.Ytiephlhohgohcaa.PAll
namespace Go.Proofs.Ytiephlhohgohcaa.PAll
open Go.RowKit Go.Proofs.YtiephlhohgohcaaW.PrintWords Go.Proofs.YtiephlhohgohcaaW.PrintLast Go.Proofs.YtiephlhohgohcaaW.PrintMore
attribute [local go_sem] max2_int min2_int max_two min_two max_three min_three max_four min_four
set_option linter.unusedVariables false
set_option linter.unusedSimpArgs false
theorem heap_setRow_other (w : World) (g k : Nat) (cs : Array Value) (h : k ≠ g) : (w.setRow g cs).heap[k]? = w.heap[k]? := by
  simp only [World.setRow, Array.getElem?_modify]
  rw [if_neg (by omega)]
theorem below_setRow {B : Nat} {a w : World} {g : Nat} (h : Below B a w) (hg : B ≤ g) (cs : Array Value) : Below B a (w.setRow g cs) :=
  h.trans ⟨rfl, rfl, rfl, by simp, fun k hk => heap_setRow_other w g k cs (by omega)⟩
end Go.Proofs.Ytiephlhohgohcaa.PAll
namespace Go.Proofs.Ytiephlhohgohcaa.PAll
open Go.RowKit Go.Proofs.YtiephlhohgohcaaW.PrintWords Go.Proofs.YtiephlhohgohcaaW.PrintLast Go.Proofs.YtiephlhohgohcaaW.PrintMore
attribute [local go_sem] max2_int min2_int max_two min_two max_three min_three max_four min_four
set_option linter.unusedVariables false
set_option linter.unusedSimpArgs false
theorem in30 (a lo hi : Int) (w : World) : Calls Try.prog 30 #[.int .i64 a, .int .i64 lo, .int .i64 hi] w fun e w' => e = .returned (.bool (inB lo hi a)) ∧ Below w.heap.size w w' :=
  (glisterref05_In.calls a lo hi _ w (in_f a lo hi)).mono fun _ _ h => ⟨h.1, by obtain ⟨n, rfl⟩ := h.2.out; exact pw_below_drewN (Below.refl _ _) n⟩
end Go.Proofs.Ytiephlhohgohcaa.PAll
namespace Go.Proofs.Ytiephlhohgohcaa.PAll
open Go.RowKit Go.Proofs.YtiephlhohgohcaaW.PrintWords Go.Proofs.YtiephlhohgohcaaW.PrintLast Go.Proofs.YtiephlhohgohcaaW.PrintMore
attribute [local go_sem] max2_int min2_int max_two min_two max_three min_three max_four min_four
set_option linter.unusedVariables false
set_option linter.unusedSimpArgs false
theorem rcells_put (f : Int → Bool) {j : Nat} (hj : j < 102) (v : Bool) : (rcells f).setIfInBounds j (.bool v) = rcells (fun x => if x = (j : Int) then v else f x) := by
  apply Array.ext
  · simp [rcells_size]
  · intro i h1 h2
    rw [rcells_size] at h2
    rw [Array.getElem_setIfInBounds (by rw [rcells_size]; exact h2)]
    simp only [rcells, List.getElem_toArray, List.getElem_map, List.getElem_range]
    by_cases e : j = i
    · subst e; simp
    · rw [if_neg e, if_neg (by omega)]
theorem RSet.put {W : World} {b : Nat} {f : Int → Bool} (h : RSet W b f) {j : Nat} (hj : j < 102) (v : Bool) : RSet (W.setCell ⟨b, j, none⟩ (.bool v)) b (fun x => if x = (j : Int) then v else f x) := by
  have := blk_set h j (.bool v)
  rw [rcells_put f hj v] at this
  exact this
theorem RSet.congr {W : World} {b : Nat} {f g : Int → Bool} (h : RSet W b f) (hfg : ∀ j : Nat, j < 102 → f (j : Int) = g (j : Int)) : RSet W b g := by
  unfold RSet at h ⊢
  rw [h, rcells_congr hfg]
theorem BoxAt.far {w W : World} {A0 : Option Addr} {c0 n0 : Nat} {A1 : Option Addr} {c1 n1 : Nat} {pat : Int} (h : BoxAt w W A0 c0 n0 A1 c1 n1 pat) {p : Addr} (hp : w.heap.size < p.block) (u : Value) : BoxAt w (W.setCell p u) A0 c0 n0 A1 c1 n1 pat :=
  ⟨h.below.setCell (by omega) u, blk_far h.box (by omega) u⟩
theorem BoxAt.row {w W : World} {A0 : Option Addr} {c0 n0 : Nat} {A1 : Option Addr} {c1 n1 : Nat} {pat : Int} (h : BoxAt w W A0 c0 n0 A1 c1 n1 pat) {g : Nat} (hg : w.heap.size < g) (cs : Array Value) : BoxAt w (W.setRow g cs) A0 c0 n0 A1 c1 n1 pat :=
  ⟨below_setRow h.below (by omega) cs, (heap_setRow_other W g _ cs (by omega)).trans h.box⟩
theorem RSet.row {W : World} {b : Nat} {f : Int → Bool} (h : RSet W b f) {g : Nat} (hg : b ≠ g) (cs : Array Value) : RSet (W.setRow g cs) b f := (heap_setRow_other W g b cs hg).trans h
end Go.Proofs.Ytiephlhohgohcaa.PAll
namespace Go.Proofs.Ytiephlhohgohcaa.PAll
open Go.RowKit Go.Proofs.YtiephlhohgohcaaW.PrintWords Go.Proofs.YtiephlhohgohcaaW.PrintLast Go.Proofs.YtiephlhohgohcaaW.PrintMore
attribute [local go_sem] max2_int min2_int max_two min_two max_three min_three max_four min_four
set_option linter.unusedVariables false
set_option linter.unusedSimpArgs false
def loK (f : Int → Bool) : Nat → Int
  | 0 => 102
  | k + 1 => if f (k : Int) = true then min (loK f k) (k : Int) else loK f k
def hiK (f : Int → Bool) : Nat → Int
  | 0 => -1
  | k + 1 => if f (k : Int) = true then (k : Int) else hiK f k
end Go.Proofs.Ytiephlhohgohcaa.PAll
namespace Go.Proofs.Ytiephlhohgohcaa.PAll
open Go.RowKit Go.Proofs.YtiephlhohgohcaaW.PrintWords Go.Proofs.YtiephlhohgohcaaW.PrintLast Go.Proofs.YtiephlhohgohcaaW.PrintMore
set_option linter.unusedVariables false
set_option linter.unusedSimpArgs false
theorem loK_spec (f : Int → Bool) : ∀ k : Nat, k ≤ 102 → (∀ y : Nat, y < k → f y = true → loK f k ≤ y) ∧ ((loK f k = 102 ∧ ∀ y : Nat, y < k → f y = false) ∨ ∃ y : Nat, y < k ∧ f y = true ∧ loK f k = y)
  | 0, _ => ⟨fun y hy => by omega, .inl ⟨rfl, fun y hy => by omega⟩⟩
  | k + 1, hk => by
    obtain ⟨h1, h2⟩ := loK_spec f k (by omega)
    rw [loK]
    cases hf : f (k : Int) with
    | true =>
      rw [if_pos rfl]
      refine ⟨fun y hy hy2 => ?_, .inr ?_⟩
      · by_cases e : y = k
        · subst e; omega
        · have := h1 y (by omega) hy2; omega
      · rcases h2 with ⟨h2, _⟩ | ⟨y, hy, hy2, h2⟩
        · exact ⟨k, by omega, hf, by omega⟩
        · have := h1 y hy hy2
          exact ⟨y, by omega, hy2, by omega⟩
    | false =>
      rw [if_neg (by simp)]
      refine ⟨fun y hy hy2 => ?_, ?_⟩
      · by_cases e : y = k
        · subst e; rw [hf] at hy2; cases hy2
        · exact h1 y (by omega) hy2
      · rcases h2 with ⟨h2, h3⟩ | ⟨y, hy, hy2, h2⟩
        · refine .inl ⟨h2, fun y hy => ?_⟩
          by_cases e : y = k
          · subst e; exact hf
          · exact h3 y (by omega)
        · exact .inr ⟨y, by omega, hy2, h2⟩
theorem hiK_spec (f : Int → Bool) : ∀ k : Nat, (∀ y : Nat, y < k → f y = true → (y : Int) ≤ hiK f k) ∧ ((hiK f k = -1 ∧ ∀ y : Nat, y < k → f y = false) ∨ ∃ y : Nat, y < k ∧ f y = true ∧ hiK f k = y)
  | 0 => ⟨fun y hy => by omega, .inl ⟨rfl, fun y hy => by omega⟩⟩
  | k + 1 => by
    obtain ⟨h1, h2⟩ := hiK_spec f k
    rw [hiK]
    cases hf : f (k : Int) with
    | true =>
      rw [if_pos rfl]
      exact ⟨fun y hy hy2 => by omega, .inr ⟨k, by omega, hf, rfl⟩⟩
    | false =>
      rw [if_neg (by simp)]
      refine ⟨fun y hy hy2 => ?_, ?_⟩
      · by_cases e : y = k
        · subst e; rw [hf] at hy2; cases hy2
        · exact h1 y (by omega) hy2
      · rcases h2 with ⟨h2, h3⟩ | ⟨y, hy, hy2, h2⟩
        · refine .inl ⟨h2, fun y hy => ?_⟩
          by_cases e : y = k
          · subst e; exact hf
          · exact h3 y (by omega)
        · exact .inr ⟨y, by omega, hy2, h2⟩
/-- The least and the greatest number of a set. -/
def EndsOf (f : Int → Bool) (a b : Int) : Prop := 0 ≤ a ∧ b ≤ 101 ∧ f a = true ∧ f b = true ∧ ∀ y : Nat, f y = true → y ≤ 101 → a ≤ y ∧ (y : Int) ≤ b
theorem EndsOf.lo {f : Int → Bool} {a b : Int} (h : EndsOf f a b) (ha : a ≤ 101) : loK f 102 = a := by
  obtain ⟨h0, h1, h2, h3, h4⟩ := h
  obtain ⟨s1, s2⟩ := loK_spec f 102 (by omega)
  have e : ((a.toNat : Nat) : Int) = a := Int.toNat_of_nonneg h0
  have := s1 a.toNat (by omega) (by rw [e]; exact h2)
  rcases s2 with ⟨s2, _⟩ | ⟨y, hy, hy2, s2⟩
  · omega
  · have := h4 y hy2 (by omega); omega
theorem EndsOf.hi {f : Int → Bool} {a b : Int} (h : EndsOf f a b) (hb : 0 ≤ b) : hiK f 102 = b := by
  obtain ⟨h0, h1, h2, h3, h4⟩ := h
  obtain ⟨s1, s2⟩ := hiK_spec f 102
  have e : ((b.toNat : Nat) : Int) = b := Int.toNat_of_nonneg hb
  have := s1 b.toNat (by omega) (by rw [e]; exact h3)
  rcases s2 with ⟨s2, _⟩ | ⟨y, hy, hy2, s2⟩
  · omega
  · have := h4 y hy2 (by omega); omega
end Go.Proofs.Ytiephlhohgohcaa.PAll
namespace Go.Proofs.Ytiephlhohgohcaa.PAll
open Go.RowKit Go.Proofs.YtiephlhohgohcaaW.PrintWords Go.Proofs.YtiephlhohgohcaaW.PrintLast Go.Proofs.YtiephlhohgohcaaW.PrintMore
set_option linter.unusedVariables false
set_option linter.unusedSimpArgs false
theorem u8_of {a : Int} (h : (Lit.int .u8 a).wf = true) : 0 ≤ a ∧ a ≤ 255 := by
  have h1 : IntKind.u8.min = 0 := by decide
  have h2 : IntKind.u8.max = 255 := by decide
  simp [Lit.wf, h1, h2] at h
  omega
theorem check_pat {sends : List Int} {rs : List S122} {pat q : Int} (h : check sends rs pat = 0) (hq : 0 ≤ q ∧ q ≤ 30) : check sends rs q = 0 := by
  obtain ⟨h1, h2⟩ := check_zero h
  unfold bad at h2
  have : bad sends rs q = false := by
    simp only [bad, Bool.or_eq_false_iff] at h2 ⊢
    exact ⟨⟨⟨⟨⟨h2.1.1.1.1.1, h2.1.1.1.1.2⟩, by simp [inB_iff, hq]⟩, h2.1.1.2⟩, h2.1.2⟩, h2.2⟩
  simp [check, h1, this]
theorem sureL_full (sends : List Int) (rs : List S122) (pat : Int) : ∀ n : Nat, (sureL sends rs pat n).length = n ↔ (List.range n).all (sureB sends rs pat) = true
  | 0 => by simp [sureL]
  | n + 1 => by
    have ih := sureL_full sends rs pat n
    have hl := sureL_len sends rs pat n
    rw [List.range_succ, List.all_append, Bool.and_eq_true, ← ih]
    cases h : sureB sends rs pat n with
    | true =>
      rw [sureL_yes h, List.length_append, List.length_singleton]
      simp [h]
    | false =>
      rw [sureL_no h]
      constructor
      · intro e; omega
      · rintro ⟨_, e⟩
        simp [h] at e
theorem allSure_more {sends : List Int} {rs : List S122} {k q : Nat} (h : allSure sends rs k = true) (hq : k ≤ q) : allSure sends rs q = true := by
  unfold allSure at h ⊢
  rw [List.all_eq_true] at h ⊢
  intro i hi
  have := h i hi
  unfold sureB at this ⊢
  rw [decide_eq_true_eq] at this ⊢
  omega
/-- The smallest patience, and what Surely says with any. -/
theorem least_spec {sends : List Int} {rs : List S122} {pat : Int} (h : check sends rs pat = 0) :
    (leastRes sends rs pat = (0, 9) ∧ ∀ q : Nat, q ≤ 30 → (sureL sends rs (q : Int) sends.length).length < sends.length) ∨
    (∃ k : Nat, k ≤ 30 ∧ leastRes sends rs pat = ((k : Int), 0) ∧ ∀ q : Nat, q ≤ 30 → (decide ((sureL sends rs (q : Int) sends.length).length = sends.length) = decide (k ≤ q))) := by
  have full : ∀ q : Nat, (sureL sends rs (q : Int) sends.length).length = sends.length ↔ allSure sends rs q = true := fun q => sureL_full sends rs q sends.length
  rw [leastRes, if_neg (by rw [h]; exact fun e => e rfl)]
  cases hf : (List.range 31).find? (allSure sends rs) with
  | none =>
    refine .inl ⟨rfl, fun q hq => ?_⟩
    have h1 := List.find?_eq_none.1 hf q (List.mem_range.2 (by omega))
    have h2 := sureL_len sends rs (q : Int) sends.length
    have h3 := full q
    rcases Nat.lt_or_eq_of_le h2 with h4 | h4
    · exact h4
    · exact absurd (h3.1 h4) h1
  | some k =>
    have h1 := List.find?_some hf
    have h2 := List.mem_range.1 (List.mem_of_find?_eq_some hf)
    refine .inr ⟨k, by omega, rfl, fun q hq => ?_⟩
    rw [decide_eq_decide, full]
    constructor
    · intro hq2
      rcases Nat.lt_or_ge q k with hlt | hge
      · exfalso
        obtain ⟨h5, fst, snd, h6, h7⟩ := List.find?_eq_some_iff_append.1 hf
        have hql : q ∈ fst := by
          have hr : (List.range 31)[q]? = some q := by rw [List.getElem?_range (by omega)]
          have hk : fst.length = k := by
            have e := congrArg (fun l => l[fst.length]?) h6
            simp only [List.getElem?_append_right (Nat.le_refl _), Nat.sub_self, List.getElem?_cons_zero] at e
            have hlen : fst.length < 31 := by
              have := congrArg List.length h6
              simp at this
              omega
            rw [List.getElem?_range hlen, Option.some.injEq] at e
            exact e
          rw [h6, List.getElem?_append_left (by omega)] at hr
          exact List.mem_of_getElem? hr
        have := h7 q hql
        rw [hq2] at this
        cases this
      · exact hge
    · intro hkq
      exact allSure_more h1 hkq
end Go.Proofs.Ytiephlhohgohcaa.PAll
namespace Go.Proofs.Ytiephlhohgohcaa.PAll
open Go.RowKit Go.Proofs.YtiephlhohgohcaaW.PrintWords Go.Proofs.YtiephlhohgohcaaW.PrintLast Go.Proofs.YtiephlhohgohcaaW.PrintMore
attribute [local go_sem] max2_int min2_int max_two min_two max_three min_three max_four min_four
set_option linter.unusedVariables false
set_option linter.unusedSimpArgs false
set_option maxRecDepth 100000 in
set_option maxHeartbeats 4000000 in
theorem ready54 (A0 : Option Addr) (c0 : Nat) (sends : List Int) (A1 : Option Addr) (c1 : Nat) (routes : List S54) (pat : Int) (rs : List S122) (w : World) (hrs : rs = routes.map toX) (h : PostAt w A0 c0 sends A1 c1 routes) :
    Calls Try.prog 54 #[.agg #[.slice A0 sends.length c0, .slice A1 routes.length c1, .int .i64 pat]] w fun e w' => e = .returned (.bool (thinB sends routes && check sends rs pat == 0)) ∧ Below w.heap.size w w' := by
  have HRS := Aside0.mk hrs
  clear hrs
  obtain ⟨R, hR⟩ : ∃ R, (thinB sends routes && check sends rs pat == 0) = R := ⟨_, rfl⟩
  have HRR := Aside0.mk hR
  rw [hR]
  clear hR
  obtain ⟨W1, hW1⟩ : ∃ W1, W1 = w.alloc (.cells #[.slice A0 sends.length c0, .slice A1 routes.length c1, .int .i64 pat] 25) := ⟨_, rfl⟩
  have hx := BoxAt.start w A0 c0 sends.length A1 c1 routes.length pat
  rw [← hW1] at hx
  have HX := Aside0.mk hx
  have HP := Aside0.mk h
  have x0 := hx.x0
  have x1 := hx.x1
  have x2 := hx.x2
  have HW1 := Aside0.mk hW1
  clear h hx hW1
  go_enter Try.func54, Try.ntmps54
  go_wp2_with fail
  rw [← HW1.out]
  clear HW1
  refine (thin18 pat (HP.out.below HX.out.below)).mono ?_
  rintro e w2 ⟨rfl, hb⟩
  replace HX := Aside0.mk (HX.out.later hb)
  clear hb x0 x1 x2
  cases hth : thinB sends routes with
  | false =>
    have HTH := Aside0.mk hth
    clear hth
    go_wp2_with fail
    go_ret
    exact ⟨by rw [← HRR.out, HTH.out]; rfl, HX.out.below⟩
  | true =>
    have HTH := Aside0.mk hth
    clear hth
    have x0 := HX.out.x0
    have x1 := HX.out.x1
    have x2 := HX.out.x2
    go_wp2_with fail
    refine (fault25 pat HRS.out (HP.out.below HX.out.below) (thin_spec HTH.out).1).mono ?_
    rintro e w3 ⟨rfl, hb⟩
    replace HX := Aside0.mk (HX.out.later hb)
    clear hb x0 x1 x2
    have HCC : Aside0 ((check sends rs pat == 0) = R) := ⟨by have := HRR.out; rw [HTH.out, Bool.true_and] at this; exact this⟩
    generalize check sends rs pat = ck at HCC ⊢
    by_cases hck : ck = 0
    · subst hck
      go_wp2_with fail
      go_ret
      exact ⟨by rw [← HCC.out]; rfl, HX.out.below⟩
    · have hcd : decide (ck = 0) = false := decide_eq_false hck
      have HCB := Aside0.mk (show (ck == 0) = false from beq_eq_false_iff_ne.2 hck)
      go_wp2_with fail
      go_ret
      exact ⟨by rw [← HCC.out, HCB.out]; rfl, HX.out.below⟩
set_option maxRecDepth 100000 in
set_option maxHeartbeats 4000000 in
theorem copiesLeast8 (A0 : Option Addr) (c0 : Nat) (sends : List Int) (A1 : Option Addr) (c1 : Nat) (routes : List S54) (pat : Int) (a : Int) (w : World) (h : PostAt w A0 c0 sends A1 c1 routes) (ha : (Lit.int .u8 a).wf = true) :
    Calls Try.prog 8 #[.agg #[.slice A0 sends.length c0, .slice A1 routes.length c1, .int .i64 pat], .int .u8 a] w fun e w' => e = .returned (.bool true) ∧ Below w.heap.size w w' := by
  obtain ⟨rs, hrs⟩ : ∃ rs, rs = routes.map toX := ⟨_, rfl⟩
  have HRS := Aside0.mk hrs
  have hau := u8_of ha
  clear hrs ha
  obtain ⟨W1, hW1⟩ : ∃ W1, W1 = w.alloc (.cells #[.slice A0 sends.length c0, .slice A1 routes.length c1, .int .i64 pat] 25) := ⟨_, rfl⟩
  have hx := BoxAt.start w A0 c0 sends.length A1 c1 routes.length pat
  rw [← hW1] at hx
  have HX := Aside0.mk hx
  have HP := Aside0.mk h
  have x0 := hx.x0
  have x1 := hx.x1
  have x2 := hx.x2
  have HW1 := Aside0.mk hW1
  clear h hx hW1
  go_enter Try.func8, Try.ntmps8
  go_wp2_with fail
  rw [← HW1.out]
  clear HW1
  refine (ready54 A0 c0 sends A1 c1 routes pat rs W1 HRS.out (HP.out.below HX.out.below)).mono ?_
  rintro e w2 ⟨rfl, hb⟩
  replace HX := Aside0.mk (HX.out.later hb)
  clear hb x0 x1 x2
  cases hrd : (thinB sends routes && check sends rs pat == 0) with
  | false =>
    clear hrd
    go_wp2_with fail
    refine (awake20 w2).mono ?_
    rintro e w3 ⟨rfl, hb⟩
    replace HX := Aside0.mk (HX.out.later hb)
    clear hb
    go_wp2_with fail
    go_ret
    exact ⟨rfl, HX.out.below⟩
  | true =>
    rw [Bool.and_eq_true, beq_iff_eq] at hrd
    have HTH := Aside0.mk hrd.1
    have HCK := Aside0.mk hrd.2
    have HV := Aside0.mk (valid_of hrd.2)
    have hsl := (valid_of hrd.2).sn
    have HLS := Aside0.mk (least_spec hrd.2)
    clear hrd
    obtain ⟨q, hq, hq30⟩ : ∃ q : Nat, Int.tmod a 31 = (q : Int) ∧ q ≤ 30 := by
      rw [Int.tmod_eq_emod_of_nonneg hau.1]
      exact ⟨(a % 31).toNat, by omega, by omega⟩
    obtain ⟨⟨lv, le'⟩, hsl'⟩ : ∃ p, leastRes sends rs pat = p := ⟨_, rfl⟩
    rw [hsl'] at HLS
    have HSL := Aside0.mk hsl'
    clear hsl'
    have x0 := HX.out.x0
    have x1 := HX.out.x1
    have x2 := HX.out.x2
    go_wp2_with fail
    refine (post22_thin pat HRS.out (HP.out.below HX.out.below) HTH.out).mono ?_
    rintro e w4 ⟨A3, c3, A4, c4, rfl, hp, hb⟩
    replace HX := Aside0.mk (HX.out.later hb)
    have HP4 := Aside0.mk hp
    clear hb hp x0 x1 x2
    go_wp2_with fail
    have hct := least35 A3 c3 sends A4 c4 rs pat w4 HP4.out.h0 HP4.out.l0 HP4.out.h1 HP4.out.l1
    rw [HSL.out] at hct
    refine hct.mono ?_
    clear hct
    rintro e w5 ⟨rfl, hb⟩
    replace HX := Aside0.mk (HX.out.later hb)
    clear hb HP4
    dsimp only
    have x0 := HX.out.x0
    have x1 := HX.out.x1
    have x2 := HX.out.x2
    go_wp2_with fail
    obtain ⟨gx, hgx⟩ : ∃ gx, gx = w5.heap.size := ⟨_, rfl⟩
    obtain ⟨W6, hW6⟩ : ∃ W6, W6 = w5.alloc (Obj.cells #[Value.slice A0 sends.length c0, Value.slice A1 routes.length c1, Value.int IntKind.i64 (q : Int)] 25) := ⟨_, rfl⟩
    rw [← hW6]
    have hb6 : Below w5.heap.size w5 W6 := hW6 ▸ (Below.refl _ w5).alloc (Nat.le_refl _) _
    have HG6 := Aside0.mk (show W6.heap[gx]? = some (.cells #[.slice A0 sends.length c0, .slice A1 routes.length c1, .int .i64 (q : Int)] 25 (0, 0)) from by rw [hW6, hgx]; exact blk_new _ _)
    have HX6 := Aside0.mk (HX.out.later hb6)
    rw [← hgx]
    clear hb6 hW6 hgx x0 x1 x2 HX
    refine (post22_thin (q : Int) HRS.out (HP.out.below HX6.out.below) HTH.out).mono ?_
    rintro e w7 ⟨A6, c6, A7, c7, rfl, hp, hb⟩
    have HX7 := Aside0.mk (HX6.out.later hb)
    have HG7 := Aside0.mk (blk_below HG6.out hb)
    have HP7 := Aside0.mk hp
    clear hb hp HX6 HG6
    go_wp2_with fail
    have hct := surely34 A6 c6 sends A7 c7 rs (q : Int) w7 HP7.out.h0 HP7.out.l0 HP7.out.h1 HP7.out.l1
    rw [surelyRes, if_neg (by rw [check_pat HCK.out ⟨by omega, by omega⟩]; exact fun e => e rfl)] at hct
    refine hct.mono ?_
    clear hct
    rintro e w8 ⟨v8, rfl, hr, hb⟩
    obtain ⟨A8, c8, rfl, hl8, hC8⟩ := Kd.R_reads hr
    have HX8 := Aside0.mk (HX7.out.later hb)
    have HG8 := Aside0.mk (blk_below HG7.out hb)
    have hll := sureL_len sends rs (q : Int) sends.length
    clear hb hr hl8 hC8 HX7 HG7 HP7
    dsimp only at hll ⊢
    obtain ⟨lq, hlq⟩ : ∃ lq, (sureL sends rs (q : Int) sends.length).length = lq := ⟨_, rfl⟩
    rw [hlq] at hll ⊢
    have HLQ := Aside0.mk hlq
    clear hlq
    have x0 := HX8.out.x0
    have x1 := HX8.out.x1
    have x2 := HX8.out.x2
    have g0 : w8.cell? ⟨gx, 0, none⟩ = some (.slice A0 sends.length c0) := (blk_cell HG8.out 0).trans rfl
    have g1 : w8.cell? ⟨gx, 1, none⟩ = some (.slice A1 routes.length c1) := (blk_cell HG8.out 1).trans rfl
    have g2 : w8.cell? ⟨gx, 2, none⟩ = some (.int .i64 (q : Int)) := (blk_cell HG8.out 2).trans rfl
    have hllz : ¬ (lq : Int) > (sends.length : Int) := by omega
    rcases HLS.out with ⟨hle, hls⟩ | ⟨k, hk, hle, hls⟩
    · cases hle
      have hlt := hls q hq30
      rw [HLQ.out] at hlt
      have hltz : (lq : Int) < (sends.length : Int) := by omega
      clear hls
      go_wp2_with fail
      refine (awake20 w8).mono ?_
      rintro e w9 ⟨rfl, hb⟩
      have HX9 := Aside0.mk (HX8.out.later hb)
      clear hb
      go_wp2_with fail
      go_ret
      exact ⟨rfl, HX9.out.below⟩
    · cases hle
      have hkq := hls q hq30
      have hkk := hls k hk
      rw [HLQ.out] at hkq
      have HKQ := Aside0.mk hkq
      have HKK := Aside0.mk hkk
      clear hls hkq hkk
      go_wp2_with fail
      obtain ⟨gy, hgy⟩ : ∃ gy, gy = w8.heap.size := ⟨_, rfl⟩
      obtain ⟨W9, hW9⟩ : ∃ W9, W9 = w8.alloc (Obj.cells #[Value.slice A0 sends.length c0, Value.slice A1 routes.length c1, Value.int IntKind.i64 (k : Int)] 25) := ⟨_, rfl⟩
      rw [← hW9]
      have hb9 : Below w8.heap.size w8 W9 := hW9 ▸ (Below.refl _ w8).alloc (Nat.le_refl _) _
      have HY9 := Aside0.mk (show W9.heap[gy]? = some (.cells #[.slice A0 sends.length c0, .slice A1 routes.length c1, .int .i64 (k : Int)] 25 (0, 0)) from by rw [hW9, hgy]; exact blk_new _ _)
      have HX9 := Aside0.mk (HX8.out.later hb9)
      have HG9 := Aside0.mk (blk_below HG8.out hb9)
      rw [← hgy]
      clear hb9 hW9 hgy x0 x1 x2 g0 g1 g2 HX8 HG8
      refine (in30 (k : Int) 0 30 W9).mono ?_
      rintro e w10 ⟨rfl, hb⟩
      have HX10 := Aside0.mk (HX9.out.later hb)
      have HY10 := Aside0.mk (blk_below HY9.out hb)
      have HG10 := Aside0.mk (blk_below HG9.out hb)
      clear hb HX9 HY9 HG9
      rw [show inB 0 30 (k : Int) = true from inB_iff.2 ⟨by omega, by omega⟩]
      have y0 : w10.cell? ⟨gy, 0, none⟩ = some (.slice A0 sends.length c0) := (blk_cell HY10.out 0).trans rfl
      have y1 : w10.cell? ⟨gy, 1, none⟩ = some (.slice A1 routes.length c1) := (blk_cell HY10.out 1).trans rfl
      have y2 : w10.cell? ⟨gy, 2, none⟩ = some (.int .i64 (k : Int)) := (blk_cell HY10.out 2).trans rfl
      go_wp2_with fail
      refine (post22_thin (k : Int) HRS.out (HP.out.below HX10.out.below) HTH.out).mono ?_
      rintro e w11 ⟨A6', c6', A7', c7', rfl, hp, hb⟩
      have HX11 := Aside0.mk (HX10.out.later hb)
      have HG11 := Aside0.mk (blk_below HG10.out hb)
      have HP11 := Aside0.mk hp
      clear hb hp HX10 HG10 y0 y1 y2
      go_wp2_with fail
      have hct := surely34 A6' c6' sends A7' c7' rs (k : Int) w11 HP11.out.h0 HP11.out.l0 HP11.out.h1 HP11.out.l1
      rw [surelyRes, if_neg (by rw [check_pat HCK.out ⟨by omega, by omega⟩]; exact fun e => e rfl)] at hct
      refine hct.mono ?_
      clear hct
      rintro e w12 ⟨v12, rfl, hr, hb⟩
      obtain ⟨A12, c12, rfl, hl12, hC12⟩ := Kd.R_reads hr
      have HX12 := Aside0.mk (HX11.out.later hb)
      have HG12 := Aside0.mk (blk_below HG11.out hb)
      clear hb hr hl12 hC12 HX11 HG11 HP11
      dsimp only
      have hfull : (sureL sends rs (k : Int) sends.length).length = sends.length := by
        have := HKK.out
        rw [decide_eq_true (Nat.le_refl k), decide_eq_true_eq] at this
        exact this
      rw [hfull]
      clear hfull
      have x0 := HX12.out.x0
      have x1 := HX12.out.x1
      have x2 := HX12.out.x2
      have g2 : w12.cell? ⟨gx, 2, none⟩ = some (.int .i64 (q : Int)) := (blk_cell HG12.out 2).trans rfl
      by_cases hkq : k ≤ q
      · have hkqz : (k : Int) ≤ (q : Int) := by omega
        have hln : lq = sends.length := by
          have := HKQ.out
          rw [decide_eq_true hkq, decide_eq_true_eq] at this
          exact this
        subst hln
        go_wp2_with fail
        refine (awake20 w12).mono ?_
        rintro e w13 ⟨rfl, hb⟩
        have HX13 := Aside0.mk (HX12.out.later hb)
        clear hb
        go_wp2_with fail
        go_ret
        exact ⟨rfl, HX13.out.below⟩
      · have hkqz : ¬ (k : Int) ≤ (q : Int) := by omega
        have hln : ¬ (lq = sends.length) := by
          have := HKQ.out
          rw [decide_eq_false hkq, decide_eq_false_iff_not] at this
          exact this
        have hlnz : ((lq : Int) == (sends.length : Int)) = false := beq_eq_false_iff_ne.2 (by omega)
        go_wp2_with fail
        refine (awake20 w12).mono ?_
        rintro e w13 ⟨rfl, hb⟩
        have HX13 := Aside0.mk (HX12.out.later hb)
        clear hb
        go_wp2_with fail
        go_ret
        exact ⟨rfl, HX13.out.below⟩
end Go.Proofs.Ytiephlhohgohcaa.PAll
