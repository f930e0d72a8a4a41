/- Part 8 of what the row rests on: each text as it stands among the working texts, cut to what is used; those of the print of the kit as a program printed them. -/
import Derived.Test.YtiephlhohgohcaaEnds5
import Derived.Lib.Hide
import Derived.Shelf.Abstract
set_option linter.unusedVariables false
set_option linter.unusedSimpArgs false
namespace Go.Proofs.Ytiephlhohgohcaa.PAll
open Go.RowKit Go.Proofs.YtiephlhohgohcaaW.PrintWords Go.Proofs.YtiephlhohgohcaaW.PrintLast Go.Proofs.YtiephlhohgohcaaW.PrintMore
theorem within_any (a lo hi : Int) (w : World) :
    Calls Try.prog 77 #[.int .i64 a, .int .i64 lo, .int .i64 hi] w fun e w' => e = .returned (.bool (decide (lo ≤ a) && decide (a ≤ hi))) ∧ Below w.heap.size w w' := by
  refine (copies_within.calls a lo hi (decide (lo ≤ a) && decide (a ≤ hi)) w ?_).mono (fun _ _ h => ⟨h.1, h.2.below⟩)
  unfold copies_within.f
  by_cases h : lo ≤ a <;> simp [h]
set_option maxHeartbeats 400000 in
theorem has_any (a b n : Int) (w : World) :
    Calls Try.prog 65 #[.agg #[.int .i64 a, .int .i64 b], .int .i64 n] w fun e w' => e = .returned (.bool (decide (a ≤ n) && decide (n ≤ b))) ∧ Below w.heap.size w w' := by
  refine copies_Range_has.calls a b n _ w ?_
  unfold copies_Range_has.f copies_within.f
  by_cases h : a ≤ n <;> simp [h]
set_option maxHeartbeats 400000 in
theorem awake1_any (a b h : Int) (B : Nat) (w : World) (hc : w.cell? ⟨B, 0, none⟩ = some (.int .i64 h)) :
    Calls Try.prog 152 #[.agg #[.int .i64 a, .int .i64 b], .pointer (some ⟨B, 0, none⟩)] w fun e w' => e = .returned (.bool (decide (a ≤ h) && decide (h ≤ b))) ∧ Below w.heap.size w w' := by
  have hB := World.block_lt_of_cell? w _ hc
  have hc2 : (w.alloc (.cells #[.int .i64 a, .int .i64 b] 68)).cell? ⟨B, 0, none⟩ = some (.int .i64 h) := pw_cell_below ((Below.refl _ w).alloc (Nat.le_refl _) _) hc
  go_enter Try.func152, Try.ntmps152
  go_wp2_with (go_at_call 65; refine (has_any a b h _).mono ?_; rintro e w' ⟨rfl, hb⟩)
  go_ret
  exact ⟨rfl, below_then (below_alloc (Below.refl _ w) _) (by simp) hb⟩
end Go.Proofs.Ytiephlhohgohcaa.PAll
namespace Go.Proofs.Ytiephlhohgohcaa.PAll
open Go.RowKit Go.Proofs.YtiephlhohgohcaaW.PrintWords Go.Proofs.YtiephlhohgohcaaW.PrintLast Go.Proofs.YtiephlhohgohcaaW.PrintMore
/-- Where a test first passes; -1 if it does nowhere. -/
def idxP {α : Type} (p : α → Bool) : List α → Int → Int
  | [], _ => -1
  | x :: xs, i => if p x then i else idxP p xs (i + 1)
theorem idxP_hit {α : Type} (p : α → Bool) (z : α) : ∀ (xs : List α) (k : Nat) (i : Int), k < xs.length → (∀ j, j < k → p (xs.getD j z) = false) → p (xs.getD k z) = true → idxP p xs i = i + k
  | [], k, _, h, _, _ => absurd h (by simp)
  | x :: xs, 0, i, _, _, h => by simp [idxP]; simp at h; simp [h]
  | x :: xs, k + 1, i, h, h0, h1 => by
    have hx : p x = false := by simpa using h0 0 (by omega)
    rw [idxP, hx, if_neg (by simp), idxP_hit p z xs k (i + 1) (by simpa using h) (fun j hj => by simpa using h0 (j + 1) (by omega)) (by simpa using h1)]
    omega
theorem idxP_miss {α : Type} (p : α → Bool) (z : α) : ∀ (xs : List α) (i : Int), (∀ j, j < xs.length → p (xs.getD j z) = false) → idxP p xs i = -1
  | [], _, _ => rfl
  | x :: xs, i, h => by
    have hx : p x = false := by simpa using h 0 (by simp)
    rw [idxP, hx, if_neg (by simp), idxP_miss p z xs (i + 1) (fun j hj => by simpa using h (j + 1) (by simpa using hj))]
theorem idxP_any {α : Type} (p : α → Bool) : ∀ (xs : List α) (i : Int), 0 ≤ i → (0 ≤ idxP p xs i ↔ xs.any p = true)
  | [], i, _ => by simp [idxP]
  | x :: xs, i, h => by
    have ih := idxP_any p xs (i + 1) (by omega)
    cases hx : p x <;> simp [idxP, hx]
    · exact ih.trans (by simp)
    · exact h
/-- A test that is handed to the library: at each element of the list, in each later world. -/
def TestAt {α : Type} (g : Nat) (ba lb : Array Value) (enc : World → α → Value → Prop) (p : α → Bool) (xs : List α) (w : World) : Prop :=
  ∀ (W : World) (x : α) (v : Value), Below w.heap.size w W → x ∈ xs → enc W x v → Calls Try.prog g (ba.push v ++ lb) W fun e w' => e = .returned (.bool (p x)) ∧ Below W.heap.size W w'
theorem TestAt.later {α : Type} {g : Nat} {ba lb : Array Value} {enc : World → α → Value → Prop} {p : α → Bool} {xs : List α} {w w1 : World} (h : TestAt g ba lb enc p xs w) (hb : Below w.heap.size w w1) : TestAt g ba lb enc p xs w1 :=
  fun W x v hW hx he => h W x v (hb.trans (hW.mono hb.size)) hx he
def encRange (_ : World) (x : S68) (v : Value) : Prop := v = .agg #[.int .i64 x.f0, .int .i64 x.f1]
def encInt (_ : World) (x : Int) (v : Value) : Prop := v = .int .i64 x
def encEntry (_ : World) (x : S87) (v : Value) : Prop := v = .agg #[.int .i64 x.f0, .int .i64 x.f1, .bool x.f2]
def encLeg (w : World) (x : S119) (v : Value) : Prop := ∃ A c, v = .agg #[.int .i64 x.f0.f0, .int .i64 x.f0.f1, .slice A x.f1.length c] ∧ x.f1.length ≤ c ∧ Kd.C k68 w A x.f1.length x.f1
def encRoute (w : World) (x : S122) (v : Value) : Prop := ∃ A c, v = .agg #[.slice A x.f0.length c, .bool x.f1] ∧ x.f0.length ≤ c ∧ Kd.C k119 w A x.f0.length x.f0
set_option maxHeartbeats 1000000 in
theorem index159 (g : Nat) (ba lb : Array Value) (p : S68 → Bool) (eg : ∀ args w, (callFunc g args).run Try.prog w = .ok (.enter g args) w) (A : Option Addr) (c : Nat) (xs : List S68) (w : World)
    (hr : Kd.C k68 w A xs.length xs) (hp : TestAt g ba lb encRange p xs w) :
    Calls Try.prog 159 #[.slice A xs.length c, .func (.func g) ba lb] w fun e w' => e = .returned (.int .i64 (idxP p xs 0)) ∧ Below w.heap.size w w' := by
  have hmax := hr.2.1
  have HR := Aside0.mk hr
  have HP := Aside0.mk hp
  clear hr hp
  go_enter Try.func159, Try.ntmps159
  go_wp2
  go_loopg [5, 8] xs.length (fun gg _ s8 wr => ∃ kk : Nat, kk ≤ xs.length ∧ xs.length - kk ≤ gg ∧ s8 = .int .i64 kk ∧ Aside0 (Below w.heap.size w wr) ∧ Aside0 (∀ j, j < kk → p (xs.getD j z68) = false))
  case atStart => exact ⟨0, Nat.zero_le _, by omega, rfl, ⟨Below.refl _ w⟩, ⟨fun j hj => absurd hj (Nat.not_lt_zero _)⟩⟩
  case round =>
    obtain ⟨kk, hkk, hg, rfl, BW, AA⟩ := hrel
    by_cases hlt : kk < xs.length
    · have hltz : (kk : Int) < (xs.length : Int) := by omega
      obtain ⟨ad, e0, h0, h1⟩ := at_T68 HR.out (kk : Int) (by omega) hltz
      cases e0
      rw [Int.toNat_natCast] at h0 h1
      replace h0 := (BW.out.cell (World.block_lt_of_cell? w _ h0)).trans h0
      replace h1 := (BW.out.cell (World.block_lt_of_cell? w _ h1)).trans h1
      have hcall := HP.out wr (rd_T68 xs kk) _ BW.out (by unfold rd_T68; rw [Int.toNat_natCast, List.getD_eq_getElem?_getD, List.getElem?_eq_getElem hlt]; exact List.getElem_mem hlt) rfl
      have hy : rd_T68 xs kk = xs.getD kk z68 := by unfold rd_T68; rw [Int.toNat_natCast]
      generalize rd_T68 xs kk = y at h0 h1 hcall hy
      have HY := Aside0.mk hy
      clear hy
      cases hq : p y with
      | true =>
        rw [hq] at hcall
        have HC := Aside0.mk hcall
        clear hcall
        have HQ := Aside0.mk hq
        clear hq
        go_wp2_with fail
        refine HC.out.mono ?_
        rintro e w' ⟨rfl, hb'⟩
        have HB' := Aside0.mk hb'
        clear hb'
        go_wp2_with fail
        go_ret
        refine ⟨?_, below_then BW.out BW.out.size HB'.out⟩
        rw [idxP_hit p z68 xs kk 0 hlt AA.out (by rw [← HY.out]; exact HQ.out)]
        simp
      | false =>
        rw [hq] at hcall
        have HC := Aside0.mk hcall
        clear hcall
        have HQ := Aside0.mk hq
        clear hq
        go_wp2_with fail
        refine HC.out.mono ?_
        rintro e w' ⟨rfl, hb'⟩
        have HB' := Aside0.mk hb'
        clear hb'
        go_wp2_with fail
        go_roundg (xs.length - (kk + 1))
        case measure => omega
        case rel =>
          refine ⟨kk + 1, by omega, by omega, by go_num, ⟨below_then BW.out BW.out.size HB'.out⟩, ⟨fun j hj => ?_⟩⟩
          by_cases e : j = kk
          · subst e
            rw [← HY.out]; exact HQ.out
          · exact AA.out j (by omega)
    · have hltz : ¬ (kk : Int) < (xs.length : Int) := by omega
      have : kk = xs.length := by omega
      subst this
      go_wp2
      go_ret
      refine ⟨?_, BW.out⟩
      rw [idxP_miss p z68 xs 0 AA.out]
      rfl
set_option maxHeartbeats 400000 in
theorem contains151 (g : Nat) (ba lb : Array Value) (p : S68 → Bool) (eg : ∀ args w, (callFunc g args).run Try.prog w = .ok (.enter g args) w) (A : Option Addr) (c : Nat) (xs : List S68) (w : World)
    (hr : Kd.C k68 w A xs.length xs) (hp : TestAt g ba lb encRange p xs w) :
    Calls Try.prog 151 #[.slice A xs.length c, .func (.func g) ba lb] w fun e w' => e = .returned (.bool (xs.any p)) ∧ Below w.heap.size w w' := by
  have H1 := Aside0.mk (index159 g ba lb p eg A c xs w hr hp)
  clear hr hp eg
  go_enter Try.func151, Try.ntmps151
  go_wp2_with fail
  refine H1.out.mono ?_
  rintro e w' ⟨rfl, hb'⟩
  have HB' := Aside0.mk hb'
  clear hb'
  go_wp2_with fail
  go_ret
  refine ⟨?_, HB'.out⟩
  have h := idxP_any p xs 0 (by omega)
  cases hx : xs.any p <;> simp [hx] at h <;> simp [h]
/-- What is handed to ContainsFunc by all: the test's contrary. -/
theorem not158 (g : Nat) (ba lb : Array Value) (p : S68 → Bool) (eg : ∀ args w, (callFunc g args).run Try.prog w = .ok (.enter g args) w) (xs : List S68) (w : World) (B : Nat)
    (hB : w.cell? ⟨B, 0, none⟩ = some (.func (.func g) ba lb)) (hp : TestAt g ba lb encRange p xs w) : TestAt 158 #[] #[.pointer (some ⟨B, 0, none⟩)] encRange (fun x => !p x) xs w := by
  intro W x v hW hx he
  obtain rfl := he
  have hb0 : Below W.heap.size W (W.alloc (.cells #[.int .i64 x.f0, .int .i64 x.f1] 68)) := (Below.refl _ W).alloc (Nat.le_refl _) _
  have hc := (hb0.cell (p := ⟨B, 0, none⟩) (World.block_lt_of_cell? W _ ((hW.cell (World.block_lt_of_cell? w _ hB)).trans hB))).trans ((hW.cell (World.block_lt_of_cell? w _ hB)).trans hB)
  have H1 := Aside0.mk (hp (W.alloc (.cells #[.int .i64 x.f0, .int .i64 x.f1] 68)) x (.agg #[.int .i64 x.f0, .int .i64 x.f1]) (hW.trans (hb0.mono hW.size)) hx rfl)
  have HB0 := Aside0.mk hb0
  clear hp hB hb0 
  show Calls Try.prog 158 #[.agg #[.int .i64 x.f0, .int .i64 x.f1], .pointer (some ⟨B, 0, none⟩)] W _
  go_enter Try.func158, Try.ntmps158
  go_wp2_with fail
  refine H1.out.mono ?_
  rintro e w' ⟨rfl, hb'⟩
  have HB' := Aside0.mk hb'
  clear hb'
  go_wp2_with fail
  go_ret
  exact ⟨rfl, below_then HB0.out HB0.out.size HB'.out⟩
set_option maxHeartbeats 400000 in
theorem all147 (g : Nat) (ba lb : Array Value) (p : S68 → Bool) (eg : ∀ args w, (callFunc g args).run Try.prog w = .ok (.enter g args) w) (A : Option Addr) (c : Nat) (xs : List S68) (w : World)
    (hr : Kd.C k68 w A xs.length xs) (hp : TestAt g ba lb encRange p xs w) :
    Calls Try.prog 147 #[.slice A xs.length c, .func (.func g) ba lb] w fun e w' => e = .returned (.bool (xs.all p)) ∧ Below w.heap.size w w' := by
  have hb0 : Below w.heap.size w (w.alloc (.cells #[.func (.func g) ba lb] 199)) := (Below.refl _ w).alloc (Nat.le_refl _) _
  have hcell : (w.alloc (.cells #[.func (.func g) ba lb] 199)).cell? ⟨w.heap.size, 0, none⟩ = some (.func (.func g) ba lb) := by simp
  have H1 := Aside0.mk (contains151 158 #[] #[.pointer (some ⟨w.heap.size, 0, none⟩)] (fun x => !p x) (enters_of Try.func158 (by kernel_rfl) rfl) A c xs _ (Kd.C_below hr hb0) (not158 g ba lb p eg xs _ _ hcell (hp.later hb0)))
  have HB0 := Aside0.mk hb0
  clear hr hp eg hb0 hcell
  go_enter Try.func147, Try.ntmps147
  go_wp2_with fail
  refine H1.out.mono ?_
  rintro e w' ⟨rfl, hb'⟩
  have HB' := Aside0.mk hb'
  clear hb'
  go_wp2_with fail
  go_ret
  refine ⟨?_, below_then HB0.out HB0.out.size HB'.out⟩
  rw [List.all_eq_not_any_not]
  rfl
set_option maxHeartbeats 1000000 in
theorem index143 (g : Nat) (ba lb : Array Value) (p : S122 → Bool) (eg : ∀ args w, (callFunc g args).run Try.prog w = .ok (.enter g args) w) (A : Option Addr) (c : Nat) (xs : List S122) (w : World)
    (hr : Kd.C k122 w A xs.length xs) (hp : TestAt g ba lb encRoute p xs w) :
    Calls Try.prog 143 #[.slice A xs.length c, .func (.func g) ba lb] w fun e w' => e = .returned (.int .i64 (idxP p xs 0)) ∧ Below w.heap.size w w' := by
  have hmax := hr.2.1
  have HR := Aside0.mk hr
  have HP := Aside0.mk hp
  clear hr hp
  go_enter Try.func143, Try.ntmps143
  go_wp2
  go_loopg [5, 8] xs.length (fun gg _ s8 wr => ∃ kk : Nat, kk ≤ xs.length ∧ xs.length - kk ≤ gg ∧ s8 = .int .i64 kk ∧ Aside0 (Below w.heap.size w wr) ∧ Aside0 (∀ j, j < kk → p (xs.getD j z122) = false))
  case atStart => exact ⟨0, Nat.zero_le _, by omega, rfl, ⟨Below.refl _ w⟩, ⟨fun j hj => absurd hj (Nat.not_lt_zero _)⟩⟩
  case round =>
    obtain ⟨kk, hkk, hg, rfl, BW, AA⟩ := hrel
    by_cases hlt : kk < xs.length
    · have hltz : (kk : Int) < (xs.length : Int) := by omega
      obtain ⟨ad, A0, c0, e0, h0, h1, l0, g0⟩ := at_T122 HR.out (kk : Int) (by omega) hltz
      cases e0
      rw [Int.toNat_natCast] at h0 h1
      replace h0 := (BW.out.cell (World.block_lt_of_cell? w _ h0)).trans h0
      replace h1 := (BW.out.cell (World.block_lt_of_cell? w _ h1)).trans h1
      have hcall := HP.out wr (rd_T122 xs kk) _ BW.out (by unfold rd_T122; rw [Int.toNat_natCast, List.getD_eq_getElem?_getD, List.getElem?_eq_getElem hlt]; exact List.getElem_mem hlt) ⟨A0, c0, rfl, l0, Kd.C_below g0 BW.out⟩
      have hy : rd_T122 xs kk = xs.getD kk z122 := by unfold rd_T122; rw [Int.toNat_natCast]
      clear l0 g0
      generalize rd_T122 xs kk = y at h0 h1 hcall hy
      have HY := Aside0.mk hy
      clear hy
      cases hq : p y with
      | true =>
        rw [hq] at hcall
        have HC := Aside0.mk hcall
        clear hcall
        have HQ := Aside0.mk hq
        clear hq
        go_wp2_with fail
        refine HC.out.mono ?_
        rintro e w' ⟨rfl, hb'⟩
        have HB' := Aside0.mk hb'
        clear hb'
        go_wp2_with fail
        go_ret
        refine ⟨?_, below_then BW.out BW.out.size HB'.out⟩
        rw [idxP_hit p z122 xs kk 0 hlt AA.out (by rw [← HY.out]; exact HQ.out)]
        simp
      | false =>
        rw [hq] at hcall
        have HC := Aside0.mk hcall
        clear hcall
        have HQ := Aside0.mk hq
        clear hq
        go_wp2_with fail
        refine HC.out.mono ?_
        rintro e w' ⟨rfl, hb'⟩
        have HB' := Aside0.mk hb'
        clear hb'
        go_wp2_with fail
        go_roundg (xs.length - (kk + 1))
        case measure => omega
        case rel =>
          refine ⟨kk + 1, by omega, by omega, by go_num, ⟨below_then BW.out BW.out.size HB'.out⟩, ⟨fun j hj => ?_⟩⟩
          by_cases e : j = kk
          · subst e
            rw [← HY.out]; exact HQ.out
          · exact AA.out j (by omega)
    · have hltz : ¬ (kk : Int) < (xs.length : Int) := by omega
      have : kk = xs.length := by omega
      subst this
      go_wp2
      go_ret
      refine ⟨?_, BW.out⟩
      rw [idxP_miss p z122 xs 0 AA.out]
      rfl
set_option maxHeartbeats 400000 in
theorem contains115 (g : Nat) (ba lb : Array Value) (p : S122 → Bool) (eg : ∀ args w, (callFunc g args).run Try.prog w = .ok (.enter g args) w) (A : Option Addr) (c : Nat) (xs : List S122) (w : World)
    (hr : Kd.C k122 w A xs.length xs) (hp : TestAt g ba lb encRoute p xs w) :
    Calls Try.prog 115 #[.slice A xs.length c, .func (.func g) ba lb] w fun e w' => e = .returned (.bool (xs.any p)) ∧ Below w.heap.size w w' := by
  have H1 := Aside0.mk (index143 g ba lb p eg A c xs w hr hp)
  clear hr hp eg
  go_enter Try.func115, Try.ntmps115
  go_wp2_with fail
  refine H1.out.mono ?_
  rintro e w' ⟨rfl, hb'⟩
  have HB' := Aside0.mk hb'
  clear hb'
  go_wp2_with fail
  go_ret
  refine ⟨?_, HB'.out⟩
  have h := idxP_any p xs 0 (by omega)
  cases hx : xs.any p <;> simp [hx] at h <;> simp [h]
/-- What is handed to ContainsFunc by all: the test's contrary. -/
theorem not116 (g : Nat) (ba lb : Array Value) (p : S122 → Bool) (eg : ∀ args w, (callFunc g args).run Try.prog w = .ok (.enter g args) w) (xs : List S122) (w : World) (B : Nat)
    (hB : w.cell? ⟨B, 0, none⟩ = some (.func (.func g) ba lb)) (hp : TestAt g ba lb encRoute p xs w) : TestAt 116 #[] #[.pointer (some ⟨B, 0, none⟩)] encRoute (fun x => !p x) xs w := by
  intro W x v hW hx he
  obtain ⟨A0, c0, rfl, l0, g0⟩ := he
  have hb0 : Below W.heap.size W (W.alloc (.cells #[.slice A0 x.f0.length c0, .bool x.f1] 122)) := (Below.refl _ W).alloc (Nat.le_refl _) _
  have hc := (hb0.cell (p := ⟨B, 0, none⟩) (World.block_lt_of_cell? W _ ((hW.cell (World.block_lt_of_cell? w _ hB)).trans hB))).trans ((hW.cell (World.block_lt_of_cell? w _ hB)).trans hB)
  have H1 := Aside0.mk (hp (W.alloc (.cells #[.slice A0 x.f0.length c0, .bool x.f1] 122)) x (.agg #[.slice A0 x.f0.length c0, .bool x.f1]) (hW.trans (hb0.mono hW.size)) hx ⟨A0, c0, rfl, l0, Kd.C_below g0 ((Below.refl _ W).alloc (Nat.le_refl _) _)⟩)
  have HB0 := Aside0.mk hb0
  clear hp hB hb0 l0 g0
  show Calls Try.prog 116 #[.agg #[.slice A0 x.f0.length c0, .bool x.f1], .pointer (some ⟨B, 0, none⟩)] W _
  go_enter Try.func116, Try.ntmps116
  go_wp2_with fail
  refine H1.out.mono ?_
  rintro e w' ⟨rfl, hb'⟩
  have HB' := Aside0.mk hb'
  clear hb'
  go_wp2_with fail
  go_ret
  exact ⟨rfl, below_then HB0.out HB0.out.size HB'.out⟩
set_option maxHeartbeats 400000 in
theorem all66 (g : Nat) (ba lb : Array Value) (p : S122 → Bool) (eg : ∀ args w, (callFunc g args).run Try.prog w = .ok (.enter g args) w) (A : Option Addr) (c : Nat) (xs : List S122) (w : World)
    (hr : Kd.C k122 w A xs.length xs) (hp : TestAt g ba lb encRoute p xs w) :
    Calls Try.prog 66 #[.slice A xs.length c, .func (.func g) ba lb] w fun e w' => e = .returned (.bool (xs.all p)) ∧ Below w.heap.size w w' := by
  have hb0 : Below w.heap.size w (w.alloc (.cells #[.func (.func g) ba lb] 125)) := (Below.refl _ w).alloc (Nat.le_refl _) _
  have hcell : (w.alloc (.cells #[.func (.func g) ba lb] 125)).cell? ⟨w.heap.size, 0, none⟩ = some (.func (.func g) ba lb) := by simp
  have H1 := Aside0.mk (contains115 116 #[] #[.pointer (some ⟨w.heap.size, 0, none⟩)] (fun x => !p x) (enters_of Try.func116 (by kernel_rfl) rfl) A c xs _ (Kd.C_below hr hb0) (not116 g ba lb p eg xs _ _ hcell (hp.later hb0)))
  have HB0 := Aside0.mk hb0
  clear hr hp eg hb0 hcell
  go_enter Try.func66, Try.ntmps66
  go_wp2_with fail
  refine H1.out.mono ?_
  rintro e w' ⟨rfl, hb'⟩
  have HB' := Aside0.mk hb'
  clear hb'
  go_wp2_with fail
  go_ret
  refine ⟨?_, below_then HB0.out HB0.out.size HB'.out⟩
  rw [List.all_eq_not_any_not]
  rfl
set_option maxHeartbeats 1000000 in
theorem index157 (g : Nat) (ba lb : Array Value) (p : S119 → Bool) (eg : ∀ args w, (callFunc g args).run Try.prog w = .ok (.enter g args) w) (A : Option Addr) (c : Nat) (xs : List S119) (w : World)
    (hr : Kd.C k119 w A xs.length xs) (hp : TestAt g ba lb encLeg p xs w) :
    Calls Try.prog 157 #[.slice A xs.length c, .func (.func g) ba lb] w fun e w' => e = .returned (.int .i64 (idxP p xs 0)) ∧ Below w.heap.size w w' := by
  have hmax := hr.2.1
  have HR := Aside0.mk hr
  have HP := Aside0.mk hp
  clear hr hp
  go_enter Try.func157, Try.ntmps157
  go_wp2
  go_loopg [5, 8] xs.length (fun gg _ s8 wr => ∃ kk : Nat, kk ≤ xs.length ∧ xs.length - kk ≤ gg ∧ s8 = .int .i64 kk ∧ Aside0 (Below w.heap.size w wr) ∧ Aside0 (∀ j, j < kk → p (xs.getD j z119) = false))
  case atStart => exact ⟨0, Nat.zero_le _, by omega, rfl, ⟨Below.refl _ w⟩, ⟨fun j hj => absurd hj (Nat.not_lt_zero _)⟩⟩
  case round =>
    obtain ⟨kk, hkk, hg, rfl, BW, AA⟩ := hrel
    by_cases hlt : kk < xs.length
    · have hltz : (kk : Int) < (xs.length : Int) := by omega
      obtain ⟨ad, A0, c0, e0, h0, h1, h2, l0, g0⟩ := at_T119 HR.out (kk : Int) (by omega) hltz
      cases e0
      rw [Int.toNat_natCast] at h0 h1 h2
      replace h0 := (BW.out.cell (World.block_lt_of_cell? w _ h0)).trans h0
      replace h1 := (BW.out.cell (World.block_lt_of_cell? w _ h1)).trans h1
      replace h2 := (BW.out.cell (World.block_lt_of_cell? w _ h2)).trans h2
      have hcall := HP.out wr (rd_T119 xs kk) _ BW.out (by unfold rd_T119; rw [Int.toNat_natCast, List.getD_eq_getElem?_getD, List.getElem?_eq_getElem hlt]; exact List.getElem_mem hlt) ⟨A0, c0, rfl, l0, Kd.C_below g0 BW.out⟩
      have hy : rd_T119 xs kk = xs.getD kk z119 := by unfold rd_T119; rw [Int.toNat_natCast]
      clear l0 g0
      generalize rd_T119 xs kk = y at h0 h1 h2 hcall hy
      have HY := Aside0.mk hy
      clear hy
      cases hq : p y with
      | true =>
        rw [hq] at hcall
        have HC := Aside0.mk hcall
        clear hcall
        have HQ := Aside0.mk hq
        clear hq
        go_wp2_with fail
        refine HC.out.mono ?_
        rintro e w' ⟨rfl, hb'⟩
        have HB' := Aside0.mk hb'
        clear hb'
        go_wp2_with fail
        go_ret
        refine ⟨?_, below_then BW.out BW.out.size HB'.out⟩
        rw [idxP_hit p z119 xs kk 0 hlt AA.out (by rw [← HY.out]; exact HQ.out)]
        simp
      | false =>
        rw [hq] at hcall
        have HC := Aside0.mk hcall
        clear hcall
        have HQ := Aside0.mk hq
        clear hq
        go_wp2_with fail
        refine HC.out.mono ?_
        rintro e w' ⟨rfl, hb'⟩
        have HB' := Aside0.mk hb'
        clear hb'
        go_wp2_with fail
        go_roundg (xs.length - (kk + 1))
        case measure => omega
        case rel =>
          refine ⟨kk + 1, by omega, by omega, by go_num, ⟨below_then BW.out BW.out.size HB'.out⟩, ⟨fun j hj => ?_⟩⟩
          by_cases e : j = kk
          · subst e
            rw [← HY.out]; exact HQ.out
          · exact AA.out j (by omega)
    · have hltz : ¬ (kk : Int) < (xs.length : Int) := by omega
      have : kk = xs.length := by omega
      subst this
      go_wp2
      go_ret
      refine ⟨?_, BW.out⟩
      rw [idxP_miss p z119 xs 0 AA.out]
      rfl
set_option maxHeartbeats 400000 in
theorem contains144 (g : Nat) (ba lb : Array Value) (p : S119 → Bool) (eg : ∀ args w, (callFunc g args).run Try.prog w = .ok (.enter g args) w) (A : Option Addr) (c : Nat) (xs : List S119) (w : World)
    (hr : Kd.C k119 w A xs.length xs) (hp : TestAt g ba lb encLeg p xs w) :
    Calls Try.prog 144 #[.slice A xs.length c, .func (.func g) ba lb] w fun e w' => e = .returned (.bool (xs.any p)) ∧ Below w.heap.size w w' := by
  have H1 := Aside0.mk (index157 g ba lb p eg A c xs w hr hp)
  clear hr hp eg
  go_enter Try.func144, Try.ntmps144
  go_wp2_with fail
  refine H1.out.mono ?_
  rintro e w' ⟨rfl, hb'⟩
  have HB' := Aside0.mk hb'
  clear hb'
  go_wp2_with fail
  go_ret
  refine ⟨?_, HB'.out⟩
  have h := idxP_any p xs 0 (by omega)
  cases hx : xs.any p <;> simp [hx] at h <;> simp [h]
/-- What is handed to ContainsFunc by all: the test's contrary. -/
theorem not145 (g : Nat) (ba lb : Array Value) (p : S119 → Bool) (eg : ∀ args w, (callFunc g args).run Try.prog w = .ok (.enter g args) w) (xs : List S119) (w : World) (B : Nat)
    (hB : w.cell? ⟨B, 0, none⟩ = some (.func (.func g) ba lb)) (hp : TestAt g ba lb encLeg p xs w) : TestAt 145 #[] #[.pointer (some ⟨B, 0, none⟩)] encLeg (fun x => !p x) xs w := by
  intro W x v hW hx he
  obtain ⟨A0, c0, rfl, l0, g0⟩ := he
  have hb0 : Below W.heap.size W (W.alloc (.cells #[.int .i64 x.f0.f0, .int .i64 x.f0.f1, .slice A0 x.f1.length c0] 119)) := (Below.refl _ W).alloc (Nat.le_refl _) _
  have hc := (hb0.cell (p := ⟨B, 0, none⟩) (World.block_lt_of_cell? W _ ((hW.cell (World.block_lt_of_cell? w _ hB)).trans hB))).trans ((hW.cell (World.block_lt_of_cell? w _ hB)).trans hB)
  have H1 := Aside0.mk (hp (W.alloc (.cells #[.int .i64 x.f0.f0, .int .i64 x.f0.f1, .slice A0 x.f1.length c0] 119)) x (.agg #[.int .i64 x.f0.f0, .int .i64 x.f0.f1, .slice A0 x.f1.length c0]) (hW.trans (hb0.mono hW.size)) hx ⟨A0, c0, rfl, l0, Kd.C_below g0 ((Below.refl _ W).alloc (Nat.le_refl _) _)⟩)
  have HB0 := Aside0.mk hb0
  clear hp hB hb0 l0 g0
  show Calls Try.prog 145 #[.agg #[.int .i64 x.f0.f0, .int .i64 x.f0.f1, .slice A0 x.f1.length c0], .pointer (some ⟨B, 0, none⟩)] W _
  go_enter Try.func145, Try.ntmps145
  go_wp2_with fail
  refine H1.out.mono ?_
  rintro e w' ⟨rfl, hb'⟩
  have HB' := Aside0.mk hb'
  clear hb'
  go_wp2_with fail
  go_ret
  exact ⟨rfl, below_then HB0.out HB0.out.size HB'.out⟩
set_option maxHeartbeats 400000 in
theorem all117 (g : Nat) (ba lb : Array Value) (p : S119 → Bool) (eg : ∀ args w, (callFunc g args).run Try.prog w = .ok (.enter g args) w) (A : Option Addr) (c : Nat) (xs : List S119) (w : World)
    (hr : Kd.C k119 w A xs.length xs) (hp : TestAt g ba lb encLeg p xs w) :
    Calls Try.prog 117 #[.slice A xs.length c, .func (.func g) ba lb] w fun e w' => e = .returned (.bool (xs.all p)) ∧ Below w.heap.size w w' := by
  have hb0 : Below w.heap.size w (w.alloc (.cells #[.func (.func g) ba lb] 176)) := (Below.refl _ w).alloc (Nat.le_refl _) _
  have hcell : (w.alloc (.cells #[.func (.func g) ba lb] 176)).cell? ⟨w.heap.size, 0, none⟩ = some (.func (.func g) ba lb) := by simp
  have H1 := Aside0.mk (contains144 145 #[] #[.pointer (some ⟨w.heap.size, 0, none⟩)] (fun x => !p x) (enters_of Try.func145 (by kernel_rfl) rfl) A c xs _ (Kd.C_below hr hb0) (not145 g ba lb p eg xs _ _ hcell (hp.later hb0)))
  have HB0 := Aside0.mk hb0
  clear hr hp eg hb0 hcell
  go_enter Try.func117, Try.ntmps117
  go_wp2_with fail
  refine H1.out.mono ?_
  rintro e w' ⟨rfl, hb'⟩
  have HB' := Aside0.mk hb'
  clear hb'
  go_wp2_with fail
  go_ret
  refine ⟨?_, below_then HB0.out HB0.out.size HB'.out⟩
  rw [List.all_eq_not_any_not]
  rfl
set_option maxHeartbeats 1000000 in
theorem index135 (g : Nat) (ba lb : Array Value) (p : Int → Bool) (eg : ∀ args w, (callFunc g args).run Try.prog w = .ok (.enter g args) w) (A : Option Addr) (c : Nat) (xs : List Int) (w : World)
    (hr : Kd.C (Kd.int .i64) w A xs.length xs) (hp : TestAt g ba lb encInt p xs w) :
    Calls Try.prog 135 #[.slice A xs.length c, .func (.func g) ba lb] w fun e w' => e = .returned (.int .i64 (idxP p xs 0)) ∧ Below w.heap.size w w' := by
  have hmax := hr.2.1
  have HR := Aside0.mk hr
  have HP := Aside0.mk hp
  clear hr hp
  go_enter Try.func135, Try.ntmps135
  go_wp2
  go_loopg [5, 8] xs.length (fun gg _ s8 wr => ∃ kk : Nat, kk ≤ xs.length ∧ xs.length - kk ≤ gg ∧ s8 = .int .i64 kk ∧ Aside0 (Below w.heap.size w wr) ∧ Aside0 (∀ j, j < kk → p (xs.getD j (0 : Int)) = false))
  case atStart => exact ⟨0, Nat.zero_le _, by omega, rfl, ⟨Below.refl _ w⟩, ⟨fun j hj => absurd hj (Nat.not_lt_zero _)⟩⟩
  case round =>
    obtain ⟨kk, hkk, hg, rfl, BW, AA⟩ := hrel
    by_cases hlt : kk < xs.length
    · have hltz : (kk : Int) < (xs.length : Int) := by omega
      obtain ⟨ad, e0, h0⟩ := Kd.at_int HR.out (kk : Int) (by omega) hltz
      cases e0
      rw [Int.toNat_natCast] at h0
      replace h0 := (BW.out.cell (World.block_lt_of_cell? w _ h0)).trans h0
      have hcall := HP.out wr (rd xs kk) _ BW.out (by unfold rd; rw [Int.toNat_natCast, List.getD_eq_getElem?_getD, List.getElem?_eq_getElem hlt]; exact List.getElem_mem hlt) rfl
      have hy : rd xs kk = xs.getD kk (0 : Int) := by unfold rd; rw [Int.toNat_natCast]
      generalize rd xs kk = y at h0 hcall hy
      have HY := Aside0.mk hy
      clear hy
      cases hq : p y with
      | true =>
        rw [hq] at hcall
        have HC := Aside0.mk hcall
        clear hcall
        have HQ := Aside0.mk hq
        clear hq
        go_wp2_with fail
        refine HC.out.mono ?_
        rintro e w' ⟨rfl, hb'⟩
        have HB' := Aside0.mk hb'
        clear hb'
        go_wp2_with fail
        go_ret
        refine ⟨?_, below_then BW.out BW.out.size HB'.out⟩
        rw [idxP_hit p (0 : Int) xs kk 0 hlt AA.out (by rw [← HY.out]; exact HQ.out)]
        simp
      | false =>
        rw [hq] at hcall
        have HC := Aside0.mk hcall
        clear hcall
        have HQ := Aside0.mk hq
        clear hq
        go_wp2_with fail
        refine HC.out.mono ?_
        rintro e w' ⟨rfl, hb'⟩
        have HB' := Aside0.mk hb'
        clear hb'
        go_wp2_with fail
        go_roundg (xs.length - (kk + 1))
        case measure => omega
        case rel =>
          refine ⟨kk + 1, by omega, by omega, by go_num, ⟨below_then BW.out BW.out.size HB'.out⟩, ⟨fun j hj => ?_⟩⟩
          by_cases e : j = kk
          · subst e
            rw [← HY.out]; exact HQ.out
          · exact AA.out j (by omega)
    · have hltz : ¬ (kk : Int) < (xs.length : Int) := by omega
      have : kk = xs.length := by omega
      subst this
      go_wp2
      go_ret
      refine ⟨?_, BW.out⟩
      rw [idxP_miss p (0 : Int) xs 0 AA.out]
      rfl
set_option maxHeartbeats 400000 in
theorem contains119 (g : Nat) (ba lb : Array Value) (p : Int → Bool) (eg : ∀ args w, (callFunc g args).run Try.prog w = .ok (.enter g args) w) (A : Option Addr) (c : Nat) (xs : List Int) (w : World)
    (hr : Kd.C (Kd.int .i64) w A xs.length xs) (hp : TestAt g ba lb encInt p xs w) :
    Calls Try.prog 119 #[.slice A xs.length c, .func (.func g) ba lb] w fun e w' => e = .returned (.bool (xs.any p)) ∧ Below w.heap.size w w' := by
  have H1 := Aside0.mk (index135 g ba lb p eg A c xs w hr hp)
  clear hr hp eg
  go_enter Try.func119, Try.ntmps119
  go_wp2_with fail
  refine H1.out.mono ?_
  rintro e w' ⟨rfl, hb'⟩
  have HB' := Aside0.mk hb'
  clear hb'
  go_wp2_with fail
  go_ret
  refine ⟨?_, HB'.out⟩
  have h := idxP_any p xs 0 (by omega)
  cases hx : xs.any p <;> simp [hx] at h <;> simp [h]
/-- What is handed to ContainsFunc by all: the test's contrary. -/
theorem not120 (g : Nat) (ba lb : Array Value) (p : Int → Bool) (eg : ∀ args w, (callFunc g args).run Try.prog w = .ok (.enter g args) w) (xs : List Int) (w : World) (B : Nat)
    (hB : w.cell? ⟨B, 0, none⟩ = some (.func (.func g) ba lb)) (hp : TestAt g ba lb encInt p xs w) : TestAt 120 #[] #[.pointer (some ⟨B, 0, none⟩)] encInt (fun x => !p x) xs w := by
  intro W x v hW hx he
  have hc := (hW.cell (World.block_lt_of_cell? w _ hB)).trans hB
  have H1 := Aside0.mk (hp W x v hW hx he)
  obtain rfl := he
  clear hp hB
  show Calls Try.prog 120 #[.int .i64 x, .pointer (some ⟨B, 0, none⟩)] W _
  go_enter Try.func120, Try.ntmps120
  go_wp2_with fail
  refine H1.out.mono ?_
  rintro e w' ⟨rfl, hb'⟩
  have HB' := Aside0.mk hb'
  clear hb'
  go_wp2_with fail
  go_ret
  exact ⟨rfl, HB'.out⟩
set_option maxHeartbeats 400000 in
theorem all68 (g : Nat) (ba lb : Array Value) (p : Int → Bool) (eg : ∀ args w, (callFunc g args).run Try.prog w = .ok (.enter g args) w) (A : Option Addr) (c : Nat) (xs : List Int) (w : World)
    (hr : Kd.C (Kd.int .i64) w A xs.length xs) (hp : TestAt g ba lb encInt p xs w) :
    Calls Try.prog 68 #[.slice A xs.length c, .func (.func g) ba lb] w fun e w' => e = .returned (.bool (xs.all p)) ∧ Below w.heap.size w w' := by
  have hb0 : Below w.heap.size w (w.alloc (.cells #[.func (.func g) ba lb] 123)) := (Below.refl _ w).alloc (Nat.le_refl _) _
  have hcell : (w.alloc (.cells #[.func (.func g) ba lb] 123)).cell? ⟨w.heap.size, 0, none⟩ = some (.func (.func g) ba lb) := by simp
  have H1 := Aside0.mk (contains119 120 #[] #[.pointer (some ⟨w.heap.size, 0, none⟩)] (fun x => !p x) (enters_of Try.func120 (by kernel_rfl) rfl) A c xs _ (Kd.C_below hr hb0) (not120 g ba lb p eg xs _ _ hcell (hp.later hb0)))
  have HB0 := Aside0.mk hb0
  clear hr hp eg hb0 hcell
  go_enter Try.func68, Try.ntmps68
  go_wp2_with fail
  refine H1.out.mono ?_
  rintro e w' ⟨rfl, hb'⟩
  have HB' := Aside0.mk hb'
  clear hb'
  go_wp2_with fail
  go_ret
  refine ⟨?_, below_then HB0.out HB0.out.size HB'.out⟩
  rw [List.all_eq_not_any_not]
  rfl
set_option maxHeartbeats 1000000 in
theorem index156 (g : Nat) (ba lb : Array Value) (p : S87 → Bool) (eg : ∀ args w, (callFunc g args).run Try.prog w = .ok (.enter g args) w) (A : Option Addr) (c : Nat) (xs : List S87) (w : World)
    (hr : Kd.C k87 w A xs.length xs) (hp : TestAt g ba lb encEntry p xs w) :
    Calls Try.prog 156 #[.slice A xs.length c, .func (.func g) ba lb] w fun e w' => e = .returned (.int .i64 (idxP p xs 0)) ∧ Below w.heap.size w w' := by
  have hmax := hr.2.1
  have HR := Aside0.mk hr
  have HP := Aside0.mk hp
  clear hr hp
  go_enter Try.func156, Try.ntmps156
  go_wp2
  go_loopg [5, 8] xs.length (fun gg _ s8 wr => ∃ kk : Nat, kk ≤ xs.length ∧ xs.length - kk ≤ gg ∧ s8 = .int .i64 kk ∧ Aside0 (Below w.heap.size w wr) ∧ Aside0 (∀ j, j < kk → p (xs.getD j z87) = false))
  case atStart => exact ⟨0, Nat.zero_le _, by omega, rfl, ⟨Below.refl _ w⟩, ⟨fun j hj => absurd hj (Nat.not_lt_zero _)⟩⟩
  case round =>
    obtain ⟨kk, hkk, hg, rfl, BW, AA⟩ := hrel
    by_cases hlt : kk < xs.length
    · have hltz : (kk : Int) < (xs.length : Int) := by omega
      obtain ⟨ad, e0, h0, h1, h2⟩ := at_T87 HR.out (kk : Int) (by omega) hltz
      cases e0
      rw [Int.toNat_natCast] at h0 h1 h2
      replace h0 := (BW.out.cell (World.block_lt_of_cell? w _ h0)).trans h0
      replace h1 := (BW.out.cell (World.block_lt_of_cell? w _ h1)).trans h1
      replace h2 := (BW.out.cell (World.block_lt_of_cell? w _ h2)).trans h2
      have hcall := HP.out wr (rd_T87 xs kk) _ BW.out (by unfold rd_T87; rw [Int.toNat_natCast, List.getD_eq_getElem?_getD, List.getElem?_eq_getElem hlt]; exact List.getElem_mem hlt) rfl
      have hy : rd_T87 xs kk = xs.getD kk z87 := by unfold rd_T87; rw [Int.toNat_natCast]
      generalize rd_T87 xs kk = y at h0 h1 h2 hcall hy
      have HY := Aside0.mk hy
      clear hy
      cases hq : p y with
      | true =>
        rw [hq] at hcall
        have HC := Aside0.mk hcall
        clear hcall
        have HQ := Aside0.mk hq
        clear hq
        go_wp2_with fail
        refine HC.out.mono ?_
        rintro e w' ⟨rfl, hb'⟩
        have HB' := Aside0.mk hb'
        clear hb'
        go_wp2_with fail
        go_ret
        refine ⟨?_, below_then BW.out BW.out.size HB'.out⟩
        rw [idxP_hit p z87 xs kk 0 hlt AA.out (by rw [← HY.out]; exact HQ.out)]
        simp
      | false =>
        rw [hq] at hcall
        have HC := Aside0.mk hcall
        clear hcall
        have HQ := Aside0.mk hq
        clear hq
        go_wp2_with fail
        refine HC.out.mono ?_
        rintro e w' ⟨rfl, hb'⟩
        have HB' := Aside0.mk hb'
        clear hb'
        go_wp2_with fail
        go_roundg (xs.length - (kk + 1))
        case measure => omega
        case rel =>
          refine ⟨kk + 1, by omega, by omega, by go_num, ⟨below_then BW.out BW.out.size HB'.out⟩, ⟨fun j hj => ?_⟩⟩
          by_cases e : j = kk
          · subst e
            rw [← HY.out]; exact HQ.out
          · exact AA.out j (by omega)
    · have hltz : ¬ (kk : Int) < (xs.length : Int) := by omega
      have : kk = xs.length := by omega
      subst this
      go_wp2
      go_ret
      refine ⟨?_, BW.out⟩
      rw [idxP_miss p z87 xs 0 AA.out]
      rfl
set_option maxHeartbeats 400000 in
theorem contains140 (g : Nat) (ba lb : Array Value) (p : S87 → Bool) (eg : ∀ args w, (callFunc g args).run Try.prog w = .ok (.enter g args) w) (A : Option Addr) (c : Nat) (xs : List S87) (w : World)
    (hr : Kd.C k87 w A xs.length xs) (hp : TestAt g ba lb encEntry p xs w) :
    Calls Try.prog 140 #[.slice A xs.length c, .func (.func g) ba lb] w fun e w' => e = .returned (.bool (xs.any p)) ∧ Below w.heap.size w w' := by
  have H1 := Aside0.mk (index156 g ba lb p eg A c xs w hr hp)
  clear hr hp eg
  go_enter Try.func140, Try.ntmps140
  go_wp2_with fail
  refine H1.out.mono ?_
  rintro e w' ⟨rfl, hb'⟩
  have HB' := Aside0.mk hb'
  clear hb'
  go_wp2_with fail
  go_ret
  refine ⟨?_, HB'.out⟩
  have h := idxP_any p xs 0 (by omega)
  cases hx : xs.any p <;> simp [hx] at h <;> simp [h]
/-- What is handed to ContainsFunc by all: the test's contrary. -/
theorem not142 (g : Nat) (ba lb : Array Value) (p : S87 → Bool) (eg : ∀ args w, (callFunc g args).run Try.prog w = .ok (.enter g args) w) (xs : List S87) (w : World) (B : Nat)
    (hB : w.cell? ⟨B, 0, none⟩ = some (.func (.func g) ba lb)) (hp : TestAt g ba lb encEntry p xs w) : TestAt 142 #[] #[.pointer (some ⟨B, 0, none⟩)] encEntry (fun x => !p x) xs w := by
  intro W x v hW hx he
  obtain rfl := he
  have hb0 : Below W.heap.size W (W.alloc (.cells #[.int .i64 x.f0, .int .i64 x.f1, .bool x.f2] 87)) := (Below.refl _ W).alloc (Nat.le_refl _) _
  have hc := (hb0.cell (p := ⟨B, 0, none⟩) (World.block_lt_of_cell? W _ ((hW.cell (World.block_lt_of_cell? w _ hB)).trans hB))).trans ((hW.cell (World.block_lt_of_cell? w _ hB)).trans hB)
  have H1 := Aside0.mk (hp (W.alloc (.cells #[.int .i64 x.f0, .int .i64 x.f1, .bool x.f2] 87)) x (.agg #[.int .i64 x.f0, .int .i64 x.f1, .bool x.f2]) (hW.trans (hb0.mono hW.size)) hx rfl)
  have HB0 := Aside0.mk hb0
  clear hp hB hb0 
  show Calls Try.prog 142 #[.agg #[.int .i64 x.f0, .int .i64 x.f1, .bool x.f2], .pointer (some ⟨B, 0, none⟩)] W _
  go_enter Try.func142, Try.ntmps142
  go_wp2_with fail
  refine H1.out.mono ?_
  rintro e w' ⟨rfl, hb'⟩
  have HB' := Aside0.mk hb'
  clear hb'
  go_wp2_with fail
  go_ret
  exact ⟨rfl, below_then HB0.out HB0.out.size HB'.out⟩
set_option maxHeartbeats 400000 in
theorem all113 (g : Nat) (ba lb : Array Value) (p : S87 → Bool) (eg : ∀ args w, (callFunc g args).run Try.prog w = .ok (.enter g args) w) (A : Option Addr) (c : Nat) (xs : List S87) (w : World)
    (hr : Kd.C k87 w A xs.length xs) (hp : TestAt g ba lb encEntry p xs w) :
    Calls Try.prog 113 #[.slice A xs.length c, .func (.func g) ba lb] w fun e w' => e = .returned (.bool (xs.all p)) ∧ Below w.heap.size w w' := by
  have hb0 : Below w.heap.size w (w.alloc (.cells #[.func (.func g) ba lb] 174)) := (Below.refl _ w).alloc (Nat.le_refl _) _
  have hcell : (w.alloc (.cells #[.func (.func g) ba lb] 174)).cell? ⟨w.heap.size, 0, none⟩ = some (.func (.func g) ba lb) := by simp
  have H1 := Aside0.mk (contains140 142 #[] #[.pointer (some ⟨w.heap.size, 0, none⟩)] (fun x => !p x) (enters_of Try.func142 (by kernel_rfl) rfl) A c xs _ (Kd.C_below hr hb0) (not142 g ba lb p eg xs _ _ hcell (hp.later hb0)))
  have HB0 := Aside0.mk hb0
  clear hr hp eg hb0 hcell
  go_enter Try.func113, Try.ntmps113
  go_wp2_with fail
  refine H1.out.mono ?_
  rintro e w' ⟨rfl, hb'⟩
  have HB' := Aside0.mk hb'
  clear hb'
  go_wp2_with fail
  go_ret
  refine ⟨?_, below_then HB0.out HB0.out.size HB'.out⟩
  rw [List.all_eq_not_any_not]
  rfl
end Go.Proofs.Ytiephlhohgohcaa.PAll
namespace Go.Proofs.Ytiephlhohgohcaa.PAll
open Go.RowKit Go.Proofs.YtiephlhohgohcaaW.PrintWords Go.Proofs.YtiephlhohgohcaaW.PrintLast Go.Proofs.YtiephlhohgohcaaW.PrintMore
set_option linter.unusedVariables false
set_option linter.unusedSimpArgs false
theorem test152 (xs : List S68) (h : Int) (B : Nat) (w : World) (hc : w.cell? ⟨B, 0, none⟩ = some (.int .i64 h)) : TestAt 152 #[] #[.pointer (some ⟨B, 0, none⟩)] encRange (fun r => inB r.f0 r.f1 h) xs w := by
  rintro W x v hW _ rfl
  exact awake1_any x.f0 x.f1 h B W ((hW.cell (World.block_lt_of_cell? w _ hc)).trans hc)
set_option maxHeartbeats 1000000 in
theorem awake126 (x : S119) (A : Option Addr) (c : Nat) (h : Int) (w : World) (hr : Kd.C k68 w A x.f1.length x.f1) (hl : Wakes x) (h0 : 0 ≤ h) (h1 : h ≤ 1000) :
    Calls Try.prog 126 #[.agg #[.int .i64 x.f0.f0, .int .i64 x.f0.f1, .slice A x.f1.length c], .int .i64 h] w fun e w' => e = .returned (.int .i64 (awakeL x h)) ∧ Below w.heap.size w w' := by
  have HR := Aside0.mk hr
  have HL := Aside0.mk hl
  clear hr hl
  obtain ⟨W1, hW1⟩ : ∃ W1, W1 = (w.alloc (.cells #[.int .i64 x.f0.f0, .int .i64 x.f0.f1, .slice A x.f1.length c] 119)).alloc (.cells #[.int .i64 h] 3) := ⟨_, rfl⟩
  have HB0 := Aside0.mk (show Below w.heap.size w W1 from hW1 ▸ ((Below.refl _ w).alloc (Nat.le_refl _) _).alloc (by simp) _)
  have HK0 := Aside0.mk (show W1.heap[w.heap.size]? = some (.cells #[.int .i64 x.f0.f0, .int .i64 x.f0.f1, .slice A x.f1.length c] 119 (0, 0)) from hW1 ▸ blk_alloc (blk_new _ _) _)
  have HK1 := Aside0.mk (show W1.heap[w.heap.size + 1]? = some (.cells #[.int .i64 h] 3 (0, 0)) from hW1 ▸ (by have := blk_new (w.alloc (.cells #[.int .i64 x.f0.f0, .int .i64 x.f0.f1, .slice A x.f1.length c] 119)) (.cells #[.int .i64 h] 3); rwa [World.size_alloc] at this))
  have HW1 := Aside0.mk hW1
  clear hW1
  go_enter Try.func126, Try.ntmps126
  go_wp2_with fail
  rw [← HW1.out]
  go_loopg [5] 40 (fun gg _ wr => ∃ n : Nat, 40 - n ≤ gg ∧ h + n ≤ max h 31 ∧ Aside0 (∀ j : Nat, j < n → asleepAt x (h + j) = true) ∧ Aside0 (wr.heap[w.heap.size]? = some (.cells #[.int .i64 x.f0.f0, .int .i64 x.f0.f1, .slice A x.f1.length c] 119 (0, 0))) ∧ Aside0 (wr.heap[w.heap.size + 1]? = some (.cells #[.int .i64 (h + n)] 3 (0, 0))) ∧ Aside0 (Below w.heap.size w wr))
  case atStart => exact ⟨0, by omega, by omega, ⟨fun j hj => absurd hj (Nat.not_lt_zero _)⟩, HK0, ⟨by simpa using HK1.out⟩, HB0⟩
  case round =>
    obtain ⟨n, hg, hn, HA, K0, K1, HB⟩ := hrel
    clear HK0 HK1 HW1 HB0
    have c2 : wr.cell? ⟨w.heap.size, 2, none⟩ = some (.slice A x.f1.length c) := (blk_cell K0.out 2).trans rfl
    have c3 : wr.cell? ⟨w.heap.size + 1, 0, none⟩ = some (.int .i64 (h + n)) := (blk_cell K1.out 0).trans rfl
    have hcon := contains151 152 #[] #[.pointer (some ⟨w.heap.size + 1, 0, none⟩)] (fun r => inB r.f0 r.f1 (h + n)) (enters_of Try.func152 (by kernel_rfl) rfl) A c x.f1 wr (Kd.C_below HR.out HB.out) (test152 x.f1 (h + n) _ wr c3)
    cases hq : asleepAt x (h + n) with
    | true =>
      rw [show (x.f1.any fun r => inB r.f0 r.f1 (h + n)) = true from hq] at hcon
      have h30 := asleep_le HL.out hq
      have HC := Aside0.mk hcon
      have HQ := Aside0.mk hq
      clear hcon hq
      go_wp2_with fail
      refine HC.out.mono ?_
      rintro e w2 ⟨rfl, hb'⟩
      have HB2 := Aside0.mk hb'
      have K0' := Aside0.mk (blk_below K0.out hb')
      have K1' := Aside0.mk (blk_below K1.out hb')
      clear hb' c2 c3
      have c3 : w2.cell? ⟨w.heap.size + 1, 0, none⟩ = some (.int .i64 (h + n)) := (blk_cell K1'.out 0).trans rfl
      have f3 := blk_frozen K1'.out 0
      go_wp2_with fail
      go_roundg (40 - (n + 1))
      case measure => omega
      case rel =>
        refine ⟨n + 1, by omega, by omega, ⟨fun j hj => ?_⟩, ⟨?_⟩, ⟨?_⟩, ⟨?_⟩⟩
        · by_cases e : j = n
          · rw [e]; exact HQ.out
          · exact HA.out j (by omega)
        · exact blk_far K0'.out (by simp) _
        · have := blk_set K1'.out 0 (.int .i64 (h + (n : Int) + 1))
          rw [this]
          simp [Int.add_assoc]
        · exact (below_then HB.out HB.out.size HB2.out).setCell (by simp) _
    | false =>
      rw [show (x.f1.any fun r => inB r.f0 r.f1 (h + n)) = false from hq] at hcon
      have HC := Aside0.mk hcon
      have HQ := Aside0.mk hq
      clear hcon hq
      go_wp2_with fail
      refine HC.out.mono ?_
      rintro e w2 ⟨rfl, hb'⟩
      have HB2 := Aside0.mk hb'
      have K1' := Aside0.mk (blk_below K1.out hb')
      clear hb' c2 c3
      have c3 : w2.cell? ⟨w.heap.size + 1, 0, none⟩ = some (.int .i64 (h + n)) := (blk_cell K1'.out 0).trans rfl
      go_wp2_with fail
      go_ret
      refine ⟨?_, below_then HB.out HB.out.size HB2.out⟩
      rw [awakeL, awakeF_of x n 40 h (by omega) HA.out HQ.out]
      rfl
end Go.Proofs.Ytiephlhohgohcaa.PAll
namespace Go.Proofs.Ytiephlhohgohcaa.PAll
open Go.RowKit Go.Proofs.YtiephlhohgohcaaW.PrintWords Go.Proofs.YtiephlhohgohcaaW.PrintLast Go.Proofs.YtiephlhohgohcaaW.PrintMore
attribute [local go_sem] max2_int min2_int max_two min_two max_three min_three max_four min_four
set_option linter.unusedVariables false
set_option linter.unusedSimpArgs false
set_option maxHeartbeats 1000000 in
theorem min149 (a b : Int) (g c : Nat) (w : World) (h0 : w.cell? ⟨g, 0, none⟩ = some (.int .i64 a)) (h1 : w.cell? ⟨g, 1, none⟩ = some (.int .i64 b)) :
    Calls Try.prog 149 #[.slice (some ⟨g, 0, none⟩) 2 c] w fun e w' => e = .returned (.int .i64 (min a b)) ∧ Below w.heap.size w w' := by
  go_enter Try.func149, Try.ntmps149
  go_wp2
  go_loopg [3, 4] 3 (fun gg s3 s4 wr => ∃ k : Nat, 1 ≤ k ∧ k ≤ 2 ∧ 3 - k ≤ gg ∧ s4 = .int .i64 k ∧ s3 = .int .i64 (if k = 1 then a else min a b) ∧ wr = w)
  case atStart => exact ⟨1, by omega, by omega, by omega, rfl, by simp, rfl⟩
  case round =>
    obtain ⟨k, hk1, hk2, hg, rfl, rfl, rfl⟩ := hrel
    rcases (show k = 1 ∨ k = 2 by omega) with rfl | rfl
    · by_cases hba : b < a
      · go_wp2
        go_roundg (3 - 2)
        case measure => omega
        case rel => exact ⟨2, by omega, by omega, by omega, rfl, by simp; omega, rfl⟩
      · go_wp2
        go_roundg (3 - 2)
        case measure => omega
        case rel => exact ⟨2, by omega, by omega, by omega, rfl, by simp; omega, rfl⟩
    · go_wp2
      go_ret
      exact ⟨by simp, Below.refl _ _⟩
theorem smallest122 (a b : Int) (g c : Nat) (w : World) (h0 : w.cell? ⟨g, 0, none⟩ = some (.int .i64 a)) (h1 : w.cell? ⟨g, 1, none⟩ = some (.int .i64 b)) :
    Calls Try.prog 122 #[.slice (some ⟨g, 0, none⟩) 2 c] w fun e w' => e = .returned (.int .i64 (min a b)) ∧ Below w.heap.size w w' := by
  have H := Aside0.mk (min149 a b g c w h0 h1)
  clear h0 h1
  go_enter Try.func122, Try.ntmps122
  go_wp2_with fail
  refine H.out.mono ?_
  rintro e w' ⟨rfl, hb'⟩
  have HB' := Aside0.mk hb'
  clear hb'
  go_wp2_with fail
  go_ret
  exact ⟨rfl, HB'.out⟩
/-- smallest(a, b), the list laid by the caller. -/
theorem smallest_two (a b : Int) (w : World) :
    Calls Try.prog 122 #[.slice (some ⟨w.heap.size, 0, none⟩) 2 2] (w.alloc (.cells #[.int .i64 a, .int .i64 b] 3)) fun e w' => e = .returned (.int .i64 (min a b)) ∧ Below w.heap.size w w' :=
  (smallest122 a b w.heap.size 2 _ (by simp) (by simp)).mono fun _ _ h => ⟨h.1, below_then ((Below.refl _ w).alloc (Nat.le_refl _) _) (by simp) h.2⟩
theorem deadline84 (A0 : Option Addr) (c0 : Nat) (sends : List Int) (A1 : Option Addr) (c1 : Nat) (routes : List S122) (pat n : Int) (w : World) (h0 : Kd.C (Kd.int .i64) w A0 sends.length sends) (l0 : sends.length ≤ c0) (h1 : Kd.C k122 w A1 routes.length routes) (l1 : routes.length ≤ c1)
    (n0 : 0 ≤ n) (n1 : n < sends.length) :
    Calls Try.prog 84 #[.agg #[.slice A0 sends.length c0, .slice A1 routes.length c1, .int .i64 pat], .int .i64 n] w fun e w' => e = .returned (.int .i64 (wrap64 (rd sends n + pat))) ∧ Below w.heap.size w w' :=
  copies_Post_deadline.calls A0 c0 sends A1 c1 routes pat n _ w h0 l0 h1 l1 (by unfold copies_Post_deadline.f; rw [if_pos n0, if_pos n1])
set_option maxHeartbeats 1000000 in
theorem receive124 (A0 : Option Addr) (c0 : Nat) (sends : List Int) (A1 : Option Addr) (c1 : Nat) (routes : List S122) (pat n before hour D : Int) (w : World) (h0 : Kd.C (Kd.int .i64) w A0 sends.length sends) (l0 : sends.length ≤ c0) (h1 : Kd.C k122 w A1 routes.length routes) (l1 : routes.length ≤ c1)
    (n0 : 0 ≤ n) (n1 : n < sends.length) (hD : wrap64 (rd sends n + pat) = D) :
    Calls Try.prog 124 #[.agg #[.slice A0 sends.length c0, .slice A1 routes.length c1, .int .i64 pat], .int .i64 n, .int .i64 before, .int .i64 hour] w fun e w' =>
      e = .returned (.agg #[.int .i64 (recvE n before hour D).f0, .int .i64 (recvE n before hour D).f1, .bool (recvE n before hour D).f2]) ∧ Below w.heap.size w w' := by
  have R0 := Aside0.mk h0
  have R1 := Aside0.mk h1
  have L0 := Aside0.mk l0
  have L1 := Aside0.mk l1
  have HD := Aside0.mk hD
  clear h0 h1 l0 l1 hD
  obtain ⟨W1, hW1⟩ : ∃ W1, W1 = (w.alloc (.cells #[.slice A0 sends.length c0, .slice A1 routes.length c1, .int .i64 pat] 34)).alloc (.cells #[.int .i64 0, .int .i64 0, .bool false] 87) := ⟨_, rfl⟩
  have HB0 := Aside0.mk (show Below w.heap.size w W1 from hW1 ▸ ((Below.refl _ w).alloc (Nat.le_refl _) _).alloc (by simp) _)
  have HK1 := Aside0.mk (show W1.heap[w.heap.size + 1]? = some (.cells #[.int .i64 0, .int .i64 0, .bool false] 87 (0, 0)) from hW1 ▸ (by have := blk_new (w.alloc (.cells #[.slice A0 sends.length c0, .slice A1 routes.length c1, .int .i64 pat] 34)) (.cells #[.int .i64 0, .int .i64 0, .bool false] 87); rwa [World.size_alloc] at this))
  have HW1 := Aside0.mk hW1
  clear hW1
  go_enter Try.func124, Try.ntmps124
  go_wp2_with fail
  rw [← HW1.out]
  refine (deadline84 A0 c0 sends A1 c1 routes pat n _ (Kd.C_below R0.out HB0.out) L0.out (Kd.C_below R1.out HB0.out) L1.out n0 n1).mono ?_
  rintro e w2 ⟨rfl, hb'⟩
  rw [HD.out]
  have HB2 := Aside0.mk (below_then HB0.out HB0.out.size hb')
  have K2 := Aside0.mk (blk_below HK1.out hb')
  clear hb'
  go_wp2_with fail
  refine (smallest_two hour D w2).mono ?_
  rintro e w3 ⟨rfl, hb'⟩
  have HB3 := Aside0.mk (below_then HB2.out HB2.out.size hb')
  have K3 := blk_below K2.out hb'
  clear hb'
  have f0 := blk_frozen K3 0
  have f1 := blk_frozen K3 1
  have f2 := blk_frozen K3 2
  have d0 : w3.cell? ⟨w.heap.size + 1, 0, none⟩ = some (.int .i64 0) := (blk_cell K3 0).trans rfl
  have d1 : w3.cell? ⟨w.heap.size + 1, 1, none⟩ = some (.int .i64 0) := (blk_cell K3 1).trans rfl
  have d2 : w3.cell? ⟨w.heap.size + 1, 2, none⟩ = some (.bool false) := (blk_cell K3 2).trans rfl
  have K3' := Aside0.mk K3
  clear K3
  by_cases hmx : before < min hour D
  · have hv : max before (min hour D) = min hour D := by omega
    have HV := Aside0.mk hv
    clear hv
    go_wp2_with fail
    refine bodyPost_ret (results_cell_row rfl _ _ (w.heap.size + 1) 87 #[.int .i64 n, .int .i64 (min hour D), .bool (decide (D < hour))] (0, 0) _ rfl (blk_set (blk_set (blk_set K3'.out 0 _) 1 _) 2 _) Try.underlying87 rfl (by kernel_rfl)) rfl ⟨?_, ?_⟩
    · simp only [recvE]; rw [HV.out]
    · exact ((HB3.out.setCell (p := ⟨w.heap.size + 1, 0, none⟩) (by simp) _).setCell (p := ⟨w.heap.size + 1, 1, none⟩) (by simp) _).setCell (p := ⟨w.heap.size + 1, 2, none⟩) (by simp) _
  · have hv : max before (min hour D) = before := by omega
    have HV := Aside0.mk hv
    clear hv
    go_wp2_with fail
    refine bodyPost_ret (results_cell_row rfl _ _ (w.heap.size + 1) 87 #[.int .i64 n, .int .i64 before, .bool (decide (D < hour))] (0, 0) _ rfl (blk_set (blk_set (blk_set K3'.out 0 _) 1 _) 2 _) Try.underlying87 rfl (by kernel_rfl)) rfl ⟨?_, ?_⟩
    · simp only [recvE]; rw [HV.out]
    · exact ((HB3.out.setCell (p := ⟨w.heap.size + 1, 0, none⟩) (by simp) _).setCell (p := ⟨w.heap.size + 1, 1, none⟩) (by simp) _).setCell (p := ⟨w.heap.size + 1, 2, none⟩) (by simp) _
end Go.Proofs.Ytiephlhohgohcaa.PAll
namespace Go.Proofs.Ytiephlhohgohcaa.PAll
open Go.RowKit Go.Proofs.YtiephlhohgohcaaW.PrintWords Go.Proofs.YtiephlhohgohcaaW.PrintLast Go.Proofs.YtiephlhohgohcaaW.PrintMore
theorem few118 (xs : List S119) (w : World) : TestAt 118 #[] #[] encLeg fewL xs w := by
  rintro W x v _ _ ⟨A, c, rfl, hl, _⟩
  show Calls Try.prog 118 #[.agg #[.int .i64 x.f0.f0, .int .i64 x.f0.f1, .slice A x.f1.length c]] W _
  go_enter Try.func118, Try.ntmps118
  go_wp2
  go_ret
  exact ⟨rfl, (Below.refl _ W).alloc (Nat.le_refl _) _⟩
set_option maxHeartbeats 400000 in
theorem few67 (xs : List S122) (w : World) : TestAt 67 #[] #[] encRoute fewR xs w := by
  rintro W x v _ _ ⟨A, c, rfl, hl, hr⟩
  show Calls Try.prog 67 #[.agg #[.slice A x.f0.length c, .bool x.f1]] W _
  have hb0 : Below W.heap.size W (W.alloc (.cells #[.slice A x.f0.length c, .bool x.f1] 122)) := (Below.refl _ W).alloc (Nat.le_refl _) _
  have H1 := Aside0.mk (all117 118 #[] #[] fewL (enters_of Try.func118 (by kernel_rfl) rfl) A c x.f0 _ (Kd.C_below hr hb0) (few118 x.f0 _))
  have HB0 := Aside0.mk hb0
  clear hr hb0 hl
  cases hd : decide ((x.f0.length : Int) ≤ 3) with
  | true =>
    have HE : Aside0 (fewR x = x.f0.all fewL) := ⟨by rw [fewR, hd, Bool.true_and]⟩
    go_enter Try.func67, Try.ntmps67
    go_wp2_with fail
    refine H1.out.mono ?_
    rintro e w' ⟨rfl, hb'⟩
    have HB' := Aside0.mk hb'
    clear hb'
    go_wp2_with fail
    go_ret
    exact ⟨by rw [HE.out]; rfl, below_then HB0.out HB0.out.size HB'.out⟩
  | false =>
    have HE : Aside0 (fewR x = false) := ⟨by rw [fewR, hd, Bool.false_and]⟩
    go_enter Try.func67, Try.ntmps67
    go_wp2_with fail
    go_ret
    exact ⟨by rw [HE.out]; rfl, HB0.out⟩
set_option maxHeartbeats 400000 in
theorem upto146 (a b most : Int) (w : World) : Calls Try.prog 146 #[.agg #[.int .i64 a, .int .i64 b], .int .i64 most] w fun e w' => e = .returned (.bool (uptoB most ⟨a, b⟩)) ∧ Below w.heap.size w w' := by
  have hb0 : Below w.heap.size w (w.alloc (.cells #[.int .i64 a, .int .i64 b] 68)) := (Below.refl _ w).alloc (Nat.le_refl _) _
  have HB0 := Aside0.mk hb0
  clear hb0
  cases h1 : decide (0 ≤ a) with
  | false =>
    have HE : Aside0 (uptoB most ⟨a, b⟩ = false) := ⟨by simp [uptoB, h1]⟩
    go_enter Try.func146, Try.ntmps146
    go_wp2_with fail
    go_ret
    exact ⟨by rw [HE.out]; rfl, HB0.out⟩
  | true =>
    cases h2 : decide (a ≤ b) with
    | false =>
      have HE : Aside0 (uptoB most ⟨a, b⟩ = false) := ⟨by simp [uptoB, h2]⟩
      go_enter Try.func146, Try.ntmps146
      go_wp2_with fail
      go_ret
      exact ⟨by rw [HE.out]; rfl, HB0.out⟩
    | true =>
      have HE : Aside0 (uptoB most ⟨a, b⟩ = decide (b ≤ most)) := ⟨by simp only [uptoB, h1, h2, Bool.true_and]⟩
      go_enter Try.func146, Try.ntmps146
      go_wp2_with fail
      go_ret
      exact ⟨by rw [HE.out]; rfl, HB0.out⟩
theorem hours148 (xs : List S68) (w : World) : TestAt 148 #[] #[] encRange (uptoB 30) xs w := by
  rintro W x v _ _ rfl
  show Calls Try.prog 148 #[.agg #[.int .i64 x.f0, .int .i64 x.f1]] W _
  have HB0 := Aside0.mk (show Below W.heap.size W (W.alloc (.cells #[.int .i64 x.f0, .int .i64 x.f1] 68)) from (Below.refl _ W).alloc (Nat.le_refl _) _)
  go_enter Try.func148, Try.ntmps148
  go_wp2_with fail
  refine (upto146 _ _ _ _).mono ?_
  rintro e w' ⟨rfl, hb'⟩
  have HB' := Aside0.mk hb'
  clear hb'
  go_wp2_with fail
  go_ret
  exact ⟨rfl, below_then HB0.out HB0.out.size HB'.out⟩
set_option maxHeartbeats 400000 in
theorem valid121 (xs : List S119) (w : World) : TestAt 121 #[] #[] encLeg okL xs w := by
  rintro W x v _ _ ⟨A, c, rfl, hl, hr⟩
  show Calls Try.prog 121 #[.agg #[.int .i64 x.f0.f0, .int .i64 x.f0.f1, .slice A x.f1.length c]] W _
  obtain ⟨W1, hW1⟩ : ∃ W1, W1 = W.alloc (.cells #[.int .i64 x.f0.f0, .int .i64 x.f0.f1, .slice A x.f1.length c] 119) := ⟨_, rfl⟩
  have HB0 := Aside0.mk (show Below W.heap.size W W1 from hW1 ▸ (Below.refl _ W).alloc (Nat.le_refl _) _)
  have HR := Aside0.mk hr
  have hc2 : ∀ w', Below W1.heap.size W1 w' → w'.cell? ⟨W.heap.size, 2, none⟩ = some (.slice A x.f1.length c) := fun w' hb => (hb.cell (p := ⟨W.heap.size, 2, none⟩) (by rw [hW1]; simp)).trans (by rw [hW1]; simp)
  have HC2 := Aside0.mk hc2
  have HW1 := Aside0.mk hW1
  clear hr hl hc2 hW1
  cases hd : uptoB 6 x.f0 with
  | false =>
    have HE : Aside0 (okL x = false) := ⟨by rw [okL, hd, Bool.false_and]⟩
    have HC := Aside0.mk (upto146 x.f0.f0 x.f0.f1 6 W1)
    rw [show uptoB 6 ⟨x.f0.f0, x.f0.f1⟩ = false from hd] at HC
    go_enter Try.func121, Try.ntmps121
    go_wp2_with fail
    rw [← HW1.out]
    refine HC.out.mono ?_
    rintro e w' ⟨rfl, hb'⟩
    have HB' := Aside0.mk hb'
    clear hb'
    go_wp2_with fail
    go_ret
    exact ⟨by rw [HE.out]; rfl, below_then HB0.out HB0.out.size HB'.out⟩
  | true =>
    have HE : Aside0 (okL x = x.f1.all (uptoB 30)) := ⟨by rw [okL, hd, Bool.true_and]⟩
    have HC := Aside0.mk (upto146 x.f0.f0 x.f0.f1 6 W1)
    rw [show uptoB 6 ⟨x.f0.f0, x.f0.f1⟩ = true from hd] at HC
    go_enter Try.func121, Try.ntmps121
    go_wp2_with fail
    rw [← HW1.out]
    refine HC.out.mono ?_
    rintro e w' ⟨rfl, hb'⟩
    have HB' := Aside0.mk hb'
    have hcell := HC2.out w' hb'
    clear hb'
    go_wp2_with fail
    refine (all147 148 #[] #[] (uptoB 30) (enters_of Try.func148 (by kernel_rfl) rfl) A c x.f1 _ (Kd.C_below HR.out (below_then HB0.out HB0.out.size HB'.out)) (hours148 x.f1 _)).mono ?_
    rintro e w'' ⟨rfl, hb'⟩
    have HB'' := Aside0.mk hb'
    clear hb'
    go_wp2_with fail
    go_ret
    exact ⟨by rw [HE.out]; rfl, below_then (below_then HB0.out HB0.out.size HB'.out) (Nat.le_trans HB0.out.size HB'.out.size) HB''.out⟩
set_option maxHeartbeats 400000 in
theorem valid70 (xs : List S122) (w : World) : TestAt 70 #[] #[] encRoute okR xs w := by
  rintro W x v _ _ ⟨A, c, rfl, hl, hr⟩
  show Calls Try.prog 70 #[.agg #[.slice A x.f0.length c, .bool x.f1]] W _
  have hb0 : Below W.heap.size W (W.alloc (.cells #[.slice A x.f0.length c, .bool x.f1] 122)) := (Below.refl _ W).alloc (Nat.le_refl _) _
  have H1 := Aside0.mk (all117 121 #[] #[] okL (enters_of Try.func121 (by kernel_rfl) rfl) A c x.f0 _ (Kd.C_below hr hb0) (valid121 x.f0 _))
  have HB0 := Aside0.mk hb0
  clear hr hb0 hl
  cases hd : decide (0 < x.f0.length) with
  | true =>
    have HE : Aside0 (okR x = x.f0.all okL) := ⟨by rw [okR, show decide (0 < (x.f0.length : Int)) = true by simpa using hd, Bool.true_and]⟩
    go_enter Try.func70, Try.ntmps70
    go_wp2_with fail
    refine H1.out.mono ?_
    rintro e w' ⟨rfl, hb'⟩
    have HB' := Aside0.mk hb'
    clear hb'
    go_wp2_with fail
    go_ret
    exact ⟨by rw [HE.out]; rfl, below_then HB0.out HB0.out.size HB'.out⟩
  | false =>
    have HE : Aside0 (okR x = false) := ⟨by rw [okR, show decide (0 < (x.f0.length : Int)) = false by simpa using hd, Bool.false_and]⟩
    go_enter Try.func70, Try.ntmps70
    go_wp2_with fail
    go_ret
    exact ⟨by rw [HE.out]; rfl, HB0.out⟩
end Go.Proofs.Ytiephlhohgohcaa.PAll
namespace Go.Proofs.Ytiephlhohgohcaa.PAll
open Go.RowKit Go.Proofs.YtiephlhohgohcaaW.PrintWords Go.Proofs.YtiephlhohgohcaaW.PrintLast Go.Proofs.YtiephlhohgohcaaW.PrintMore
theorem hour65 (xs : List Int) (w : World) : TestAt 65 #[.agg #[.int .i64 0, .int .i64 30]] #[] encInt (inB 0 30) xs w := by
  rintro W x v _ _ rfl
  exact has_any 0 30 x W
theorem rises_pure (l : List Int) (hl : l.length ≤ 9223372036854775807) : ∀ (d k i : Nat), i + d = l.length → 1 ≤ i → d < k → copies_rises.l0 k l (i : Int) = some (risesB (l.drop (i - 1)))
  | 0, k, i, hd, hi, hk => by
    obtain ⟨k, rfl⟩ : ∃ m, k = m + 1 := ⟨k - 1, by omega⟩
    simp only [copies_rises.l0]
    rw [if_neg (by omega)]
    have e : l.drop (i - 1) = [l[i - 1]'(by omega)] := by rw [List.drop_eq_getElem_cons (by omega), List.drop_eq_nil_of_le (by omega)]
    rw [e]; rfl
  | d + 1, k, i, hd, hi, hk => by
    obtain ⟨k, rfl⟩ : ∃ m, k = m + 1 := ⟨k - 1, by omega⟩
    have hw : wrap64 ((i : Int) - 1) = ((i - 1 : Nat) : Int) := by unfold wrap64; omega
    have hw2 : wrap64 ((i : Int) + 1) = ((i + 1 : Nat) : Int) := by unfold wrap64; omega
    have ih := rises_pure l hl d k (i + 1) (by omega) (by omega) (by omega)
    simp only [copies_rises.l0]
    rw [hw, hw2, if_pos (by omega), if_pos (by omega), if_pos (by omega), if_pos (by omega), ih]
    have r1 : rd l (i : Int) = l[i]'(by omega) := by unfold rd; rw [Int.toNat_natCast, List.getD_eq_getElem?_getD, List.getElem?_eq_getElem (by omega)]; rfl
    have r2 : rd l ((i - 1 : Nat) : Int) = l[i - 1]'(by omega) := by unfold rd; rw [Int.toNat_natCast, List.getD_eq_getElem?_getD, List.getElem?_eq_getElem (by omega)]; rfl
    have e : l.drop (i - 1) = l[i - 1]'(by omega) :: l.drop i := by rw [List.drop_eq_getElem_cons (by omega)]; congr 2; omega
    have e2 : l.drop i = l[i]'(by omega) :: l.drop (i + 1) := List.drop_eq_getElem_cons (by omega)
    rw [r1, r2, e, show (i + 1 - 1) = i by omega]
    rw [e2]
    by_cases h : l[i]'(by omega) ≤ l[i - 1]'(by omega)
    · rw [if_pos h]; simp [risesB, show ¬ l[i - 1]'(by omega) < l[i]'(by omega) by omega]
    · rw [if_neg h]; simp [risesB, show l[i - 1]'(by omega) < l[i]'(by omega) by omega]
theorem rises69 (A : Option Addr) (c : Nat) (l : List Int) (w : World) (hr : Kd.C (Kd.int .i64) w A l.length l) (hc : l.length ≤ c) :
    Calls Try.prog 69 #[.slice A l.length c] w fun e w' => e = .returned (.bool (risesB l)) ∧ Below w.heap.size w w' := by
  refine (copies_rises.calls (l.length + 2) A c l (risesB l) w hr hc ?_).mono fun _ _ h => ⟨h.1, h.2.below⟩
  unfold copies_rises.f
  rcases Nat.eq_zero_or_pos l.length with h | h
  · obtain rfl := List.eq_nil_of_length_eq_zero h
    simp [copies_rises.l0, risesB]
  · have := rises_pure l hr.2.1 (l.length - 1) (l.length + 2) 1 (by omega) (by omega) (by omega)
    simpa using this
section
variable (A0 : Option Addr) (c0 : Nat) (sends : List Int) (A1 : Option Addr) (c1 : Nat) (routes : List S122) (pat : Int) (w : World)
set_option maxHeartbeats 1000000 in
theorem check21_0 (h0 : Kd.C (Kd.int .i64) w A0 sends.length sends) (l0 : sends.length ≤ c0) (h1 : Kd.C k122 w A1 routes.length routes) (l1 : routes.length ≤ c1)
    (g1 : decide (4 < (sends.length : Int)) = true) :
    Calls Try.prog 21 #[.agg #[.slice A0 sends.length c0, .slice A1 routes.length c1, .int .i64 pat]] w fun e w' => e = .returned (.int .i64 3) ∧ Below w.heap.size w w' := by
  have R0 := Aside0.mk h0
  have L0 := Aside0.mk l0
  have R1 := Aside0.mk h1
  have L1 := Aside0.mk l1
  obtain ⟨W1, hW1⟩ : ∃ W1, W1 = w.alloc (.cells #[.slice A0 sends.length c0, .slice A1 routes.length c1, .int .i64 pat] 34) := ⟨_, rfl⟩
  have HB0 := Aside0.mk (show Below w.heap.size w W1 from hW1 ▸ (Below.refl _ w).alloc (Nat.le_refl _) _)
  have hcc : ∀ w', Below w.heap.size w W1 → Below W1.heap.size W1 w' → w'.cell? ⟨w.heap.size, 0, none⟩ = some (.slice A0 sends.length c0) ∧ w'.cell? ⟨w.heap.size, 1, none⟩ = some (.slice A1 routes.length c1) ∧ w'.cell? ⟨w.heap.size, 2, none⟩ = some (.int .i64 pat) := fun w' _ hb =>
    ⟨(hb.cell (p := ⟨w.heap.size, 0, none⟩) (by rw [hW1]; simp)).trans (by rw [hW1]; simp), (hb.cell (p := ⟨w.heap.size, 1, none⟩) (by rw [hW1]; simp)).trans (by rw [hW1]; simp), (hb.cell (p := ⟨w.heap.size, 2, none⟩) (by rw [hW1]; simp)).trans (by rw [hW1]; simp)⟩
  have HCC := Aside0.mk hcc
  have HW1 := Aside0.mk hW1
  clear h0 l0 h1 l1 hcc hW1
  go_enter Try.func21, Try.ntmps21
  go_wp2_with fail
  go_ret
  exact ⟨rfl, by rw [← HW1.out]; exact HB0.out⟩
set_option maxHeartbeats 1000000 in
theorem check21_1 (h0 : Kd.C (Kd.int .i64) w A0 sends.length sends) (l0 : sends.length ≤ c0) (h1 : Kd.C k122 w A1 routes.length routes) (l1 : routes.length ≤ c1)
    (g1 : decide (4 < (sends.length : Int)) = false) (g2 : decide (3 < (routes.length : Int)) = true) :
    Calls Try.prog 21 #[.agg #[.slice A0 sends.length c0, .slice A1 routes.length c1, .int .i64 pat]] w fun e w' => e = .returned (.int .i64 3) ∧ Below w.heap.size w w' := by
  have R0 := Aside0.mk h0
  have L0 := Aside0.mk l0
  have R1 := Aside0.mk h1
  have L1 := Aside0.mk l1
  obtain ⟨W1, hW1⟩ : ∃ W1, W1 = w.alloc (.cells #[.slice A0 sends.length c0, .slice A1 routes.length c1, .int .i64 pat] 34) := ⟨_, rfl⟩
  have HB0 := Aside0.mk (show Below w.heap.size w W1 from hW1 ▸ (Below.refl _ w).alloc (Nat.le_refl _) _)
  have hcc : ∀ w', Below w.heap.size w W1 → Below W1.heap.size W1 w' → w'.cell? ⟨w.heap.size, 0, none⟩ = some (.slice A0 sends.length c0) ∧ w'.cell? ⟨w.heap.size, 1, none⟩ = some (.slice A1 routes.length c1) ∧ w'.cell? ⟨w.heap.size, 2, none⟩ = some (.int .i64 pat) := fun w' _ hb =>
    ⟨(hb.cell (p := ⟨w.heap.size, 0, none⟩) (by rw [hW1]; simp)).trans (by rw [hW1]; simp), (hb.cell (p := ⟨w.heap.size, 1, none⟩) (by rw [hW1]; simp)).trans (by rw [hW1]; simp), (hb.cell (p := ⟨w.heap.size, 2, none⟩) (by rw [hW1]; simp)).trans (by rw [hW1]; simp)⟩
  have HCC := Aside0.mk hcc
  have HW1 := Aside0.mk hW1
  clear h0 l0 h1 l1 hcc hW1
  go_enter Try.func21, Try.ntmps21
  go_wp2_with fail
  go_ret
  exact ⟨rfl, by rw [← HW1.out]; exact HB0.out⟩
set_option maxHeartbeats 1000000 in
theorem check21_2 (h0 : Kd.C (Kd.int .i64) w A0 sends.length sends) (l0 : sends.length ≤ c0) (h1 : Kd.C k122 w A1 routes.length routes) (l1 : routes.length ≤ c1)
    (g1 : decide (4 < (sends.length : Int)) = false) (g2 : decide (3 < (routes.length : Int)) = false) (g3 : (routes.all fewR) = false) :
    Calls Try.prog 21 #[.agg #[.slice A0 sends.length c0, .slice A1 routes.length c1, .int .i64 pat]] w fun e w' => e = .returned (.int .i64 3) ∧ Below w.heap.size w w' := by
  have R0 := Aside0.mk h0
  have L0 := Aside0.mk l0
  have R1 := Aside0.mk h1
  have L1 := Aside0.mk l1
  obtain ⟨W1, hW1⟩ : ∃ W1, W1 = w.alloc (.cells #[.slice A0 sends.length c0, .slice A1 routes.length c1, .int .i64 pat] 34) := ⟨_, rfl⟩
  have HB0 := Aside0.mk (show Below w.heap.size w W1 from hW1 ▸ (Below.refl _ w).alloc (Nat.le_refl _) _)
  have hcc : ∀ w', Below w.heap.size w W1 → Below W1.heap.size W1 w' → w'.cell? ⟨w.heap.size, 0, none⟩ = some (.slice A0 sends.length c0) ∧ w'.cell? ⟨w.heap.size, 1, none⟩ = some (.slice A1 routes.length c1) ∧ w'.cell? ⟨w.heap.size, 2, none⟩ = some (.int .i64 pat) := fun w' _ hb =>
    ⟨(hb.cell (p := ⟨w.heap.size, 0, none⟩) (by rw [hW1]; simp)).trans (by rw [hW1]; simp), (hb.cell (p := ⟨w.heap.size, 1, none⟩) (by rw [hW1]; simp)).trans (by rw [hW1]; simp), (hb.cell (p := ⟨w.heap.size, 2, none⟩) (by rw [hW1]; simp)).trans (by rw [hW1]; simp)⟩
  have HCC := Aside0.mk hcc
  have HW1 := Aside0.mk hW1
  clear h0 l0 h1 l1 hcc hW1
  have Gg3 := Aside0.mk g3
  clear g3
  go_enter Try.func21, Try.ntmps21
  go_wp2_with fail
  rw [← HW1.out]
  refine (all66 67 #[] #[] fewR (enters_of Try.func67 (by kernel_rfl) rfl) A1 c1 routes _ (Kd.C_below R1.out HB0.out) (few67 routes _)).mono ?_
  rintro e w2 ⟨rfl, hb'⟩
  rw [Gg3.out]
  have HD := Aside0.mk hb'
  have HB := Aside0.mk (below_then HB0.out HB0.out.size hb')
  obtain ⟨d0, d1, d2⟩ := HCC.out _ HB0.out HD.out
  clear hb'
  go_wp2_with fail
  go_ret
  exact ⟨rfl, HB.out⟩
set_option maxHeartbeats 1000000 in
theorem check21_3 (h0 : Kd.C (Kd.int .i64) w A0 sends.length sends) (l0 : sends.length ≤ c0) (h1 : Kd.C k122 w A1 routes.length routes) (l1 : routes.length ≤ c1)
    (g1 : decide (4 < (sends.length : Int)) = false) (g2 : decide (3 < (routes.length : Int)) = false) (g3 : (routes.all fewR) = true) (b1 : ((sends.length : Int) == 0) = true) :
    Calls Try.prog 21 #[.agg #[.slice A0 sends.length c0, .slice A1 routes.length c1, .int .i64 pat]] w fun e w' => e = .returned (.int .i64 1) ∧ Below w.heap.size w w' := by
  have R0 := Aside0.mk h0
  have L0 := Aside0.mk l0
  have R1 := Aside0.mk h1
  have L1 := Aside0.mk l1
  obtain ⟨W1, hW1⟩ : ∃ W1, W1 = w.alloc (.cells #[.slice A0 sends.length c0, .slice A1 routes.length c1, .int .i64 pat] 34) := ⟨_, rfl⟩
  have HB0 := Aside0.mk (show Below w.heap.size w W1 from hW1 ▸ (Below.refl _ w).alloc (Nat.le_refl _) _)
  have hcc : ∀ w', Below w.heap.size w W1 → Below W1.heap.size W1 w' → w'.cell? ⟨w.heap.size, 0, none⟩ = some (.slice A0 sends.length c0) ∧ w'.cell? ⟨w.heap.size, 1, none⟩ = some (.slice A1 routes.length c1) ∧ w'.cell? ⟨w.heap.size, 2, none⟩ = some (.int .i64 pat) := fun w' _ hb =>
    ⟨(hb.cell (p := ⟨w.heap.size, 0, none⟩) (by rw [hW1]; simp)).trans (by rw [hW1]; simp), (hb.cell (p := ⟨w.heap.size, 1, none⟩) (by rw [hW1]; simp)).trans (by rw [hW1]; simp), (hb.cell (p := ⟨w.heap.size, 2, none⟩) (by rw [hW1]; simp)).trans (by rw [hW1]; simp)⟩
  have HCC := Aside0.mk hcc
  have HW1 := Aside0.mk hW1
  clear h0 l0 h1 l1 hcc hW1
  have Gg3 := Aside0.mk g3
  clear g3
  go_enter Try.func21, Try.ntmps21
  go_wp2_with fail
  rw [← HW1.out]
  refine (all66 67 #[] #[] fewR (enters_of Try.func67 (by kernel_rfl) rfl) A1 c1 routes _ (Kd.C_below R1.out HB0.out) (few67 routes _)).mono ?_
  rintro e w2 ⟨rfl, hb'⟩
  rw [Gg3.out]
  have HD := Aside0.mk hb'
  have HB := Aside0.mk (below_then HB0.out HB0.out.size hb')
  obtain ⟨d0, d1, d2⟩ := HCC.out _ HB0.out HD.out
  clear hb'
  go_wp2_with fail
  go_ret
  exact ⟨rfl, HB.out⟩
set_option maxHeartbeats 1000000 in
theorem check21_4 (h0 : Kd.C (Kd.int .i64) w A0 sends.length sends) (l0 : sends.length ≤ c0) (h1 : Kd.C k122 w A1 routes.length routes) (l1 : routes.length ≤ c1)
    (g1 : decide (4 < (sends.length : Int)) = false) (g2 : decide (3 < (routes.length : Int)) = false) (g3 : (routes.all fewR) = true) (b1 : ((sends.length : Int) == 0) = false) (b2 : ((routes.length : Int) == 0) = true) :
    Calls Try.prog 21 #[.agg #[.slice A0 sends.length c0, .slice A1 routes.length c1, .int .i64 pat]] w fun e w' => e = .returned (.int .i64 1) ∧ Below w.heap.size w w' := by
  have R0 := Aside0.mk h0
  have L0 := Aside0.mk l0
  have R1 := Aside0.mk h1
  have L1 := Aside0.mk l1
  obtain ⟨W1, hW1⟩ : ∃ W1, W1 = w.alloc (.cells #[.slice A0 sends.length c0, .slice A1 routes.length c1, .int .i64 pat] 34) := ⟨_, rfl⟩
  have HB0 := Aside0.mk (show Below w.heap.size w W1 from hW1 ▸ (Below.refl _ w).alloc (Nat.le_refl _) _)
  have hcc : ∀ w', Below w.heap.size w W1 → Below W1.heap.size W1 w' → w'.cell? ⟨w.heap.size, 0, none⟩ = some (.slice A0 sends.length c0) ∧ w'.cell? ⟨w.heap.size, 1, none⟩ = some (.slice A1 routes.length c1) ∧ w'.cell? ⟨w.heap.size, 2, none⟩ = some (.int .i64 pat) := fun w' _ hb =>
    ⟨(hb.cell (p := ⟨w.heap.size, 0, none⟩) (by rw [hW1]; simp)).trans (by rw [hW1]; simp), (hb.cell (p := ⟨w.heap.size, 1, none⟩) (by rw [hW1]; simp)).trans (by rw [hW1]; simp), (hb.cell (p := ⟨w.heap.size, 2, none⟩) (by rw [hW1]; simp)).trans (by rw [hW1]; simp)⟩
  have HCC := Aside0.mk hcc
  have HW1 := Aside0.mk hW1
  clear h0 l0 h1 l1 hcc hW1
  have Gg3 := Aside0.mk g3
  clear g3
  go_enter Try.func21, Try.ntmps21
  go_wp2_with fail
  rw [← HW1.out]
  refine (all66 67 #[] #[] fewR (enters_of Try.func67 (by kernel_rfl) rfl) A1 c1 routes _ (Kd.C_below R1.out HB0.out) (few67 routes _)).mono ?_
  rintro e w2 ⟨rfl, hb'⟩
  rw [Gg3.out]
  have HD := Aside0.mk hb'
  have HB := Aside0.mk (below_then HB0.out HB0.out.size hb')
  obtain ⟨d0, d1, d2⟩ := HCC.out _ HB0.out HD.out
  clear hb'
  go_wp2_with fail
  go_ret
  exact ⟨rfl, HB.out⟩
set_option maxHeartbeats 1000000 in
theorem check21_5 (h0 : Kd.C (Kd.int .i64) w A0 sends.length sends) (l0 : sends.length ≤ c0) (h1 : Kd.C k122 w A1 routes.length routes) (l1 : routes.length ≤ c1)
    (g1 : decide (4 < (sends.length : Int)) = false) (g2 : decide (3 < (routes.length : Int)) = false) (g3 : (routes.all fewR) = true) (b1 : ((sends.length : Int) == 0) = false) (b2 : ((routes.length : Int) == 0) = false) (b3 : (inB 0 30 pat) = false) :
    Calls Try.prog 21 #[.agg #[.slice A0 sends.length c0, .slice A1 routes.length c1, .int .i64 pat]] w fun e w' => e = .returned (.int .i64 1) ∧ Below w.heap.size w w' := by
  have R0 := Aside0.mk h0
  have L0 := Aside0.mk l0
  have R1 := Aside0.mk h1
  have L1 := Aside0.mk l1
  obtain ⟨W1, hW1⟩ : ∃ W1, W1 = w.alloc (.cells #[.slice A0 sends.length c0, .slice A1 routes.length c1, .int .i64 pat] 34) := ⟨_, rfl⟩
  have HB0 := Aside0.mk (show Below w.heap.size w W1 from hW1 ▸ (Below.refl _ w).alloc (Nat.le_refl _) _)
  have hcc : ∀ w', Below w.heap.size w W1 → Below W1.heap.size W1 w' → w'.cell? ⟨w.heap.size, 0, none⟩ = some (.slice A0 sends.length c0) ∧ w'.cell? ⟨w.heap.size, 1, none⟩ = some (.slice A1 routes.length c1) ∧ w'.cell? ⟨w.heap.size, 2, none⟩ = some (.int .i64 pat) := fun w' _ hb =>
    ⟨(hb.cell (p := ⟨w.heap.size, 0, none⟩) (by rw [hW1]; simp)).trans (by rw [hW1]; simp), (hb.cell (p := ⟨w.heap.size, 1, none⟩) (by rw [hW1]; simp)).trans (by rw [hW1]; simp), (hb.cell (p := ⟨w.heap.size, 2, none⟩) (by rw [hW1]; simp)).trans (by rw [hW1]; simp)⟩
  have HCC := Aside0.mk hcc
  have HW1 := Aside0.mk hW1
  clear h0 l0 h1 l1 hcc hW1
  have Gg3 := Aside0.mk g3
  clear g3
  have Gb3 := Aside0.mk b3
  clear b3
  go_enter Try.func21, Try.ntmps21
  go_wp2_with fail
  rw [← HW1.out]
  refine (all66 67 #[] #[] fewR (enters_of Try.func67 (by kernel_rfl) rfl) A1 c1 routes _ (Kd.C_below R1.out HB0.out) (few67 routes _)).mono ?_
  rintro e w2 ⟨rfl, hb'⟩
  rw [Gg3.out]
  have HD := Aside0.mk hb'
  have HB := Aside0.mk (below_then HB0.out HB0.out.size hb')
  obtain ⟨d0, d1, d2⟩ := HCC.out _ HB0.out HD.out
  clear hb'
  go_wp2_with fail
  refine (has_any 0 30 pat _).mono ?_
  rintro e w5 ⟨rfl, hb'⟩
  rw [show (decide (0 ≤ pat) && decide (pat ≤ 30)) = false from Gb3.out]
  have n1 := Aside0.mk (below_then HB.out HB.out.size hb')
  have n2 := Aside0.mk (below_then HD.out HD.out.size hb')
  clear HB HD d0 d1 d2
  have HB := n1
  have HD := n2
  clear n1 n2
  obtain ⟨d0, d1, d2⟩ := HCC.out _ HB0.out HD.out
  clear hb'
  go_wp2_with fail
  go_ret
  exact ⟨rfl, HB.out⟩
set_option maxHeartbeats 1000000 in
theorem check21_6 (h0 : Kd.C (Kd.int .i64) w A0 sends.length sends) (l0 : sends.length ≤ c0) (h1 : Kd.C k122 w A1 routes.length routes) (l1 : routes.length ≤ c1)
    (g1 : decide (4 < (sends.length : Int)) = false) (g2 : decide (3 < (routes.length : Int)) = false) (g3 : (routes.all fewR) = true) (b1 : ((sends.length : Int) == 0) = false) (b2 : ((routes.length : Int) == 0) = false) (b3 : (inB 0 30 pat) = true) (b4 : (sends.all (inB 0 30)) = false) :
    Calls Try.prog 21 #[.agg #[.slice A0 sends.length c0, .slice A1 routes.length c1, .int .i64 pat]] w fun e w' => e = .returned (.int .i64 1) ∧ Below w.heap.size w w' := by
  have R0 := Aside0.mk h0
  have L0 := Aside0.mk l0
  have R1 := Aside0.mk h1
  have L1 := Aside0.mk l1
  obtain ⟨W1, hW1⟩ : ∃ W1, W1 = w.alloc (.cells #[.slice A0 sends.length c0, .slice A1 routes.length c1, .int .i64 pat] 34) := ⟨_, rfl⟩
  have HB0 := Aside0.mk (show Below w.heap.size w W1 from hW1 ▸ (Below.refl _ w).alloc (Nat.le_refl _) _)
  have hcc : ∀ w', Below w.heap.size w W1 → Below W1.heap.size W1 w' → w'.cell? ⟨w.heap.size, 0, none⟩ = some (.slice A0 sends.length c0) ∧ w'.cell? ⟨w.heap.size, 1, none⟩ = some (.slice A1 routes.length c1) ∧ w'.cell? ⟨w.heap.size, 2, none⟩ = some (.int .i64 pat) := fun w' _ hb =>
    ⟨(hb.cell (p := ⟨w.heap.size, 0, none⟩) (by rw [hW1]; simp)).trans (by rw [hW1]; simp), (hb.cell (p := ⟨w.heap.size, 1, none⟩) (by rw [hW1]; simp)).trans (by rw [hW1]; simp), (hb.cell (p := ⟨w.heap.size, 2, none⟩) (by rw [hW1]; simp)).trans (by rw [hW1]; simp)⟩
  have HCC := Aside0.mk hcc
  have HW1 := Aside0.mk hW1
  clear h0 l0 h1 l1 hcc hW1
  have Gg3 := Aside0.mk g3
  clear g3
  have Gb3 := Aside0.mk b3
  clear b3
  have Gb4 := Aside0.mk b4
  clear b4
  go_enter Try.func21, Try.ntmps21
  go_wp2_with fail
  rw [← HW1.out]
  refine (all66 67 #[] #[] fewR (enters_of Try.func67 (by kernel_rfl) rfl) A1 c1 routes _ (Kd.C_below R1.out HB0.out) (few67 routes _)).mono ?_
  rintro e w2 ⟨rfl, hb'⟩
  rw [Gg3.out]
  have HD := Aside0.mk hb'
  have HB := Aside0.mk (below_then HB0.out HB0.out.size hb')
  obtain ⟨d0, d1, d2⟩ := HCC.out _ HB0.out HD.out
  clear hb'
  go_wp2_with fail
  refine (has_any 0 30 pat _).mono ?_
  rintro e w5 ⟨rfl, hb'⟩
  rw [show (decide (0 ≤ pat) && decide (pat ≤ 30)) = true from Gb3.out]
  have n1 := Aside0.mk (below_then HB.out HB.out.size hb')
  have n2 := Aside0.mk (below_then HD.out HD.out.size hb')
  clear HB HD d0 d1 d2
  have HB := n1
  have HD := n2
  clear n1 n2
  obtain ⟨d0, d1, d2⟩ := HCC.out _ HB0.out HD.out
  clear hb'
  go_wp2_with fail
  refine (all68 65 #[.agg #[.int .i64 0, .int .i64 30]] #[] (inB 0 30) (enters_of Try.func65 (by kernel_rfl) rfl) A0 c0 sends _ (Kd.C_below R0.out HB.out) (hour65 sends _)).mono ?_
  rintro e w6 ⟨rfl, hb'⟩
  rw [Gb4.out]
  have n1 := Aside0.mk (below_then HB.out HB.out.size hb')
  have n2 := Aside0.mk (below_then HD.out HD.out.size hb')
  clear HB HD d0 d1 d2
  have HB := n1
  have HD := n2
  clear n1 n2
  obtain ⟨d0, d1, d2⟩ := HCC.out _ HB0.out HD.out
  clear hb'
  go_wp2_with fail
  go_ret
  exact ⟨rfl, HB.out⟩
set_option maxHeartbeats 1000000 in
theorem check21_7 (h0 : Kd.C (Kd.int .i64) w A0 sends.length sends) (l0 : sends.length ≤ c0) (h1 : Kd.C k122 w A1 routes.length routes) (l1 : routes.length ≤ c1)
    (g1 : decide (4 < (sends.length : Int)) = false) (g2 : decide (3 < (routes.length : Int)) = false) (g3 : (routes.all fewR) = true) (b1 : ((sends.length : Int) == 0) = false) (b2 : ((routes.length : Int) == 0) = false) (b3 : (inB 0 30 pat) = true) (b4 : (sends.all (inB 0 30)) = true) (b5 : (risesB sends) = false) :
    Calls Try.prog 21 #[.agg #[.slice A0 sends.length c0, .slice A1 routes.length c1, .int .i64 pat]] w fun e w' => e = .returned (.int .i64 1) ∧ Below w.heap.size w w' := by
  have R0 := Aside0.mk h0
  have L0 := Aside0.mk l0
  have R1 := Aside0.mk h1
  have L1 := Aside0.mk l1
  obtain ⟨W1, hW1⟩ : ∃ W1, W1 = w.alloc (.cells #[.slice A0 sends.length c0, .slice A1 routes.length c1, .int .i64 pat] 34) := ⟨_, rfl⟩
  have HB0 := Aside0.mk (show Below w.heap.size w W1 from hW1 ▸ (Below.refl _ w).alloc (Nat.le_refl _) _)
  have hcc : ∀ w', Below w.heap.size w W1 → Below W1.heap.size W1 w' → w'.cell? ⟨w.heap.size, 0, none⟩ = some (.slice A0 sends.length c0) ∧ w'.cell? ⟨w.heap.size, 1, none⟩ = some (.slice A1 routes.length c1) ∧ w'.cell? ⟨w.heap.size, 2, none⟩ = some (.int .i64 pat) := fun w' _ hb =>
    ⟨(hb.cell (p := ⟨w.heap.size, 0, none⟩) (by rw [hW1]; simp)).trans (by rw [hW1]; simp), (hb.cell (p := ⟨w.heap.size, 1, none⟩) (by rw [hW1]; simp)).trans (by rw [hW1]; simp), (hb.cell (p := ⟨w.heap.size, 2, none⟩) (by rw [hW1]; simp)).trans (by rw [hW1]; simp)⟩
  have HCC := Aside0.mk hcc
  have HW1 := Aside0.mk hW1
  clear h0 l0 h1 l1 hcc hW1
  have Gg3 := Aside0.mk g3
  clear g3
  have Gb3 := Aside0.mk b3
  clear b3
  have Gb4 := Aside0.mk b4
  clear b4
  have Gb5 := Aside0.mk b5
  clear b5
  go_enter Try.func21, Try.ntmps21
  go_wp2_with fail
  rw [← HW1.out]
  refine (all66 67 #[] #[] fewR (enters_of Try.func67 (by kernel_rfl) rfl) A1 c1 routes _ (Kd.C_below R1.out HB0.out) (few67 routes _)).mono ?_
  rintro e w2 ⟨rfl, hb'⟩
  rw [Gg3.out]
  have HD := Aside0.mk hb'
  have HB := Aside0.mk (below_then HB0.out HB0.out.size hb')
  obtain ⟨d0, d1, d2⟩ := HCC.out _ HB0.out HD.out
  clear hb'
  go_wp2_with fail
  refine (has_any 0 30 pat _).mono ?_
  rintro e w5 ⟨rfl, hb'⟩
  rw [show (decide (0 ≤ pat) && decide (pat ≤ 30)) = true from Gb3.out]
  have n1 := Aside0.mk (below_then HB.out HB.out.size hb')
  have n2 := Aside0.mk (below_then HD.out HD.out.size hb')
  clear HB HD d0 d1 d2
  have HB := n1
  have HD := n2
  clear n1 n2
  obtain ⟨d0, d1, d2⟩ := HCC.out _ HB0.out HD.out
  clear hb'
  go_wp2_with fail
  refine (all68 65 #[.agg #[.int .i64 0, .int .i64 30]] #[] (inB 0 30) (enters_of Try.func65 (by kernel_rfl) rfl) A0 c0 sends _ (Kd.C_below R0.out HB.out) (hour65 sends _)).mono ?_
  rintro e w6 ⟨rfl, hb'⟩
  rw [Gb4.out]
  have n1 := Aside0.mk (below_then HB.out HB.out.size hb')
  have n2 := Aside0.mk (below_then HD.out HD.out.size hb')
  clear HB HD d0 d1 d2
  have HB := n1
  have HD := n2
  clear n1 n2
  obtain ⟨d0, d1, d2⟩ := HCC.out _ HB0.out HD.out
  clear hb'
  go_wp2_with fail
  refine (rises69 A0 c0 sends _ (Kd.C_below R0.out HB.out) L0.out).mono ?_
  rintro e w7 ⟨rfl, hb'⟩
  rw [Gb5.out]
  have n1 := Aside0.mk (below_then HB.out HB.out.size hb')
  have n2 := Aside0.mk (below_then HD.out HD.out.size hb')
  clear HB HD d0 d1 d2
  have HB := n1
  have HD := n2
  clear n1 n2
  obtain ⟨d0, d1, d2⟩ := HCC.out _ HB0.out HD.out
  clear hb'
  go_wp2_with fail
  go_ret
  exact ⟨rfl, HB.out⟩
set_option maxHeartbeats 1000000 in
theorem check21_8 (h0 : Kd.C (Kd.int .i64) w A0 sends.length sends) (l0 : sends.length ≤ c0) (h1 : Kd.C k122 w A1 routes.length routes) (l1 : routes.length ≤ c1)
    (g1 : decide (4 < (sends.length : Int)) = false) (g2 : decide (3 < (routes.length : Int)) = false) (g3 : (routes.all fewR) = true) (b1 : ((sends.length : Int) == 0) = false) (b2 : ((routes.length : Int) == 0) = false) (b3 : (inB 0 30 pat) = true) (b4 : (sends.all (inB 0 30)) = true) (b5 : (risesB sends) = true) (b6 : (routes.all okR) = false) :
    Calls Try.prog 21 #[.agg #[.slice A0 sends.length c0, .slice A1 routes.length c1, .int .i64 pat]] w fun e w' => e = .returned (.int .i64 1) ∧ Below w.heap.size w w' := by
  have R0 := Aside0.mk h0
  have L0 := Aside0.mk l0
  have R1 := Aside0.mk h1
  have L1 := Aside0.mk l1
  obtain ⟨W1, hW1⟩ : ∃ W1, W1 = w.alloc (.cells #[.slice A0 sends.length c0, .slice A1 routes.length c1, .int .i64 pat] 34) := ⟨_, rfl⟩
  have HB0 := Aside0.mk (show Below w.heap.size w W1 from hW1 ▸ (Below.refl _ w).alloc (Nat.le_refl _) _)
  have hcc : ∀ w', Below w.heap.size w W1 → Below W1.heap.size W1 w' → w'.cell? ⟨w.heap.size, 0, none⟩ = some (.slice A0 sends.length c0) ∧ w'.cell? ⟨w.heap.size, 1, none⟩ = some (.slice A1 routes.length c1) ∧ w'.cell? ⟨w.heap.size, 2, none⟩ = some (.int .i64 pat) := fun w' _ hb =>
    ⟨(hb.cell (p := ⟨w.heap.size, 0, none⟩) (by rw [hW1]; simp)).trans (by rw [hW1]; simp), (hb.cell (p := ⟨w.heap.size, 1, none⟩) (by rw [hW1]; simp)).trans (by rw [hW1]; simp), (hb.cell (p := ⟨w.heap.size, 2, none⟩) (by rw [hW1]; simp)).trans (by rw [hW1]; simp)⟩
  have HCC := Aside0.mk hcc
  have HW1 := Aside0.mk hW1
  clear h0 l0 h1 l1 hcc hW1
  have Gg3 := Aside0.mk g3
  clear g3
  have Gb3 := Aside0.mk b3
  clear b3
  have Gb4 := Aside0.mk b4
  clear b4
  have Gb5 := Aside0.mk b5
  clear b5
  have Gb6 := Aside0.mk b6
  clear b6
  go_enter Try.func21, Try.ntmps21
  go_wp2_with fail
  rw [← HW1.out]
  refine (all66 67 #[] #[] fewR (enters_of Try.func67 (by kernel_rfl) rfl) A1 c1 routes _ (Kd.C_below R1.out HB0.out) (few67 routes _)).mono ?_
  rintro e w2 ⟨rfl, hb'⟩
  rw [Gg3.out]
  have HD := Aside0.mk hb'
  have HB := Aside0.mk (below_then HB0.out HB0.out.size hb')
  obtain ⟨d0, d1, d2⟩ := HCC.out _ HB0.out HD.out
  clear hb'
  go_wp2_with fail
  refine (has_any 0 30 pat _).mono ?_
  rintro e w5 ⟨rfl, hb'⟩
  rw [show (decide (0 ≤ pat) && decide (pat ≤ 30)) = true from Gb3.out]
  have n1 := Aside0.mk (below_then HB.out HB.out.size hb')
  have n2 := Aside0.mk (below_then HD.out HD.out.size hb')
  clear HB HD d0 d1 d2
  have HB := n1
  have HD := n2
  clear n1 n2
  obtain ⟨d0, d1, d2⟩ := HCC.out _ HB0.out HD.out
  clear hb'
  go_wp2_with fail
  refine (all68 65 #[.agg #[.int .i64 0, .int .i64 30]] #[] (inB 0 30) (enters_of Try.func65 (by kernel_rfl) rfl) A0 c0 sends _ (Kd.C_below R0.out HB.out) (hour65 sends _)).mono ?_
  rintro e w6 ⟨rfl, hb'⟩
  rw [Gb4.out]
  have n1 := Aside0.mk (below_then HB.out HB.out.size hb')
  have n2 := Aside0.mk (below_then HD.out HD.out.size hb')
  clear HB HD d0 d1 d2
  have HB := n1
  have HD := n2
  clear n1 n2
  obtain ⟨d0, d1, d2⟩ := HCC.out _ HB0.out HD.out
  clear hb'
  go_wp2_with fail
  refine (rises69 A0 c0 sends _ (Kd.C_below R0.out HB.out) L0.out).mono ?_
  rintro e w7 ⟨rfl, hb'⟩
  rw [Gb5.out]
  have n1 := Aside0.mk (below_then HB.out HB.out.size hb')
  have n2 := Aside0.mk (below_then HD.out HD.out.size hb')
  clear HB HD d0 d1 d2
  have HB := n1
  have HD := n2
  clear n1 n2
  obtain ⟨d0, d1, d2⟩ := HCC.out _ HB0.out HD.out
  clear hb'
  go_wp2_with fail
  refine (all66 70 #[] #[] okR (enters_of Try.func70 (by kernel_rfl) rfl) A1 c1 routes _ (Kd.C_below R1.out HB.out) (valid70 routes _)).mono ?_
  rintro e w8 ⟨rfl, hb'⟩
  rw [Gb6.out]
  have n1 := Aside0.mk (below_then HB.out HB.out.size hb')
  have n2 := Aside0.mk (below_then HD.out HD.out.size hb')
  clear HB HD d0 d1 d2
  have HB := n1
  have HD := n2
  clear n1 n2
  obtain ⟨d0, d1, d2⟩ := HCC.out _ HB0.out HD.out
  clear hb'
  go_wp2_with fail
  go_ret
  exact ⟨rfl, HB.out⟩
set_option maxHeartbeats 1000000 in
theorem check21_9 (h0 : Kd.C (Kd.int .i64) w A0 sends.length sends) (l0 : sends.length ≤ c0) (h1 : Kd.C k122 w A1 routes.length routes) (l1 : routes.length ≤ c1)
    (g1 : decide (4 < (sends.length : Int)) = false) (g2 : decide (3 < (routes.length : Int)) = false) (g3 : (routes.all fewR) = true) (b1 : ((sends.length : Int) == 0) = false) (b2 : ((routes.length : Int) == 0) = false) (b3 : (inB 0 30 pat) = true) (b4 : (sends.all (inB 0 30)) = true) (b5 : (risesB sends) = true) (b6 : (routes.all okR) = true) :
    Calls Try.prog 21 #[.agg #[.slice A0 sends.length c0, .slice A1 routes.length c1, .int .i64 pat]] w fun e w' => e = .returned (.int .i64 0) ∧ Below w.heap.size w w' := by
  have R0 := Aside0.mk h0
  have L0 := Aside0.mk l0
  have R1 := Aside0.mk h1
  have L1 := Aside0.mk l1
  obtain ⟨W1, hW1⟩ : ∃ W1, W1 = w.alloc (.cells #[.slice A0 sends.length c0, .slice A1 routes.length c1, .int .i64 pat] 34) := ⟨_, rfl⟩
  have HB0 := Aside0.mk (show Below w.heap.size w W1 from hW1 ▸ (Below.refl _ w).alloc (Nat.le_refl _) _)
  have hcc : ∀ w', Below w.heap.size w W1 → Below W1.heap.size W1 w' → w'.cell? ⟨w.heap.size, 0, none⟩ = some (.slice A0 sends.length c0) ∧ w'.cell? ⟨w.heap.size, 1, none⟩ = some (.slice A1 routes.length c1) ∧ w'.cell? ⟨w.heap.size, 2, none⟩ = some (.int .i64 pat) := fun w' _ hb =>
    ⟨(hb.cell (p := ⟨w.heap.size, 0, none⟩) (by rw [hW1]; simp)).trans (by rw [hW1]; simp), (hb.cell (p := ⟨w.heap.size, 1, none⟩) (by rw [hW1]; simp)).trans (by rw [hW1]; simp), (hb.cell (p := ⟨w.heap.size, 2, none⟩) (by rw [hW1]; simp)).trans (by rw [hW1]; simp)⟩
  have HCC := Aside0.mk hcc
  have HW1 := Aside0.mk hW1
  clear h0 l0 h1 l1 hcc hW1
  have Gg3 := Aside0.mk g3
  clear g3
  have Gb3 := Aside0.mk b3
  clear b3
  have Gb4 := Aside0.mk b4
  clear b4
  have Gb5 := Aside0.mk b5
  clear b5
  have Gb6 := Aside0.mk b6
  clear b6
  go_enter Try.func21, Try.ntmps21
  go_wp2_with fail
  rw [← HW1.out]
  refine (all66 67 #[] #[] fewR (enters_of Try.func67 (by kernel_rfl) rfl) A1 c1 routes _ (Kd.C_below R1.out HB0.out) (few67 routes _)).mono ?_
  rintro e w2 ⟨rfl, hb'⟩
  rw [Gg3.out]
  have HD := Aside0.mk hb'
  have HB := Aside0.mk (below_then HB0.out HB0.out.size hb')
  obtain ⟨d0, d1, d2⟩ := HCC.out _ HB0.out HD.out
  clear hb'
  go_wp2_with fail
  refine (has_any 0 30 pat _).mono ?_
  rintro e w5 ⟨rfl, hb'⟩
  rw [show (decide (0 ≤ pat) && decide (pat ≤ 30)) = true from Gb3.out]
  have n1 := Aside0.mk (below_then HB.out HB.out.size hb')
  have n2 := Aside0.mk (below_then HD.out HD.out.size hb')
  clear HB HD d0 d1 d2
  have HB := n1
  have HD := n2
  clear n1 n2
  obtain ⟨d0, d1, d2⟩ := HCC.out _ HB0.out HD.out
  clear hb'
  go_wp2_with fail
  refine (all68 65 #[.agg #[.int .i64 0, .int .i64 30]] #[] (inB 0 30) (enters_of Try.func65 (by kernel_rfl) rfl) A0 c0 sends _ (Kd.C_below R0.out HB.out) (hour65 sends _)).mono ?_
  rintro e w6 ⟨rfl, hb'⟩
  rw [Gb4.out]
  have n1 := Aside0.mk (below_then HB.out HB.out.size hb')
  have n2 := Aside0.mk (below_then HD.out HD.out.size hb')
  clear HB HD d0 d1 d2
  have HB := n1
  have HD := n2
  clear n1 n2
  obtain ⟨d0, d1, d2⟩ := HCC.out _ HB0.out HD.out
  clear hb'
  go_wp2_with fail
  refine (rises69 A0 c0 sends _ (Kd.C_below R0.out HB.out) L0.out).mono ?_
  rintro e w7 ⟨rfl, hb'⟩
  rw [Gb5.out]
  have n1 := Aside0.mk (below_then HB.out HB.out.size hb')
  have n2 := Aside0.mk (below_then HD.out HD.out.size hb')
  clear HB HD d0 d1 d2
  have HB := n1
  have HD := n2
  clear n1 n2
  obtain ⟨d0, d1, d2⟩ := HCC.out _ HB0.out HD.out
  clear hb'
  go_wp2_with fail
  refine (all66 70 #[] #[] okR (enters_of Try.func70 (by kernel_rfl) rfl) A1 c1 routes _ (Kd.C_below R1.out HB.out) (valid70 routes _)).mono ?_
  rintro e w8 ⟨rfl, hb'⟩
  rw [Gb6.out]
  have n1 := Aside0.mk (below_then HB.out HB.out.size hb')
  have n2 := Aside0.mk (below_then HD.out HD.out.size hb')
  clear HB HD d0 d1 d2
  have HB := n1
  have HD := n2
  clear n1 n2
  obtain ⟨d0, d1, d2⟩ := HCC.out _ HB0.out HD.out
  clear hb'
  go_wp2_with fail
  go_ret
  exact ⟨rfl, HB.out⟩
end
theorem checkPost_any (A0 : Option Addr) (c0 : Nat) (sends : List Int) (A1 : Option Addr) (c1 : Nat) (routes : List S122) (pat : Int) (w : World) (h0 : Kd.C (Kd.int .i64) w A0 sends.length sends) (l0 : sends.length ≤ c0) (h1 : Kd.C k122 w A1 routes.length routes) (l1 : routes.length ≤ c1) :
    Calls Try.prog 21 #[.agg #[.slice A0 sends.length c0, .slice A1 routes.length c1, .int .i64 pat]] w fun e w' => e = .returned (.int .i64 (check sends routes pat)) ∧ Below w.heap.size w w' := by
  have e0 : ∀ (n : Nat), decide (n = 0) = ((n : Int) == 0) := fun n => by rw [Bool.eq_iff_iff]; simp
  cases g1 : decide (4 < (sends.length : Int)) with
  | true => exact (by rw [show check sends routes pat = 3 by simp only [check, big, g1, gt_iff_lt, Bool.true_or, if_true]]; exact check21_0 A0 c0 sends A1 c1 routes pat w h0 l0 h1 l1 g1)
  | false =>
  cases g2 : decide (3 < (routes.length : Int)) with
  | true => exact (by rw [show check sends routes pat = 3 by simp only [check, big, g1, g2, gt_iff_lt, Bool.true_or, Bool.false_or, if_true]]; exact check21_1 A0 c0 sends A1 c1 routes pat w h0 l0 h1 l1 g1 g2)
  | false =>
  cases g3 : routes.all fewR with
  | false => exact (by rw [show check sends routes pat = 3 by simp only [check, big, g1, g2, g3, gt_iff_lt, Bool.not_false, Bool.or_true, if_true]]; exact check21_2 A0 c0 sends A1 c1 routes pat w h0 l0 h1 l1 g1 g2 g3)
  | true =>
  have hbig : big sends routes = false := by simp only [big, g1, g2, g3, gt_iff_lt, Bool.not_true, Bool.or_false]
  cases b1 : ((sends.length : Int) == 0) with
  | true => exact (by rw [show check sends routes pat = 1 by simp only [check, hbig, bad, e0, b1, Bool.true_or, if_true, Bool.false_eq_true, if_false]]; exact check21_3 A0 c0 sends A1 c1 routes pat w h0 l0 h1 l1 g1 g2 g3 b1)
  | false =>
  cases b2 : ((routes.length : Int) == 0) with
  | true => exact (by rw [show check sends routes pat = 1 by simp only [check, hbig, bad, e0, b1, b2, Bool.true_or, Bool.false_or, if_true, Bool.false_eq_true, if_false]]; exact check21_4 A0 c0 sends A1 c1 routes pat w h0 l0 h1 l1 g1 g2 g3 b1 b2)
  | false =>
  cases b3 : inB 0 30 pat with
  | false => exact (by rw [show check sends routes pat = 1 by simp only [check, hbig, bad, e0, b1, b2, b3, Bool.true_or, Bool.false_or, Bool.not_false, if_true, Bool.false_eq_true, if_false]]; exact check21_5 A0 c0 sends A1 c1 routes pat w h0 l0 h1 l1 g1 g2 g3 b1 b2 b3)
  | true =>
  cases b4 : sends.all (inB 0 30) with
  | false => exact (by rw [show check sends routes pat = 1 by simp only [check, hbig, bad, e0, b1, b2, b3, b4, Bool.true_or, Bool.false_or, Bool.or_true, Bool.not_false, if_true, Bool.false_eq_true, if_false]]; exact check21_6 A0 c0 sends A1 c1 routes pat w h0 l0 h1 l1 g1 g2 g3 b1 b2 b3 b4)
  | true =>
  cases b5 : risesB sends with
  | false => exact (by rw [show check sends routes pat = 1 by simp only [check, hbig, bad, e0, b1, b2, b3, b4, b5, Bool.true_or, Bool.false_or, Bool.or_true, Bool.not_false, if_true, Bool.false_eq_true, if_false]]; exact check21_7 A0 c0 sends A1 c1 routes pat w h0 l0 h1 l1 g1 g2 g3 b1 b2 b3 b4 b5)
  | true =>
  cases b6 : routes.all okR with
  | false => exact (by rw [show check sends routes pat = 1 by simp only [check, hbig, bad, e0, b1, b2, b3, b4, b5, b6, Bool.true_or, Bool.false_or, Bool.or_true, Bool.not_false, if_true, Bool.false_eq_true, if_false]]; exact check21_8 A0 c0 sends A1 c1 routes pat w h0 l0 h1 l1 g1 g2 g3 b1 b2 b3 b4 b5 b6)
  | true => exact (by rw [show check sends routes pat = 0 by simp only [check, hbig, bad, e0, b1, b2, b3, b4, b5, b6, Bool.false_or, Bool.or_false, Bool.not_true, Bool.false_eq_true, if_false]]; exact check21_9 A0 c0 sends A1 c1 routes pat w h0 l0 h1 l1 g1 g2 g3 b1 b2 b3 b4 b5 b6)
end Go.Proofs.Ytiephlhohgohcaa.PAll
namespace Go.Proofs.Ytiephlhohgohcaa.PAll
open Go.RowKit Go.Proofs.YtiephlhohgohcaaW.PrintWords Go.Proofs.YtiephlhohgohcaaW.PrintLast Go.Proofs.YtiephlhohgohcaaW.PrintMore
attribute [local go_sem] max2_int min2_int max_two min_two max_three min_three max_four min_four
set_option linter.unusedVariables false
set_option linter.unusedSimpArgs false
/-- An entry speaks of a dispatch, and of an hour. -/
def entOk (sends : List Int) (x : S87) : Bool := inB 0 ((sends.length : Int) - 1) x.f0 && inB 0 100 x.f1
def bookedL (sends : List Int) (routes : List S122) (pat : Int) (l : List S87) : Int :=
  if check sends routes pat ≠ 0 then check sends routes pat else if 8 < l.length then 3 else if l.all (entOk sends) = true then 0 else 2
set_option maxRecDepth 100000 in
set_option maxHeartbeats 4000000 in
theorem entry136 (A0 : Option Addr) (c0 : Nat) (sends : List Int) (A1 : Option Addr) (c1 n1 : Nat) (pat : Int) (B : Nat) (x : S87) (w : World) (hs : sends.length ≤ 100)
    (hB : w.heap[B]? = some (.cells #[.slice A0 sends.length c0, .slice A1 n1 c1, .int .i64 pat] 34 (0, 0))) :
    Calls Try.prog 136 #[.agg #[.int .i64 x.f0, .int .i64 x.f1, .bool x.f2], .pointer (some ⟨B, 0, none⟩)] w fun e w' => e = .returned (.bool (entOk sends x)) ∧ Below w.heap.size w w' := by
  obtain ⟨number, at', sk⟩ := x
  obtain ⟨W1, hW1⟩ : ∃ W1, W1 = w.alloc (.cells #[.int .i64 number, .int .i64 at', .bool sk] 87) := ⟨_, rfl⟩
  have hb1 : Below w.heap.size w W1 := hW1 ▸ (Below.refl _ w).alloc (Nat.le_refl _) _
  have HX := Aside0.mk (show W1.heap[w.heap.size]? = some (.cells #[.int .i64 number, .int .i64 at', .bool sk] 87 (0, 0)) from by rw [hW1]; exact blk_new _ _)
  have HB := Aside0.mk hb1
  have HP := Aside0.mk (blk_below hB hb1)
  have y0 : W1.cell? ⟨B, 0, none⟩ = some (.slice A0 sends.length c0) := (blk_cell HP.out 0).trans rfl
  have x0 : W1.cell? ⟨w.heap.size, 0, none⟩ = some (.int .i64 number) := (blk_cell HX.out 0).trans rfl
  have es : wrap64 ((sends.length : Int) - 1) = (sends.length : Int) - 1 := by unfold wrap64; omega
  rw [hW1] at y0 x0
  have HW1 := Aside0.mk hW1
  clear hB hb1 hW1
  go_enter Try.func136, Try.ntmps136
  go_wp2_with fail
  rw [← HW1.out]
  rw [← HW1.out] at x0 y0
  refine (within_any number 0 ((sends.length : Int) - 1) W1).mono ?_
  rintro e w2 ⟨rfl, hb⟩
  have HB2 := Aside0.mk (below_then HB.out HB.out.size hb)
  have HX2 := Aside0.mk (blk_below HX.out hb)
  clear hb x0 y0
  have x1 : w2.cell? ⟨w.heap.size, 1, none⟩ = some (.int .i64 at') := (blk_cell HX2.out 1).trans rfl
  by_cases hn : inB 0 ((sends.length : Int) - 1) number = true
  · have hn' : (decide ((0 : Int) ≤ number) && decide (number ≤ (sends.length : Int) - 1)) = true := hn
    have HN := Aside0.mk hn
    clear hn
    rw [hn']
    clear hn'
    go_wp2_with fail
    refine (within_any at' 0 100 w2).mono ?_
    rintro e w3 ⟨rfl, hb⟩
    have HB3 := Aside0.mk (below_then HB2.out HB2.out.size hb)
    clear hb
    generalize hv : (decide ((0 : Int) ≤ at') && decide (at' ≤ (100 : Int))) = v
    have HV := Aside0.mk (show inB 0 100 at' = v from hv)
    clear hv
    go_wp2_with fail
    go_ret
    refine ⟨?_, HB3.out⟩
    rw [entOk, HN.out, HV.out]
    rfl
  · have hn' : (decide ((0 : Int) ≤ number) && decide (number ≤ (sends.length : Int) - 1)) = false := by simpa [inB] using hn
    have HN := Aside0.mk (show inB 0 ((sends.length : Int) - 1) number = false by simpa using hn)
    clear hn
    rw [hn']
    clear hn'
    go_wp2_with fail
    go_ret
    refine ⟨?_, HB2.out⟩
    rw [entOk, HN.out]
    rfl
theorem test136 (A0 : Option Addr) (c0 : Nat) (sends : List Int) (A1 : Option Addr) (c1 n1 : Nat) (pat : Int) (B : Nat) (xs : List S87) (w : World) (hs : sends.length ≤ 100)
    (hB : w.heap[B]? = some (.cells #[.slice A0 sends.length c0, .slice A1 n1 c1, .int .i64 pat] 34 (0, 0))) : TestAt 136 #[] #[.pointer (some ⟨B, 0, none⟩)] encEntry (entOk sends) xs w := by
  rintro W x v hW _ rfl
  exact entry136 A0 c0 sends A1 c1 n1 pat B x W hs (blk_below hB hW)
set_option maxRecDepth 100000 in
set_option maxHeartbeats 4000000 in
theorem booked107 (A0 : Option Addr) (c0 : Nat) (sends : List Int) (A1 : Option Addr) (c1 : Nat) (routes : List S122) (pat : Int) (A2 : Option Addr) (c2 : Nat) (l : List S87) (w : World)
    (h0 : Kd.C (Kd.int .i64) w A0 sends.length sends) (l0 : sends.length ≤ c0) (h1 : Kd.C k122 w A1 routes.length routes) (l1 : routes.length ≤ c1) (h2 : Kd.C k87 w A2 l.length l) :
    Calls Try.prog 107 #[.agg #[.slice A0 sends.length c0, .slice A1 routes.length c1, .int .i64 pat], .slice A2 l.length c2] w fun e w' => e = .returned (.int .i64 (bookedL sends routes pat l)) ∧ Below w.heap.size w w' := by
  have HR0 := Aside0.mk h0
  have HR1 := Aside0.mk h1
  have HR2 := Aside0.mk h2
  have HL0 := Aside0.mk l0
  have HL1 := Aside0.mk l1
  obtain ⟨W1, hW1⟩ : ∃ W1, W1 = w.alloc (.cells #[.slice A0 sends.length c0, .slice A1 routes.length c1, .int .i64 pat] 34) := ⟨_, rfl⟩
  have hb1 : Below w.heap.size w W1 := hW1 ▸ (Below.refl _ w).alloc (Nat.le_refl _) _
  have HX := Aside0.mk (show W1.heap[w.heap.size]? = some (.cells #[.slice A0 sends.length c0, .slice A1 routes.length c1, .int .i64 pat] 34 (0, 0)) from by rw [hW1]; exact blk_new _ _)
  have HB := Aside0.mk hb1
  have HW1 := Aside0.mk hW1
  have g0 := Aside0.mk (Kd.C_below h0 hb1)
  have g1 := Aside0.mk (Kd.C_below h1 hb1)
  have g2 := Aside0.mk (Kd.C_below h2 hb1)
  clear h0 h1 h2 l0 l1 hW1 hb1
  have x0 : W1.cell? ⟨w.heap.size, 0, none⟩ = some (.slice A0 sends.length c0) := (blk_cell HX.out 0).trans rfl
  have x1 : W1.cell? ⟨w.heap.size, 1, none⟩ = some (.slice A1 routes.length c1) := (blk_cell HX.out 1).trans rfl
  have x2 : W1.cell? ⟨w.heap.size, 2, none⟩ = some (.int .i64 pat) := (blk_cell HX.out 2).trans rfl
  go_enter Try.func107, Try.ntmps107
  go_wp2_with fail
  rw [← HW1.out]
  clear HW1
  refine (checkPost_any A0 c0 sends A1 c1 routes pat W1 g0.out HL0.out g1.out HL1.out).mono ?_
  rintro e w2 ⟨rfl, hb⟩
  have HB2 := Aside0.mk (below_then HB.out HB.out.size hb)
  have HX2 := Aside0.mk (blk_below HX.out hb)
  have G2 := Aside0.mk (Kd.C_below g2.out hb)
  clear hb x0 x1 x2 HX HB g0 g1 g2
  by_cases hc : check sends routes pat = 0
  · have hcb : (check sends routes pat != (0 : Int)) = false := by rw [hc]; rfl
    have HC := Aside0.mk hc
    have V := Aside0.mk (valid_of hc)
    have hs4 := V.out.sn
    clear hc
    by_cases h8 : 8 < l.length
    · have h8z : (8 : Int) < (l.length : Int) := by omega
      have H8 := Aside0.mk h8
      go_wp2_with fail
      go_ret
      rw [bookedL, if_neg (by rw [HC.out]; simp), if_pos H8.out]
      exact ⟨rfl, HB2.out⟩
    · have h8z : ¬ (8 : Int) < (l.length : Int) := by omega
      have H8 := Aside0.mk h8
      have HALL := Aside0.mk (all113 136 #[] #[.pointer (some ⟨w.heap.size, 0, none⟩)] (entOk sends) (enters_of Try.func136 (by kernel_rfl) rfl) A2 c2 l w2 G2.out (test136 A0 c0 sends A1 c1 routes.length pat w.heap.size l w2 (by omega) HX2.out))
      go_wp2_with fail
      refine HALL.out.mono ?_
      rintro e w3 ⟨rfl, hb⟩
      have HB3 := Aside0.mk (below_then HB2.out HB2.out.size hb)
      clear hb
      cases ha : l.all (entOk sends) with
      | true =>
        have HA := Aside0.mk ha
        clear ha
        go_wp2_with fail
        go_ret
        rw [bookedL, if_neg (by rw [HC.out]; simp), if_neg H8.out, if_pos HA.out]
        exact ⟨rfl, HB3.out⟩
      | false =>
        have HA := Aside0.mk ha
        clear ha
        go_wp2_with fail
        go_ret
        rw [bookedL, if_neg (by rw [HC.out]; simp), if_neg H8.out, if_neg (by rw [HA.out]; simp)]
        exact ⟨rfl, HB3.out⟩
  · have hcb : (check sends routes pat != (0 : Int)) = true := by simpa using hc
    have HC := Aside0.mk hc
    clear hc
    go_wp2_with fail
    go_ret
    rw [bookedL, if_pos HC.out]
    exact ⟨rfl, HB2.out⟩
end Go.Proofs.Ytiephlhohgohcaa.PAll
namespace Go.Proofs.Ytiephlhohgohcaa.PAll
open Go.RowKit Go.Proofs.YtiephlhohgohcaaW.PrintWords Go.Proofs.YtiephlhohgohcaaW.PrintLast Go.Proofs.YtiephlhohgohcaaW.PrintMore
attribute [local go_sem] max2_int min2_int max_two min_two max_three min_three max_four min_four
set_option linter.unusedVariables false
set_option linter.unusedSimpArgs false
set_option maxRecDepth 100000 in
set_option maxHeartbeats 4000000 in
theorem shaped73 (A0 : Option Addr) (c0 : Nat) (sends : List Int) (A1 : Option Addr) (c1 : Nat) (routes : List S122) (pat : Int) (A2 : Option Addr) (c2 : Nat) (t : List (List (List Int))) (w : World)
    (h1 : Kd.C k122 w A1 routes.length routes) (h2 : Kd.C (Kd.slice 22 (Kd.slice 3 (Kd.int .i64))) w A2 t.length t) (hs : sends.length ≤ 1000) :
    Calls Try.prog 73 #[.agg #[.slice A0 sends.length c0, .slice A1 routes.length c1, .int .i64 pat], .slice A2 t.length c2] w fun e w' => e = .returned (.int .i64 (shapedL sends routes t)) ∧ Below w.heap.size w w' := by
  have HR1 := Aside0.mk h1
  have HR2 := Aside0.mk h2
  have hrn := h1.2.1
  clear h1 h2
  obtain ⟨W1, hW1⟩ : ∃ W1, W1 = w.alloc (.cells #[.slice A0 sends.length c0, .slice A1 routes.length c1, .int .i64 pat] 34) := ⟨_, rfl⟩
  have HB0 := Aside0.mk (show Below w.heap.size w W1 from hW1 ▸ (Below.refl _ w).alloc (Nat.le_refl _) _)
  have HK0 := Aside0.mk (show W1.heap[w.heap.size]? = some (.cells #[.slice A0 sends.length c0, .slice A1 routes.length c1, .int .i64 pat] 34 (0, 0)) from hW1 ▸ blk_new _ _)
  have HW1 := Aside0.mk hW1
  clear hW1
  cases hne : ((t.length : Int) != (sends.length : Int)) with
  | true =>
    have HN := Aside0.mk (show shapedL sends routes t = 2 from if_neg (len_ne hne))
    go_enter Try.func73, Try.ntmps73
    go_wp2_with fail
    go_ret
    exact ⟨by rw [HN.out]; rfl, by rw [← HW1.out]; exact HB0.out⟩
  | false =>
    have htl : t.length = sends.length := len_eq hne
    have HN := Aside0.mk (show shapedL sends routes t = restT routes true t from if_pos htl)
    have htn : t.length ≤ 1000 := by omega
    clear htl
    rw [HN.out]
    clear HN
    go_enter Try.func73, Try.ntmps73
    go_wp2_with fail
    rw [← HW1.out]
    clear HW1
    go_loopg [5, 21] t.length (fun gg s5 s21 wr => ∃ (k : Nat) (right : Bool), k ≤ t.length ∧ t.length - k ≤ gg ∧ s21 = .int .i64 k ∧ s5 = .bool right ∧ Aside0 (restT routes right (t.drop k) = restT routes true t) ∧
      Aside0 (wr.heap[w.heap.size]? = some (.cells #[.slice A0 sends.length c0, .slice A1 routes.length c1, .int .i64 pat] 34 (0, 0))) ∧ Aside0 (Below w.heap.size w wr))
    case atStart => exact ⟨0, true, by omega, by omega, rfl, rfl, ⟨rfl⟩, HK0, HB0⟩
    case round =>
      obtain ⟨k, right, hk, hg, rfl, rfl, HE, HK, HB⟩ := hrel
      clear HK0 HB0
      by_cases hlt : k < t.length
      · have hltz : (k : Int) < (t.length : Int) := by omega
        obtain ⟨ad2, A3, c3, e2, d2, l3, g3⟩ := at_L8 HR2.out (k : Int) (by omega) hltz
        cases e2
        rw [Int.toNat_natCast] at d2
        replace d2 := (HB.out.cell (World.block_lt_of_cell? w _ d2)).trans d2
        have hl : rd_L8 t (k : Int) = t[k] := by unfold rd_L8; rw [Int.toNat_natCast, rd_in _ _ _ hlt]
        have HLT := Aside0.mk hl
        have G3 := Aside0.mk g3
        clear hl g3
        generalize rd_L8 t (k : Int) = l at d2 l3 HLT G3
        have HE2 := Aside0.mk (show restT routes right (l :: t.drop (k + 1)) = restT routes true t by rw [← HE.out, List.drop_eq_getElem_cons hlt, HLT.out])
        have b0 : wr.cell? ⟨w.heap.size, 1, none⟩ = some (.slice A1 routes.length c1) := (blk_cell HK.out 1).trans rfl
        cases hne2 : ((l.length : Int) != (routes.length : Int)) with
        | true =>
          have HN := Aside0.mk (show restT routes true t = 2 by rw [← HE2.out, restT, if_neg (len_ne hne2)])
          go_wp2_with fail
          go_ret
          exact ⟨by rw [HN.out]; rfl, HB.out⟩
        | false =>
          have hlr : l.length = routes.length := len_eq hne2
          have HLR := Aside0.mk hlr
          clear hlr
          go_wp2_with fail
          clear b0
          go_loopg [5, 33] l.length (fun gm s5 s33 wi => ∃ (m : Nat) (right2 : Bool), m ≤ l.length ∧ l.length - m ≤ gm ∧ s33 = .int .i64 m ∧ s5 = .bool right2 ∧ Aside0 (restRow right2 (routes.drop m) (l.drop m) = restRow right routes l) ∧
            Aside0 (wi.heap[w.heap.size]? = some (.cells #[.slice A0 sends.length c0, .slice A1 routes.length c1, .int .i64 pat] 34 (0, 0))) ∧ Aside0 (Below w.heap.size w wi))
          case atStart => exact ⟨0, right, by omega, by omega, rfl, rfl, ⟨rfl⟩, HK, HB⟩
          case round =>
            obtain ⟨m, right2, hm, hgm, rfl, rfl, HH, HKi, HBi⟩ := hrel
            obtain ⟨wm, rfl⟩ : ∃ wm : World, wm = wr := ⟨_, rfl⟩
            by_cases hml : m < l.length
            · have hmlz : (m : Int) < (l.length : Int) := by omega
              have hmr : m < routes.length := by have := HLR.out; omega
              have hmrz : (m : Int) < (routes.length : Int) := by omega
              obtain ⟨ad4, A4, c4, e4, d4, l4, g4⟩ := at_L7 G3.out (m : Int) (by omega) hmlz
              obtain ⟨ad5, A5, c5, e5, d50, d51, l5, g5⟩ := at_T122 HR1.out (m : Int) (by omega) hmrz
              cases e4
              cases e5
              rw [Int.toNat_natCast] at d4 d50 d51
              replace d4 := (HBi.out.cell (World.block_lt_of_cell? w _ d4)).trans d4
              replace d50 := (HBi.out.cell (World.block_lt_of_cell? w _ d50)).trans d50
              replace d51 := (HBi.out.cell (World.block_lt_of_cell? w _ d51)).trans d51
              have hx : rd_T122 routes (m : Int) = routes[m] := by unfold rd_T122; rw [Int.toNat_natCast, rd_in _ _ _ hmr]
              have hy : rd_L7 l (m : Int) = l[m] := by unfold rd_L7; rw [Int.toNat_natCast, rd_in _ _ _ hml]
              have G4 := Aside0.mk g4
              have G5 := Aside0.mk g5
              have HH2 := Aside0.mk (show restRow right2 (rd_T122 routes (m : Int) :: routes.drop (m + 1)) (rd_L7 l (m : Int) :: l.drop (m + 1)) = restRow right routes l by
                rw [← HH.out, List.drop_eq_getElem_cons hmr, List.drop_eq_getElem_cons hml, hx, hy])
              clear g4 g5 hx hy
              generalize rd_T122 routes (m : Int) = x at d50 d51 l5 HH2 G5
              generalize rd_L7 l (m : Int) = tk at d4 l4 HH2 G4
              obtain ⟨xl, xf⟩ := x
              dsimp only at d50 d51 l5 HH2 G5
              have b1 : wm.cell? ⟨w.heap.size, 1, none⟩ = some (.slice (some ad5) routes.length c1) := (blk_cell HKi.out 1).trans rfl
              obtain ⟨W5, hW5⟩ : ∃ W5, W5 = wm.alloc (.cells #[.slice A5 xl.length c5, .bool xf] 122) := ⟨_, rfl⟩
              have hB5 : Below wm.heap.size wm W5 := hW5 ▸ (Below.refl _ wm).alloc (Nat.le_refl _) _
              have HB5 := Aside0.mk (below_then HBi.out HBi.out.size hB5)
              have HK5 := Aside0.mk (blk_below HKi.out hB5)
              have KX := Aside0.mk (show W5.heap[wm.heap.size]? = some (.cells #[.slice A5 xl.length c5, .bool xf] 122 (0, 0)) from hW5 ▸ blk_new _ _)
              have HW5 := Aside0.mk hW5
              clear hB5 hW5
              have htkn := G4.out.2.1
              have hxn := G5.out.2.1
              cases xf with
              | true =>
                cases hz : ((tk.length : Int) == 0) with
                | true =>
                  have HHn := Aside0.mk (show restRow right2 (routes.drop (m + 1)) (l.drop (m + 1)) = restRow right routes l by
                    rw [← HH2.out, restRow, if_pos (by rw [len_z hz]; rfl)])
                  go_wp2_with fail
                  rw [← HW5.out]
                  go_roundg (l.length - (m + 1))
                  case measure => omega
                  case rel => exact ⟨m + 1, right2, by omega, by omega, by go_num, rfl, HHn, HK5, HB5⟩
                | false =>
                  have HZ := Aside0.mk (len_nz hz)
                  cases hq : ((tk.length : Int) != (xl.length : Int)) with
                  | true =>
                    have HN := Aside0.mk (show restT routes true t = 2 by
                      rw [← HE2.out, restT, if_pos HLR.out, ← HH2.out, restRow, if_neg (by simp; intro e; exact HZ.out (by rw [e]; rfl)), if_neg (len_ne hq)])
                    go_wp2_with fail
                    go_ret
                    exact ⟨by rw [HN.out]; rfl, by rw [← HW5.out]; exact HB5.out⟩
                  | false =>
                    have HTX := Aside0.mk (len_eq hq)
                    go_wp2_with fail
                    rw [← HW5.out]
                    obtain ⟨B5, hB5n⟩ : ∃ B5, B5 = wm.heap.size := ⟨_, rfl⟩
                    rw [← hB5n] at KX ⊢
                    have hB5g : w.heap.size ≤ B5 := by rw [hB5n]; exact HBi.out.size
                    clear hB5n
                    go_loopg [5, 58] tk.length (fun gj s5 s58 wj => ∃ (j : Nat) (right3 : Bool), j ≤ tk.length ∧ tk.length - j ≤ gj ∧ s58 = .int .i64 j ∧ s5 = .bool right3 ∧ Aside0 ((right3 && rangesB (xl.drop j) (tk.drop j)) = (right2 && rangesB xl tk)) ∧
                      Aside0 (wj.heap[w.heap.size]? = some (.cells #[.slice A0 sends.length c0, .slice (some ad5) routes.length c1, .int .i64 pat] 34 (0, 0))) ∧ Aside0 (wj.heap[B5]? = some (.cells #[.slice A5 xl.length c5, .bool true] 122 (0, 0))) ∧ Aside0 (Below w.heap.size w wj))
                    case atStart => exact ⟨0, right2, by omega, by omega, rfl, rfl, ⟨rfl⟩, HK5, KX, HB5⟩
                    case round =>
                      obtain ⟨j, right3, hj, hgj, rfl, rfl, H3, HKj, KXj, HBj⟩ := hrel
                      clear HK5 KX HB5 HW5
                      have e10 : wr.cell? ⟨B5, 0, none⟩ = some (.slice A5 xl.length c5) := (blk_cell KXj.out 0).trans rfl
                      by_cases hjl : j < tk.length
                      · have hjlz : (j : Int) < (tk.length : Int) := by omega
                        have hjx : j < xl.length := by have := HTX.out; omega
                        have hjxz : (j : Int) < (xl.length : Int) := by omega
                        obtain ⟨ad6, e6, d6⟩ := Kd.at_int G4.out (j : Int) (by omega) hjlz
                        obtain ⟨ad7, A7, c7, e7, d70, d71, d72, l7, g7⟩ := at_T119 G5.out (j : Int) (by omega) hjxz
                        cases e6
                        cases e7
                        rw [Int.toNat_natCast] at d6 d70 d71
                        replace d6 := (HBj.out.cell (World.block_lt_of_cell? w _ d6)).trans d6
                        replace d70 := (HBj.out.cell (World.block_lt_of_cell? w _ d70)).trans d70
                        replace d71 := (HBj.out.cell (World.block_lt_of_cell? w _ d71)).trans d71
                        clear d72 l7 g7
                        have H4 := Aside0.mk (show (right3 && (inB (rd_T119 xl (j : Int)).f0.f0 (rd_T119 xl (j : Int)).f0.f1 (rd tk (j : Int)) && rangesB (xl.drop (j + 1)) (tk.drop (j + 1)))) = (right2 && rangesB xl tk) by
                          rw [← H3.out, List.drop_eq_getElem_cons hjx, List.drop_eq_getElem_cons hjl]
                          have q1 : rd_T119 xl (j : Int) = xl[j] := by unfold rd_T119; rw [Int.toNat_natCast, rd_in _ _ _ hjx]
                          have q2 : rd tk (j : Int) = tk[j] := by unfold rd; rw [Int.toNat_natCast, rd_in _ _ _ hjl]
                          rw [q1, q2]
                          rfl)
                        generalize rd_T119 xl (j : Int) = y at d70 d71 H4
                        generalize rd tk (j : Int) = num at d6 H4
                        cases right3 with
                        | false =>
                          go_wp2_with fail
                          go_roundg (tk.length - (j + 1))
                          case measure => omega
                          case rel => exact ⟨j + 1, false, by omega, by omega, by go_num, rfl, ⟨by rw [← H4.out]; simp⟩, HKj, KXj, HBj⟩
                        | true =>
                          go_wp2_with fail
                          refine (has_any y.f0.f0 y.f0.f1 num _).mono ?_
                          rintro e w3 ⟨rfl, hb3⟩
                          have HK3 := Aside0.mk (blk_below HKj.out hb3)
                          have KX3 := Aside0.mk (blk_below KXj.out hb3)
                          have HB3 := Aside0.mk (below_then HBj.out HBj.out.size hb3)
                          clear hb3 d6 d70 d71 e10
                          have H5 := Aside0.mk (show (inB y.f0.f0 y.f0.f1 num && rangesB (xl.drop (j + 1)) (tk.drop (j + 1))) = (right2 && rangesB xl tk) by rw [← H4.out, Bool.true_and])
                          rw [show (decide (y.f0.f0 ≤ num) && decide (num ≤ y.f0.f1)) = inB y.f0.f0 y.f0.f1 num from rfl]
                          generalize inB y.f0.f0 y.f0.f1 num = bb at H5 ⊢
                          go_wp2_with fail
                          go_roundg (tk.length - (j + 1))
                          case measure => omega
                          case rel => exact ⟨j + 1, bb, by omega, by omega, by go_num, rfl, H5, HK3, KX3, HB3⟩
                      · have hjlz : ¬ (j : Int) < (tk.length : Int) := by omega
                        have hjj : j = tk.length := by omega
                        have H4 := Aside0.mk (show right3 = (right2 && rangesB xl tk) by
                          rw [← H3.out, hjj, List.drop_eq_nil_of_le (Nat.le_refl tk.length)]
                          cases xl.drop tk.length <;> simp [rangesB])
                        have HHn := Aside0.mk (show restRow right3 (routes.drop (m + 1)) (l.drop (m + 1)) = restRow right routes l by
                          rw [← HH2.out, restRow, if_neg (by simp; intro e; exact HZ.out (by rw [e]; rfl)), if_pos HTX.out, H4.out])
                        clear hjj
                        go_wp2_with fail
                        go_roundg (l.length - (m + 1))
                        case measure => omega
                        case rel => exact ⟨m + 1, right3, by omega, by omega, by go_num, rfl, HHn, HKj, HBj⟩
              | false =>
                cases hq : ((tk.length : Int) != (xl.length : Int)) with
                | true =>
                  have HN := Aside0.mk (show restT routes true t = 2 by
                    rw [← HE2.out, restT, if_pos HLR.out, ← HH2.out, restRow, if_neg (by simp), if_neg (len_ne hq)])
                  go_wp2_with fail
                  go_ret
                  exact ⟨by rw [HN.out]; rfl, by rw [← HW5.out]; exact HB5.out⟩
                | false =>
                  have HTX := Aside0.mk (len_eq hq)
                  go_wp2_with fail
                  rw [← HW5.out]
                  obtain ⟨B5, hB5n⟩ : ∃ B5, B5 = wm.heap.size := ⟨_, rfl⟩
                  rw [← hB5n] at KX ⊢
                  have hB5g : w.heap.size ≤ B5 := by rw [hB5n]; exact HBi.out.size
                  clear hB5n
                  go_loopg [5, 58] tk.length (fun gj s5 s58 wj => ∃ (j : Nat) (right3 : Bool), j ≤ tk.length ∧ tk.length - j ≤ gj ∧ s58 = .int .i64 j ∧ s5 = .bool right3 ∧ Aside0 ((right3 && rangesB (xl.drop j) (tk.drop j)) = (right2 && rangesB xl tk)) ∧
                    Aside0 (wj.heap[w.heap.size]? = some (.cells #[.slice A0 sends.length c0, .slice (some ad5) routes.length c1, .int .i64 pat] 34 (0, 0))) ∧ Aside0 (wj.heap[B5]? = some (.cells #[.slice A5 xl.length c5, .bool false] 122 (0, 0))) ∧ Aside0 (Below w.heap.size w wj))
                  case atStart => exact ⟨0, right2, by omega, by omega, rfl, rfl, ⟨rfl⟩, HK5, KX, HB5⟩
                  case round =>
                    obtain ⟨j, right3, hj, hgj, rfl, rfl, H3, HKj, KXj, HBj⟩ := hrel
                    clear HK5 KX HB5 HW5
                    have e10 : wr.cell? ⟨B5, 0, none⟩ = some (.slice A5 xl.length c5) := (blk_cell KXj.out 0).trans rfl
                    by_cases hjl : j < tk.length
                    · have hjlz : (j : Int) < (tk.length : Int) := by omega
                      have hjx : j < xl.length := by have := HTX.out; omega
                      have hjxz : (j : Int) < (xl.length : Int) := by omega
                      obtain ⟨ad6, e6, d6⟩ := Kd.at_int G4.out (j : Int) (by omega) hjlz
                      obtain ⟨ad7, A7, c7, e7, d70, d71, d72, l7, g7⟩ := at_T119 G5.out (j : Int) (by omega) hjxz
                      cases e6
                      cases e7
                      rw [Int.toNat_natCast] at d6 d70 d71
                      replace d6 := (HBj.out.cell (World.block_lt_of_cell? w _ d6)).trans d6
                      replace d70 := (HBj.out.cell (World.block_lt_of_cell? w _ d70)).trans d70
                      replace d71 := (HBj.out.cell (World.block_lt_of_cell? w _ d71)).trans d71
                      clear d72 l7 g7
                      have H4 := Aside0.mk (show (right3 && (inB (rd_T119 xl (j : Int)).f0.f0 (rd_T119 xl (j : Int)).f0.f1 (rd tk (j : Int)) && rangesB (xl.drop (j + 1)) (tk.drop (j + 1)))) = (right2 && rangesB xl tk) by
                        rw [← H3.out, List.drop_eq_getElem_cons hjx, List.drop_eq_getElem_cons hjl]
                        have q1 : rd_T119 xl (j : Int) = xl[j] := by unfold rd_T119; rw [Int.toNat_natCast, rd_in _ _ _ hjx]
                        have q2 : rd tk (j : Int) = tk[j] := by unfold rd; rw [Int.toNat_natCast, rd_in _ _ _ hjl]
                        rw [q1, q2]
                        rfl)
                      generalize rd_T119 xl (j : Int) = y at d70 d71 H4
                      generalize rd tk (j : Int) = num at d6 H4
                      cases right3 with
                      | false =>
                        go_wp2_with fail
                        go_roundg (tk.length - (j + 1))
                        case measure => omega
                        case rel => exact ⟨j + 1, false, by omega, by omega, by go_num, rfl, ⟨by rw [← H4.out]; simp⟩, HKj, KXj, HBj⟩
                      | true =>
                        go_wp2_with fail
                        refine (has_any y.f0.f0 y.f0.f1 num _).mono ?_
                        rintro e w3 ⟨rfl, hb3⟩
                        have HK3 := Aside0.mk (blk_below HKj.out hb3)
                        have KX3 := Aside0.mk (blk_below KXj.out hb3)
                        have HB3 := Aside0.mk (below_then HBj.out HBj.out.size hb3)
                        clear hb3 d6 d70 d71 e10
                        have H5 := Aside0.mk (show (inB y.f0.f0 y.f0.f1 num && rangesB (xl.drop (j + 1)) (tk.drop (j + 1))) = (right2 && rangesB xl tk) by rw [← H4.out, Bool.true_and])
                        rw [show (decide (y.f0.f0 ≤ num) && decide (num ≤ y.f0.f1)) = inB y.f0.f0 y.f0.f1 num from rfl]
                        generalize inB y.f0.f0 y.f0.f1 num = bb at H5 ⊢
                        go_wp2_with fail
                        go_roundg (tk.length - (j + 1))
                        case measure => omega
                        case rel => exact ⟨j + 1, bb, by omega, by omega, by go_num, rfl, H5, HK3, KX3, HB3⟩
                    · have hjlz : ¬ (j : Int) < (tk.length : Int) := by omega
                      have hjj : j = tk.length := by omega
                      have H4 := Aside0.mk (show right3 = (right2 && rangesB xl tk) by
                        rw [← H3.out, hjj, List.drop_eq_nil_of_le (Nat.le_refl tk.length)]
                        cases xl.drop tk.length <;> simp [rangesB])
                      have HHn := Aside0.mk (show restRow right3 (routes.drop (m + 1)) (l.drop (m + 1)) = restRow right routes l by
                        rw [← HH2.out, restRow, if_neg (by simp), if_pos HTX.out, H4.out])
                      clear hjj
                      go_wp2_with fail
                      go_roundg (l.length - (m + 1))
                      case measure => omega
                      case rel => exact ⟨m + 1, right3, by omega, by omega, by go_num, rfl, HHn, HKj, HBj⟩
            · have hmlz : ¬ (m : Int) < (l.length : Int) := by omega
              have hmm : m = l.length := by omega
              have HQ := Aside0.mk (show some right2 = restRow right routes l by
                rw [← HH.out, hmm, List.drop_eq_nil_of_le (Nat.le_refl l.length)]
                cases routes.drop l.length <;> rfl)
              have HE3 := Aside0.mk (show restT routes right2 (t.drop (k + 1)) = restT routes true t by
                rw [← HE2.out, restT, if_pos HLR.out, ← HQ.out])
              clear hmm
              go_wp2_with fail
              go_roundg (t.length - (k + 1))
              case measure => omega
              case rel => exact ⟨k + 1, right2, by omega, by omega, by go_num, rfl, HE3, HKi, HBi⟩
      · have hltz : ¬ (k : Int) < (t.length : Int) := by omega
        have hkk : k = t.length := by omega
        have HQ := Aside0.mk (show (if right then (0 : Int) else 11) = restT routes true t by
          rw [← HE.out, hkk, List.drop_eq_nil_of_le (Nat.le_refl t.length)]; rfl)
        clear hkk
        cases right with
        | true =>
          go_wp2_with fail
          go_ret
          exact ⟨by rw [← HQ.out]; rfl, HB.out⟩
        | false =>
          go_wp2_with fail
          go_ret
          exact ⟨by rw [← HQ.out]; rfl, HB.out⟩
end Go.Proofs.Ytiephlhohgohcaa.PAll
