/- Part 18 of what the row rests on: each text as it stands among the working texts, cut to what is used; those of the print of the kit as a program printed them. -/
import Derived.Test.YtiephlhohgohcaaEnds16
import Derived.Test.YtiephlhohgohcaaEnds9
import Derived.Test.YtiephlhohgohcaaEnds13
import Derived.Test.YtiephlhohgohcaaEnds15
import Derived.Test.YtiephlhohgohcaaEnds17
import Derived.Test.YtiephlhohgohcaaEnds5
import Derived.Test.YtiephlhohgohcaaEnds6
set_option linter.unusedVariables false
set_option linter.unusedSimpArgs false
namespace Go.Proofs.Ytiephlhohgohcaa.PAll
open Go.RowKit Go.Proofs.YtiephlhohgohcaaW.PrintWords Go.Proofs.YtiephlhohgohcaaW.PrintLast Go.Proofs.YtiephlhohgohcaaW.PrintMore
attribute [local go_sem] max2_int min2_int max_two min_two max_three min_three max_four min_four
set_option linter.unusedVariables false
set_option linter.unusedSimpArgs false
theorem two_hours : hoursRes [0, 2] twoR 5 0 1 = ([6, 7], 0) := by kernel_rfl
theorem two_spans : spansRes [0, 2] twoR 5 = ([⟨1, 5⟩, ⟨3, 7⟩], 0) := by kernel_rfl
theorem two_surely : surelyRes [0, 2] twoR 5 = ([1], 0) := by kernel_rfl
theorem two_least : leastRes [0, 2] twoR 5 = (7, 0) := by kernel_rfl
theorem two_play : playRes [0, 2] twoR 5 [[[], [1, 2]], [[], [1, 2]]] = ([⟨0, 5, true⟩, ⟨1, 7, false⟩], 0) := by kernel_rfl
theorem two_odd : oddRes [0, 2] twoR 5 [⟨0, 2, false⟩, ⟨1, 2, false⟩] = ([1], 0) := by kernel_rfl
theorem C_lit {α : Type} {d : Kd α} {W : World} {g : Nat} {cs : Array Value} {t : TypeId} {xs : List α} (hb : W.heap[g]? = some (.cells cs t (0, 0))) (hr : Reps (d.K W) d.sz xs cs.toList) (hl : xs.length ≤ 9223372036854775807) : Kd.C d W (some ⟨g, 0, none⟩) xs.length xs := by
  refine ⟨rfl, hl, fun _ => ⟨_, rfl, fun j p hj => ⟨(cs.toList.drop (j * d.sz)).take d.sz, ?_, hr.2 j p hj, fun i u hu => ?_⟩⟩⟩
  · exact d.K_len (hr.2 j p hj)
  · have hlt := (List.getElem?_eq_some_iff.1 hu).1
    rw [List.length_take] at hlt
    rw [List.getElem?_take_of_lt (by omega), List.getElem?_drop] at hu
    have hadd : (⟨g, 0, none⟩ : Addr).add (j * d.sz + i) = ⟨g, j * d.sz + i, none⟩ := by unfold Addr.add; split <;> simp_all
    rw [hadd, blk_cell hb]
    simpa using hu
theorem C_ints {W : World} {g : Nat} {t : TypeId} (xs : List Int) (hb : W.heap[g]? = some (.cells (xs.map (fun x => Value.int .i64 x)).toArray t (0, 0))) (hl : xs.length ≤ 9223372036854775807) : Kd.C (Kd.int .i64) W (some ⟨g, 0, none⟩) xs.length xs :=
  C_lit hb (by rw [List.toList_toArray]; exact Kd.reps_scalar xs) hl
theorem C_below_r {α : Type} {d : Kd α} {w w1 : World} {A : Option Addr} {n : Nat} {xs : List α} (h : Aside0 (d.C w A n xs)) (hb : Below w.heap.size w w1) : Aside0 (d.C w1 A n xs) := ⟨Kd.C_below h.out hb⟩
theorem ints_lit (A0 : Option Addr) (c0 : Nat) (xs : List Int) (g : Nat) (w : World) (h0 : Kd.C (Kd.int .i64) w A0 xs.length xs) (l0 : xs.length ≤ c0) (hb : w.heap[g]? = some (.cells (xs.map (fun x => Value.int .i64 x)).toArray 3 (0, 0))) (hl : (xs.length : Int) ≤ 1000) :
    Calls Try.prog 32 #[.slice A0 xs.length c0, .slice (some ⟨g, 0, none⟩) xs.length xs.length] w fun e w' => e = .returned (.bool true) ∧ Below w.heap.size w w' := by
  have h := ints32 A0 c0 xs (some ⟨g, 0, none⟩) xs.length xs w h0 l0 (C_ints xs hb (by omega)) (Nat.le_refl _) hl
  rw [decide_eq_true (rfl : xs = xs)] at h
  exact h
theorem same_two (A0 : Option Addr) (c0 : Nat) (g : Nat) (w : World) (h0 : Kd.C k87 w A0 2 [⟨0, 5, true⟩, ⟨1, 7, false⟩]) (l0 : 2 ≤ c0) (hb : w.heap[g]? = some (.cells #[.int .i64 0, .int .i64 5, .bool true, .int .i64 1, .int .i64 7, .bool false] 108 (0, 0))) :
    Calls Try.prog 27 #[.slice A0 2 c0, .slice (some ⟨g, 0, none⟩) 2 2] w fun e w' => e = .returned (.bool true) ∧ Below w.heap.size w w' := by
  have hC : Kd.C k108 w (some ⟨g, 0, none⟩) 2 [⟨0, 5, true⟩, ⟨1, 7, false⟩] := C_lit (d := k108) (t := 108) (xs := [⟨0, 5, true⟩, ⟨1, 7, false⟩]) hb (Reps.c3 (k108_mk _ _) (Reps.c3 (k108_mk _ _) (Reps.none _ _))) (by decide)
  have h := same27 A0 c0 [⟨0, 5, true⟩, ⟨1, 7, false⟩] (some ⟨g, 0, none⟩) 2 [⟨0, 5, true⟩, ⟨1, 7, false⟩] w h0 l0 hC (by decide) (by decide)
  rw [decide_eq_true (by rfl)] at h
  exact h
theorem between56 (a b : Int) (w : World) : Calls Try.prog 56 #[.int .i64 a, .int .i64 b] w fun e w' => e = .returned (.agg #[.int .i64 a, .int .i64 b]) ∧ Below w.heap.size w w' :=
  glisterlaw05_between.calls a b a b w rfl
theorem C_none {α : Type} (d : Kd α) (W : World) : Kd.C d W none 0 [] := ⟨rfl, by omega, fun h => absurd h (by omega)⟩
def WTruth (w : World) : World :=
  (((((w.alloc (.cells #[.int .i64 1, .int .i64 2] 3)).alloc (.cells #[.slice none 0 0, .slice (some ⟨w.heap.size, 0, none⟩) 2 2] 22)).alloc (.cells #[.int .i64 1, .int .i64 2] 3)).alloc (.cells #[.slice none 0 0, .slice (some ⟨w.heap.size + 1 + 1, 0, none⟩) 2 2] 22)).alloc
    (.cells #[.slice (some ⟨w.heap.size + 1, 0, none⟩) 2 2, .slice (some ⟨w.heap.size + 1 + 1 + 1, 0, none⟩) 2 2] 78))
theorem wTruth (w : World) : Kd.C (Kd.slice 22 (Kd.slice 3 (Kd.int .i64))) (WTruth w) (some ⟨w.heap.size + 1 + 1 + 1 + 1, 0, none⟩) 2 [[[], [1, 2]], [[], [1, 2]]] ∧ Below w.heap.size w (WTruth w) := by
  have z1 := size_new_at (w := w) (o := .cells #[.int .i64 1, .int .i64 2] 3) rfl
  have z2 := size_new_at (o := .cells #[.slice none 0 0, .slice (some ⟨w.heap.size, 0, none⟩) 2 2] 22) z1
  have z3 := size_new_at (o := .cells #[.int .i64 1, .int .i64 2] 3) z2
  have z4 := size_new_at (o := .cells #[.slice none 0 0, .slice (some ⟨w.heap.size + 1 + 1, 0, none⟩) 2 2] 22) z3
  have c1 : Kd.C (Kd.int .i64) (WTruth w) (some ⟨w.heap.size, 0, none⟩) 2 [1, 2] := C_ints [1, 2] (t := 3) (blk_alloc (blk_alloc (blk_alloc (blk_alloc (blk_new _ _) _) _) _) _) (by decide)
  have c2 : Kd.C (Kd.int .i64) (WTruth w) (some ⟨w.heap.size + 1 + 1, 0, none⟩) 2 [1, 2] := C_ints [1, 2] (t := 3) (blk_alloc (blk_alloc (blk_new_at z2) _) _) (by decide)
  have e1 : Kd.C (Kd.slice 3 (Kd.int .i64)) (WTruth w) (some ⟨w.heap.size + 1, 0, none⟩) 2 [[], [1, 2]] :=
    C_lit (d := Kd.slice 3 (Kd.int .i64)) (t := 22) (xs := [[], [1, 2]]) (blk_alloc (blk_alloc (blk_alloc (blk_new_at z1) _) _) _) (Reps.one ⟨none, 0, rfl, Nat.le_refl _, C_none _ _⟩ (Reps.one ⟨_, _, rfl, by decide, c1⟩ (Reps.none _ _))) (by decide)
  have e2 : Kd.C (Kd.slice 3 (Kd.int .i64)) (WTruth w) (some ⟨w.heap.size + 1 + 1 + 1, 0, none⟩) 2 [[], [1, 2]] :=
    C_lit (d := Kd.slice 3 (Kd.int .i64)) (t := 22) (xs := [[], [1, 2]]) (blk_alloc (blk_new_at z3) _) (Reps.one ⟨none, 0, rfl, Nat.le_refl _, C_none _ _⟩ (Reps.one ⟨_, _, rfl, by decide, c2⟩ (Reps.none _ _))) (by decide)
  refine ⟨C_lit (d := Kd.slice 22 (Kd.slice 3 (Kd.int .i64))) (t := 78) (xs := [[[], [1, 2]], [[], [1, 2]]]) (blk_new_at z4) (Reps.one ⟨_, _, rfl, by decide, e1⟩ (Reps.one ⟨_, _, rfl, by decide, e2⟩ (Reps.none _ _))) (by decide), ?_⟩
  exact (((((Below.refl _ w).alloc (by simp) _).alloc (by simp) _).alloc (by simp; omega) _).alloc (by simp; omega) _).alloc (by simp; omega) _
set_option maxRecDepth 100000 in
set_option maxHeartbeats 4000000 in
theorem awake20 (w : World) : Calls Try.prog 20 #[] w fun e w' => e = .returned (.bool true) ∧ Below w.heap.size w w' := by
  go_enter Try.func20, Try.ntmps20
  go_wp2_with fail
  refine (two64 w).mono ?_
  rintro e w1 ⟨A0, c0, A1, c1, rfl, l0, l1, h0, h1, hb⟩
  have HB1 := Aside0.mk hb
  have HC := Aside0.mk (hours29 A0 c0 [0, 2] A1 c1 twoR 5 0 1 w1 h0 l0 h1 l1)
  rw [two_hours] at HC
  clear hb h0 h1 l0 l1
  go_wp2_with fail
  refine HC.out.mono ?_
  rintro e w2 ⟨v1, rfl, hr, hb⟩
  have HB2 := Aside0.mk (below_then HB1.out HB1.out.size hb)
  obtain ⟨Av1, cv1, rfl, hl, hC⟩ := Kd.R_reads hr
  have HV1 := Aside0.mk hC
  have HL1 := Aside0.mk hl
  clear hl hC
  clear hb hr HC HB1
  go_wp2_with fail
  refine (two64 w2).mono ?_
  rintro e w3 ⟨A0, c0, A1, c1, rfl, l0, l1, h0, h1, hb⟩
  have HB3 := Aside0.mk (below_then HB2.out HB2.out.size hb)
  replace HV1 := C_below_r HV1 hb
  have HC := Aside0.mk (spans33 A0 c0 [0, 2] A1 c1 twoR 5 w3 h0 l0 h1 l1)
  rw [two_spans] at HC
  clear hb h0 h1 l0 l1 HB2
  go_wp2_with fail
  refine HC.out.mono ?_
  rintro e w4 ⟨v2, rfl, hr, hb⟩
  have HB4 := Aside0.mk (below_then HB3.out HB3.out.size hb)
  replace HV1 := C_below_r HV1 hb
  obtain ⟨Av2, cv2, rfl, hl, hC⟩ := Kd.R_reads hr
  have HV2 := Aside0.mk hC
  have HL2 := Aside0.mk hl
  clear hl hC
  clear hb hr HC HB3
  go_wp2_with fail
  refine (two64 w4).mono ?_
  rintro e w5 ⟨A0, c0, A1, c1, rfl, l0, l1, h0, h1, hb⟩
  have HB5 := Aside0.mk (below_then HB4.out HB4.out.size hb)
  replace HV1 := C_below_r HV1 hb
  replace HV2 := C_below_r HV2 hb
  have HC := Aside0.mk (surely34 A0 c0 [0, 2] A1 c1 twoR 5 w5 h0 l0 h1 l1)
  rw [two_surely] at HC
  clear hb h0 h1 l0 l1 HB4
  go_wp2_with fail
  refine HC.out.mono ?_
  rintro e w6 ⟨v3, rfl, hr, hb⟩
  have HB6 := Aside0.mk (below_then HB5.out HB5.out.size hb)
  replace HV1 := C_below_r HV1 hb
  replace HV2 := C_below_r HV2 hb
  obtain ⟨Av3, cv3, rfl, hl, hC⟩ := Kd.R_reads hr
  have HV3 := Aside0.mk hC
  have HL3 := Aside0.mk hl
  clear hl hC
  clear hb hr HC HB5
  go_wp2_with fail
  refine (two64 w6).mono ?_
  rintro e w7 ⟨A0, c0, A1, c1, rfl, l0, l1, h0, h1, hb⟩
  have HB7 := Aside0.mk (below_then HB6.out HB6.out.size hb)
  replace HV1 := C_below_r HV1 hb
  replace HV2 := C_below_r HV2 hb
  replace HV3 := C_below_r HV3 hb
  have HC := Aside0.mk (least35 A0 c0 [0, 2] A1 c1 twoR 5 w7 h0 l0 h1 l1)
  rw [two_least] at HC
  clear hb h0 h1 l0 l1 HB6
  go_wp2_with fail
  refine HC.out.mono ?_
  rintro e w8 ⟨rfl, hb⟩
  have HB8 := Aside0.mk (below_then HB7.out HB7.out.size hb)
  replace HV1 := C_below_r HV1 hb
  replace HV2 := C_below_r HV2 hb
  replace HV3 := C_below_r HV3 hb
  clear hb HC HB7
  go_wp2_with fail
  refine (two64 w8).mono ?_
  rintro e w9 ⟨A0, c0, A1, c1, rfl, l0, l1, h0, h1, hb⟩
  have HB9 := Aside0.mk (below_then HB8.out HB8.out.size hb)
  replace HV1 := C_below_r HV1 hb
  replace HV2 := C_below_r HV2 hb
  replace HV3 := C_below_r HV3 hb
  have H0 := Aside0.mk h0
  have H1 := Aside0.mk h1
  have L0 := Aside0.mk l0
  have L1 := Aside0.mk l1
  clear hb h0 h1 l0 l1 HB8
  go_wp2_with fail
  obtain ⟨ht, hbt⟩ := wTruth w9
  have HC := Aside0.mk (play23 A0 c0 [0, 2] A1 c1 twoR 5 _ 2 [[[], [1, 2]], [[], [1, 2]]] (WTruth w9) (Kd.C_below H0.out hbt) L0.out (Kd.C_below H1.out hbt) L1.out ht)
  rw [two_play] at HC
  refine HC.out.mono ?_
  rintro e w10 ⟨v4, rfl, hr, hb⟩
  replace hb := below_then hbt hbt.size hb
  have HB10 := Aside0.mk (below_then HB9.out HB9.out.size hb)
  replace HV1 := C_below_r HV1 hb
  replace HV2 := C_below_r HV2 hb
  replace HV3 := C_below_r HV3 hb
  obtain ⟨Av4, cv4, rfl, hl, hC⟩ := Kd.R_reads hr
  have HV4 := Aside0.mk hC
  have HL4 := Aside0.mk hl
  clear hl hC
  clear hb hr HC HB9 ht hbt H0 H1 L0 L1
  go_wp2_with fail
  refine (two64 w10).mono ?_
  rintro e w11 ⟨A0, c0, A1, c1, rfl, l0, l1, h0, h1, hb⟩
  have HB11 := Aside0.mk (below_then HB10.out HB10.out.size hb)
  replace HV1 := C_below_r HV1 hb
  replace HV2 := C_below_r HV2 hb
  replace HV3 := C_below_r HV3 hb
  replace HV4 := C_below_r HV4 hb
  have H0 := Aside0.mk h0
  have H1 := Aside0.mk h1
  have L0 := Aside0.mk l0
  have L1 := Aside0.mk l1
  clear hb h0 h1 l0 l1 HB10
  go_wp2_with fail
  have hbt : Below w11.heap.size w11 (w11.alloc (.cells #[.int .i64 0, .int .i64 2, .bool false, .int .i64 1, .int .i64 2, .bool false] 87)) := (Below.refl _ _).alloc (Nat.le_refl _) _
  have ht : Kd.C k87 (w11.alloc (.cells #[.int .i64 0, .int .i64 2, .bool false, .int .i64 1, .int .i64 2, .bool false] 87)) (some ⟨w11.heap.size, 0, none⟩) 2 [⟨0, 2, false⟩, ⟨1, 2, false⟩] :=
    C_lit (d := k87) (t := 87) (xs := [⟨0, 2, false⟩, ⟨1, 2, false⟩]) (blk_new _ _) (Reps.c3 (k87_mk _ _) (Reps.c3 (k87_mk _ _) (Reps.none _ _))) (by decide)
  have HC := Aside0.mk (odd50 A0 c0 [0, 2] A1 c1 twoR 5 _ 2 [⟨0, 2, false⟩, ⟨1, 2, false⟩] _ (Kd.C_below H0.out hbt) L0.out (Kd.C_below H1.out hbt) L1.out ht)
  rw [two_odd] at HC
  refine HC.out.mono ?_
  rintro e w12 ⟨v5, rfl, hr, hb⟩
  replace hb := below_then hbt hbt.size hb
  have HB12 := Aside0.mk (below_then HB11.out HB11.out.size hb)
  replace HV1 := C_below_r HV1 hb
  replace HV2 := C_below_r HV2 hb
  replace HV3 := C_below_r HV3 hb
  replace HV4 := C_below_r HV4 hb
  obtain ⟨Av5, cv5, rfl, hl, hC⟩ := Kd.R_reads hr
  have HV5 := Aside0.mk hC
  have HL5 := Aside0.mk hl
  clear hl hC
  clear hb hr HC HB11 ht hbt H0 H1 L0 L1
  go_wp2_with fail
  obtain ⟨ad, ea, e0, e1⟩ := at_T68 HV2.out 0 (by decide) (by decide)
  obtain ⟨ad', ea', e2, e3⟩ := at_T68 HV2.out 1 (by decide) (by decide)
  subst ea
  cases ea'
  have ha0 : ad.add (Int.toNat 0 * 2) = ad := by unfold Addr.add; split <;> simp_all
  have ha2 : ad.add (Int.toNat 1 * 2) = ⟨ad.block, ad.off + 2, none⟩ := by unfold Addr.add; split <;> simp_all
  rw [ha0] at e0 e1
  rw [ha2] at e2 e3
  replace e0 : w12.cell? ad = some (.int .i64 1) := e0
  replace e1 : w12.cell? ⟨ad.block, ad.off + 1, none⟩ = some (.int .i64 5) := e1
  replace e2 : w12.cell? ⟨ad.block, ad.off + 2, none⟩ = some (.int .i64 3) := e2
  replace e3 : w12.cell? ⟨ad.block, ad.off + 2 + 1, none⟩ = some (.int .i64 7) := e3
  clear ha0 ha2
  have KEEP : Aside0 (∀ w' : World, Below w12.heap.size w12 w' → (w'.cell? ad = some (.int .i64 1) ∧ w'.cell? ⟨ad.block, ad.off + 1, none⟩ = some (.int .i64 5) ∧ w'.cell? ⟨ad.block, ad.off + 2, none⟩ = some (.int .i64 3) ∧ w'.cell? ⟨ad.block, ad.off + 2 + 1, none⟩ = some (.int .i64 7))) := ⟨fun w' hb => ⟨pw_cell_below hb e0, pw_cell_below hb e1, pw_cell_below hb e2, pw_cell_below hb e3⟩⟩
  refine start_ (n := 68) (S := fun w' => w'.cell? ad = some (.int .i64 1) ∧ w'.cell? ⟨ad.block, ad.off + 1, none⟩ = some (.int .i64 5) ∧ w'.cell? ⟨ad.block, ad.off + 2, none⟩ = some (.int .i64 3) ∧ w'.cell? ⟨ad.block, ad.off + 2 + 1, none⟩ = some (.int .i64 7)) (ds := []) #[false, false, false, false, false, false, false, false, false, false, false, false, false, false, false, false, false, false, false, false, false, false, false, false, false, false, false, false, false, false, false, false, false, false, false, false, false, false, false, false, false, false, false, false, false, false, false, false, false, false, false, false, false, false, false, false, false, false, false, false, false, false, false, false, false, false, false, false] (by kernel_rfl) rfl rfl ⟨e0, e1, e2, e3⟩ (fun hHeld => ?_)
  have HQ := Aside0.mk (below_drew (Below.refl w12.heap.size w12))
  generalize w12.drew = w13 at HQ hHeld ⊢
  refine pure_ (i := 0) (N := (some 51)) (v := ?_) (a' := ?_) #[true, false, false, false, false, false, false, false, false, false, false, false, false, false, false, false, false, false, false, false, false, false, false, false, false, false, false, false, false, false, false, false, false, false, false, false, false, false, false, false, false, false, false, false, false, false, false, false, false, false, false, false, false, false, false, false, false, false, false, false, false, false, false, false, false, false, false, false] rfl rfl (by as_aux_lemma => kernel_rfl) (fun _ _ _ h => h) (Or.inl ⟨by rfl, ?_⟩) ?_ ?_
  rotate_left
  · intro w'
    go_simp
    with_reducible rfl
  rotate_left
  · simp only [Act.put, List.setIfInBounds_toArray, List.set_cons_zero, List.set_cons_succ, i64_w, i32_w]
    rfl
  refine pure_ (i := 1) (N := (some 52)) (v := ?_) (a' := ?_) #[true, true, false, false, false, false, false, false, false, false, false, false, false, false, false, false, false, false, false, false, false, false, false, false, false, false, false, false, false, false, false, false, false, false, false, false, false, false, false, false, false, false, false, false, false, false, false, false, false, false, false, false, false, false, false, false, false, false, false, false, false, false, false, false, false, false, false, false] rfl rfl (by as_aux_lemma => kernel_rfl) (fun _ _ _ h => h) (Or.inl ⟨by rfl, ?_⟩) ?_ ?_
  rotate_left
  · intro w'
    go_simp
    with_reducible rfl
  rotate_left
  · simp only [Act.put, List.setIfInBounds_toArray, List.set_cons_zero, List.set_cons_succ, i64_w, i32_w]
    rfl
  refine pure_ (i := 2) (N := (some 53)) (v := ?_) (a' := ?_) #[true, true, true, false, false, false, false, false, false, false, false, false, false, false, false, false, false, false, false, false, false, false, false, false, false, false, false, false, false, false, false, false, false, false, false, false, false, false, false, false, false, false, false, false, false, false, false, false, false, false, false, false, false, false, false, false, false, false, false, false, false, false, false, false, false, false, false, false] rfl rfl (by as_aux_lemma => kernel_rfl) (fun _ _ _ h => h) (Or.inl ⟨by rfl, ?_⟩) ?_ ?_
  rotate_left
  · intro w'
    go_simp
    with_reducible rfl
  rotate_left
  · simp only [Act.put, List.setIfInBounds_toArray, List.set_cons_zero, List.set_cons_succ, i64_w, i32_w]
    rfl
  refine pure_ (i := 3) (N := (some 54)) (v := ?_) (a' := ?_) #[true, true, true, true, false, false, false, false, false, false, false, false, false, false, false, false, false, false, false, false, false, false, false, false, false, false, false, false, false, false, false, false, false, false, false, false, false, false, false, false, false, false, false, false, false, false, false, false, false, false, false, false, false, false, false, false, false, false, false, false, false, false, false, false, false, false, false, false] rfl rfl (by as_aux_lemma => kernel_rfl) (fun _ _ _ h => h) (Or.inl ⟨by rfl, ?_⟩) ?_ ?_
  rotate_left
  · intro w'
    go_simp
    with_reducible rfl
  rotate_left
  · simp only [Act.put, List.setIfInBounds_toArray, List.set_cons_zero, List.set_cons_succ, i64_w, i32_w]
    rfl
  refine one_ (i := 4) (N := (some 55)) #[true, true, true, true, true, false, false, false, false, false, false, false, false, false, false, false, false, false, false, false, false, false, false, false, false, false, false, false, false, false, false, false, false, false, false, false, false, false, false, false, false, false, false, false, false, false, false, false, false, false, false, false, false, false, false, false, false, false, false, false, false, false, false, false, false, false, false, false] rfl rfl (by as_aux_lemma => kernel_rfl) (by decide) (fun K hK => ?_)
  have hqn : Below w13.heap.size w13 (w13.alloc (.cells #[.int .i64 6, .int .i64 7] 3)) := (Below.refl _ _).alloc (Nat.le_refl _) _
  have HBK := Aside0.mk (blk_new w13 (.cells #[.int .i64 6, .int .i64 7] 3))
  refine value_ (v := .slice (some ⟨w13.heap.size, 0, none⟩) 2 2) (w1 := w13.alloc (.cells #[.int .i64 6, .int .i64 7] 3)) (by rfl) rfl (by go_simp; done) ?_
  replace HQ := Aside0.mk (below_then HQ.out HQ.out.size hqn)
  refine hK.out _ _ (KEEP.out _ HQ.out) (fun hHeld => ?_)
  clear hK K hqn
  generalize hg13 : w13.heap.size = g13 at HBK ⊢
  have HGn := Aside0.mk hg13
  clear hg13
  generalize w13.alloc (.cells #[.int .i64 6, .int .i64 7] 3) = w14 at HBK HQ hHeld ⊢
  refine norm_ (a' := ?_) ?_ ?_
  rotate_left
  · show Act.put _ (some 55) _ = _
    simp only [Act.put, List.setIfInBounds_toArray, List.set_cons_zero, List.set_cons_succ, i64_w, i32_w]
    rfl
  refine one_ (i := 5) (N := (some 56)) #[true, true, true, true, true, true, false, false, false, false, false, false, false, false, false, false, false, false, false, false, false, false, false, false, false, false, false, false, false, false, false, false, false, false, false, false, false, false, false, false, false, false, false, false, false, false, false, false, false, false, false, false, false, false, false, false, false, false, false, false, false, false, false, false, false, false, false, false] rfl rfl (by as_aux_lemma => kernel_rfl) (by decide) (fun K hK => ?_)
  refine goes_ Try.func32 (by kernel_rfl) rfl #[.slice Av1 2 cv1, .slice (some ⟨g13, 0, none⟩) 2 2] (by rfl) rfl rfl (by (try simp only [List.map_toArray, List.map_cons, List.map_nil]); first | done | rfl) ?_
  refine (ints_lit Av1 cv1 [6, 7] g13 w14 (Kd.C_below HV1.out HQ.out) HL1.out HBK.out (by decide)).mono ?_
  rintro e w15 ⟨rfl, hb⟩
  refine ⟨_, rfl, ?_⟩
  replace HQ := Aside0.mk (below_then HQ.out HQ.out.size hb)
  clear hb
  refine hK.out _ _ (KEEP.out _ HQ.out) (fun hHeld => ?_)
  clear hK K
  refine norm_ (a' := ?_) ?_ ?_
  rotate_left
  · show Act.put _ (some 56) _ = _
    simp only [Act.put, List.setIfInBounds_toArray, List.set_cons_zero, List.set_cons_succ, i64_w, i32_w]
    rfl
  refine pure_ (i := 6) (N := (some 57)) (v := ?_) (a' := ?_) #[true, true, true, true, true, true, true, false, false, false, false, false, false, false, false, false, false, false, false, false, false, false, false, false, false, false, false, false, false, false, false, false, false, false, false, false, false, false, false, false, false, false, false, false, false, false, false, false, false, false, false, false, false, false, false, false, false, false, false, false, false, false, false, false, false, false, false, false] rfl rfl (by as_aux_lemma => kernel_rfl) (fun _ _ _ h => h) (Or.inl ⟨by rfl, ?_⟩) ?_ ?_
  rotate_left
  · intro w'
    go_simp
    with_reducible rfl
  rotate_left
  · simp only [Act.put, List.setIfInBounds_toArray, List.set_cons_zero, List.set_cons_succ, i64_w, i32_w]
    rfl
  refine pure_ (i := 7) (N := (some 58)) (v := ?_) (a' := ?_) #[true, true, true, true, true, true, true, true, false, false, false, false, false, false, false, false, false, false, false, false, false, false, false, false, false, false, false, false, false, false, false, false, false, false, false, false, false, false, false, false, false, false, false, false, false, false, false, false, false, false, false, false, false, false, false, false, false, false, false, false, false, false, false, false, false, false, false, false] rfl rfl (by as_aux_lemma => kernel_rfl) (fun _ _ _ h => h) (Or.inl ⟨by rfl, ?_⟩) ?_ ?_
  rotate_left
  · intro w'
    go_simp
    with_reducible rfl
  rotate_left
  · simp only [Act.put, List.setIfInBounds_toArray, List.set_cons_zero, List.set_cons_succ, i64_w, i32_w]
    rfl
  refine pure_ (i := 8) (N := (some 59)) (v := ?_) (a' := ?_) #[true, true, true, true, true, true, true, true, true, false, false, false, false, false, false, false, false, false, false, false, false, false, false, false, false, false, false, false, false, false, false, false, false, false, false, false, false, false, false, false, false, false, false, false, false, false, false, false, false, false, false, false, false, false, false, false, false, false, false, false, false, false, false, false, false, false, false, false] rfl rfl (by as_aux_lemma => kernel_rfl) (fun _ _ _ h => h) (Or.inl ⟨by rfl, ?_⟩) ?_ ?_
  rotate_left
  · intro w'
    go_simp
    with_reducible rfl
  rotate_left
  · simp only [Act.put, List.setIfInBounds_toArray, List.set_cons_zero, List.set_cons_succ, i64_w, i32_w]
    rfl
  refine pure_ (i := 9) (N := (some 60)) (v := ?_) (a' := ?_) #[true, true, true, true, true, true, true, true, true, true, false, false, false, false, false, false, false, false, false, false, false, false, false, false, false, false, false, false, false, false, false, false, false, false, false, false, false, false, false, false, false, false, false, false, false, false, false, false, false, false, false, false, false, false, false, false, false, false, false, false, false, false, false, false, false, false, false, false] rfl rfl (by as_aux_lemma => kernel_rfl) (fun _ _ _ h => h) (Or.inl ⟨by rfl, ?_⟩) ?_ ?_
  rotate_left
  · intro w'
    go_simp
    with_reducible rfl
  rotate_left
  · simp only [Act.put, List.setIfInBounds_toArray, List.set_cons_zero, List.set_cons_succ, i64_w, i32_w]
    rfl
  refine pure_ (i := 10) (N := (some 61)) (v := ?_) (a' := ?_) #[true, true, true, true, true, true, true, true, true, true, true, false, false, false, false, false, false, false, false, false, false, false, false, false, false, false, false, false, false, false, false, false, false, false, false, false, false, false, false, false, false, false, false, false, false, false, false, false, false, false, false, false, false, false, false, false, false, false, false, false, false, false, false, false, false, false, false, false] rfl rfl (by as_aux_lemma => kernel_rfl) (fun _ _ _ h => h) (Or.inl ⟨by rfl, ?_⟩) ?_ ?_
  rotate_left
  · intro w'
    go_simp
    with_reducible rfl
  rotate_left
  · simp only [Act.put, List.setIfInBounds_toArray, List.set_cons_zero, List.set_cons_succ, i64_w, i32_w]
    rfl
  refine pure_ (i := 11) (N := (some 62)) (v := ?_) (a' := ?_) #[true, true, true, true, true, true, true, true, true, true, true, true, false, false, false, false, false, false, false, false, false, false, false, false, false, false, false, false, false, false, false, false, false, false, false, false, false, false, false, false, false, false, false, false, false, false, false, false, false, false, false, false, false, false, false, false, false, false, false, false, false, false, false, false, false, false, false, false] rfl rfl (by as_aux_lemma => kernel_rfl) (fun _ _ _ h => h) (Or.inl ⟨by rfl, ?_⟩) ?_ ?_
  rotate_left
  · intro w'
    go_simp
    with_reducible rfl
  rotate_left
  · simp only [Act.put, List.setIfInBounds_toArray, List.set_cons_zero, List.set_cons_succ, i64_w, i32_w]
    rfl
  refine pure_ (i := 12) (N := (some 63)) (v := ?_) (a' := ?_) #[true, true, true, true, true, true, true, true, true, true, true, true, true, false, false, false, false, false, false, false, false, false, false, false, false, false, false, false, false, false, false, false, false, false, false, false, false, false, false, false, false, false, false, false, false, false, false, false, false, false, false, false, false, false, false, false, false, false, false, false, false, false, false, false, false, false, false, false] rfl rfl (by as_aux_lemma => kernel_rfl) (fun _ _ _ h => h) (Or.inl ⟨by rfl, ?_⟩) ?_ ?_
  rotate_left
  · intro w'
    go_simp
    with_reducible rfl
  rotate_left
  · simp only [Act.put, List.setIfInBounds_toArray, List.set_cons_zero, List.set_cons_succ, i64_w, i32_w]
    rfl
  refine pure_ (i := 13) (N := (some 64)) (v := ?_) (a' := ?_) #[true, true, true, true, true, true, true, true, true, true, true, true, true, true, false, false, false, false, false, false, false, false, false, false, false, false, false, false, false, false, false, false, false, false, false, false, false, false, false, false, false, false, false, false, false, false, false, false, false, false, false, false, false, false, false, false, false, false, false, false, false, false, false, false, false, false, false, false] rfl rfl (by as_aux_lemma => kernel_rfl) (fun _ _ _ h => h) (Or.inl ⟨by rfl, ?_⟩) ?_ ?_
  rotate_left
  · intro w'
    go_simp
    with_reducible rfl
  rotate_left
  · simp only [Act.put, List.setIfInBounds_toArray, List.set_cons_zero, List.set_cons_succ, i64_w, i32_w]
    rfl
  refine pure_ (i := 14) (N := (some 65)) (v := ?_) (a' := ?_) #[true, true, true, true, true, true, true, true, true, true, true, true, true, true, true, false, false, false, false, false, false, false, false, false, false, false, false, false, false, false, false, false, false, false, false, false, false, false, false, false, false, false, false, false, false, false, false, false, false, false, false, false, false, false, false, false, false, false, false, false, false, false, false, false, false, false, false, false] rfl rfl (by as_aux_lemma => kernel_rfl) (fun _ _ _ h => h) (Or.inl ⟨by rfl, ?_⟩) ?_ ?_
  rotate_left
  · intro w'
    go_simp
    with_reducible rfl
  rotate_left
  · simp only [Act.put, List.setIfInBounds_toArray, List.set_cons_zero, List.set_cons_succ, i64_w, i32_w]
    rfl
  refine pure_ (i := 15) (N := (some 66)) (v := ?_) (a' := ?_) #[true, true, true, true, true, true, true, true, true, true, true, true, true, true, true, true, false, false, false, false, false, false, false, false, false, false, false, false, false, false, false, false, false, false, false, false, false, false, false, false, false, false, false, false, false, false, false, false, false, false, false, false, false, false, false, false, false, false, false, false, false, false, false, false, false, false, false, false] rfl rfl (by as_aux_lemma => kernel_rfl) (fun _ _ _ h => h) (Or.inl ⟨by rfl, ?_⟩) ?_ ?_
  rotate_left
  · intro w'
    go_simp
    with_reducible rfl
  rotate_left
  · simp only [Act.put, List.setIfInBounds_toArray, List.set_cons_zero, List.set_cons_succ, i64_w, i32_w]
    rfl
  refine pure_ (i := 16) (N := (some 67)) (v := ?_) (a' := ?_) #[true, true, true, true, true, true, true, true, true, true, true, true, true, true, true, true, true, false, false, false, false, false, false, false, false, false, false, false, false, false, false, false, false, false, false, false, false, false, false, false, false, false, false, false, false, false, false, false, false, false, false, false, false, false, false, false, false, false, false, false, false, false, false, false, false, false, false, false] rfl rfl (by as_aux_lemma => kernel_rfl) (fun _ _ _ h => h) (Or.inl ⟨by rfl, ?_⟩) ?_ ?_
  rotate_left
  · intro w'
    go_simp
    with_reducible rfl
  rotate_left
  · simp only [Act.put, List.setIfInBounds_toArray, List.set_cons_zero, List.set_cons_succ, i64_w, i32_w]
    rfl
  refine pure_ (i := 17) (N := (some 68)) (v := ?_) (a' := ?_) #[true, true, true, true, true, true, true, true, true, true, true, true, true, true, true, true, true, true, false, false, false, false, false, false, false, false, false, false, false, false, false, false, false, false, false, false, false, false, false, false, false, false, false, false, false, false, false, false, false, false, false, false, false, false, false, false, false, false, false, false, false, false, false, false, false, false, false, false] rfl rfl (by as_aux_lemma => kernel_rfl) (fun _ _ _ h => h) (Or.inl ⟨by rfl, ?_⟩) ?_ ?_
  rotate_left
  · intro w'
    go_simp
    with_reducible rfl
  rotate_left
  · simp only [Act.put, List.setIfInBounds_toArray, List.set_cons_zero, List.set_cons_succ, i64_w, i32_w]
    rfl
  refine pure_ (i := 18) (N := (some 69)) (v := ?_) (a' := ?_) #[true, true, true, true, true, true, true, true, true, true, true, true, true, true, true, true, true, true, true, false, false, false, false, false, false, false, false, false, false, false, false, false, false, false, false, false, false, false, false, false, false, false, false, false, false, false, false, false, false, false, false, false, false, false, false, false, false, false, false, false, false, false, false, false, false, false, false, false] rfl rfl (by as_aux_lemma => kernel_rfl) (fun _ _ _ h => h) (Or.inl ⟨by rfl, ?_⟩) ?_ ?_
  rotate_left
  · intro w'
    go_simp
    with_reducible rfl
  rotate_left
  · simp only [Act.put, List.setIfInBounds_toArray, List.set_cons_zero, List.set_cons_succ, i64_w, i32_w]
    rfl
  refine take_ (i := 19) (N := (some 70)) (v := ?_) (a' := ?_) #[true, true, true, true, true, true, true, true, true, true, true, true, true, true, true, true, true, true, true, true, false, false, false, false, false, false, false, false, false, false, false, false, false, false, false, false, false, false, false, false, false, false, false, false, false, false, false, false, false, false, false, false, false, false, false, false, false, false, false, false, false, false, false, false, false, false, false, false] rfl rfl (by as_aux_lemma => kernel_rfl) (fun _ _ _ h => h) (Or.inl ⟨by rfl, ?_⟩) hHeld ?_ ?_
  rotate_left
  · rintro w' ⟨s0, s1, s2, s3⟩
    go_simp
    with_reducible rfl
  rotate_left
  · simp only [Act.put, List.setIfInBounds_toArray, List.set_cons_zero, List.set_cons_succ, i64_w, i32_w]
    rfl
  refine one_ (i := 20) (N := (some 71)) #[true, true, true, true, true, true, true, true, true, true, true, true, true, true, true, true, true, true, true, true, true, false, false, false, false, false, false, false, false, false, false, false, false, false, false, false, false, false, false, false, false, false, false, false, false, false, false, false, false, false, false, false, false, false, false, false, false, false, false, false, false, false, false, false, false, false, false, false] rfl rfl (by as_aux_lemma => kernel_rfl) (by decide) (fun K hK => ?_)
  refine goes_ Try.func56 (by kernel_rfl) rfl #[.int .i64 1, .int .i64 5] (by rfl) rfl rfl (by (try simp only [List.map_toArray, List.map_cons, List.map_nil]); first | done | rfl) ?_
  refine (between56 1 5 w15).mono ?_
  rintro e w16 ⟨rfl, hb⟩
  refine ⟨_, rfl, ?_⟩
  replace HQ := Aside0.mk (below_then HQ.out HQ.out.size hb)
  clear hb
  refine hK.out _ _ (KEEP.out _ HQ.out) (fun hHeld => ?_)
  clear hK K
  refine norm_ (a' := ?_) ?_ ?_
  rotate_left
  · show Act.put _ (some 71) _ = _
    simp only [Act.put, List.setIfInBounds_toArray, List.set_cons_zero, List.set_cons_succ, i64_w, i32_w]
    rfl
  refine pure_ (i := 21) (N := (some 72)) (v := ?_) (a' := ?_) #[true, true, true, true, true, true, true, true, true, true, true, true, true, true, true, true, true, true, true, true, true, true, false, false, false, false, false, false, false, false, false, false, false, false, false, false, false, false, false, false, false, false, false, false, false, false, false, false, false, false, false, false, false, false, false, false, false, false, false, false, false, false, false, false, false, false, false, false] rfl rfl (by as_aux_lemma => kernel_rfl) (fun _ _ _ h => h) (Or.inl ⟨by rfl, ?_⟩) ?_ ?_
  rotate_left
  · intro w'
    go_simp
    with_reducible rfl
  rotate_left
  · simp only [Act.put, List.setIfInBounds_toArray, List.set_cons_zero, List.set_cons_succ, i64_w, i32_w]
    rfl
  refine pure_ (i := 22) (N := (some 73)) (v := ?_) (a' := ?_) #[true, true, true, true, true, true, true, true, true, true, true, true, true, true, true, true, true, true, true, true, true, true, true, false, false, false, false, false, false, false, false, false, false, false, false, false, false, false, false, false, false, false, false, false, false, false, false, false, false, false, false, false, false, false, false, false, false, false, false, false, false, false, false, false, false, false, false, false] rfl rfl (by as_aux_lemma => kernel_rfl) (fun _ _ _ h => h) (Or.inl ⟨by rfl, ?_⟩) ?_ ?_
  rotate_left
  · intro w'
    go_simp
    with_reducible rfl
  rotate_left
  · simp only [Act.put, List.setIfInBounds_toArray, List.set_cons_zero, List.set_cons_succ, i64_w, i32_w]
    rfl
  refine pure_ (i := 23) (N := (some 74)) (v := ?_) (a' := ?_) #[true, true, true, true, true, true, true, true, true, true, true, true, true, true, true, true, true, true, true, true, true, true, true, true, false, false, false, false, false, false, false, false, false, false, false, false, false, false, false, false, false, false, false, false, false, false, false, false, false, false, false, false, false, false, false, false, false, false, false, false, false, false, false, false, false, false, false, false] rfl rfl (by as_aux_lemma => kernel_rfl) (fun _ _ _ h => h) (Or.inl ⟨by rfl, ?_⟩) ?_ ?_
  rotate_left
  · intro w'
    go_simp
    with_reducible rfl
  rotate_left
  · simp only [Act.put, List.setIfInBounds_toArray, List.set_cons_zero, List.set_cons_succ, i64_w, i32_w]
    rfl
  refine pure_ (i := 24) (N := (some 75)) (v := ?_) (a' := ?_) #[true, true, true, true, true, true, true, true, true, true, true, true, true, true, true, true, true, true, true, true, true, true, true, true, true, false, false, false, false, false, false, false, false, false, false, false, false, false, false, false, false, false, false, false, false, false, false, false, false, false, false, false, false, false, false, false, false, false, false, false, false, false, false, false, false, false, false, false] rfl rfl (by as_aux_lemma => kernel_rfl) (fun _ _ _ h => h) (Or.inl ⟨by rfl, ?_⟩) ?_ ?_
  rotate_left
  · intro w'
    go_simp
    with_reducible rfl
  rotate_left
  · simp only [Act.put, List.setIfInBounds_toArray, List.set_cons_zero, List.set_cons_succ, i64_w, i32_w]
    rfl
  refine pure_ (i := 25) (N := (some 76)) (v := ?_) (a' := ?_) #[true, true, true, true, true, true, true, true, true, true, true, true, true, true, true, true, true, true, true, true, true, true, true, true, true, true, false, false, false, false, false, false, false, false, false, false, false, false, false, false, false, false, false, false, false, false, false, false, false, false, false, false, false, false, false, false, false, false, false, false, false, false, false, false, false, false, false, false] rfl rfl (by as_aux_lemma => kernel_rfl) (fun _ _ _ h => h) (Or.inl ⟨by rfl, ?_⟩) ?_ ?_
  rotate_left
  · intro w'
    go_simp
    with_reducible rfl
  rotate_left
  · simp only [Act.put, List.setIfInBounds_toArray, List.set_cons_zero, List.set_cons_succ, i64_w, i32_w]
    rfl
  refine take_ (i := 26) (N := (some 77)) (v := ?_) (a' := ?_) #[true, true, true, true, true, true, true, true, true, true, true, true, true, true, true, true, true, true, true, true, true, true, true, true, true, true, true, false, false, false, false, false, false, false, false, false, false, false, false, false, false, false, false, false, false, false, false, false, false, false, false, false, false, false, false, false, false, false, false, false, false, false, false, false, false, false, false, false] rfl rfl (by as_aux_lemma => kernel_rfl) (fun _ _ _ h => h) (Or.inl ⟨by rfl, ?_⟩) hHeld ?_ ?_
  rotate_left
  · rintro w' ⟨s0, s1, s2, s3⟩
    go_simp
    with_reducible rfl
  rotate_left
  · simp only [Act.put, List.setIfInBounds_toArray, List.set_cons_zero, List.set_cons_succ, i64_w, i32_w]
    rfl
  refine one_ (i := 27) (N := (some 78)) #[true, true, true, true, true, true, true, true, true, true, true, true, true, true, true, true, true, true, true, true, true, true, true, true, true, true, true, true, false, false, false, false, false, false, false, false, false, false, false, false, false, false, false, false, false, false, false, false, false, false, false, false, false, false, false, false, false, false, false, false, false, false, false, false, false, false, false, false] rfl rfl (by as_aux_lemma => kernel_rfl) (by decide) (fun K hK => ?_)
  refine goes_ Try.func56 (by kernel_rfl) rfl #[.int .i64 3, .int .i64 7] (by rfl) rfl rfl (by (try simp only [List.map_toArray, List.map_cons, List.map_nil]); first | done | rfl) ?_
  refine (between56 3 7 w16).mono ?_
  rintro e w17 ⟨rfl, hb⟩
  refine ⟨_, rfl, ?_⟩
  replace HQ := Aside0.mk (below_then HQ.out HQ.out.size hb)
  clear hb
  refine hK.out _ _ (KEEP.out _ HQ.out) (fun hHeld => ?_)
  clear hK K
  refine norm_ (a' := ?_) ?_ ?_
  rotate_left
  · show Act.put _ (some 78) _ = _
    simp only [Act.put, List.setIfInBounds_toArray, List.set_cons_zero, List.set_cons_succ, i64_w, i32_w]
    rfl
  refine pure_ (i := 28) (N := (some 79)) (v := ?_) (a' := ?_) #[true, true, true, true, true, true, true, true, true, true, true, true, true, true, true, true, true, true, true, true, true, true, true, true, true, true, true, true, true, false, false, false, false, false, false, false, false, false, false, false, false, false, false, false, false, false, false, false, false, false, false, false, false, false, false, false, false, false, false, false, false, false, false, false, false, false, false, false] rfl rfl (by as_aux_lemma => kernel_rfl) (fun _ _ _ h => h) (Or.inl ⟨by rfl, ?_⟩) ?_ ?_
  rotate_left
  · intro w'
    go_simp
    with_reducible rfl
  rotate_left
  · simp only [Act.put, List.setIfInBounds_toArray, List.set_cons_zero, List.set_cons_succ, i64_w, i32_w]
    rfl
  refine pure_ (i := 29) (N := (some 80)) (v := ?_) (a' := ?_) #[true, true, true, true, true, true, true, true, true, true, true, true, true, true, true, true, true, true, true, true, true, true, true, true, true, true, true, true, true, true, false, false, false, false, false, false, false, false, false, false, false, false, false, false, false, false, false, false, false, false, false, false, false, false, false, false, false, false, false, false, false, false, false, false, false, false, false, false] rfl rfl (by as_aux_lemma => kernel_rfl) (fun _ _ _ h => h) (Or.inl ⟨by rfl, ?_⟩) ?_ ?_
  rotate_left
  · intro w'
    go_simp
    with_reducible rfl
  rotate_left
  · simp only [Act.put, List.setIfInBounds_toArray, List.set_cons_zero, List.set_cons_succ, i64_w, i32_w]
    rfl
  refine pure_ (i := 30) (N := (some 81)) (v := ?_) (a' := ?_) #[true, true, true, true, true, true, true, true, true, true, true, true, true, true, true, true, true, true, true, true, true, true, true, true, true, true, true, true, true, true, true, false, false, false, false, false, false, false, false, false, false, false, false, false, false, false, false, false, false, false, false, false, false, false, false, false, false, false, false, false, false, false, false, false, false, false, false, false] rfl rfl (by as_aux_lemma => kernel_rfl) (fun _ _ _ h => h) (Or.inl ⟨by rfl, ?_⟩) ?_ ?_
  rotate_left
  · intro w'
    go_simp
    with_reducible rfl
  rotate_left
  · simp only [Act.put, List.setIfInBounds_toArray, List.set_cons_zero, List.set_cons_succ, i64_w, i32_w]
    rfl
  refine pure_ (i := 31) (N := (some 82)) (v := ?_) (a' := ?_) #[true, true, true, true, true, true, true, true, true, true, true, true, true, true, true, true, true, true, true, true, true, true, true, true, true, true, true, true, true, true, true, true, false, false, false, false, false, false, false, false, false, false, false, false, false, false, false, false, false, false, false, false, false, false, false, false, false, false, false, false, false, false, false, false, false, false, false, false] rfl rfl (by as_aux_lemma => kernel_rfl) (fun _ _ _ h => h) (Or.inl ⟨by rfl, ?_⟩) ?_ ?_
  rotate_left
  · intro w'
    go_simp
    with_reducible rfl
  rotate_left
  · simp only [Act.put, List.setIfInBounds_toArray, List.set_cons_zero, List.set_cons_succ, i64_w, i32_w]
    rfl
  refine pure_ (i := 32) (N := (some 83)) (v := ?_) (a' := ?_) #[true, true, true, true, true, true, true, true, true, true, true, true, true, true, true, true, true, true, true, true, true, true, true, true, true, true, true, true, true, true, true, true, true, false, false, false, false, false, false, false, false, false, false, false, false, false, false, false, false, false, false, false, false, false, false, false, false, false, false, false, false, false, false, false, false, false, false, false] rfl rfl (by as_aux_lemma => kernel_rfl) (fun _ _ _ h => h) (Or.inl ⟨by rfl, ?_⟩) ?_ ?_
  rotate_left
  · intro w'
    go_simp
    with_reducible rfl
  rotate_left
  · simp only [Act.put, List.setIfInBounds_toArray, List.set_cons_zero, List.set_cons_succ, i64_w, i32_w]
    rfl
  refine pure_ (i := 33) (N := (some 84)) (v := ?_) (a' := ?_) #[true, true, true, true, true, true, true, true, true, true, true, true, true, true, true, true, true, true, true, true, true, true, true, true, true, true, true, true, true, true, true, true, true, true, false, false, false, false, false, false, false, false, false, false, false, false, false, false, false, false, false, false, false, false, false, false, false, false, false, false, false, false, false, false, false, false, false, false] rfl rfl (by as_aux_lemma => kernel_rfl) (fun _ _ _ h => h) (Or.inl ⟨by rfl, ?_⟩) ?_ ?_
  rotate_left
  · intro w'
    go_simp
    with_reducible rfl
  rotate_left
  · simp only [Act.put, List.setIfInBounds_toArray, List.set_cons_zero, List.set_cons_succ, i64_w, i32_w]
    rfl
  refine pure_ (i := 34) (N := (some 85)) (v := ?_) (a' := ?_) #[true, true, true, true, true, true, true, true, true, true, true, true, true, true, true, true, true, true, true, true, true, true, true, true, true, true, true, true, true, true, true, true, true, true, true, false, false, false, false, false, false, false, false, false, false, false, false, false, false, false, false, false, false, false, false, false, false, false, false, false, false, false, false, false, false, false, false, false] rfl rfl (by as_aux_lemma => kernel_rfl) (fun _ _ _ h => h) (Or.inl ⟨by rfl, ?_⟩) ?_ ?_
  rotate_left
  · intro w'
    go_simp
    with_reducible rfl
  rotate_left
  · simp only [Act.put, List.setIfInBounds_toArray, List.set_cons_zero, List.set_cons_succ, i64_w, i32_w]
    rfl
  refine pure_ (i := 35) (N := (some 86)) (v := ?_) (a' := ?_) #[true, true, true, true, true, true, true, true, true, true, true, true, true, true, true, true, true, true, true, true, true, true, true, true, true, true, true, true, true, true, true, true, true, true, true, true, false, false, false, false, false, false, false, false, false, false, false, false, false, false, false, false, false, false, false, false, false, false, false, false, false, false, false, false, false, false, false, false] rfl rfl (by as_aux_lemma => kernel_rfl) (fun _ _ _ h => h) (Or.inl ⟨by rfl, ?_⟩) ?_ ?_
  rotate_left
  · intro w'
    go_simp
    with_reducible rfl
  rotate_left
  · simp only [Act.put, List.setIfInBounds_toArray, List.set_cons_zero, List.set_cons_succ, i64_w, i32_w]
    rfl
  refine one_ (i := 36) (N := (some 87)) #[true, true, true, true, true, true, true, true, true, true, true, true, true, true, true, true, true, true, true, true, true, true, true, true, true, true, true, true, true, true, true, true, true, true, true, true, true, false, false, false, false, false, false, false, false, false, false, false, false, false, false, false, false, false, false, false, false, false, false, false, false, false, false, false, false, false, false, false] rfl rfl (by as_aux_lemma => kernel_rfl) (by decide) (fun K hK => ?_)
  have hqn : Below w17.heap.size w17 (w17.alloc (.cells #[.int .i64 1] 3)) := (Below.refl _ _).alloc (Nat.le_refl _) _
  have HBK := Aside0.mk (blk_new w17 (.cells #[.int .i64 1] 3))
  refine value_ (v := .slice (some ⟨w17.heap.size, 0, none⟩) 1 1) (w1 := w17.alloc (.cells #[.int .i64 1] 3)) (by rfl) rfl (by go_simp; done) ?_
  replace HQ := Aside0.mk (below_then HQ.out HQ.out.size hqn)
  refine hK.out _ _ (KEEP.out _ HQ.out) (fun hHeld => ?_)
  clear hK K hqn
  generalize hg17 : w17.heap.size = g17 at HBK ⊢
  have HGn := Aside0.mk hg17
  clear hg17
  generalize w17.alloc (.cells #[.int .i64 1] 3) = w18 at HBK HQ hHeld ⊢
  refine norm_ (a' := ?_) ?_ ?_
  rotate_left
  · show Act.put _ (some 87) _ = _
    simp only [Act.put, List.setIfInBounds_toArray, List.set_cons_zero, List.set_cons_succ, i64_w, i32_w]
    rfl
  refine one_ (i := 37) (N := (some 88)) #[true, true, true, true, true, true, true, true, true, true, true, true, true, true, true, true, true, true, true, true, true, true, true, true, true, true, true, true, true, true, true, true, true, true, true, true, true, true, false, false, false, false, false, false, false, false, false, false, false, false, false, false, false, false, false, false, false, false, false, false, false, false, false, false, false, false, false, false] rfl rfl (by as_aux_lemma => kernel_rfl) (by decide) (fun K hK => ?_)
  refine goes_ Try.func32 (by kernel_rfl) rfl #[.slice Av3 1 cv3, .slice (some ⟨g17, 0, none⟩) 1 1] (by rfl) rfl rfl (by (try simp only [List.map_toArray, List.map_cons, List.map_nil]); first | done | rfl) ?_
  refine (ints_lit Av3 cv3 [1] g17 w18 (Kd.C_below HV3.out HQ.out) HL3.out HBK.out (by decide)).mono ?_
  rintro e w19 ⟨rfl, hb⟩
  refine ⟨_, rfl, ?_⟩
  replace HQ := Aside0.mk (below_then HQ.out HQ.out.size hb)
  clear hb
  refine hK.out _ _ (KEEP.out _ HQ.out) (fun hHeld => ?_)
  clear hK K
  refine norm_ (a' := ?_) ?_ ?_
  rotate_left
  · show Act.put _ (some 88) _ = _
    simp only [Act.put, List.setIfInBounds_toArray, List.set_cons_zero, List.set_cons_succ, i64_w, i32_w]
    rfl
  refine pure_ (i := 38) (N := (some 89)) (v := ?_) (a' := ?_) #[true, true, true, true, true, true, true, true, true, true, true, true, true, true, true, true, true, true, true, true, true, true, true, true, true, true, true, true, true, true, true, true, true, true, true, true, true, true, true, false, false, false, false, false, false, false, false, false, false, false, false, false, false, false, false, false, false, false, false, false, false, false, false, false, false, false, false, false] rfl rfl (by as_aux_lemma => kernel_rfl) (fun _ _ _ h => h) (Or.inl ⟨by rfl, ?_⟩) ?_ ?_
  rotate_left
  · intro w'
    go_simp
    with_reducible rfl
  rotate_left
  · simp only [Act.put, List.setIfInBounds_toArray, List.set_cons_zero, List.set_cons_succ, i64_w, i32_w]
    rfl
  refine pure_ (i := 39) (N := (some 90)) (v := ?_) (a' := ?_) #[true, true, true, true, true, true, true, true, true, true, true, true, true, true, true, true, true, true, true, true, true, true, true, true, true, true, true, true, true, true, true, true, true, true, true, true, true, true, true, true, false, false, false, false, false, false, false, false, false, false, false, false, false, false, false, false, false, false, false, false, false, false, false, false, false, false, false, false] rfl rfl (by as_aux_lemma => kernel_rfl) (fun _ _ _ h => h) (Or.inl ⟨by rfl, ?_⟩) ?_ ?_
  rotate_left
  · intro w'
    go_simp
    with_reducible rfl
  rotate_left
  · simp only [Act.put, List.setIfInBounds_toArray, List.set_cons_zero, List.set_cons_succ, i64_w, i32_w]
    rfl
  refine pure_ (i := 40) (N := (some 91)) (v := ?_) (a' := ?_) #[true, true, true, true, true, true, true, true, true, true, true, true, true, true, true, true, true, true, true, true, true, true, true, true, true, true, true, true, true, true, true, true, true, true, true, true, true, true, true, true, true, false, false, false, false, false, false, false, false, false, false, false, false, false, false, false, false, false, false, false, false, false, false, false, false, false, false, false] rfl rfl (by as_aux_lemma => kernel_rfl) (fun _ _ _ h => h) (Or.inl ⟨by rfl, ?_⟩) ?_ ?_
  rotate_left
  · intro w'
    go_simp
    with_reducible rfl
  rotate_left
  · simp only [Act.put, List.setIfInBounds_toArray, List.set_cons_zero, List.set_cons_succ, i64_w, i32_w]
    rfl
  refine pure_ (i := 41) (N := (some 92)) (v := ?_) (a' := ?_) #[true, true, true, true, true, true, true, true, true, true, true, true, true, true, true, true, true, true, true, true, true, true, true, true, true, true, true, true, true, true, true, true, true, true, true, true, true, true, true, true, true, true, false, false, false, false, false, false, false, false, false, false, false, false, false, false, false, false, false, false, false, false, false, false, false, false, false, false] rfl rfl (by as_aux_lemma => kernel_rfl) (fun _ _ _ h => h) (Or.inl ⟨by rfl, ?_⟩) ?_ ?_
  rotate_left
  · intro w'
    go_simp
    with_reducible rfl
  rotate_left
  · simp only [Act.put, List.setIfInBounds_toArray, List.set_cons_zero, List.set_cons_succ, i64_w, i32_w]
    rfl
  refine pure_ (i := 42) (N := (some 93)) (v := ?_) (a' := ?_) #[true, true, true, true, true, true, true, true, true, true, true, true, true, true, true, true, true, true, true, true, true, true, true, true, true, true, true, true, true, true, true, true, true, true, true, true, true, true, true, true, true, true, true, false, false, false, false, false, false, false, false, false, false, false, false, false, false, false, false, false, false, false, false, false, false, false, false, false] rfl rfl (by as_aux_lemma => kernel_rfl) (fun _ _ _ h => h) (Or.inl ⟨by rfl, ?_⟩) ?_ ?_
  rotate_left
  · intro w'
    go_simp
    with_reducible rfl
  rotate_left
  · simp only [Act.put, List.setIfInBounds_toArray, List.set_cons_zero, List.set_cons_succ, i64_w, i32_w]
    rfl
  refine pure_ (i := 43) (N := (some 94)) (v := ?_) (a' := ?_) #[true, true, true, true, true, true, true, true, true, true, true, true, true, true, true, true, true, true, true, true, true, true, true, true, true, true, true, true, true, true, true, true, true, true, true, true, true, true, true, true, true, true, true, true, false, false, false, false, false, false, false, false, false, false, false, false, false, false, false, false, false, false, false, false, false, false, false, false] rfl rfl (by as_aux_lemma => kernel_rfl) (fun _ _ _ h => h) (Or.inl ⟨by rfl, ?_⟩) ?_ ?_
  rotate_left
  · intro w'
    go_simp
    with_reducible rfl
  rotate_left
  · simp only [Act.put, List.setIfInBounds_toArray, List.set_cons_zero, List.set_cons_succ, i64_w, i32_w]
    rfl
  refine pure_ (i := 44) (N := (some 95)) (v := ?_) (a' := ?_) #[true, true, true, true, true, true, true, true, true, true, true, true, true, true, true, true, true, true, true, true, true, true, true, true, true, true, true, true, true, true, true, true, true, true, true, true, true, true, true, true, true, true, true, true, true, false, false, false, false, false, false, false, false, false, false, false, false, false, false, false, false, false, false, false, false, false, false, false] rfl rfl (by as_aux_lemma => kernel_rfl) (fun _ _ _ h => h) (Or.inl ⟨by rfl, ?_⟩) ?_ ?_
  rotate_left
  · intro w'
    go_simp
    with_reducible rfl
  rotate_left
  · simp only [Act.put, List.setIfInBounds_toArray, List.set_cons_zero, List.set_cons_succ, i64_w, i32_w]
    rfl
  refine pure_ (i := 45) (N := (some 96)) (v := ?_) (a' := ?_) #[true, true, true, true, true, true, true, true, true, true, true, true, true, true, true, true, true, true, true, true, true, true, true, true, true, true, true, true, true, true, true, true, true, true, true, true, true, true, true, true, true, true, true, true, true, true, false, false, false, false, false, false, false, false, false, false, false, false, false, false, false, false, false, false, false, false, false, false] rfl rfl (by as_aux_lemma => kernel_rfl) (fun _ _ _ h => h) (Or.inl ⟨by rfl, ?_⟩) ?_ ?_
  rotate_left
  · intro w'
    go_simp
    with_reducible rfl
  rotate_left
  · simp only [Act.put, List.setIfInBounds_toArray, List.set_cons_zero, List.set_cons_succ, i64_w, i32_w]
    rfl
  refine pure_ (i := 46) (N := (some 97)) (v := ?_) (a' := ?_) #[true, true, true, true, true, true, true, true, true, true, true, true, true, true, true, true, true, true, true, true, true, true, true, true, true, true, true, true, true, true, true, true, true, true, true, true, true, true, true, true, true, true, true, true, true, true, true, false, false, false, false, false, false, false, false, false, false, false, false, false, false, false, false, false, false, false, false, false] rfl rfl (by as_aux_lemma => kernel_rfl) (fun _ _ _ h => h) (Or.inl ⟨by rfl, ?_⟩) ?_ ?_
  rotate_left
  · intro w'
    go_simp
    with_reducible rfl
  rotate_left
  · simp only [Act.put, List.setIfInBounds_toArray, List.set_cons_zero, List.set_cons_succ, i64_w, i32_w]
    rfl
  refine pure_ (i := 47) (N := (some 98)) (v := ?_) (a' := ?_) #[true, true, true, true, true, true, true, true, true, true, true, true, true, true, true, true, true, true, true, true, true, true, true, true, true, true, true, true, true, true, true, true, true, true, true, true, true, true, true, true, true, true, true, true, true, true, true, true, false, false, false, false, false, false, false, false, false, false, false, false, false, false, false, false, false, false, false, false] rfl rfl (by as_aux_lemma => kernel_rfl) (fun _ _ _ h => h) (Or.inl ⟨by rfl, ?_⟩) ?_ ?_
  rotate_left
  · intro w'
    go_simp
    with_reducible rfl
  rotate_left
  · simp only [Act.put, List.setIfInBounds_toArray, List.set_cons_zero, List.set_cons_succ, i64_w, i32_w]
    rfl
  refine pure_ (i := 48) (N := (some 99)) (v := ?_) (a' := ?_) #[true, true, true, true, true, true, true, true, true, true, true, true, true, true, true, true, true, true, true, true, true, true, true, true, true, true, true, true, true, true, true, true, true, true, true, true, true, true, true, true, true, true, true, true, true, true, true, true, true, false, false, false, false, false, false, false, false, false, false, false, false, false, false, false, false, false, false, false] rfl rfl (by as_aux_lemma => kernel_rfl) (fun _ _ _ h => h) (Or.inl ⟨by rfl, ?_⟩) ?_ ?_
  rotate_left
  · intro w'
    go_simp
    with_reducible rfl
  rotate_left
  · simp only [Act.put, List.setIfInBounds_toArray, List.set_cons_zero, List.set_cons_succ, i64_w, i32_w]
    rfl
  refine pure_ (i := 49) (N := (some 100)) (v := ?_) (a' := ?_) #[true, true, true, true, true, true, true, true, true, true, true, true, true, true, true, true, true, true, true, true, true, true, true, true, true, true, true, true, true, true, true, true, true, true, true, true, true, true, true, true, true, true, true, true, true, true, true, true, true, true, false, false, false, false, false, false, false, false, false, false, false, false, false, false, false, false, false, false] rfl rfl (by as_aux_lemma => kernel_rfl) (fun _ _ _ h => h) (Or.inl ⟨by rfl, ?_⟩) ?_ ?_
  rotate_left
  · intro w'
    go_simp
    with_reducible rfl
  rotate_left
  · simp only [Act.put, List.setIfInBounds_toArray, List.set_cons_zero, List.set_cons_succ, i64_w, i32_w]
    rfl
  refine pure_ (i := 50) (N := (some 101)) (v := ?_) (a' := ?_) #[true, true, true, true, true, true, true, true, true, true, true, true, true, true, true, true, true, true, true, true, true, true, true, true, true, true, true, true, true, true, true, true, true, true, true, true, true, true, true, true, true, true, true, true, true, true, true, true, true, true, true, false, false, false, false, false, false, false, false, false, false, false, false, false, false, false, false, false] rfl rfl (by as_aux_lemma => kernel_rfl) (fun _ _ _ h => h) (Or.inl ⟨by rfl, ?_⟩) ?_ ?_
  rotate_left
  · intro w'
    go_simp
    with_reducible rfl
  rotate_left
  · simp only [Act.put, List.setIfInBounds_toArray, List.set_cons_zero, List.set_cons_succ, i64_w, i32_w]
    rfl
  refine pure_ (i := 51) (N := (some 102)) (v := ?_) (a' := ?_) #[true, true, true, true, true, true, true, true, true, true, true, true, true, true, true, true, true, true, true, true, true, true, true, true, true, true, true, true, true, true, true, true, true, true, true, true, true, true, true, true, true, true, true, true, true, true, true, true, true, true, true, true, false, false, false, false, false, false, false, false, false, false, false, false, false, false, false, false] rfl rfl (by as_aux_lemma => kernel_rfl) (fun _ _ _ h => h) (Or.inl ⟨by rfl, ?_⟩) ?_ ?_
  rotate_left
  · intro w'
    go_simp
    with_reducible rfl
  rotate_left
  · simp only [Act.put, List.setIfInBounds_toArray, List.set_cons_zero, List.set_cons_succ, i64_w, i32_w]
    rfl
  refine pure_ (i := 52) (N := (some 103)) (v := ?_) (a' := ?_) #[true, true, true, true, true, true, true, true, true, true, true, true, true, true, true, true, true, true, true, true, true, true, true, true, true, true, true, true, true, true, true, true, true, true, true, true, true, true, true, true, true, true, true, true, true, true, true, true, true, true, true, true, true, false, false, false, false, false, false, false, false, false, false, false, false, false, false, false] rfl rfl (by as_aux_lemma => kernel_rfl) (fun _ _ _ h => h) (Or.inl ⟨by rfl, ?_⟩) ?_ ?_
  rotate_left
  · intro w'
    go_simp
    with_reducible rfl
  rotate_left
  · simp only [Act.put, List.setIfInBounds_toArray, List.set_cons_zero, List.set_cons_succ, i64_w, i32_w]
    rfl
  refine pure_ (i := 53) (N := (some 104)) (v := ?_) (a' := ?_) #[true, true, true, true, true, true, true, true, true, true, true, true, true, true, true, true, true, true, true, true, true, true, true, true, true, true, true, true, true, true, true, true, true, true, true, true, true, true, true, true, true, true, true, true, true, true, true, true, true, true, true, true, true, true, false, false, false, false, false, false, false, false, false, false, false, false, false, false] rfl rfl (by as_aux_lemma => kernel_rfl) (fun _ _ _ h => h) (Or.inl ⟨by rfl, ?_⟩) ?_ ?_
  rotate_left
  · intro w'
    go_simp
    with_reducible rfl
  rotate_left
  · simp only [Act.put, List.setIfInBounds_toArray, List.set_cons_zero, List.set_cons_succ, i64_w, i32_w]
    rfl
  refine pure_ (i := 54) (N := (some 105)) (v := ?_) (a' := ?_) #[true, true, true, true, true, true, true, true, true, true, true, true, true, true, true, true, true, true, true, true, true, true, true, true, true, true, true, true, true, true, true, true, true, true, true, true, true, true, true, true, true, true, true, true, true, true, true, true, true, true, true, true, true, true, true, false, false, false, false, false, false, false, false, false, false, false, false, false] rfl rfl (by as_aux_lemma => kernel_rfl) (fun _ _ _ h => h) (Or.inl ⟨by rfl, ?_⟩) ?_ ?_
  rotate_left
  · intro w'
    go_simp
    with_reducible rfl
  rotate_left
  · simp only [Act.put, List.setIfInBounds_toArray, List.set_cons_zero, List.set_cons_succ, i64_w, i32_w]
    rfl
  refine one_ (i := 55) (N := (some 106)) #[true, true, true, true, true, true, true, true, true, true, true, true, true, true, true, true, true, true, true, true, true, true, true, true, true, true, true, true, true, true, true, true, true, true, true, true, true, true, true, true, true, true, true, true, true, true, true, true, true, true, true, true, true, true, true, true, false, false, false, false, false, false, false, false, false, false, false, false] rfl rfl (by as_aux_lemma => kernel_rfl) (by decide) (fun K hK => ?_)
  have hqn : Below w19.heap.size w19 (w19.alloc (.cells #[.int .i64 0, .int .i64 5, .bool true, .int .i64 1, .int .i64 7, .bool false] 108)) := (Below.refl _ _).alloc (Nat.le_refl _) _
  have HBK := Aside0.mk (blk_new w19 (.cells #[.int .i64 0, .int .i64 5, .bool true, .int .i64 1, .int .i64 7, .bool false] 108))
  refine value_ (v := .slice (some ⟨w19.heap.size, 0, none⟩) 2 2) (w1 := w19.alloc (.cells #[.int .i64 0, .int .i64 5, .bool true, .int .i64 1, .int .i64 7, .bool false] 108)) (by rfl) rfl (by go_simp; done) ?_
  replace HQ := Aside0.mk (below_then HQ.out HQ.out.size hqn)
  refine hK.out _ _ (KEEP.out _ HQ.out) (fun hHeld => ?_)
  clear hK K hqn
  generalize hg19 : w19.heap.size = g19 at HBK ⊢
  have HGn := Aside0.mk hg19
  clear hg19
  generalize w19.alloc (.cells #[.int .i64 0, .int .i64 5, .bool true, .int .i64 1, .int .i64 7, .bool false] 108) = w20 at HBK HQ hHeld ⊢
  refine norm_ (a' := ?_) ?_ ?_
  rotate_left
  · show Act.put _ (some 106) _ = _
    simp only [Act.put, List.setIfInBounds_toArray, List.set_cons_zero, List.set_cons_succ, i64_w, i32_w]
    rfl
  refine one_ (i := 56) (N := (some 107)) #[true, true, true, true, true, true, true, true, true, true, true, true, true, true, true, true, true, true, true, true, true, true, true, true, true, true, true, true, true, true, true, true, true, true, true, true, true, true, true, true, true, true, true, true, true, true, true, true, true, true, true, true, true, true, true, true, true, false, false, false, false, false, false, false, false, false, false, false] rfl rfl (by as_aux_lemma => kernel_rfl) (by decide) (fun K hK => ?_)
  refine goes_ Try.func27 (by kernel_rfl) rfl #[.slice Av4 2 cv4, .slice (some ⟨g19, 0, none⟩) 2 2] (by rfl) rfl rfl (by (try simp only [List.map_toArray, List.map_cons, List.map_nil]); first | done | rfl) ?_
  refine (same_two Av4 cv4 g19 w20 (Kd.C_below HV4.out HQ.out) HL4.out HBK.out).mono ?_
  rintro e w21 ⟨rfl, hb⟩
  refine ⟨_, rfl, ?_⟩
  replace HQ := Aside0.mk (below_then HQ.out HQ.out.size hb)
  clear hb
  refine hK.out _ _ (KEEP.out _ HQ.out) (fun hHeld => ?_)
  clear hK K
  refine norm_ (a' := ?_) ?_ ?_
  rotate_left
  · show Act.put _ (some 107) _ = _
    simp only [Act.put, List.setIfInBounds_toArray, List.set_cons_zero, List.set_cons_succ, i64_w, i32_w]
    rfl
  refine pure_ (i := 57) (N := (some 108)) (v := ?_) (a' := ?_) #[true, true, true, true, true, true, true, true, true, true, true, true, true, true, true, true, true, true, true, true, true, true, true, true, true, true, true, true, true, true, true, true, true, true, true, true, true, true, true, true, true, true, true, true, true, true, true, true, true, true, true, true, true, true, true, true, true, true, false, false, false, false, false, false, false, false, false, false] rfl rfl (by as_aux_lemma => kernel_rfl) (fun _ _ _ h => h) (Or.inl ⟨by rfl, ?_⟩) ?_ ?_
  rotate_left
  · intro w'
    go_simp
    with_reducible rfl
  rotate_left
  · simp only [Act.put, List.setIfInBounds_toArray, List.set_cons_zero, List.set_cons_succ, i64_w, i32_w]
    rfl
  refine pure_ (i := 58) (N := (some 109)) (v := ?_) (a' := ?_) #[true, true, true, true, true, true, true, true, true, true, true, true, true, true, true, true, true, true, true, true, true, true, true, true, true, true, true, true, true, true, true, true, true, true, true, true, true, true, true, true, true, true, true, true, true, true, true, true, true, true, true, true, true, true, true, true, true, true, true, false, false, false, false, false, false, false, false, false] rfl rfl (by as_aux_lemma => kernel_rfl) (fun _ _ _ h => h) (Or.inl ⟨by rfl, ?_⟩) ?_ ?_
  rotate_left
  · intro w'
    go_simp
    with_reducible rfl
  rotate_left
  · simp only [Act.put, List.setIfInBounds_toArray, List.set_cons_zero, List.set_cons_succ, i64_w, i32_w]
    rfl
  refine pure_ (i := 59) (N := (some 110)) (v := ?_) (a' := ?_) #[true, true, true, true, true, true, true, true, true, true, true, true, true, true, true, true, true, true, true, true, true, true, true, true, true, true, true, true, true, true, true, true, true, true, true, true, true, true, true, true, true, true, true, true, true, true, true, true, true, true, true, true, true, true, true, true, true, true, true, true, false, false, false, false, false, false, false, false] rfl rfl (by as_aux_lemma => kernel_rfl) (fun _ _ _ h => h) (Or.inl ⟨by rfl, ?_⟩) ?_ ?_
  rotate_left
  · intro w'
    go_simp
    with_reducible rfl
  rotate_left
  · simp only [Act.put, List.setIfInBounds_toArray, List.set_cons_zero, List.set_cons_succ, i64_w, i32_w]
    rfl
  refine pure_ (i := 60) (N := (some 111)) (v := ?_) (a' := ?_) #[true, true, true, true, true, true, true, true, true, true, true, true, true, true, true, true, true, true, true, true, true, true, true, true, true, true, true, true, true, true, true, true, true, true, true, true, true, true, true, true, true, true, true, true, true, true, true, true, true, true, true, true, true, true, true, true, true, true, true, true, true, false, false, false, false, false, false, false] rfl rfl (by as_aux_lemma => kernel_rfl) (fun _ _ _ h => h) (Or.inl ⟨by rfl, ?_⟩) ?_ ?_
  rotate_left
  · intro w'
    go_simp
    with_reducible rfl
  rotate_left
  · simp only [Act.put, List.setIfInBounds_toArray, List.set_cons_zero, List.set_cons_succ, i64_w, i32_w]
    rfl
  refine pure_ (i := 61) (N := (some 112)) (v := ?_) (a' := ?_) #[true, true, true, true, true, true, true, true, true, true, true, true, true, true, true, true, true, true, true, true, true, true, true, true, true, true, true, true, true, true, true, true, true, true, true, true, true, true, true, true, true, true, true, true, true, true, true, true, true, true, true, true, true, true, true, true, true, true, true, true, true, true, false, false, false, false, false, false] rfl rfl (by as_aux_lemma => kernel_rfl) (fun _ _ _ h => h) (Or.inl ⟨by rfl, ?_⟩) ?_ ?_
  rotate_left
  · intro w'
    go_simp
    with_reducible rfl
  rotate_left
  · simp only [Act.put, List.setIfInBounds_toArray, List.set_cons_zero, List.set_cons_succ, i64_w, i32_w]
    rfl
  refine pure_ (i := 62) (N := (some 113)) (v := ?_) (a' := ?_) #[true, true, true, true, true, true, true, true, true, true, true, true, true, true, true, true, true, true, true, true, true, true, true, true, true, true, true, true, true, true, true, true, true, true, true, true, true, true, true, true, true, true, true, true, true, true, true, true, true, true, true, true, true, true, true, true, true, true, true, true, true, true, true, false, false, false, false, false] rfl rfl (by as_aux_lemma => kernel_rfl) (fun _ _ _ h => h) (Or.inl ⟨by rfl, ?_⟩) ?_ ?_
  rotate_left
  · intro w'
    go_simp
    with_reducible rfl
  rotate_left
  · simp only [Act.put, List.setIfInBounds_toArray, List.set_cons_zero, List.set_cons_succ, i64_w, i32_w]
    rfl
  refine pure_ (i := 63) (N := (some 114)) (v := ?_) (a' := ?_) #[true, true, true, true, true, true, true, true, true, true, true, true, true, true, true, true, true, true, true, true, true, true, true, true, true, true, true, true, true, true, true, true, true, true, true, true, true, true, true, true, true, true, true, true, true, true, true, true, true, true, true, true, true, true, true, true, true, true, true, true, true, true, true, true, false, false, false, false] rfl rfl (by as_aux_lemma => kernel_rfl) (fun _ _ _ h => h) (Or.inl ⟨by rfl, ?_⟩) ?_ ?_
  rotate_left
  · intro w'
    go_simp
    with_reducible rfl
  rotate_left
  · simp only [Act.put, List.setIfInBounds_toArray, List.set_cons_zero, List.set_cons_succ, i64_w, i32_w]
    rfl
  refine one_ (i := 64) (N := (some 115)) #[true, true, true, true, true, true, true, true, true, true, true, true, true, true, true, true, true, true, true, true, true, true, true, true, true, true, true, true, true, true, true, true, true, true, true, true, true, true, true, true, true, true, true, true, true, true, true, true, true, true, true, true, true, true, true, true, true, true, true, true, true, true, true, true, true, false, false, false] rfl rfl (by as_aux_lemma => kernel_rfl) (by decide) (fun K hK => ?_)
  have hqn : Below w21.heap.size w21 (w21.alloc (.cells #[.int .i64 1] 3)) := (Below.refl _ _).alloc (Nat.le_refl _) _
  have HBK := Aside0.mk (blk_new w21 (.cells #[.int .i64 1] 3))
  refine value_ (v := .slice (some ⟨w21.heap.size, 0, none⟩) 1 1) (w1 := w21.alloc (.cells #[.int .i64 1] 3)) (by rfl) rfl (by go_simp; done) ?_
  replace HQ := Aside0.mk (below_then HQ.out HQ.out.size hqn)
  refine hK.out _ _ (KEEP.out _ HQ.out) (fun hHeld => ?_)
  clear hK K hqn
  generalize hg21 : w21.heap.size = g21 at HBK ⊢
  have HGn := Aside0.mk hg21
  clear hg21
  generalize w21.alloc (.cells #[.int .i64 1] 3) = w22 at HBK HQ hHeld ⊢
  refine norm_ (a' := ?_) ?_ ?_
  rotate_left
  · show Act.put _ (some 115) _ = _
    simp only [Act.put, List.setIfInBounds_toArray, List.set_cons_zero, List.set_cons_succ, i64_w, i32_w]
    rfl
  refine one_ (i := 65) (N := (some 116)) #[true, true, true, true, true, true, true, true, true, true, true, true, true, true, true, true, true, true, true, true, true, true, true, true, true, true, true, true, true, true, true, true, true, true, true, true, true, true, true, true, true, true, true, true, true, true, true, true, true, true, true, true, true, true, true, true, true, true, true, true, true, true, true, true, true, true, false, false] rfl rfl (by as_aux_lemma => kernel_rfl) (by decide) (fun K hK => ?_)
  refine goes_ Try.func32 (by kernel_rfl) rfl #[.slice Av5 1 cv5, .slice (some ⟨g21, 0, none⟩) 1 1] (by rfl) rfl rfl (by (try simp only [List.map_toArray, List.map_cons, List.map_nil]); first | done | rfl) ?_
  refine (ints_lit Av5 cv5 [1] g21 w22 (Kd.C_below HV5.out HQ.out) HL5.out HBK.out (by decide)).mono ?_
  rintro e w23 ⟨rfl, hb⟩
  refine ⟨_, rfl, ?_⟩
  replace HQ := Aside0.mk (below_then HQ.out HQ.out.size hb)
  clear hb
  refine hK.out _ _ (KEEP.out _ HQ.out) (fun hHeld => ?_)
  clear hK K
  refine norm_ (a' := ?_) ?_ ?_
  rotate_left
  · show Act.put _ (some 116) _ = _
    simp only [Act.put, List.setIfInBounds_toArray, List.set_cons_zero, List.set_cons_succ, i64_w, i32_w]
    rfl
  refine pure_ (i := 66) (N := (some 117)) (v := ?_) (a' := ?_) #[true, true, true, true, true, true, true, true, true, true, true, true, true, true, true, true, true, true, true, true, true, true, true, true, true, true, true, true, true, true, true, true, true, true, true, true, true, true, true, true, true, true, true, true, true, true, true, true, true, true, true, true, true, true, true, true, true, true, true, true, true, true, true, true, true, true, true, false] rfl rfl (by as_aux_lemma => kernel_rfl) (fun _ _ _ h => h) (Or.inl ⟨by rfl, ?_⟩) ?_ ?_
  rotate_left
  · intro w'
    go_simp
    with_reducible rfl
  rotate_left
  · simp only [Act.put, List.setIfInBounds_toArray, List.set_cons_zero, List.set_cons_succ, i64_w, i32_w]
    rfl
  refine pure_ (i := 67) (N := (some 0)) (v := ?_) (a' := ?_) #[true, true, true, true, true, true, true, true, true, true, true, true, true, true, true, true, true, true, true, true, true, true, true, true, true, true, true, true, true, true, true, true, true, true, true, true, true, true, true, true, true, true, true, true, true, true, true, true, true, true, true, true, true, true, true, true, true, true, true, true, true, true, true, true, true, true, true, true] rfl rfl (by as_aux_lemma => kernel_rfl) (fun _ _ _ h => h) (Or.inl ⟨by rfl, ?_⟩) ?_ ?_
  rotate_left
  · intro w'
    go_simp
    with_reducible rfl
  rotate_left
  · simp only [Act.put, List.setIfInBounds_toArray, List.set_cons_zero, List.set_cons_succ, i64_w, i32_w]
    rfl
  refine done_ (by kernel_rfl) ?_
  go_wp2_with fail
  go_ret
  exact ⟨rfl, below_then HB12.out HB12.out.size HQ.out⟩
end Go.Proofs.Ytiephlhohgohcaa.PAll
namespace Go.Proofs.Ytiephlhohgohcaa.PAll
open Go.RowKit Go.Proofs.YtiephlhohgohcaaW.PrintWords Go.Proofs.YtiephlhohgohcaaW.PrintLast Go.Proofs.YtiephlhohgohcaaW.PrintMore
set_option linter.unusedVariables false
set_option linter.unusedSimpArgs false
/-- A post of the reference in memory. -/
structure PostAt (w : World) (A0 : Option Addr) (c0 : Nat) (sends : List Int) (A1 : Option Addr) (c1 : Nat) (routes : List S54) : Prop where
  h0 : Kd.C (Kd.int .i64) w A0 sends.length sends
  l0 : sends.length ≤ c0
  h1 : Kd.C k54 w A1 routes.length routes
  l1 : routes.length ≤ c1
theorem PostAt.below {w w' : World} {A0 : Option Addr} {c0 : Nat} {sends : List Int} {A1 : Option Addr} {c1 : Nat} {routes : List S54} (h : PostAt w A0 c0 sends A1 c1 routes) (hb : Below w.heap.size w w') : PostAt w' A0 c0 sends A1 c1 routes := ⟨Kd.C_below h.h0 hb, h.l0, Kd.C_below h.h1 hb, h.l1⟩
/-- A post of the program in memory. -/
structure PAt (w : World) (A0 : Option Addr) (c0 : Nat) (sends : List Int) (A1 : Option Addr) (c1 : Nat) (routes : List S122) : Prop where
  h0 : Kd.C (Kd.int .i64) w A0 sends.length sends
  l0 : sends.length ≤ c0
  h1 : Kd.C k122 w A1 routes.length routes
  l1 : routes.length ≤ c1
theorem PAt.below {w w' : World} {A0 : Option Addr} {c0 : Nat} {sends : List Int} {A1 : Option Addr} {c1 : Nat} {routes : List S122} (h : PAt w A0 c0 sends A1 c1 routes) (hb : Below w.heap.size w w') : PAt w' A0 c0 sends A1 c1 routes := ⟨Kd.C_below h.h0 hb, h.l0, Kd.C_below h.h1 hb, h.l1⟩
theorem thin_spec {sends : List Int} {routes : List S54} (h : thinB sends routes = true) : sends.length ≤ 7 ∧ routes.length ≤ 6 ∧ (∀ r ∈ routes, r.f0.length ≤ 6) ∧ ∀ r ∈ routes, ∀ l ∈ r.f0, l.f1.length ≤ 5 := by
  simp only [thinB, thinR, p5, Bool.and_eq_true, decide_eq_true_eq, List.all_eq_true] at h
  exact ⟨h.1, h.2.1, fun r hr => (h.2.2 r hr).1, fun r hr => (h.2.2 r hr).2⟩
section
variable {w : World} {A0 : Option Addr} {c0 : Nat} {sends : List Int} {A1 : Option Addr} {c1 : Nat} {routes : List S54} {rs : List S122}
theorem thin18 (pat : Int) (h : PostAt w A0 c0 sends A1 c1 routes) :
    Calls Try.prog 18 #[.agg #[.slice A0 sends.length c0, .slice A1 routes.length c1, .int .i64 pat]] w fun e w' => e = .returned (.bool (thinB sends routes)) ∧ Below w.heap.size w w' := by
  obtain ⟨k, hk⟩ := thin_f sends routes pat
  exact glisterlaw05_Thin.calls k A0 c0 sends A1 c1 routes pat _ w h.h0 h.l0 h.h1 h.l1 hk
theorem fault25 (pat : Int) (hrs : rs = routes.map toX) (h : PostAt w A0 c0 sends A1 c1 routes) (h7 : sends.length ≤ 7) :
    Calls Try.prog 25 #[.agg #[.slice A0 sends.length c0, .slice A1 routes.length c1, .int .i64 pat]] w fun e w' => e = .returned (.int .i64 (check sends rs pat)) ∧ Below w.heap.size w w' := by
  subst hrs
  obtain ⟨k, hk⟩ := lawFault_f sends routes pat h7
  exact glisterlaw05_fault.calls k A0 c0 sends A1 c1 routes pat _ w h.h0 h.l0 h.h1 h.l1 hk
/-- The program's post of a thin one. -/
theorem post22_thin (pat : Int) (hrs : rs = routes.map toX) (h : PostAt w A0 c0 sends A1 c1 routes) (ht : thinB sends routes = true) :
    Calls Try.prog 22 #[.agg #[.slice A0 sends.length c0, .slice A1 routes.length c1, .int .i64 pat]] w fun e w' => ∃ A2 c2 A3 c3, e = .returned (.agg #[.slice A2 sends.length c2, .slice A3 rs.length c3, .int .i64 pat]) ∧ PAt w' A2 c2 sends A3 c3 rs ∧ Below w.heap.size w w' := by
  subst hrs
  obtain ⟨h1, h2, h3, h4⟩ := thin_spec ht
  refine (post22 A0 c0 sends A1 c1 routes pat w h.h0 h.h1 (by omega) (by omega) (fun r hr => by have := h3 r hr; omega) (fun r hr l hl => by have := h4 r hr l hl; omega)).mono ?_
  rintro e w' ⟨vs, vr, rfl, hs, hr, hb⟩
  obtain ⟨A2, c2, rfl, l2, g2⟩ := Kd.R_reads hs
  obtain ⟨A3, c3, rfl, l3, g3⟩ := Kd.R_reads hr
  exact ⟨A2, c2, A3, c3, rfl, ⟨g2, l2, g3, l3⟩, hb⟩
end
end Go.Proofs.Ytiephlhohgohcaa.PAll
namespace Go.Proofs.Ytiephlhohgohcaa.PAll
open Go.RowKit Go.Proofs.YtiephlhohgohcaaW.PrintWords Go.Proofs.YtiephlhohgohcaaW.PrintLast Go.Proofs.YtiephlhohgohcaaW.PrintMore
attribute [local go_sem] max2_int min2_int max_two min_two max_three min_three max_four min_four
set_option linter.unusedVariables false
set_option linter.unusedSimpArgs false
/-- The law's own copy of its post, and all that lay before. -/
structure BoxAt (w W : World) (A0 : Option Addr) (c0 n0 : Nat) (A1 : Option Addr) (c1 n1 : Nat) (pat : Int) : Prop where
  below : Below w.heap.size w W
  box : W.heap[w.heap.size]? = some (.cells #[.slice A0 n0 c0, .slice A1 n1 c1, .int .i64 pat] 25 (0, 0))
section
variable {w W : World} {A0 : Option Addr} {c0 n0 : Nat} {A1 : Option Addr} {c1 n1 : Nat} {pat : Int}
theorem BoxAt.start (w : World) (A0 : Option Addr) (c0 n0 : Nat) (A1 : Option Addr) (c1 n1 : Nat) (pat : Int) : BoxAt w (w.alloc (.cells #[.slice A0 n0 c0, .slice A1 n1 c1, .int .i64 pat] 25)) A0 c0 n0 A1 c1 n1 pat :=
  ⟨(Below.refl _ w).alloc (Nat.le_refl _) _, blk_new _ _⟩
theorem BoxAt.later {W' : World} (h : BoxAt w W A0 c0 n0 A1 c1 n1 pat) (hb : Below W.heap.size W W') : BoxAt w W' A0 c0 n0 A1 c1 n1 pat := ⟨below_then h.below h.below.size hb, blk_below h.box hb⟩
theorem BoxAt.x0 (h : BoxAt w W A0 c0 n0 A1 c1 n1 pat) : W.cell? ⟨w.heap.size, 0, none⟩ = some (.slice A0 n0 c0) := (blk_cell h.box 0).trans rfl
theorem BoxAt.x1 (h : BoxAt w W A0 c0 n0 A1 c1 n1 pat) : W.cell? ⟨w.heap.size, 1, none⟩ = some (.slice A1 n1 c1) := (blk_cell h.box 1).trans rfl
theorem BoxAt.x2 (h : BoxAt w W A0 c0 n0 A1 c1 n1 pat) : W.cell? ⟨w.heap.size, 2, none⟩ = some (.int .i64 pat) := (blk_cell h.box 2).trans rfl
end
end Go.Proofs.Ytiephlhohgohcaa.PAll
