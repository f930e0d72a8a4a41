/- Part 13 of what the row rests on: each text as it stands among the working texts, cut to what is used; those of the print of the kit as a program printed them. -/
import Derived.Test.YtiephlhohgohcaaEnds12
import Derived.Test.YtiephlhohgohcaaEnds8
import Derived.Test.YtiephlhohgohcaaEnds11
import Derived.Test.YtiephlhohgohcaaEnds5
set_option linter.unusedVariables false
set_option linter.unusedSimpArgs false
namespace Go.Proofs.Ytiephlhohgohcaa.PAll
open Go.RowKit Go.Shelf Go.Proofs.YtiephlhohgohcaaW.PrintWords Go.Proofs.YtiephlhohgohcaaW.PrintLast Go.Proofs.YtiephlhohgohcaaW.PrintMore
set_option linter.unusedVariables false
set_option linter.unusedSimpArgs false
attribute [local go_sem] Oper.semAt_some
/-- A post at work. -/
def WorkAt (W : World) (g : Nat) (A0 : Option Addr) (c0 : Nat) (sends : List Int) (A1 : Option Addr) (c1 : Nat) (routes : List S122) (pat : Int) : Prop :=
  ∃ mb n m, W.heap[g]? = some (.cells #[.slice A0 sends.length c0, .slice A1 routes.length c1, .int .i64 pat, .map (some mb)] 138 (0, 0)) ∧ HMap W mb n m ∧
    ∀ (i : Nat) (hi : i < sends.length) (k : Nat) (hk : k < routes.length), ∃ s, m i k = some s ∧ SetAt W s (setsOf routes[k].f0 sends[i])
theorem HMap.grow {W : World} {b n : Nat} {m : Int → Int → Option Nat} (h : HMap W b n m) : ∃ D : DataW Unit, W.ownsMap Try.prog 142 ptrElem b n D ∧ Maps.IsMap D ∧ ∀ i k kl, keyOf Try.prog 142 (.agg #[.int .i64 i, .int .i64 k]) = some kl → D.atKey kl .nil = (match m i k with | some g => .lit (.int .i64 (g : Int)) | none => .nil) := by
  obtain ⟨D, h1, h2⟩ := h
  obtain ⟨es, clock, _, _, _, e⟩ := id h1
  exact ⟨D, h1, ⟨_, e⟩, h2⟩
theorem HMap.ne {W : World} {b n s : Nat} {m : Int → Int → Option Nat} {f : Int → Bool} (h : HMap W b n m) (hs : SetAt W s f) : some s ≠ some b := by
  obtain ⟨D, ⟨es, clock, h1, _⟩, _⟩ := h
  obtain ⟨cs, h2, _⟩ := hs
  intro e; cases e
  rw [h1] at h2; cases h2
theorem HMap.all {W W' : World} {b n : Nat} {m : Int → Int → Option Nat} (h : HMap W b n m) (hk : KeptAll W W') : HMap W' b n m := by
  obtain ⟨D, ⟨es, clock, h1, h2⟩, h3⟩ := h
  exact ⟨D, ⟨es, clock, hk _ _ h1 (fun x e => by cases e), h2⟩, h3⟩
theorem SetAt.all {W W' : World} {s : Nat} {f : Int → Bool} (h : SetAt W s f) (hk : KeptAll W W') : SetAt W' s f := by
  obtain ⟨cs, h1, h2⟩ := h
  exact ⟨cs, hk _ _ h1 (fun x e => by cases e), h2⟩
/-- The sets that are in the map after i dispatches and k routes. -/
def DoneAt (sends : List Int) (routes : List S122) (m : Int → Int → Option Nat) (W : World) (i k : Nat) : Prop :=
  ∀ (i' k' : Nat) (hi : i' < sends.length) (hk : k' < routes.length), (i' < i ∨ i' = i ∧ k' < k) → ∃ s, m i' k' = some s ∧ SetAt W s (setsOf routes[k'].f0 sends[i'])
theorem DoneAt.below {sends : List Int} {routes : List S122} {m : Int → Int → Option Nat} {W W' : World} {i k : Nat} (h : DoneAt sends routes m W i k) (hb : Below W.heap.size W W') : DoneAt sends routes m W' i k := fun i' k' hi hk hh => by
  obtain ⟨s, h1, h2⟩ := h i' k' hi hk hh; exact ⟨s, h1, h2.below hb⟩
theorem DoneAt.next {sends : List Int} {routes : List S122} {m : Int → Int → Option Nat} {W : World} {i : Nat} (h : DoneAt sends routes m W i routes.length) : DoneAt sends routes m W (i + 1) 0 := fun i' k' hi hk hh => h i' k' hi hk (by omega)
theorem KeepsFrom.of_below {B : Nat} {w w' : World} (h : Below w.heap.size w w') : KeepsFrom B w w' := ⟨h.size, fun k o _ hk _ => blk_below hk h⟩
/-- What is said of blocks that were there before the loop begins. -/
theorem ownFrom_leg {β : Type} {B g10 gs : Nat} {lo hi : Int} {A5 : Option Addr} {n5 c5 : Nat} (F : β → Int → Bool) (hB : g10 + 4 ≤ B) :
    OwnFrom B (fun (s : β) (W : World) => W.heap[g10]? = some (.cells #[.int .i64 lo, .int .i64 hi, .slice A5 n5 c5] 119 (0, 0)) ∧ W.heap[g10 + 2]? = some (.cells #[.pointer (some ⟨g10 + 1, 0, none⟩)] 135 (0, 0)) ∧ W.heap[g10 + 3]? = some (.cells #[.pointer (some ⟨gs, 0, none⟩)] 135 (0, 0)) ∧ SetAt W (g10 + 1) (F s)) := by
  rintro s X Y row ⟨h1, h2, h4, h3⟩ hg hr
  have hne : ∀ k, k < g10 + 4 → some k ≠ row := fun k hk e => by have := (hr k e.symm).1; omega
  exact ⟨blk_grown h1 hg (hne _ (by omega)), blk_grown h2 hg (hne _ (by omega)), blk_grown h4 hg (hne _ (by omega)), h3.eq (hg.block _ h3.lt (hne _ (by omega)))⟩
set_option maxRecDepth 100000 in
set_option maxHeartbeats 4000000 in
theorem work78_at (A0 : Option Addr) (c0 : Nat) (sends : List Int) (A1 : Option Addr) (c1 : Nat) (routes : List S122) (pat : Int) (w : World) (h0 : Kd.C (Kd.int .i64) w A0 sends.length sends) (h1 : Kd.C k122 w A1 routes.length routes)
    (hs : sends.length ≤ 4) (hr : routes.length ≤ 3) (hsr : ∀ s ∈ sends, 0 ≤ s ∧ s ≤ 30) (hln : ∀ r ∈ routes, r.f0.length ≤ 3) (hlg : ∀ r ∈ routes, ∀ l ∈ r.f0, LegOk l) :
    Calls Try.prog 78 #[.agg #[.slice A0 sends.length c0, .slice A1 routes.length c1, .int .i64 pat]] w fun e w' =>
      ∃ g, w.heap.size ≤ g ∧ e = .returned (.pointer (some ⟨g, 0, none⟩)) ∧ WorkAt w' g A0 c0 sends A1 c1 routes pat ∧ Below w.heap.size w w' := by
  have HR0 := Aside0.mk h0
  have HR1 := Aside0.mk h1
  have HS := Aside0.mk hsr
  have HL := Aside0.mk hln
  have HG := Aside0.mk hlg
  clear h0 h1 hsr hln hlg
  obtain ⟨b0, hb0⟩ : ∃ b0, b0 = w.heap.size := ⟨_, rfl⟩
  obtain ⟨W3, hW3⟩ : ∃ W3, W3 = ((w.alloc (.cells #[.slice A0 sends.length c0, .slice A1 routes.length c1, .int .i64 pat] 34)).alloc (.map #[] 0)).alloc (.cells #[.slice A0 sends.length c0, .slice A1 routes.length c1, .int .i64 pat, .map (some (b0 + 1))] 138) := ⟨_, rfl⟩
  have hmm := @run_makeMap Try.prog
  have HB3 : Aside0 (Below b0 w W3) := ⟨by rw [hW3, hb0]; exact (((Below.refl _ w).alloc (Nat.le_refl _) _).alloc (by simp) _).alloc (by simp; omega) _⟩
  have HM3 : Aside0 (HMap W3 (b0 + 1) 0 (fun _ _ => none)) := ⟨by
    have h1 := HMap.made (w.alloc (.cells #[.slice A0 sends.length c0, .slice A1 routes.length c1, .int .i64 pat] 34))
    rw [World.size_alloc, ← hb0] at h1
    rw [hW3]
    exact h1.below ((Below.refl _ _).alloc (Nat.le_refl _) _)⟩
  have HX3 : Aside0 (W3.heap[b0]? = some (.cells #[.slice A0 sends.length c0, .slice A1 routes.length c1, .int .i64 pat] 34 (0, 0))) := ⟨by
    have h1 := blk_new w (.cells #[.slice A0 sends.length c0, .slice A1 routes.length c1, .int .i64 pat] 34)
    rw [← hb0] at h1
    rw [hW3]
    exact blk_below (blk_below h1 ((Below.refl _ _).alloc (Nat.le_refl _) _)) ((Below.refl _ _).alloc (Nat.le_refl _) _)⟩
  have HK3 : Aside0 (W3.heap[b0 + 2]? = some (.cells #[.slice A0 sends.length c0, .slice A1 routes.length c1, .int .i64 pat, .map (some (b0 + 1))] 138 (0, 0))) := ⟨by
    have h1 := blk_new ((w.alloc (.cells #[.slice A0 sends.length c0, .slice A1 routes.length c1, .int .i64 pat] 34)).alloc (.map #[] 0)) (.cells #[.slice A0 sends.length c0, .slice A1 routes.length c1, .int .i64 pat, .map (some (b0 + 1))] 138)
    rw [World.size_alloc, World.size_alloc, ← hb0] at h1
    rw [hW3]
    exact h1⟩
  have HW3 := Aside0.mk hW3
  clear hW3
  have HBB := Aside0.mk hb0
  refine (callsIn_wide (n := 9)).1 (callsIn_of_wp_marks Try.func78 rfl trivial ?_ rfl)
  simp only [Try.ntmps78, List.size_toArray, List.length_cons, List.length_nil, Nat.reduceAdd, Nat.reduceSub, Array.replicate_succ, Array.replicate_zero, List.push_toArray, List.append_toArray, List.nil_append, List.cons_append]
  refine wpIn_wide.2 ?_
  clear hb0
  go_wp2_with fail
  rw [← HBB.out, show b0 + 1 + 1 = b0 + 2 from rfl, ← HW3.out]
  clear HW3 hmm
  refine wp_loop_d [4, 5, 6, 7, 8, 10, 11, 12, 13, 21, 22, 23, 24, 25, 26, 27, 28, 29, 30, 31, 32, 33, 34, 35, 36, 37, 38, 39, 40, 41, 42, 43, 44, 45, 46, 47, 48, 49, 50, 51, 52, 53, 54, 55, 56, 57, 58, 59, 60, 61, 62, 63, 64, 65, 66, 67, 68, 69, 70, 71, 72, 73, 74, 75, 76, 77, 78, 79, 80, 81, 82, 83, 84, 85, 86, 87] sends.length (fun N u es W => ∃ (i cnt : Nat) (m : Int → Int → Option Nat), i ≤ sends.length ∧ sends.length - i ≤ N ∧ u 21 = .int .i64 i ∧ cnt ≤ 3 * i ∧
    Aside0 (W.heap[b0]? = some (.cells #[.slice A0 sends.length c0, .slice A1 routes.length c1, .int .i64 pat] 34 (0, 0))) ∧
    Aside0 (W.heap[b0 + 2]? = some (.cells #[.slice A0 sends.length c0, .slice A1 routes.length c1, .int .i64 pat, .map (some (b0 + 1))] 138 (0, 0))) ∧
    Aside0 (HMap W (b0 + 1) cnt m) ∧ Aside0 (DoneAt sends routes m W i 0) ∧ Aside0 (Below b0 w W) ∧ Aside0 (Marks (b0 + 3) es W)) ?_ ?_
  · exact ⟨0, 0, _, by omega, by omega, rfl, by omega, HX3, HK3, HM3, ⟨fun _ _ _ _ hh => by omega⟩, HB3, ⟨Marks.nil _ _⟩⟩
  rintro N u es W ⟨i, cnt, m, hi, hN, hu21, hcnt, HX, HK, HM, HD, HB, HMk⟩ J K hJ hK
  simp only [over, List.foldl_cons, List.foldl_nil, List.setIfInBounds_toArray, List.set_cons_succ, List.set_cons_zero]
  rw [hu21]
  have HJ := Aside0.mk hJ
  clear hJ hu21 HX3 HK3 HM3 HB3
  have x0 : W.cell? ⟨b0, 0, none⟩ = some (.slice A0 sends.length c0) := (blk_cell HX.out 0).trans rfl
  have x1 : W.cell? ⟨b0, 1, none⟩ = some (.slice A1 routes.length c1) := (blk_cell HX.out 1).trans rfl
  by_cases hlt : i < sends.length
  · have hltz : (i : Int) < (sends.length : Int) := by omega
    obtain ⟨ad, e0, d0⟩ := Kd.at_int HR0.out (i : Int) (by omega) hltz
    cases e0
    rw [Int.toNat_natCast] at d0
    have hx : rd sends (i : Int) = sends[i] := by unfold rd; rw [Int.toNat_natCast, rd_in _ _ _ hlt]
    have HSi := Aside0.mk (show 0 ≤ rd sends (i : Int) ∧ rd sends (i : Int) ≤ 30 by rw [hx]; exact HS.out _ (List.getElem_mem hlt))
    have HXi := Aside0.mk hx
    have d1 := (HB.out.cell (HBB.out ▸ World.block_lt_of_cell? w _ d0)).trans d0
    clear hx d0
    generalize rd sends (i : Int) = sent at d1 HSi HXi
    obtain ⟨sn, rfl⟩ : ∃ sn : Nat, sent = (sn : Int) := ⟨sent.toNat, by have := HSi.out.1; omega⟩
    go_wp2_with fail
    clear x0 x1 d1
    refine wp_loop_d [6, 7, 8, 10, 11, 12, 13, 29, 30, 31, 32, 33, 34, 35, 36, 37, 38, 39, 40, 41, 42, 43, 44, 45, 46, 47, 48, 49, 50, 51, 52, 53, 54, 55, 56, 57, 58, 59, 60, 61, 62, 63, 64, 65, 66, 67, 68, 69, 70, 71, 72, 73, 74, 75, 76, 77, 78, 79, 80, 81, 82, 83, 84, 85, 86] routes.length (fun N u es W => ∃ (k cnt : Nat) (m : Int → Int → Option Nat), k ≤ routes.length ∧ routes.length - k ≤ N ∧ u 29 = .int .i64 k ∧ cnt ≤ 3 * i + k ∧
      Aside0 (W.heap[b0]? = some (.cells #[.slice (some ad) sends.length c0, .slice A1 routes.length c1, .int .i64 pat] 34 (0, 0))) ∧
      Aside0 (W.heap[b0 + 2]? = some (.cells #[.slice (some ad) sends.length c0, .slice A1 routes.length c1, .int .i64 pat, .map (some (b0 + 1))] 138 (0, 0))) ∧
      Aside0 (HMap W (b0 + 1) cnt m) ∧ Aside0 (DoneAt sends routes m W i k) ∧ Aside0 (Below b0 w W) ∧ Aside0 (Marks (b0 + 3) es W)) ?_ ?_
    · exact ⟨0, cnt, m, by omega, by omega, rfl, by omega, HX, HK, HM, HD, HB, HMk⟩
    clear HX HK HM HD HB HMk hcnt cnt m es W
    rintro N2 v es W ⟨k, cnt, m, hk, hN2, hv29, hcnt, HX, HK, HM, HD, HB, HMk⟩ J2 K2 hJ2 hK2
    simp only [over, List.foldl_cons, List.foldl_nil, List.setIfInBounds_toArray, List.set_cons_succ, List.set_cons_zero]
    rw [hv29]
    have HJ2 := Aside0.mk hJ2
    clear hJ2 hv29
    by_cases hkt : k < routes.length
    · have hktz : (k : Int) < (routes.length : Int) := by omega
      obtain ⟨ad2, A3, c3, e3, d3a, d3b, l3, g3⟩ := at_T122 HR1.out (k : Int) (by omega) hktz
      cases e3
      rw [Int.toNat_natCast] at d3a d3b
      have hx : rd_T122 routes (k : Int) = routes[k] := by unfold rd_T122; rw [Int.toNat_natCast, rd_in _ _ _ hkt]
      have hl3 := HL.out _ (List.getElem_mem hkt)
      have HG3 := Aside0.mk (HG.out _ (List.getElem_mem hkt))
      rw [← hx] at hl3 HG3
      have HXk := Aside0.mk hx
      have G3 := Aside0.mk g3
      replace d3a := (HB.out.cell (HBB.out ▸ World.block_lt_of_cell? w _ d3a)).trans d3a
      replace d3b := (HB.out.cell (HBB.out ▸ World.block_lt_of_cell? w _ d3b)).trans d3b
      clear hx g3
      generalize rd_T122 routes (k : Int) = x at d3a d3b l3 hl3 HG3 HXk G3
      obtain ⟨legs, lossy⟩ := x
      dsimp only at d3a d3b l3 hl3 HG3 G3
      have hsn : sn ≤ 30 := by have := HSi.out.2; omega
      have z0 : Try.zeroCells181[sn]? = some (.bool false) := by rw [zero181, Array.getElem?_replicate, if_pos (by omega)]
      have z1 : (sn : Int) < 101 := by omega
      go_wp2_with fail
      clear d3a d3b z0
      obtain ⟨g7, hg7⟩ : ∃ g7, g7 = W.heap.size := ⟨_, rfl⟩
      obtain ⟨Wc, hWc⟩ : ∃ Wc, Wc = (W.alloc (.cells #[.slice A3 legs.length c3, .bool lossy] 122)).alloc (.cells (Try.zeroCells181.setIfInBounds sn (.bool true)) 181) := ⟨_, rfl⟩
      have hsz : g7 + 2 = Wc.heap.size := by rw [hWc, hg7]; simp
      have HBc : Aside0 (Below g7 W Wc) := ⟨by rw [hWc, hg7]; exact ((Below.refl _ W).alloc (Nat.le_refl _) _).alloc (by simp) _⟩
      have HKc : Aside0 (KeepsFrom (b0 + 3) W Wc) := ⟨by rw [hWc]; exact ((KeepsOthers.alloc _ _).trans (KeepsOthers.alloc _ _)).from _⟩
      have HSc : Aside0 (SetAt Wc (g7 + 1) (startSet (sn : Int))) := ⟨by
        have h1 := blk_new (W.alloc (.cells #[.slice A3 legs.length c3, .bool lossy] 122)) (.cells (Try.zeroCells181.setIfInBounds sn (.bool true)) 181)
        rw [World.size_alloc, ← hg7, ← hWc] at h1
        refine ⟨_, h1, by rw [zero181]; simp, fun j hj => ?_⟩
        rw [zero181, Array.getElem?_setIfInBounds]
        by_cases e : sn = j
        · subst e; simp [startSet]; omega
        · rw [if_neg e, Array.getElem?_replicate, if_pos hj]
          have : ((j : Int) == (sn : Int)) = false := by simp; omega
          rw [startSet, this]⟩
      have HWc := Aside0.mk hWc
      have HSz := Aside0.mk hsz
      clear hWc hsz
      rw [← hg7, ← HWc.out]
      have HG7 := Aside0.mk hg7
      clear hg7 HWc
      refine wp_loop_d [8, 10, 11, 12, 13, 43, 44, 45, 46, 47, 48, 49, 50, 51, 52, 53, 54, 55, 56, 57, 58, 59, 60, 61, 62, 63, 64, 65, 66, 67, 68, 69, 70, 71, 72, 73, 74, 75, 76, 77] legs.length (fun N u es W' => ∃ (q gs : Nat), q ≤ legs.length ∧ legs.length - q ≤ N ∧ u 43 = .int .i64 q ∧ u 8 = .pointer (some ⟨gs, 0, none⟩) ∧
        Aside0 (SetAt W' gs (setsFrom (legs.take q) (startSet (sn : Int)))) ∧ Aside0 (Below g7 W W') ∧ Aside0 (Marks (b0 + 3) es W')) ?_ ?_
      · exact ⟨0, g7 + 1, by omega, by omega, rfl, rfl, HSc, HBc, ⟨HMk.out.keeps HKc.out⟩⟩
      clear HSc HBc HKc
      clear HMk
      clear es
      rintro N3 x es Wq ⟨q, gs, hq, hN3, hx43, hx8, HSq, HBq, HMq⟩ J3 K3 hJ3 hK3
      simp only [over, List.foldl_cons, List.foldl_nil, List.setIfInBounds_toArray, List.set_cons_succ, List.set_cons_zero]
      rw [hx43, hx8]
      have HJ3 := Aside0.mk hJ3
      clear hJ3 hx43 hx8
      by_cases hqt : q < legs.length
      · have hqtz : (q : Int) < (legs.length : Int) := by omega
        obtain ⟨ad4, A5, c5, e5, d5a, d5b, d5c, l5, g5⟩ := at_T119 G3.out (q : Int) (by omega) hqtz
        cases e5
        rw [Int.toNat_natCast] at d5a d5b d5c
        have hl : rd_T119 legs (q : Int) = legs[q] := by unfold rd_T119; rw [Int.toNat_natCast, rd_in _ _ _ hqt]
        have HLq := Aside0.mk (HG3.out _ (List.getElem_mem hqt))
        rw [← hl] at HLq
        have HLe := Aside0.mk hl
        have G5 := Aside0.mk g5
        have HBw : Aside0 (Below b0 w Wq) := ⟨HB.out.trans (HBq.out.mono (by have := HB.out.size; have := HG7.out; have := HBB.out; omega))⟩
        replace d5a := (HBw.out.cell (HBB.out ▸ World.block_lt_of_cell? w _ d5a)).trans d5a
        replace d5b := (HBw.out.cell (HBB.out ▸ World.block_lt_of_cell? w _ d5b)).trans d5b
        replace d5c := (HBw.out.cell (HBB.out ▸ World.block_lt_of_cell? w _ d5c)).trans d5c
        clear hl g5
        generalize rd_T119 legs (q : Int) = l at d5a d5b d5c l5 HLq HLe G5
        obtain ⟨⟨lo, hi'⟩, asl⟩ := l
        dsimp only at d5a d5b d5c l5 G5
        go_wp2_with fail
        refine (each125 _ _).mono ?_
        rintro e w' ⟨rfl, rfl⟩
        go_wp2_with fail
        obtain ⟨g10, hg10⟩ : ∃ g10, g10 = Wq.heap.size := ⟨_, rfl⟩
        obtain ⟨W4, hW4⟩ : ∃ W4, W4 = (((Wq.alloc (.cells #[.int .i64 lo, .int .i64 hi', .slice A5 asl.length c5] 119)).alloc (.cells Try.zeroCells181 181)).alloc (.cells #[.pointer (some ⟨g10 + 1, 0, none⟩)] 135)).alloc (.cells #[.pointer (some ⟨gs, 0, none⟩)] 135) := ⟨_, rfl⟩
        have hsz4 : g10 + 4 = W4.heap.size := by rw [hW4, hg10]; simp
        have hb4 : Below g10 Wq W4 := by rw [hW4, hg10]; exact ((((Below.refl _ Wq).alloc (Nat.le_refl _) _).alloc (by simp) _).alloc (by simp; omega) _).alloc (by simp; omega) _
        have hk4 : KeepsFrom (b0 + 3) Wq W4 := by rw [hW4]; exact ((((KeepsOthers.alloc _ _).trans (KeepsOthers.alloc _ _)).trans (KeepsOthers.alloc _ _)).trans (KeepsOthers.alloc _ _)).from _
        have hgs : gs < g10 := hg10 ▸ HSq.out.lt
        have hS4 : SetAt W4 gs (setsFrom (legs.take q) (startSet (sn : Int))) := HSq.out.below (hg10 ▸ hb4)
        have hL10 : W4.heap[g10]? = some (.cells #[.int .i64 lo, .int .i64 hi', .slice A5 asl.length c5] 119 (0, 0)) := by
          have h1 := blk_new Wq (.cells #[.int .i64 lo, .int .i64 hi', .slice A5 asl.length c5] 119)
          rw [← hg10] at h1
          rw [hW4]
          exact blk_below (blk_below (blk_below h1 ((Below.refl _ _).alloc (Nat.le_refl _) _)) ((Below.refl _ _).alloc (Nat.le_refl _) _)) ((Below.refl _ _).alloc (Nat.le_refl _) _)
        have hN : SetAt W4 (g10 + 1) (fun _ => false) := by
          have h1 := SetAt.zero (Wq.alloc (.cells #[.int .i64 lo, .int .i64 hi', .slice A5 asl.length c5] 119))
          rw [World.size_alloc, ← hg10] at h1
          rw [hW4]
          exact (h1.below ((Below.refl _ _).alloc (Nat.le_refl _) _)).below ((Below.refl _ _).alloc (Nat.le_refl _) _)
        have hP : W4.heap[g10 + 2]? = some (.cells #[.pointer (some ⟨g10 + 1, 0, none⟩)] 135 (0, 0)) := by
          have h1 := blk_new ((Wq.alloc (.cells #[.int .i64 lo, .int .i64 hi', .slice A5 asl.length c5] 119)).alloc (.cells Try.zeroCells181 181)) (.cells #[.pointer (some ⟨g10 + 1, 0, none⟩)] 135)
          rw [World.size_alloc, World.size_alloc, ← hg10] at h1
          rw [hW4]
          exact blk_below h1 ((Below.refl _ _).alloc (Nat.le_refl _) _)
        have hE : W4.heap[g10 + 3]? = some (.cells #[.pointer (some ⟨gs, 0, none⟩)] 135 (0, 0)) := by
          have h1 := blk_new (((Wq.alloc (.cells #[.int .i64 lo, .int .i64 hi', .slice A5 asl.length c5] 119)).alloc (.cells Try.zeroCells181 181)).alloc (.cells #[.pointer (some ⟨g10 + 1, 0, none⟩)] 135)) (.cells #[.pointer (some ⟨gs, 0, none⟩)] 135)
          rw [World.size_alloc, World.size_alloc, World.size_alloc, ← hg10] at h1
          rw [hW4]
          exact h1
        have HW4 := Aside0.mk hW4
        clear hW4 d5a d5b d5c
        have hE' : W4.cell? ⟨g10 + 3, 0, none⟩ = some (.pointer (some ⟨gs, 0, none⟩)) := (blk_cell hE 0).trans rfl
        rw [← hg10, show g10 + 1 + 1 = g10 + 2 from rfl, show g10 + 2 + 1 = g10 + 3 from rfl, ← HW4.out]
        clear HW4
        have HG10 := Aside0.mk hg10
        clear hg10
        have HQN : Aside0 (q + 1 ≤ legs.length ∧ legs.length ≤ 3) := ⟨by omega, hl3⟩
        refine wpIn_wide.1 (wpIn_rangeFunc_ownG (F := Fence.wide) (n := 9) rfl (by omega) (gf := 150) (lb := #[.pointer (some ⟨g10 + 3, 0, none⟩)]) rfl trivial (enters_of Try.func150 (by kernel_rfl) rfl)
          (each_stops Fence.wide 8 trivial rfl (by omega) (g10 + 3) gs (setsFrom (legs.take q) (startSet (sn : Int))) W4 (by omega) hE' hS4) keepTwo_t (keepTwo_b (by omega) (by omega)) (Below.refl _ _) (fun _ => rfl)
          (fun pre W' => (W'.heap[g10]? = some (.cells #[.int .i64 lo, .int .i64 hi', .slice A5 asl.length c5] 119 (0, 0)) ∧ W'.heap[g10 + 2]? = some (.cells #[.pointer (some ⟨g10 + 1, 0, none⟩)] 135 (0, 0)) ∧ W'.heap[g10 + 3]? = some (.cells #[.pointer (some ⟨gs, 0, none⟩)] 135 (0, 0)) ∧ SetAt W' (g10 + 1) (manyB ⟨⟨lo, hi'⟩, asl⟩ (pre.map (fun x => x.1)))) ∧ Below g10 Wq W' ∧ KeepsFrom (b0 + 3) Wq W')
          (fun _ _ _ => False)
          (OwnFrom.and (ownFrom_leg _ (by omega)) (OwnFrom.and (ownFrom_below (by have := HG10.out; omega) (by omega)) (ownFrom_keepsFrom (by have := HG10.out; omega))))
          (fun _ _ _ _ _ hs _ _ => hs)
          ⟨⟨hL10, hP, hE, hN.congr (fun _ => rfl)⟩, hb4, hk4⟩
          ?a1 ?assign ?body ?done ?stop)
        case assign =>
          intro l x W K hK
          gi_wp2
          exact hK
        case body =>
          rintro l pre y Wr ⟨⟨hl, hp, he, hn⟩, hbr, hkr⟩ hpl
          have k0 : Wr.cell? ⟨g10, 0, none⟩ = some (.int .i64 lo) := (blk_cell hl 0).trans rfl
          have k1 : Wr.cell? ⟨g10, 1, none⟩ = some (.int .i64 hi') := (blk_cell hl 1).trans rfl
          have hlo := HLq.out.lo
          have hhi := HLq.out.hi
          have hmo := HLq.out.most
          dsimp only at hlo hhi hmo
          obtain ⟨cnt', hcn⟩ : ∃ cnt' : Nat, (cnt' : Int) = hi' - lo + 1 := ⟨(hi' - lo + 1).toNat, by omega⟩
          have e1 : wrap64 (hi' - lo) = hi' - lo := by unfold wrap64; omega
          have e2 : wrap64 (hi' - lo + 1) = (cnt' : Int) := by unfold wrap64; omega
          have hc7 : cnt' ≤ 7 := by omega
          have HCN := Aside0.mk hcn
          have Hl := Aside0.mk hl
          have Hp := Aside0.mk hp
          have Hn := Aside0.mk hn
          have He := Aside0.mk he
          have Hbr := Aside0.mk hbr
          have Hkr := Aside0.mk hkr
          have HLB := Aside0.mk (And.intro hlo (And.intro hhi hmo))
          clear hcn hl hp hn he hbr hkr hlo hhi hmo
          gi_wp2
          gi_loopw [60] (fun v60 wr => ∃ kk : Nat, kk ≤ cnt' ∧ v60 = .int .i64 kk ∧ Aside0 (wr.heap[g10]? = some (.cells #[.int .i64 lo, .int .i64 hi', .slice A5 asl.length c5] 119 (0, 0))) ∧ Aside0 (wr.heap[g10 + 2]? = some (.cells #[.pointer (some ⟨g10 + 1, 0, none⟩)] 135 (0, 0))) ∧
            Aside0 (SetAt wr (g10 + 1) (fun z => manyB ⟨⟨lo, hi'⟩, asl⟩ (pre.map (fun x => x.1)) z || oneB ⟨⟨lo, hi'⟩, asl⟩ y.1 kk z)) ∧ Aside0 (Below g10 Wq wr) ∧ Aside0 (KeepsFrom (b0 + 3) Wq wr) ∧ Aside0 (KeepTwo (g10 + 3) gs Wr wr) ∧ Aside0 (KeepsFrom W4.heap.size Wr wr))
            (fun v60 _ => cnt' - (intOf v60).toNat)
          case atStart => exact ⟨0, by omega, rfl, Hl, Hp, ⟨Hn.out.congr (fun z => by simp [oneB])⟩, Hbr, Hkr, ⟨⟨rfl, rfl⟩⟩, ⟨KeepsFrom.refl _ _⟩⟩
          case round =>
            obtain ⟨kk, hkk, rfl, Hlr, Hpr, Hnr, Hbrr, Hkrr, Htwo, Hkf⟩ := hrel
            clear Hl Hp Hn Hbr Hkr k0 k1
            by_cases hkt' : kk < cnt'
            · have HY : Aside0 (0 ≤ y.1 ∧ y.1 ≤ 30 + 6 * (q : Int)) := ⟨by
                have h1 := (setsFrom_ok (legs.take q) (startSet (sn : Int)) 0 (fun l hl => HG3.out l (List.mem_of_mem_take hl)) (fun z hz => by have := start_upto HSi.out.1 HSi.out.2 z hz; omega) ⟨(sn : Int), by simp [startSet]⟩ (by have := HQN.out; rw [List.length_take]; omega)).1 y.1 y.2.1
                rw [List.length_take] at h1
                omega⟩
              have e3 : IntKind.i64.wrap (y.1 + lo) = y.1 + lo := by have := HY.out; have := HLB.out; have := HQN.out; rw [i64_w]; unfold wrap64; omega
              have e4 : IntKind.i64.wrap (y.1 + lo + (kk : Int)) = y.1 + lo + (kk : Int) := by have := HY.out; have := HLB.out; have := HQN.out; rw [i64_w]; unfold wrap64; omega
              obtain ⟨an, han⟩ : ∃ an : Nat, (an : Int) = awakeL ⟨⟨lo, hi'⟩, asl⟩ (y.1 + lo + (kk : Int)) ∧ an ≤ 100 := by
                have h1 := awake_upto HLq.out (h := y.1) (B := 30 + 6 * (q : Int)) HY.out.1 HY.out.2 (by omega) (n := kk) (by have := HCN.out; show (kk : Int) ≤ hi' - lo; omega)
                dsimp only at h1
                have := HQN.out
                exact ⟨(awakeL ⟨⟨lo, hi'⟩, asl⟩ (y.1 + lo + (kk : Int))).toNat, by omega, by omega⟩
              have HAN := Aside0.mk han
              have hcall : ∀ w1 : World, Below g10 Wq w1 → Calls Try.prog 126 #[.agg #[.int .i64 lo, .int .i64 hi', .slice A5 asl.length c5], .int .i64 (y.1 + lo + (kk : Int))] w1 fun e w' => e = .returned (.int .i64 (an : Int)) ∧ Below w1.heap.size w1 w' := fun w1 hw1 => by
                rw [HAN.out.1]
                have hbx : Below b0 w w1 := HBw.out.trans (hw1.mono (by have := HBw.out.size; have := HG10.out; have := HBB.out; omega))
                exact awake126 ⟨⟨lo, hi'⟩, asl⟩ A5 c5 (y.1 + lo + (kk : Int)) w1 (Kd.C_below G5.out (HBB.out ▸ hbx)) HLq.out.wk (by have := HY.out; have := HLB.out; omega) (by have := HY.out; have := HLB.out; have := HQN.out; omega)
              have HCall := Aside0.mk hcall
              have han1 : (an : Int) < 101 := by omega
              clear hcall han
              have p0 : wr.cell? ⟨g10 + 2, 0, none⟩ = some (.pointer (some ⟨g10 + 1, 0, none⟩)) := (blk_cell Hpr.out 0).trans rfl
              have k0 : wr.cell? ⟨g10, 0, none⟩ = some (.int .i64 lo) := (blk_cell Hlr.out 0).trans rfl
              have k1 : wr.cell? ⟨g10, 1, none⟩ = some (.int .i64 hi') := (blk_cell Hlr.out 1).trans rfl
              have k2 : wr.cell? ⟨g10, 2, none⟩ = some (.slice A5 asl.length c5) := (blk_cell Hlr.out 2).trans rfl
              have hmx : Try.prog.follows .mixedOrders = true := by kernel_rfl
              have hd : 1 ≤ 9 - 1 - 1 := by omega
              gi_wp2
              refine startIn_ (by rintro ⟨a, w, h⟩; exact h) (m := 13) (S := fun w' => w'.cell? ⟨g10 + 2, 0, none⟩ = some (.pointer (some ⟨g10 + 1, 0, none⟩)) ∧ w'.cell? ⟨g10, 0, none⟩ = some (.int .i64 lo) ∧ w'.cell? ⟨g10, 1, none⟩ = some (.int .i64 hi') ∧ w'.cell? ⟨g10, 2, none⟩ = some (.slice A5 asl.length c5)) (ds := [12]) #[false, false, false, false, false, false, false, false, false, false, false, false, false] (by kernel_rfl) hmx rfl rfl ⟨p0, k0, k1, k2⟩ (fun hHeld => ?_)
              clear p0 k0 k1 k2
              refine pure_ (i := 2) (N := (some 65)) (v := ?_) (a' := ?_) #[false, false, true, false, false, false, false, false, false, false, false, false, false] rfl rfl (by kernel_rfl) (fun _ _ _ h => h) (Or.inl ⟨by rfl, ?_⟩) ?_ ?_
              rotate_left
              · intro w'
                go_simp
                with_reducible rfl
              rotate_left
              · simp only [Act.put, List.setIfInBounds_toArray, List.set_cons_zero, List.set_cons_succ, i64_w, i32_w]
                rfl
              refine pure_ (i := 3) (N := (some 66)) (v := ?_) (a' := ?_) #[false, false, true, true, false, false, false, false, false, false, false, false, false] rfl rfl (by kernel_rfl) (fun _ _ _ h => h) (Or.inl ⟨by rfl, ?_⟩) ?_ ?_
              rotate_left
              · intro w'
                go_simp
                with_reducible rfl
              rotate_left
              · simp only [Act.put, List.setIfInBounds_toArray, List.set_cons_zero, List.set_cons_succ, i64_w, i32_w]
                rfl
              refine pure_ (i := 4) (N := (some 67)) (v := ?_) (a' := ?_) #[false, false, true, true, true, false, false, false, false, false, false, false, false] rfl rfl (by kernel_rfl) (fun _ _ _ h => h) (Or.inl ⟨by rfl, ?_⟩) ?_ ?_
              rotate_left
              · intro w'
                go_simp
                with_reducible rfl
              rotate_left
              · simp only [Act.put, List.setIfInBounds_toArray, List.set_cons_zero, List.set_cons_succ, i64_w, i32_w]
                rfl
              refine pure_ (i := 7) (N := (some 70)) (v := ?_) (a' := ?_) #[false, false, true, true, true, false, false, true, false, false, false, false, false] rfl rfl (by kernel_rfl) (fun _ _ _ h => h) (Or.inl ⟨by rfl, ?_⟩) ?_ ?_
              rotate_left
              · intro w'
                go_simp
                with_reducible rfl
              rotate_left
              · simp only [Act.put, List.setIfInBounds_toArray, List.set_cons_zero, List.set_cons_succ, i64_w, i32_w]
                rfl
              refine take_ (i := 0) (N := (some 63)) (v := ?_) (a' := ?_) #[true, false, true, true, true, false, false, true, false, false, false, false, false] rfl rfl (by kernel_rfl) (fun _ _ _ h => h) (Or.inl ⟨by rfl, ?_⟩) hHeld ?_ ?_
              rotate_left
              · rintro w' ⟨s0, s1, s2, s3⟩
                go_simp
                with_reducible rfl
              rotate_left
              · simp only [Act.put, List.setIfInBounds_toArray, List.set_cons_zero, List.set_cons_succ, i64_w, i32_w]
                rfl
              refine take_ (i := 1) (N := (some 64)) (v := ?_) (a' := ?_) #[true, true, true, true, true, false, false, true, false, false, false, false, false] rfl rfl (by kernel_rfl) (fun _ _ _ h => h) (Or.inl ⟨by rfl, ?_⟩) hHeld ?_ ?_
              rotate_left
              · rintro w' ⟨s0, s1, s2, s3⟩
                go_simp
                with_reducible rfl
              rotate_left
              · simp only [Act.put, List.setIfInBounds_toArray, List.set_cons_zero, List.set_cons_succ, i64_w, i32_w]
                rfl
              refine take_ (i := 5) (N := (some 68)) (v := ?_) (a' := ?_) #[true, true, true, true, true, true, false, true, false, false, false, false, false] rfl rfl (by kernel_rfl) (fun _ _ _ h => h) (Or.inl ⟨by rfl, ?_⟩) hHeld ?_ ?_
              rotate_left
              · rintro w' ⟨s0, s1, s2, s3⟩
                go_simp
                with_reducible rfl
              rotate_left
              · simp only [Act.put, List.setIfInBounds_toArray, List.set_cons_zero, List.set_cons_succ, i64_w, i32_w]
                rfl
              refine pure_ (i := 6) (N := (some 69)) (v := ?_) (a' := ?_) #[true, true, true, true, true, true, true, true, false, false, false, false, false] rfl rfl (by kernel_rfl) (fun _ _ _ h => h) (Or.inl ⟨by rfl, ?_⟩) ?_ ?_
              rotate_left
              · intro w'
                go_simp
                with_reducible rfl
              rotate_left
              · simp only [Act.put, List.setIfInBounds_toArray, List.set_cons_zero, List.set_cons_succ, i64_w, i32_w]
                rfl
              refine pure_ (i := 8) (N := (some 71)) (v := ?_) (a' := ?_) #[true, true, true, true, true, true, true, true, true, false, false, false, false] rfl rfl (by kernel_rfl) (fun _ _ _ h => h) (Or.inl ⟨by rfl, ?_⟩) ?_ ?_
              rotate_left
              · intro w'
                go_simp
                with_reducible rfl
              rotate_left
              · simp only [Act.put, List.setIfInBounds_toArray, List.set_cons_zero, List.set_cons_succ, i64_w, i32_w]
                rfl
              refine pure_ (i := 10) (N := (some 73)) (v := ?_) (a' := ?_) #[true, true, true, true, true, true, true, true, true, false, true, false, false] rfl rfl (by kernel_rfl) (fun _ _ _ h => h) (Or.inl ⟨by rfl, ?_⟩) ?_ ?_
              rotate_left
              · intro w'
                go_simp
                with_reducible rfl
              rotate_left
              · simp only [Act.put, List.setIfInBounds_toArray, List.set_cons_zero, List.set_cons_succ, i64_w, i32_w]
                rfl
              refine one_ (i := 9) (N := (some 72)) #[true, true, true, true, true, true, true, true, true, true, true, false, false] rfl rfl (by kernel_rfl) (by decide) (fun K hK => ?_)
              refine goes_ Try.func126 (by kernel_rfl) rfl #[.agg #[.int .i64 lo, .int .i64 hi', .slice A5 asl.length c5], .int .i64 (y.1 + lo + (kk : Int))] (by rfl) rfl rfl (by (try simp only [List.map_toArray, List.map_cons, List.map_nil]); first | done | rfl) ?_
              refine (HCall.out wr.drew (below_drew Hbrr.out)).mono ?_
              rintro e w7 ⟨rfl, hb⟩
              refine ⟨_, rfl, ?_⟩
              have Hl7 := Aside0.mk (blk_below (blk_drew Hlr.out) hb)
              have Hp7 := Aside0.mk (blk_below (blk_drew Hpr.out) hb)
              have Hn7 := Aside0.mk ((Hnr.out.eq rfl : SetAt wr.drew _ _).below hb)
              have HB7 := Aside0.mk hb
              clear hb
              refine hK.out _ _ ⟨(blk_cell Hp7.out 0).trans rfl, (blk_cell Hl7.out 0).trans rfl, (blk_cell Hl7.out 1).trans rfl, (blk_cell Hl7.out 2).trans rfl⟩ (fun hHeld => ?_)
              clear hK K
              refine norm_ (a' := ?_) ?_ ?_
              rotate_left
              · show Act.put _ (some 72) _ = _
                simp only [Act.put, List.setIfInBounds_toArray, List.set_cons_zero, List.set_cons_succ, i64_w, i32_w]
                rfl
              refine pure_ (i := 11) (N := (some 74)) (v := ?_) (a' := ?_) #[true, true, true, true, true, true, true, true, true, true, true, true, false] rfl rfl (by kernel_rfl) (fun _ _ _ h => h) (Or.inl ⟨by rfl, ?_⟩) ?_ ?_
              rotate_left
              · intro w'
                go_simp
                with_reducible rfl
              rotate_left
              · simp only [Act.put, List.setIfInBounds_toArray, List.set_cons_zero, List.set_cons_succ, i64_w, i32_w]
                rfl
              refine last_ (i := 12) (N := none) #[true, true, true, true, true, true, true, true, true, true, true, true, true] rfl rfl (by kernel_rfl) (by decide) (fun K hK => ?_)
              have s0 : w7.cell? ⟨g10 + 1, an, none⟩ = some (.bool _) := Hn7.out.cell (by omega)
              have s1 : w7.frozen? ⟨g10 + 1, an, none⟩ = false := Hn7.out.frozen an
              refine skip_ (w1 := ?_) (by rfl) rfl ?_ ?_
              rotate_left
              · go_simp
                rfl
              refine hK.out _ _ ?_
              clear hK K s0 s1
              refine done_ (by kernel_rfl) ?_
              gi_wp2
              go_roundw
              case measure => simp [intOf]; omega
              case rel =>
                have hgw : w7.heap.size ≥ wr.heap.size := HB7.out.size
                have hG := Hnr.out.lt
                have hk7 : ∀ B, KeepsFrom B wr (w7.setCell ⟨g10 + 1, an, none⟩ (.bool true)) := fun B => (((KeepsOthers.drew wr).from B).trans (KeepsFrom.of_below HB7.out)).trans ((KeepsOthers.setCell _ _ _).from _)
                have he1 := blk_lt He.out
                have he2 := Hkf.out.size
                refine ⟨kk + 1, by omega, by go_num, ⟨blk_far Hl7.out (by simp) _⟩, ⟨blk_far Hp7.out (by simp) _⟩, ⟨(Hn7.out.set an).congr (fun z => ?_)⟩, ⟨(Hbrr.out.trans ((below_drew (Below.refl wr.heap.size wr)).trans HB7.out |>.mono ?_)).setCell (by simp) _⟩, ⟨Hkrr.out.trans (hk7 _)⟩, ⟨keepTwo_t Htwo.out ⟨?_, ?_⟩⟩, ⟨Hkf.out.trans (hk7 _)⟩⟩
                · have h1 := oneB_succ ⟨⟨lo, hi'⟩, asl⟩ y.1 kk z
                  dsimp only at h1
                  rw [h1, ← HAN.out.1, Bool.or_assoc]
                · omega
                · exact (Below.heap_setCell w7 ⟨g10 + 1, an, none⟩ _ (g10 + 3) (by simp)).trans (HB7.out.block (g10 + 3) (show g10 + 3 < wr.heap.size by omega))
                · exact (Below.heap_setCell w7 ⟨g10 + 1, an, none⟩ _ gs (by simp; omega)).trans (HB7.out.block gs (show gs < wr.heap.size by omega))
            · have hkk' : kk = cnt' := by omega
              have HNN : Aside0 (SetAt wr (g10 + 1) (manyB ⟨⟨lo, hi'⟩, asl⟩ ((pre ++ [y]).map (fun x => x.1)))) := ⟨Hnr.out.congr (fun z => by
                rw [List.map_append, List.map_cons, List.map_nil, manyB_snoc, hkk', show (hi' - lo + 1).toNat = cnt' by have := HCN.out; omega])⟩
              have HEE : Aside0 (wr.heap[g10 + 3]? = some (.cells #[.pointer (some ⟨gs, 0, none⟩)] 135 (0, 0))) := ⟨Htwo.out.1.trans He.out⟩
              clear hkk'
              gi_wp2
              exact ⟨Hkf.out, Htwo.out, ⟨Hlr.out, Hpr.out, HEE.out, HNN.out⟩, Hbrr.out, Hkrr.out⟩
        case done =>
          rintro D ys Wd hD hys ⟨⟨hl, hp, he, hn⟩, hbd, hkd⟩ hK
          have p0 : Wd.cell? ⟨g10 + 2, 0, none⟩ = some (.pointer (some ⟨g10 + 1, 0, none⟩)) := (blk_cell hp 0).trans rfl
          have HSn : Aside0 (SetAt Wd (g10 + 1) (setsFrom (legs.take (q + 1)) (startSet (sn : Int)))) := ⟨by
            rw [List.take_succ_eq_append_getElem hqt, setsFrom_snoc, ← HLe.out]
            exact hn.congr (fun z => by rw [stepSet, hys])⟩
          have HBd : Aside0 (Below g7 W Wd) := ⟨HBq.out.trans (hbd.mono (by have := HBq.out.size; have := HG7.out; have := HG10.out; omega))⟩
          have HMd : Aside0 (Marks (b0 + 3) ({ target := .collected D, args := #[] } :: es) Wd) := ⟨HMq.out.cons hkd (by have := HBw.out.size; have := HG10.out; have := HBB.out; have := blk_lt HK.out; have := HBq.out.size; omega) (by have := HG10.out; omega) hK⟩
          clear hl hp he hn hbd hkd hys hD hK
          go_wp2_with fail
          refine Handed.intro (legs.length - (q + 1)) (by omega) ?_
          refine HJ3.out _ _ _ _ (by kernel_rfl) ?_
          exact ⟨q + 1, g10 + 1, by omega, by omega, by go_num, rfl, HSn, HBd, HMd⟩
        case stop =>
          rintro D c pre W _ _ h _
          exact h.elim
      · have hqq : q = legs.length := by omega
        have HSf : Aside0 (SetAt Wq gs (setsOf routes[k].f0 sends[i])) := ⟨by
          have h1 := HSq.out
          rw [hqq, List.take_length] at h1
          rw [← HXk.out, ← HXi.out]
          exact h1⟩
        have HBw : Aside0 (Below b0 w Wq) := ⟨HB.out.trans (HBq.out.mono (by have := HB.out.size; have := HG7.out; have := HBB.out; omega))⟩
        have hbW : Below W.heap.size W Wq := HG7.out ▸ HBq.out
        have HXq := Aside0.mk (blk_below HX.out hbW)
        have HKq := Aside0.mk (blk_below HK.out hbW)
        have HDq := Aside0.mk (HD.out.below hbW)
        obtain ⟨D, hown, hIs, hat⟩ := (HM.out.below hbW).grow
        obtain ⟨kl, hkl⟩ := keyOf142 (i : Int) (k : Int) (WalkArith.wf_i64 (by omega)) (WalkArith.wf_i64 (by omega))
        have c3' : Wq.cell? ⟨b0 + 2, 3, none⟩ = some (.map (some (b0 + 1))) := (blk_cell HKq.out 3).trans rfl
        have hcm : cnt < maxLen := by unfold maxLen; omega
        have HKL := Aside0.mk hkl
        have HAT := Aside0.mk hat
        have HIS := Aside0.mk hIs
        have HOW := Aside0.mk hown
        clear hqq hbW hkl hat hIs hown
        go_wp2_with (at_mapUpdate; refine wpList_mapUpdate_own _ rfl _ _ _ 136 rfl 142 135 key142 Try.underlying136 ptrElem (b0 + 1) cnt D rfl HOW.out hcm _ _ kl rfl rfl HKL.out (.lit (.int .i64 (gs : Int))) [] rfl ?_; intro w1 hown1 hgrow1; have HM1 := Aside0.mk (HMap.put HKL.out HAT.out HIS.out hown1); have HG1 := Aside0.mk hgrow1; clear hown1 hgrow1)
        have hown' : HMap Wq (b0 + 1) cnt m := ⟨D, HOW.out, HAT.out⟩
        have HX1 := Aside0.mk (blk_grown HXq.out HG1.out (by simp))
        have HK1 := Aside0.mk (blk_grown HKq.out HG1.out (by simp))
        have HB1 : Aside0 (Below b0 w w1) := ⟨HBw.out.grown HG1.out (by have := HBw.out.size; have := HBB.out; omega) (fun j e => by cases e; omega)⟩
        have HMk1 : Aside0 (Marks (b0 + 3) es w1) := ⟨HMq.out.keeps (KeepsFrom.of_grownBy HG1.out (fun j e => by cases e; omega))⟩
        have HD1 : Aside0 (DoneAt sends routes (fun i' k' => if i' = (i : Int) ∧ k' = (k : Int) then some gs else m i' k') w1 i (k + 1)) := ⟨fun i' k' hi' hk' hh => by
          by_cases e : i' = i ∧ k' = k
          · obtain ⟨rfl, rfl⟩ := e
            exact ⟨gs, if_pos ⟨rfl, rfl⟩, HSf.out.eq (HG1.out.block gs HSf.out.lt (hown'.ne HSf.out))⟩
          · obtain ⟨t, h1, h2⟩ := HDq.out i' k' hi' hk' (by omega)
            exact ⟨t, (if_neg (by omega)).trans h1, h2.eq (HG1.out.block t h2.lt (hown'.ne h2))⟩⟩
        refine Handed.intro (routes.length - (k + 1)) (by omega) ?_
        refine HJ2.out _ _ _ _ (by kernel_rfl) ?_
        exact ⟨k + 1, cnt + 1, _, by omega, by omega, by go_num, by omega, HX1, HK1, HM1, HD1, HB1, HMk1⟩
    · have hkk : k = routes.length := by omega
      have HDn : Aside0 (DoneAt sends routes m W (i + 1) 0) := ⟨by have h1 := HD.out; rw [hkk] at h1; exact h1.next⟩
      have hcn : cnt ≤ 3 * (i + 1) := by omega
      clear hkk
      go_wp2_with fail
      refine Handed.intro (sends.length - (i + 1)) (by omega) ?_
      refine HJ.out _ _ _ _ (by kernel_rfl) ?_
      exact ⟨i + 1, cnt, m, by omega, by omega, by go_num, hcn, HX, HK, HM, HDn, HB, HMk⟩
  · have hii : i = sends.length := by omega
    have HDn : Aside0 (DoneAt sends routes m W sends.length 0) := ⟨by have h1 := HD.out; rw [hii] at h1; exact h1⟩
    have hsz := HB.out.size
    have hsz2 := blk_lt HK.out
    clear hii
    go_wp2_with fail
    refine post_marks HMk.out (by omega) (fun w' => results_tmp rfl _ _ _) (fun w' h1 h2 => ⟨b0 + 2, by rw [← HBB.out]; omega, rfl, ⟨b0 + 1, cnt, m, h2 _ _ HK.out (fun x e => by cases e), HM.out.all h2, fun i hi k hk => ?_⟩, ?_⟩)
    · obtain ⟨t, h3, h4⟩ := HDn.out i k hi hk (.inl hi)
      exact ⟨t, h3, h4.all h2⟩
    · rw [← HBB.out]; exact HB.out.trans (h1.mono (by omega))
theorem work78 (A0 : Option Addr) (c0 : Nat) (sends : List Int) (A1 : Option Addr) (c1 : Nat) (routes : List S122) (pat : Int) (w : World) (h0 : Kd.C (Kd.int .i64) w A0 sends.length sends) (h1 : Kd.C k122 w A1 routes.length routes)
    (hs : sends.length ≤ 4) (hr : routes.length ≤ 3) (hsr : ∀ s ∈ sends, 0 ≤ s ∧ s ≤ 30) (hln : ∀ r ∈ routes, r.f0.length ≤ 3) (hlg : ∀ r ∈ routes, ∀ l ∈ r.f0, LegOk l) :
    Calls Try.prog 78 #[.agg #[.slice A0 sends.length c0, .slice A1 routes.length c1, .int .i64 pat]] w fun e w' =>
      ∃ g, e = .returned (.pointer (some ⟨g, 0, none⟩)) ∧ WorkAt w' g A0 c0 sends A1 c1 routes pat ∧ Below w.heap.size w w' :=
  (work78_at A0 c0 sends A1 c1 routes pat w h0 h1 hs hr hsr hln hlg).mono fun e w' ⟨g, _, h⟩ => ⟨g, h⟩
end Go.Proofs.Ytiephlhohgohcaa.PAll
namespace Go.Proofs.Ytiephlhohgohcaa.PAll
open Go.RowKit Go.Proofs.YtiephlhohgohcaaW.PrintWords Go.Proofs.YtiephlhohgohcaaW.PrintLast Go.Proofs.YtiephlhohgohcaaW.PrintMore
attribute [local go_sem] max2_int min2_int max_two min_two max_three min_three max_four min_four
set_option linter.unusedVariables false
set_option linter.unusedSimpArgs false
theorem WorkAt.below {W W' : World} {g : Nat} {A0 : Option Addr} {c0 : Nat} {sends : List Int} {A1 : Option Addr} {c1 : Nat} {routes : List S122} {pat : Int} (h : WorkAt W g A0 c0 sends A1 c1 routes pat) (hb : Below W.heap.size W W') : WorkAt W' g A0 c0 sends A1 c1 routes pat := by
  obtain ⟨mb, n, m, h1, h2, h3⟩ := h
  exact ⟨mb, n, m, blk_below h1 hb, h2.below hb, fun i hi k hk => by obtain ⟨s, h4, h5⟩ := h3 i hi k hk; exact ⟨s, h4, h5.below hb⟩⟩
theorem WorkAt.lt {W : World} {g : Nat} {A0 : Option Addr} {c0 : Nat} {sends : List Int} {A1 : Option Addr} {c1 : Nat} {routes : List S122} {pat : Int} (h : WorkAt W g A0 c0 sends A1 c1 routes pat) : g < W.heap.size := by
  obtain ⟨mb, n, m, h1, _⟩ := h; exact blk_lt h1
def firstOf (f : Int → Bool) : Int := rd (hoursOf f 101) 0
def lastOf (f : Int → Bool) : Int := rd (hoursOf f 101) (((hoursOf f 101).length - 1 : Nat) : Int)
def earlyL (routes : List S122) (sent : Int) : Int := routes.foldl (fun n r => min n (firstOf (setsOf r.f0 sent))) 101
def lateL (routes : List S122) (sent : Int) : Int := routes.foldl (fun n r => if r.f1 = true then n else min n (lastOf (setsOf r.f0 sent))) 101
theorem earlyL_snoc (rs : List S122) (r : S122) (s : Int) : earlyL (rs ++ [r]) s = min (earlyL rs s) (firstOf (setsOf r.f0 s)) := by simp [earlyL]
theorem lateL_snoc (rs : List S122) (r : S122) (s : Int) : lateL (rs ++ [r]) s = if r.f1 = true then lateL rs s else min (lateL rs s) (lastOf (setsOf r.f0 s)) := by simp [lateL]
theorem Valid.set {sends : List Int} {routes : List S122} {pat : Int} (v : Valid sends routes pat) {i k : Nat} (hi : i < sends.length) (hk : k < routes.length) : hoursOf (setsOf routes[k].f0 sends[i]) 101 ≠ [] ∧ Upto (setsOf routes[k].f0 sends[i]) 48 := by
  have h0 := v.s0 _ (List.getElem_mem hi)
  have hr := List.getElem_mem hk
  have h1 := setsFrom_ok routes[k].f0 (startSet sends[i]) 0 (fun l hl => v.leg hr hl) (fun z hz => by have := start_upto h0.1 h0.2 z hz; omega) ⟨sends[i], by simp [startSet]⟩ (by have := v.ln _ hr; omega)
  have h2 := (v.ln _ hr).2
  have h3 : Upto (setsOf routes[k].f0 sends[i]) 48 := fun x hx => by have := h1.1 x hx; omega
  exact ⟨hoursOf_ne h3 (by omega) h1.2, h3⟩
set_option maxRecDepth 100000 in
set_option maxHeartbeats 4000000 in
theorem earliest81 (g : Nat) (A0 : Option Addr) (c0 : Nat) (sends : List Int) (A1 : Option Addr) (c1 : Nat) (routes : List S122) (pat pat0 : Int) (w : World) (hw : WorkAt w g A0 c0 sends A1 c1 routes pat) (v : Valid sends routes pat0) (i : Nat) (hi : i < sends.length) :
    Calls Try.prog 81 #[.pointer (some ⟨g, 0, none⟩), .int .i64 (i : Int)] w fun e w' => e = .returned (.int .i64 (earlyL routes sends[i])) ∧ Below w.heap.size w w' := by
  have HW := Aside0.mk hw
  have V := Aside0.mk v
  have HI := Aside0.mk hi
  obtain ⟨mb, nm, m, hg, hm, hd⟩ := hw
  have x1 : w.cell? ⟨g, 1, none⟩ = some (.slice A1 routes.length c1) := (blk_cell hg 1).trans rfl
  have HG := Aside0.mk hg
  have HM := Aside0.mk hm
  have HD := Aside0.mk hd
  have hs4 := v.sn
  have hr3 := v.rn
  clear hg hm hd v
  go_enter Try.func81, Try.ntmps81
  go_wp2_with fail
  clear x1
  go_loopg [5, 13] routes.length (fun gg s5 s13 wr => ∃ k : Nat, k ≤ routes.length ∧ routes.length - k ≤ gg ∧ s13 = .int .i64 k ∧ s5 = .int .i64 (earlyL (routes.take k) sends[i]) ∧ Aside0 (Below w.heap.size w wr))
  case atStart => exact ⟨0, by omega, by omega, rfl, rfl, ⟨Below.refl _ _⟩⟩
  case round =>
    obtain ⟨k, hk, hgk, rfl, rfl, HB⟩ := hrel
    obtain ⟨wm, rfl⟩ : ∃ wm : World, wm = wr := ⟨_, rfl⟩
    by_cases hlt : k < routes.length
    · have hltz : (k : Int) < (routes.length : Int) := by omega
      obtain ⟨t, ht1, ht2⟩ := HD.out i hi k hlt
      have HS := Aside0.mk (ht2.below HB.out)
      have hlook := (HM.out.below HB.out).lookup (WalkArith.wf_i64 (by omega)) (WalkArith.wf_i64 (by omega)) ht1
      have c3 : wm.cell? ⟨g, 3, none⟩ = some (.map (some mb)) := (blk_cell (blk_below HG.out HB.out) 3).trans rfl
      have HN := Aside0.mk (V.out.set hi hlt)
      have HE := Aside0.mk (earlyL_snoc (routes.take k) routes[k] sends[i])
      clear ht1 ht2
      generalize earlyL (routes.take k) sends[i] = n0 at HE ⊢
      go_wp2_with fail
      refine (list79 t _ wm HS.out).mono ?_
      rintro e w4 ⟨v4, rfl, hr, hb⟩
      obtain ⟨A, c, rfl, hlc, hq⟩ := Kd.R_reads hr
      have HB4 := Aside0.mk (below_then HB.out HB.out.size hb)
      have hl0 : 0 < (hoursOf (setsOf routes[k].f0 sends[i]) 101).length := List.length_pos_iff.2 HN.out.1
      obtain ⟨ad, e0, d0⟩ := Kd.at_int hq 0 (by omega) (by omega)
      cases e0
      have HF := Aside0.mk (show rd (hoursOf (setsOf routes[k].f0 sends[i]) 101) 0 = firstOf (setsOf routes[k].f0 sends[i]) from rfl)
      rw [show (0 : Int).toNat = 0 from rfl, show ad.add 0 = ad by cases ad; rfl] at d0
      have hl0z : (0 : Int) < ((hoursOf (setsOf routes[k].f0 sends[i]) 101).length : Int) := by omega
      generalize rd (hoursOf (setsOf routes[k].f0 sends[i]) 101) 0 = z at d0 HF
      generalize (hoursOf (setsOf routes[k].f0 sends[i]) 101).length = L at d0 hl0 hlc hl0z ⊢
      clear hr hb hq hlook c3
      go_wp2_with fail
      refine (smallest_two n0 z w4).mono ?_
      rintro e w5 ⟨rfl, hb⟩
      have HB5 := Aside0.mk (below_then HB4.out HB4.out.size hb)
      clear hb
      go_wp2_with fail
      go_roundg (routes.length - (k + 1))
      case measure => omega
      case rel =>
        refine ⟨k + 1, by omega, by omega, by go_num, ?_, HB5⟩
        rw [List.take_succ_eq_append_getElem hlt, HE.out, HF.out]
    · have hltz : ¬ (k : Int) < (routes.length : Int) := by omega
      have hkk : k = routes.length := by omega
      have HE := Aside0.mk (show earlyL (routes.take k) sends[i] = earlyL routes sends[i] by rw [hkk, List.take_length])
      clear hkk
      generalize earlyL (routes.take k) sends[i] = n0 at HE ⊢
      go_wp2_with fail
      go_ret
      exact ⟨by rw [← HE.out]; rfl, HB.out⟩
set_option maxRecDepth 100000 in
set_option maxHeartbeats 4000000 in
theorem latest82 (g : Nat) (A0 : Option Addr) (c0 : Nat) (sends : List Int) (A1 : Option Addr) (c1 : Nat) (routes : List S122) (pat pat0 : Int) (w : World) (h1 : Kd.C k122 w A1 routes.length routes) (hw : WorkAt w g A0 c0 sends A1 c1 routes pat) (v : Valid sends routes pat0) (i : Nat) (hi : i < sends.length) :
    Calls Try.prog 82 #[.pointer (some ⟨g, 0, none⟩), .int .i64 (i : Int)] w fun e w' => e = .returned (.int .i64 (lateL routes sends[i])) ∧ Below w.heap.size w w' := by
  have HW := Aside0.mk hw
  have HR1 := Aside0.mk h1
  have V := Aside0.mk v
  have HI := Aside0.mk hi
  obtain ⟨mb, nm, m, hg, hm, hd⟩ := hw
  have x1 : w.cell? ⟨g, 1, none⟩ = some (.slice A1 routes.length c1) := (blk_cell hg 1).trans rfl
  have HG := Aside0.mk hg
  have HM := Aside0.mk hm
  have HD := Aside0.mk hd
  have hs4 := v.sn
  have hr3 := v.rn
  clear hg hm hd v h1
  go_enter Try.func82, Try.ntmps82
  go_wp2_with fail
  clear x1
  go_loopg [5, 14] routes.length (fun gg s5 s14 wr => ∃ k : Nat, k ≤ routes.length ∧ routes.length - k ≤ gg ∧ s14 = .int .i64 k ∧ s5 = .int .i64 (lateL (routes.take k) sends[i]) ∧ Aside0 (Below w.heap.size w wr))
  case atStart => exact ⟨0, by omega, by omega, rfl, rfl, ⟨Below.refl _ _⟩⟩
  case round =>
    obtain ⟨k, hk, hgk, rfl, rfl, HB⟩ := hrel
    obtain ⟨wm, rfl⟩ : ∃ wm : World, wm = wr := ⟨_, rfl⟩
    by_cases hlt : k < routes.length
    · have hltz : (k : Int) < (routes.length : Int) := by omega
      obtain ⟨ad2, A3, c3, e3, d3a, d3b, l3, g3⟩ := at_T122 HR1.out (k : Int) (by omega) hltz
      cases e3
      rw [Int.toNat_natCast] at d3a d3b
      have hx : rd_T122 routes (k : Int) = routes[k] := by unfold rd_T122; rw [Int.toNat_natCast, rd_in _ _ _ hlt]
      rw [hx] at d3a d3b
      replace d3a := (HB.out.cell (World.block_lt_of_cell? w _ d3a)).trans d3a
      replace d3b := (HB.out.cell (World.block_lt_of_cell? w _ d3b)).trans d3b
      have HN := Aside0.mk (V.out.set hi hlt)
      have HE := Aside0.mk (lateL_snoc (routes.take k) routes[k] sends[i])
      obtain ⟨t, ht1, ht2⟩ := HD.out i hi k hlt
      clear hx g3
      have HTK := Aside0.mk (List.take_succ_eq_append_getElem hlt)
      generalize lateL (routes.take k) sends[i] = n0 at HE ⊢
      generalize routes[k] = x at d3a d3b HN HE ht2 HTK
      obtain ⟨legs, lossy⟩ := x
      dsimp only at d3a d3b HN HE ht2
      obtain ⟨W5, hW5⟩ : ∃ W5, W5 = wm.alloc (.cells #[.slice A3 legs.length c3, .bool lossy] 122) := ⟨_, rfl⟩
      have hb5 : Below wm.heap.size wm W5 := hW5 ▸ (Below.refl _ wm).alloc (Nat.le_refl _) _
      have HX5 := Aside0.mk (show W5.heap[wm.heap.size]? = some (.cells #[.slice A3 legs.length c3, .bool lossy] 122 (0, 0)) from by rw [hW5]; exact blk_new _ _)
      have HB5 := Aside0.mk (below_then HB.out HB.out.size hb5)
      have HS := Aside0.mk (ht2.below HB5.out)
      have hlook := (HM.out.below HB5.out).lookup (WalkArith.wf_i64 (by omega)) (WalkArith.wf_i64 (by omega)) ht1
      have c3' : W5.cell? ⟨g, 3, none⟩ = some (.map (some mb)) := (blk_cell (blk_below HG.out HB5.out) 3).trans rfl
      have HW5 := Aside0.mk hW5
      clear ht1 ht2 hb5
      cases lossy with
      | true =>
        clear hlook c3' hW5
        go_wp2_with fail
        go_roundg (routes.length - (k + 1))
        case measure => omega
        case rel =>
          refine ⟨k + 1, by omega, by omega, by go_num, ?_, ⟨HW5.out ▸ HB5.out⟩⟩
          rw [HTK.out, HE.out]
          rfl
      | false =>
        have HNew := Aside0.mk hW5
        rw [hW5] at hlook c3'
        clear hW5
        go_wp2_with fail
        rw [← HNew.out]
        refine (last128 t _ W5 HS.out HN.out.1).mono ?_
        rintro e w4 ⟨rfl, hb⟩
        have HB4 := Aside0.mk (below_then HB5.out HB5.out.size hb)
        have HF := Aside0.mk (show (hoursOf (setsOf legs sends[i]) 101).getLast HN.out.1 = lastOf (setsOf legs sends[i]) by
          have hl0 : 0 < (hoursOf (setsOf legs sends[i]) 101).length := List.length_pos_iff.2 HN.out.1
          unfold lastOf rd
          rw [Int.toNat_natCast, rd_in _ _ _ (by omega), List.getLast_eq_getElem])
        generalize (hoursOf (setsOf legs sends[i]) 101).getLast HN.out.1 = z at HF ⊢
        clear hb hlook c3'
        go_wp2_with fail
        refine (smallest_two n0 z w4).mono ?_
        rintro e w5 ⟨rfl, hb⟩
        have HB6 := Aside0.mk (below_then HB4.out HB4.out.size hb)
        clear hb
        go_wp2_with fail
        go_roundg (routes.length - (k + 1))
        case measure => omega
        case rel =>
          refine ⟨k + 1, by omega, by omega, by go_num, ?_, HB6⟩
          rw [HTK.out, HE.out, HF.out]
          rfl
    · have hltz : ¬ (k : Int) < (routes.length : Int) := by omega
      have hkk : k = routes.length := by omega
      have HE := Aside0.mk (show lateL (routes.take k) sends[i] = lateL routes sends[i] by rw [hkk, List.take_length])
      clear hkk
      generalize lateL (routes.take k) sends[i] = n0 at HE ⊢
      go_wp2_with fail
      go_ret
      exact ⟨by rw [← HE.out]; rfl, HB.out⟩
end Go.Proofs.Ytiephlhohgohcaa.PAll
namespace Go.Proofs.Ytiephlhohgohcaa.PAll
open Go.RowKit Go.Proofs.YtiephlhohgohcaaW.PrintWords Go.Proofs.YtiephlhohgohcaaW.PrintLast Go.Proofs.YtiephlhohgohcaaW.PrintMore
attribute [local go_sem] max2_int min2_int max_two min_two max_three min_three max_four min_four
set_option linter.unusedVariables false
set_option linter.unusedSimpArgs false
def canL : List S122 → Int → Int → Bool → Bool
  | [], _, _, some' => some'
  | r :: rs, sent, hour, some' => if (!r.f1 && decide (lastOf (setsOf r.f0 sent) < hour)) = true then false else canL rs sent hour (some' || (decide (hour < 101) && setsOf r.f0 sent hour))
set_option maxRecDepth 100000 in
set_option maxHeartbeats 4000000 in
theorem can139 (g : Nat) (A0 : Option Addr) (c0 : Nat) (sends : List Int) (A1 : Option Addr) (c1 : Nat) (routes : List S122) (pat pat0 : Int) (w : World) (h1 : Kd.C k122 w A1 routes.length routes) (hw : WorkAt w g A0 c0 sends A1 c1 routes pat) (v : Valid sends routes pat0) (i : Nat) (hi : i < sends.length) (hn : Nat) (hh : hn ≤ 101) :
    Calls Try.prog 139 #[.pointer (some ⟨g, 0, none⟩), .int .i64 (i : Int), .int .i64 (hn : Int)] w fun e w' => e = .returned (.bool (canL routes sends[i] (hn : Int) ((hn : Int) == 101))) ∧ Below w.heap.size w w' := by
  have HW := Aside0.mk hw
  have HR1 := Aside0.mk h1
  have V := Aside0.mk v
  have HI := Aside0.mk hi
  obtain ⟨mb, nm, m, hg, hm, hd⟩ := hw
  have x1 : w.cell? ⟨g, 1, none⟩ = some (.slice A1 routes.length c1) := (blk_cell hg 1).trans rfl
  have HG := Aside0.mk hg
  have HM := Aside0.mk hm
  have HD := Aside0.mk hd
  have hs4 := v.sn
  have hr3 := v.rn
  clear hg hm hd v h1
  go_enter Try.func139, Try.ntmps139
  go_wp2_with fail
  clear x1
  go_loopg [7, 19] routes.length (fun gg s7 s19 wr => ∃ (k : Nat) (sb : Bool), k ≤ routes.length ∧ routes.length - k ≤ gg ∧ s19 = .int .i64 k ∧ s7 = .bool sb ∧ Aside0 (canL (routes.drop k) sends[i] (hn : Int) sb = canL routes sends[i] (hn : Int) ((hn : Int) == 101)) ∧ Aside0 (Below w.heap.size w wr))
  case atStart => exact ⟨0, ((hn : Int) == 101), by omega, by omega, rfl, rfl, ⟨rfl⟩, ⟨Below.refl _ _⟩⟩
  case round =>
    obtain ⟨k, sb, hk, hgk, rfl, rfl, HH, HB⟩ := hrel
    obtain ⟨wm, rfl⟩ : ∃ wm : World, wm = wr := ⟨_, rfl⟩
    by_cases hlt : k < routes.length
    · have hltz : (k : Int) < (routes.length : Int) := by omega
      obtain ⟨ad2, A3, c3, e3, d3a, d3b, l3, g3⟩ := at_T122 HR1.out (k : Int) (by omega) hltz
      cases e3
      rw [Int.toNat_natCast] at d3a d3b
      have hx : rd_T122 routes (k : Int) = routes[k] := by unfold rd_T122; rw [Int.toNat_natCast, rd_in _ _ _ hlt]
      replace d3a := (HB.out.cell (World.block_lt_of_cell? w _ d3a)).trans d3a
      replace d3b := (HB.out.cell (World.block_lt_of_cell? w _ d3b)).trans d3b
      have HN := V.out.set hi hlt
      obtain ⟨t, ht1, ht2⟩ := HD.out i hi k hlt
      rw [← hx] at HN ht2
      have HNN := Aside0.mk HN
      have HXk := Aside0.mk hx
      clear hx g3 HN
      generalize rd_T122 routes (k : Int) = x at d3a d3b HNN HXk ht2
      obtain ⟨legs, lossy⟩ := x
      dsimp only at d3a d3b HNN ht2
      obtain ⟨W5, hW5⟩ : ∃ W5, W5 = wm.alloc (.cells #[.slice A3 legs.length c3, .bool lossy] 122) := ⟨_, rfl⟩
      have hb5 : Below wm.heap.size wm W5 := hW5 ▸ (Below.refl _ wm).alloc (Nat.le_refl _) _
      have HX5 := Aside0.mk (show W5.heap[wm.heap.size]? = some (.cells #[.slice A3 legs.length c3, .bool lossy] 122 (0, 0)) from by rw [hW5]; exact blk_new _ _)
      have HB5 := Aside0.mk (below_then HB.out HB.out.size hb5)
      have HSW := Aside0.mk (ht2.below HB5.out)
      have hlook := (HM.out.below HB5.out).lookup (WalkArith.wf_i64 (by omega)) (WalkArith.wf_i64 (by omega)) ht1
      have c3' : W5.cell? ⟨g, 3, none⟩ = some (.map (some mb)) := (blk_cell (blk_below HG.out HB5.out) 3).trans rfl
      rw [hW5] at hlook c3'
      have HW5 := Aside0.mk hW5
      clear ht1 ht2 hb5 hW5
      cases lossy with
      | true =>
        have hnot : (!true && decide (lastOf (setsOf legs sends[i]) < (hn : Int))) = true → False := fun h => by simp at h
        rw [HW5.out] at HSW HB5
        cases sb with
        | true =>
          go_wp2_with fail
          go_roundg (routes.length - (k + 1))
          case measure => omega
          case rel =>
            refine ⟨k + 1, true, by omega, by omega, by go_num, rfl, ⟨?_⟩, HB5⟩
            rw [← HH.out, List.drop_eq_getElem_cons hlt, ← HXk.out, canL, if_neg hnot, Bool.true_or]
        | false =>
          by_cases h101 : hn < 101
          · have h101z : (hn : Int) < 101 := by omega
            have z0 : (wm.alloc (.cells #[.slice A3 legs.length c3, .bool true] 122)).cell? ⟨t, hn, none⟩ = some (.bool (setsOf legs sends[i] (hn : Int))) := HSW.out.cell h101
            have HZ : Aside0 (canL routes sends[i] (hn : Int) ((hn : Int) == 101) = canL (routes.drop (k + 1)) sends[i] (hn : Int) (setsOf legs sends[i] (hn : Int))) := ⟨by
              rw [← HH.out, List.drop_eq_getElem_cons hlt, ← HXk.out, canL, if_neg hnot, Bool.false_or, show decide ((hn : Int) < 101) = true by simpa using h101z, Bool.true_and]⟩
            generalize setsOf legs sends[i] (hn : Int) = zb at z0 HZ
            go_wp2_with fail
            go_roundg (routes.length - (k + 1))
            case measure => omega
            case rel => exact ⟨k + 1, zb, by omega, by omega, by go_num, rfl, ⟨HZ.out.symm⟩, HB5⟩
          · have h101z : ¬ (hn : Int) < 101 := by omega
            go_wp2_with fail
            go_roundg (routes.length - (k + 1))
            case measure => omega
            case rel =>
              refine ⟨k + 1, false, by omega, by omega, by go_num, rfl, ⟨?_⟩, HB5⟩
              rw [← HH.out, List.drop_eq_getElem_cons hlt, ← HXk.out, canL, if_neg hnot, Bool.false_or, show decide ((hn : Int) < 101) = false by simpa using h101z, Bool.false_and]
      | false =>
        go_wp2_with fail
        rw [← HW5.out]
        refine (last128 t _ W5 HSW.out HNN.out.1).mono ?_
        rintro e w4 ⟨rfl, hb⟩
        have HB4 := Aside0.mk (below_then HB5.out HB5.out.size hb)
        have HSW' := Aside0.mk (HSW.out.below hb)
        clear HSW
        have HSW := HSW'
        clear HSW'
        have HF := Aside0.mk (show (hoursOf (setsOf legs sends[i]) 101).getLast HNN.out.1 = lastOf (setsOf legs sends[i]) by
          have hl0 : 0 < (hoursOf (setsOf legs sends[i]) 101).length := List.length_pos_iff.2 HNN.out.1
          unfold lastOf rd
          rw [Int.toNat_natCast, rd_in _ _ _ (by omega), List.getLast_eq_getElem])
        generalize (hoursOf (setsOf legs sends[i]) 101).getLast HNN.out.1 = z at HF ⊢
        clear hb hlook c3'
        by_cases hz : z < (hn : Int)
        · have HZ : Aside0 (canL routes sends[i] (hn : Int) ((hn : Int) == 101) = false) := ⟨by
            rw [← HH.out, List.drop_eq_getElem_cons hlt, ← HXk.out, canL, ← HF.out, if_pos (by simpa using hz)]⟩
          go_wp2_with fail
          go_ret
          exact ⟨by rw [HZ.out]; rfl, HB4.out⟩
        · have hnot : (!false && decide (lastOf (setsOf legs sends[i]) < (hn : Int))) = true → False := fun h => by rw [← HF.out] at h; simp at h; omega
          cases sb with
          | true =>
            go_wp2_with fail
            go_roundg (routes.length - (k + 1))
            case measure => omega
            case rel =>
              refine ⟨k + 1, true, by omega, by omega, by go_num, rfl, ⟨?_⟩, HB4⟩
              rw [← HH.out, List.drop_eq_getElem_cons hlt, ← HXk.out, canL, if_neg hnot, Bool.true_or]
          | false =>
            by_cases h101 : hn < 101
            · have h101z : (hn : Int) < 101 := by omega
              have z0 : w4.cell? ⟨t, hn, none⟩ = some (.bool (setsOf legs sends[i] (hn : Int))) := HSW.out.cell h101
              have HZ : Aside0 (canL routes sends[i] (hn : Int) ((hn : Int) == 101) = canL (routes.drop (k + 1)) sends[i] (hn : Int) (setsOf legs sends[i] (hn : Int))) := ⟨by
                rw [← HH.out, List.drop_eq_getElem_cons hlt, ← HXk.out, canL, if_neg hnot, Bool.false_or, show decide ((hn : Int) < 101) = true by simpa using h101z, Bool.true_and]⟩
              generalize setsOf legs sends[i] (hn : Int) = zb at z0 HZ
              go_wp2_with fail
              go_roundg (routes.length - (k + 1))
              case measure => omega
              case rel => exact ⟨k + 1, zb, by omega, by omega, by go_num, rfl, ⟨HZ.out.symm⟩, HB4⟩
            · have h101z : ¬ (hn : Int) < 101 := by omega
              go_wp2_with fail
              go_roundg (routes.length - (k + 1))
              case measure => omega
              case rel =>
                refine ⟨k + 1, false, by omega, by omega, by go_num, rfl, ⟨?_⟩, HB4⟩
                rw [← HH.out, List.drop_eq_getElem_cons hlt, ← HXk.out, canL, if_neg hnot, Bool.false_or, show decide ((hn : Int) < 101) = false by simpa using h101z, Bool.false_and]
    · have hltz : ¬ (k : Int) < (routes.length : Int) := by omega
      have HE : Aside0 (canL routes sends[i] (hn : Int) ((hn : Int) == 101) = sb) := ⟨by rw [← HH.out, List.drop_eq_nil_of_le (by omega)]; rfl⟩
      go_wp2_with fail
      go_ret
      exact ⟨by rw [HE.out]; rfl, HB.out⟩
end Go.Proofs.Ytiephlhohgohcaa.PAll
namespace Go.Proofs.Ytiephlhohgohcaa.PAll
open Go.RowKit Go.Proofs.YtiephlhohgohcaaW.PrintWords Go.Proofs.YtiephlhohgohcaaW.PrintLast Go.Proofs.YtiephlhohgohcaaW.PrintMore
set_option linter.unusedVariables false
/-- An entry contradicts what becomes of a dispatch. -/
def wrongB (n : Int) (e : S87) (x : S87) : Bool := x.f0 == n && !decide (x = e)
/-- A dispatch can have an hour, and no entry contradicts it. -/
def goodB (routes : List S122) (pat : Int) (l : List S87) (n before sent h : Int) : Bool :=
  canL routes sent h (h == 101) && !l.any (wrongB n (recvE n before h (sent + pat)))
/-- The first hours that explain the entries, for the dispatches from one on. -/
def srchL (routes : List S122) (pat : Int) (l : List S87) : List Int → Int → Int → Option (List Int)
  | [], _, _ => some []
  | s :: ss, n, before => (List.range 102).findSome? fun h : Nat =>
      if goodB routes pat l n before s h = true then (srchL routes pat l ss (n + 1) (recvE n before h (s + pat)).f1).map (fun r => (h : Int) :: r) else none
end Go.Proofs.Ytiephlhohgohcaa.PAll
namespace Go.Proofs.Ytiephlhohgohcaa.PAll
open Go.RowKit Go.Proofs.YtiephlhohgohcaaW.PrintWords Go.Proofs.YtiephlhohgohcaaW.PrintLast Go.Proofs.YtiephlhohgohcaaW.PrintMore
attribute [local go_sem] max2_int min2_int max_two min_two max_three min_three max_four min_four
set_option linter.unusedVariables false
set_option linter.unusedSimpArgs false
set_option maxRecDepth 100000 in
set_option maxHeartbeats 4000000 in
theorem wrong138 (n : Int) (e x : S87) (B1 B2 : Nat) (w : World) (h1 : w.heap[B1]? = some (.cells #[.int .i64 n] 3 (0, 0))) (h2 : w.heap[B2]? = some (.cells #[.int .i64 e.f0, .int .i64 e.f1, .bool e.f2] 87 (0, 0))) :
    Calls Try.prog 138 #[.agg #[.int .i64 x.f0, .int .i64 x.f1, .bool x.f2], .pointer (some ⟨B1, 0, none⟩), .pointer (some ⟨B2, 0, none⟩)] w fun r w' => r = .returned (.bool (wrongB n e x)) ∧ Below w.heap.size w w' := by
  obtain ⟨a, b, c⟩ := x
  obtain ⟨a', b', c'⟩ := e
  dsimp only at h2 ⊢
  obtain ⟨W1, hW1⟩ : ∃ W1, W1 = w.alloc (.cells #[.int .i64 a, .int .i64 b, .bool c] 87) := ⟨_, rfl⟩
  have hb1 : Below w.heap.size w W1 := hW1 ▸ (Below.refl _ w).alloc (Nat.le_refl _) _
  have HB := Aside0.mk hb1
  have y0 : W1.cell? ⟨B1, 0, none⟩ = some (.int .i64 n) := (blk_cell (blk_below h1 hb1) 0).trans rfl
  have z0 : W1.cell? ⟨B2, 0, none⟩ = some (.int .i64 a') := (blk_cell (blk_below h2 hb1) 0).trans rfl
  have z1 : W1.cell? ⟨B2, 1, none⟩ = some (.int .i64 b') := (blk_cell (blk_below h2 hb1) 1).trans rfl
  have z2 : W1.cell? ⟨B2, 2, none⟩ = some (.bool c') := (blk_cell (blk_below h2 hb1) 2).trans rfl
  rw [hW1] at y0 z0 z1 z2
  have HW1 := Aside0.mk hW1
  clear h1 h2 hb1 hW1
  by_cases hn : a = n
  · subst hn
    go_enter Try.func138, Try.ntmps138
    go_wp2_with fail
    all_goals
      go_ret
      refine ⟨?_, (Below.refl _ w).alloc (Nat.le_refl _) _⟩
      show Ending.returned (Value.bool _) = Ending.returned (Value.bool (wrongB _ _ _))
      simp_all [wrongB]
  · have hnb : ((a : Int) == n) = false := by simpa using hn
    have HN := Aside0.mk hnb
    clear hn
    go_enter Try.func138, Try.ntmps138
    go_wp2_with fail
    go_ret
    refine ⟨?_, (Below.refl _ w).alloc (Nat.le_refl _) _⟩
    rw [wrongB, HN.out]; rfl
end Go.Proofs.Ytiephlhohgohcaa.PAll
namespace Go.Proofs.Ytiephlhohgohcaa.PAll
open Go.RowKit Go.Proofs.YtiephlhohgohcaaW.PrintWords Go.Proofs.YtiephlhohgohcaaW.PrintLast Go.Proofs.YtiephlhohgohcaaW.PrintMore
set_option linter.unusedVariables false
theorem findSome_first {α : Type} {f : Nat → Option α} {m k : Nat} {x : α} (hk : k < m) (h0 : ∀ j, j < k → f j = none) (h1 : f k = some x) : (List.range m).findSome? f = some x := by
  obtain ⟨d, rfl⟩ : ∃ d, m = k + (d + 1) := ⟨m - k - 1, by omega⟩
  rw [List.range_add, List.findSome?_append, List.findSome?_eq_none_iff.2 (fun j hj => h0 j (List.mem_range.1 hj))]
  rw [List.range_succ_eq_map, List.map_cons, List.findSome?_cons, Nat.add_zero, h1]
  rfl
theorem findSome_none {α : Type} {f : Nat → Option α} {m : Nat} (h0 : ∀ j, j < m → f j = none) : (List.range m).findSome? f = none :=
  List.findSome?_eq_none_iff.2 (fun j hj => h0 j (List.mem_range.1 hj))
/-- What comes of an hour of the first dispatch. -/
def tryL (routes : List S122) (pat : Int) (l : List S87) (s : Int) (ss : List Int) (n before : Int) (h : Nat) : Option (List Int) :=
  if goodB routes pat l n before s h = true then (srchL routes pat l ss (n + 1) (recvE n before h (s + pat)).f1).map (fun r => (h : Int) :: r) else none
theorem srchL_cons (routes : List S122) (pat : Int) (l : List S87) (s : Int) (ss : List Int) (n before : Int) : srchL routes pat l (s :: ss) n before = (List.range 102).findSome? (tryL routes pat l s ss n before) := by
  rw [srchL]; rfl
/-- How many states a search can meet. -/
def putsOf : Nat → Nat
  | 0 => 0
  | d + 1 => 102 * putsOf d + 1
/-- A state that is marked leads nowhere. -/
def Sound (routes : List S122) (pat : Int) (l : List S87) (sends : List Int) (m : Int → Int → Bool) : Prop := ∀ (n : Nat) (b : Int), m (n : Int) b = true → srchL routes pat l (sends.drop n) (n : Int) b = none
theorem Sound.put {routes : List S122} {pat : Int} {l : List S87} {sends : List Int} {m : Int → Int → Bool} (h : Sound routes pat l sends m) {n : Nat} {b : Int} (hn : srchL routes pat l (sends.drop n) (n : Int) b = none) : Sound routes pat l sends (fun i k => if i = (n : Int) ∧ k = b then true else m i k) := by
  intro i k hik
  by_cases e : (i : Int) = (n : Int) ∧ k = b
  · obtain ⟨e1, rfl⟩ := e
    obtain rfl : i = n := by omega
    exact hn
  · simp only [if_neg e] at hik
    exact h i k hik
end Go.Proofs.Ytiephlhohgohcaa.PAll
namespace Go.Proofs.Ytiephlhohgohcaa.PAll
open Go.RowKit Go.Proofs.YtiephlhohgohcaaW.PrintWords Go.Proofs.YtiephlhohgohcaaW.PrintLast Go.Proofs.YtiephlhohgohcaaW.PrintMore
attribute [local go_sem] max2_int min2_int max_two min_two max_three min_three max_four min_four
set_option linter.unusedVariables false
set_option linter.unusedSimpArgs false
/-- When the k-th dispatch is finished at the latest, if the i-th one has the hour F i, the deadline D i. -/
def finF (F : List S122 → Int → Int) (routes : List S122) (pat : Int) : Int → List Int → Int
  | at', [] => at'
  | at', s :: ss => finF F routes pat (max at' (min (F routes s) (s + pat))) ss
theorem finF_snoc (F : List S122 → Int → Int) (routes : List S122) (pat : Int) (s : Int) : ∀ (ss : List Int) (a : Int), finF F routes pat a (ss ++ [s]) = max (finF F routes pat a ss) (min (F routes s) (s + pat))
  | [], _ => rfl
  | t :: ss, a => finF_snoc F routes pat s ss _
set_option maxRecDepth 100000 in
set_option maxHeartbeats 4000000 in
theorem finish_81 (g : Nat) (A0 : Option Addr) (c0 : Nat) (sends : List Int) (A1 : Option Addr) (c1 : Nat) (routes : List S122) (pat pat0 : Int) (w : World) (h0 : Kd.C (Kd.int .i64) w A0 sends.length sends) (l0 : sends.length ≤ c0) (h1 : Kd.C k122 w A1 routes.length routes) (l1 : routes.length ≤ c1)
    (hw : WorkAt w g A0 c0 sends A1 c1 routes pat) (v : Valid sends routes pat0) (p0 : 0 ≤ pat) (p1 : pat ≤ 30) (n : Nat) (hn : n < sends.length) :
    Calls Try.prog 83 #[.agg #[.func (.func 81) #[] #[]], .pointer (some ⟨g, 0, none⟩), .int .i64 (n : Int)] w fun e w' => e = .returned (.int .i64 (finF earlyL routes pat 0 (sends.take (n + 1)))) ∧ Below w.heap.size w w' := by
  have HW := Aside0.mk hw
  have HR0 := Aside0.mk h0
  have HR1 := Aside0.mk h1
  have HL0 := Aside0.mk l0
  have HL1 := Aside0.mk l1
  have V := Aside0.mk v
  have HG : Aside0 (∃ mb, w.heap[g]? = some (.cells #[.slice A0 sends.length c0, .slice A1 routes.length c1, .int .i64 pat, .map (some mb)] 138 (0, 0))) := ⟨by obtain ⟨mb, _, _, hg, _⟩ := hw; exact ⟨mb, hg⟩⟩
  obtain ⟨mb, hg⟩ := HG.out
  have HGG := Aside0.mk hg
  have hs4 := v.sn
  obtain ⟨W1, hW1⟩ : ∃ W1, W1 = w.alloc (.cells #[.func (.func 81) #[] #[]] 148) := ⟨_, rfl⟩
  have hb1 : Below w.heap.size w W1 := hW1 ▸ (Below.refl _ w).alloc (Nat.le_refl _) _
  have HX := Aside0.mk (show W1.heap[w.heap.size]? = some (.cells #[.func (.func 81) #[] #[]] 148 (0, 0)) from by rw [hW1]; exact blk_new _ _)
  have HB1 := Aside0.mk hb1
  have HW1 := Aside0.mk hW1
  have hwn : wrap64 ((n : Int) + 1) = ((n + 1 : Nat) : Int) := by unfold wrap64; omega
  clear hg hw h0 h1 l0 l1 v hW1 hb1 HG
  go_enter Try.func83, Try.ntmps83
  go_wp2_with fail
  rw [← HW1.out]
  clear HW1
  go_loopg [6, 10] (n + 1) (fun gg s6 s10 wr => ∃ i : Nat, i ≤ n + 1 ∧ n + 1 - i ≤ gg ∧ s10 = .int .i64 i ∧ s6 = .int .i64 (finF earlyL routes pat 0 (sends.take i)) ∧ Aside0 (wr.heap[w.heap.size]? = some (.cells #[.func (.func 81) #[] #[]] 148 (0, 0))) ∧ Aside0 (Below w.heap.size w wr))
  case atStart => exact ⟨0, by omega, by omega, rfl, rfl, HX, HB1⟩
  case round =>
    obtain ⟨i, hi, hgi, rfl, rfl, HXr, HB⟩ := hrel
    clear HX HB1
    obtain ⟨wm, rfl⟩ : ∃ wm : World, wm = wr := ⟨_, rfl⟩
    by_cases hlt : i < n + 1
    · have hltz : (i : Int) < ((n + 1 : Nat) : Int) := by omega
      have hin : i < sends.length := by omega
      have hx : rd sends (i : Int) = sends[i] := by unfold rd; rw [Int.toNat_natCast, rd_in _ _ _ hin]
      have hs0 := V.out.s0 _ (List.getElem_mem hin)
      have HD := Aside0.mk (show wrap64 (rd sends (i : Int) + pat) = sends[i] + pat by rw [hx]; unfold wrap64; omega)
      have HE := Aside0.mk (finF_snoc earlyL routes pat sends[i] (sends.take i) 0)
      have HTK := Aside0.mk (List.take_succ_eq_append_getElem hin)
      have b0 : wm.cell? ⟨w.heap.size, 0, none⟩ = some (.func (.func 81) #[] #[]) := (blk_cell HXr.out 0).trans rfl
      have q0 : wm.cell? ⟨g, 0, none⟩ = some (.slice A0 sends.length c0) := (blk_cell (blk_below HGG.out HB.out) 0).trans rfl
      have q1 : wm.cell? ⟨g, 1, none⟩ = some (.slice A1 routes.length c1) := (blk_cell (blk_below HGG.out HB.out) 1).trans rfl
      have q2 : wm.cell? ⟨g, 2, none⟩ = some (.int .i64 pat) := (blk_cell (blk_below HGG.out HB.out) 2).trans rfl
      have KEEP : Aside0 (∀ w', Below wm.heap.size wm w' → (w'.cell? ⟨w.heap.size, 0, none⟩ = some (.func (.func 81) #[] #[]) ∧ w'.cell? ⟨g, 0, none⟩ = some (.slice A0 sends.length c0) ∧ w'.cell? ⟨g, 1, none⟩ = some (.slice A1 routes.length c1) ∧ w'.cell? ⟨g, 2, none⟩ = some (.int .i64 pat))) :=
        ⟨fun w' hb => ⟨pw_cell_below hb b0, pw_cell_below hb q0, pw_cell_below hb q1, pw_cell_below hb q2⟩⟩
      have hq0 : Aside0 (Below wm.heap.size wm wm.drew) := ⟨below_drew (Below.refl _ _)⟩
      have HDL : Aside0 (∀ w3, Below wm.heap.size wm w3 → Calls Try.prog 84 #[.agg #[.slice A0 sends.length c0, .slice A1 routes.length c1, .int .i64 pat], .int .i64 (i : Int)] w3 fun e w' => e = .returned (.int .i64 (sends[i] + pat)) ∧ Below w3.heap.size w3 w') := ⟨fun w3 hb => by
        have hbb := below_then HB.out HB.out.size hb
        have := deadline84 A0 c0 sends A1 c1 routes pat (i : Int) w3 (Kd.C_below HR0.out hbb) HL0.out (Kd.C_below HR1.out hbb) HL1.out (by omega) (by omega)
        rw [HD.out] at this
        exact this⟩
      clear hx hs0
      generalize finF earlyL routes pat 0 (sends.take i) = at0 at HE ⊢
      go_wp2_with fail
      go_region_held3 (fun w' => w'.cell? ⟨w.heap.size, 0, none⟩ = some (.func (.func 81) #[] #[]) ∧ w'.cell? ⟨g, 0, none⟩ = some (.slice A0 sends.length c0) ∧ w'.cell? ⟨g, 1, none⟩ = some (.slice A1 routes.length c1) ∧ w'.cell? ⟨g, 2, none⟩ = some (.int .i64 pat))
        (first
          | exact KEEP.out _ hq0.out
          | exact KEEP.out _ hq1.out
          | exact KEEP.out _ hq2.out
          | exact KEEP.out _ (hq2.out.alloc hq2.out.size _)
          | exact KEEP.out _ hq3.out)
        (first
          | (go_at_call 81; refine (earliest81 g A0 c0 sends A1 c1 routes pat pat0 _ (HW.out.below (below_then HB.out HB.out.size hq0.out)) V.out i hin).mono ?_; rintro e w3 ⟨rfl, hb3⟩; have hq1 := Aside0.mk (below_then hq0.out hq0.out.size hb3); clear hb3)
          | (go_at_call 84; refine (HDL.out _ hq1.out).mono ?_; rintro e w4 ⟨rfl, hb4⟩; have hq2 := Aside0.mk (below_then hq1.out hq1.out.size hb4); clear hb4)
          | (go_at_call 122; refine (smallest_two (earlyL routes sends[i]) (sends[i] + pat) _).mono ?_; rintro e w5 ⟨rfl, hb5⟩; have hq3 := Aside0.mk (below_then hq2.out hq2.out.size hb5); clear hb5))
      go_wp2_with fail
      all_goals
        go_roundg (n + 1 - (i + 1))
        case measure => omega
        case rel =>
          refine ⟨i + 1, by omega, by omega, by go_num, ?_, ⟨blk_below HXr.out hq3.out⟩, ⟨below_then HB.out HB.out.size hq3.out⟩⟩
          rw [HTK.out, HE.out]
          congr 1
          omega
    · have hltz : ¬ (i : Int) < ((n + 1 : Nat) : Int) := by omega
      have hii : i = n + 1 := by omega
      have HE := Aside0.mk (show finF earlyL routes pat 0 (sends.take i) = finF earlyL routes pat 0 (sends.take (n + 1)) by rw [hii])
      clear hii
      generalize finF earlyL routes pat 0 (sends.take i) = at0 at HE ⊢
      go_wp2_with fail
      go_ret
      exact ⟨by rw [← HE.out]; rfl, HB.out⟩
set_option maxRecDepth 100000 in
set_option maxHeartbeats 4000000 in
theorem finish_82 (g : Nat) (A0 : Option Addr) (c0 : Nat) (sends : List Int) (A1 : Option Addr) (c1 : Nat) (routes : List S122) (pat pat0 : Int) (w : World) (h0 : Kd.C (Kd.int .i64) w A0 sends.length sends) (l0 : sends.length ≤ c0) (h1 : Kd.C k122 w A1 routes.length routes) (l1 : routes.length ≤ c1)
    (hw : WorkAt w g A0 c0 sends A1 c1 routes pat) (v : Valid sends routes pat0) (p0 : 0 ≤ pat) (p1 : pat ≤ 30) (n : Nat) (hn : n < sends.length) :
    Calls Try.prog 83 #[.agg #[.func (.func 82) #[] #[]], .pointer (some ⟨g, 0, none⟩), .int .i64 (n : Int)] w fun e w' => e = .returned (.int .i64 (finF lateL routes pat 0 (sends.take (n + 1)))) ∧ Below w.heap.size w w' := by
  have HW := Aside0.mk hw
  have HR0 := Aside0.mk h0
  have HR1 := Aside0.mk h1
  have HL0 := Aside0.mk l0
  have HL1 := Aside0.mk l1
  have V := Aside0.mk v
  have HG : Aside0 (∃ mb, w.heap[g]? = some (.cells #[.slice A0 sends.length c0, .slice A1 routes.length c1, .int .i64 pat, .map (some mb)] 138 (0, 0))) := ⟨by obtain ⟨mb, _, _, hg, _⟩ := hw; exact ⟨mb, hg⟩⟩
  obtain ⟨mb, hg⟩ := HG.out
  have HGG := Aside0.mk hg
  have hs4 := v.sn
  obtain ⟨W1, hW1⟩ : ∃ W1, W1 = w.alloc (.cells #[.func (.func 82) #[] #[]] 148) := ⟨_, rfl⟩
  have hb1 : Below w.heap.size w W1 := hW1 ▸ (Below.refl _ w).alloc (Nat.le_refl _) _
  have HX := Aside0.mk (show W1.heap[w.heap.size]? = some (.cells #[.func (.func 82) #[] #[]] 148 (0, 0)) from by rw [hW1]; exact blk_new _ _)
  have HB1 := Aside0.mk hb1
  have HW1 := Aside0.mk hW1
  have hwn : wrap64 ((n : Int) + 1) = ((n + 1 : Nat) : Int) := by unfold wrap64; omega
  clear hg hw h0 h1 l0 l1 v hW1 hb1 HG
  go_enter Try.func83, Try.ntmps83
  go_wp2_with fail
  rw [← HW1.out]
  clear HW1
  go_loopg [6, 10] (n + 1) (fun gg s6 s10 wr => ∃ i : Nat, i ≤ n + 1 ∧ n + 1 - i ≤ gg ∧ s10 = .int .i64 i ∧ s6 = .int .i64 (finF lateL routes pat 0 (sends.take i)) ∧ Aside0 (wr.heap[w.heap.size]? = some (.cells #[.func (.func 82) #[] #[]] 148 (0, 0))) ∧ Aside0 (Below w.heap.size w wr))
  case atStart => exact ⟨0, by omega, by omega, rfl, rfl, HX, HB1⟩
  case round =>
    obtain ⟨i, hi, hgi, rfl, rfl, HXr, HB⟩ := hrel
    clear HX HB1
    obtain ⟨wm, rfl⟩ : ∃ wm : World, wm = wr := ⟨_, rfl⟩
    by_cases hlt : i < n + 1
    · have hltz : (i : Int) < ((n + 1 : Nat) : Int) := by omega
      have hin : i < sends.length := by omega
      have hx : rd sends (i : Int) = sends[i] := by unfold rd; rw [Int.toNat_natCast, rd_in _ _ _ hin]
      have hs0 := V.out.s0 _ (List.getElem_mem hin)
      have HD := Aside0.mk (show wrap64 (rd sends (i : Int) + pat) = sends[i] + pat by rw [hx]; unfold wrap64; omega)
      have HE := Aside0.mk (finF_snoc lateL routes pat sends[i] (sends.take i) 0)
      have HTK := Aside0.mk (List.take_succ_eq_append_getElem hin)
      have b0 : wm.cell? ⟨w.heap.size, 0, none⟩ = some (.func (.func 82) #[] #[]) := (blk_cell HXr.out 0).trans rfl
      have q0 : wm.cell? ⟨g, 0, none⟩ = some (.slice A0 sends.length c0) := (blk_cell (blk_below HGG.out HB.out) 0).trans rfl
      have q1 : wm.cell? ⟨g, 1, none⟩ = some (.slice A1 routes.length c1) := (blk_cell (blk_below HGG.out HB.out) 1).trans rfl
      have q2 : wm.cell? ⟨g, 2, none⟩ = some (.int .i64 pat) := (blk_cell (blk_below HGG.out HB.out) 2).trans rfl
      have KEEP : Aside0 (∀ w', Below wm.heap.size wm w' → (w'.cell? ⟨w.heap.size, 0, none⟩ = some (.func (.func 82) #[] #[]) ∧ w'.cell? ⟨g, 0, none⟩ = some (.slice A0 sends.length c0) ∧ w'.cell? ⟨g, 1, none⟩ = some (.slice A1 routes.length c1) ∧ w'.cell? ⟨g, 2, none⟩ = some (.int .i64 pat))) :=
        ⟨fun w' hb => ⟨pw_cell_below hb b0, pw_cell_below hb q0, pw_cell_below hb q1, pw_cell_below hb q2⟩⟩
      have hq0 : Aside0 (Below wm.heap.size wm wm.drew) := ⟨below_drew (Below.refl _ _)⟩
      have HDL : Aside0 (∀ w3, Below wm.heap.size wm w3 → Calls Try.prog 84 #[.agg #[.slice A0 sends.length c0, .slice A1 routes.length c1, .int .i64 pat], .int .i64 (i : Int)] w3 fun e w' => e = .returned (.int .i64 (sends[i] + pat)) ∧ Below w3.heap.size w3 w') := ⟨fun w3 hb => by
        have hbb := below_then HB.out HB.out.size hb
        have := deadline84 A0 c0 sends A1 c1 routes pat (i : Int) w3 (Kd.C_below HR0.out hbb) HL0.out (Kd.C_below HR1.out hbb) HL1.out (by omega) (by omega)
        rw [HD.out] at this
        exact this⟩
      clear hx hs0
      generalize finF lateL routes pat 0 (sends.take i) = at0 at HE ⊢
      go_wp2_with fail
      go_region_held3 (fun w' => w'.cell? ⟨w.heap.size, 0, none⟩ = some (.func (.func 82) #[] #[]) ∧ w'.cell? ⟨g, 0, none⟩ = some (.slice A0 sends.length c0) ∧ w'.cell? ⟨g, 1, none⟩ = some (.slice A1 routes.length c1) ∧ w'.cell? ⟨g, 2, none⟩ = some (.int .i64 pat))
        (first
          | exact KEEP.out _ hq0.out
          | exact KEEP.out _ hq1.out
          | exact KEEP.out _ hq2.out
          | exact KEEP.out _ (hq2.out.alloc hq2.out.size _)
          | exact KEEP.out _ hq3.out)
        (first
          | (go_at_call 82; refine (latest82 g A0 c0 sends A1 c1 routes pat pat0 _ (Kd.C_below HR1.out (below_then HB.out HB.out.size hq0.out)) (HW.out.below (below_then HB.out HB.out.size hq0.out)) V.out i hin).mono ?_; rintro e w3 ⟨rfl, hb3⟩; have hq1 := Aside0.mk (below_then hq0.out hq0.out.size hb3); clear hb3)
          | (go_at_call 84; refine (HDL.out _ hq1.out).mono ?_; rintro e w4 ⟨rfl, hb4⟩; have hq2 := Aside0.mk (below_then hq1.out hq1.out.size hb4); clear hb4)
          | (go_at_call 122; refine (smallest_two (lateL routes sends[i]) (sends[i] + pat) _).mono ?_; rintro e w5 ⟨rfl, hb5⟩; have hq3 := Aside0.mk (below_then hq2.out hq2.out.size hb5); clear hb5))
      go_wp2_with fail
      all_goals
        go_roundg (n + 1 - (i + 1))
        case measure => omega
        case rel =>
          refine ⟨i + 1, by omega, by omega, by go_num, ?_, ⟨blk_below HXr.out hq3.out⟩, ⟨below_then HB.out HB.out.size hq3.out⟩⟩
          rw [HTK.out, HE.out]
          congr 1
          omega
    · have hltz : ¬ (i : Int) < ((n + 1 : Nat) : Int) := by omega
      have hii : i = n + 1 := by omega
      have HE := Aside0.mk (show finF lateL routes pat 0 (sends.take i) = finF lateL routes pat 0 (sends.take (n + 1)) by rw [hii])
      clear hii
      generalize finF lateL routes pat 0 (sends.take i) = at0 at HE ⊢
      go_wp2_with fail
      go_ret
      exact ⟨by rw [← HE.out]; rfl, HB.out⟩
end Go.Proofs.Ytiephlhohgohcaa.PAll
namespace Go.Proofs.Ytiephlhohgohcaa.PAll
open Go.RowKit Go.Proofs.YtiephlhohgohcaaW.PrintWords Go.Proofs.YtiephlhohgohcaaW.PrintLast Go.Proofs.YtiephlhohgohcaaW.PrintMore
set_option linter.unusedVariables false
/-- So many entries of a rest are left out, the smaller lists first. -/
def leaveL (routes : List S122) (pat : Int) (sends : List Int) : List S87 → Int → List Int → List S87 → Nat → Option (List Int)
  | [], _, out, kept, many => if 0 < many then none else if (srchL routes pat kept sends 0 0).isSome = true then some out else none
  | x :: xs, n, out, kept, many => if xs.length + 1 < many then none else
      match (if 0 < many then leaveL routes pat sends xs (n + 1) (out ++ [n]) kept (many - 1) else none) with
      | some r => some r
      | none => leaveL routes pat sends xs (n + 1) out (kept ++ [x]) many
theorem leaveL_far (routes : List S122) (pat : Int) (sends : List Int) (l : List S87) (n : Int) (out : List Int) (kept : List S87) (many : Nat) (h : l.length < many) : leaveL routes pat sends l n out kept many = none := by
  cases l with
  | nil => rw [leaveL, if_pos (by simpa using h)]
  | cons x xs => rw [leaveL, if_pos (by simpa using h)]
/-- What Odd finds. -/
def oddL (routes : List S122) (pat : Int) (sends : List Int) (l : List S87) : List Int := ((List.range (l.length + 1)).findSome? (fun many => leaveL routes pat sends l 0 [] [] many)).getD []
def oddRes (sends : List Int) (routes : List S122) (pat : Int) (l : List S87) : List Int × Int :=
  if bookedL sends routes pat l ≠ 0 then ([], bookedL sends routes pat l) else (oddL routes pat sends l, 0)
end Go.Proofs.Ytiephlhohgohcaa.PAll
namespace Go.Proofs.Ytiephlhohgohcaa.PAll
open Go.RowKit Go.Proofs.YtiephlhohgohcaaW.PrintWords Go.Proofs.YtiephlhohgohcaaW.PrintLast Go.Proofs.YtiephlhohgohcaaW.PrintMore
set_option linter.unusedVariables false
theorem canL_eq : ∀ (rs : List S122) (s h : Int) (b : Bool), canL rs s h b = (rs.all (fun r => r.f1 || !decide (lastOf (setsOf r.f0 s) < h)) && (b || (decide (h < 101) && rs.any (fun r => setsOf r.f0 s h))))
  | [], s, h, b => by simp [canL]
  | r :: rs, s, h, b => by
    rw [canL]
    by_cases hc : (!r.f1 && decide (lastOf (setsOf r.f0 s) < h)) = true
    · rw [if_pos hc]
      simp only [Bool.and_eq_true, Bool.not_eq_true', decide_eq_true_eq] at hc
      simp [List.all_cons, hc.1, hc.2]
    · rw [if_neg hc, canL_eq rs s h _]
      have : (r.f1 || !decide (lastOf (setsOf r.f0 s) < h)) = true := by
        cases h1 : r.f1 <;> simp [h1] at hc ⊢
        exact hc
      rw [List.all_cons, this, Bool.true_and, List.any_cons]
      cases b <;> cases decide (h < 101) <;> cases setsOf r.f0 s h <;> simp
def lateF (s : Int) : List S122 → Int → Int
  | [], n => n
  | r :: rs, n => lateF s rs (if r.f1 = true then n else min n (lastOf (setsOf r.f0 s)))
theorem lateL_F (routes : List S122) (s : Int) : lateL routes s = lateF s routes 101 := by
  unfold lateL
  generalize (101 : Int) = n
  induction routes generalizing n with
  | nil => rfl
  | cons r rs ih => rw [List.foldl_cons, ih, lateF]
theorem lateF_le (s : Int) : ∀ (rs : List S122) (n : Int), lateF s rs n ≤ n
  | [], n => Int.le_refl _
  | r :: rs, n => by
    rw [lateF]
    cases hf : r.f1 with
    | true => exact lateF_le s rs n
    | false =>
      have h := lateF_le s rs (min n (lastOf (setsOf r.f0 s)))
      simp only [Bool.false_eq_true, if_false]
      omega
theorem lateF_mem (s : Int) : ∀ (rs : List S122) (n : Int), (∀ r ∈ rs, r.f1 = true ∨ lateF s rs n ≤ lastOf (setsOf r.f0 s)) ∧ (lateF s rs n = n ∨ ∃ r ∈ rs, r.f1 = false ∧ lateF s rs n = lastOf (setsOf r.f0 s))
  | [], n => ⟨fun r hr => (by cases hr), .inl rfl⟩
  | r :: rs, n => by
    rw [lateF]
    cases hf : r.f1 with
    | true =>
      obtain ⟨h1, h2⟩ := lateF_mem s rs n
      simp only [if_true]
      refine ⟨fun q hq => ?_, ?_⟩
      · rcases List.mem_cons.1 hq with rfl | hq
        · exact .inl hf
        · exact h1 q hq
      · rcases h2 with h2 | ⟨q, hq, h3⟩
        · exact .inl h2
        · exact .inr ⟨q, List.mem_cons_of_mem _ hq, h3⟩
    | false =>
      obtain ⟨h1, h2⟩ := lateF_mem s rs (min n (lastOf (setsOf r.f0 s)))
      have hle := lateF_le s rs (min n (lastOf (setsOf r.f0 s)))
      simp only [Bool.false_eq_true, if_false]
      refine ⟨fun q hq => ?_, ?_⟩
      · rcases List.mem_cons.1 hq with rfl | hq
        · exact .inr (by omega)
        · exact h1 q hq
      · rcases h2 with h2 | ⟨q, hq, h3⟩
        · by_cases hm : n ≤ lastOf (setsOf r.f0 s)
          · left; rw [h2]; omega
          · right; exact ⟨r, List.mem_cons_self .., hf, by rw [h2]; omega⟩
        · exact .inr ⟨q, List.mem_cons_of_mem _ hq, h3⟩
theorem lastOf_mem {f : Int → Bool} (h : hoursOf f 101 ≠ []) : lastOf f ∈ hoursOf f 101 := by
  have hl : 0 < (hoursOf f 101).length := List.length_pos_iff.2 h
  unfold lastOf rd
  rw [Int.toNat_natCast, rd_in _ _ _ (by omega)]
  exact List.getElem_mem _
theorem firstOf_mem {f : Int → Bool} (h : hoursOf f 101 ≠ []) : firstOf f ∈ hoursOf f 101 := by
  have hl : 0 < (hoursOf f 101).length := List.length_pos_iff.2 h
  unfold firstOf rd
  rw [show Int.toNat 0 = 0 from rfl, rd_in _ _ _ (by omega)]
  exact List.getElem_mem _
theorem hoursOf_sorted (f : Int → Bool) (k : Nat) : (hoursOf f k).Pairwise (· < ·) := by
  unfold hoursOf
  rw [List.pairwise_map]
  exact (List.Pairwise.filter _ List.pairwise_lt_range).imp (fun h => by omega)
theorem firstOf_le {f : Int → Bool} {x : Int} (hx : x ∈ hoursOf f 101) : firstOf f ≤ x := by
  unfold firstOf rd
  have hs := hoursOf_sorted f 101
  cases h : hoursOf f 101 with
  | nil => rw [h] at hx; cases hx
  | cons a l =>
    rw [h] at hx hs
    show a ≤ x
    rcases List.mem_cons.1 hx with rfl | hx
    · exact Int.le_refl _
    · exact Int.le_of_lt ((List.pairwise_cons.1 hs).1 x hx)
theorem le_lastOf {f : Int → Bool} {x : Int} (hx : x ∈ hoursOf f 101) : x ≤ lastOf f := by
  have hs := hoursOf_sorted f 101
  obtain ⟨i, hi, rfl⟩ := List.getElem_of_mem hx
  unfold lastOf rd
  rw [Int.toNat_natCast, rd_in _ _ _ (by omega)]
  by_cases e : i = (hoursOf f 101).length - 1
  · simp only [e]; exact Int.le_refl _
  · exact Int.le_of_lt (List.pairwise_iff_getElem.1 hs i _ hi (by omega) (by omega))
/-- What is known of the set of a route of a valid post. -/
theorem Valid.setAt {sends : List Int} {routes : List S122} {pat : Int} (v : Valid sends routes pat) {s : Int} (hs : s ∈ sends) {r : S122} (hr : r ∈ routes) : hoursOf (setsOf r.f0 s) 101 ≠ [] ∧ Upto (setsOf r.f0 s) 48 := by
  obtain ⟨i, hi, rfl⟩ := List.getElem_of_mem hs
  obtain ⟨k, hk, rfl⟩ := List.getElem_of_mem hr
  exact v.set hi hk
theorem lateL_le (routes : List S122) (s : Int) : lateL routes s ≤ 101 := by rw [lateL_F]; exact lateF_le s routes 101
/-- The latest hour is one that a dispatch can have. -/
theorem can_late {sends : List Int} {routes : List S122} {pat : Int} (v : Valid sends routes pat) {s : Int} (hs : s ∈ sends) : 0 ≤ lateL routes s ∧ canL routes s (lateL routes s) (lateL routes s == 101) = true := by
  obtain ⟨h1, h2⟩ := lateF_mem s routes 101
  rw [← lateL_F] at h1 h2
  rw [canL_eq, Bool.and_eq_true, List.all_eq_true]
  refine ⟨?_, fun r hr => ?_, ?_⟩
  · rcases h2 with h2 | ⟨r, hr, _, h2⟩
    · omega
    · have hv := v.setAt hs hr
      have := mem_hoursOf.1 (lastOf_mem hv.1)
      omega
  · rcases h1 r hr with h | h
    · simp [h]
    · have : ¬ lastOf (setsOf r.f0 s) < lateL routes s := by omega
      simp [this]
  · rcases h2 with h2 | ⟨r, hr, hf, h2⟩
    · simp [h2]
    · have hv := v.setAt hs hr
      have hm := mem_hoursOf.1 (lastOf_mem hv.1)
      have : lateL routes s < 101 := by omega
      rw [Bool.or_eq_true, Bool.and_eq_true, List.any_eq_true]
      exact .inr ⟨by simpa using this, r, hr, by rw [h2]; exact hm.2.2⟩
/-- Without entries there is always a truth. -/
theorem srchL_nil {sends : List Int} {routes : List S122} {pat : Int} (v : Valid sends routes pat) : ∀ (ss : List Int) (n before : Int), (∀ s ∈ ss, s ∈ sends) → (srchL routes pat [] ss n before).isSome = true
  | [], _, _, _ => rfl
  | s :: ss, n, before, h => by
    rw [srchL_cons]
    rcases ho : (List.range 102).findSome? (tryL routes pat [] s ss n before) with _ | r
    · rw [List.findSome?_eq_none_iff] at ho
      obtain ⟨h0, h1⟩ := can_late v (h s (List.mem_cons_self ..))
      have hle := lateL_le routes s
      have ho := ho (lateL routes s).toNat (List.mem_range.2 (by omega))
      have hc : ((lateL routes s).toNat : Int) = lateL routes s := by omega
      have ih := srchL_nil v ss (n + 1) (recvE n before (lateL routes s) (s + pat)).f1 (fun x hx => h x (List.mem_cons_of_mem _ hx))
      unfold tryL goodB at ho
      rw [hc, h1] at ho
      rcases hr : srchL routes pat [] ss (n + 1) (recvE n before (lateL routes s) (s + pat)).f1 with _ | r
      · rw [hr] at ih; cases ih
      · rw [hr] at ho; simp at ho
    · rfl
/-- All entries can be left out. -/
theorem leaveL_all {sends : List Int} {routes : List S122} {pat : Int} (v : Valid sends routes pat) : ∀ (l : List S87) (n : Int) (out : List Int), (leaveL routes pat sends l n out [] l.length).isSome = true
  | [], n, out => by
    have h := srchL_nil v sends 0 0 (fun s hs => hs)
    rw [leaveL, if_neg (by simp), if_pos h]
    rfl
  | x :: xs, n, out => by
    rw [leaveL, if_neg (by simp), if_pos (by simp), List.length_cons, Nat.add_sub_cancel]
    have h := leaveL_all v xs (n + 1) (out ++ [n])
    rcases hr : leaveL routes pat sends xs (n + 1) (out ++ [n]) [] xs.length with _ | r
    · rw [hr] at h; cases h
    · rfl
end Go.Proofs.Ytiephlhohgohcaa.PAll
namespace Go.Proofs.Ytiephlhohgohcaa.PAll
open Go.RowKit Go.Proofs.YtiephlhohgohcaaW.PrintWords Go.Proofs.YtiephlhohgohcaaW.PrintLast Go.Proofs.YtiephlhohgohcaaW.PrintMore
attribute [local go_sem] max2_int min2_int max_two min_two max_three min_three max_four min_four
set_option linter.unusedVariables false
set_option linter.unusedSimpArgs false
/-- What Hours returns. -/
def hoursRes (sends : List Int) (routes : List S122) (pat number route : Int) : List Int × Int :=
  if check sends routes pat ≠ 0 then ([], check sends routes pat)
  else if (!inB 0 ((sends.length : Int) - 1) number || !inB 0 ((routes.length : Int) - 1) route) = true then ([], 2)
  else (hoursOf (setsOf (rd_T122 routes route).f0 (rd sends number)) 101, 0)
set_option maxRecDepth 100000 in
set_option maxHeartbeats 4000000 in
theorem hours29 (A0 : Option Addr) (c0 : Nat) (sends : List Int) (A1 : Option Addr) (c1 : Nat) (routes : List S122) (pat number route : Int) (w : World)
    (h0 : Kd.C (Kd.int .i64) w A0 sends.length sends) (l0 : sends.length ≤ c0) (h1 : Kd.C k122 w A1 routes.length routes) (l1 : routes.length ≤ c1) :
    Calls Try.prog 29 #[.agg #[.slice A0 sends.length c0, .slice A1 routes.length c1, .int .i64 pat], .int .i64 number, .int .i64 route] w fun e w' =>
      ∃ v, e = .returned (.tuple #[v, .int .i64 (hoursRes sends routes pat number route).2]) ∧ Kd.R (Kd.int .i64) 3 w' w.heap.size (fun _ => True) v (hoursRes sends routes pat number route).1 ∧ Below w.heap.size w w' := by
  have HR0 := Aside0.mk h0
  have HR1 := Aside0.mk h1
  have HL0 := Aside0.mk l0
  have HL1 := Aside0.mk l1
  obtain ⟨W1, hW1⟩ : ∃ W1, W1 = w.alloc (.cells #[.slice A0 sends.length c0, .slice A1 routes.length c1, .int .i64 pat] 34) := ⟨_, rfl⟩
  have hb1 : Below w.heap.size w W1 := hW1 ▸ (Below.refl _ w).alloc (Nat.le_refl _) _
  have HX := Aside0.mk (show W1.heap[w.heap.size]? = some (.cells #[.slice A0 sends.length c0, .slice A1 routes.length c1, .int .i64 pat] 34 (0, 0)) from by rw [hW1]; exact blk_new _ _)
  have HB := Aside0.mk hb1
  have HW1 := Aside0.mk hW1
  have g0 := Aside0.mk (Kd.C_below h0 hb1)
  have g1 := Aside0.mk (Kd.C_below h1 hb1)
  clear h0 h1 l0 l1 hW1 hb1
  have x0 : W1.cell? ⟨w.heap.size, 0, none⟩ = some (.slice A0 sends.length c0) := (blk_cell HX.out 0).trans rfl
  have x1 : W1.cell? ⟨w.heap.size, 1, none⟩ = some (.slice A1 routes.length c1) := (blk_cell HX.out 1).trans rfl
  have x2 : W1.cell? ⟨w.heap.size, 2, none⟩ = some (.int .i64 pat) := (blk_cell HX.out 2).trans rfl
  go_enter Try.func29, Try.ntmps29
  go_wp2_with fail
  rw [← HW1.out]
  clear HW1
  refine (checkPost_any A0 c0 sends A1 c1 routes pat W1 g0.out HL0.out g1.out HL1.out).mono ?_
  rintro e w2 ⟨rfl, hb⟩
  have HB2 := Aside0.mk (below_then HB.out HB.out.size hb)
  have HX2 := Aside0.mk (blk_below HX.out hb)
  have G0 := Aside0.mk (Kd.C_below g0.out hb)
  have G1 := Aside0.mk (Kd.C_below g1.out hb)
  clear hb x0 x1 x2 HX HB g0 g1
  have x0 : w2.cell? ⟨w.heap.size, 0, none⟩ = some (.slice A0 sends.length c0) := (blk_cell HX2.out 0).trans rfl
  have x1 : w2.cell? ⟨w.heap.size, 1, none⟩ = some (.slice A1 routes.length c1) := (blk_cell HX2.out 1).trans rfl
  have x2 : w2.cell? ⟨w.heap.size, 2, none⟩ = some (.int .i64 pat) := (blk_cell HX2.out 2).trans rfl
  by_cases hc : check sends routes pat = 0
  · have hcb : (check sends routes pat != (0 : Int)) = false := by rw [hc]; rfl
    have HC := Aside0.mk hc
    have V := Aside0.mk (valid_of hc)
    have hs4 := V.out.sn
    have hr3 := V.out.rn
    have es : wrap64 ((sends.length : Int) - 1) = (sends.length : Int) - 1 := by unfold wrap64; omega
    have er : wrap64 ((routes.length : Int) - 1) = (routes.length : Int) - 1 := by unfold wrap64; omega
    clear hc
    go_wp2_with fail
    refine (within_any number 0 ((sends.length : Int) - 1) w2).mono ?_
    rintro e w3 ⟨rfl, hb⟩
    have HB3 := Aside0.mk (below_then HB2.out HB2.out.size hb)
    have HX3 := Aside0.mk (blk_below HX2.out hb)
    have G03 := Aside0.mk (Kd.C_below G0.out hb)
    have G13 := Aside0.mk (Kd.C_below G1.out hb)
    clear hb x0 x1 x2 HX2 HB2 G0 G1
    have x0 : w3.cell? ⟨w.heap.size, 0, none⟩ = some (.slice A0 sends.length c0) := (blk_cell HX3.out 0).trans rfl
    have x1 : w3.cell? ⟨w.heap.size, 1, none⟩ = some (.slice A1 routes.length c1) := (blk_cell HX3.out 1).trans rfl
    have x2 : w3.cell? ⟨w.heap.size, 2, none⟩ = some (.int .i64 pat) := (blk_cell HX3.out 2).trans rfl
    by_cases hn : inB 0 ((sends.length : Int) - 1) number = true
    · have hn' : (decide ((0 : Int) ≤ number) && decide (number ≤ (sends.length : Int) - 1)) = true := hn
      have HN := Aside0.mk hn
      clear hn
      rw [hn']
      clear hn'
      go_wp2_with fail
      refine (within_any route 0 ((routes.length : Int) - 1) w3).mono ?_
      rintro e w4 ⟨rfl, hb⟩
      have HB4 := Aside0.mk (below_then HB3.out HB3.out.size hb)
      have HX4 := Aside0.mk (blk_below HX3.out hb)
      have G04 := Aside0.mk (Kd.C_below G03.out hb)
      have G14 := Aside0.mk (Kd.C_below G13.out hb)
      clear hb x0 x1 x2 HX3 HB3 G03 G13
      have x0 : w4.cell? ⟨w.heap.size, 0, none⟩ = some (.slice A0 sends.length c0) := (blk_cell HX4.out 0).trans rfl
      have x1 : w4.cell? ⟨w.heap.size, 1, none⟩ = some (.slice A1 routes.length c1) := (blk_cell HX4.out 1).trans rfl
      have x2 : w4.cell? ⟨w.heap.size, 2, none⟩ = some (.int .i64 pat) := (blk_cell HX4.out 2).trans rfl
      by_cases hm : inB 0 ((routes.length : Int) - 1) route = true
      · have hm' : (decide ((0 : Int) ≤ route) && decide (route ≤ (routes.length : Int) - 1)) = true := hm
        have HM := Aside0.mk hm
        clear hm
        rw [hm']
        clear hm'
        have H0 := inB_iff.1 HN.out
        have H1 := inB_iff.1 HM.out
        have hnl : number.toNat < sends.length := by omega
        have hrl : route.toNat < routes.length := by omega
        have hwn : (Lit.int .i64 number).wf = true := WalkArith.wf_i64 (by omega)
        have hwr : (Lit.int .i64 route).wf = true := WalkArith.wf_i64 (by omega)
        have e0 : rd sends number = sends[number.toNat] := by unfold rd; rw [rd_in _ _ _ hnl]
        have e1 : rd_T122 routes route = routes[route.toNat] := by unfold rd_T122; rw [rd_in _ _ _ hrl]
        have HW78 := Aside0.mk (work78 A0 c0 sends A1 c1 routes pat w4 G04.out G14.out V.out.sn V.out.rn V.out.s0 (fun r hr => (V.out.ln r hr).2) (fun r hr l hl => V.out.leg hr hl))
        have HQ := Aside0.mk (And.intro H0 (And.intro H1 (And.intro hwn (And.intro hwr (And.intro e0 e1)))))
        clear H0 H1 hwn hwr e0 e1
        go_wp2_with fail
        refine HW78.out.mono ?_
        rintro e w5 ⟨g, rfl, ⟨mb, nm, m, hg, hm, hd⟩, hb⟩
        have HB5 := Aside0.mk (below_then HB4.out HB4.out.size hb)
        obtain ⟨t, ht1, ht2⟩ := hd number.toNat hnl route.toNat hrl
        rw [Int.toNat_of_nonneg HQ.out.1.1, Int.toNat_of_nonneg HQ.out.2.1.1] at ht1
        have hlook := hm.lookup HQ.out.2.2.1 HQ.out.2.2.2.1 ht1
        have c3 : w5.cell? ⟨g, 3, none⟩ = some (.map (some mb)) := (blk_cell hg 3).trans rfl
        have HS := Aside0.mk ht2
        clear hb hm hd hg ht1 ht2 x0 x1 x2
        go_wp2_with fail
        refine (list79 t _ w5 HS.out).mono ?_
        rintro e w6 ⟨v, rfl, hr, hb⟩
        have HB6 := Aside0.mk (below_then HB5.out HB5.out.size hb)
        have HR := Aside0.mk (Kd.R_lower hr HB5.out.size)
        clear hr hb hlook c3
        go_wp2_with fail
        go_ret2
        have hno : (!inB 0 ((sends.length : Int) - 1) number || !inB 0 ((routes.length : Int) - 1) route) = false := by rw [HN.out, HM.out]; rfl
        rw [hoursRes, if_neg (by rw [HC.out]; simp), if_neg (by rw [hno]; simp), HQ.out.2.2.2.2.1, HQ.out.2.2.2.2.2]
        exact ⟨_, rfl, HR.out, HB6.out⟩
      · have hm' : (decide ((0 : Int) ≤ route) && decide (route ≤ (routes.length : Int) - 1)) = false := by simpa [inB] using hm
        have HM := Aside0.mk (show inB 0 ((routes.length : Int) - 1) route = false by simpa using hm)
        clear hm
        rw [hm']
        clear hm'
        go_wp2_with fail
        go_ret2
        have hno : (!inB 0 ((sends.length : Int) - 1) number || !inB 0 ((routes.length : Int) - 1) route) = true := by rw [HN.out, HM.out]; rfl
        rw [hoursRes, if_neg (by rw [HC.out]; simp), if_pos hno]
        exact ⟨_, rfl, Kd.R_nil _ _ _ _ _, HB4.out⟩
    · have hn' : (decide ((0 : Int) ≤ number) && decide (number ≤ (sends.length : Int) - 1)) = false := by simpa [inB] using hn
      have HN := Aside0.mk (show inB 0 ((sends.length : Int) - 1) number = false by simpa using hn)
      clear hn
      rw [hn']
      clear hn'
      go_wp2_with fail
      go_ret2
      have hno : (!inB 0 ((sends.length : Int) - 1) number || !inB 0 ((routes.length : Int) - 1) route) = true := by rw [HN.out]; rfl
      rw [hoursRes, if_neg (by rw [HC.out]; simp), if_pos hno]
      exact ⟨_, rfl, Kd.R_nil _ _ _ _ _, HB3.out⟩
  · have hcb : (check sends routes pat != (0 : Int)) = true := by simpa using hc
    have HC := Aside0.mk hc
    clear hc
    go_wp2_with fail
    go_ret2
    rw [hoursRes, if_pos HC.out]
    exact ⟨_, rfl, Kd.R_nil _ _ _ _ _, HB2.out⟩
end Go.Proofs.Ytiephlhohgohcaa.PAll
namespace Go.Proofs.Ytiephlhohgohcaa.PAll
open Go.RowKit Go.Proofs.YtiephlhohgohcaaW.PrintWords Go.Proofs.YtiephlhohgohcaaW.PrintLast Go.Proofs.YtiephlhohgohcaaW.PrintMore
set_option linter.unusedVariables false
set_option linter.unusedSimpArgs false
/-- The hours by one route; 101 if its copy can be lost. -/
def byR (r : S122) (s : Int) : Int → Bool := fun x => if x = 101 then r.f1 else setsOf r.f0 s x
def oneC (by' : Int → Bool) (a : Int) (m : Nat) : Int → Bool := fun y => (List.range m).any fun b : Nat => by' b && min a b == y
def manyC (now by' : Int → Bool) (k : Nat) : Int → Bool := fun y => (List.range k).any fun a : Nat => now a && oneC by' a 102 y
def comF (s : Int) : List S122 → (Int → Bool) → (Int → Bool)
  | [], now => now
  | r :: rs, now => comF s rs (manyC now (byR r s) 102)
def nev : Int → Bool := fun x => x == 101
def comL (rs : List S122) (s : Int) : Int → Bool := comF s rs nev
theorem comF_snoc (s : Int) : ∀ (rs : List S122) (r : S122) (now : Int → Bool), comF s (rs ++ [r]) now = manyC (comF s rs now) (byR r s) 102
  | [], _, _ => rfl
  | a :: rs, r, now => comF_snoc s rs r _
theorem oneC_iff {by' : Int → Bool} {a : Int} {m : Nat} {y : Int} : oneC by' a m y = true ↔ ∃ b : Nat, b < m ∧ by' b = true ∧ min a b = y := by
  simp only [oneC, List.any_eq_true, List.mem_range, Bool.and_eq_true, beq_iff_eq]
theorem manyC_iff {now by' : Int → Bool} {k : Nat} {y : Int} : manyC now by' k y = true ↔ ∃ a b : Nat, a < k ∧ b < 102 ∧ now a = true ∧ by' b = true ∧ min (a : Int) b = y := by
  simp only [manyC, List.any_eq_true, List.mem_range, Bool.and_eq_true, oneC_iff]
  constructor
  · rintro ⟨a, ha, h1, b, hb, h2, h3⟩; exact ⟨a, b, ha, hb, h1, h2, h3⟩
  · rintro ⟨a, b, ha, hb, h1, h2, h3⟩; exact ⟨a, ha, h1, b, hb, h2, h3⟩
/-- All that is asked of routes here. -/
def SetsOk (rs : List S122) (s : Int) : Prop := ∀ r ∈ rs, hoursOf (setsOf r.f0 s) 101 ≠ [] ∧ Upto (setsOf r.f0 s) 48
theorem Valid.setsOk {sends : List Int} {routes : List S122} {pat : Int} (v : Valid sends routes pat) {s : Int} (hs : s ∈ sends) : SetsOk routes s := fun r hr => v.setAt hs hr
theorem can_late' {rs : List S122} {s : Int} (h : SetsOk rs s) : 0 ≤ lateL rs s ∧ canL rs s (lateL rs s) (lateL rs s == 101) = true := by
  obtain ⟨h1, h2⟩ := lateF_mem s rs 101
  rw [← lateL_F] at h1 h2
  rw [canL_eq, Bool.and_eq_true, List.all_eq_true]
  refine ⟨?_, fun r hr => ?_, ?_⟩
  · rcases h2 with h2 | ⟨r, hr, _, h2⟩
    · omega
    · have := mem_hoursOf.1 (lastOf_mem (h r hr).1)
      omega
  · rcases h1 r hr with h | h
    · simp [h]
    · have : ¬ lastOf (setsOf r.f0 s) < lateL rs s := by omega
      simp [this]
  · rcases h2 with h2 | ⟨r, hr, hf, h2⟩
    · simp [h2]
    · have hm := mem_hoursOf.1 (lastOf_mem (h r hr).1)
      have : lateL rs s < 101 := by omega
      rw [Bool.or_eq_true, Bool.and_eq_true, List.any_eq_true]
      exact .inr ⟨by simpa using this, r, hr, by rw [h2]; exact hm.2.2⟩
/-- The hours that a dispatch can have, said once more. -/
theorem canL_iff {rs : List S122} {s y : Int} : canL rs s y (y == 101) = true ↔ (∀ r ∈ rs, r.f1 = true ∨ y ≤ lastOf (setsOf r.f0 s)) ∧ (y = 101 ∨ (y < 101 ∧ ∃ r ∈ rs, setsOf r.f0 s y = true)) := by
  rw [canL_eq]
  simp only [Bool.and_eq_true, Bool.or_eq_true, List.all_eq_true, List.any_eq_true, beq_iff_eq, decide_eq_true_eq, Bool.not_eq_true', decide_eq_false_iff_not, Int.not_lt]
theorem comF_can (s : Int) {pre : List S122} (r : S122) (hp : SetsOk pre s) (hr : hoursOf (setsOf r.f0 s) 101 ≠ [] ∧ Upto (setsOf r.f0 s) 48) (now : Int → Bool) (hn : ∀ y : Nat, y ≤ 101 → now y = canL pre s y ((y : Int) == 101)) (y : Nat) (hy : y ≤ 101) :
    manyC now (byR r s) 102 y = canL (pre ++ [r]) s y ((y : Int) == 101) := by
  rw [Bool.eq_iff_iff, manyC_iff, canL_iff]
  have hby : ∀ b : Nat, byR r s b = true ↔ ((b : Int) = 101 ∧ r.f1 = true) ∨ ((b : Int) ≠ 101 ∧ setsOf r.f0 s b = true) := fun b => by
    unfold byR
    by_cases e : (b : Int) = 101 <;> simp [e]
  have hin : ∀ z : Int, setsOf r.f0 s z = true → z ≤ lastOf (setsOf r.f0 s) ∧ 0 ≤ z ∧ z ≤ 48 := fun z hz => by
    have := hr.2 z hz
    exact ⟨le_lastOf (mem_hoursOf.2 ⟨this.1, by omega, hz⟩), this⟩
  have hlm := mem_hoursOf.1 (lastOf_mem hr.1)
  have hl48 := hr.2 _ hlm.2.2
  constructor
  · rintro ⟨a, b, ha, hb, h1, h2, h3⟩
    rw [hn a (by omega), canL_iff] at h1
    rw [hby] at h2
    refine ⟨fun q hq => ?_, ?_⟩
    · rcases List.mem_append.1 hq with hq | hq
      · rcases h1.1 q hq with h | h
        · exact .inl h
        · exact .inr (by omega)
      · obtain rfl := List.mem_singleton.1 hq
        rcases h2 with ⟨_, h2⟩ | ⟨_, h2⟩
        · exact .inl h2
        · have := hin _ h2; exact .inr (by omega)
    · by_cases hab : (a : Int) ≤ b
      · have hya : (y : Int) = a := by omega
        rcases h1.2 with h | ⟨h, q, hq, hs⟩
        · exact .inl (by omega)
        · exact .inr ⟨by omega, q, List.mem_append_left _ hq, by rw [hya]; exact hs⟩
      · have hyb : (y : Int) = b := by omega
        rcases h2 with ⟨h, _⟩ | ⟨h, h2⟩
        · exact .inl (by omega)
        · exact .inr ⟨by omega, r, by simp, by rw [hyb]; exact h2⟩
  · rintro ⟨h1, h2⟩
    have hbr : ∃ b : Nat, b < 102 ∧ byR r s b = true ∧ (y : Int) ≤ b := by
      rcases h1 r (by simp) with h | h
      · exact ⟨101, by omega, (hby 101).2 (.inl ⟨rfl, h⟩), by omega⟩
      · refine ⟨(lastOf (setsOf r.f0 s)).toNat, by omega, ?_, by omega⟩
        rw [hby, Int.toNat_of_nonneg hl48.1]
        exact .inr ⟨by omega, hlm.2.2⟩
    have hpre : ∀ q ∈ pre, q.f1 = true ∨ (y : Int) ≤ lastOf (setsOf q.f0 s) := fun q hq => h1 q (List.mem_append_left _ hq)
    obtain ⟨b, hb, hb2, hyb⟩ := hbr
    rcases h2 with h2 | ⟨h2, q, hq, hs⟩
    · refine ⟨y, b, by omega, hb, ?_, hb2, by omega⟩
      rw [hn y hy, canL_iff]
      exact ⟨hpre, .inl h2⟩
    · rcases List.mem_append.1 hq with hq | hq
      · refine ⟨y, b, by omega, hb, ?_, hb2, by omega⟩
        rw [hn y hy, canL_iff]
        exact ⟨hpre, .inr ⟨h2, q, hq, hs⟩⟩
      · obtain rfl := List.mem_singleton.1 hq
        obtain ⟨l0, l1⟩ := can_late' hp
        have hle : (y : Int) ≤ lateL pre s := by
          obtain ⟨_, k2⟩ := lateF_mem s pre 101
          rw [← lateL_F] at k2
          rcases k2 with k2 | ⟨q', hq', hf, k2⟩
          · omega
          · rcases hpre q' hq' with h | h
            · rw [hf] at h; cases h
            · omega
        have hle2 := lateL_le pre s
        refine ⟨(lateL pre s).toNat, y, by omega, by omega, ?_, (hby y).2 (.inr ⟨by omega, hs⟩), by omega⟩
        rw [hn _ (by omega), Int.toNat_of_nonneg l0]
        exact l1
theorem comL_take {s : Int} {rs : List S122} (h : SetsOk rs s) : ∀ k : Nat, k ≤ rs.length → ∀ y : Nat, y ≤ 101 → comF s (rs.take k) nev y = canL (rs.take k) s y ((y : Int) == 101)
  | 0, _, y, hy => by simp [comF, nev, canL]
  | k + 1, hk, y, hy => by
    have hlt : k < rs.length := by omega
    rw [List.take_succ_eq_append_getElem hlt, comF_snoc]
    exact comF_can s rs[k] (fun q hq => h q (List.mem_of_mem_take hq)) (h _ (List.getElem_mem hlt)) _ (comL_take h k (by omega)) y hy
theorem comL_can {s : Int} (rs : List S122) (h : SetsOk rs s) (y : Nat) (hy : y ≤ 101) : comL rs s y = canL rs s y ((y : Int) == 101) := by
  have := comL_take h rs.length (Nat.le_refl _) y hy
  rwa [List.take_length] at this
end Go.Proofs.Ytiephlhohgohcaa.PAll
