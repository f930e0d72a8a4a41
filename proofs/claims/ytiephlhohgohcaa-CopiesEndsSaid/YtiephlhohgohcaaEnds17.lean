/- Part 17 of what the row rests on: each text as it stands among the working texts, cut to what is used; those of the print of the kit as a program printed them. -/
import Derived.Test.YtiephlhohgohcaaEnds15
import Derived.WalkMore
set_option linter.unusedVariables false
set_option linter.unusedSimpArgs false
namespace Go.Proofs.Ytiephlhohgohcaa.PAll
open Go.RowKit Go.Proofs.YtiephlhohgohcaaW.PrintWords Go.Proofs.YtiephlhohgohcaaW.PrintLast Go.Proofs.YtiephlhohgohcaaW.PrintMore
attribute [local go_sem] max2_int min2_int max_two min_two max_three min_three max_four min_four
set_option linter.unusedVariables false
set_option linter.unusedSimpArgs false
def allSure (sends : List Int) (routes : List S122) (k : Nat) : Bool := (List.range sends.length).all (sureB sends routes (k : Int))
/-- What Least returns. -/
def leastRes (sends : List Int) (routes : List S122) (pat : Int) : Int × Int :=
  if check sends routes pat ≠ 0 then (0, check sends routes pat) else
    match (List.range 31).find? (allSure sends routes) with
    | some k => ((k : Int), 0)
    | none => (0, 9)
theorem find_first {p : Nat → Bool} {m k : Nat} (hk : k < m) (h0 : ∀ j, j < k → p j = false) (h1 : p k = true) : (List.range m).find? p = some k := by
  induction m with
  | zero => omega
  | succ m ih =>
    rw [List.range_succ, List.find?_append]
    by_cases e : k = m
    · subst e
      have hn : (List.range k).find? p = none := by rw [List.find?_eq_none]; exact fun j hj => by rw [h0 j (List.mem_range.1 hj)]; simp
      rw [hn]; simp [h1]
    · rw [ih (by omega)]; rfl
theorem WorkAt.repat {W : World} {g : Nat} {A0 : Option Addr} {c0 : Nat} {sends : List Int} {A1 : Option Addr} {c1 : Nat} {routes : List S122} {pat : Int} (h : WorkAt W g A0 c0 sends A1 c1 routes pat) (n : Int) : WorkAt (W.setCell ⟨g, 2, none⟩ (.int .i64 n)) g A0 c0 sends A1 c1 routes n := by
  obtain ⟨mb, k, m, h1, h2, h3⟩ := h
  have hm : mb ≠ g := fun e => by
    subst e
    obtain ⟨D, ⟨es, clock, h4, _⟩, _⟩ := h2
    rw [h1] at h4; cases h4
  refine ⟨mb, k, m, blk_set h1 2 _, h2.eq (Below.heap_setCell W ⟨g, 2, none⟩ _ mb hm), fun i hi j hj => ?_⟩
  obtain ⟨s, h4, h5⟩ := h3 i hi j hj
  refine ⟨s, h4, h5.far (fun e => ?_) _⟩
  obtain ⟨cs, h6, _⟩ := h5
  rw [show s = g from e, h1] at h6
  injection h6 with h6
  injection h6 with _ h7
  exact absurd h7 (by decide)
set_option maxRecDepth 100000 in
set_option maxHeartbeats 4000000 in
theorem least35 (A0 : Option Addr) (c0 : Nat) (sends : List Int) (A1 : Option Addr) (c1 : Nat) (routes : List S122) (pat : Int) (w : World)
    (h0 : Kd.C (Kd.int .i64) w A0 sends.length sends) (l0 : sends.length ≤ c0) (h1 : Kd.C k122 w A1 routes.length routes) (l1 : routes.length ≤ c1) :
    Calls Try.prog 35 #[.agg #[.slice A0 sends.length c0, .slice A1 routes.length c1, .int .i64 pat]] w fun e w' =>
      e = .returned (.tuple #[.int .i64 (leastRes sends routes pat).1, .int .i64 (leastRes sends routes pat).2]) ∧ Below w.heap.size w w' := by
  have HR0 := Aside0.mk h0
  have HR1 := Aside0.mk h1
  have HL0 := Aside0.mk l0
  have HL1 := Aside0.mk l1
  obtain ⟨W1, hW1⟩ : ∃ W1, W1 = w.alloc (.cells #[.slice A0 sends.length c0, .slice A1 routes.length c1, .int .i64 pat] 34) := ⟨_, rfl⟩
  have hb1 : Below w.heap.size w W1 := hW1 ▸ (Below.refl _ w).alloc (Nat.le_refl _) _
  have HX := Aside0.mk (show W1.heap[w.heap.size]? = some (.cells #[.slice A0 sends.length c0, .slice A1 routes.length c1, .int .i64 pat] 34 (0, 0)) from by rw [hW1]; exact blk_new _ _)
  have HB := Aside0.mk hb1
  have HW1 := Aside0.mk hW1
  have g0 := Aside0.mk (Kd.C_below h0 hb1)
  have g1 := Aside0.mk (Kd.C_below h1 hb1)
  clear h0 h1 l0 l1 hW1 hb1
  have x0 : W1.cell? ⟨w.heap.size, 0, none⟩ = some (.slice A0 sends.length c0) := (blk_cell HX.out 0).trans rfl
  have x1 : W1.cell? ⟨w.heap.size, 1, none⟩ = some (.slice A1 routes.length c1) := (blk_cell HX.out 1).trans rfl
  have x2 : W1.cell? ⟨w.heap.size, 2, none⟩ = some (.int .i64 pat) := (blk_cell HX.out 2).trans rfl
  go_enter Try.func35, Try.ntmps35
  go_wp2_with fail
  rw [← HW1.out]
  clear HW1
  refine wp_scope_straight ?_
  go_wp2_with fail
  refine (checkPost_any A0 c0 sends A1 c1 routes pat W1 g0.out HL0.out g1.out HL1.out).mono ?_
  rintro e w2 ⟨rfl, hb⟩
  have HB2 := Aside0.mk (below_then HB.out HB.out.size hb)
  have HX2 := Aside0.mk (blk_below HX.out hb)
  have G0 := Aside0.mk (Kd.C_below g0.out hb)
  have G1 := Aside0.mk (Kd.C_below g1.out hb)
  clear hb x0 x1 x2 HX HB g0 g1
  have x0 : w2.cell? ⟨w.heap.size, 0, none⟩ = some (.slice A0 sends.length c0) := (blk_cell HX2.out 0).trans rfl
  have x1 : w2.cell? ⟨w.heap.size, 1, none⟩ = some (.slice A1 routes.length c1) := (blk_cell HX2.out 1).trans rfl
  have x2 : w2.cell? ⟨w.heap.size, 2, none⟩ = some (.int .i64 pat) := (blk_cell HX2.out 2).trans rfl
  by_cases hc : check sends routes pat = 0
  · have hcb : (check sends routes pat != (0 : Int)) = false := by rw [hc]; rfl
    have HC := Aside0.mk hc
    have V := Aside0.mk (valid_of hc)
    have hs4 := V.out.sn
    have hr3 := V.out.rn
    clear hc
    go_wp2_with fail
    refine (work78_at A0 c0 sends A1 c1 routes pat w2 G0.out G1.out V.out.sn V.out.rn V.out.s0 (fun r hr => (V.out.ln r hr).2) (fun r hr l hl => V.out.leg hr hl)).mono ?_
    rintro e w3 ⟨g, hgle, rfl, hwk, hb⟩
    have HB3 := Aside0.mk (below_then HB2.out HB2.out.size hb)
    have HX3 := Aside0.mk (blk_below HX2.out hb)
    have HK3 := Aside0.mk hwk
    have HGL := Aside0.mk (show w.heap.size < g from by have := blk_lt HX2.out; omega)
    clear hb hwk x0 x1 x2 HX2 HB2 G0 G1 hgle
    go_wp2_with fail
    apply wp_label
    go_wp2_with fail
    go_loopg [15] 31 (fun gg s15 wr => ∃ (k : Nat) (px : Int), k ≤ 31 ∧ 31 - k ≤ gg ∧ s15 = .int .i64 k ∧ Aside0 (∀ j, j < k → allSure sends routes j = false) ∧ Aside0 (wr.heap[w.heap.size]? = some (.cells #[.slice A0 sends.length c0, .slice A1 routes.length c1, .int .i64 pat] 34 (0, 0))) ∧ Aside0 (WorkAt wr g A0 c0 sends A1 c1 routes px) ∧ Aside0 (Below w.heap.size w wr))
    case atStart => exact ⟨0, pat, by omega, by omega, rfl, ⟨fun j hj => absurd hj (Nat.not_lt_zero _)⟩, HX3, HK3, HB3⟩
    case round =>
      obtain ⟨k, px, hk, hgk, rfl, HF, HXr, HKr, HBr⟩ := hrel
      clear HX3 HK3 HB3
      obtain ⟨wm, rfl⟩ : ∃ wm : World, wm = wr := ⟨_, rfl⟩
      by_cases hlt : k < 31
      · have hltz : (k : Int) < 31 := by omega
        have HMB : Aside0 (∃ mb, wm.heap[g]? = some (.cells #[.slice A0 sends.length c0, .slice A1 routes.length c1, .int .i64 px, .map (some mb)] 138 (0, 0))) := ⟨by obtain ⟨mb, _, _, hg, _⟩ := HKr.out; exact ⟨mb, hg⟩⟩
        obtain ⟨mb, hg⟩ := HMB.out
        have z0 : wm.cell? ⟨g, 2, none⟩ = some (.int .i64 px) := (blk_cell hg 2).trans rfl
        have z1 := blk_frozen hg 2
        obtain ⟨W4, hW4⟩ : ∃ W4, W4 = wm.setCell ⟨g, 2, none⟩ (.int .i64 (k : Int)) := ⟨_, rfl⟩
        have HK4 : Aside0 (WorkAt W4 g A0 c0 sends A1 c1 routes (k : Int)) := ⟨by rw [hW4]; exact HKr.out.repat _⟩
        have HG4 : Aside0 (W4.heap[g]? = some (.cells #[.slice A0 sends.length c0, .slice A1 routes.length c1, .int .i64 (k : Int), .map (some mb)] 138 (0, 0))) := ⟨by rw [hW4]; exact blk_set hg 2 _⟩
        have HX4 : Aside0 (W4.heap[w.heap.size]? = some (.cells #[.slice A0 sends.length c0, .slice A1 routes.length c1, .int .i64 pat] 34 (0, 0))) := ⟨by rw [hW4]; exact blk_far HXr.out (by have := HGL.out; simp; omega) _⟩
        have HB4 : Aside0 (Below w.heap.size w W4) := ⟨by rw [hW4]; exact HBr.out.setCell (by have := HGL.out; simp; omega) _⟩
        have x0 : W4.cell? ⟨w.heap.size, 0, none⟩ = some (.slice A0 sends.length c0) := (blk_cell HX4.out 0).trans rfl
        rw [hW4] at x0
        have HW4 := Aside0.mk hW4
        clear hg hW4 HMB HXr HKr HBr
        go_wp2_with fail
        rw [← HW4.out]
        clear x0 z0 z1 HW4
        go_loopg [26] sends.length (fun gm s26 wi => ∃ (i : Nat), i ≤ sends.length ∧ sends.length - i ≤ gm ∧ s26 = .int .i64 i ∧ Aside0 (∀ j, j < i → sureB sends routes (k : Int) j = true) ∧ Aside0 (wi.heap[w.heap.size]? = some (.cells #[.slice A0 sends.length c0, .slice A1 routes.length c1, .int .i64 pat] 34 (0, 0))) ∧
          Aside0 (wi.heap[g]? = some (.cells #[.slice A0 sends.length c0, .slice A1 routes.length c1, .int .i64 (k : Int), .map (some mb)] 138 (0, 0))) ∧ Aside0 (WorkAt wi g A0 c0 sends A1 c1 routes (k : Int)) ∧ Aside0 (Below w.heap.size w wi))
        case atStart => exact ⟨0, by omega, by omega, rfl, ⟨fun j hj => absurd hj (Nat.not_lt_zero _)⟩, HX4, HG4, HK4, HB4⟩
        case round =>
          obtain ⟨i, hi, hgi, rfl, HS, HXr, HGr, HKr, HBr⟩ := hrel
          clear HX4 HG4 HK4 HB4
          obtain ⟨wq, rfl⟩ : ∃ wq : World, wq = wr := ⟨_, rfl⟩
          by_cases hit : i < sends.length
          · have hitz : (i : Int) < (sends.length : Int) := by omega
            have hx : rd sends (i : Int) = sends[i] := by unfold rd; rw [Int.toNat_natCast, rd_in _ _ _ hit]
            have hs0 := V.out.s0 _ (List.getElem_mem hit)
            have HC82 : Aside0 (∀ w', Below wq.heap.size wq w' → Calls Try.prog 82 #[.pointer (some ⟨g, 0, none⟩), .int .i64 (i : Int)] w' fun e w'' => e = .returned (.int .i64 (lateL routes sends[i])) ∧ Below w'.heap.size w' w'') :=
              ⟨fun w' hb => latest82 g A0 c0 sends A1 c1 routes (k : Int) pat w' (Kd.C_below HR1.out (below_then HBr.out HBr.out.size hb)) (HKr.out.below hb) V.out i hit⟩
            have HC84 : Aside0 (∀ w', Below wq.heap.size wq w' → Calls Try.prog 84 #[.agg #[.slice A0 sends.length c0, .slice A1 routes.length c1, .int .i64 (k : Int)], .int .i64 (i : Int)] w' fun e w'' => e = .returned (.int .i64 (sends[i] + (k : Int))) ∧ Below w'.heap.size w' w'') := ⟨fun w' hb => by
              have hbb := below_then HBr.out HBr.out.size hb
              have h1 := deadline84 A0 c0 sends A1 c1 routes (k : Int) (i : Int) w' (Kd.C_below HR0.out hbb) HL0.out (Kd.C_below HR1.out hbb) HL1.out (by omega) (by omega)
              rw [show wrap64 (rd sends (i : Int) + (k : Int)) = sends[i] + (k : Int) by rw [hx]; unfold wrap64; omega] at h1
              exact h1⟩
            have HSB := Aside0.mk (show sureB sends routes (k : Int) i = decide (lateL routes sends[i] ≤ sends[i] + (k : Int)) by rw [sureB, hx])
            clear hx hs0
            generalize lateL routes sends[i] = F at HC82 HSB
            generalize sends[i] + (k : Int) = D at HC84 HSB
            have q0 : wq.cell? ⟨g, 0, none⟩ = some (.slice A0 sends.length c0) := (blk_cell HGr.out 0).trans rfl
            have q1 : wq.cell? ⟨g, 1, none⟩ = some (.slice A1 routes.length c1) := (blk_cell HGr.out 1).trans rfl
            have q2 : wq.cell? ⟨g, 2, none⟩ = some (.int .i64 (k : Int)) := (blk_cell HGr.out 2).trans rfl
            have KEEP : Aside0 (∀ w', Below wq.heap.size wq w' → (w'.cell? ⟨g, 0, none⟩ = some (.slice A0 sends.length c0) ∧ w'.cell? ⟨g, 1, none⟩ = some (.slice A1 routes.length c1) ∧ w'.cell? ⟨g, 2, none⟩ = some (.int .i64 (k : Int)))) :=
              ⟨fun w' hb => ⟨pw_cell_below hb q0, pw_cell_below hb q1, pw_cell_below hb q2⟩⟩
            have hq0 : Aside0 (Below wq.heap.size wq wq.drew) := ⟨below_drew (Below.refl _ _)⟩
            by_cases ht : F ≤ D
            · have ht' : ¬ D < F := by omega
              have HY := Aside0.mk (HSB.out.trans (show decide (F ≤ D) = true by simpa using ht))
              clear ht
              go_wp2_with fail
              go_region_held3 (fun w' => w'.cell? ⟨g, 0, none⟩ = some (.slice A0 sends.length c0) ∧ w'.cell? ⟨g, 1, none⟩ = some (.slice A1 routes.length c1) ∧ w'.cell? ⟨g, 2, none⟩ = some (.int .i64 (k : Int)))
                (first
                  | exact KEEP.out _ hq0.out
                  | exact KEEP.out _ hq1.out
                  | exact KEEP.out _ hq2.out)
                (first
                  | (go_at_call 82; refine (HC82.out _ hq0.out).mono ?_; rintro e wa ⟨rfl, ha⟩; have hq1 := Aside0.mk (below_then hq0.out hq0.out.size ha); clear ha HC82)
                  | (go_at_call 84; refine (HC84.out _ hq1.out).mono ?_; rintro e wb ⟨rfl, hb⟩; have hq2 := Aside0.mk (below_then hq1.out hq1.out.size hb); clear hb))
              go_wp2_with fail
              go_roundg (sends.length - (i + 1))
              case measure => omega
              case rel =>
                refine ⟨i + 1, by omega, by omega, by go_num, ⟨fun j hj => ?_⟩, ⟨blk_below HXr.out hq2.out⟩, ⟨blk_below HGr.out hq2.out⟩, ⟨HKr.out.below hq2.out⟩, ⟨below_then HBr.out HBr.out.size hq2.out⟩⟩
                by_cases e : j = i
                · rw [e]; exact HY.out
                · exact HS.out j (by omega)
            · have ht' : D < F := by omega
              have HY := Aside0.mk (HSB.out.trans (show decide (F ≤ D) = false by simpa using ht))
              clear ht
              go_wp2_with fail
              go_region_held3 (fun w' => w'.cell? ⟨g, 0, none⟩ = some (.slice A0 sends.length c0) ∧ w'.cell? ⟨g, 1, none⟩ = some (.slice A1 routes.length c1) ∧ w'.cell? ⟨g, 2, none⟩ = some (.int .i64 (k : Int)))
                (first
                  | exact KEEP.out _ hq0.out
                  | exact KEEP.out _ hq1.out
                  | exact KEEP.out _ hq2.out)
                (first
                  | (go_at_call 82; refine (HC82.out _ hq0.out).mono ?_; rintro e wa ⟨rfl, ha⟩; have hq1 := Aside0.mk (below_then hq0.out hq0.out.size ha); clear ha HC82)
                  | (go_at_call 84; refine (HC84.out _ hq1.out).mono ?_; rintro e wb ⟨rfl, hb⟩; have hq2 := Aside0.mk (below_then hq1.out hq1.out.size hb); clear hb))
              go_wp2_with fail
              go_roundg (31 - (k + 1))
              case measure => omega
              case rel =>
                refine ⟨k + 1, (k : Int), by omega, by omega, by go_num, ⟨fun j hj => ?_⟩, ⟨blk_below HXr.out hq2.out⟩, ⟨HKr.out.below hq2.out⟩, ⟨below_then HBr.out HBr.out.size hq2.out⟩⟩
                by_cases e : j = k
                · rw [e, allSure, List.all_eq_false]
                  exact ⟨i, List.mem_range.2 hit, by rw [HY.out]; simp⟩
                · exact HF.out j (by omega)
          · have hitz : ¬ (i : Int) < (sends.length : Int) := by omega
            have HA : Aside0 (allSure sends routes k = true) := ⟨by rw [allSure, List.all_eq_true]; exact fun j hj => HS.out j (by have := List.mem_range.1 hj; omega)⟩
            go_wp2_with fail
            (try simp only [Exit.noGoto, Exit.inBlock, Exit.then])
            go_ret2
            rw [leastRes, if_neg (by rw [HC.out]; simp), find_first hlt HF.out HA.out]
            exact ⟨rfl, HBr.out⟩
      · have hltz : ¬ (k : Int) < 31 := by omega
        have HN : Aside0 ((List.range 31).find? (allSure sends routes) = none) := ⟨by rw [List.find?_eq_none]; exact fun j hj => by rw [HF.out j (by have := List.mem_range.1 hj; omega)]; simp⟩
        go_wp2_with fail
        (try simp only [Exit.noGoto, Exit.inBlock, Exit.then])
        go_ret2
        rw [leastRes, if_neg (by rw [HC.out]; simp), HN.out]
        exact ⟨rfl, HBr.out⟩
  · have hcb : (check sends routes pat != (0 : Int)) = true := by simpa using hc
    have HC := Aside0.mk hc
    clear hc
    go_wp2_with fail
    (try simp only [Exit.noGoto, Exit.inBlock, Exit.then])
    go_ret2
    rw [leastRes, if_pos HC.out]
    exact ⟨rfl, HB2.out⟩
end Go.Proofs.Ytiephlhohgohcaa.PAll
