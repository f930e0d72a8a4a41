/- Part 20 of what the row rests on: each text as it stands among the working texts, cut to what is used; those of the print of the kit as a program printed them. -/
import Derived.Test.YtiephlhohgohcaaEnds19
import Derived.IntWalk
set_option linter.unusedVariables false
set_option linter.unusedSimpArgs false
namespace Go.Proofs.Ytiephlhohgohcaa.PAll
open Go.RowKit Go.Proofs.YtiephlhohgohcaaW.PrintWords Go.Proofs.YtiephlhohgohcaaW.PrintLast Go.Proofs.YtiephlhohgohcaaW.PrintMore
attribute [local go_sem] max2_int min2_int max_two min_two max_three min_three max_four min_four
set_option linter.unusedVariables false
set_option linter.unusedSimpArgs false
theorem one_entry (x : S87) (w : World) : Kd.C k87 (w.alloc (.cells #[.int .i64 x.f0, .int .i64 x.f1, .bool x.f2] 87)) (some ⟨w.heap.size, 0, none⟩) 1 [x] := by
  refine ⟨rfl, by decide, fun _ => ⟨_, rfl, fun j p hj => ?_⟩⟩
  obtain ⟨hj', rfl⟩ := List.getElem?_eq_some_iff.1 hj
  obtain rfl : j = 0 := by simpa using hj'
  refine ⟨[.int .i64 x.f0, .int .i64 x.f1, .bool x.f2], rfl, k87.K_of_M (w := w) (base := 0) (ok := fun _ => True) (k87_mkM _ _ _ x), fun i u hu => ?_⟩
  have hb := blk_new w (.cells #[.int .i64 x.f0, .int .i64 x.f1, .bool x.f2] 87)
  have := blk_cell hb i
  rw [show (⟨w.heap.size, 0, none⟩ : Addr).add (0 * k87.sz + i) = ⟨w.heap.size, i, none⟩ by simp [Addr.add]; intro h; exact h.symm]
  rw [this]
  simpa using hu
set_option maxRecDepth 100000 in
set_option maxHeartbeats 16000000 in
theorem copiesEnds13 (A0 : Option Addr) (c0 : Nat) (sends : List Int) (A1 : Option Addr) (c1 : Nat) (routes : List S54) (pat : Int) (a : Int) (w : World) (h : PostAt w A0 c0 sends A1 c1 routes) (ha : (Lit.int .u8 a).wf = true) :
    Calls Try.prog 13 #[.agg #[.slice A0 sends.length c0, .slice A1 routes.length c1, .int .i64 pat], .int .u8 a] w fun e w' => e = .returned (.bool true) ∧ Below w.heap.size w w' := by
  obtain ⟨rs, hrs⟩ : ∃ rs, rs = routes.map toX := ⟨_, rfl⟩
  have HRS := Aside0.mk hrs
  have hau := u8_of ha
  clear hrs ha
  obtain ⟨W1, hW1⟩ : ∃ W1, W1 = w.alloc (.cells #[.slice A0 sends.length c0, .slice A1 routes.length c1, .int .i64 pat] 25) := ⟨_, rfl⟩
  have hx := BoxAt.start w A0 c0 sends.length A1 c1 routes.length pat
  rw [← hW1] at hx
  have HX1 := Aside0.mk hx
  have HP := Aside0.mk h
  have x0 := hx.x0
  have x1 := hx.x1
  have x2 := hx.x2
  have HW1 := Aside0.mk hW1
  clear h hx hW1
  go_enter Try.func13, Try.ntmps13
  go_wp2_with fail
  rw [← HW1.out]
  clear HW1
  refine (ready54 A0 c0 sends A1 c1 routes pat rs W1 HRS.out (HP.out.below HX1.out.below)).mono ?_
  rintro e w2 ⟨rfl, hb⟩
  have HX2 := Aside0.mk (HX1.out.later hb)
  clear hb HX1 x0 x1 x2
  cases hrd : (thinB sends routes && check sends rs pat == 0) with
  | false =>
    clear hrd
    go_wp2_with fail
    refine (awake20 w2).mono ?_
    rintro e w3 ⟨rfl, hb⟩
    have HX3 := Aside0.mk (HX2.out.later hb)
    clear hb HX2
    go_wp2_with fail
    go_ret
    exact ⟨rfl, HX3.out.below⟩
  | true =>
    rw [Bool.and_eq_true, beq_iff_eq] at hrd
    have HTH := Aside0.mk hrd.1
    have HCK := Aside0.mk hrd.2
    have HV := Aside0.mk (valid_of hrd.2)
    have hs4 := (valid_of hrd.2).sn
    have hs1 := (valid_of hrd.2).s1
    clear hrd
    have x0 := HX2.out.x0
    have x1 := HX2.out.x1
    have x2 := HX2.out.x2
    go_wp2_with fail
    refine (post22_thin pat HRS.out (HP.out.below HX2.out.below) HTH.out).mono ?_
    rintro e w3 ⟨Ap, cp, Aq, cq, rfl, hp, hb⟩
    have HPP := Aside0.mk hp
    have HX3 := Aside0.mk (HX2.out.later hb)
    clear hb HX2 hp x0 x1 x2
    go_wp2_with fail
    have hct := spans33 Ap cp sends Aq cq rs pat w3 HPP.out.h0 HPP.out.l0 HPP.out.h1 HPP.out.l1
    rw [spansRes, if_neg (by rw [HCK.out]; exact fun e => e rfl)] at hct
    refine (hct).mono ?_
    rintro e w4 ⟨vj, rfl, hr, hb⟩
    obtain ⟨AS, cS, rfl, hlj, hCj⟩ := Kd.R_reads hr
    have HS4 := Aside0.mk hCj
    have HLS := Aside0.mk hlj
    have HX4 := Aside0.mk (HX3.out.later hb)
    clear hb HX3 hr hlj hCj HPP hct
    dsimp only at HS4 HLS ⊢
    have HSL : Aside0 ((spansL sends rs pat sends.length).length = sends.length) := ⟨spansL_len sends rs pat sends.length⟩
    rw [HSL.out] at HS4
    rw [HSL.out]
    have HRD : Aside0 (∀ i : Nat, i < sends.length → rd_T68 (spansL sends rs pat sends.length) (i : Int) = spanAt sends rs pat i) := ⟨fun i hi => by
      rw [rd_T68, Int.toNat_natCast, spansL]
      simp [List.getD, hi]⟩
    generalize spansL sends rs pat sends.length = ls at HS4 HRD
    clear HSL HLS
    obtain ⟨k, hk, hk2, hkl⟩ : ∃ k : Nat, Int.tmod a (sends.length : Int) = (k : Int) ∧ a % (sends.length : Int) = (k : Int) ∧ k < sends.length := by
      have e : Int.tmod a (sends.length : Int) = a % (sends.length : Int) := Int.tmod_eq_emod_of_nonneg hau.1
      have h1 := Int.emod_nonneg a (show (sends.length : Int) ≠ 0 by omega)
      have h2 := Int.emod_lt_of_pos a (show 0 < (sends.length : Int) by omega)
      exact ⟨(a % (sends.length : Int)).toNat, by rw [e]; omega, by omega, by omega⟩
    have hkz : (k : Int) < (sends.length : Int) := by omega
    have hnz : ((sends.length : Int) == 0) = false := beq_eq_false_iff_ne.2 (by omega)
    have hnz2 : ¬ (sends.length : Int) = 0 := by omega
    obtain ⟨ad, ea, y0, y1⟩ := at_T68 HS4.out (k : Int) (by omega) hkz
    cases ea
    rw [HRD.out k hkl, Int.toNat_natCast] at y0 y1
    have HLAW : Aside0 (∀ i : Nat, i < 4 → _) := ⟨fun i hi => ends_law HV.out HCK.out hkl hi⟩
    have hsb := span_bounds HV.out hkl
    have HSB := Aside0.mk hsb
    clear hsb HRD
    generalize spanAt sends rs pat k = sp at y0 y1 HLAW HSB
    obtain ⟨slo, shi⟩ := sp
    dsimp only at y0 y1 HSB
    have hsb := HSB.out
    have Y0 := Aside0.mk y0
    have Y1 := Aside0.mk y1
    have x0 := HX4.out.x0
    have x1 := HX4.out.x1
    have x2 := HX4.out.x2
    go_wp2_with fail
    clear hk hk2 hnz hnz2 hau x0 x1 x2 y0 y1
    go_loopg [8] 4 (fun gg s8 wr => ∃ i : Nat, i ≤ 4 ∧ 4 - i ≤ gg ∧ s8 = .int .i64 i ∧ Aside0 (Below w4.heap.size w4 wr))
    case atStart => exact ⟨0, by omega, by omega, rfl, ⟨Below.refl _ _⟩⟩
    case round =>
      obtain ⟨i, hi, hgi, rfl, HBr⟩ := hrel
      obtain ⟨wn, rfl⟩ : ∃ wn : World, wn = wr := ⟨_, rfl⟩
      have HXn := Aside0.mk (HX4.out.later HBr.out)
      by_cases hlt : i < 4
      ·
        have hltz : (i : Int) < 4 := by omega
        have y0 := pw_cell_below HBr.out Y0.out
        have y1 := pw_cell_below HBr.out Y1.out
        have KEEP : Aside0 (∀ w', Below wn.heap.size wn w' → (w'.cell? (ad.add (k * 2)) = some (.int .i64 slo) ∧ w'.cell? ⟨(ad.add (k * 2)).block, (ad.add (k * 2)).off + 1, none⟩ = some (.int .i64 shi))) := ⟨fun w' hb => ⟨pw_cell_below hb y0, pw_cell_below hb y1⟩⟩
        have hq0 : Aside0 (Below wn.heap.size wn wn.drew) := ⟨below_drew (Below.refl _ _)⟩
        have hqA : Aside0 (Below wn.heap.size wn (wn.alloc (.cells #[.int .i64 slo, .int .i64 shi, .int .i64 (slo - 1), .int .i64 (shi + 1)] 3)).drew) := ⟨below_drew ((Below.refl _ _).alloc (Nat.le_refl _) _)⟩
        have q1 : IntKind.i64.wrap (slo - 1) = slo - 1 := IntWalk.i64_in _ (by omega)
        have q2 : IntKind.i64.wrap (shi + 1) = shi + 1 := IntWalk.i64_in _ (by omega)
        have HLI := Aside0.mk (HLAW.out i hlt)
        have hat : (wn.alloc (.cells #[.int .i64 slo, .int .i64 shi, .int .i64 (slo - 1), .int .i64 (shi + 1)] 3)).drew.cell? ⟨wn.heap.size, i, none⟩ = some (.int .i64 (triedL ⟨slo, shi⟩ i)) := by
          have hc : i = 0 ∨ i = 1 ∨ i = 2 ∨ i = 3 := by omega
          rcases hc with rfl | rfl | rfl | rfl
          · exact (blk_cell (blk_drew (blk_new wn _)) 0).trans rfl
          · exact (blk_cell (blk_drew (blk_new wn _)) 1).trans rfl
          · exact (blk_cell (blk_drew (blk_new wn _)) 2).trans rfl
          · exact (blk_cell (blk_drew (blk_new wn _)) 3).trans rfl
        generalize triedL ⟨slo, shi⟩ i = tv at hat HLI
        go_wp2_with fail
        go_cut [9] from 40 to 119 (fun s9 wx => s9 = .int .i64 tv ∧ wx = (wn.alloc (.cells #[.int .i64 slo, .int .i64 shi, .int .i64 (slo - 1), .int .i64 (shi + 1)] 3)).drew)
        case first =>
          go_region_with (fail)
          all_goals (go_wp2_with fail; go_meet; exact ⟨rfl, rfl⟩)
        obtain ⟨rfl, rfl⟩ := hcut
        have HBA := Aside0.mk (below_then HBr.out HBr.out.size hqA.out)
        have HXA := Aside0.mk (HXn.out.later hqA.out)
        clear q1 q2 hat y0 y1 KEEP hq0
        generalize (wn.alloc (.cells #[.int .i64 slo, .int .i64 shi, .int .i64 (slo - 1), .int .i64 (shi + 1)] 3)).drew = wa at hqA HBA HXA ⊢
        clear hqA HXn HBr
        go_wp2_with fail
        refine (in30 tv 0 100 wa).mono ?_
        rintro e wb ⟨rfl, hb⟩
        have HXb := Aside0.mk (HXA.out.later hb)
        have HBb := Aside0.mk (below_then HBA.out HBA.out.size hb)
        clear hb HXA HBA
        cases hin : inB 0 100 tv with
        | false =>
          have hi2 : ¬ i < 2 := fun e => by have := HLI.out.1 e; rw [hin] at this; cases this
          have hi2z : ¬ (i : Int) < 2 := by omega
          clear hin HLI
          go_wp2_with fail
          go_roundg (4 - (i + 1))
          case measure => omega
          case rel => exact ⟨i + 1, by omega, by omega, by go_num, HBb⟩
        | true =>
          have HL2 := Aside0.mk (HLI.out.2 hin)
          clear HLI hin
          obtain ⟨⟨ef1, ef⟩, hef⟩ : ∃ p, explainRes sends rs pat [⟨(k : Int), tv, false⟩] = p := ⟨_, rfl⟩
          obtain ⟨⟨eg1, eg⟩, heg⟩ : ∃ p, explainRes sends rs pat [⟨(k : Int), tv, true⟩] = p := ⟨_, rfl⟩
          have HEF := Aside0.mk hef
          have HEG := Aside0.mk heg
          rw [hef, heg] at HL2
          dsimp only at HL2
          clear hef heg
          have x0 := HXb.out.x0
          have x1 := HXb.out.x1
          have x2 := HXb.out.x2
          go_wp2_with fail
          refine (post22_thin pat HRS.out (HP.out.below HXb.out.below) HTH.out).mono ?_
          rintro e w41 ⟨Ap, cp, Aq, cq, rfl, hp, hb⟩
          have HPP := Aside0.mk hp
          have HX41 := Aside0.mk (HXb.out.later hb)
          have HB41 := Aside0.mk (below_then HBb.out HBb.out.size hb)
          clear hb HXb HBb hp x0 x1 x2
          obtain ⟨we, hwe⟩ : ∃ we, we = w41.alloc (.cells #[.int .i64 (k : Int), .int .i64 tv, .bool false] 87) := ⟨_, rfl⟩
          have hbe : Below w41.heap.size w41 we := hwe ▸ (Below.refl _ w41).alloc (Nat.le_refl _) _
          have hone : Kd.C k87 we (some ⟨w41.heap.size, 0, none⟩) 1 [⟨(k : Int), tv, false⟩] := by rw [hwe]; exact one_entry ⟨(k : Int), tv, false⟩ w41
          have HXe := Aside0.mk (HX41.out.later hbe)
          have HBe := Aside0.mk (below_then HB41.out HB41.out.size hbe)
          have HPE := Aside0.mk (HPP.out.below hbe)
          have HONE := Aside0.mk hone
          have HWE := Aside0.mk hwe
          clear hbe hone hwe HPP HX41 HB41
          go_wp2_with fail
          rw [← HWE.out]
          have hct := explain57 Ap cp sends Aq cq rs pat (some ⟨w41.heap.size, 0, none⟩) 1 [⟨(k : Int), tv, false⟩] we HPE.out.h0 HPE.out.l0 HPE.out.h1 HPE.out.l1 HONE.out
          rw [HEF.out] at hct
          refine (hct).mono ?_
          rintro e w42 ⟨vx, rfl, hr, hb⟩
          have HX42 := Aside0.mk (HXe.out.later hb)
          have HB42 := Aside0.mk (below_then HBe.out HBe.out.size hb)
          clear hb HXe HBe hr HPE HONE HWE hct
          dsimp only
          have x0 := HX42.out.x0
          have x1 := HX42.out.x1
          have x2 := HX42.out.x2
          go_wp2_with fail
          refine (post22_thin pat HRS.out (HP.out.below HX42.out.below) HTH.out).mono ?_
          rintro e w43 ⟨Ap, cp, Aq, cq, rfl, hp, hb⟩
          have HPP := Aside0.mk hp
          have HX43 := Aside0.mk (HX42.out.later hb)
          have HB43 := Aside0.mk (below_then HB42.out HB42.out.size hb)
          clear hb HX42 HB42 hp x0 x1 x2
          obtain ⟨we, hwe⟩ : ∃ we, we = w43.alloc (.cells #[.int .i64 (k : Int), .int .i64 tv, .bool true] 87) := ⟨_, rfl⟩
          have hbe : Below w43.heap.size w43 we := hwe ▸ (Below.refl _ w43).alloc (Nat.le_refl _) _
          have hone : Kd.C k87 we (some ⟨w43.heap.size, 0, none⟩) 1 [⟨(k : Int), tv, true⟩] := by rw [hwe]; exact one_entry ⟨(k : Int), tv, true⟩ w43
          have HXe := Aside0.mk (HX43.out.later hbe)
          have HBe := Aside0.mk (below_then HB43.out HB43.out.size hbe)
          have HPE := Aside0.mk (HPP.out.below hbe)
          have HONE := Aside0.mk hone
          have HWE := Aside0.mk hwe
          clear hbe hone hwe HPP HX43 HB43
          go_wp2_with fail
          rw [← HWE.out]
          have hct := explain57 Ap cp sends Aq cq rs pat (some ⟨w43.heap.size, 0, none⟩) 1 [⟨(k : Int), tv, true⟩] we HPE.out.h0 HPE.out.l0 HPE.out.h1 HPE.out.l1 HONE.out
          rw [HEG.out] at hct
          refine (hct).mono ?_
          rintro e w44 ⟨vx, rfl, hr, hb⟩
          have HX44 := Aside0.mk (HXe.out.later hb)
          have HB44 := Aside0.mk (below_then HBe.out HBe.out.size hb)
          clear hb HXe HBe hr HPE HONE HWE hct
          dsimp only
          clear HEF HEG
          obtain ⟨hc1, hc2, hc3⟩ := HL2.out
          clear HL2
          by_cases hi2 : i < 2
          ·
            have hi2z : (i : Int) < 2 := by omega
            have hz := hc3.2 hi2
            clear hc3
            rcases hc1 with rfl | rfl
            ·
              clear hz
              rcases hc2 with rfl | rfl
              ·
                go_wp2_with fail
                go_roundg (4 - (i + 1))
                case measure => omega
                case rel => exact ⟨i + 1, by omega, by omega, by go_num, HB44⟩
              ·
                go_wp2_with fail
                go_roundg (4 - (i + 1))
                case measure => omega
                case rel => exact ⟨i + 1, by omega, by omega, by go_num, HB44⟩
            ·
              have hz2 : eg = 0 := hz.resolve_left (by decide)
              subst hz2
              clear hc2 hz
              go_wp2_with fail
              go_roundg (4 - (i + 1))
              case measure => omega
              case rel => exact ⟨i + 1, by omega, by omega, by go_num, HB44⟩
          ·
            have hi2z : ¬ (i : Int) < 2 := by omega
            have hz : ¬ (ef = 0 ∨ eg = 0) := fun h => hi2 (hc3.1 h)
            have hz1 : ef = 9 := hc1.resolve_left (fun h => hz (.inl h))
            have hz2 : eg = 9 := hc2.resolve_left (fun h => hz (.inr h))
            subst hz1
            subst hz2
            clear hc1 hc2 hc3 hz
            go_wp2_with fail
            go_roundg (4 - (i + 1))
            case measure => omega
            case rel => exact ⟨i + 1, by omega, by omega, by go_num, HB44⟩
      ·
        have hltz : ¬ (i : Int) < 4 := by omega
        go_wp2_with fail
        refine (awake20 wn).mono ?_
        rintro e w81 ⟨rfl, hb⟩
        have HX81 := Aside0.mk (HXn.out.later hb)
        clear hb HXn
        go_wp2_with fail
        go_ret
        exact ⟨rfl, HX81.out.below⟩
end Go.Proofs.Ytiephlhohgohcaa.PAll
