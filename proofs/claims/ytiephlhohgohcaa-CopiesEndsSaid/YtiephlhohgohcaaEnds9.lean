/- Part 9 of what the row rests on: each text as it stands among the working texts, cut to what is used; those of the print of the kit as a program printed them. -/
import Derived.Test.YtiephlhohgohcaaEnds8
import Derived.Test.YtiephlhohgohcaaEnds5
import Derived.StillTailTactics
import Derived.Deep.RegionHeld3
set_option linter.unusedVariables false
set_option linter.unusedSimpArgs false
namespace Go.Proofs.Ytiephlhohgohcaa.PAll
open Go.RowKit Go.Proofs.YtiephlhohgohcaaW.PrintWords Go.Proofs.YtiephlhohgohcaaW.PrintLast Go.Proofs.YtiephlhohgohcaaW.PrintMore
attribute [local go_sem] max2_int min2_int max_two min_two max_three min_three max_four min_four
set_option linter.unusedVariables false
set_option linter.unusedSimpArgs false
set_option maxRecDepth 100000 in
set_option maxHeartbeats 1000000 in
theorem comes123 (A0 : Option Addr) (c0 : Nat) (x : S122) (sent : Int) (A2 : Option Addr) (c2 : Nat) (takes : List Int) (w : World) (h0 : Kd.C k119 w A0 x.f0.length x.f0) (h2 : Kd.C (Kd.int .i64) w A2 takes.length takes)
    (hlen : takes.length = 0 ∨ takes.length = x.f0.length) (hn : x.f0.length ≤ 100) (hw : ∀ l ∈ x.f0, Wakes l) (ht : ∀ t ∈ takes, 0 ≤ t ∧ t ≤ 6) (s0 : 0 ≤ sent) (s1 : sent ≤ 31) :
    Calls Try.prog 123 #[.agg #[.slice A0 x.f0.length c0, .bool x.f1], .int .i64 sent, .slice A2 takes.length c2] w fun e w' =>
      e = .returned (.int .i64 (comeR x sent takes)) ∧ Below w.heap.size w w' := by
  have HR0 := Aside0.mk h0
  have HR2 := Aside0.mk h2
  have HW := Aside0.mk hw
  have HT := Aside0.mk ht
  have HLen := Aside0.mk hlen
  clear h0 h2 hw ht hlen
  cases hz : ((takes.length : Int) == 0) with
  | true =>
    have HZ := Aside0.mk (show takes.length = 0 by simpa using hz)
    rw [show comeR x sent takes = 101 from if_pos HZ.out]
    go_enter Try.func123, Try.ntmps123
    go_wp2_with fail
    go_ret
    exact ⟨rfl, (Below.refl _ w).alloc (Nat.le_refl _) _⟩
  | false =>
    have HZ := Aside0.mk (show ¬ takes.length = 0 by simpa using hz)
    rw [show comeR x sent takes = comesL x.f0 sent takes from if_neg HZ.out]
    go_enter Try.func123, Try.ntmps123
    go_wp2_with fail
    obtain ⟨W1, hW1⟩ : ∃ W1, W1 = w.alloc (.cells #[.slice A0 x.f0.length c0, .bool x.f1] 122) := ⟨_, rfl⟩
    have HB0 := Aside0.mk (show Below w.heap.size w W1 from hW1 ▸ (Below.refl _ w).alloc (Nat.le_refl _) _)
    rw [← hW1]
    clear hW1
    go_loopg [1, 15] x.f0.length (fun gg s1 s15 wr => ∃ (k : Nat) (cur : Int), k ≤ x.f0.length ∧ x.f0.length - k ≤ gg ∧ s15 = .int .i64 k ∧ s1 = .int .i64 cur ∧ 0 ≤ cur ∧ cur ≤ 31 + 6 * k ∧ Aside0 (comesL (x.f0.drop k) cur (takes.drop k) = comesL x.f0 sent takes) ∧ Aside0 (Below w.heap.size w wr))
    case atStart => exact ⟨0, sent, by omega, by omega, rfl, rfl, s0, by omega, ⟨rfl⟩, HB0⟩
    case round =>
      obtain ⟨k, cur, hk, hg, rfl, rfl, q0, q1, HE, HB⟩ := hrel
      clear HB0
      by_cases hlt : k < x.f0.length
      · have hltz : (k : Int) < (x.f0.length : Int) := by omega
        have hlt2 : k < takes.length := by have := HLen.out; have := HZ.out; omega
        have hltz2 : (k : Int) < (takes.length : Int) := by omega
        obtain ⟨ad, A3, c3, e0, d0, d1, d2, l3, g3⟩ := at_T119 HR0.out (k : Int) (by omega) hltz
        obtain ⟨ad2, e2, t0⟩ := Kd.at_int HR2.out (k : Int) (by omega) hltz2
        cases e0
        cases e2
        rw [Int.toNat_natCast] at d0 d1 d2 t0
        replace d0 := (HB.out.cell (World.block_lt_of_cell? w _ d0)).trans d0
        replace d1 := (HB.out.cell (World.block_lt_of_cell? w _ d1)).trans d1
        replace d2 := (HB.out.cell (World.block_lt_of_cell? w _ d2)).trans d2
        replace t0 := (HB.out.cell (World.block_lt_of_cell? w _ t0)).trans t0
        have hb1 : Below wr.heap.size wr (wr.alloc (.cells #[.int .i64 (rd_T119 x.f0 k).f0.f0, .int .i64 (rd_T119 x.f0 k).f0.f1, .slice A3 (rd_T119 x.f0 k).f1.length c3] 119)) := (Below.refl _ wr).alloc (Nat.le_refl _) _
        have t1 := pw_cell_below hb1 t0
        have HG := Aside0.mk g3
        clear g3
        go_wp2_with fail
        obtain ⟨W2, hW2⟩ : ∃ W2, W2 = wr.alloc (.cells #[.int .i64 (rd_T119 x.f0 k).f0.f0, .int .i64 (rd_T119 x.f0 k).f0.f1, .slice A3 (rd_T119 x.f0 k).f1.length c3] 119) := ⟨_, rfl⟩
        have b0 : W2.cell? ⟨wr.heap.size, 0, none⟩ = some (.int .i64 (rd_T119 x.f0 k).f0.f0) := by rw [hW2]; simp
        have b1 : W2.cell? ⟨wr.heap.size, 1, none⟩ = some (.int .i64 (rd_T119 x.f0 k).f0.f1) := by rw [hW2]; simp
        have b2 : W2.cell? ⟨wr.heap.size, 2, none⟩ = some (.slice A3 (rd_T119 x.f0 k).f1.length c3) := by rw [hW2]; simp
        rw [← hW2] at hb1 t1 ⊢
        have HB1 := Aside0.mk hb1
        clear hW2 hb1
        have hx : rd_T119 x.f0 (k : Int) = x.f0[k] := by unfold rd_T119; rw [Int.toNat_natCast, List.getD_eq_getElem?_getD, List.getElem?_eq_getElem hlt]; rfl
        have hy : rd takes (k : Int) = takes[k] := by unfold rd; rw [Int.toNat_natCast, List.getD_eq_getElem?_getD, List.getElem?_eq_getElem hlt2]; rfl
        have HX := Aside0.mk hx
        have HY := Aside0.mk hy
        obtain ⟨y0, y1⟩ := HT.out (rd takes (k : Int)) (by rw [hy]; exact List.getElem_mem hlt2)
        clear hx hy
        have hwr : IntKind.i64.wrap (cur + rd takes (k : Int)) = cur + rd takes (k : Int) := by rw [IntKind.wrap_i64]; omega
        go_still_tail 7, (by kernel_rfl)
        change wpList _ _ _ _ _ W2.drew
        have HB2 := Aside0.mk (below_drew (below_then HB.out HB.out.size HB1.out))
        generalize W2.drew = W3 at HB2 ⊢
        clear b0 b1 b2 t1 d0 d1 d2 t0 hwr
        go_wp2_with fail
        refine (awake126 (rd_T119 x.f0 (k : Int)) A3 c3 (cur + rd takes (k : Int)) W3 (Kd.C_below HG.out HB2.out) (by rw [HX.out]; exact HW.out _ (List.getElem_mem hlt)) (by omega) (by omega)).mono ?_
        rintro e w' ⟨rfl, hb'⟩
        have HB3 := Aside0.mk hb'
        clear hb'
        obtain ⟨z1, z2, _, _⟩ := awakeL_spec (l := rd_T119 x.f0 (k : Int)) (by rw [HX.out]; exact HW.out _ (List.getElem_mem hlt)) (show 0 ≤ cur + rd takes (k : Int) by omega)
        have z3 : awakeL (rd_T119 x.f0 (k : Int)) (cur + rd takes (k : Int)) ≤ 31 + 6 * (k + 1 : Nat) := by rcases z2 with z2 | z2 <;> omega
        clear z2
        have HQ := Aside0.mk (show comesL (x.f0.drop (k + 1)) (awakeL (rd_T119 x.f0 (k : Int)) (cur + rd takes (k : Int))) (takes.drop (k + 1)) = comesL x.f0 sent takes by
          rw [← HE.out, List.drop_eq_getElem_cons hlt, List.drop_eq_getElem_cons hlt2, HX.out, HY.out]; rfl)
        generalize awakeL (rd_T119 x.f0 (k : Int)) (cur + rd takes (k : Int)) = nx at z1 z3 HQ ⊢
        go_wp2_with fail
        go_roundg (x.f0.length - (k + 1))
        case measure => omega
        case rel => exact ⟨k + 1, nx, by omega, by omega, by go_num, rfl, by omega, z3, HQ, ⟨below_then HB2.out HB2.out.size HB3.out⟩⟩
      · have hltz : ¬ (k : Int) < (x.f0.length : Int) := by omega
        have hkk : k = x.f0.length := by omega
        have HQ := Aside0.mk (show cur = comesL x.f0 sent takes by rw [← HE.out, hkk, List.drop_eq_nil_of_le (Nat.le_refl _)]; rfl)
        clear hkk
        go_wp2_with fail
        go_ret
        exact ⟨by rw [← HQ.out]; rfl, HB.out⟩
end Go.Proofs.Ytiephlhohgohcaa.PAll
namespace Go.Proofs.Ytiephlhohgohcaa.PAll
open Go.RowKit Go.Proofs.YtiephlhohgohcaaW.PrintWords Go.Proofs.YtiephlhohgohcaaW.PrintLast Go.Proofs.YtiephlhohgohcaaW.PrintMore
attribute [local go_sem] max2_int min2_int max_two min_two max_three min_three max_four min_four
set_option linter.unusedVariables false
set_option linter.unusedSimpArgs false
set_option maxRecDepth 100000 in
set_option maxHeartbeats 4000000 in
theorem play74 (A0 : Option Addr) (c0 : Nat) (sends : List Int) (A1 : Option Addr) (c1 : Nat) (routes : List S122) (pat : Int) (A2 : Option Addr) (c2 : Nat) (t : List (List (List Int))) (w : World)
    (h0 : Kd.C (Kd.int .i64) w A0 sends.length sends) (l0 : sends.length ≤ c0) (h1 : Kd.C k122 w A1 routes.length routes) (l1 : routes.length ≤ c1) (h2 : Kd.C (Kd.slice 22 (Kd.slice 3 (Kd.int .i64))) w A2 t.length t)
    (ok : PostOk sends routes pat) (hts : t.length = sends.length) (htr : ∀ l ∈ t, l.length = routes.length) (htf : ∀ l ∈ t, ∀ (k : Nat) (hk : k < l.length) (hk' : k < routes.length), fitsT routes[k] l[k]) :
    Calls Try.prog 74 #[.agg #[.slice A0 sends.length c0, .slice A1 routes.length c1, .int .i64 pat], .slice A2 t.length c2] w fun e w' =>
      ∃ v, e = .returned v ∧ Kd.R k87 87 w' w.heap.size (fun _ => True) v (playL routes pat 0 0 sends t) ∧ Below w.heap.size w w' := by
  have HR0 := Aside0.mk h0
  have HR1 := Aside0.mk h1
  have HR2 := Aside0.mk h2
  have HL0 := Aside0.mk l0
  have HL1 := Aside0.mk l1
  have OK := Aside0.mk ok
  have HTR := Aside0.mk htr
  have HTF := Aside0.mk htf
  have HTS := Aside0.mk hts
  have htn : t.length ≤ 100 := by rw [hts]; exact ok.sn
  clear h0 h1 h2 l0 l1 ok htr htf hts
  obtain ⟨W1, hW1⟩ : ∃ W1, W1 = w.alloc (.cells #[.slice A0 sends.length c0, .slice A1 routes.length c1, .int .i64 pat] 34) := ⟨_, rfl⟩
  have HB0 := Aside0.mk (show Below w.heap.size w W1 from hW1 ▸ (Below.refl _ w).alloc (Nat.le_refl _) _)
  have HK0 := Aside0.mk (show W1.heap[w.heap.size]? = some (.cells #[.slice A0 sends.length c0, .slice A1 routes.length c1, .int .i64 pat] 34 (0, 0)) from hW1 ▸ blk_new _ _)
  have HW1 := Aside0.mk hW1
  clear hW1
  go_enter Try.func74, Try.ntmps74
  go_wp2_with fail
  rw [← HW1.out]
  clear HW1
  go_loopg [4, 5, 14] t.length (fun gg s4 s5 s14 wr => ∃ (k : Nat) (before : Int) (out : List S87), k ≤ t.length ∧ t.length - k ≤ gg ∧ s14 = .int .i64 k ∧ s5 = .int .i64 before ∧ out.length = k ∧ Aside0 (Kd.R k87 87 wr w.heap.size (fun _ => True) s4 out) ∧
    Aside0 (out ++ playL routes pat k before (sends.drop k) (t.drop k) = playL routes pat 0 0 sends t) ∧ Aside0 (wr.heap[w.heap.size]? = some (.cells #[.slice A0 sends.length c0, .slice A1 routes.length c1, .int .i64 pat] 34 (0, 0))) ∧ Aside0 (Below w.heap.size w wr))
  case atStart => exact ⟨0, 0, [], by omega, by omega, rfl, rfl, rfl, ⟨Kd.R_nil _ _ _ _ _⟩, ⟨rfl⟩, HK0, HB0⟩
  case round =>
    obtain ⟨k, before, out, hk, hg, rfl, rfl, hol, HO, HE, HK, HB⟩ := hrel
    clear HK0 HB0
    have HOL := Aside0.mk hol
    clear hol
    by_cases hlt : k < t.length
    · have hltz : (k : Int) < (t.length : Int) := by omega
      obtain ⟨ad2, A3, c3, e2, d2, l3, g3⟩ := at_L8 HR2.out (k : Int) (by omega) hltz
      cases e2
      rw [Int.toNat_natCast] at d2
      replace d2 := (HB.out.cell (World.block_lt_of_cell? w _ d2)).trans d2
      have hl : rd_L8 t (k : Int) = t[k] := by unfold rd_L8; rw [Int.toNat_natCast, rd_in _ _ _ hlt]
      have hlr : (rd_L8 t (k : Int)).length = routes.length := by rw [hl]; exact HTR.out _ (List.getElem_mem hlt)
      have HLT := Aside0.mk hl
      have HLR := Aside0.mk hlr
      have G3 := Aside0.mk g3
      clear hl g3
      generalize rd_L8 t (k : Int) = l at d2 l3 hlr HLT HLR G3
      have hlb : l.length ≤ 100 := by rw [hlr]; exact OK.out.rn
      clear hlr
      have hlts : k < sends.length := by have := HTS.out; omega
      have hltsz : (k : Int) < (sends.length : Int) := by omega
      obtain ⟨ads, es, ds⟩ := Kd.at_int HR0.out (k : Int) (by omega) hltsz
      rw [Int.toNat_natCast] at ds
      have hs : rd sends (k : Int) = sends[k] := by unfold rd; rw [Int.toNat_natCast, rd_in _ _ _ hlts]
      obtain ⟨s00, s01⟩ := OK.out.s0 _ (List.getElem_mem hlts)
      rw [← hs] at s00 s01
      obtain ⟨p00, p01⟩ := OK.out.p0
      have HD := Aside0.mk (show wrap64 (rd sends (k : Int) + pat) = rd sends (k : Int) + pat by unfold wrap64; omega)
      have HS := Aside0.mk hs
      clear hs p00 p01
      have HSS := Aside0.mk (rfl : rd sends (k : Int) = rd sends (k : Int))
      generalize hgs : rd sends (k : Int) = sent at ds s00 s01 HS
      rw [hgs] at HD
      have HGS := Aside0.mk hgs
      clear hgs HSS
      have DS := Aside0.mk ds
      cases es
      clear ds
      go_wp2_with fail
      obtain ⟨wo, rfl⟩ : ∃ wo : World, wo = wr := ⟨_, rfl⟩
      go_loopg [8, 21] l.length (fun gm s8 s21 wi => ∃ (m : Nat) (hour : Int), m ≤ l.length ∧ l.length - m ≤ gm ∧ s21 = .int .i64 m ∧ s8 = .int .i64 hour ∧ Aside0 (hourL (routes.drop m) sent (l.drop m) hour = hourL routes sent l 101) ∧
        Aside0 (wi.heap[w.heap.size]? = some (.cells #[.slice (some ads) sends.length c0, .slice A1 routes.length c1, .int .i64 pat] 34 (0, 0))) ∧ Aside0 (Kd.R k87 87 wi w.heap.size (fun _ => True) u4 out) ∧ Aside0 (Below w.heap.size w wi))
      case atStart => exact ⟨0, 101, by omega, by omega, rfl, rfl, ⟨rfl⟩, HK, HO, HB⟩
      case round =>
        obtain ⟨m, hour, hm, hgm, rfl, rfl, HH, HKi, HOi, HBi⟩ := hrel
        by_cases hml : m < l.length
        · have hmlz : (m : Int) < (l.length : Int) := by omega
          have hmr : m < routes.length := by have := HLR.out; omega
          have hmrz : (m : Int) < (routes.length : Int) := by omega
          obtain ⟨ad4, A4, c4, e4, d4, l4, g4⟩ := at_L7 G3.out (m : Int) (by omega) hmlz
          obtain ⟨ad5, A5, c5, e5, d50, d51, l5, g5⟩ := at_T122 HR1.out (m : Int) (by omega) hmrz
          cases e4
          cases e5
          rw [Int.toNat_natCast] at d4 d50 d51
          replace d4 := (HBi.out.cell (World.block_lt_of_cell? w _ d4)).trans d4
          replace d50 := (HBi.out.cell (World.block_lt_of_cell? w _ d50)).trans d50
          replace d51 := (HBi.out.cell (World.block_lt_of_cell? w _ d51)).trans d51
          have hx : rd_T122 routes (m : Int) = routes[m] := by unfold rd_T122; rw [Int.toNat_natCast, rd_in _ _ _ hmr]
          have hy : rd_L7 l (m : Int) = l[m] := by unfold rd_L7; rw [Int.toNat_natCast, rd_in _ _ _ hml]
          have G4 := Aside0.mk g4
          have G5 := Aside0.mk g5
          have HX := Aside0.mk hx
          have HY := Aside0.mk hy
          clear g4 g5 hx hy
          generalize rd_T122 routes (m : Int) = x at d50 d51 l5 HX G5
          generalize rd_L7 l (m : Int) = tk at d4 l4 HY G4
          have hfit : fitsT x tk := by rw [HX.out, HY.out]; exact HTF.out l (by rw [HLT.out]; exact List.getElem_mem hlt) m hml hmr
          have HF := Aside0.mk hfit
          clear hfit
          have dsi := (HBi.out.cell (World.block_lt_of_cell? w _ DS.out)).trans DS.out
          have b0 : wr.cell? ⟨w.heap.size, 0, none⟩ = some (.slice (some ads) sends.length c0) := (blk_cell HKi.out 0).trans rfl
          have b1 : wr.cell? ⟨w.heap.size, 1, none⟩ = some (.slice (some ad5) routes.length c1) := (blk_cell HKi.out 1).trans rfl
          have KEEP : Aside0 (∀ w', Below wr.heap.size wr w' → (w'.cell? ⟨w.heap.size, 0, none⟩ = some (.slice (some ads) sends.length c0) ∧ w'.cell? ⟨w.heap.size, 1, none⟩ = some (.slice (some ad5) routes.length c1) ∧ w'.cell? (ads.add k) = some (.int .i64 sent) ∧ w'.cell? (ad5.add (m * 2)) = some (.slice A5 x.f0.length c5) ∧ w'.cell? ⟨(ad5.add (m * 2)).block, (ad5.add (m * 2)).off + 1, none⟩ = some (.bool x.f1))) :=
            ⟨fun w' hb => ⟨pw_cell_below hb b0, pw_cell_below hb b1, pw_cell_below hb dsi, pw_cell_below hb d50, pw_cell_below hb d51⟩⟩
          have hq0 : Aside0 (Below wr.heap.size wr wr.drew) := ⟨below_drew (Below.refl _ _)⟩
          go_wp2_with fail
          go_region_held3 (fun w' => w'.cell? ⟨w.heap.size, 0, none⟩ = some (.slice (some ads) sends.length c0) ∧ w'.cell? ⟨w.heap.size, 1, none⟩ = some (.slice (some ad5) routes.length c1) ∧ w'.cell? (ads.add k) = some (.int .i64 sent) ∧ w'.cell? (ad5.add (m * 2)) = some (.slice A5 x.f0.length c5) ∧ w'.cell? ⟨(ad5.add (m * 2)).block, (ad5.add (m * 2)).off + 1, none⟩ = some (.bool x.f1))
            (first
              | exact KEEP.out _ hq0.out
              | exact KEEP.out _ hq1.out
              | exact KEEP.out _ (hq1.out.alloc hq1.out.size _)
              | exact KEEP.out _ hq2.out)
            (first
              | (go_at_call 123; refine (comes123 A5 c5 x sent A4 c4 tk _ (Kd.C_below G5.out (below_then HBi.out HBi.out.size hq0.out)) (Kd.C_below G4.out (below_then HBi.out HBi.out.size hq0.out)) HF.out.1 (by rw [HX.out]; exact OK.out.ln _ (List.getElem_mem hmr)) (by rw [HX.out]; exact OK.out.wk _ (List.getElem_mem hmr)) HF.out.2 s00 (by omega)).mono ?_; rintro e w3 ⟨rfl, hb3⟩; have hq1 := Aside0.mk (below_then hq0.out hq0.out.size hb3); clear hb3)
              | (go_at_call 122; refine (smallest_two hour (comeR x sent tk) _).mono ?_; rintro e w4 ⟨rfl, hb4⟩; have hq2 := Aside0.mk (below_then hq1.out hq1.out.size hb4); clear hb4))
          go_wp2_with fail
          go_roundg (l.length - (m + 1))
          case measure => omega
          case rel =>
            refine ⟨m + 1, min hour (comeR x sent tk), by omega, by omega, by go_num, rfl, ⟨?_⟩, ⟨blk_below HKi.out hq2.out⟩, ⟨Kd.R_below HOi.out hq2.out⟩, ⟨below_then HBi.out HBi.out.size hq2.out⟩⟩
            rw [← HH.out, List.drop_eq_getElem_cons hml, List.drop_eq_getElem_cons hmr, HX.out, HY.out]
            rfl
        · have hmlz : ¬ (m : Int) < (l.length : Int) := by omega
          have hmm : m = l.length := by omega
          have HQ := Aside0.mk (show hour = hourL routes sent l 101 by rw [← HH.out, hmm, List.drop_eq_nil_of_le (Nat.le_refl l.length)]; cases routes.drop l.length <;> rfl)
          clear hmm
          have b0 : wr.cell? ⟨w.heap.size, 0, none⟩ = some (.slice (some ads) sends.length c0) := (blk_cell HKi.out 0).trans rfl
          have b1 : wr.cell? ⟨w.heap.size, 1, none⟩ = some (.slice A1 routes.length c1) := (blk_cell HKi.out 1).trans rfl
          have b2 : wr.cell? ⟨w.heap.size, 2, none⟩ = some (.int .i64 pat) := (blk_cell HKi.out 2).trans rfl
          go_wp2_with fail
          refine (receive124 (some ads) c0 sends A1 c1 routes pat k before hour (sent + pat) _ (Kd.C_below HR0.out HBi.out) HL0.out (Kd.C_below HR1.out HBi.out) HL1.out (by omega) hltsz (by rw [HGS.out]; exact HD.out)).mono ?_
          rintro e w3 ⟨rfl, hb3⟩
          have HB3 := Aside0.mk (below_then HBi.out HBi.out.size hb3)
          have HO3 := Aside0.mk (Kd.R_below HOi.out hb3)
          have HK3 := Aside0.mk (blk_below HKi.out hb3)
          clear hb3 b0 b1 b2 HOi HKi HBi HH HO HK HB
          generalize hev : recvE k before hour (sent + pat) = ev
          have HEV := Aside0.mk hev
          clear hev
          have hlt87 : out.length ≤ 100 := by have := HOL.out; omega
          have HOLE := Aside0.mk hlt87
          go_wp2_with fail
          obtain ⟨W5, hW5⟩ : ∃ W5, W5 = w3.alloc (.cells #[.int .i64 ev.f0, .int .i64 ev.f1, .bool ev.f2] 87) := ⟨_, rfl⟩
          have hb5 : Below w3.heap.size w3 W5 := hW5 ▸ (Below.refl _ w3).alloc (Nat.le_refl _) _
          have HB5 := Aside0.mk (below_then HB3.out HB3.out.size hb5)
          have HO5 := Aside0.mk (Kd.R_below HO3.out hb5)
          have HK5 := Aside0.mk (blk_below HK3.out hb5)
          have hk5 : W5.heap[w3.heap.size]? = some (.cells #[.int .i64 ev.f0, .int .i64 ev.f1, .bool ev.f2] 87 (0, 0)) := hW5 ▸ blk_new _ _
          have KE5 := Aside0.mk hk5
          have HNE : Aside0 (some w3.heap.size ≠ u4.ownBlock) := ⟨fun e => by obtain ⟨_, inner, ho, _⟩ := HO3.out; have := own_lt ho w3.heap.size e.symm; omega⟩
          have c0' : W5.cell? ⟨w3.heap.size, 0, none⟩ = some (.int .i64 ev.f0) := (blk_cell hk5 0).trans rfl
          have c1' : W5.cell? ⟨w3.heap.size, 1, none⟩ = some (.int .i64 ev.f1) := (blk_cell hk5 1).trans rfl
          have c2' : W5.cell? ⟨w3.heap.size, 2, none⟩ = some (.bool ev.f2) := (blk_cell hk5 2).trans rfl
          have KEEP : Aside0 (∀ w' : World, w'.heap[w3.heap.size]? = some (.cells #[.int .i64 ev.f0, .int .i64 ev.f1, .bool ev.f2] 87 (0, 0)) → (w'.cell? ⟨w3.heap.size, 0, none⟩ = some (.int .i64 ev.f0) ∧ w'.cell? ⟨w3.heap.size, 1, none⟩ = some (.int .i64 ev.f1) ∧ w'.cell? ⟨w3.heap.size, 2, none⟩ = some (.bool ev.f2))) :=
            ⟨fun w' hb => ⟨(blk_cell hb 0).trans rfl, (blk_cell hb 1).trans rfl, (blk_cell hb 2).trans rfl⟩⟩
          rw [← hW5]
          clear hW5 hb5 hk5 hlt87
          go_region_held3 (fun w' => w'.cell? ⟨w3.heap.size, 0, none⟩ = some (.int .i64 ev.f0) ∧ w'.cell? ⟨w3.heap.size, 1, none⟩ = some (.int .i64 ev.f1) ∧ w'.cell? ⟨w3.heap.size, 2, none⟩ = some (.bool ev.f2))
            (first
              | exact KEEP.out _ (blk_drew KE5.out)
              | exact KEEP.out _ (blk_drew (blk_alloc KE5.out _))
              | exact KEEP.out _ (blk_grown KE5.out hgr.out HNE.out))
            (first
              | (refine kd_append_drew k87 (w0 := w) (W := W5) w.heap.size (by rfl) (.tmp 47) (.tmp 49) 36 87 (.agg #[.int .i64 0, .int .i64 0, .bool false]) 24 (by rfl) Try.underlying36 info87 rfl (by decide) u4 out ev [.int .i64 ev.f0, .int .i64 ev.f1, .bool ev.f2] (by rfl) (by rfl) (fun _ => False) (k87_mkM _ _ _ ev) (fun _ hk => hk.elim) HO5.out HB5.out HB5.out.size (by have := HOLE.out; omega) (by have := HOLE.out; unfold maxLen; omega) ?_; intro gg cap w6 hr6 hb6 hg6; have HR6 := Aside0.mk hr6; have HB6 := Aside0.mk hb6; have hgr := Aside0.mk hg6; clear hr6 hb6 hg6))
          go_wp2_with fail
          go_roundg (t.length - (k + 1))
          case measure => omega
          case rel =>
            refine ⟨k + 1, ev.f1, out ++ [ev], by omega, by omega, by go_num, rfl, by rw [List.length_append, HOL.out]; rfl, HR6, ⟨?_⟩, ⟨blk_grown HK5.out hgr.out (Kd.R_ne HO3.out HK3.out (by decide))⟩, HB6⟩
            rw [← HE.out, List.drop_eq_getElem_cons hlt, List.drop_eq_getElem_cons hlts, playL, ← HS.out, ← HLT.out, ← HQ.out, HEV.out, List.append_assoc]
            rfl
    · have hltz : ¬ (k : Int) < (t.length : Int) := by omega
      have hkk : k = t.length := by omega
      have HQ := Aside0.mk (show out = playL routes pat 0 0 sends t by rw [← HE.out, hkk, List.drop_eq_nil_of_le (Nat.le_refl t.length)]; cases sends.drop t.length <;> simp [playL])
      clear hkk
      go_wp2_with fail
      go_ret
      exact ⟨_, rfl, by rw [← HQ.out]; exact HO.out, HB.out⟩
end Go.Proofs.Ytiephlhohgohcaa.PAll
namespace Go.Proofs.Ytiephlhohgohcaa.PAll
open Go.RowKit Go.Proofs.YtiephlhohgohcaaW.PrintWords Go.Proofs.YtiephlhohgohcaaW.PrintLast Go.Proofs.YtiephlhohgohcaaW.PrintMore
attribute [local go_sem] max2_int min2_int max_two min_two max_three min_three max_four min_four
set_option linter.unusedVariables false
set_option linter.unusedSimpArgs false
set_option maxRecDepth 100000 in
set_option maxHeartbeats 4000000 in
theorem play23 (A0 : Option Addr) (c0 : Nat) (sends : List Int) (A1 : Option Addr) (c1 : Nat) (routes : List S122) (pat : Int) (A2 : Option Addr) (c2 : Nat) (t : List (List (List Int))) (w : World)
    (h0 : Kd.C (Kd.int .i64) w A0 sends.length sends) (l0 : sends.length ≤ c0) (h1 : Kd.C k122 w A1 routes.length routes) (l1 : routes.length ≤ c1) (h2 : Kd.C (Kd.slice 22 (Kd.slice 3 (Kd.int .i64))) w A2 t.length t) :
    Calls Try.prog 23 #[.agg #[.slice A0 sends.length c0, .slice A1 routes.length c1, .int .i64 pat], .slice A2 t.length c2] w fun e w' =>
      ∃ v, e = .returned (.tuple #[v, .int .i64 (playRes sends routes pat t).2]) ∧ Kd.R k87 87 w' w.heap.size (fun _ => True) v (playRes sends routes pat t).1 ∧ Below w.heap.size w w' := by
  have HR0 := Aside0.mk h0
  have HR1 := Aside0.mk h1
  have HR2 := Aside0.mk h2
  have HL0 := Aside0.mk l0
  have HL1 := Aside0.mk l1
  obtain ⟨W1, hW1⟩ : ∃ W1, W1 = w.alloc (.cells #[.slice A0 sends.length c0, .slice A1 routes.length c1, .int .i64 pat] 34) := ⟨_, rfl⟩
  have hb1 : Below w.heap.size w W1 := hW1 ▸ (Below.refl _ w).alloc (Nat.le_refl _) _
  have HX := Aside0.mk (show W1.heap[w.heap.size]? = some (.cells #[.slice A0 sends.length c0, .slice A1 routes.length c1, .int .i64 pat] 34 (0, 0)) from by rw [hW1]; exact blk_new _ _)
  have HB := Aside0.mk hb1
  have HW1 := Aside0.mk hW1
  have g0 := Aside0.mk (Kd.C_below h0 hb1)
  have g1 := Aside0.mk (Kd.C_below h1 hb1)
  have g2 := Aside0.mk (Kd.C_below h2 hb1)
  clear h0 h1 h2 l0 l1 hW1 hb1
  have x0 : W1.cell? ⟨w.heap.size, 0, none⟩ = some (.slice A0 sends.length c0) := (blk_cell HX.out 0).trans rfl
  have x1 : W1.cell? ⟨w.heap.size, 1, none⟩ = some (.slice A1 routes.length c1) := (blk_cell HX.out 1).trans rfl
  have x2 : W1.cell? ⟨w.heap.size, 2, none⟩ = some (.int .i64 pat) := (blk_cell HX.out 2).trans rfl
  go_enter Try.func23, Try.ntmps23
  go_wp2_with fail
  rw [← HW1.out]
  clear HW1
  refine (checkPost_any A0 c0 sends A1 c1 routes pat W1 g0.out HL0.out g1.out HL1.out).mono ?_
  rintro e w2 ⟨rfl, hb⟩
  have HB2 := Aside0.mk (below_then HB.out HB.out.size hb)
  have HX2 := Aside0.mk (blk_below HX.out hb)
  have G0 := Aside0.mk (Kd.C_below g0.out hb)
  have G1 := Aside0.mk (Kd.C_below g1.out hb)
  have G2 := Aside0.mk (Kd.C_below g2.out hb)
  clear hb x0 x1 x2 HX HB g0 g1 g2
  have x0 : w2.cell? ⟨w.heap.size, 0, none⟩ = some (.slice A0 sends.length c0) := (blk_cell HX2.out 0).trans rfl
  have x1 : w2.cell? ⟨w.heap.size, 1, none⟩ = some (.slice A1 routes.length c1) := (blk_cell HX2.out 1).trans rfl
  have x2 : w2.cell? ⟨w.heap.size, 2, none⟩ = some (.int .i64 pat) := (blk_cell HX2.out 2).trans rfl
  by_cases hc : check sends routes pat = 0
  · have hcb : (check sends routes pat != (0 : Int)) = false := by rw [hc]; rfl
    have HC := Aside0.mk hc
    have V := Aside0.mk (valid_of hc)
    have hs4 := V.out.sn
    clear hc
    go_wp2_with fail
    refine (shaped73 A0 c0 sends A1 c1 routes pat A2 c2 t w2 G1.out G2.out (by omega)).mono ?_
    rintro e w3 ⟨rfl, hb⟩
    have HB3 := Aside0.mk (below_then HB2.out HB2.out.size hb)
    have HX3 := Aside0.mk (blk_below HX2.out hb)
    have G03 := Aside0.mk (Kd.C_below G0.out hb)
    have G13 := Aside0.mk (Kd.C_below G1.out hb)
    have G23 := Aside0.mk (Kd.C_below G2.out hb)
    clear hb x0 x1 x2 HX2 HB2 G0 G1 G2
    have x0 : w3.cell? ⟨w.heap.size, 0, none⟩ = some (.slice A0 sends.length c0) := (blk_cell HX3.out 0).trans rfl
    have x1 : w3.cell? ⟨w.heap.size, 1, none⟩ = some (.slice A1 routes.length c1) := (blk_cell HX3.out 1).trans rfl
    have x2 : w3.cell? ⟨w.heap.size, 2, none⟩ = some (.int .i64 pat) := (blk_cell HX3.out 2).trans rfl
    by_cases hs : shapedL sends routes t = 0
    · have hsb : (shapedL sends routes t != (0 : Int)) = false := by rw [hs]; rfl
      have HS := Aside0.mk hs
      have T := Aside0.mk (truth_of hs)
      clear hs
      go_wp2_with fail
      refine (play74 A0 c0 sends A1 c1 routes pat A2 c2 t w3 G03.out HL0.out G13.out HL1.out G23.out V.out.ok T.out.tn T.out.ln (T.out.fits V.out)).mono ?_
      rintro e w4 ⟨v, rfl, hr, hb⟩
      have HB4 := Aside0.mk (below_then HB3.out HB3.out.size hb)
      have HR := Aside0.mk (Kd.R_lower hr HB3.out.size)
      clear hr hb
      go_wp2_with fail
      go_ret2
      rw [playRes, if_neg (by rw [HC.out]; simp), if_neg (by rw [HS.out]; simp)]
      exact ⟨_, rfl, HR.out, HB4.out⟩
    · have hsb : (shapedL sends routes t != (0 : Int)) = true := by simpa using hs
      have HS := Aside0.mk hs
      clear hs
      go_wp2_with fail
      go_ret2
      rw [playRes, if_neg (by rw [HC.out]; simp), if_pos HS.out]
      exact ⟨_, rfl, Kd.R_nil _ _ _ _ _, HB3.out⟩
  · have hcb : (check sends routes pat != (0 : Int)) = true := by simpa using hc
    have HC := Aside0.mk hc
    clear hc
    go_wp2_with fail
    go_ret2
    rw [playRes, if_pos HC.out]
    exact ⟨_, rfl, Kd.R_nil _ _ _ _ _, HB2.out⟩
end Go.Proofs.Ytiephlhohgohcaa.PAll
