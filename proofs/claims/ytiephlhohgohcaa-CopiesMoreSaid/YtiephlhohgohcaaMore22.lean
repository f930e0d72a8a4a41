/- Part 22 of what the row rests on: each text as it stands among the working texts, cut to what is used; those of the print of the kit as a program printed them. -/
import Derived.Test.YtiephlhohgohcaaMore20
import Derived.Test.YtiephlhohgohcaaMore11
import Derived.Test.YtiephlhohgohcaaMore6
set_option linter.unusedVariables false
set_option linter.unusedSimpArgs false
namespace Go.Proofs.Ytiephlhohgohcaa.PAll
open Go.RowKit Go.Proofs.YtiephlhohgohcaaW.PrintWords Go.Proofs.YtiephlhohgohcaaW.PrintLast Go.Proofs.YtiephlhohgohcaaW.PrintMore
attribute [local go_sem] max2_int min2_int max_two min_two max_three min_three max_four min_four
set_option linter.unusedVariables false
set_option linter.unusedSimpArgs false
set_option maxRecDepth 100000 in
set_option maxHeartbeats 8000000 in
theorem copiesMore9 (A0 : Option Addr) (c0 : Nat) (sends : List Int) (A1 : Option Addr) (c1 : Nat) (routes : List S54) (pat : Int) (Am : Option Addr) (cm : Nat) (legs : List S101) (lossy : Bool) (w : World) (h : PostAt w A0 c0 sends A1 c1 routes) (hm : Kd.C k101 w Am legs.length legs) (hmc : legs.length ≤ cm) (hsz : routes.length * 32 ≤ 140737488351232) :
    Calls Try.prog 9 #[.agg #[.slice A0 sends.length c0, .slice A1 routes.length c1, .int .i64 pat], .agg #[.slice Am legs.length cm, .bool lossy]] w fun e w' => e = .returned (.bool true) ∧ Below w.heap.size w w' := by
  obtain ⟨rs, hrs⟩ : ∃ rs, rs = routes.map toX := ⟨_, rfl⟩
  have HRS := Aside0.mk hrs
  clear hrs
  obtain ⟨raws, hrl, hrc, hro⟩ := raw54 h.h1
  have z1 := size_new_at (w := w) (o := .cells #[.slice A0 sends.length c0, .slice A1 routes.length c1, .int .i64 pat] 25) rfl
  obtain ⟨W1, hW1⟩ : ∃ W1, W1 = (w.alloc (.cells #[.slice A0 sends.length c0, .slice A1 routes.length c1, .int .i64 pat] 25)).alloc (.cells #[.slice Am legs.length cm, .bool lossy] 54) := ⟨_, rfl⟩
  have hb1 : Below w.heap.size w W1 := hW1 ▸ ((Below.refl _ w).alloc (by simp) _).alloc (by simp) _
  have hx := (BoxAt.start w A0 c0 sends.length A1 c1 routes.length pat).later ((Below.refl _ _).alloc (by simp) (.cells #[.slice Am legs.length cm, .bool lossy] 54))
  rw [← hW1] at hx
  have hy : W1.heap[w.heap.size + 1]? = some (.cells #[.slice Am legs.length cm, .bool lossy] 54 (0, 0)) := by rw [hW1]; exact blk_new_at z1
  have zz : W1.heap.size = w.heap.size + 1 + 1 := by rw [hW1]; exact size_new_at z1
  obtain ⟨W2, hW2⟩ : ∃ W2, W2 = W1.alloc (.cells #[.slice A0 sends.length c0, .slice A1 routes.length c1, .int .i64 pat] 25) := ⟨_, rfl⟩
  have hb2 : Below W1.heap.size W1 W2 := hW2 ▸ (Below.refl _ W1).alloc (Nat.le_refl _) _
  have hg2 : W2.heap[w.heap.size + 1 + 1]? = some (.cells #[.slice A0 sends.length c0, .slice A1 routes.length c1, .int .i64 pat] 25 (0, 0)) := by rw [hW2]; exact blk_new_at zz
  have HX := Aside0.mk (hx.later hb2)
  have HY := Aside0.mk (blk_below hy hb2)
  have HG := Aside0.mk hg2
  have HP := Aside0.mk h
  have HM := Aside0.mk hm
  have HMC := Aside0.mk hmc
  have HRC := Aside0.mk hrc
  have HRL := Aside0.mk hrl
  have HRO := Aside0.mk hro
  have HW1 := Aside0.mk hW1
  have HW2 := Aside0.mk hW2
  have x0 := hx.x0
  have x1 := hx.x1
  have x2 := hx.x2
  rw [hW1] at x0 x1 x2
  clear h hx hW1 hW2 hm hmc hrl hrc hro hb1 hb2 hg2 hy zz z1
  go_enter Try.func9, Try.ntmps9
  go_upto_region 2 with fail
  rw [← HW1.out, ← HW2.out]
  obtain ⟨gm, hgm⟩ : ∃ gm, gm = w.heap.size + 1 := ⟨_, rfl⟩
  obtain ⟨gx, hgx⟩ : ∃ gx, gx = w.heap.size + 1 + 1 := ⟨_, rfl⟩
  rw [← hgx, ← hgm]
  rw [← hgm] at HY
  rw [← hgx] at HG
  have HGX : Aside0 (gx < W2.heap.size ∧ gm < W2.heap.size ∧ w.heap.size ≤ gx ∧ gx ≠ gm ∧ gx ≠ w.heap.size) := ⟨⟨blk_lt HG.out, blk_lt HY.out, by omega, by omega, by omega⟩⟩
  clear hgx hgm x0 x1 x2 HW1 HW2
  have HRC2 : Aside0 (Kd.C kr54 W2 A1 routes.length raws) := ⟨Kd.C_below HRC.out HX.out.below⟩
  obtain ⟨rm, hrm⟩ : ∃ rm : R54, rm = ⟨⟨Am, legs.length, cm⟩, lossy⟩ := ⟨_, rfl⟩
  have HRM := Aside0.mk hrm
  clear hrm
  go_cut [4] (fun s4 wx => ∃ (Ax : Option Addr) (cx : Nat), s4 = .bool false ∧ routes.length + 1 ≤ cx ∧ Aside0 (wx.heap[gx]? = some (.cells #[.slice A0 sends.length c0, .slice Ax (routes.length + 1) cx, .int .i64 pat] 25 (0, 0))) ∧ Aside0 (Kd.C kr54 wx Ax (routes.length + 1) (raws ++ [rm])) ∧ Aside0 (BoxAt w wx A0 c0 sends.length A1 c1 routes.length pat))
  case first =>
    have x1 := HX.out.x1
    have y0 : W2.cell? ⟨gm, 0, none⟩ = some (.slice Am legs.length cm) := (blk_cell HY.out 0).trans rfl
    have y1 : W2.cell? ⟨gm, 1, none⟩ = some (.bool lossy) := (blk_cell HY.out 1).trans rfl
    have KEEP : Aside0 (∀ w' : World, w'.heap[w.heap.size]? = some (.cells #[.slice A0 sends.length c0, .slice A1 routes.length c1, .int .i64 pat] 25 (0, 0)) → w'.heap[gm]? = some (.cells #[.slice Am legs.length cm, .bool lossy] 54 (0, 0)) → (w'.cell? ⟨w.heap.size, 1, none⟩ = some (.slice A1 routes.length c1) ∧ w'.cell? ⟨gm, 0, none⟩ = some (.slice Am legs.length cm) ∧ w'.cell? ⟨gm, 1, none⟩ = some (.bool lossy))) := ⟨fun w' h1 h2 => ⟨(blk_cell h1 1).trans rfl, (blk_cell h2 0).trans rfl, (blk_cell h2 1).trans rfl⟩⟩
    have KB : Aside0 (∀ w', Below W2.heap.size W2 w' → (w'.cell? ⟨w.heap.size, 1, none⟩ = some (.slice A1 routes.length c1) ∧ w'.cell? ⟨gm, 0, none⟩ = some (.slice Am legs.length cm) ∧ w'.cell? ⟨gm, 1, none⟩ = some (.bool lossy))) := ⟨fun w' hb => KEEP.out w' (blk_below HX.out.box hb) (blk_below HY.out hb)⟩
    have hq0 : Aside0 (Below W2.heap.size W2 W2.drew) := ⟨below_drew (Below.refl _ _)⟩
    have hqE : Aside0 (Below W2.heap.size W2 ((W2.alloc (.cells #[] 54)).drew)) := ⟨below_drew ((Below.refl _ _).alloc (Nat.le_refl _) _)⟩
    have hqM : Aside0 (Below W2.heap.size W2 ((W2.alloc (.cells #[.slice Am legs.length cm, .bool lossy] 54)).drew)) := ⟨below_drew ((Below.refl _ _).alloc (Nat.le_refl _) _)⟩
    have hqEM : Aside0 (Below W2.heap.size W2 (((W2.alloc (.cells #[] 54)).alloc (.cells #[.slice Am legs.length cm, .bool lossy] 54)).drew)) := ⟨below_drew (((Below.refl _ _).alloc (Nat.le_refl _) _).alloc (by simp) _)⟩
    have hqME : Aside0 (Below W2.heap.size W2 (((W2.alloc (.cells #[.slice Am legs.length cm, .bool lossy] 54)).alloc (.cells #[] 54)).drew)) := ⟨below_drew (((Below.refl _ _).alloc (Nat.le_refl _) _).alloc (by simp) _)⟩
    have sE : (W2.alloc (.cells #[] 54)).heap.size = W2.heap.size + 1 := size_new_at rfl
    have sM : (W2.alloc (.cells #[.slice Am legs.length cm, .bool lossy] 54)).heap.size = W2.heap.size + 1 := size_new_at rfl
    go_region_held3 (fun w' => w'.cell? ⟨w.heap.size, 1, none⟩ = some (.slice A1 routes.length c1) ∧ w'.cell? ⟨gm, 0, none⟩ = some (.slice Am legs.length cm) ∧ w'.cell? ⟨gm, 1, none⟩ = some (.bool lossy))
      (first
        | exact KB.out _ hq0.out
        | exact KB.out _ hqE.out
        | exact KB.out _ hqM.out
        | exact KB.out _ hqEM.out
        | exact KB.out _ hqME.out
        | exact KB.out _ hq6.out
        | exact KB.out _ hq3.out
        | exact KB.out _ (hq3.out.alloc hq3.out.size _)
        | exact KEEP.out _ (blk_far (blk_below HX.out.box hq6.out) HGX.out.2.2.2.2.symm _) (blk_far (blk_below HY.out hq6.out) HGX.out.2.2.2.1.symm _))
      (first
        | (refine Kd.R_append_rows_step kr54 (Rr := kr54.K ((W2.alloc (.cells #[] 54)).drew)) (w0 := W2) W2.heap.size (by rfl) (.tmp 16) (.tmp 18) 23 54 (.agg #[.slice none 0 0, .bool false]) 32 (by rfl) u23row inforow54 rfl (by decide) (by omega) (.slice (some ⟨W2.heap.size, 0, none⟩) 0 0) [] raws A1 routes.length c1 (fun _ => True) (fun _ => False) (by first | rfl | (simp only [sE, sM]; rfl)) (by rfl) (R_empty_at kr54 54 (blk_drew (blk_new _ _)) (Nat.le_refl _)) (Kd.C_below HRC2.out hqE.out) (fun x cs hx => by rw [kr54_open hx]; exact kr54_mkM _ _ _ x) (fun _ hk => hk.elim) (fun _ _ => trivial) hqE.out hqE.out.size (by simp; omega) ?_; intro v3 w3 hr3 hb3 hg3 hat3; have HR3 := Aside0.mk hr3; have hq3 := Aside0.mk hb3;  clear hr3 hb3 hg3 hat3)
        | (refine Kd.R_append_rows_step kr54 (Rr := kr54.K (((W2.alloc (.cells #[] 54)).alloc (.cells #[.slice Am legs.length cm, .bool lossy] 54)).drew)) (w0 := W2) W2.heap.size (by rfl) (.tmp 16) (.tmp 18) 23 54 (.agg #[.slice none 0 0, .bool false]) 32 (by rfl) u23row inforow54 rfl (by decide) (by omega) (.slice (some ⟨W2.heap.size, 0, none⟩) 0 0) [] raws A1 routes.length c1 (fun _ => True) (fun _ => False) (by first | rfl | (simp only [sE, sM]; rfl)) (by rfl) (R_empty_at kr54 54 (blk_drew (blk_alloc (blk_new _ _) _)) (Nat.le_refl _)) (Kd.C_below HRC2.out hqEM.out) (fun x cs hx => by rw [kr54_open hx]; exact kr54_mkM _ _ _ x) (fun _ hk => hk.elim) (fun _ _ => trivial) hqEM.out hqEM.out.size (by simp; omega) ?_; intro v3 w3 hr3 hb3 hg3 hat3; have HR3 := Aside0.mk hr3; have hq3 := Aside0.mk hb3; have HM3 := Aside0.mk (blk_grown (blk_drew (blk_new (W2.alloc (.cells #[] 54)) (.cells #[.slice Am legs.length cm, .bool lossy] 54))) hg3 (by simp [Value.ownBlock, sE])); clear hr3 hb3 hg3 hat3)
        | (refine Kd.R_append_rows_step kr54 (Rr := kr54.K (((W2.alloc (.cells #[.slice Am legs.length cm, .bool lossy] 54)).alloc (.cells #[] 54)).drew)) (w0 := W2) W2.heap.size (by rfl) (.tmp 16) (.tmp 18) 23 54 (.agg #[.slice none 0 0, .bool false]) 32 (by rfl) u23row inforow54 rfl (by decide) (by omega) (.slice (some ⟨(W2.alloc (.cells #[.slice Am legs.length cm, .bool lossy] 54)).heap.size, 0, none⟩) 0 0) [] raws A1 routes.length c1 (fun _ => True) (fun _ => False) (by first | rfl | (simp only [sE, sM]; rfl)) (by rfl) (R_empty_at kr54 54 (blk_drew (blk_new _ _)) (by simp)) (Kd.C_below HRC2.out hqME.out) (fun x cs hx => by rw [kr54_open hx]; exact kr54_mkM _ _ _ x) (fun _ hk => hk.elim) (fun _ _ => trivial) hqME.out hqME.out.size (by simp; omega) ?_; intro v3 w3 hr3 hb3 hg3 hat3; have HR3 := Aside0.mk hr3; have hq3 := Aside0.mk hb3; have HM3 := Aside0.mk (blk_grown (blk_drew (blk_alloc (blk_new W2 (.cells #[.slice Am legs.length cm, .bool lossy] 54)) (.cells #[] 54))) hg3 (by simp [Value.ownBlock, sM])); clear hr3 hb3 hg3 hat3)
        | (refine kd_append_plain kr54 (w0 := W2) (W := w3) W2.heap.size (by rfl) (.tmp 19) (.tmp 21) 23 54 (.agg #[.slice none 0 0, .bool false]) 32 (by rfl) u23row inforow54 rfl (by decide) v3 ([] ++ raws) rm [.slice Am legs.length cm, .bool lossy] (by rfl) (by rfl) (fun _ => False) (by rw [HRM.out]; exact kr54_mkM _ _ _ ⟨⟨Am, legs.length, cm⟩, lossy⟩) (fun _ hk => hk.elim) HR3.out hq3.out hq3.out.size (by have := HRL.out; simp; omega) (by have := HRL.out; simp; unfold maxLen; omega) ?_; intro g6 c6 w6 hr6 hb6 hg6; have HR6 := Aside0.mk hr6; have hq6 := Aside0.mk hb6; have hg6' := blk_below HG.out hb6; have f1 := blk_frozen hg6' 1; have q1 := (blk_cell hg6' 1).trans rfl; have HG6 := Aside0.mk hg6'; clear hr6 hb6 hg6 hg6')
        | (refine kd_append_at kr54 (w0 := W2) W2.heap.size (by rfl) (.tmp 19) (.tmp 21) 23 54 (.agg #[.slice none 0 0, .bool false]) 32 (by rfl) u23row inforow54 rfl (by decide) v3 ([] ++ raws) rm [.slice Am legs.length cm, .bool lossy] ((W2.alloc (.cells #[] 54)).heap.size) (by rfl) (by first | rfl | (simp only [sE, sM]; rfl)) HM3.out (fun _ => False) (by rw [HRM.out]; exact kr54_mkM _ _ _ ⟨⟨Am, legs.length, cm⟩, lossy⟩) (fun _ hk => hk.elim) HR3.out hq3.out hq3.out.size (by have := HRL.out; simp; omega) (by have := HRL.out; simp; unfold maxLen; omega) ?_; intro g6 c6 w6 hr6 hb6 hg6; have HR6 := Aside0.mk hr6; have hq6 := Aside0.mk hb6; have hg6' := blk_below HG.out hb6; have f1 := blk_frozen hg6' 1; have q1 := (blk_cell hg6' 1).trans rfl; have HG6 := Aside0.mk hg6'; clear hr6 hb6 hg6 hg6')
        | (refine kd_append_at kr54 (w0 := W2) W2.heap.size (by rfl) (.tmp 19) (.tmp 21) 23 54 (.agg #[.slice none 0 0, .bool false]) 32 (by rfl) u23row inforow54 rfl (by decide) v3 ([] ++ raws) rm [.slice Am legs.length cm, .bool lossy] (W2.heap.size) (by rfl) (by first | rfl | (simp only [sE, sM]; rfl)) HM3.out (fun _ => False) (by rw [HRM.out]; exact kr54_mkM _ _ _ ⟨⟨Am, legs.length, cm⟩, lossy⟩) (fun _ hk => hk.elim) HR3.out hq3.out hq3.out.size (by have := HRL.out; simp; omega) (by have := HRL.out; simp; unfold maxLen; omega) ?_; intro g6 c6 w6 hr6 hb6 hg6; have HR6 := Aside0.mk hr6; have hq6 := Aside0.mk hb6; have hg6' := blk_below HG.out hb6; have f1 := blk_frozen hg6' 1; have q1 := (blk_cell hg6' 1).trans rfl; have HG6 := Aside0.mk hg6'; clear hr6 hb6 hg6 hg6'))
    all_goals (go_wp2_with fail; go_meet)
    all_goals
      have hF := R_far HR6.out HG6.out (by decide) 1 (.slice (some ⟨g6, 0, none⟩) (routes.length + 1) c6)
      obtain ⟨A6, c7, hv6, hl6, hC6⟩ := Kd.R_reads hF
      injection hv6 with e1 e2 e3
      subst e1
      subst e3
      have hlen : ([] ++ raws ++ [rm]).length = routes.length + 1 := by simp [HRL.out]
      rw [hlen] at hl6 hC6
      have hset := blk_set HG6.out 1 (.slice (some ⟨g6, 0, none⟩) (routes.length + 1) c6)
      rw [HRL.out]
      exact ⟨some ⟨g6, 0, none⟩, c6, rfl, hl6, ⟨hset⟩, ⟨hC6⟩, ⟨⟨(below_then HX.out.below HX.out.below.size hq6.out).setCell (p := ⟨gx, 1, none⟩) HGX.out.2.2.1 _, blk_far (blk_below HX.out.box hq6.out) HGX.out.2.2.2.2.symm _⟩⟩⟩
  case rest =>
    obtain ⟨Ax, cx, rfl, hlx, HGc, HCx, HXc⟩ := hcut
    obtain ⟨wx, rfl⟩ : ∃ wx : World, wx = wc := ⟨_, rfl⟩
    have HO' : Aside0 (∀ i (hi : i < routes.length), ∃ x, raws[i]? = some x ∧ Of54 wx routes[i] x) := ⟨fun i hi => by
      obtain ⟨x, h1, h2⟩ := HRO.out i hi
      exact ⟨x, h1, h2.below HXc.out.below⟩⟩
    have HPX : Aside0 (PostAt wx A0 c0 sends Ax cx (routes ++ [⟨legs, lossy⟩])) := ⟨⟨Kd.C_below HP.out.h0 HXc.out.below, HP.out.l0, of54 (by simpa using HCx.out) rfl (fun i hi => by
      by_cases e : i < routes.length
      · obtain ⟨x, h1, h2⟩ := HO'.out i e
        exact ⟨x, by rw [List.getElem?_append_left (by have := HRL.out; omega)]; exact h1, by rw [List.getElem_append_left e]; exact h2⟩
      · have hi' : i = routes.length := by simp at hi; omega
        subst hi'
        refine ⟨rm, by rw [← HRL.out, List.getElem?_append_right (Nat.le_refl _)]; simp, ?_⟩
        rw [List.getElem_append_right (Nat.le_refl _)]
        simp only [Nat.sub_self, List.getElem_cons_zero]
        rw [HRM.out]
        exact ⟨rfl, HMC.out, Kd.C_below HM.out HXc.out.below, rfl⟩), by simpa using hlx⟩⟩
    have hln : (routes ++ [(⟨legs, lossy⟩ : S54)]).length = routes.length + 1 := by simp
    have HLN := Aside0.mk hln
    obtain ⟨rx, hrx⟩ : ∃ rx, rx = (routes ++ [(⟨legs, lossy⟩ : S54)]).map toX := ⟨_, rfl⟩
    have HRX := Aside0.mk hrx
    replace HGc := Aside0.mk (by have := HGc.out; rw [← hln] at this; exact this)
    have HRE : Aside0 (rx = rs ++ [toX ⟨legs, lossy⟩]) := ⟨by rw [hrx, HRS.out, List.map_append]; rfl⟩
    generalize routes ++ [(⟨legs, lossy⟩ : S54)] = xs at HPX HLN HRX HGc HRE hln
    clear hrx hln HRC2 HCx HM HMC HRC HRL HRO HRM HO' HX HY HG
    have x0 := HXc.out.x0
    have x1 := HXc.out.x1
    have x2 := HXc.out.x2
    have HXx := HXc
    have HGx := HGc
    have HPXx := HPX
    clear HXc HGc HPX
    go_wp2_with fail
    refine (ready54 A0 c0 sends A1 c1 routes pat rs wx HRS.out (HP.out.below HXx.out.below)).mono ?_
    rintro e w4 ⟨rfl, hb⟩
    have HX4 := Aside0.mk (HXx.out.later hb)
    have HG4 := Aside0.mk (blk_below HGx.out hb)
    have HPX4 := Aside0.mk (HPXx.out.below hb)
    clear hb HXx HGx HPXx x0 x1 x2
    cases hrd : (thinB sends routes && check sends rs pat == 0) with
    | false =>
      clear hrd
      go_wp2_with fail
      refine (awake20 w4).mono ?_
      rintro e w5 ⟨rfl, hb⟩
      have HX5 := Aside0.mk (HX4.out.later hb)
      have HG5 := Aside0.mk (blk_below HG4.out hb)
      have HPX5 := Aside0.mk (HPX4.out.below hb)
      clear hb HX4 HG4 HPX4
      go_wp2_with fail
      go_ret
      exact ⟨rfl, HX5.out.below⟩
    | true =>
      rw [Bool.and_eq_true, beq_iff_eq] at hrd
      have HTH := Aside0.mk hrd.1
      have HCK := Aside0.mk hrd.2
      have hsl := (valid_of hrd.2).sn
      clear hrd
      have g0 : w4.cell? ⟨gx, 0, none⟩ = some (.slice A0 sends.length c0) := (blk_cell HG4.out 0).trans rfl
      have g1 : w4.cell? ⟨gx, 1, none⟩ = some (.slice Ax xs.length cx) := (blk_cell HG4.out 1).trans rfl
      have g2 : w4.cell? ⟨gx, 2, none⟩ = some (.int .i64 pat) := (blk_cell HG4.out 2).trans rfl
      go_wp2_with fail
      refine (ready54 A0 c0 sends Ax cx xs pat rx w4 HRX.out HPX4.out).mono ?_
      rintro e w5 ⟨rfl, hb⟩
      have HX5 := Aside0.mk (HX4.out.later hb)
      have HG5 := Aside0.mk (blk_below HG4.out hb)
      have HPX5 := Aside0.mk (HPX4.out.below hb)
      clear hb HX4 HG4 HPX4 g0 g1 g2
      cases hrd : (thinB sends xs && check sends rx pat == 0) with
      | false =>
        clear hrd
        go_wp2_with fail
        refine (awake20 w5).mono ?_
        rintro e w6 ⟨rfl, hb⟩
        have HX6 := Aside0.mk (HX5.out.later hb)
        have HG6 := Aside0.mk (blk_below HG5.out hb)
        have HPX6 := Aside0.mk (HPX5.out.below hb)
        clear hb HX5 HG5 HPX5
        go_wp2_with fail
        go_ret
        exact ⟨rfl, HX6.out.below⟩
      | true =>
        rw [Bool.and_eq_true, beq_iff_eq] at hrd
        have HTX := Aside0.mk hrd.1
        have HCX := Aside0.mk hrd.2
        clear hrd
        have x0 := HX5.out.x0
        have x1 := HX5.out.x1
        have x2 := HX5.out.x2
        go_wp2_with fail
        refine (post22_thin pat HRS.out (HP.out.below HX5.out.below) HTH.out).mono ?_
        rintro e w6 ⟨Ap, cp, Aq, cq, rfl, hp, hb⟩
        have HPP := Aside0.mk hp
        have HX6 := Aside0.mk (HX5.out.later hb)
        have HG6 := Aside0.mk (blk_below HG5.out hb)
        have HPX6 := Aside0.mk (HPX5.out.below hb)
        clear hb HX5 HG5 HPX5 hp x0 x1 x2
        go_wp2_with fail
        have hct := spans33 Ap cp sends Aq cq rs pat w6 HPP.out.h0 HPP.out.l0 HPP.out.h1 HPP.out.l1
        rw [spansRes, if_neg (by rw [HCK.out]; exact fun e => e rfl)] at hct
        refine (hct).mono ?_
        rintro e w7 ⟨vj, rfl, hr, hb⟩
        obtain ⟨AS, cS, rfl, hlj, hCj⟩ := Kd.R_reads hr
        have HS7 := Aside0.mk hCj
        have HLS := Aside0.mk hlj
        have HX7 := Aside0.mk (HX6.out.later hb)
        have HG7 := Aside0.mk (blk_below HG6.out hb)
        have HPX7 := Aside0.mk (HPX6.out.below hb)
        clear hb HX6 HG6 HPX6 hr hlj hCj HPP hct
        dsimp only at HS7 HLS ⊢
        have g0 : w7.cell? ⟨gx, 0, none⟩ = some (.slice A0 sends.length c0) := (blk_cell HG7.out 0).trans rfl
        have g1 : w7.cell? ⟨gx, 1, none⟩ = some (.slice Ax xs.length cx) := (blk_cell HG7.out 1).trans rfl
        have g2 : w7.cell? ⟨gx, 2, none⟩ = some (.int .i64 pat) := (blk_cell HG7.out 2).trans rfl
        go_wp2_with fail
        refine (post22_thin pat HRX.out HPX7.out HTX.out).mono ?_
        rintro e w8 ⟨Ap, cp, Aq, cq, rfl, hp, hb⟩
        have HPP := Aside0.mk hp
        have HX8 := Aside0.mk (HX7.out.later hb)
        have HG8 := Aside0.mk (blk_below HG7.out hb)
        have HPX8 := Aside0.mk (HPX7.out.below hb)
        have HS8 := Aside0.mk (Kd.C_below HS7.out hb)
        clear hb HX7 HG7 HPX7 HS7 hp g0 g1 g2
        go_wp2_with fail
        have hct := spans33 Ap cp sends Aq cq rx pat w8 HPP.out.h0 HPP.out.l0 HPP.out.h1 HPP.out.l1
        rw [spansRes, if_neg (by rw [HCX.out]; exact fun e => e rfl)] at hct
        refine (hct).mono ?_
        rintro e w9 ⟨vj, rfl, hr, hb⟩
        obtain ⟨AU, cU, rfl, hlj, hCj⟩ := Kd.R_reads hr
        have HU9 := Aside0.mk hCj
        have HLU := Aside0.mk hlj
        have HX9 := Aside0.mk (HX8.out.later hb)
        have HG9 := Aside0.mk (blk_below HG8.out hb)
        have HPX9 := Aside0.mk (HPX8.out.below hb)
        have HS9 := Aside0.mk (Kd.C_below HS8.out hb)
        clear hb HX8 HG8 HPX8 HS8 hr hlj hCj HPP hct
        dsimp only at HU9 HLU ⊢
        have x0 := HX9.out.x0
        have x1 := HX9.out.x1
        have x2 := HX9.out.x2
        go_wp2_with fail
        refine (post22_thin pat HRS.out (HP.out.below HX9.out.below) HTH.out).mono ?_
        rintro e w10 ⟨Ap, cp, Aq, cq, rfl, hp, hb⟩
        have HPP := Aside0.mk hp
        have HX10 := Aside0.mk (HX9.out.later hb)
        have HG10 := Aside0.mk (blk_below HG9.out hb)
        have HPX10 := Aside0.mk (HPX9.out.below hb)
        have HS10 := Aside0.mk (Kd.C_below HS9.out hb)
        have HU10 := Aside0.mk (Kd.C_below HU9.out hb)
        clear hb HX9 HG9 HPX9 HS9 HU9 hp x0 x1 x2
        go_wp2_with fail
        have hct := surely34 Ap cp sends Aq cq rs pat w10 HPP.out.h0 HPP.out.l0 HPP.out.h1 HPP.out.l1
        rw [surelyRes, if_neg (by rw [HCK.out]; exact fun e => e rfl)] at hct
        refine (hct).mono ?_
        rintro e w11 ⟨vj, rfl, hr, hb⟩
        obtain ⟨AI, cI, rfl, hlj, hCj⟩ := Kd.R_reads hr
        have HI11 := Aside0.mk hCj
        have HLI := Aside0.mk hlj
        have HX11 := Aside0.mk (HX10.out.later hb)
        have HG11 := Aside0.mk (blk_below HG10.out hb)
        have HPX11 := Aside0.mk (HPX10.out.below hb)
        have HS11 := Aside0.mk (Kd.C_below HS10.out hb)
        have HU11 := Aside0.mk (Kd.C_below HU10.out hb)
        clear hb HX10 HG10 HPX10 HS10 HU10 hr hlj hCj HPP hct
        dsimp only at HI11 HLI ⊢
        have g0 : w11.cell? ⟨gx, 0, none⟩ = some (.slice A0 sends.length c0) := (blk_cell HG11.out 0).trans rfl
        have g1 : w11.cell? ⟨gx, 1, none⟩ = some (.slice Ax xs.length cx) := (blk_cell HG11.out 1).trans rfl
        have g2 : w11.cell? ⟨gx, 2, none⟩ = some (.int .i64 pat) := (blk_cell HG11.out 2).trans rfl
        go_wp2_with fail
        refine (post22_thin pat HRX.out HPX11.out HTX.out).mono ?_
        rintro e w12 ⟨Ap, cp, Aq, cq, rfl, hp, hb⟩
        have HPP := Aside0.mk hp
        have HX12 := Aside0.mk (HX11.out.later hb)
        have HG12 := Aside0.mk (blk_below HG11.out hb)
        have HPX12 := Aside0.mk (HPX11.out.below hb)
        have HS12 := Aside0.mk (Kd.C_below HS11.out hb)
        have HU12 := Aside0.mk (Kd.C_below HU11.out hb)
        have HI12 := Aside0.mk (Kd.C_below HI11.out hb)
        clear hb HX11 HG11 HPX11 HS11 HU11 HI11 hp g0 g1 g2
        go_wp2_with fail
        have hct := surely34 Ap cp sends Aq cq rx pat w12 HPP.out.h0 HPP.out.l0 HPP.out.h1 HPP.out.l1
        rw [surelyRes, if_neg (by rw [HCX.out]; exact fun e => e rfl)] at hct
        refine (hct).mono ?_
        rintro e w13 ⟨vj, rfl, hr, hb⟩
        obtain ⟨AJ, cJ, rfl, hlj, hCj⟩ := Kd.R_reads hr
        have HJ13 := Aside0.mk hCj
        have HLJ := Aside0.mk hlj
        have HX13 := Aside0.mk (HX12.out.later hb)
        have HG13 := Aside0.mk (blk_below HG12.out hb)
        have HPX13 := Aside0.mk (HPX12.out.below hb)
        have HS13 := Aside0.mk (Kd.C_below HS12.out hb)
        have HU13 := Aside0.mk (Kd.C_below HU12.out hb)
        have HI13 := Aside0.mk (Kd.C_below HI12.out hb)
        clear hb HX12 HG12 HPX12 HS12 HU12 HI12 hr hlj hCj HPP hct
        dsimp only at HJ13 HLJ ⊢
        have HSL : Aside0 ((spansL sends rs pat sends.length).length = sends.length) := ⟨spansL_len sends rs pat sends.length⟩
        have HUL : Aside0 ((spansL sends rx pat sends.length).length = sends.length) := ⟨spansL_len sends rx pat sends.length⟩
        rw [HSL.out] at HS13
        rw [HUL.out] at HU13
        rw [HSL.out, HUL.out]
        have HSP : Aside0 (∀ i : Nat, i < sends.length → (rd_T68 (spansL sends rx pat sends.length) (i : Int)).f0 ≤ (rd_T68 (spansL sends rs pat sends.length) (i : Int)).f0 ∧ (rd_T68 (spansL sends rx pat sends.length) (i : Int)).f1 ≤ (rd_T68 (spansL sends rs pat sends.length) (i : Int)).f1) := ⟨fun i hi => by
          have e1 : ∀ r, rd_T68 (spansL sends r pat sends.length) (i : Int) = spanAt sends r pat i := fun r => by
            rw [rd_T68, Int.toNat_natCast, spansL]
            simp [List.getD, hi]
          rw [e1, e1, HRE.out]
          exact span_more sends rs _ pat i⟩
        have HIN : Aside0 ((sureL sends rs pat sends.length).all (fun n => (sureL sends rx pat sends.length).any (· == n)) = true) := ⟨by
          rw [List.all_eq_true]
          intro n hn
          rw [List.any_eq_true]
          exact ⟨n, by rw [HRE.out]; exact sure_more hn, by simp⟩⟩
        have hil := sureL_len sends rs pat sends.length
        have hjl := sureL_len sends rx pat sends.length
        have HIL := Aside0.mk hil
        have HJL := Aside0.mk hjl
        clear hil hjl
        generalize sureL sends rs pat sends.length = li at HI13 HLI HIN HIL ⊢
        generalize sureL sends rx pat sends.length = lj at HJ13 HLJ HIN HJL ⊢
        generalize spansL sends rs pat sends.length = ls at HS13 HSP HLS HSL
        generalize spansL sends rx pat sends.length = lu at HU13 HSP HLU HUL
        obtain ⟨kf, hkf⟩ := inside_f li lj (by have := HIL.out; omega) (by have := HJL.out; omega)
        have HKF := Aside0.mk hkf
        clear hkf
        go_wp2_with fail
        refine (glisterlaw05_inside.calls kf AI cI li AJ cJ lj true w13 HI13.out HLI.out HJ13.out HLJ.out (by rw [HKF.out, HIN.out])).mono ?_
        rintro e w90 ⟨rfl, hdr⟩
        have hb : Below w13.heap.size w13 w90 := by obtain ⟨k, rfl⟩ := hdr; exact pw_below_drewN (Below.refl _ _) k
        have HX90 := Aside0.mk (HX13.out.later hb)
        have HS90 := Aside0.mk (Kd.C_below HS13.out hb)
        have HU90 := Aside0.mk (Kd.C_below HU13.out hb)
        clear hb hdr HX13 HS13 HU13 HI13 HJ13 HG13 HPX13
        go_wp2_with fail
        go_loopg [14] sends.length (fun gg s14 wr => ∃ k : Nat, k ≤ sends.length ∧ sends.length - k ≤ gg ∧ s14 = .int .i64 k ∧ Aside0 (Below w90.heap.size w90 wr))
        case atStart => exact ⟨0, by omega, by omega, rfl, ⟨Below.refl _ _⟩⟩
        case round =>
          obtain ⟨k, hk, hgk, rfl, HBi⟩ := hrel
          obtain ⟨wn, rfl⟩ : ∃ wn : World, wn = wr := ⟨_, rfl⟩
          by_cases hlt : k < sends.length
          · have hltz : (k : Int) < (sends.length : Int) := by omega
            obtain ⟨adi, eai, i0, i1⟩ := at_T68 (Kd.C_below HS90.out HBi.out) (k : Int) (by omega) hltz
            obtain ⟨adj, eaj, j0, j1⟩ := at_T68 (Kd.C_below HU90.out HBi.out) (k : Int) (by omega) hltz
            cases eai
            cases eaj
            rw [Int.toNat_natCast] at i0 i1 j0 j1
            have hpt := HSP.out k hlt
            generalize rd_T68 ls (k : Int) = ei at i0 i1 hpt
            generalize rd_T68 lu (k : Int) = ej at j0 j1 hpt
            obtain ⟨ilo, ihi⟩ := ei
            obtain ⟨jlo, jhi⟩ := ej
            dsimp only at i0 i1 j0 j1 hpt
            have hle : ¬ ilo < jlo := by omega
            have hle2 : ¬ ihi < jhi := by omega
            have hd : decide (ilo < jlo) = false := decide_eq_false hle
            have hd2 : decide (ihi < jhi) = false := decide_eq_false hle2
            clear hpt
            go_wp2_with fail
            go_quiet (fail)
            go_wp2_with fail
            go_roundg (sends.length - (k + 1))
            case measure => omega
            case rel => exact ⟨k + 1, by omega, by omega, by go_num, ⟨by first | exact HBi.out | exact pw_below_drewN HBi.out _⟩⟩
          · have hltz : ¬ (k : Int) < (sends.length : Int) := by omega
            go_wp2_with fail
            refine (awake20 wn).mono ?_
            rintro e wz ⟨rfl, hb⟩
            have HZ := Aside0.mk ((HX90.out.later HBi.out).later hb)
            clear hb
            go_wp2_with fail
            go_ret
            exact ⟨rfl, HZ.out.below⟩
end Go.Proofs.Ytiephlhohgohcaa.PAll
