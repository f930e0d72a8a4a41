/- Part 23 of what the row rests on: each text as it stands among the working texts, cut to what is used; those of the print of the kit as a program printed them. -/
import Derived.Test.YtiephlhohgohcaaAwake20
import Derived.Test.YtiephlhohgohcaaAwake22
import Derived.IntWalk
set_option linter.unusedVariables false
set_option linter.unusedSimpArgs false
namespace Go.Proofs.Ytiephlhohgohcaa.PAll
open Go.RowKit Go.Proofs.YtiephlhohgohcaaW.PrintWords Go.Proofs.YtiephlhohgohcaaW.PrintLast Go.Proofs.YtiephlhohgohcaaW.PrintMore
attribute [local go_sem] max2_int min2_int max_two min_two max_three min_three max_four min_four
set_option linter.unusedVariables false
set_option linter.unusedSimpArgs false
theorem kr54_KM {w : World} {base : Nat} {ok : Nat → Prop} : ∀ x cs, kr54.K w x cs → kr54.M w base ok x cs := fun x cs h => (kr54_open h) ▸ kr54_mkM _ _ _ x
theorem kr101_KM {w : World} {base : Nat} {ok : Nat → Prop} : ∀ x cs, kr101.K w x cs → kr101.M w base ok x cs := fun x cs h => (kr101_open h) ▸ kr101_mkM _ _ _ x
theorem tmod_of {b : Int} (hb : 0 ≤ b ∧ b ≤ 255) {m : Nat} (hm : 0 < m) : ∃ i : Nat, (wrap64 b).tmod (m : Int) = (i : Int) ∧ b.tmod (m : Int) = (i : Int) ∧ b % (m : Int) = (i : Int) ∧ i < m := by
  have e : Int.tmod b (m : Int) = b % (m : Int) := Int.tmod_eq_emod_of_nonneg hb.1
  have h1 := Int.emod_nonneg b (show (m : Int) ≠ 0 by omega)
  have h2 := Int.emod_lt_of_pos b (show 0 < (m : Int) by omega)
  have h3 : wrap64 b = b := by unfold wrap64; omega
  exact ⟨(b % (m : Int)).toNat, by rw [h3, e]; omega, by rw [e]; omega, by omega, by omega⟩
set_option maxRecDepth 100000 in
set_option maxHeartbeats 16000000 in
theorem copiesAwake12 (A0 : Option Addr) (c0 : Nat) (sends : List Int) (A1 : Option Addr) (c1 : Nat) (routes : List S54) (pat : Int) (b c : Int) (w : World) (h : PostAt w A0 c0 sends A1 c1 routes) (hb' : (Lit.int .u8 b).wf = true) (hc' : (Lit.int .u8 c).wf = true) :
    Calls Try.prog 12 #[.agg #[.slice A0 sends.length c0, .slice A1 routes.length c1, .int .i64 pat], .int .u8 b, .int .u8 c] w fun e w' => e = .returned (.bool true) ∧ Below w.heap.size w w' := by
  obtain ⟨rs, hrs⟩ : ∃ rs, rs = routes.map toX := ⟨_, rfl⟩
  have HRS := Aside0.mk hrs
  have HBU := Aside0.mk (u8_of hb')
  have HCU := Aside0.mk (u8_of hc')
  clear hrs hb' hc'
  obtain ⟨W1, hW1⟩ : ∃ W1, W1 = w.alloc (.cells #[.slice A0 sends.length c0, .slice A1 routes.length c1, .int .i64 pat] 25) := ⟨_, rfl⟩
  have hx := BoxAt.start w A0 c0 sends.length A1 c1 routes.length pat
  rw [← hW1] at hx
  have HX1 := Aside0.mk hx
  have HP := Aside0.mk h
  have x0 := hx.x0
  have x1 := hx.x1
  have x2 := hx.x2
  have HW1 := Aside0.mk hW1
  clear h hx hW1
  go_enter Try.func12, Try.ntmps12
  go_wp2_with fail
  rw [← HW1.out]
  clear HW1
  refine (ready54 A0 c0 sends A1 c1 routes pat rs W1 HRS.out (HP.out.below HX1.out.below)).mono ?_
  rintro e w2 ⟨rfl, hb⟩
  have HX2 := Aside0.mk (HX1.out.later hb)
  clear hb HX1 x0 x1 x2
  cases hrd : (thinB sends routes && check sends rs pat == 0) with
  | false =>
    clear hrd
    go_wp2_with fail
    refine (awake20 w2).mono ?_
    rintro e w3 ⟨rfl, hb⟩
    have HX3 := Aside0.mk (HX2.out.later hb)
    clear hb HX2
    go_wp2_with fail
    go_ret
    exact ⟨rfl, HX3.out.below⟩
  | true =>
    rw [Bool.and_eq_true, beq_iff_eq] at hrd
    have HTH := Aside0.mk hrd.1
    have HCK := Aside0.mk hrd.2
    have HV := Aside0.mk (valid_of hrd.2)
    have hs4 := (valid_of hrd.2).sn
    have hs1 := (valid_of hrd.2).s1
    have hr3 : routes.length ≤ 3 := by have h := HV.out.rn; rw [HRS.out, List.length_map] at h; exact h
    have hr1 : 0 < routes.length := by have h := HV.out.r1; rw [HRS.out, List.length_map] at h; exact h
    clear hrd
    obtain ⟨i, hi1, hi2, hi3, hil⟩ := tmod_of HBU.out hs1
    obtain ⟨r, hq1, hq2, hq3, hrl⟩ := tmod_of HCU.out hr1
    have hnz : ((sends.length : Int) == 0) = false := beq_eq_false_iff_ne.2 (by omega)
    have hnz2 : ¬ (sends.length : Int) = 0 := by omega
    have hnz3 : ((routes.length : Int) == 0) = false := beq_eq_false_iff_ne.2 (by omega)
    have hnz4 : ¬ (routes.length : Int) = 0 := by omega
    have x0 := HX2.out.x0
    have x1 := HX2.out.x1
    have x2 := HX2.out.x2
    go_wp2_with fail
    go_quiet (fail)
    clear hi1 hi2 hi3 hq1 hq2 hq3 hnz hnz2 hnz3 hnz4 x0 x1 x2
    have hqq : Below w2.heap.size w2 (w2.drewN nq) := pw_below_drewN (Below.refl _ _) nq
    have HX3 := Aside0.mk (HX2.out.later hqq)
    clear hqq HX2
    generalize w2.drewN nq = w3 at HX3 ⊢
    have hilz : (i : Int) < (sends.length : Int) := by omega
    have hrlz : (r : Int) < (routes.length : Int) := by omega
    obtain ⟨raws, hrwl, hrc, hro⟩ := raw54 (HP.out.below HX3.out.below).h1
    have HRWL := Aside0.mk hrwl
    have HRO := Aside0.mk hro
    have HRC3 := Aside0.mk hrc
    obtain ⟨gx, hgx⟩ : ∃ gx, gx = w3.heap.size := ⟨_, rfl⟩
    obtain ⟨W4, hW4⟩ : ∃ W4, W4 = w3.alloc (.cells #[.slice A0 sends.length c0, .slice A1 routes.length c1, .int .i64 pat] 25) := ⟨_, rfl⟩
    have hb4 : Below w3.heap.size w3 W4 := hW4 ▸ (Below.refl _ w3).alloc (Nat.le_refl _) _
    have hg4 : W4.heap[gx]? = some (.cells #[.slice A0 sends.length c0, .slice A1 routes.length c1, .int .i64 pat] 25 (0, 0)) := by rw [hW4, hgx]; exact blk_new _ _
    have hz4 : W4.heap.size = w3.heap.size + 1 := by rw [hW4]; exact size_new_at rfl
    obtain ⟨W5, hW5⟩ : ∃ W5, W5 = W4.alloc (.cells #[] 54) := ⟨_, rfl⟩
    have hb5 : Below W4.heap.size W4 W5 := hW5 ▸ (Below.refl _ W4).alloc (Nat.le_refl _) _
    have HX5 := Aside0.mk ((HX3.out.later hb4).later hb5)
    have HG5 := Aside0.mk (blk_below hg4 hb5)
    have HB5 := Aside0.mk (below_then hb4 hb4.size hb5)
    have HE5 := Aside0.mk (show W5.heap[w3.heap.size + 1]? = some (.cells #[] 54 (0, 0)) from by rw [hW5, ← hz4]; exact blk_new _ _)
    have HRC5 := Aside0.mk (Kd.C_below hrc HB5.out)
    have HGX := Aside0.mk hgx
    clear hgx
    have x0 := HX3.out.x0
    have x1 := HX3.out.x1
    have x2 := HX3.out.x2
    have x1' := pw_cell_below hb4 x1
    have x1'' := pw_cell_below HB5.out x1
    rw [hW4] at x1'
    rw [hW5, hW4] at x1''
    have HWW : Aside0 (W5 = (w3.alloc (.cells #[.slice A0 sends.length c0, .slice A1 routes.length c1, .int .i64 pat] 25)).alloc (.cells #[] 54)) := ⟨by rw [hW5, hW4]⟩
    clear hrwl hrc hro hb4 hg4 hz4 hb5 hW4 hW5
    go_upto_region 5 with fail
    go_wp2_with (at_builtin; go_loud (rw [← HWW.out]; refine Kd.R_append_rows kr54 (Rr := kr54.K W5) (w0 := w3) w3.heap.size rfl (.tmp 36) (.tmp 38) 23 54 (.agg #[.slice none 0 0, .bool false]) 32 rfl u23row inforow54 rfl (by decide) (by omega) (.slice (some ⟨w3.heap.size + 1, 0, none⟩) 0 0) [] raws A1 routes.length c1 (fun _ => True) (fun _ => False) rfl rfl (R_empty_at kr54 54 HE5.out (by omega)) HRC5.out kr54_KM (fun _ hk => hk.elim) (fun _ _ => trivial) HB5.out HB5.out.size (by simp; omega) ?_; intro v6 w6 hr6 hb6 hg6 hat6; have hne6 : some gx ≠ (Value.slice (some ⟨w3.heap.size + 1, 0, none⟩) 0 0).ownBlock := (by rw [HGX.out]; simp [Value.ownBlock]); have HG6 := Aside0.mk (blk_grown HG5.out hg6 hne6); have HB6 := Aside0.mk hb6; obtain ⟨gR, cR, curR, hv6, hgR, hcR, hbR, hsR, hrR⟩ := row_block o54 (fun _ _ _ _ _ h => kr54_open_M h) hr6 (by have := HRWL.out; simp; omega); rw [List.nil_append, HRWL.out] at hv6 hcR; subst hv6; have HBR := Aside0.mk hbR; have HRR := Aside0.mk hrR; have HSR := Aside0.mk hsR; have HGR := Aside0.mk (And.intro hgR hcR); have fg : w6.frozen? ⟨w3.heap.size, 1, none⟩ = false := (by rw [← HGX.out]; exact blk_frozen HG6.out 1); have cg : w6.cell? ⟨w3.heap.size, 1, none⟩ = some (.slice A1 routes.length c1) := (by rw [← HGX.out]; exact blk_cell HG6.out 1); clear hr6 hb6 hg6 hat6 hne6 hgR hcR hbR hsR hrR))
    rw [← HGX.out]
    have hne7 : gx ≠ gR := blk_ne HG6.out HBR.out (by decide)
    obtain ⟨W7, hW7⟩ : ∃ W7, W7 = w6.setCell ⟨gx, 1, none⟩ (.slice (some ⟨gR, 0, none⟩) routes.length cR) := ⟨_, rfl⟩
    rw [← hW7]
    have HG7 : Aside0 (W7.heap[gx]? = some (.cells #[.slice A0 sends.length c0, .slice (some ⟨gR, 0, none⟩) routes.length cR, .int .i64 pat] 25 (0, 0))) := ⟨by rw [hW7]; exact blk_set HG6.out 1 _⟩
    have HBR7 : Aside0 (W7.heap[gR]? = some (.cells curR 54 (0, 0))) := ⟨by rw [hW7]; exact blk_far HBR.out (fun e => hne7 e.symm) _⟩
    have HB7 : Aside0 (Below w3.heap.size w3 W7) := ⟨by rw [hW7]; exact HB6.out.setCell (by rw [HGX.out]; exact Nat.le_refl _) _⟩
    have HNE := Aside0.mk hne7
    clear hW7 hne7 fg cg HG6 HBR HB6 HWW HE5 HRC5 HG5 HB5 HX5 x1' x1'' x0 x1 x2
    obtain ⟨xr, hxr, hof⟩ := HRO.out r hrl
    obtain ⟨ad1, hA1, hrow⟩ := HRC3.out.2.2 hr1
    subst hA1
    obtain ⟨cs5, hcsz, hk5, hce5⟩ := hrow r xr hxr
    have hk5' := kr54_open hk5
    have q5 : w3.cell? (ad1.add (r * 2)) = some (.slice xr.s.a xr.s.n xr.s.c) := hce5 0 _ (by rw [hk5']; rfl)
    obtain ⟨legs, hlegs⟩ : ∃ l, l = routes[r].f0 := ⟨_, rfl⟩
    obtain ⟨o1, o2, o3, o4⟩ := hof
    rw [← hlegs] at o1 o2 o3
    obtain ⟨lraw, hlwl, hlc, hlo⟩ := raw101 o3
    have HLEG := Aside0.mk hlegs
    have HXR := Aside0.mk hxr
    have HO2 := Aside0.mk o2
    have HO3 := Aside0.mk o3
    have HO4 := Aside0.mk o4
    have HO1 := Aside0.mk o1
    have HLWL := Aside0.mk hlwl
    have HLC := Aside0.mk hlc
    have HLO := Aside0.mk hlo
    rw [o1] at q5
    have hln := HV.out.ln (toX routes[r]) (by rw [HRS.out]; exact List.mem_map_of_mem (List.getElem_mem hrl))
    have hlt : (toX routes[r]).f0.length = legs.length := by rw [hlegs]; exact List.length_map _
    rw [hlt] at hln
    have hl0 := hln.1
    have hl3 := hln.2
    clear hln hlt hlegs hxr hrow hce5 hk5 hk5' o1 o2 o3 o4 hlwl hlc hlo hcsz cs5
    have q0 : W7.cell? ⟨gx, 1, none⟩ = some (.slice (some ⟨gR, 0, none⟩) routes.length cR) := blk_cell HG7.out 1
    have q1 : W7.cell? ⟨w.heap.size, 1, none⟩ = some (.slice (some ad1) routes.length c1) := pw_cell_below HB7.out HX3.out.x1
    have q2 : W7.cell? (ad1.add (r * 2)) = some (.slice xr.s.a legs.length xr.s.c) := pw_cell_below HB7.out q5
    have HQ5 := Aside0.mk q5
    clear q5
    have HQ0 := Aside0.mk q0
    have KEEP : Aside0 (∀ w', Below W7.heap.size W7 w' → (w'.cell? ⟨gx, 1, none⟩ = some (.slice (some ⟨gR, 0, none⟩) routes.length cR) ∧ w'.cell? ⟨w.heap.size, 1, none⟩ = some (.slice (some ad1) routes.length c1) ∧ w'.cell? (ad1.add (r * 2)) = some (.slice xr.s.a legs.length xr.s.c))) :=
      ⟨fun w' hb => ⟨pw_cell_below hb q0, pw_cell_below hb q1, pw_cell_below hb q2⟩⟩
    have hq0 : Aside0 (Below W7.heap.size W7 W7.drew) := ⟨below_drew (Below.refl _ _)⟩
    have hrr : (r : Int) < (routes.length : Int) := by omega
    have hrc : (r : Int) < (cR : Int) := by have := HGR.out.2; omega
    have hr0 : (0 : Int) ≤ (r : Int) := by omega
    have hIR : IntKind.i64.wrap (r : Int) = (r : Int) := IntWalk.i64_in _ (by omega)
    obtain ⟨W8, hW8⟩ : ∃ W8, W8 = (W7.alloc (.cells #[] 101)).drew := ⟨_, rfl⟩
    have HB78 : Aside0 (Below W7.heap.size W7 (W7.alloc (.cells #[] 101)).drew) := ⟨below_drew ((Below.refl _ _).alloc (Nat.le_refl _) _)⟩
    have hB8 : Below W7.heap.size W7 W8 := hW8 ▸ HB78.out
    have HZ7 : Aside0 (w3.heap.size ≤ W7.heap.size) := ⟨HB7.out.size⟩
    have HB38 := Aside0.mk (below_then HB7.out HZ7.out hB8)
    have HG8 := Aside0.mk (blk_below HG7.out hB8)
    have HBR8 := Aside0.mk (blk_below HBR7.out hB8)
    have HE8 : Aside0 (W8.heap[W7.heap.size]? = some (.cells #[] 101 (0, 0))) := ⟨by rw [hW8]; exact blk_new _ _⟩
    have HLC8 := Aside0.mk (Kd.C_below HLC.out HB38.out)
    have HWW8 := Aside0.mk hW8
    have HKB8 := Aside0.mk hB8
    have HCR : Aside0 (curR[r * 2]? = some (.slice xr.s.a xr.s.n xr.s.c)) := ⟨by have h := HRR.out r xr (by rw [List.nil_append]; exact HXR.out) 0 _ rfl; exact h⟩
    clear hW8 hB8
    go_region_held3 (fun w' => w'.cell? ⟨gx, 1, none⟩ = some (.slice (some ⟨gR, 0, none⟩) routes.length cR) ∧ w'.cell? ⟨w.heap.size, 1, none⟩ = some (.slice (some ad1) routes.length c1) ∧ w'.cell? (ad1.add (r * 2)) = some (.slice xr.s.a legs.length xr.s.c))
      (first
        | exact KEEP.out _ hq0.out
        | exact KEEP.out _ HB78.out
        | exact KEEP.out _ hq9.out
        | exact ⟨blk_cell (blk_far HG9.out HNE.out _) 1, pw_cell_below HB10.out HX3.out.x1, pw_cell_below HB10.out HQ5.out⟩)
      (first
        | (rw [← HWW8.out]; go_loud (refine Kd.R_append_rows_step kr101 (Rr := kr101.K W8) (w0 := w3) w3.heap.size (by rfl) (.tmp 44) (.tmp 50) 52 101 (.agg #[.int .i64 0, .int .i64 0, .slice none 0 0]) 40 (by rfl) u52row inforow101 rfl (by decide) (by omega) (.slice (some ⟨W7.heap.size, 0, none⟩) 0 0) [] lraw xr.s.a legs.length xr.s.c (fun _ => True) (fun _ => False) (by rfl) (by rfl) (R_empty_at kr101 101 HE8.out HZ7.out) HLC8.out kr101_KM (fun _ hk => hk.elim) (fun _ _ => trivial) HB38.out HB38.out.size (by simp; omega) ?_); go_loud (intro v9 w9 hr9 hb9 hg9 hat9; obtain ⟨gL, cL, curL, hv9, hgL, hcL, hbL, hsL, hrL⟩ := row_block o101 (fun _ _ _ _ _ h => kr101_open_M h) hr9 (by have := HLWL.out; simp; omega)); go_loud (rw [List.nil_append, HLWL.out] at hv9 hcL; subst hv9); go_loud (have hqg : Below W7.heap.size W7 w9 := pw_below_grown HKB8.out (some W7.heap.size) HKB8.out.size hg9 (fun k hk => by rw [← Option.some.inj hk]; exact Nat.le_refl _); have hq9 := Aside0.mk hqg); go_loud (have HG9 := Aside0.mk (blk_below HG7.out hqg); have HBR9 := Aside0.mk (blk_below HBR7.out hqg); have HB9 := Aside0.mk hb9; have HBL9 := Aside0.mk hbL; have HRL9 := Aside0.mk hrL; have HSL9 := Aside0.mk hsL; have HGL9 := Aside0.mk (And.intro hgL hcL)); go_loud (have fg : w9.frozen? ⟨gR, r * 2, none⟩ = false := blk_frozen HBR9.out _; have cg : w9.cell? ⟨gR, r * 2, none⟩ = some (.slice xr.s.a xr.s.n xr.s.c) := (by rw [blk_cell HBR9.out]; exact HCR.out)); have HB10 := Aside0.mk (hb9.setCell (p := ⟨gR, r * 2, none⟩) HGR.out.1 (.slice (some ⟨gL, 0, none⟩) legs.length cL)); clear hqg hr9 hb9 hg9 hat9 hgL hcL hbL hsL hrL))
    obtain ⟨W10, hW10⟩ : ∃ W10, W10 = w9.setCell ⟨gR, r * 2, none⟩ (.slice (some ⟨gL, 0, none⟩) legs.length cL) := ⟨_, rfl⟩
    rw [← hW10]
    have hneL : gR ≠ gL := blk_ne HBR9.out HBL9.out (by decide)
    have hneX : gx ≠ gL := blk_ne HG9.out HBL9.out (by decide)
    have HW10 : Aside0 (Below w3.heap.size w3 W10) := ⟨by rw [hW10]; exact HB10.out⟩
    obtain ⟨curN, hcurN⟩ : ∃ c, c = curR.setIfInBounds (r * 2 + 0) (.slice (some ⟨gL, 0, none⟩) legs.length cL) := ⟨_, rfl⟩
    have HG10 : Aside0 (W10.heap[gx]? = some (.cells #[.slice A0 sends.length c0, .slice (some ⟨gR, 0, none⟩) routes.length cR, .int .i64 pat] 25 (0, 0))) := ⟨by rw [hW10]; exact blk_far HG9.out HNE.out _⟩
    have HBR10 : Aside0 (W10.heap[gR]? = some (.cells curN 54 (0, 0))) := ⟨by rw [hW10, hcurN]; exact blk_set HBR9.out _ _⟩
    have HBL10 : Aside0 (W10.heap[gL]? = some (.cells curL 101 (0, 0))) := ⟨by rw [hW10]; exact blk_far HBL9.out (fun e => hneL e.symm) _⟩
    have hrraw : r < raws.length := by rw [HRWL.out]; exact hrl
    have HXR2 : Aside0 (raws[r] = xr) := ⟨by have h := HXR.out; rw [List.getElem?_eq_getElem hrraw] at h; exact Option.some.inj h⟩
    have HRN : Aside0 (RowIn o54 2 curN (raws.set r ⟨⟨some ⟨gL, 0, none⟩, legs.length, cL⟩, xr.b⟩)) := ⟨by
      have h := HRR.out
      rw [List.nil_append] at h
      rw [hcurN]
      exact h.set (.inl rfl) (fun _ => rfl) hrraw (k := 0) (Nat.succ_pos 1) (by rw [HXR2.out]; rfl)⟩
    have HRL : Aside0 (RowIn o101 3 curL (mixR lraw 0)) := ⟨by have h := HRL9.out; rw [List.nil_append] at h; rw [show mixR lraw 0 = lraw from rfl]; exact h⟩
    have HCN : Aside0 (curN[r * 2]? = some (.slice (some ⟨gL, 0, none⟩) legs.length cL)) := ⟨by have h := HRN.out r _ (List.getElem?_set_self hrraw) 0 _ rfl; exact h⟩
    have HNEL := Aside0.mk hneL
    have HNEX := Aside0.mk hneX
    clear hW10 hcurN hrraw HRL9 HRR HSR HCR HXR2 HG9 HBR9 HBL9 HB9 HB10 HG7 HBR7 HG8 HBR8 HE8 HLC8 HWW8 HKB8 HB78 HB38 HQ0 HQ5 KEEP hq0 hq9 q0 q1 q2 fg cg hneL hneX HSL9 HB7 HZ7
    obtain ⟨ad0, hA0, s0⟩ := Kd.at_int (HP.out.below HX3.out.below).h0 (i : Int) (by omega) hilz
    subst hA0
    rw [Int.toNat_natCast, rdI hil] at s0
    have hsb : 0 ≤ sends[i] ∧ sends[i] ≤ 30 := HV.out.s0 _ (List.getElem_mem hil)
    obtain ⟨sent, hsent⟩ : ∃ s, s = sends[i] := ⟨_, rfl⟩
    rw [← hsent] at s0 hsb
    have HSE := Aside0.mk hsent
    have HSB := Aside0.mk hsb
    have HS0 := Aside0.mk s0
    have HX10 := Aside0.mk (show BoxAt w W10 (some ad0) c0 sends.length (some ad1) c1 routes.length pat from HX3.out.later HW10.out)
    clear hsent hsb
    have x0 := HX10.out.x0
    have x1 := HX10.out.x1
    have x2 := HX10.out.x2
    have s0' : W10.cell? (ad0.add i) = some (.int .i64 sent) := pw_cell_below HW10.out s0
    have hil0 : (0 : Int) ≤ (i : Int) := by omega
    clear s0 hrr hrc hr0
    go_wp2_with fail
    go_quiet (fail)
    clear s0' hil0 x0 x1 x2 hilz hrlz
    have hqq : Below W10.heap.size W10 (W10.drewN nq) := pw_below_drewN (Below.refl _ _) nq
    have HX11 := Aside0.mk (HX10.out.later hqq)
    have HG11 := Aside0.mk (blk_below HG10.out hqq)
    have HBR11 := Aside0.mk (blk_below HBR10.out hqq)
    have HBL11 := Aside0.mk (blk_below HBL10.out hqq)
    have HB11 := Aside0.mk (below_then HW10.out HW10.out.size hqq)
    clear hqq HX10 HG10 HBR10 HBL10 HW10
    generalize W10.drewN nq = w11 at HX11 HG11 HBR11 HBL11 HB11 ⊢
    obtain ⟨ls, hls⟩ : ∃ ls : List S119, ls = legs.map toL := ⟨_, rfl⟩
    have HLS := Aside0.mk hls
    have HLSL : Aside0 (ls.length = legs.length) := ⟨by rw [hls]; exact List.length_map _⟩
    have HLSR : Aside0 ((toX routes[r]).f0 = ls) := ⟨by rw [HLS.out, HLEG.out]; rfl⟩
    have HOK : Aside0 (∀ l ∈ ls, LegOk l) := ⟨fun l hl => HV.out.leg (r := toX routes[r]) (by rw [HRS.out]; exact List.mem_map_of_mem (List.getElem_mem hrl)) (by rw [HLSR.out]; exact hl)⟩
    have HSUM : Aside0 (∀ k, k ≤ ls.length → sent ≤ sumLo (ls.take k) sent ∧ sumLo (ls.take k) sent ≤ sent + 18 ∧ sent ≤ sumHi (ls.take k) sent ∧ sumHi (ls.take k) sent ≤ sent + 18) := ⟨fun k hk => by
      obtain ⟨e1, e2, e3, e4⟩ := sum_bounds (ls.take k) sent (fun l hl => HOK.out l (List.mem_of_mem_take hl)) HSB.out.1
      have e5 : (ls.take k).length = k := by rw [List.length_take]; omega
      rw [e5] at e2 e4
      have := HLSL.out
      omega⟩
    clear hls
    go_wp2_with fail
    go_loopg [10, 11, 12] legs.length (fun gg s10 s11 s12 wr => ∃ (k : Nat) (cur : Array Value), k ≤ legs.length ∧ legs.length - k ≤ gg ∧ s10 = .int .i64 (sumLo (ls.take k) sent) ∧ s11 = .int .i64 (sumHi (ls.take k) sent) ∧ s12 = .int .i64 k ∧
      Aside0 (wr.heap[gx]? = some (.cells #[.slice (some ad0) sends.length c0, .slice (some ⟨gR, 0, none⟩) routes.length cR, .int .i64 pat] 25 (0, 0))) ∧ Aside0 (wr.heap[gR]? = some (.cells curN 54 (0, 0))) ∧ Aside0 (wr.heap[gL]? = some (.cells cur 101 (0, 0))) ∧ Aside0 (RowIn o101 3 cur (mixR lraw k)) ∧ Aside0 (Below w3.heap.size w3 wr))
    case atStart => exact ⟨0, curL, by omega, by omega, rfl, rfl, rfl, HG11, HBR11, HBL11, HRL, HB11⟩
    case round =>
      obtain ⟨k, cur, hk, hgk, rfl, rfl, rfl, HGr, HBRr, HBLr, HRr, HBr⟩ := hrel
      clear HG11 HBR11 HBL11 HB11 HRL
      have hsm := HSUM.out k (by rw [HLSL.out]; exact hk)
      have g1 : wr.cell? ⟨gx, 1, none⟩ = some (.slice (some ⟨gR, 0, none⟩) routes.length cR) := blk_cell HGr.out 1
      have g2 : wr.cell? ⟨gR, r * 2, none⟩ = some (.slice (some ⟨gL, 0, none⟩) legs.length cL) := by rw [blk_cell HBRr.out]; exact HCN.out
      have hrr : (r : Int) < (routes.length : Int) := by omega
      have hr0 : (0 : Int) ≤ (r : Int) := by omega
      by_cases hlt : k < legs.length
      · have hltz : (k : Int) < (legs.length : Int) := by omega
        have hkz : (0 : Int) ≤ (k : Int) := by omega
        have hkl : k < lraw.length := by rw [HLWL.out]; exact hlt
        obtain ⟨e0, e1, e2⟩ := row_cells HRr.out hkl
        have hlk : lraw[k].lo = legs[k].f0.f0 ∧ lraw[k].hi = legs[k].f0.f1 := by
          obtain ⟨x, x1, x2⟩ := HLO.out k hlt
          rw [List.getElem?_eq_getElem hkl] at x1
          rw [Option.some.inj x1]
          exact ⟨x2.1, x2.2.1⟩
        rw [hlk.1] at e0
        rw [hlk.2] at e1
        have hkls : k < ls.length := by rw [HLSL.out]; exact hlt
        have hlsk : ls[k] = toL legs[k] := by have h := HLS.out; subst h; exact List.getElem_map _
        have hs1 := sumLo_take ls sent k hkls
        have hs2 := sumHi_take ls sent k hkls
        rw [hlsk] at hs1 hs2
        have hs1' : sumLo (ls.take (k + 1)) sent = sumLo (ls.take k) sent + legs[k].f0.f0 := hs1
        have hs2' : sumHi (ls.take (k + 1)) sent = sumHi (ls.take k) sent + legs[k].f0.f1 := hs2
        have hn := HSUM.out (k + 1) hkls
        have HS1 := Aside0.mk hs1'
        have HS2 := Aside0.mk hs2'
        rw [hs1', hs2'] at hn
        clear hs1 hs2 hs1' hs2' hlsk hlk
        generalize legs[k].f0.f0 = lo at e0 hn HS1
        generalize legs[k].f0.f1 = hi at e1 hn HS2
        obtain ⟨sl, hsl⟩ : ∃ sl, sl = sumLo (ls.take k) sent := ⟨_, rfl⟩
        obtain ⟨sh, hsh⟩ : ∃ sh, sh = sumHi (ls.take k) sent := ⟨_, rfl⟩
        rw [← hsl] at HS1 hn hsm ⊢
        rw [← hsh] at HS2 hn hsm ⊢
        clear hsl hsh
        have hsb := HSB.out
        have hw1 : IntKind.i64.wrap (sl + lo) = sl + lo := IntWalk.i64_in _ (by omega)
        have hw2 : IntKind.i64.wrap (sh + hi) = sh + hi := IntWalk.i64_in _ (by omega)
        have b0 : wr.cell? ⟨gL, k * 3, none⟩ = some (.int .i64 lo) := by rw [blk_cell HBLr.out]; exact e0
        have b1 : wr.cell? ⟨gL, k * 3 + 1, none⟩ = some (.int .i64 hi) := by rw [blk_cell HBLr.out]; exact e1
        have b2 := (blk_cell HBLr.out (k * 3 + 2)).trans e2
        have f2 : wr.frozen? ⟨gL, k * 3 + 2, none⟩ = false := blk_frozen HBLr.out _
        have HRr' := Aside0.mk (row_nil HRr.out hkl)
        obtain ⟨wn, hwn⟩ : ∃ wn, wn = wr.setCell ⟨gL, k * 3 + 2, none⟩ (.slice none 0 0) := ⟨_, rfl⟩
        have HBLn : Aside0 (wn.heap[gL]? = some (.cells (cur.setIfInBounds (k * 3 + 2) (.slice none 0 0)) 101 (0, 0))) := ⟨by rw [hwn]; exact blk_set HBLr.out _ _⟩
        have HGn : Aside0 (wn.heap[gx]? = some (.cells #[.slice (some ad0) sends.length c0, .slice (some ⟨gR, 0, none⟩) routes.length cR, .int .i64 pat] 25 (0, 0))) := ⟨by rw [hwn]; exact blk_far HGr.out HNEX.out _⟩
        have HBRn : Aside0 (wn.heap[gR]? = some (.cells curN 54 (0, 0))) := ⟨by rw [hwn]; exact blk_far HBRr.out HNEL.out _⟩
        have HBn : Aside0 (Below w3.heap.size w3 wn) := ⟨by rw [hwn]; exact HBr.out.setCell HGL9.out.1 _⟩
        have b0n : wn.cell? ⟨gL, k * 3, none⟩ = some (.int .i64 lo) := by rw [blk_cell HBLn.out, Array.getElem?_setIfInBounds_ne (by omega)]; exact e0
        have b1n : wn.cell? ⟨gL, k * 3 + 1, none⟩ = some (.int .i64 hi) := by rw [blk_cell HBLn.out, Array.getElem?_setIfInBounds_ne (by omega)]; exact e1
        clear e0 e1 e2 hsb hsm hn
        go_wp2_with fail
        rw [← hwn]
        clear b0 b1 b2 f2 g1 g2 hwn
        go_quiet (fail)
        clear b0n b1n hw1 hw2
        go_wp2_with fail
        have hqr : Below wn.heap.size wn (wn.drewN nq) := pw_below_drewN (Below.refl _ _) nq
        go_roundg (legs.length - (k + 1))
        case measure => omega
        case rel => exact ⟨k + 1, _, by omega, by omega, by rw [HS1.out], by rw [HS2.out], by go_num, ⟨blk_below HGn.out hqr⟩, ⟨blk_below HBRn.out hqr⟩, ⟨blk_below HBLn.out hqr⟩, HRr', ⟨below_then HBn.out HBn.out.size hqr⟩⟩
      · have hltz : ¬ (k : Int) < (legs.length : Int) := by omega
        obtain rfl : k = legs.length := by omega
        clear hsm hgk
        have hrrs : r < rs.length := by rw [HRS.out, List.length_map]; exact hrl
        have HLR : Aside0 (rs[r].f0 = ls) := ⟨by have e := HRS.out; subst e; rw [List.getElem_map]; exact HLSR.out⟩
        have hlaw := awake_law HV.out HCK.out hil hrrs
        rw [← HSE.out, HLR.out] at hlaw
        obtain ⟨lo, hi', hlo, hhi, l1, l2, l3, hA, hl, hB, b1, b2, b3, b4⟩ := hlaw
        have htk : ls.take legs.length = ls := List.take_of_length_le (by rw [HLSL.out]; exact Nat.le_refl _)
        rw [htk, ← hlo, ← hhi]
        obtain ⟨al, hal⟩ : ∃ al : List Int, al = (List.range (hi' - lo + 1).toNat).map (fun k : Nat => lo + (k : Int)) := ⟨_, rfl⟩
        rw [← hal] at hA
        obtain ⟨xt, hxt⟩ : ∃ xt, xt = routes.set r (bareW routes[r]) := ⟨_, rfl⟩
        have HXTL : Aside0 (xt.length = routes.length) := ⟨by rw [hxt, List.length_set]⟩
        obtain ⟨rx, hrx⟩ : ∃ rx, rx = xt.map toX := ⟨_, rfl⟩
        have HRX := Aside0.mk hrx
        have hrxe : rx = rs.set r (bareX rs[r]) := by have e := HRS.out; subst e; rw [hrx, hxt]; exact set_toX routes r hrl
        rw [← hrxe] at hA
        have HTX : Aside0 (thinB sends xt = true) := ⟨by rw [hxt]; exact thin_bare HTH.out hrl⟩
        have HPX : Aside0 (PostAt wr (some ad0) c0 sends (some ⟨gR, 0, none⟩) cR xt) := ⟨by
          have e := HLEG.out
          subst e
          rw [hxt]
          exact bare_post (w := w3) ((HP.out.below HX3.out.below).below HBr.out) hrl HBr.out HBRr.out HBLr.out HGR.out.2 HGL9.out.2 HRWL.out HRO.out HXR.out HRN.out HLWL.out HLO.out HRr.out hr3 hl3⟩
        have HAL : Aside0 ((al.length : Int) = hi' - lo + 1) := ⟨by rw [hal, List.length_map, List.length_range]; omega⟩
        have HAK : Aside0 (∀ k : Nat, k < al.length → rd al (k : Int) = lo + (k : Int)) := ⟨fun k hk => by rw [rdI hk]; subst hal; rw [List.getElem_map, List.getElem_range]⟩
        have HHA := Aside0.mk hA
        have HHB := Aside0.mk hB
        have HBD := Aside0.mk (And.intro (And.intro l1 (And.intro l2 l3)) (And.intro b1 (And.intro b2 (And.intro b3 b4))))
        have HGX2 : Aside0 (wr.heap[gx]? = some (.cells #[.slice (some ad0) sends.length c0, .slice (some ⟨gR, 0, none⟩) xt.length cR, .int .i64 pat] 25 (0, 0))) := ⟨by rw [HXTL.out]; exact HGr.out⟩
        have HXr := Aside0.mk (show BoxAt w wr (some ad0) c0 sends.length (some ad1) c1 routes.length pat from HX3.out.later HBr.out)
        have g0 : wr.cell? ⟨gx, 0, none⟩ = some (.slice (some ad0) sends.length c0) := blk_cell HGr.out 0
        have g3 : wr.cell? ⟨gx, 2, none⟩ = some (.int .i64 pat) := blk_cell HGr.out 2
        clear hlo hhi l1 l2 l3 hA hB b1 b2 b3 b4 htk hal hxt hrx hrxe hrrs HLR HX11 HGr HBRr HBLr HRr HBr HRN HCN HNEL HNEX HGL9 HNE HLWL HLO HLC HO1 HO2 HO3 HO4 HXR HGR HRO HRC3 HRWL
        clear HLEG HS0 HSE HSB HSUM HOK HLSR HLSL HLS HGX
        go_wp2_with fail
        clear hltz g0 g1 g2 g3 hrr hr0
        rw [← HXTL.out]
        refine (post22_thin pat HRX.out HPX.out HTX.out).mono ?_
        rintro e w12 ⟨Ap, cp, Aq, cq, rfl, hp, hb⟩
        have HPP := Aside0.mk hp
        have HX12 := Aside0.mk (HXr.out.later hb)
        clear hb HXr hp HPX
        go_wp2_with fail
        have hct := hours29 Ap cp sends Aq cq rx pat (i : Int) (r : Int) w12 HPP.out.h0 HPP.out.l0 HPP.out.h1 HPP.out.l1
        rw [HHA.out] at hct
        refine (hct).mono ?_
        rintro e w13 ⟨vj, rfl, hr, hb⟩
        obtain ⟨AA, cA, rfl, hlj, hCj⟩ := Kd.R_reads hr
        have HA13 := Aside0.mk hCj
        have HLA := Aside0.mk hlj
        have HX13 := Aside0.mk (HX12.out.later hb)
        clear hb HX12 hr hlj hCj HPP hct HHA
        dsimp only at HA13 HLA ⊢
        have x0 := HX13.out.x0
        have x1 := HX13.out.x1
        have x2 := HX13.out.x2
        go_wp2_with fail
        refine (post22_thin pat HRS.out (HP.out.below HX13.out.below) HTH.out).mono ?_
        rintro e w14 ⟨Ap, cp, Aq, cq, rfl, hp, hb⟩
        have HPP := Aside0.mk hp
        have HX14 := Aside0.mk (HX13.out.later hb)
        have HA14 := Aside0.mk (Kd.C_below HA13.out hb)
        clear hb HX13 HA13 hp x0 x1 x2
        go_wp2_with fail
        have hct := hours29 Ap cp sends Aq cq rs pat (i : Int) (r : Int) w14 HPP.out.h0 HPP.out.l0 HPP.out.h1 HPP.out.l1
        rw [HHB.out] at hct
        refine (hct).mono ?_
        rintro e w15 ⟨vj, rfl, hr, hb⟩
        obtain ⟨AB, cB, rfl, hlj, hCj⟩ := Kd.R_reads hr
        have HB15 := Aside0.mk hCj
        have HLB := Aside0.mk hlj
        have HX15 := Aside0.mk (HX14.out.later hb)
        have HA15 := Aside0.mk (Kd.C_below HA14.out hb)
        clear hb HX14 HA14 hr hlj hCj HPP hct HHB
        dsimp only at HB15 HLB ⊢
        obtain ⟨⟨l1, l2, l3⟩, b1, b2, b3, b4⟩ := HBD.out
        have hal := HAL.out
        have hlz : (0 : Int) < (hl.length : Int) := by omega
        obtain ⟨adb, hAB, z0⟩ := Kd.at_int HB15.out 0 (by omega) hlz
        subst hAB
        obtain ⟨adb', hAB', z1⟩ := Kd.at_int HB15.out ((hl.length - 1 : Nat) : Int) (by omega) (by omega)
        cases hAB'
        have hlm : ((hl.length - 1 : Nat) : Int) = (hl.length : Int) - 1 := by omega
        rw [hlm] at z1 b4
        rw [show ((hl.length : Int) - 1).toNat = hl.length - 1 by omega] at z1
        generalize rd hl 0 = v0 at z0 b3
        have eadd : adb.add (0 : Int).toNat = adb := by simp [Addr.add]
        rw [eadd] at z0
        clear eadd
        generalize rd hl ((hl.length : Int) - 1) = v1 at z1 b4
        have q1 : ((al.length : Int) != hi' - lo + 1) = false := by rw [hal]; simp
        have q2 : IntKind.i64.wrap (hi' - lo) = hi' - lo := IntWalk.i64_in _ (by omega)
        have q3 : IntKind.i64.wrap (hi' - lo + 1) = hi' - lo + 1 := IntWalk.i64_in _ (by omega)
        have q4 : ((hl.length : Int) == 0) = false := beq_eq_false_iff_ne.2 (by omega)
        have q5 : ¬ (hl.length : Int) = 0 := by omega
        have q6 : IntKind.i64.wrap ((hl.length : Int) - 1) = (hl.length : Int) - 1 := IntWalk.i64_in _ (by omega)
        have q7 : ¬ v0 < lo := by omega
        have q8 : ¬ v1 < hi' := by omega
        have q9 : (0 : Int) ≤ (hl.length : Int) - 1 := by omega
        have q10 : (hl.length : Int) - 1 < (hl.length : Int) := by omega
        clear hal l1 l2 l3 b1 b2 b3 b4 hlm
        go_wp2_with fail
        clear z0 z1 q1 q2 q3 q4 q5 q6 q7 q8 q9 q10
        go_loopg [18] al.length (fun gg s18 wr => ∃ k : Nat, k ≤ al.length ∧ al.length - k ≤ gg ∧ s18 = .int .i64 k ∧ Aside0 (Below w15.heap.size w15 wr))
        case atStart => exact ⟨0, by omega, by omega, rfl, ⟨Below.refl _ _⟩⟩
        case round =>
          obtain ⟨k, hk, hgk, rfl, HBi⟩ := hrel
          obtain ⟨wo, rfl⟩ : ∃ wo : World, wo = wr := ⟨_, rfl⟩
          by_cases hlt : k < al.length
          · have hltz : (k : Int) < (al.length : Int) := by omega
            have hkz : (0 : Int) ≤ (k : Int) := by omega
            obtain ⟨ada, eaa, a0⟩ := Kd.at_int (Kd.C_below HA15.out HBi.out) (k : Int) (by omega) hltz
            cases eaa
            rw [Int.toNat_natCast, HAK.out k hlt] at a0
            have hb2 := HBD.out.1
            have ha2 := HAL.out
            have e1 : IntKind.i64.wrap (lo + (k : Int)) = lo + (k : Int) := IntWalk.i64_in _ (by omega)
            have e2 : ((lo + (k : Int)) != (lo + (k : Int))) = false := by simp
            have hcap : al.length ≤ 1000 := by omega
            clear hb2 ha2
            go_wp2_with fail
            clear e1 e2 a0
            go_roundg (al.length - (k + 1))
            case measure => omega
            case rel => exact ⟨k + 1, by omega, by omega, by go_num, HBi⟩
          · have hltz : ¬ (k : Int) < (al.length : Int) := by omega
            go_wp2_with fail
            refine (awake20 wo).mono ?_
            rintro e wz ⟨rfl, hb⟩
            have HZ := Aside0.mk ((HX15.out.later HBi.out).later hb)
            clear hb
            go_wp2_with fail
            go_ret
            exact ⟨rfl, HZ.out.below⟩
end Go.Proofs.Ytiephlhohgohcaa.PAll
