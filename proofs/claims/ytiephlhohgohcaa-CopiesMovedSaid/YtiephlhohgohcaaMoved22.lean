/- Part 22 of what the row rests on: each text as it stands among the working texts, cut to what is used; those of the print of the kit as a program printed them. -/
import Derived.Test.YtiephlhohgohcaaMoved20
import Derived.Test.YtiephlhohgohcaaMoved11
import Derived.Test.YtiephlhohgohcaaMoved5
import Derived.IntWalk
set_option linter.unusedVariables false
set_option linter.unusedSimpArgs false
namespace Go.Proofs.Ytiephlhohgohcaa.PAll
open Go.RowKit Go.Proofs.YtiephlhohgohcaaW.PrintWords Go.Proofs.YtiephlhohgohcaaW.PrintLast Go.Proofs.YtiephlhohgohcaaW.PrintMore
attribute [local go_sem] max2_int min2_int max_two min_two max_three min_three max_four min_four
set_option linter.unusedVariables false
set_option linter.unusedSimpArgs false
def shQr (n : Int) (q : S64) : S64 := ⟨q.f0 + n, q.f1 + n⟩
def shLr (n : Int) (l : S101) : S101 := ⟨l.f0, l.f1.map (shQr n)⟩
def shRr (n : Int) (r : S54) : S54 := ⟨r.f0.map (shLr n), r.f1⟩
theorem toX_sh (n : Int) (r : S54) : toX (shRr n r) = shR n (toX r) := by
  simp only [toX, shRr, shR, List.map_map]
  congr 1
  refine List.map_congr_left (fun l _ => ?_)
  simp only [Function.comp, toL, shLr, shL, List.map_map]
  rfl
theorem map_toX_sh (n : Int) (routes : List S54) : (routes.map (shRr n)).map toX = (routes.map toX).map (shR n) := by
  rw [List.map_map, List.map_map]
  exact List.map_congr_left (fun r _ => toX_sh n r)
theorem inforow64 : (Try.prog.info? 64).map (fun i => (i.zero, i.size, i.bytes)) = some (some (.agg #[.int .i64 0, .int .i64 0]), 2, 16) := by kernel_rfl
theorem u99row : Try.prog.underlying 99 = some (.slice 64) := by kernel_rfl
set_option maxRecDepth 100000 in
set_option maxHeartbeats 16000000 in
theorem copiesMoved11 (A0 : Option Addr) (c0 : Nat) (sends : List Int) (A1 : Option Addr) (c1 : Nat) (routes : List S54) (pat : Int) (a b c : Int) (w : World) (h : PostAt w A0 c0 sends A1 c1 routes) (ha : (Lit.int .u8 a).wf = true) (hb' : (Lit.int .u8 b).wf = true) (hc' : (Lit.int .u8 c).wf = true) :
    Calls Try.prog 11 #[.agg #[.slice A0 sends.length c0, .slice A1 routes.length c1, .int .i64 pat], .int .u8 a, .int .u8 b, .int .u8 c] w fun e w' => e = .returned (.bool true) ∧ Below w.heap.size w w' := by
  obtain ⟨rs, hrs⟩ : ∃ rs, rs = routes.map toX := ⟨_, rfl⟩
  have HRS := Aside0.mk hrs
  have hau := u8_of ha
  have HBU := Aside0.mk (u8_of hb')
  have HCU := Aside0.mk (u8_of hc')
  clear hrs ha hb' hc'
  obtain ⟨W1, hW1⟩ : ∃ W1, W1 = w.alloc (.cells #[.slice A0 sends.length c0, .slice A1 routes.length c1, .int .i64 pat] 25) := ⟨_, rfl⟩
  have hx := BoxAt.start w A0 c0 sends.length A1 c1 routes.length pat
  rw [← hW1] at hx
  have HX1 := Aside0.mk hx
  have HP := Aside0.mk h
  have x0 := hx.x0
  have x1 := hx.x1
  have x2 := hx.x2
  have HW1 := Aside0.mk hW1
  clear h hx hW1
  go_enter Try.func11, Try.ntmps11
  go_wp2_with fail
  rw [← HW1.out]
  clear HW1
  refine (ready54 A0 c0 sends A1 c1 routes pat rs W1 HRS.out (HP.out.below HX1.out.below)).mono ?_
  rintro e w2 ⟨rfl, hb⟩
  have HX2 := Aside0.mk (HX1.out.later hb)
  clear hb HX1 x0 x1 x2
  cases hrd : (thinB sends routes && check sends rs pat == 0) with
  | false =>
    clear hrd
    go_wp2_with fail
    refine (awake20 w2).mono ?_
    rintro e w3 ⟨rfl, hb⟩
    have HX3 := Aside0.mk (HX2.out.later hb)
    clear hb HX2
    go_wp2_with fail
    go_ret
    exact ⟨rfl, HX3.out.below⟩
  | true =>
    rw [Bool.and_eq_true, beq_iff_eq] at hrd
    have HTH := Aside0.mk hrd.1
    have HCK := Aside0.mk hrd.2
    have HV := Aside0.mk (valid_of hrd.2)
    have hs4 := (valid_of hrd.2).sn
    have hs1 := (valid_of hrd.2).s1
    have hr3 : routes.length ≤ 3 := by have h := HV.out.rn; rw [HRS.out, List.length_map] at h; exact h
    have hr1 : 0 < routes.length := by have h := HV.out.r1; rw [HRS.out, List.length_map] at h; exact h
    clear hrd
    obtain ⟨n, hq, hq2, hn11⟩ : ∃ n : Nat, Int.tmod a 12 = (n : Int) ∧ a % 12 = (n : Int) ∧ n ≤ 11 := by
      have e : Int.tmod a 12 = a % 12 := Int.tmod_eq_emod_of_nonneg hau.1
      exact ⟨(a % 12).toNat, by rw [e]; omega, by omega, by omega⟩
    obtain ⟨gx, hgx⟩ : ∃ gx, gx = w2.heap.size := ⟨_, rfl⟩
    obtain ⟨W3, hW3⟩ : ∃ W3, W3 = w2.alloc (.cells #[.slice none 0 0, .slice none 0 0, .int .i64 pat] 25) := ⟨_, rfl⟩
    have hb3 : Below w2.heap.size w2 W3 := hW3 ▸ (Below.refl _ w2).alloc (Nat.le_refl _) _
    have HG3 := Aside0.mk (show W3.heap[gx]? = some (.cells #[.slice none 0 0, .slice none 0 0, .int .i64 pat] 25 (0, 0)) from by rw [hW3, hgx]; exact blk_new _ _)
    have HB3 := Aside0.mk hb3
    have HW3 := Aside0.mk hW3
    have HGX := Aside0.mk hgx
    have x0 := HX2.out.x0
    have x1 := HX2.out.x1
    have x2 := HX2.out.x2
    clear hb3 hW3
    go_wp2_with fail
    rw [← HW3.out, ← hgx]
    clear HW3 hgx hq hq2 hau x0 x1 x2
    have HBW : Aside0 (∀ w' : World, Below w2.heap.size w2 w' → Below w.heap.size w w') := ⟨fun w' hb => below_then HX2.out.below HX2.out.below.size hb⟩
    have HBX : Aside0 (∀ w' : World, Below w2.heap.size w2 w' → w'.heap[w.heap.size]? = some (.cells #[.slice A0 sends.length c0, .slice A1 routes.length c1, .int .i64 pat] 25 (0, 0))) := ⟨fun w' hb => blk_below HX2.out.box hb⟩
    go_loopg [11] sends.length (fun gg s11 wr => ∃ (i : Nat) (As : Option Addr) (ns cs : Nat), i ≤ sends.length ∧ sends.length - i ≤ gg ∧ s11 = .int .i64 i ∧ Aside0 (wr.heap[gx]? = some (.cells #[.slice As ns cs, .slice none 0 0, .int .i64 pat] 25 (0, 0))) ∧
      Aside0 (Kd.R (Kd.int .i64) 3 wr w2.heap.size (fun _ => True) (.slice As ns cs) ((sends.take i).map (fun s => s + (n : Int)))) ∧ Aside0 (Below w2.heap.size w2 wr))
    case atStart => exact ⟨0, none, 0, 0, by omega, by omega, rfl, HG3, ⟨Kd.R_nil _ _ _ _ _⟩, HB3⟩
    case round =>
      obtain ⟨i, As, ns, cs, hi, hgi, rfl, HGr, HRr, HBr⟩ := hrel
      obtain ⟨wm, rfl⟩ : ∃ wm : World, wm = wr := ⟨_, rfl⟩
      have b0 : wm.cell? ⟨w.heap.size, 0, none⟩ = some (.slice A0 sends.length c0) := (blk_cell (HBX.out _ HBr.out) 0).trans rfl
      by_cases hlt : i < sends.length
      · have hltz : (i : Int) < (sends.length : Int) := by omega
        obtain ⟨ads, ea, ds⟩ := Kd.at_int HP.out.h0 (i : Int) (by omega) hltz
        cases ea
        rw [Int.toNat_natCast, rdI hlt] at ds
        have hs30 := HV.out.s0 _ (List.getElem_mem hlt)
        have HTK : Aside0 ((sends.take (i + 1)).map (fun s => s + (n : Int)) = (sends.take i).map (fun s => s + (n : Int)) ++ [sends[i] + (n : Int)]) := ⟨by rw [List.take_succ_eq_append_getElem hlt, List.map_append]; rfl⟩
        have HLL : Aside0 (((sends.take i).map (fun s => s + (n : Int))).length ≤ 4) := ⟨by rw [List.length_map, List.length_take]; omega⟩
        generalize sends[i] = sn at ds hs30 HTK
        generalize (sends.take i).map (fun s => s + (n : Int)) = xs at HRr HTK HLL
        have DS := Aside0.mk ds
        replace ds := ((HBW.out _ HBr.out).cell (World.block_lt_of_cell? w _ ds)).trans ds
        have g0 : wm.cell? ⟨gx, 0, none⟩ = some (.slice As ns cs) := (blk_cell HGr.out 0).trans rfl
        have e1 : IntKind.i64.wrap (sn + (n : Int)) = sn + (n : Int) := IntWalk.i64_in _ (by omega)
        have KEEP : Aside0 (∀ w', Below wm.heap.size wm w' → (w'.cell? ⟨gx, 0, none⟩ = some (.slice As ns cs) ∧ w'.cell? ⟨w.heap.size, 0, none⟩ = some (.slice (some ads) sends.length c0) ∧ w'.cell? (ads.add i) = some (.int .i64 sn))) := ⟨fun w' hb => ⟨pw_cell_below hb g0, pw_cell_below hb b0, pw_cell_below hb ds⟩⟩
        have hq0 : Aside0 (Below wm.heap.size wm wm.drew) := ⟨below_drew (Below.refl _ _)⟩
        have HR0 := Aside0.mk (Kd.R_below HRr.out hq0.out)
        have HB0 := Aside0.mk (below_then HBr.out HBr.out.size hq0.out)
        have HG0 := Aside0.mk (blk_below HGr.out hq0.out)
        go_wp2_with fail
        refine start_ (n := 13) (S := fun w' => w'.cell? ⟨gx, 0, none⟩ = some (.slice As ns cs) ∧ w'.cell? ⟨w.heap.size, 0, none⟩ = some (.slice (some ads) sends.length c0) ∧ w'.cell? (ads.add i) = some (.int .i64 sn)) (ds := [12]) #[false, false, false, false, false, false, false, false, false, false, false, false, false] (by kernel_rfl) rfl rfl ⟨g0, b0, ds⟩ (fun hHeld => ?_)
        refine pure_ (i := 0) (N := (some 47)) (v := ?_) (a' := ?_) #[true, false, false, false, false, false, false, false, false, false, false, false, false] rfl rfl (by kernel_rfl) (fun _ _ _ h => h) (Or.inl ⟨by rfl, ?_⟩) ?_ ?_
        rotate_left
        · intro w'
          go_simp
          with_reducible rfl
        rotate_left
        · simp only [Act.put, List.setIfInBounds_toArray, List.set_cons_zero, List.set_cons_succ, i64_w, i32_w]
          rfl
        refine take_ (i := 1) (N := (some 48)) (v := ?_) (a' := ?_) #[true, true, false, false, false, false, false, false, false, false, false, false, false] rfl rfl (by kernel_rfl) (fun _ _ _ h => h) (Or.inl ⟨by rfl, ?_⟩) hHeld ?_ ?_
        rotate_left
        · rintro w' ⟨s0, s1, s2⟩
          go_simp
          with_reducible rfl
        rotate_left
        · simp only [Act.put, List.setIfInBounds_toArray, List.set_cons_zero, List.set_cons_succ, i64_w, i32_w]
          rfl
        refine pure_ (i := 2) (N := (some 49)) (v := ?_) (a' := ?_) #[true, true, true, false, false, false, false, false, false, false, false, false, false] rfl rfl (by kernel_rfl) (fun _ _ _ h => h) (Or.inl ⟨by rfl, ?_⟩) ?_ ?_
        rotate_left
        · intro w'
          go_simp
          with_reducible rfl
        rotate_left
        · simp only [Act.put, List.setIfInBounds_toArray, List.set_cons_zero, List.set_cons_succ, i64_w, i32_w]
          rfl
        refine take_ (i := 3) (N := (some 50)) (v := ?_) (a' := ?_) #[true, true, true, true, false, false, false, false, false, false, false, false, false] rfl rfl (by kernel_rfl) (fun _ _ _ h => h) (Or.inl ⟨by rfl, ?_⟩) hHeld ?_ ?_
        rotate_left
        · rintro w' ⟨s0, s1, s2⟩
          go_simp
          with_reducible rfl
        rotate_left
        · simp only [Act.put, List.setIfInBounds_toArray, List.set_cons_zero, List.set_cons_succ, i64_w, i32_w]
          rfl
        refine pure_ (i := 4) (N := (some 51)) (v := ?_) (a' := ?_) #[true, true, true, true, true, false, false, false, false, false, false, false, false] rfl rfl (by kernel_rfl) (fun _ _ _ h => h) (Or.inl ⟨by rfl, ?_⟩) ?_ ?_
        rotate_left
        · intro w'
          go_simp
          with_reducible rfl
        rotate_left
        · simp only [Act.put, List.setIfInBounds_toArray, List.set_cons_zero, List.set_cons_succ, i64_w, i32_w]
          rfl
        refine pure_ (i := 5) (N := (some 52)) (v := ?_) (a' := ?_) #[true, true, true, true, true, true, false, false, false, false, false, false, false] rfl rfl (by kernel_rfl) (fun _ _ _ h => h) (Or.inl ⟨by rfl, ?_⟩) ?_ ?_
        rotate_left
        · intro w'
          go_simp
          with_reducible rfl
        rotate_left
        · simp only [Act.put, List.setIfInBounds_toArray, List.set_cons_zero, List.set_cons_succ, i64_w, i32_w]
          rfl
        refine take_ (i := 6) (N := (some 53)) (v := ?_) (a' := ?_) #[true, true, true, true, true, true, true, false, false, false, false, false, false] rfl rfl (by kernel_rfl) (fun _ _ _ h => h) (Or.inl ⟨by rfl, ?_⟩) hHeld ?_ ?_
        rotate_left
        · rintro w' ⟨s0, s1, s2⟩
          go_simp
          with_reducible rfl
        rotate_left
        · simp only [Act.put, List.setIfInBounds_toArray, List.set_cons_zero, List.set_cons_succ, i64_w, i32_w]
          rfl
        refine pure_ (i := 7) (N := (some 54)) (v := ?_) (a' := ?_) #[true, true, true, true, true, true, true, true, false, false, false, false, false] rfl rfl (by kernel_rfl) (fun _ _ _ h => h) (Or.inl ⟨by rfl, ?_⟩) ?_ ?_
        rotate_left
        · intro w'
          go_simp
          with_reducible rfl
        rotate_left
        · simp only [Act.put, List.setIfInBounds_toArray, List.set_cons_zero, List.set_cons_succ, i64_w, i32_w]
          rfl
        refine pure_ (i := 8) (N := (some 55)) (v := ?_) (a' := ?_) #[true, true, true, true, true, true, true, true, true, false, false, false, false] rfl rfl (by kernel_rfl) (fun _ _ _ h => h) (Or.inl ⟨by rfl, ?_⟩) ?_ ?_
        rotate_left
        · intro w'
          go_simp
          with_reducible rfl
        rotate_left
        · simp only [Act.put, List.setIfInBounds_toArray, List.set_cons_zero, List.set_cons_succ, i64_w, i32_w]
          rfl
        refine one_ (i := 9) (N := (some 56)) #[true, true, true, true, true, true, true, true, true, true, false, false, false] rfl rfl (by kernel_rfl) (by decide) (fun K hK => ?_)
        refine value_ (v := .slice (some ⟨wm.drew.heap.size, 0, none⟩) 1 1) (w1 := wm.drew.alloc (.cells #[.int .i64 (sn + (n : Int))] 3)) (by rfl) rfl (by go_simp; try rfl) ?_
        refine hK.out _ _ (KEEP.out _ (hq0.out.alloc hq0.out.size _)) (fun hHeld => ?_)
        clear hK K
        refine norm_ (a' := ?_) ?_ ?_
        rotate_left
        · show Act.put _ (some 56) _ = _
          simp only [Act.put, List.setIfInBounds_toArray, List.set_cons_zero, List.set_cons_succ, i64_w, i32_w]
          rfl
        refine one_ (i := 10) (N := (some 57)) #[true, true, true, true, true, true, true, true, true, true, true, false, false] rfl rfl (by kernel_rfl) (by decide) (fun K hK => ?_)
        refine kd_append_plain (Kd.int .i64) (w0 := w2) (W := wm.drew) w2.heap.size (by rfl) (.tmp 48) (.tmp 56) 22 3 (.int .i64 0) 8 (by rfl) Try.underlying22 info3 rfl (by decide) (.slice As ns cs) xs (sn + (n : Int)) [.int .i64 (sn + (n : Int))] (by rfl) (by rfl) (fun _ => False) rfl (fun _ hk => hk.elim) HR0.out HB0.out HB0.out.size (by have := HLL.out; omega) (by have := HLL.out; unfold maxLen; omega) ?_
        intro g6 c6 w6 hr6 hb6 hg6
        have HR6 := Aside0.mk hr6
        have HB6 := Aside0.mk hb6
        have HG6 := Aside0.mk (blk_grown HG0.out hg6 (Kd.R_ne HR0.out HG0.out (by decide)))
        clear hr6 hb6 hg6
        refine hK.out _ _ (show _ from ⟨(blk_cell HG6.out 0).trans rfl, (blk_cell (HBX.out _ HB6.out) 0).trans rfl, ((HBW.out _ HB6.out).cell (World.block_lt_of_cell? w _ DS.out)).trans DS.out⟩) (fun hHeld => ?_)
        clear hK K
        refine norm_ (a' := ?_) ?_ ?_
        rotate_left
        · show Act.put _ (some 57) _ = _
          simp only [Act.put, List.setIfInBounds_toArray, List.set_cons_zero, List.set_cons_succ, i64_w, i32_w]
          rfl
        refine pure_ (i := 11) (N := (some 58)) (v := ?_) (a' := ?_) #[true, true, true, true, true, true, true, true, true, true, true, true, false] rfl rfl (by kernel_rfl) (fun _ _ _ h => h) (Or.inl ⟨by rfl, ?_⟩) ?_ ?_
        rotate_left
        · intro w'
          go_simp
          with_reducible rfl
        rotate_left
        · simp only [Act.put, List.setIfInBounds_toArray, List.set_cons_zero, List.set_cons_succ, i64_w, i32_w]
          rfl
        refine last_ (i := 12) (N := none) #[true, true, true, true, true, true, true, true, true, true, true, true, true] rfl rfl (by kernel_rfl) (by decide) (fun K hK => ?_)
        have q0 : w6.cell? ⟨gx, 0, none⟩ = some (.slice As ns cs) := (blk_cell HG6.out 0).trans rfl
        have f0 := blk_frozen HG6.out 0
        refine skip_ (w1 := ?_) (by rfl) rfl ?_ ?_
        rotate_left
        · go_simp
          rfl
        refine hK.out _ _ ?_
        clear hK K q0 f0
        refine done_ (by kernel_rfl) ?_
        go_wp2_with fail
        go_roundg (sends.length - (i + 1))
        case measure => omega
        case rel =>
          refine ⟨i + 1, some ⟨g6, 0, none⟩, _, c6, by omega, by omega, by go_num, ⟨blk_set HG6.out 0 _⟩, ⟨?_⟩, ⟨HB6.out.setCell (p := ⟨gx, 0, none⟩) (by have := HGX.out; simp; omega) _⟩⟩
          rw [HTK.out]
          exact Kd.R_set HR6.out HG6.out (by decide) 0 _
      · have hltz : ¬ (i : Int) < (sends.length : Int) := by omega
        obtain ⟨xs, hxs⟩ : ∃ xs : List Int, sends.map (fun s => s + (n : Int)) = xs := ⟨_, rfl⟩
        have HXS := Aside0.mk hxs
        have hR := HRr.out
        rw [show i = sends.length by omega, List.take_length, hxs] at hR
        obtain ⟨A', c', hv, _, _⟩ := Kd.R_reads hR
        injection hv with e1 e2 e3
        subst e1
        subst e2
        subst e3
        have HRx := Aside0.mk hR
        clear hR hxs HRr
        go_wp2_with fail
        clear b0
        have HS1 : Aside0 (Kd.R (Kd.int .i64) 3 wm w2.heap.size (fun _ => True) (.slice As xs.length cs) xs) := HRx
        go_loopg [12] routes.length (fun gg s12 wr => ∃ (k : Nat) (Ar : Option Addr) (nr cr : Nat), k ≤ routes.length ∧ routes.length - k ≤ gg ∧ s12 = .int .i64 k ∧ Aside0 (wr.heap[gx]? = some (.cells #[.slice As xs.length cs, .slice Ar nr cr, .int .i64 pat] 25 (0, 0))) ∧
          Aside0 (Kd.R k54 54 wr w2.heap.size (fun _ => True) (.slice Ar nr cr) ((routes.take k).map (shRr (n : Int)))) ∧ Aside0 (Kd.R (Kd.int .i64) 3 wr w2.heap.size (fun _ => True) (.slice As xs.length cs) xs) ∧ Aside0 (Below w2.heap.size w2 wr))
        case atStart => exact ⟨0, none, 0, 0, by omega, by omega, rfl, HGr, ⟨Kd.R_nil _ _ _ _ _⟩, HS1, HBr⟩
        case round =>
          obtain ⟨k, Ar, nr, cr, hk, hgk, rfl, HG2, HR2, HS2, HB2⟩ := hrel
          clear HS1 HGr HBr HRx
          obtain ⟨wb, rfl⟩ : ∃ wb : World, wb = wr := ⟨_, rfl⟩
          have b1 : wb.cell? ⟨w.heap.size, 1, none⟩ = some (.slice A1 routes.length c1) := (blk_cell (HBX.out _ HB2.out) 1).trans rfl
          by_cases hkl : k < routes.length
          · have hkz : (k : Int) < (routes.length : Int) := by omega
            obtain ⟨ad5, A5, c5, e5, d50, d51, l5, g5⟩ := at_T54 HP.out.h1 (k : Int) (by omega) hkz
            cases e5
            rw [Int.toNat_natCast] at d50 d51
            have hx54 : rd_T54 routes (k : Int) = routes[k] := rdT54 hkl
            have hmem : toX routes[k] ∈ rs := by rw [HRS.out]; exact List.mem_map_of_mem (List.getElem_mem hkl)
            have hl3 : routes[k].f0.length ≤ 3 := by have := (HV.out.ln _ hmem).2; simpa [toX] using this
            have HAN : Aside0 (∀ l ∈ routes[k].f0, l.f1.length ≤ 2 ∧ ∀ q ∈ l.f1, 0 ≤ q.f0 ∧ q.f0 ≤ 30 ∧ 0 ≤ q.f1 ∧ q.f1 ≤ 30) := ⟨fun l hl => by
              have hm : toL l ∈ (toX routes[k]).f0 := List.mem_map_of_mem hl
              have h1 := HV.out.an _ hmem _ hm
              have h2 := HV.out.sl _ hmem _ hm
              refine ⟨by simpa [toL] using h1, fun q hq => ?_⟩
              have := h2 (toR q) (List.mem_map_of_mem hq)
              have ea : (toR q).f0 = q.f0 := rfl
              have eb : (toR q).f1 = q.f1 := rfl
              omega⟩
            have HTK : Aside0 ((routes.take (k + 1)).map (shRr (n : Int)) = (routes.take k).map (shRr (n : Int)) ++ [shRr (n : Int) routes[k]]) := ⟨by rw [List.take_succ_eq_append_getElem hkl, List.map_append]; rfl⟩
            rw [hx54] at d50 d51 g5 l5
            clear hx54 hmem
            generalize routes[k] = x at d50 d51 g5 l5 hl3 HAN HTK
            obtain ⟨legs, lossy⟩ := x
            dsimp only at d50 d51 g5 l5 hl3 HAN
            have D50 := Aside0.mk d50
            have G5 := Aside0.mk g5
            replace d50 := ((HBW.out _ HB2.out).cell (World.block_lt_of_cell? w _ d50)).trans d50
            replace d51 := ((HBW.out _ HB2.out).cell (World.block_lt_of_cell? w _ d51)).trans d51
            have HLR : Aside0 (((routes.take k).map (shRr (n : Int))).length ≤ 4) := ⟨by rw [List.length_map, List.length_take]; omega⟩
            generalize (routes.take k).map (shRr (n : Int)) = rsx at HR2 HTK HLR
            obtain ⟨gy, hgy⟩ : ∃ gy, gy = wb.heap.size := ⟨_, rfl⟩
            obtain ⟨W4, hW4⟩ : ∃ W4, W4 = wb.alloc (.cells #[.slice none 0 0, .bool lossy] 54) := ⟨_, rfl⟩
            have HB4 := Aside0.mk (show Below wb.heap.size wb W4 from hW4 ▸ (Below.refl _ wb).alloc (Nat.le_refl _) _)
            have HY4 := Aside0.mk (show W4.heap[gy]? = some (.cells #[.slice none 0 0, .bool lossy] 54 (0, 0)) from by rw [hW4, hgy]; exact blk_new _ _)
            have HW4 := Aside0.mk hW4
            have HGY := Aside0.mk hgy
            clear hW4 g5 l5
            go_wp2_with fail
            rw [← HW4.out, ← hgy]
            clear HW4 hgy b1 d50 d51
            go_loopg [14] legs.length (fun gm s14 wi => ∃ (m : Nat) (Al : Option Addr) (nl cl : Nat), m ≤ legs.length ∧ legs.length - m ≤ gm ∧ s14 = .int .i64 m ∧ Aside0 (wi.heap[gy]? = some (.cells #[.slice Al nl cl, .bool lossy] 54 (0, 0))) ∧
              Aside0 (Kd.R k101 101 wi wb.heap.size (fun _ => True) (.slice Al nl cl) ((legs.take m).map (shLr (n : Int)))) ∧ Aside0 (Below wb.heap.size wb wi))
            case atStart => exact ⟨0, none, 0, 0, by omega, by omega, rfl, HY4, ⟨Kd.R_nil _ _ _ _ _⟩, HB4⟩
            case round =>
              obtain ⟨m, Al, nl, cl, hm, hgm, rfl, HY3, HR3, HB3'⟩ := hrel
              clear HY4 HB4
              obtain ⟨wc, rfl⟩ : ∃ wc : World, wc = wr := ⟨_, rfl⟩
              have HBc := Aside0.mk (below_then HB2.out HB2.out.size HB3'.out)
              have b1 : wc.cell? ⟨w.heap.size, 1, none⟩ = some (.slice (some ad5) routes.length c1) := (blk_cell (HBX.out _ HBc.out) 1).trans rfl
              have d50 := ((HBW.out _ HBc.out).cell (World.block_lt_of_cell? w _ D50.out)).trans D50.out
              by_cases hml : m < legs.length
              · have hmz : (m : Int) < (legs.length : Int) := by omega
                obtain ⟨ad6, A6, c6, e6, y0, y1, y2, l6, g6⟩ := at_T101 G5.out (m : Int) (by omega) hmz
                cases e6
                have hx101 : rd_T101 legs (m : Int) = legs[m] := rdT101 hml
                have HA2 := Aside0.mk (HAN.out _ (List.getElem_mem hml))
                have HTL : Aside0 ((legs.take (m + 1)).map (shLr (n : Int)) = (legs.take m).map (shLr (n : Int)) ++ [shLr (n : Int) legs[m]]) := ⟨by rw [List.take_succ_eq_append_getElem hml, List.map_append]; rfl⟩
                have HLM : Aside0 (((legs.take m).map (shLr (n : Int))).length ≤ 4) := ⟨by rw [List.length_map, List.length_take]; omega⟩
                rw [hx101, Int.toNat_natCast] at y0 y1 y2
                rw [hx101] at g6 l6
                clear hx101
                generalize legs[m] = lg at y0 y1 y2 g6 l6 HA2 HTL
                generalize (legs.take m).map (shLr (n : Int)) = lsx at HR3 HTL HLM
                obtain ⟨⟨lo, hi'⟩, asl⟩ := lg
                dsimp only at y0 y1 y2 g6 l6 HA2
                have Y2 := Aside0.mk y2
                have G6 := Aside0.mk g6
                have ha2 := HA2.out.1
                replace y0 := ((HBW.out _ HBc.out).cell (World.block_lt_of_cell? w _ y0)).trans y0
                replace y1 := ((HBW.out _ HBc.out).cell (World.block_lt_of_cell? w _ y1)).trans y1
                obtain ⟨gl, hgl⟩ : ∃ gl, gl = wc.heap.size := ⟨_, rfl⟩
                obtain ⟨W5, hW5⟩ : ∃ W5, W5 = wc.alloc (.cells #[.int .i64 lo, .int .i64 hi', .slice none 0 0] 101) := ⟨_, rfl⟩
                have HB5 := Aside0.mk (show Below wc.heap.size wc W5 from hW5 ▸ (Below.refl _ wc).alloc (Nat.le_refl _) _)
                have HL5 := Aside0.mk (show W5.heap[gl]? = some (.cells #[.int .i64 lo, .int .i64 hi', .slice none 0 0] 101 (0, 0)) from by rw [hW5, hgl]; exact blk_new _ _)
                have HW5 := Aside0.mk hW5
                have HGL := Aside0.mk hgl
                clear hW5 g6 l6 y2
                go_wp2_with fail
                rw [← HW5.out, ← hgl]
                clear HW5 hgl b1 d50 y0 y1
                go_loopg [16] asl.length (fun gq s16 wj => ∃ (q : Nat) (Aa : Option Addr) (na ca : Nat), q ≤ asl.length ∧ asl.length - q ≤ gq ∧ s16 = .int .i64 q ∧ Aside0 (wj.heap[gl]? = some (.cells #[.int .i64 lo, .int .i64 hi', .slice Aa na ca] 101 (0, 0))) ∧
                  Aside0 (Kd.R k64 64 wj wc.heap.size (fun _ => True) (.slice Aa na ca) ((asl.take q).map (shQr (n : Int)))) ∧ Aside0 (Below wc.heap.size wc wj))
                case atStart => exact ⟨0, none, 0, 0, by omega, by omega, rfl, HL5, ⟨Kd.R_nil _ _ _ _ _⟩, HB5⟩
                case round =>
                  obtain ⟨q, Aa, na, ca, hq, hgq, rfl, HLa, HRa, HBa⟩ := hrel
                  clear HL5 HB5
                  obtain ⟨wd, rfl⟩ : ∃ wd : World, wd = wr := ⟨_, rfl⟩
                  have HBd := Aside0.mk (below_then HBc.out HBc.out.size HBa.out)
                  have b1 : wd.cell? ⟨w.heap.size, 1, none⟩ = some (.slice (some ad5) routes.length c1) := (blk_cell (HBX.out _ HBd.out) 1).trans rfl
                  have d50 := ((HBW.out _ HBd.out).cell (World.block_lt_of_cell? w _ D50.out)).trans D50.out
                  have y2 := ((HBW.out _ HBd.out).cell (World.block_lt_of_cell? w _ Y2.out)).trans Y2.out
                  by_cases hql : q < asl.length
                  · have hqz : (q : Int) < (asl.length : Int) := by omega
                    obtain ⟨ad7, e7, q0, q1⟩ := at_T64 G6.out (q : Int) (by omega) hqz
                    cases e7
                    have hx64 : rd_T64 asl (q : Int) = asl[q] := rdT64 hql
                    have hq30 := HA2.out.2 _ (List.getElem_mem hql)
                    have HTA : Aside0 ((asl.take (q + 1)).map (shQr (n : Int)) = (asl.take q).map (shQr (n : Int)) ++ [shQr (n : Int) asl[q]]) := ⟨by rw [List.take_succ_eq_append_getElem hql, List.map_append]; rfl⟩
                    have hla : ((asl.take q).map (shQr (n : Int))).length ≤ 4 := by rw [List.length_map, List.length_take]; omega
                    rw [hx64, Int.toNat_natCast] at q0 q1
                    clear hx64
                    generalize asl[q] = sq at q0 q1 hq30 HTA
                    generalize (asl.take q).map (shQr (n : Int)) = asx at HRa HTA hla
                    obtain ⟨s0, s1⟩ := sq
                    dsimp only at q0 q1 hq30
                    replace q0 := ((HBW.out _ HBd.out).cell (World.block_lt_of_cell? w _ q0)).trans q0
                    replace q1 := ((HBW.out _ HBd.out).cell (World.block_lt_of_cell? w _ q1)).trans q1
                    obtain ⟨gs, hgs⟩ : ∃ gs, gs = wd.heap.size := ⟨_, rfl⟩
                    obtain ⟨W6, hW6⟩ : ∃ W6, W6 = wd.alloc (.cells #[.int .i64 s0, .int .i64 s1] 64) := ⟨_, rfl⟩
                    have hb6 : Below wd.heap.size wd W6 := hW6 ▸ (Below.refl _ wd).alloc (Nat.le_refl _) _
                    have HLa6 := Aside0.mk (blk_below HLa.out hb6)
                    have HRa6 := Aside0.mk (Kd.R_below HRa.out hb6)
                    have HBa6 := Aside0.mk (below_then HBa.out HBa.out.size hb6)
                    have hs6 : W6.heap[gs]? = some (.cells #[.int .i64 s0, .int .i64 s1] 64 (0, 0)) := by rw [hW6, hgs]; exact blk_new _ _
                    have HW6 := Aside0.mk hW6
                    clear hW6 hb6
                    go_upto_region 21 with fail
                    rw [← HW6.out, ← hgs]
                    clear HW6 hgs b1 d50 y2 q0 q1
                    have t0 : W6.cell? ⟨gs, 0, none⟩ = some (.int .i64 s0) := (blk_cell hs6 0).trans rfl
                    have t1 : W6.cell? ⟨gs, 1, none⟩ = some (.int .i64 s1) := (blk_cell hs6 1).trans rfl
                    have la : W6.cell? ⟨gl, 2, none⟩ = some (.slice Aa na ca) := (blk_cell HLa6.out 2).trans rfl
                    clear hs6
                    go_wp2_with (at_builtin; refine Kd.R_append k64 (w0 := wc) wc.heap.size rfl (.tmp 124) (.tmp 134) 99 64 (.agg #[.int .i64 0, .int .i64 0]) 16 rfl u99row inforow64 rfl (by decide) (by omega) (.slice Aa na ca) asx (shQr (n : Int) ⟨s0, s1⟩) [.int .i64 (s0 + (n : Int)), .int .i64 (s1 + (n : Int))] (fun _ => True) (fun k' => False) rfl rfl (k64_mkM _ _ _ (shQr (n : Int) ⟨s0, s1⟩)) (fun _ hk => hk.elim) (fun _ _ => trivial) HRa6.out HBa6.out HBa6.out.size (by omega) ?_; intro v9 w9 hr9 hb9 hg9 hat9; obtain ⟨A10, c10, rfl⟩ := Kd.R_slice hr9; have HR9 := Aside0.mk hr9; have HB9 := Aside0.mk hb9; have HL9 := Aside0.mk (blk_grown HLa6.out hg9 (Kd.R_ne HRa6.out HLa6.out (by decide))); have fg := blk_frozen HL9.out 2; have cg := (blk_cell HL9.out 2).trans rfl; clear hr9 hb9 hg9 hat9 la t0 t1)
                    go_roundg (asl.length - (q + 1))
                    case measure => omega
                    case rel =>
                      refine ⟨q + 1, A10, _, c10, by omega, by omega, by go_num, ⟨blk_set HL9.out 2 _⟩, ⟨?_⟩, ⟨HB9.out.setCell (p := ⟨gl, 2, none⟩) (by have := HGL.out; simp; omega) _⟩⟩
                      rw [HTA.out]
                      have hf := Kd.R_set HR9.out HL9.out (by decide) 2 (Value.slice A10 (asx.length + 1) c10)
                      rw [List.length_append, List.length_singleton] at hf
                      exact hf
                  · have hqz : ¬ (q : Int) < (asl.length : Int) := by omega
                    have hR := HRa.out
                    rw [show q = asl.length by omega, List.take_length] at hR
                    have HRf := Aside0.mk hR
                    have HRy := Aside0.mk (Kd.R_below HR3.out HBa.out)
                    have HYd := Aside0.mk (blk_below HY3.out HBa.out)
                    have HBy := Aside0.mk (below_then HB3'.out HB3'.out.size HBa.out)
                    have HVT := Aside0.mk (R_apart_types (Kd.R_lower hR HB3'.out.size) HRy.out (by decide))
                    have ly : wd.cell? ⟨gy, 0, none⟩ = some (.slice Al nl cl) := (blk_cell HYd.out 0).trans rfl
                    have la0 : wd.cell? ⟨gl, 0, none⟩ = some (.int .i64 lo) := (blk_cell HLa.out 0).trans rfl
                    have la1 : wd.cell? ⟨gl, 1, none⟩ = some (.int .i64 hi') := (blk_cell HLa.out 1).trans rfl
                    have la2 : wd.cell? ⟨gl, 2, none⟩ = some (.slice Aa na ca) := (blk_cell HLa.out 2).trans rfl
                    have hlm := HLM.out
                    clear hR
                    go_wp2_with (at_builtin; refine Kd.R_append k101 (w0 := wb) wb.heap.size rfl (.tmp 138) (.tmp 140) 52 101 (.agg #[.int .i64 0, .int .i64 0, .slice none 0 0]) 40 rfl u52row inforow101 rfl (by decide) (by omega) (.slice Al nl cl) lsx (shLr (n : Int) ⟨⟨lo, hi'⟩, asl⟩) [.int .i64 lo, .int .i64 hi', .slice Aa na ca] (fun _ => True) (fun k' => some k' ≠ (Value.slice Al nl cl).ownBlock) rfl rfl (k101_mkM _ _ _ (shLr (n : Int) ⟨⟨lo, hi'⟩, asl⟩) HVT.out) (fun _ hk => ⟨trivial, hk⟩) (fun _ _ => trivial) HRy.out HBy.out HBy.out.size (by omega) ?_; intro v9 w9 hr9 hb9 hg9 hat9; obtain ⟨A10, c10, rfl⟩ := Kd.R_slice hr9; have HR9 := Aside0.mk hr9; have HB9 := Aside0.mk hb9; have HL9 := Aside0.mk (blk_grown HYd.out hg9 (Kd.R_ne HRy.out HYd.out (by decide))); have fg := blk_frozen HL9.out 0; have cg := (blk_cell HL9.out 0).trans rfl; clear hr9 hb9 hg9 hat9 ly la0 la1 la2)
                    go_roundg (legs.length - (m + 1))
                    case measure => omega
                    case rel =>
                      refine ⟨m + 1, A10, _, c10, by omega, by omega, by go_num, ⟨blk_set HL9.out 0 _⟩, ⟨?_⟩, ⟨HB9.out.setCell (p := ⟨gy, 0, none⟩) (by have := HGY.out; simp; omega) _⟩⟩
                      rw [HTL.out]
                      have hf := Kd.R_set HR9.out HL9.out (by decide) 0 (Value.slice A10 (lsx.length + 1) c10)
                      rw [List.length_append, List.length_singleton] at hf
                      exact hf
              · have hmz : ¬ (m : Int) < (legs.length : Int) := by omega
                have hR := HR3.out
                rw [show m = legs.length by omega, List.take_length] at hR
                have HRf := Aside0.mk hR
                have HRy := Aside0.mk (Kd.R_below HR2.out HB3'.out)
                have HSy := Aside0.mk (Kd.R_below HS2.out HB3'.out)
                have HGd := Aside0.mk (blk_below HG2.out HB3'.out)
                have HVT := Aside0.mk (R_apart_types (Kd.R_lower hR HB2.out.size) HRy.out (by decide))
                have ly : wc.cell? ⟨gx, 1, none⟩ = some (.slice Ar nr cr) := (blk_cell HGd.out 1).trans rfl
                have la0 : wc.cell? ⟨gy, 0, none⟩ = some (.slice Al nl cl) := (blk_cell HY3.out 0).trans rfl
                have la1 : wc.cell? ⟨gy, 1, none⟩ = some (.bool lossy) := (blk_cell HY3.out 1).trans rfl
                have hlm := HLR.out
                clear hR
                go_wp2_with (at_builtin; refine Kd.R_append k54 (w0 := w2) w2.heap.size rfl (.tmp 144) (.tmp 146) 23 54 (.agg #[.slice none 0 0, .bool false]) 32 rfl u23row inforow54 rfl (by decide) (by omega) (.slice Ar nr cr) rsx (shRr (n : Int) ⟨legs, lossy⟩) [.slice Al nl cl, .bool lossy] (fun _ => True) (fun k' => some k' ≠ (Value.slice Ar nr cr).ownBlock) rfl rfl (k54_mkM _ _ _ (shRr (n : Int) ⟨legs, lossy⟩) HVT.out) (fun _ hk => ⟨trivial, hk⟩) (fun _ _ => trivial) HRy.out HBc.out HBc.out.size (by omega) ?_; intro v9 w9 hr9 hb9 hg9 hat9; obtain ⟨A10, c10, rfl⟩ := Kd.R_slice hr9; have HR9 := Aside0.mk hr9; have HB9 := Aside0.mk hb9; have HL9 := Aside0.mk (blk_grown HGd.out hg9 (Kd.R_ne HRy.out HGd.out (by decide))); have HS9 := Aside0.mk (Kd.R_mono (ok' := fun _ => True) (Kd.R_grown (R_apart_types HSy.out HRy.out (by decide)) hg9 (fun _ hk => hk)) (fun _ _ => trivial)); have fg := blk_frozen HL9.out 1; have cg := (blk_cell HL9.out 1).trans rfl; clear hr9 hb9 hg9 hat9 ly la0 la1 b1 d50)
                go_roundg (routes.length - (k + 1))
                case measure => omega
                case rel =>
                  refine ⟨k + 1, A10, _, c10, by omega, by omega, by go_num, ⟨blk_set HL9.out 1 _⟩, ⟨?_⟩, ⟨Kd.R_set HS9.out HL9.out (by decide) 1 _⟩, ⟨HB9.out.setCell (p := ⟨gx, 1, none⟩) (by have := HGX.out; simp; omega) _⟩⟩
                  rw [HTK.out]
                  have hf := Kd.R_set HR9.out HL9.out (by decide) 1 (Value.slice A10 (rsx.length + 1) c10)
                  rw [List.length_append, List.length_singleton] at hf
                  exact hf
          · have hkz : ¬ (k : Int) < (routes.length : Int) := by omega
            obtain ⟨xr, hxr⟩ : ∃ xr : List S54, routes.map (shRr (n : Int)) = xr := ⟨_, rfl⟩
            have HXR := Aside0.mk hxr
            have hR := HR2.out
            rw [show k = routes.length by omega, List.take_length, hxr] at hR
            obtain ⟨A', c', hv, hlr, hCr⟩ := Kd.R_reads hR
            injection hv with e1 e2 e3
            subst e1
            subst e2
            subst e3
            obtain ⟨A'', c'', hv, hls, hCs⟩ := Kd.R_reads HS2.out
            injection hv with e1 _ e3
            subst e1
            subst e3
            have HPX := Aside0.mk (show PostAt wb As cs xs Ar cr xr from ⟨hCs, hls, hCr, hlr⟩)
            have HXb := Aside0.mk (show BoxAt w wb A0 c0 sends.length A1 c1 routes.length pat from ⟨HBW.out _ HB2.out, HBX.out _ HB2.out⟩)
            clear hR hlr hCr hls hCs HR2 HS2 hxr
            have g0 : wb.cell? ⟨gx, 0, none⟩ = some (.slice As xs.length cs) := (blk_cell HG2.out 0).trans rfl
            have g1 : wb.cell? ⟨gx, 1, none⟩ = some (.slice Ar xr.length cr) := (blk_cell HG2.out 1).trans rfl
            have g2 : wb.cell? ⟨gx, 2, none⟩ = some (.int .i64 pat) := (blk_cell HG2.out 2).trans rfl
            go_wp2_with fail
            have HXb' := HXb
            have HGb := HG2
            have HPXb := HPX
            have HRXE : Aside0 (xr.map toX = rs.map (shR (n : Int))) := ⟨by rw [← HXR.out, map_toX_sh, ← HRS.out]⟩
            obtain ⟨rx, hrx⟩ : ∃ rx, rx = xr.map toX := ⟨_, rfl⟩
            have HRX := Aside0.mk hrx
            have HRE : Aside0 (rx = rs.map (shR (n : Int))) := ⟨by rw [hrx]; exact HRXE.out⟩
            have hxs4 : xs.length ≤ 7 := by rw [← HXS.out, List.length_map]; omega
            clear HXb' HG2 HPX HB2 HRXE hrx HBX HBW
            refine (fault25 pat HRX.out HPXb.out hxs4).mono ?_
            rintro e w11 ⟨rfl, hb⟩
            have HX11 := Aside0.mk (HXb.out.later hb)
            have HG11 := Aside0.mk (blk_below HGb.out hb)
            have HPX11 := Aside0.mk (HPXb.out.below hb)
            clear hb HXb HGb HPXb b1 g0 g1 g2
            by_cases hck : check xs rx pat = 0
            ·
              have HCX := Aside0.mk hck
              have HVX := Aside0.mk (valid_of hck)
              rw [hck]
              clear hck
              have hxt : thinB xs xr = true := by
                have hv := HVX.out
                have hle : xr.length = rx.length := by rw [HRX.out, List.length_map]
                have h1 := hv.sn
                have h2 := hv.rn
                rw [thinB, Bool.and_eq_true, Bool.and_eq_true, List.all_eq_true]
                refine ⟨decide_eq_true (by omega), decide_eq_true (by omega), fun r hr => ?_⟩
                have hm : toX r ∈ rx := by rw [HRX.out]; exact List.mem_map_of_mem hr
                have h3 := (hv.ln _ hm).2
                rw [thinR, Bool.and_eq_true, List.all_eq_true]
                refine ⟨decide_eq_true (by simp [toX] at h3; omega), fun l hl => ?_⟩
                have h4 := hv.an _ hm (toL l) (List.mem_map_of_mem hl)
                simp only [p5, decide_eq_true_eq]
                simp [toL] at h4
                omega
              have HTX := Aside0.mk hxt
              have hxl : xs.length = sends.length := by rw [← HXS.out, List.length_map]
              have HXLE := Aside0.mk hxl
              have hrl : xr.length = routes.length := by rw [← HXR.out, List.length_map]
              clear hxt hxl
              obtain ⟨i, hi1, hi2, hil⟩ : ∃ i : Nat, Int.tmod b (sends.length : Int) = (i : Int) ∧ b % (sends.length : Int) = (i : Int) ∧ i < sends.length := by
                have e : Int.tmod b (sends.length : Int) = b % (sends.length : Int) := Int.tmod_eq_emod_of_nonneg HBU.out.1
                have h1 := Int.emod_nonneg b (show (sends.length : Int) ≠ 0 by omega)
                have h2 := Int.emod_lt_of_pos b (show 0 < (sends.length : Int) by omega)
                exact ⟨(b % (sends.length : Int)).toNat, by rw [e]; omega, by omega, by omega⟩
              obtain ⟨r, hr1', hr2', hrl'⟩ : ∃ r : Nat, Int.tmod c (routes.length : Int) = (r : Int) ∧ c % (routes.length : Int) = (r : Int) ∧ r < routes.length := by
                have e : Int.tmod c (routes.length : Int) = c % (routes.length : Int) := Int.tmod_eq_emod_of_nonneg HCU.out.1
                have h1 := Int.emod_nonneg c (show (routes.length : Int) ≠ 0 by omega)
                have h2 := Int.emod_lt_of_pos c (show 0 < (routes.length : Int) by omega)
                exact ⟨(c % (routes.length : Int)).toNat, by rw [e]; omega, by omega, by omega⟩
              have hnz : ((sends.length : Int) == 0) = false := beq_eq_false_iff_ne.2 (by omega)
              have hnz2 : ¬ (sends.length : Int) = 0 := by omega
              have hnz3 : ((routes.length : Int) == 0) = false := beq_eq_false_iff_ne.2 (by omega)
              have hnz4 : ¬ (routes.length : Int) = 0 := by omega
              have HIL := Aside0.mk hil
              have HRL := Aside0.mk hrl'
              clear hrl hrl'
              have hi3 : (wrap64 b).tmod (sends.length : Int) = (i : Int) := by rw [show wrap64 b = b by have := HBU.out; unfold wrap64; omega]; exact hi1
              have hr3' : (wrap64 c).tmod (routes.length : Int) = (r : Int) := by rw [show wrap64 c = c by have := HCU.out; unfold wrap64; omega]; exact hr1'
              have x0 := HX11.out.x0
              have x1 := HX11.out.x1
              have x2 := HX11.out.x2
              go_wp2_with fail
              go_quiet (fail)
              clear hi3 hr3' hi1 hi2 hr1' hr2' hnz hnz2 hnz3 hnz4 x0 x1 x2
              have hqq : Below w11.heap.size w11 (w11.drewN nq) := pw_below_drewN (Below.refl _ _) nq
              have HX12 := Aside0.mk (HX11.out.later hqq)
              have HG12 := Aside0.mk (blk_below HG11.out hqq)
              have HPX12 := Aside0.mk (HPX11.out.below hqq)
              clear hqq HX11 HG11 HPX11
              generalize w11.drewN nq = w12 at HX12 HG12 HPX12 ⊢
              have hrrs : r < rs.length := by have := HRL.out; rw [HRS.out, List.length_map]; exact this
              have HRR := Aside0.mk hrrs
              obtain ⟨hl, hhl⟩ : ∃ hl, hoursOf (setsOf rs[r].f0 sends[i]) 101 = hl := ⟨_, rfl⟩
              have HHL : Aside0 (∀ z ∈ hl, 0 ≤ z ∧ z ≤ 48) := ⟨fun z hz => by
                rw [← hhl, mem_hoursOf] at hz
                exact (HV.out.setAt (List.getElem_mem HIL.out) (List.getElem_mem hrrs)).2 z hz.2.2⟩
              have HIH : Aside0 (hl.length ≤ 1000000) := ⟨by rw [← hhl]; have := hoursOf_len (setsOf rs[r].f0 sends[i]) 101; omega⟩
              have HE1 : Aside0 (hoursRes sends rs pat (i : Int) (r : Int) = (hl, 0)) := ⟨by
                rw [hoursRes, if_neg (by rw [HCK.out]; exact fun e => e rfl), if_neg]
                · rw [rdI HIL.out, show rd_T122 rs (r : Int) = rs[r] by unfold rd_T122; rw [Int.toNat_natCast, rd_in _ _ _ hrrs], hhl]
                · rw [show inB 0 ((sends.length : Int) - 1) (i : Int) = true from inB_iff.2 (by have := HIL.out; omega), show inB 0 ((rs.length : Int) - 1) (r : Int) = true from inB_iff.2 (by omega)]
                  decide⟩
              have HE2 : Aside0 (hoursRes xs rx pat (i : Int) (r : Int) = (hl.map (fun x => x + (n : Int)), 0)) := ⟨by
                have hix : i < xs.length := by have := HIL.out; have := HXLE.out; omega
                have hrx : r < rx.length := by rw [HRE.out, List.length_map]; exact hrrs
                have hh := hours_sh HV.out (n := (n : Int)) ⟨by omega, by omega⟩ (List.getElem_mem HIL.out) (List.getElem_mem hrrs)
                rw [hhl] at hh
                rw [hoursRes, if_neg (by rw [HCX.out]; exact fun e => e rfl), if_neg]
                · rw [rdI hix, show rd_T122 rx (r : Int) = rx[r] by unfold rd_T122; rw [Int.toNat_natCast, rd_in _ _ _ hrx]]
                  simp only [← HXS.out, HRE.out, List.getElem_map]
                  rw [hh]
                · rw [show inB 0 ((xs.length : Int) - 1) (i : Int) = true from inB_iff.2 (by omega), show inB 0 ((rx.length : Int) - 1) (r : Int) = true from inB_iff.2 (by omega)]
                  decide⟩
              clear hhl hrrs
              have x0 := HX12.out.x0
              have x1 := HX12.out.x1
              have x2 := HX12.out.x2
              go_wp2_with fail
              refine (post22_thin pat HRS.out (HP.out.below HX12.out.below) HTH.out).mono ?_
              rintro e w13 ⟨Ap, cp, Aq, cq, rfl, hp, hb⟩
              have HPP := Aside0.mk hp
              have HX13 := Aside0.mk (HX12.out.later hb)
              have HG13 := Aside0.mk (blk_below HG12.out hb)
              have HPX13 := Aside0.mk (HPX12.out.below hb)
              clear hb HX12 HG12 HPX12 hp x0 x1 x2
              go_wp2_with fail
              have hct := hours29 Ap cp sends Aq cq rs pat (i : Int) (r : Int) w13 HPP.out.h0 HPP.out.l0 HPP.out.h1 HPP.out.l1
              rw [HE1.out] at hct
              refine (hct).mono ?_
              rintro e w14 ⟨vj, rfl, hr, hb⟩
              obtain ⟨AI, cI, rfl, hlj, hCj⟩ := Kd.R_reads hr
              have HI14 := Aside0.mk hCj
              have HLI := Aside0.mk hlj
              have HX14 := Aside0.mk (HX13.out.later hb)
              have HG14 := Aside0.mk (blk_below HG13.out hb)
              have HPX14 := Aside0.mk (HPX13.out.below hb)
              clear hb HX13 HG13 HPX13 hr hlj hCj HPP hct
              dsimp only at HI14 HLI ⊢
              have g0 : w14.cell? ⟨gx, 0, none⟩ = some (.slice As xs.length cs) := (blk_cell HG14.out 0).trans rfl
              have g1 : w14.cell? ⟨gx, 1, none⟩ = some (.slice Ar xr.length cr) := (blk_cell HG14.out 1).trans rfl
              have g2 : w14.cell? ⟨gx, 2, none⟩ = some (.int .i64 pat) := (blk_cell HG14.out 2).trans rfl
              go_wp2_with fail
              refine (post22_thin pat HRX.out HPX14.out HTX.out).mono ?_
              rintro e w15 ⟨Ap, cp, Aq, cq, rfl, hp, hb⟩
              have HPP := Aside0.mk hp
              have HX15 := Aside0.mk (HX14.out.later hb)
              have HG15 := Aside0.mk (blk_below HG14.out hb)
              have HPX15 := Aside0.mk (HPX14.out.below hb)
              have HI15 := Aside0.mk (Kd.C_below HI14.out hb)
              clear hb HX14 HG14 HPX14 HI14 hp g0 g1 g2
              go_wp2_with fail
              have hct := hours29 Ap cp xs Aq cq rx pat (i : Int) (r : Int) w15 HPP.out.h0 HPP.out.l0 HPP.out.h1 HPP.out.l1
              rw [HE2.out] at hct
              refine (hct).mono ?_
              rintro e w16 ⟨vj, rfl, hr, hb⟩
              obtain ⟨AJ, cJ, rfl, hlj, hCj⟩ := Kd.R_reads hr
              have HJ16 := Aside0.mk hCj
              have HLJ := Aside0.mk hlj
              have HX16 := Aside0.mk (HX15.out.later hb)
              have HG16 := Aside0.mk (blk_below HG15.out hb)
              have HPX16 := Aside0.mk (HPX15.out.below hb)
              have HI16 := Aside0.mk (Kd.C_below HI15.out hb)
              clear hb HX15 HG15 HPX15 HI15 hr hlj hCj HPP hct
              dsimp only at HJ16 HLJ ⊢
              have x0 := HX16.out.x0
              have x1 := HX16.out.x1
              have x2 := HX16.out.x2
              go_wp2_with fail
              refine (post22_thin pat HRS.out (HP.out.below HX16.out.below) HTH.out).mono ?_
              rintro e w17 ⟨Ap, cp, Aq, cq, rfl, hp, hb⟩
              have HPP := Aside0.mk hp
              have HX17 := Aside0.mk (HX16.out.later hb)
              have HG17 := Aside0.mk (blk_below HG16.out hb)
              have HPX17 := Aside0.mk (HPX16.out.below hb)
              have HI17 := Aside0.mk (Kd.C_below HI16.out hb)
              have HJ17 := Aside0.mk (Kd.C_below HJ16.out hb)
              clear hb HX16 HG16 HPX16 HI16 HJ16 hp x0 x1 x2
              go_wp2_with fail
              have hct := spans33 Ap cp sends Aq cq rs pat w17 HPP.out.h0 HPP.out.l0 HPP.out.h1 HPP.out.l1
              rw [spansRes, if_neg (by rw [HCK.out]; exact fun e => e rfl)] at hct
              refine (hct).mono ?_
              rintro e w18 ⟨vj, rfl, hr, hb⟩
              obtain ⟨AS, cS, rfl, hlj, hCj⟩ := Kd.R_reads hr
              have HS18 := Aside0.mk hCj
              have HLS := Aside0.mk hlj
              have HX18 := Aside0.mk (HX17.out.later hb)
              have HG18 := Aside0.mk (blk_below HG17.out hb)
              have HPX18 := Aside0.mk (HPX17.out.below hb)
              have HI18 := Aside0.mk (Kd.C_below HI17.out hb)
              have HJ18 := Aside0.mk (Kd.C_below HJ17.out hb)
              clear hb HX17 HG17 HPX17 HI17 HJ17 hr hlj hCj HPP hct
              dsimp only at HS18 HLS ⊢
              have g0 : w18.cell? ⟨gx, 0, none⟩ = some (.slice As xs.length cs) := (blk_cell HG18.out 0).trans rfl
              have g1 : w18.cell? ⟨gx, 1, none⟩ = some (.slice Ar xr.length cr) := (blk_cell HG18.out 1).trans rfl
              have g2 : w18.cell? ⟨gx, 2, none⟩ = some (.int .i64 pat) := (blk_cell HG18.out 2).trans rfl
              go_wp2_with fail
              refine (post22_thin pat HRX.out HPX18.out HTX.out).mono ?_
              rintro e w19 ⟨Ap, cp, Aq, cq, rfl, hp, hb⟩
              have HPP := Aside0.mk hp
              have HX19 := Aside0.mk (HX18.out.later hb)
              have HG19 := Aside0.mk (blk_below HG18.out hb)
              have HPX19 := Aside0.mk (HPX18.out.below hb)
              have HI19 := Aside0.mk (Kd.C_below HI18.out hb)
              have HJ19 := Aside0.mk (Kd.C_below HJ18.out hb)
              have HS19 := Aside0.mk (Kd.C_below HS18.out hb)
              clear hb HX18 HG18 HPX18 HI18 HJ18 HS18 hp g0 g1 g2
              go_wp2_with fail
              have hct := spans33 Ap cp xs Aq cq rx pat w19 HPP.out.h0 HPP.out.l0 HPP.out.h1 HPP.out.l1
              rw [spansRes, if_neg (by rw [HCX.out]; exact fun e => e rfl)] at hct
              refine (hct).mono ?_
              rintro e w20 ⟨vj, rfl, hr, hb⟩
              obtain ⟨AU, cU, rfl, hlj, hCj⟩ := Kd.R_reads hr
              have HU20 := Aside0.mk hCj
              have HLU := Aside0.mk hlj
              have HX20 := Aside0.mk (HX19.out.later hb)
              have HG20 := Aside0.mk (blk_below HG19.out hb)
              have HPX20 := Aside0.mk (HPX19.out.below hb)
              have HI20 := Aside0.mk (Kd.C_below HI19.out hb)
              have HJ20 := Aside0.mk (Kd.C_below HJ19.out hb)
              have HS20 := Aside0.mk (Kd.C_below HS19.out hb)
              clear hb HX19 HG19 HPX19 HI19 HJ19 HS19 hr hlj hCj HPP hct
              dsimp only at HU20 HLU ⊢
              have HSL : Aside0 ((spansL sends rs pat sends.length).length = sends.length) := ⟨spansL_len sends rs pat sends.length⟩
              have HUL : Aside0 ((spansL xs rx pat xs.length).length = sends.length) := ⟨by rw [spansL_len]; exact HXLE.out⟩
              have HJL : Aside0 ((hl.map (fun x => x + (n : Int))).length = hl.length) := ⟨List.length_map ..⟩
              rw [HSL.out] at HS20
              rw [HUL.out] at HU20
              rw [HJL.out] at HJ20
              rw [HSL.out, HUL.out]
              have HSP : Aside0 (∀ k : Nat, k < sends.length → rd_T68 (spansL xs rx pat xs.length) (k : Int) = ⟨(rd_T68 (spansL sends rs pat sends.length) (k : Int)).f0 + (n : Int), (rd_T68 (spansL sends rs pat sends.length) (k : Int)).f1 + (n : Int)⟩ ∧ 0 ≤ (rd_T68 (spansL sends rs pat sends.length) (k : Int)).f0 ∧ (rd_T68 (spansL sends rs pat sends.length) (k : Int)).f0 ≤ (rd_T68 (spansL sends rs pat sends.length) (k : Int)).f1 ∧ (rd_T68 (spansL sends rs pat sends.length) (k : Int)).f1 ≤ 60) := ⟨fun k hk => by
                have e1 : rd_T68 (spansL sends rs pat sends.length) (k : Int) = spanAt sends rs pat k := by
                  rw [rd_T68, Int.toNat_natCast, spansL]
                  simp [List.getD, hk]
                have hkx : k < xs.length := by have := HXLE.out; omega
                have e2 : rd_T68 (spansL xs rx pat xs.length) (k : Int) = spanAt xs rx pat k := by
                  rw [rd_T68, Int.toNat_natCast, spansL]
                  simp [List.getD, hkx]
                rw [e1, e2, ← HXS.out, HRE.out]
                exact ⟨span_sh HV.out ⟨by omega, by omega⟩ hk, span_bounds HV.out hk⟩⟩
              have HMP : Aside0 (∀ k : Nat, k < hl.length → rd (hl.map (fun x => x + (n : Int))) (k : Int) = rd hl (k : Int) + (n : Int) ∧ 0 ≤ rd hl (k : Int) ∧ rd hl (k : Int) ≤ 48) := ⟨fun k hk => by
                have hk' : k < (hl.map (fun x => x + (n : Int))).length := by rw [List.length_map]; exact hk
                rw [rdI hk, rdI hk', List.getElem_map]
                exact ⟨rfl, HHL.out _ (List.getElem_mem hk)⟩⟩
              generalize spansL sends rs pat sends.length = ls at HS20 HSP HLS HSL
              generalize spansL xs rx pat xs.length = lu at HU20 HSP HLU HUL
              generalize hl.map (fun x => x + (n : Int)) = hm at HJ20 HMP HLJ HJL HE2
              clear HE1 HE2 HHL HLS HLU HLI HLJ HSL HUL HJL HG20 HPX20
              have hih := HIH.out
              go_wp2_with fail
              go_loopg [28] hl.length (fun gg s28 wr => ∃ k : Nat, k ≤ hl.length ∧ hl.length - k ≤ gg ∧ s28 = .int .i64 k ∧ Aside0 (Below w20.heap.size w20 wr))
              case atStart => exact ⟨0, by omega, by omega, rfl, ⟨Below.refl _ _⟩⟩
              case round =>
                obtain ⟨k, hk, hgk, rfl, HBi⟩ := hrel
                obtain ⟨wn, rfl⟩ : ∃ wn : World, wn = wr := ⟨_, rfl⟩
                by_cases hlt : k < hl.length
                · have hltz : (k : Int) < (hl.length : Int) := by omega
                  obtain ⟨adi, eai, i0⟩ := Kd.at_int (Kd.C_below HI20.out HBi.out) (k : Int) (by omega) hltz
                  obtain ⟨adj, eaj, j0⟩ := Kd.at_int (Kd.C_below HJ20.out HBi.out) (k : Int) (by omega) hltz
                  cases eai
                  cases eaj
                  rw [Int.toNat_natCast] at i0 j0
                  have hz := HMP.out k hlt
                  rw [hz.1] at j0
                  generalize rd hl (k : Int) = z at i0 j0 hz
                  have e1 : IntKind.i64.wrap (z + (n : Int)) = z + (n : Int) := IntWalk.i64_in _ (by omega)
                  have e2 : ((z + (n : Int)) != (z + (n : Int))) = false := by simp
                  clear hz
                  go_wp2_with fail
                  go_quiet (fail)
                  clear e1 e2
                  go_wp2_with fail
                  go_roundg (hl.length - (k + 1))
                  case measure => omega
                  case rel => exact ⟨k + 1, by omega, by omega, by go_num, ⟨by first | exact HBi.out | exact pw_below_drewN HBi.out _⟩⟩
                · have hltz : ¬ (k : Int) < (hl.length : Int) := by omega
                  go_wp2_with fail
                  clear hltz
                  go_loopg [29] sends.length (fun gg s29 wr => ∃ k : Nat, k ≤ sends.length ∧ sends.length - k ≤ gg ∧ s29 = .int .i64 k ∧ Aside0 (Below w20.heap.size w20 wr))
                  case atStart => exact ⟨0, by omega, by omega, rfl, HBi⟩
                  case round =>
                    obtain ⟨k, hk, hgk, rfl, HBj⟩ := hrel
                    obtain ⟨wo, rfl⟩ : ∃ wo : World, wo = wr := ⟨_, rfl⟩
                    by_cases hlt : k < sends.length
                    · have hltz : (k : Int) < (sends.length : Int) := by omega
                      obtain ⟨adi, eai, i0, i1⟩ := at_T68 (Kd.C_below HS20.out HBj.out) (k : Int) (by omega) hltz
                      obtain ⟨adj, eaj, j0, j1⟩ := at_T68 (Kd.C_below HU20.out HBj.out) (k : Int) (by omega) hltz
                      cases eai
                      cases eaj
                      rw [Int.toNat_natCast] at i0 i1 j0 j1
                      have hz := HSP.out k hlt
                      rw [hz.1] at j0 j1
                      dsimp only at j0 j1
                      generalize rd_T68 ls (k : Int) = ei at i0 i1 j0 j1 hz
                      obtain ⟨lo, hi'⟩ := ei
                      dsimp only at i0 i1 j0 j1 hz
                      have e1 : IntKind.i64.wrap (lo + (n : Int)) = lo + (n : Int) := IntWalk.i64_in _ (by omega)
                      have e2 : IntKind.i64.wrap (hi' + (n : Int)) = hi' + (n : Int) := IntWalk.i64_in _ (by omega)
                      clear hz
                      have KEEP : Aside0 (∀ w', Below wo.heap.size wo w' → (w'.cell? (adi.add (k * 2)) = some (.int .i64 lo) ∧ w'.cell? ⟨(adi.add (k * 2)).block, (adi.add (k * 2)).off + 1, none⟩ = some (.int .i64 hi') ∧ w'.cell? (adj.add (k * 2)) = some (.int .i64 (lo + (n : Int))) ∧ w'.cell? ⟨(adj.add (k * 2)).block, (adj.add (k * 2)).off + 1, none⟩ = some (.int .i64 (hi' + (n : Int))))) :=
                        ⟨fun w' hb => ⟨pw_cell_below hb i0, pw_cell_below hb i1, pw_cell_below hb j0, pw_cell_below hb j1⟩⟩
                      have hq0 : Aside0 (Below wo.heap.size wo wo.drew) := ⟨below_drew (Below.refl _ _)⟩
                      go_wp2_with fail
                      go_region_held3 (fun w' => w'.cell? (adi.add (k * 2)) = some (.int .i64 lo) ∧ w'.cell? ⟨(adi.add (k * 2)).block, (adi.add (k * 2)).off + 1, none⟩ = some (.int .i64 hi') ∧ w'.cell? (adj.add (k * 2)) = some (.int .i64 (lo + (n : Int))) ∧ w'.cell? ⟨(adj.add (k * 2)).block, (adj.add (k * 2)).off + 1, none⟩ = some (.int .i64 (hi' + (n : Int))))
                        (first
                          | exact KEEP.out _ hq0.out
                          | exact KEEP.out _ hq1.out)
                        (first
                          | (go_at_call 56; refine (between56 (lo + (n : Int)) (hi' + (n : Int)) _).mono ?_; rintro e wa ⟨rfl, ha⟩; have hq1 := Aside0.mk (below_then hq0.out hq0.out.size ha); clear ha))
                      clear e1 e2
                      go_wp2_with fail
                      go_roundg (sends.length - (k + 1))
                      case measure => omega
                      case rel => exact ⟨k + 1, by omega, by omega, by go_num, ⟨below_then HBj.out HBj.out.size hq1.out⟩⟩
                    · have hltz : ¬ (k : Int) < (sends.length : Int) := by omega
                      go_wp2_with fail
                      refine (awake20 wo).mono ?_
                      rintro e wz ⟨rfl, hb⟩
                      have HZ := Aside0.mk ((HX20.out.later HBj.out).later hb)
                      clear hb
                      go_wp2_with fail
                      go_ret
                      exact ⟨rfl, HZ.out.below⟩
            ·
              have hcn : decide (check xs rx pat = 0) = false := decide_eq_false hck
              generalize check xs rx pat = ck at hck hcn ⊢
              go_wp2_with fail
              refine (awake20 w11).mono ?_
              rintro e w12 ⟨rfl, hb⟩
              have HX12 := Aside0.mk (HX11.out.later hb)
              have HG12 := Aside0.mk (blk_below HG11.out hb)
              have HPX12 := Aside0.mk (HPX11.out.below hb)
              clear hb HX11 HG11 HPX11
              go_wp2_with fail
              go_ret
              exact ⟨rfl, HX12.out.below⟩
end Go.Proofs.Ytiephlhohgohcaa.PAll
