/- Part 16 of what the row rests on: each text as it stands among the working texts, cut to what is used; those of the print of the kit as a program printed them. -/
import Derived.Test.YtiephlhohgohcaaEnds14
import Derived.Test.YtiephlhohgohcaaEnds15
import Derived.Test.YtiephlhohgohcaaEnds13
import Derived.Test.YtiephlhohgohcaaEnds7
import Derived.Test.YtiephlhohgohcaaEnds8
import Derived.Test.YtiephlhohgohcaaEnds11
import Derived.Laws.EntriesVeiled
set_option linter.unusedVariables false
set_option linter.unusedSimpArgs false
namespace Go.Proofs.Ytiephlhohgohcaa.PAll
open Go.RowKit Go.Proofs.YtiephlhohgohcaaW.PrintWords Go.Proofs.YtiephlhohgohcaaW.PrintLast Go.Proofs.YtiephlhohgohcaaW.PrintMore
attribute [local go_sem] max2_int min2_int max_two min_two max_three min_three max_four min_four
set_option linter.unusedVariables false
set_option linter.unusedSimpArgs false
set_option maxRecDepth 100000 in
set_option maxHeartbeats 4000000 in
/-- The end: all dispatches have an hour. -/
theorem next137_end (w0 : World) (g : Nat) (A0 : Option Addr) (c0 : Nat) (sends : List Int) (A1 : Option Addr) (c1 : Nat) (routes : List S122) (pat : Int) (Al : Option Addr) (cl : Nat) (l : List S87)
    (hwk : WorkAt w0 g A0 c0 sends A1 c1 routes pat) (hs4 : sends.length ≤ 4)
    (bw bf bd bl bn mb N P : Nat) (before : Int) (hv : Value) (hs : List Int) (m : Int → Int → Bool) (w : World) (HBX : SBoxes w bw bf bd bl bn g mb Al l.length cl) (hbf : w0.heap.size ≤ bf) (hb0 : Below w0.heap.size w0 w) (hrow : Kd.R (Kd.int .i64) 3 w w0.heap.size (fun _ => True) hv hs)
    (hm : DMap w mb N m) (hsd : Sound routes pat l sends m) :
    Calls Try.prog 137 #[.int .i64 (sends.length : Int), .int .i64 before, hv, .pointer (some ⟨bw, 0, none⟩), .pointer (some ⟨bf, 0, none⟩), .pointer (some ⟨bd, 0, none⟩), .pointer (some ⟨bl, 0, none⟩), .pointer (some ⟨bn, 0, none⟩)] w
      (NextPost routes pat l sends w0 w bf mb N P hs (some [])) := by
  obtain ⟨Ah, ch, rfl⟩ := Kd.R_slice hrow
  obtain ⟨W1, hW1⟩ : ∃ W1, W1 = w.alloc (.cells #[.int .i64 (sends.length : Int)] 3) := ⟨_, rfl⟩
  have hb1 : Below w.heap.size w W1 := hW1 ▸ (Below.refl _ w).alloc (Nat.le_refl _) _
  have HW1 := Aside0.mk hW1
  have HB1 := Aside0.mk hb1
  have HBX1 := Aside0.mk (HBX.below hb1)
  have HM := Aside0.mk hm
  have HSD := Aside0.mk hsd
  have HR := Aside0.mk hrow
  have HB0 := Aside0.mk hb0
  have HG1 : Aside0 (∃ mbw, W1.heap[g]? = some (.cells #[.slice A0 sends.length c0, .slice A1 routes.length c1, .int .i64 pat, .map (some mbw)] 138 (0, 0))) := ⟨by obtain ⟨mbw, _, _, hg, _⟩ := (hwk.below hb0).below hb1; exact ⟨mbw, hg⟩⟩
  have b8 : W1.cell? ⟨w.heap.size, 0, none⟩ = some (.int .i64 (sends.length : Int)) := by rw [hW1]; exact (blk_cell (blk_new _ _) 0).trans rfl
  have bw0 : W1.cell? ⟨bw, 0, none⟩ = some (.pointer (some ⟨g, 0, none⟩)) := (blk_cell HBX1.out.work 0).trans rfl
  have g0 : W1.cell? ⟨g, 0, none⟩ = some (.slice A0 sends.length c0) := by obtain ⟨_, h⟩ := HG1.out; exact (blk_cell h 0).trans rfl
  have KEEP : Aside0 (∀ w' : World, Below W1.heap.size W1 w' → (w'.cell? ⟨w.heap.size, 0, none⟩ = some (.int .i64 (sends.length : Int)) ∧ w'.cell? ⟨bw, 0, none⟩ = some (.pointer (some ⟨g, 0, none⟩)) ∧ w'.cell? ⟨g, 0, none⟩ = some (.slice A0 sends.length c0))) :=
    ⟨fun w' hb => ⟨pw_cell_below hb b8, pw_cell_below hb bw0, pw_cell_below hb g0⟩⟩
  have hq0 : Aside0 (Below W1.heap.size W1 W1.drew) := ⟨below_drew (Below.refl _ _)⟩
  have HBF := Aside0.mk hbf
  obtain ⟨vf, hf⟩ := HBX1.out.found
  have ff := blk_frozen hf 0
  have fc : W1.cell? ⟨bf, 0, none⟩ = some vf := (blk_cell hf 0).trans rfl
  have HF := Aside0.mk hf
  clear hW1 hb1 HBX hm hsd hrow hb0 hwk hbf hf
  go_enter Try.func137, Try.ntmps137
  go_wp2_with fail
  rw [← HW1.out]
  go_region_held3 (fun w' => w'.cell? ⟨w.heap.size, 0, none⟩ = some (.int .i64 (sends.length : Int)) ∧ w'.cell? ⟨bw, 0, none⟩ = some (.pointer (some ⟨g, 0, none⟩)) ∧ w'.cell? ⟨g, 0, none⟩ = some (.slice A0 sends.length c0))
    (first | exact KEEP.out _ hq0.out) (first | fail)
  go_wp2_with fail
  go_ret
  have hkb : KeptBut bf mb w W1 := .of_below HB1.out
  have hb2 : Below w0.heap.size w0 W1 := below_then HB0.out HB0.out.size HB1.out
  obtain ⟨hv, HV⟩ : ∃ hv, hv = Value.slice Ah hs.length ch := ⟨_, rfl⟩
  rw [← HV]
  have HRR := HR.out
  rw [← HV] at HRR
  refine ⟨N, m, hv, by omega, DMap.eq HM.out ?_, HSD.out, hkb.trans ((KeptBut.set W1 0 hv).trans (.of_below (below_drew (Below.refl _ _)))), below_drew (hb2.setCell (p := ⟨bf, 0, none⟩) HBF.out hv), rfl, blk_set HF.out 0 hv, fun r hr => ?_⟩
  · have h1 : mb ≠ bf := fun e => map_ne (HM.out.below HB1.out) HF.out e.symm
    exact (Below.heap_setCell W1 ⟨bf, 0, none⟩ hv mb h1).trans (HB1.out.block mb HM.out.lt)
  · obtain rfl := Option.some.inj hr
    rw [List.append_nil]
    exact Kd.R_below (Kd.R_set (Kd.R_below HRR HB1.out) HF.out (by decide) 0 hv) (below_drew (Below.refl _ _))
end Go.Proofs.Ytiephlhohgohcaa.PAll
namespace Go.Proofs.Ytiephlhohgohcaa.PAll
open Go.RowKit Go.Proofs.YtiephlhohgohcaaW.PrintWords Go.Proofs.YtiephlhohgohcaaW.PrintLast Go.Proofs.YtiephlhohgohcaaW.PrintMore
attribute [local go_sem] max2_int min2_int max_two min_two max_three min_three max_four min_four
set_option linter.unusedVariables false
set_option linter.unusedSimpArgs false
/-- What the rest of the search does: its next call. -/
def Rest137 (w0 : World) (sends : List Int) (routes : List S122) (pat : Int) (Al : Option Addr) (cl : Nat) (l : List S87) (g bw bf bd bl bn mb P : Nat) (n : Nat) : Prop :=
  ∀ (before : Int) (hv : Value) (hs : List Int) (N : Nat) (m : Int → Int → Bool) (w : World), 0 ≤ before → before ≤ 100 → SBoxes w bw bf bd bl bn g mb Al l.length cl → Below w0.heap.size w0 w → Kd.R (Kd.int .i64) 3 w w0.heap.size (fun _ => True) hv hs → hs.length ≤ n →
    DMap w mb N m → Sound routes pat l sends m → N + P ≤ 1000000000 →
    Calls Try.prog 137 #[.int .i64 (n : Int), .int .i64 before, hv, .pointer (some ⟨bw, 0, none⟩), .pointer (some ⟨bf, 0, none⟩), .pointer (some ⟨bd, 0, none⟩), .pointer (some ⟨bl, 0, none⟩), .pointer (some ⟨bn, 0, none⟩)] w
      (NextPost routes pat l sends w0 w bf mb N P hs (srchL routes pat l (sends.drop n) n before))
set_option maxRecDepth 100000 in
set_option maxHeartbeats 8000000 in
theorem next137_step (w0 : World) (g : Nat) (A0 : Option Addr) (c0 : Nat) (sends : List Int) (A1 : Option Addr) (c1 : Nat) (routes : List S122) (pat : Int) (Al : Option Addr) (cl : Nat) (l : List S87)
    (hwk : WorkAt w0 g A0 c0 sends A1 c1 routes pat) (h0 : Kd.C (Kd.int .i64) w0 A0 sends.length sends) (l0 : sends.length ≤ c0) (h1 : Kd.C k122 w0 A1 routes.length routes) (l1 : routes.length ≤ c1) (hl : Kd.C k87 w0 Al l.length l) (V : Valid sends routes pat)
    (bw bf bd bl bn mb P : Nat) (hbf : w0.heap.size ≤ bf) (hmb : w0.heap.size ≤ mb) (hP : P ≤ 2000000) (n : Nat) (hn : n < sends.length) (IH : Rest137 w0 sends routes pat Al cl l g bw bf bd bl bn mb P (n + 1)) :
    Rest137 w0 sends routes pat Al cl l g bw bf bd bl bn mb (102 * P + 1) n := by
  intro before hv hs N m w hbe0 hbe1 HBX hb0 hrow hhs hm hsd hN
  obtain ⟨Ah, ch, rfl⟩ := Kd.R_slice hrow
  obtain ⟨W1, hW1⟩ : ∃ W1, W1 = w.alloc (.cells #[.int .i64 (n : Int)] 3) := ⟨_, rfl⟩
  have hb1 : Below w.heap.size w W1 := hW1 ▸ (Below.refl _ w).alloc (Nat.le_refl _) _
  have HW1 := Aside0.mk hW1
  have IH' := Aside0.mk IH
  have HWK := Aside0.mk hwk
  have H0 := Aside0.mk h0
  have H1 := Aside0.mk h1
  have HL := Aside0.mk hl
  have L0 := Aside0.mk l0
  have L1 := Aside0.mk l1
  have VV := Aside0.mk V
  have hs4 := V.sn
  have HB1 := Aside0.mk hb1
  have HM1 := Aside0.mk (hm.below hb1)
  have HSD := Aside0.mk hsd
  have HBF := Aside0.mk hbf
  have HMB := Aside0.mk hmb
  have HN1 : Aside0 (NAt w0 w W1 bw bf bd bl bn g mb w.heap.size Al l.length cl (n : Int) (.slice Ah hs.length ch) hs) :=
    ⟨⟨HBX.below hb1, by rw [hW1]; exact blk_new _ _, .of_below hb1, below_then hb0 hb0.size hb1, Kd.R_below hrow hb1⟩⟩
  have HG0 : Aside0 (∃ mbw, w0.heap[g]? = some (.cells #[.slice A0 sends.length c0, .slice A1 routes.length c1, .int .i64 pat, .map (some mbw)] 138 (0, 0))) := ⟨by obtain ⟨mbw, _, _, hg, _⟩ := hwk; exact ⟨mbw, hg⟩⟩
  obtain ⟨mbw, hg⟩ := HG0.out
  have HG := Aside0.mk hg
  have b8 : W1.cell? ⟨w.heap.size, 0, none⟩ = some (.int .i64 (n : Int)) := (blk_cell HN1.out.num 0).trans rfl
  have bw0 : W1.cell? ⟨bw, 0, none⟩ = some (.pointer (some ⟨g, 0, none⟩)) := (blk_cell HN1.out.boxes.work 0).trans rfl
  have bd0 : W1.cell? ⟨bd, 0, none⟩ = some (.map (some mb)) := (blk_cell HN1.out.boxes.dead 0).trans rfl
  have g0 : W1.cell? ⟨g, 0, none⟩ = some (.slice A0 sends.length c0) := (blk_cell (blk_below hg HN1.out.below) 0).trans rfl
  have KEEP : Aside0 (∀ w' : World, Below W1.heap.size W1 w' → (w'.cell? ⟨w.heap.size, 0, none⟩ = some (.int .i64 (n : Int)) ∧ w'.cell? ⟨bw, 0, none⟩ = some (.pointer (some ⟨g, 0, none⟩)) ∧ w'.cell? ⟨g, 0, none⟩ = some (.slice A0 sends.length c0))) :=
    ⟨fun w' hb => ⟨pw_cell_below hb b8, pw_cell_below hb bw0, pw_cell_below hb g0⟩⟩
  have hq0 : Aside0 (Below W1.heap.size W1 W1.drew) := ⟨below_drew (Below.refl _ _)⟩
  have hlook := DMap.lookup (HM1.out.below hq0.out) (i := (n : Int)) (k := before) (WalkArith.wf_i64 (by omega)) (WalkArith.wf_i64 (by omega))
  have hne : ((n : Int) == (sends.length : Int)) = false := beq_eq_false_iff_ne.2 (by omega)
  clear hW1 hb1 HBX hm hsd hrow hb0 hwk hbf hmb h0 h1 hl l0 l1 V IH hg HG0
  by_cases hmn : m (n : Int) before = true
  · rw [hmn] at hlook
    have HO : Aside0 (srchL routes pat l (sends.drop n) n before = none) := ⟨HSD.out n before hmn⟩
    clear hmn
    go_enter Try.func137, Try.ntmps137
    go_wp2_with fail
    rw [← HW1.out]
    go_region_held3 (fun w' => w'.cell? ⟨w.heap.size, 0, none⟩ = some (.int .i64 (n : Int)) ∧ w'.cell? ⟨bw, 0, none⟩ = some (.pointer (some ⟨g, 0, none⟩)) ∧ w'.cell? ⟨g, 0, none⟩ = some (.slice A0 sends.length c0))
      (first | exact KEEP.out _ hq0.out) (first | fail)
    go_wp2_with fail
    go_ret
    rw [HO.out]
    obtain ⟨vf, hf⟩ := HN1.out.boxes.found
    exact ⟨N, m, vf, by omega, HM1.out.below hq0.out, HSD.out, HN1.out.kept.trans (.of_below hq0.out), below_then HN1.out.below HN1.out.below.size hq0.out, rfl, blk_below hf hq0.out, fun r hr => by cases hr⟩
  · have hmf : m (n : Int) before = false := by simpa using hmn
    rw [hmf] at hlook
    clear hmn hmf
    go_enter Try.func137, Try.ntmps137
    go_wp2_with fail
    rw [← HW1.out]
    go_region_held3 (fun w' => w'.cell? ⟨w.heap.size, 0, none⟩ = some (.int .i64 (n : Int)) ∧ w'.cell? ⟨bw, 0, none⟩ = some (.pointer (some ⟨g, 0, none⟩)) ∧ w'.cell? ⟨g, 0, none⟩ = some (.slice A0 sends.length c0))
      (first | exact KEEP.out _ hq0.out) (first | fail)
    go_wp2_with fail
    have HND := Aside0.mk (HN1.out.later hq0.out)
    have HMD := Aside0.mk (HM1.out.below hq0.out)
    go_loopg [29] 102 (fun gg s29 wr => ∃ (k Nk : Nat) (mk : Int → Int → Bool), k ≤ 102 ∧ 102 - k ≤ gg ∧ s29 = .int .i64 k ∧ Aside0 (Nk ≤ N + k * P) ∧ Aside0 (DMap wr mb Nk mk) ∧ Aside0 (Sound routes pat l sends mk) ∧
      Aside0 (NAt w0 w wr bw bf bd bl bn g mb w.heap.size Al l.length cl (n : Int) (.slice Ah hs.length ch) hs) ∧ Aside0 (∀ j : Nat, j < k → tryL routes pat l sends[n] (sends.drop (n + 1)) n before j = none))
    case atStart => exact ⟨0, N, m, by omega, by omega, rfl, ⟨by omega⟩, HMD, HSD, HND, ⟨fun j hj => by omega⟩⟩
    case round =>
      obtain ⟨k, Nk, mk, hk, hgk, rfl, HNk, HMr, HSr, HNr, HTr⟩ := hrel
      clear HM1 HN1 HND HMD hlook hq0 KEEP
      clear b8 bw0 bd0 g0
      obtain ⟨wm, rfl⟩ : ∃ wm : World, wm = wr := ⟨_, rfl⟩
      by_cases hlt : k < 102
      · have hltz : (k : Int) < 102 := by omega
        have b8 : wm.cell? ⟨w.heap.size, 0, none⟩ = some (.int .i64 (n : Int)) := (blk_cell HNr.out.num 0).trans rfl
        have bw0 : wm.cell? ⟨bw, 0, none⟩ = some (.pointer (some ⟨g, 0, none⟩)) := (blk_cell HNr.out.boxes.work 0).trans rfl
        have HGm := Aside0.mk (blk_below HG.out HNr.out.below)
        have g0 : wm.cell? ⟨g, 0, none⟩ = some (.slice A0 sends.length c0) := (blk_cell HGm.out 0).trans rfl
        have g1 : wm.cell? ⟨g, 1, none⟩ = some (.slice A1 routes.length c1) := (blk_cell HGm.out 1).trans rfl
        have g2 : wm.cell? ⟨g, 2, none⟩ = some (.int .i64 pat) := (blk_cell HGm.out 2).trans rfl
        have KEEP : Aside0 (∀ w' : World, Below wm.heap.size wm w' → (w'.cell? ⟨w.heap.size, 0, none⟩ = some (.int .i64 (n : Int)) ∧ w'.cell? ⟨bw, 0, none⟩ = some (.pointer (some ⟨g, 0, none⟩)) ∧ w'.cell? ⟨g, 0, none⟩ = some (.slice A0 sends.length c0) ∧ w'.cell? ⟨g, 1, none⟩ = some (.slice A1 routes.length c1) ∧ w'.cell? ⟨g, 2, none⟩ = some (.int .i64 pat))) :=
          ⟨fun w' hb => ⟨pw_cell_below hb b8, pw_cell_below hb bw0, pw_cell_below hb g0, pw_cell_below hb g1, pw_cell_below hb g2⟩⟩
        have hq0 : Aside0 (Below wm.heap.size wm wm.drew) := ⟨below_drew (Below.refl _ _)⟩
        have hqA : Aside0 (Below wm.heap.size wm (wm.alloc (.cells #[.int .i64 0, .int .i64 0, .bool false] 87)).drew) := ⟨below_drew ((Below.refl _ _).alloc (Nat.le_refl _) _)⟩
        have hkA : Aside0 ((wm.alloc (.cells #[.int .i64 0, .int .i64 0, .bool false] 87)).drew.heap[wm.heap.size]? = some (.cells #[.int .i64 0, .int .i64 0, .bool false] 87 (0, 0))) := ⟨blk_drew (blk_new _ _)⟩
        have hrd : rd sends (n : Int) = sends[n] := by unfold rd; rw [Int.toNat_natCast, rd_in _ _ _ hn]
        have hs0 := VV.out.s0 _ (List.getElem_mem hn)
        have hp0 := VV.out.p0
        have HD := Aside0.mk (show wrap64 (rd sends (n : Int) + pat) = sends[n] + pat by rw [hrd]; unfold wrap64; omega)
        have HREC : Aside0 (∀ w', Below wm.heap.size wm w' → Calls Try.prog 124 #[.agg #[.slice A0 sends.length c0, .slice A1 routes.length c1, .int .i64 pat], .int .i64 (n : Int), .int .i64 before, .int .i64 (k : Int)] w' fun e w'' =>
            e = .returned (.agg #[.int .i64 (recvE n before k (sends[n] + pat)).f0, .int .i64 (recvE n before k (sends[n] + pat)).f1, .bool (recvE n before k (sends[n] + pat)).f2]) ∧ Below w'.heap.size w' w'') :=
          ⟨fun w' hb => by
            have hbb := below_then HNr.out.below HNr.out.below.size hb
            exact receive124 A0 c0 sends A1 c1 routes pat (n : Int) before (k : Int) (sends[n] + pat) w' (Kd.C_below H0.out hbb) L0.out (Kd.C_below H1.out hbb) L1.out (by omega) (by omega) HD.out⟩
        have HE1 : Aside0 (0 ≤ (recvE n before k (sends[n] + pat)).f1 ∧ (recvE n before k (sends[n] + pat)).f1 ≤ 100) := ⟨by simp only [recvE]; omega⟩
        clear hrd hs0 hp0
        obtain ⟨ev, hev⟩ : ∃ ev, ev = recvE n before k (sends[n] + pat) := ⟨_, rfl⟩
        rw [← hev] at HREC HE1
        have HEV := Aside0.mk hev
        clear hev
        go_upto_region 9 with fail
        go_cut [13] (fun s13 wx => ∃ ge : Nat, s13 = .pointer (some ⟨ge, 0, none⟩) ∧ Aside0 (wx.heap[ge]? = some (.cells #[.int .i64 ev.f0, .int .i64 ev.f1, .bool ev.f2] 87 (0, 0))) ∧ Aside0 (Below wm.heap.size wm wx))
        case first =>
          go_region_held3 (fun w' => w'.cell? ⟨w.heap.size, 0, none⟩ = some (.int .i64 (n : Int)) ∧ w'.cell? ⟨bw, 0, none⟩ = some (.pointer (some ⟨g, 0, none⟩)) ∧ w'.cell? ⟨g, 0, none⟩ = some (.slice A0 sends.length c0) ∧ w'.cell? ⟨g, 1, none⟩ = some (.slice A1 routes.length c1) ∧ w'.cell? ⟨g, 2, none⟩ = some (.int .i64 pat))
            (first
              | exact KEEP.out _ hq0.out
              | exact KEEP.out _ hqA.out
              | exact KEEP.out _ hq1.out
              | exact KEEP.out _ (hq1.out.alloc hq1.out.size _)
              | exact KEEP.out _ (((hq1.out.setCell (p := ⟨wm.heap.size, 0, none⟩) (Nat.le_refl _) _).setCell (p := ⟨wm.heap.size, 1, none⟩) (Nat.le_refl _) _).setCell (p := ⟨wm.heap.size, 2, none⟩) (Nat.le_refl _) _))
            (first
              | (go_at_call 124; refine (HREC.out ((wm.alloc (.cells #[.int .i64 0, .int .i64 0, .bool false] 87)).drew) hqA.out).mono ?_; rintro e w3 ⟨rfl, hb3⟩; have hq1 := Aside0.mk (below_then hqA.out hqA.out.size hb3); have hk3 := blk_below hkA.out hb3; have f0 := blk_frozen hk3 0; have f1 := blk_frozen hk3 1; have f2 := blk_frozen hk3 2; have q0 := (blk_cell hk3 0).trans rfl; have q1 := (blk_cell hk3 1).trans rfl; have q2 := (blk_cell hk3 2).trans rfl; have HK3 := Aside0.mk hk3; clear hb3 hk3)
              | (go_at_call 124; refine (HREC.out wm.drew hq0.out).mono ?_; rintro e w3 ⟨rfl, hb3⟩; have hq1 := Aside0.mk (below_then hq0.out hq0.out.size hb3); clear hb3))
          all_goals (go_wp2_with fail; go_meet)
          all_goals first
            | exact ⟨w3.heap.size, rfl, ⟨blk_new _ _⟩, ⟨hq1.out.alloc hq1.out.size _⟩⟩
            | (have hb1 := blk_set HK3.out 0 (.int .i64 ev.f0)
               have hb2 := blk_set hb1 1 (.int .i64 ev.f1)
               have hb3 := blk_set hb2 2 (.bool ev.f2)
               exact ⟨wm.heap.size, rfl, ⟨hb3⟩, ⟨((hq1.out.setCell (p := ⟨wm.heap.size, 0, none⟩) (Nat.le_refl _) _).setCell (p := ⟨wm.heap.size, 1, none⟩) (Nat.le_refl _) _).setCell (p := ⟨wm.heap.size, 2, none⟩) (Nat.le_refl _) _⟩⟩)
        case rest =>
          obtain ⟨ge, rfl, HGE, HBx⟩ := hcut
          obtain ⟨wx, rfl⟩ : ∃ wx : World, wx = wc := ⟨_, rfl⟩
          clear b8 bw0 g0 g1 g2 KEEP hq0 hqA hkA HREC HD HGm
          have HNx := Aside0.mk (HNr.out.later HBx.out)
          have b8 : wx.cell? ⟨w.heap.size, 0, none⟩ = some (.int .i64 (n : Int)) := (blk_cell HNx.out.num 0).trans rfl
          have bw0 : wx.cell? ⟨bw, 0, none⟩ = some (.pointer (some ⟨g, 0, none⟩)) := (blk_cell HNx.out.boxes.work 0).trans rfl
          have bl0 : wx.cell? ⟨bl, 0, none⟩ = some (.slice Al l.length cl) := (blk_cell HNx.out.boxes.list 0).trans rfl
          have bn0 : wx.cell? ⟨bn, 0, none⟩ = some (.func (.func 137) #[] #[.pointer (some ⟨bw, 0, none⟩), .pointer (some ⟨bf, 0, none⟩), .pointer (some ⟨bd, 0, none⟩), .pointer (some ⟨bl, 0, none⟩), .pointer (some ⟨bn, 0, none⟩)]) := (blk_cell HNx.out.boxes.next 0).trans rfl
          have ge1 : wx.cell? ⟨ge, 1, none⟩ = some (.int .i64 ev.f1) := (blk_cell HGE.out 1).trans rfl
          have hq0 : Aside0 (Below wx.heap.size wx wx.drew) := ⟨below_drew (Below.refl _ _)⟩
          have HCAN : Aside0 (∀ w', Below wx.heap.size wx w' → Calls Try.prog 139 #[.pointer (some ⟨g, 0, none⟩), .int .i64 (n : Int), .int .i64 (k : Int)] w' fun e w'' => e = .returned (.bool (canL routes sends[n] (k : Int) ((k : Int) == 101))) ∧ Below w'.heap.size w' w'') :=
            ⟨fun w' hb => by
              have hbb := below_then HNx.out.below HNx.out.below.size hb
              exact can139 g A0 c0 sends A1 c1 routes pat pat w' (Kd.C_below H1.out hbb) (HWK.out.below hbb) VV.out n hn k (by omega)⟩
          have HANY : Aside0 (∀ w', Below wx.heap.size wx w' → Calls Try.prog 140 #[.slice Al l.length cl, .func (.func 138) #[] #[.pointer (some ⟨w.heap.size, 0, none⟩), .pointer (some ⟨ge, 0, none⟩)]] w' fun e w'' => e = .returned (.bool (l.any (wrongB (n : Int) ev))) ∧ Below w'.heap.size w' w'') :=
            ⟨fun w' hb => by
              have hbb := below_then HNx.out.below HNx.out.below.size hb
              refine contains140 138 #[] #[.pointer (some ⟨w.heap.size, 0, none⟩), .pointer (some ⟨ge, 0, none⟩)] (wrongB (n : Int) ev) (enters_of Try.func138 (by kernel_rfl) rfl) Al cl l w' (Kd.C_below HL.out hbb) ?_
              rintro W x v hW _ rfl
              exact wrong138 (n : Int) ev x w.heap.size ge W (blk_below (blk_below HNx.out.num hb) hW) (blk_below (blk_below HGE.out hb) hW)⟩
          go_wp2_with fail
          by_cases hcan : canL routes sends[n] (k : Int) ((k : Int) == 101) = true
          · rw [hcan] at HCAN
            by_cases hany : l.any (wrongB (n : Int) ev) = true
            · rw [hany] at HANY
              have HTK : Aside0 (tryL routes pat l sends[n] (sends.drop (n + 1)) n before k = none) := ⟨by
                unfold tryL goodB
                rw [← HEV.out, hany, Bool.not_true, Bool.and_false]
                rfl⟩
              clear hcan hany bn0 ge1
              have KEEP : Aside0 (∀ w' : World, Below wx.heap.size wx w' → (w'.cell? ⟨w.heap.size, 0, none⟩ = some (.int .i64 (n : Int)) ∧ w'.cell? ⟨bw, 0, none⟩ = some (.pointer (some ⟨g, 0, none⟩)) ∧ w'.cell? ⟨bl, 0, none⟩ = some (.slice Al l.length cl))) :=
                ⟨fun w' hb => ⟨pw_cell_below hb b8, pw_cell_below hb bw0, pw_cell_below hb bl0⟩⟩
              refine start_ (n := 23) (S := fun w' => w'.cell? ⟨w.heap.size, 0, none⟩ = some (.int .i64 (n : Int)) ∧ w'.cell? ⟨bw, 0, none⟩ = some (.pointer (some ⟨g, 0, none⟩)) ∧ w'.cell? ⟨bl, 0, none⟩ = some (.slice Al l.length cl)) (ds := []) #[false, false, false, false, false, false, false, false, false, false, false, false, false, false, false, false, false, false, false, false, false, false, false] (by kernel_rfl) rfl rfl ⟨b8, bw0, bl0⟩ (fun hHeld => ?_)
              refine pure_ (i := 2) (N := (some 43)) (v := ?_) (a' := ?_) #[false, false, true, false, false, false, false, false, false, false, false, false, false, false, false, false, false, false, false, false, false, false, false] rfl rfl (by kernel_rfl) (fun _ _ _ h => h) (Or.inl ⟨by rfl, ?_⟩) ?_ ?_
              rotate_left
              · intro w'
                go_simp
                with_reducible rfl
              rotate_left
              · simp only [Act.put, List.setIfInBounds_toArray, List.set_cons_zero, List.set_cons_succ, i64_w, i32_w]
                rfl
              refine take_ (i := 0) (N := (some 41)) (v := ?_) (a' := ?_) #[true, false, true, false, false, false, false, false, false, false, false, false, false, false, false, false, false, false, false, false, false, false, false] rfl rfl (by kernel_rfl) (fun _ _ _ h => h) (Or.inl ⟨by rfl, ?_⟩) hHeld ?_ ?_
              rotate_left
              · rintro w' ⟨s0, s1, s2⟩
                go_simp
                with_reducible rfl
              rotate_left
              · simp only [Act.put, List.setIfInBounds_toArray, List.set_cons_zero, List.set_cons_succ, i64_w, i32_w]
                rfl
              refine take_ (i := 1) (N := (some 42)) (v := ?_) (a' := ?_) #[true, true, true, false, false, false, false, false, false, false, false, false, false, false, false, false, false, false, false, false, false, false, false] rfl rfl (by kernel_rfl) (fun _ _ _ h => h) (Or.inl ⟨by rfl, ?_⟩) hHeld ?_ ?_
              rotate_left
              · rintro w' ⟨s0, s1, s2⟩
                go_simp
                with_reducible rfl
              rotate_left
              · simp only [Act.put, List.setIfInBounds_toArray, List.set_cons_zero, List.set_cons_succ, i64_w, i32_w]
                rfl
              refine one_ (i := 3) (N := (some 44)) #[true, true, true, true, false, false, false, false, false, false, false, false, false, false, false, false, false, false, false, false, false, false, false] rfl rfl (by kernel_rfl) (by decide) (fun K hK => ?_)
              refine goes_ Try.func139 (by kernel_rfl) rfl #[.pointer (some ⟨g, 0, none⟩), .int .i64 (n : Int), .int .i64 (k : Int)] (by rfl) rfl rfl (by (try simp only [List.map_toArray, List.map_cons, List.map_nil]); first | done | rfl) ?_
              refine (HCAN.out wx.drew hq0.out).mono ?_
              rintro e w3 ⟨rfl, hb3⟩
              refine ⟨_, rfl, ?_⟩
              have hq1 := Aside0.mk (below_then hq0.out hq0.out.size hb3)
              clear hb3
              refine hK.out _ _ (KEEP.out _ hq1.out) (fun hHeld => ?_)
              clear hK K
              refine norm_ (a' := ?_) ?_ ?_
              rotate_left
              · show Act.put _ (some 44) _ = _
                simp only [Act.put, List.setIfInBounds_toArray, List.set_cons_zero, List.set_cons_succ, i64_w, i32_w]
                rfl
              refine pure_ (i := 4) (N := (some 45)) (v := ?_) (a' := ?_) #[true, true, true, true, true, false, false, false, false, false, false, false, false, false, false, false, false, false, false, false, false, false, false] rfl rfl (by kernel_rfl) (fun _ _ _ h => h) (Or.inl ⟨by rfl, ?_⟩) ?_ ?_
              rotate_left
              · intro w'
                go_simp
                with_reducible rfl
              rotate_left
              · simp only [Act.put, List.setIfInBounds_toArray, List.set_cons_zero, List.set_cons_succ, i64_w, i32_w]
                rfl
              refine take_ (i := 5) (N := (some 46)) (v := ?_) (a' := ?_) #[true, true, true, true, true, true, false, false, false, false, false, false, false, false, false, false, false, false, false, false, false, false, false] rfl rfl (by kernel_rfl) (fun _ _ _ h => h) (Or.inl ⟨by rfl, ?_⟩) hHeld ?_ ?_
              rotate_left
              · rintro w' ⟨s0, s1, s2⟩
                go_simp
                with_reducible rfl
              rotate_left
              · simp only [Act.put, List.setIfInBounds_toArray, List.set_cons_zero, List.set_cons_succ, i64_w, i32_w]
                rfl
              refine pure_ (i := 6) (N := (some 47)) (v := ?_) (a' := ?_) #[true, true, true, true, true, true, true, false, false, false, false, false, false, false, false, false, false, false, false, false, false, false, false] rfl rfl (by kernel_rfl) (fun _ _ _ h => h) (Or.inl ⟨by rfl, ?_⟩) ?_ ?_
              rotate_left
              · intro w'
                go_simp
                with_reducible rfl
              rotate_left
              · simp only [Act.put, List.setIfInBounds_toArray, List.set_cons_zero, List.set_cons_succ, i64_w, i32_w]
                rfl
              refine one_ (i := 7) (N := (some 48)) #[true, true, true, true, true, true, true, true, false, false, false, false, false, false, false, false, false, false, false, false, false, false, false] rfl rfl (by kernel_rfl) (by decide) (fun K hK => ?_)
              refine goes_ Try.func140 (by kernel_rfl) rfl #[.slice Al l.length cl, .func (.func 138) #[] #[.pointer (some ⟨w.heap.size, 0, none⟩), .pointer (some ⟨ge, 0, none⟩)]] (by rfl) rfl rfl (by (try simp only [List.map_toArray, List.map_cons, List.map_nil]); first | done | rfl) ?_
              refine (HANY.out w3 hq1.out).mono ?_
              rintro e w4 ⟨rfl, hb4⟩
              refine ⟨_, rfl, ?_⟩
              have hq2 := Aside0.mk (below_then hq1.out hq1.out.size hb4)
              clear hb4
              refine hK.out _ _ (KEEP.out _ hq2.out) (fun hHeld => ?_)
              clear hK K
              refine norm_ (a' := ?_) ?_ ?_
              rotate_left
              · show Act.put _ (some 48) _ = _
                simp only [Act.put, List.setIfInBounds_toArray, List.set_cons_zero, List.set_cons_succ, i64_w, i32_w]
                rfl
              refine pure_ (i := 8) (N := (some 49)) (v := ?_) (a' := ?_) #[true, true, true, true, true, true, true, true, true, false, false, false, false, false, false, false, false, false, false, false, false, false, false] rfl rfl (by kernel_rfl) (fun _ _ _ h => h) (Or.inl ⟨by rfl, ?_⟩) ?_ ?_
              rotate_left
              · intro w'
                go_simp
                with_reducible rfl
              rotate_left
              · simp only [Act.put, List.setIfInBounds_toArray, List.set_cons_zero, List.set_cons_succ, i64_w, i32_w]
                rfl
              refine pure_ (i := 9) (N := (some 50)) (v := ?_) (a' := ?_) #[true, true, true, true, true, true, true, true, true, true, false, false, false, false, false, false, false, false, false, false, false, false, false] rfl rfl (by kernel_rfl) (fun _ _ _ h => h) (Or.inl ⟨by rfl, ?_⟩) ?_ ?_
              rotate_left
              · intro w'
                go_simp
                with_reducible rfl
              rotate_left
              · simp only [Act.put, List.setIfInBounds_toArray, List.set_cons_zero, List.set_cons_succ, i64_w, i32_w]
                rfl
              refine pure_ (i := 10) (N := (some 51)) (v := ?_) (a' := ?_) #[true, true, true, true, true, true, true, true, true, true, true, false, false, false, false, false, false, false, false, false, false, false, false] rfl rfl (by kernel_rfl) (fun _ _ _ h => h) (Or.inl ⟨by rfl, ?_⟩) ?_ ?_
              rotate_left
              · intro w'
                go_simp
                with_reducible rfl
              rotate_left
              · simp only [Act.put, List.setIfInBounds_toArray, List.set_cons_zero, List.set_cons_succ, i64_w, i32_w]
                rfl
              refine pure_ (i := 11) (N := (some 52)) (v := undef) (a' := ?_) #[true, true, true, true, true, true, true, true, true, true, true, true, false, false, false, false, false, false, false, false, false, false, false] rfl rfl (by kernel_rfl) (fun _ _ _ h => h) (Or.inr ⟨by rfl, rfl⟩) ?_ ?_
              rotate_left
              · simp only [Act.put, List.setIfInBounds_toArray, List.set_cons_zero, List.set_cons_succ, i64_w, i32_w]
                rfl
              refine pure_ (i := 12) (N := (some 53)) (v := undef) (a' := ?_) #[true, true, true, true, true, true, true, true, true, true, true, true, true, false, false, false, false, false, false, false, false, false, false] rfl rfl (by kernel_rfl) (fun _ _ _ h => h) (Or.inr ⟨by rfl, rfl⟩) ?_ ?_
              rotate_left
              · simp only [Act.put, List.setIfInBounds_toArray, List.set_cons_zero, List.set_cons_succ, i64_w, i32_w]
                rfl
              refine pure_ (i := 13) (N := (some 54)) (v := undef) (a' := ?_) #[true, true, true, true, true, true, true, true, true, true, true, true, true, true, false, false, false, false, false, false, false, false, false] rfl rfl (by kernel_rfl) (fun _ _ _ h => h) (Or.inr ⟨by rfl, rfl⟩) ?_ ?_
              rotate_left
              · simp only [Act.put, List.setIfInBounds_toArray, List.set_cons_zero, List.set_cons_succ, i64_w, i32_w]
                rfl
              refine pure_ (i := 14) (N := (some 55)) (v := undef) (a' := ?_) #[true, true, true, true, true, true, true, true, true, true, true, true, true, true, true, false, false, false, false, false, false, false, false] rfl rfl (by kernel_rfl) (fun _ _ _ h => h) (Or.inr ⟨by rfl, rfl⟩) ?_ ?_
              rotate_left
              · simp only [Act.put, List.setIfInBounds_toArray, List.set_cons_zero, List.set_cons_succ, i64_w, i32_w]
                rfl
              refine pure_ (i := 15) (N := (some 56)) (v := undef) (a' := ?_) #[true, true, true, true, true, true, true, true, true, true, true, true, true, true, true, true, false, false, false, false, false, false, false] rfl rfl (by kernel_rfl) (fun _ _ _ h => h) (Or.inr ⟨by rfl, rfl⟩) ?_ ?_
              rotate_left
              · simp only [Act.put, List.setIfInBounds_toArray, List.set_cons_zero, List.set_cons_succ, i64_w, i32_w]
                rfl
              refine pure_ (i := 16) (N := (some 57)) (v := undef) (a' := ?_) #[true, true, true, true, true, true, true, true, true, true, true, true, true, true, true, true, true, false, false, false, false, false, false] rfl rfl (by kernel_rfl) (fun _ _ _ h => h) (Or.inr ⟨by rfl, rfl⟩) ?_ ?_
              rotate_left
              · simp only [Act.put, List.setIfInBounds_toArray, List.set_cons_zero, List.set_cons_succ, i64_w, i32_w]
                rfl
              refine pure_ (i := 17) (N := (some 58)) (v := undef) (a' := ?_) #[true, true, true, true, true, true, true, true, true, true, true, true, true, true, true, true, true, true, false, false, false, false, false] rfl rfl (by kernel_rfl) (fun _ _ _ h => h) (Or.inr ⟨by rfl, rfl⟩) ?_ ?_
              rotate_left
              · simp only [Act.put, List.setIfInBounds_toArray, List.set_cons_zero, List.set_cons_succ, i64_w, i32_w]
                rfl
              refine pure_ (i := 18) (N := (some 59)) (v := undef) (a' := ?_) #[true, true, true, true, true, true, true, true, true, true, true, true, true, true, true, true, true, true, true, false, false, false, false] rfl rfl (by kernel_rfl) (fun _ _ _ h => h) (Or.inr ⟨by rfl, rfl⟩) ?_ ?_
              rotate_left
              · simp only [Act.put, List.setIfInBounds_toArray, List.set_cons_zero, List.set_cons_succ, i64_w, i32_w]
                rfl
              refine pure_ (i := 19) (N := (some 60)) (v := undef) (a' := ?_) #[true, true, true, true, true, true, true, true, true, true, true, true, true, true, true, true, true, true, true, true, false, false, false] rfl rfl (by kernel_rfl) (fun _ _ _ h => h) (Or.inr ⟨by rfl, rfl⟩) ?_ ?_
              rotate_left
              · simp only [Act.put, List.setIfInBounds_toArray, List.set_cons_zero, List.set_cons_succ, i64_w, i32_w]
                rfl
              refine pure_ (i := 20) (N := (some 61)) (v := undef) (a' := ?_) #[true, true, true, true, true, true, true, true, true, true, true, true, true, true, true, true, true, true, true, true, true, false, false] rfl rfl (by kernel_rfl) (fun _ _ _ h => h) (Or.inr ⟨by rfl, rfl⟩) ?_ ?_
              rotate_left
              · simp only [Act.put, List.setIfInBounds_toArray, List.set_cons_zero, List.set_cons_succ, i64_w, i32_w]
                rfl
              refine pure_ (i := 21) (N := (some 62)) (v := undef) (a' := ?_) #[true, true, true, true, true, true, true, true, true, true, true, true, true, true, true, true, true, true, true, true, true, true, false] rfl rfl (by kernel_rfl) (fun _ _ _ h => h) (Or.inr ⟨by rfl, rfl⟩) ?_ ?_
              rotate_left
              · simp only [Act.put, List.setIfInBounds_toArray, List.set_cons_zero, List.set_cons_succ, i64_w, i32_w]
                rfl
              refine pure_ (i := 22) (N := (some 63)) (v := ?_) (a' := ?_) #[true, true, true, true, true, true, true, true, true, true, true, true, true, true, true, true, true, true, true, true, true, true, true] rfl rfl (by kernel_rfl) (fun _ _ _ h => h) (Or.inl ⟨by rfl, ?_⟩) ?_ ?_
              rotate_left
              · intro w'
                go_simp
                with_reducible rfl
              rotate_left
              · simp only [Act.put, List.setIfInBounds_toArray, List.set_cons_zero, List.set_cons_succ, i64_w, i32_w]
                rfl
              refine done_ (by kernel_rfl) ?_
              go_wp2_with fail
              go_roundg (102 - (k + 1))
              case measure => omega
              case rel =>
                have hbb := below_then HBx.out HBx.out.size hq2.out
                exact ⟨k + 1, Nk, mk, by omega, by omega, by go_num, ⟨by have := HNk.out; have : (k + 1) * P = k * P + P := Nat.succ_mul k P; omega⟩, ⟨HMr.out.below hbb⟩, HSr, ⟨HNr.out.later hbb⟩, ⟨fun j hj => by
                  by_cases e : j = k
                  · rw [e]; exact HTK.out
                  · exact HTr.out j (by omega)⟩⟩
            · have haf : l.any (wrongB (n : Int) ev) = false := by simpa using hany
              rw [haf] at HANY
              obtain ⟨o, ho⟩ : ∃ o, o = srchL routes pat l (sends.drop (n + 1)) ((n : Int) + 1) ev.f1 := ⟨_, rfl⟩
              have HTK : Aside0 (tryL routes pat l sends[n] (sends.drop (n + 1)) n before k = o.map (fun r => (k : Int) :: r)) := ⟨by
                unfold tryL goodB
                rw [← HEV.out, hcan, haf, ho]
                rfl⟩
              have HIH : Aside0 (∀ (hv' : Value) (w' : World), Below wx.heap.size wx w' → Kd.R (Kd.int .i64) 3 w' wx.heap.size (fun _ => True) hv' (hs ++ [(k : Int)]) →
                  Calls Try.prog 137 #[.int .i64 ((n : Int) + 1), .int .i64 ev.f1, hv', .pointer (some ⟨bw, 0, none⟩), .pointer (some ⟨bf, 0, none⟩), .pointer (some ⟨bd, 0, none⟩), .pointer (some ⟨bl, 0, none⟩), .pointer (some ⟨bn, 0, none⟩)] w'
                    (NextPost routes pat l sends w0 w' bf mb Nk P (hs ++ [(k : Int)]) o)) := ⟨fun hv' w' hb hr => by
                rw [ho]
                have hNk := HNk.out
                have hkp : k * P ≤ 101 * P := Nat.mul_le_mul_right P (by omega)
                exact IH'.out ev.f1 hv' (hs ++ [(k : Int)]) Nk mk w' HE1.out.1 HE1.out.2 (HNx.out.boxes.below hb) (below_then HNx.out.below HNx.out.below.size hb) (Kd.R_lower hr HNx.out.below.size) (by simp; omega) ((HMr.out.below HBx.out).below hb) HSr.out (by omega)⟩
              have HRX := Aside0.mk HNx.out.row
              have hwn : wrap64 ((n : Int) + 1) = (n : Int) + 1 := by unfold wrap64; omega
              clear hcan hany haf ho
              have KEEP : Aside0 (∀ w' : World, Below wx.heap.size wx w' → (w'.cell? ⟨w.heap.size, 0, none⟩ = some (.int .i64 (n : Int)) ∧ w'.cell? ⟨bw, 0, none⟩ = some (.pointer (some ⟨g, 0, none⟩)) ∧ w'.cell? ⟨bl, 0, none⟩ = some (.slice Al l.length cl) ∧ w'.cell? ⟨bn, 0, none⟩ = some (.func (.func 137) #[] #[.pointer (some ⟨bw, 0, none⟩), .pointer (some ⟨bf, 0, none⟩), .pointer (some ⟨bd, 0, none⟩), .pointer (some ⟨bl, 0, none⟩), .pointer (some ⟨bn, 0, none⟩)]) ∧ w'.cell? ⟨ge, 1, none⟩ = some (.int .i64 ev.f1))) :=
                ⟨fun w' hb => ⟨pw_cell_below hb b8, pw_cell_below hb bw0, pw_cell_below hb bl0, pw_cell_below hb bn0, pw_cell_below hb ge1⟩⟩
              refine start_ (n := 23) (S := fun w' => w'.cell? ⟨w.heap.size, 0, none⟩ = some (.int .i64 (n : Int)) ∧ w'.cell? ⟨bw, 0, none⟩ = some (.pointer (some ⟨g, 0, none⟩)) ∧ w'.cell? ⟨bl, 0, none⟩ = some (.slice Al l.length cl) ∧ w'.cell? ⟨bn, 0, none⟩ = some (.func (.func 137) #[] #[.pointer (some ⟨bw, 0, none⟩), .pointer (some ⟨bf, 0, none⟩), .pointer (some ⟨bd, 0, none⟩), .pointer (some ⟨bl, 0, none⟩), .pointer (some ⟨bn, 0, none⟩)]) ∧ w'.cell? ⟨ge, 1, none⟩ = some (.int .i64 ev.f1)) (ds := [21]) #[false, false, false, false, false, false, false, false, false, false, false, false, false, false, false, false, false, false, false, false, false, false, false] (by kernel_rfl) rfl rfl ⟨b8, bw0, bl0, bn0, ge1⟩ (fun hHeld => ?_)
              refine pure_ (i := 2) (N := (some 43)) (v := ?_) (a' := ?_) #[false, false, true, false, false, false, false, false, false, false, false, false, false, false, false, false, false, false, false, false, false, false, false] rfl rfl (by kernel_rfl) (fun _ _ _ h => h) (Or.inl ⟨by rfl, ?_⟩) ?_ ?_
              rotate_left
              · intro w'
                go_simp
                with_reducible rfl
              rotate_left
              · simp only [Act.put, List.setIfInBounds_toArray, List.set_cons_zero, List.set_cons_succ, i64_w, i32_w]
                rfl
              refine take_ (i := 0) (N := (some 41)) (v := ?_) (a' := ?_) #[true, false, true, false, false, false, false, false, false, false, false, false, false, false, false, false, false, false, false, false, false, false, false] rfl rfl (by kernel_rfl) (fun _ _ _ h => h) (Or.inl ⟨by rfl, ?_⟩) hHeld ?_ ?_
              rotate_left
              · rintro w' ⟨s0, s1, s2, s3, s4⟩
                go_simp
                with_reducible rfl
              rotate_left
              · simp only [Act.put, List.setIfInBounds_toArray, List.set_cons_zero, List.set_cons_succ, i64_w, i32_w]
                rfl
              refine take_ (i := 1) (N := (some 42)) (v := ?_) (a' := ?_) #[true, true, true, false, false, false, false, false, false, false, false, false, false, false, false, false, false, false, false, false, false, false, false] rfl rfl (by kernel_rfl) (fun _ _ _ h => h) (Or.inl ⟨by rfl, ?_⟩) hHeld ?_ ?_
              rotate_left
              · rintro w' ⟨s0, s1, s2, s3, s4⟩
                go_simp
                with_reducible rfl
              rotate_left
              · simp only [Act.put, List.setIfInBounds_toArray, List.set_cons_zero, List.set_cons_succ, i64_w, i32_w]
                rfl
              refine one_ (i := 3) (N := (some 44)) #[true, true, true, true, false, false, false, false, false, false, false, false, false, false, false, false, false, false, false, false, false, false, false] rfl rfl (by kernel_rfl) (by decide) (fun K hK => ?_)
              refine goes_ Try.func139 (by kernel_rfl) rfl #[.pointer (some ⟨g, 0, none⟩), .int .i64 (n : Int), .int .i64 (k : Int)] (by rfl) rfl rfl (by (try simp only [List.map_toArray, List.map_cons, List.map_nil]); first | done | rfl) ?_
              refine (HCAN.out wx.drew hq0.out).mono ?_
              rintro e w3 ⟨rfl, hb3⟩
              refine ⟨_, rfl, ?_⟩
              have hq1 := Aside0.mk (below_then hq0.out hq0.out.size hb3)
              clear hb3
              refine hK.out _ _ (KEEP.out _ hq1.out) (fun hHeld => ?_)
              clear hK K
              refine norm_ (a' := ?_) ?_ ?_
              rotate_left
              · show Act.put _ (some 44) _ = _
                simp only [Act.put, List.setIfInBounds_toArray, List.set_cons_zero, List.set_cons_succ, i64_w, i32_w]
                rfl
              refine pure_ (i := 4) (N := (some 45)) (v := ?_) (a' := ?_) #[true, true, true, true, true, false, false, false, false, false, false, false, false, false, false, false, false, false, false, false, false, false, false] rfl rfl (by kernel_rfl) (fun _ _ _ h => h) (Or.inl ⟨by rfl, ?_⟩) ?_ ?_
              rotate_left
              · intro w'
                go_simp
                with_reducible rfl
              rotate_left
              · simp only [Act.put, List.setIfInBounds_toArray, List.set_cons_zero, List.set_cons_succ, i64_w, i32_w]
                rfl
              refine take_ (i := 5) (N := (some 46)) (v := ?_) (a' := ?_) #[true, true, true, true, true, true, false, false, false, false, false, false, false, false, false, false, false, false, false, false, false, false, false] rfl rfl (by kernel_rfl) (fun _ _ _ h => h) (Or.inl ⟨by rfl, ?_⟩) hHeld ?_ ?_
              rotate_left
              · rintro w' ⟨s0, s1, s2, s3, s4⟩
                go_simp
                with_reducible rfl
              rotate_left
              · simp only [Act.put, List.setIfInBounds_toArray, List.set_cons_zero, List.set_cons_succ, i64_w, i32_w]
                rfl
              refine pure_ (i := 6) (N := (some 47)) (v := ?_) (a' := ?_) #[true, true, true, true, true, true, true, false, false, false, false, false, false, false, false, false, false, false, false, false, false, false, false] rfl rfl (by kernel_rfl) (fun _ _ _ h => h) (Or.inl ⟨by rfl, ?_⟩) ?_ ?_
              rotate_left
              · intro w'
                go_simp
                with_reducible rfl
              rotate_left
              · simp only [Act.put, List.setIfInBounds_toArray, List.set_cons_zero, List.set_cons_succ, i64_w, i32_w]
                rfl
              refine one_ (i := 7) (N := (some 48)) #[true, true, true, true, true, true, true, true, false, false, false, false, false, false, false, false, false, false, false, false, false, false, false] rfl rfl (by kernel_rfl) (by decide) (fun K hK => ?_)
              refine goes_ Try.func140 (by kernel_rfl) rfl #[.slice Al l.length cl, .func (.func 138) #[] #[.pointer (some ⟨w.heap.size, 0, none⟩), .pointer (some ⟨ge, 0, none⟩)]] (by rfl) rfl rfl (by (try simp only [List.map_toArray, List.map_cons, List.map_nil]); first | done | rfl) ?_
              refine (HANY.out w3 hq1.out).mono ?_
              rintro e w4 ⟨rfl, hb4⟩
              refine ⟨_, rfl, ?_⟩
              have hq2 := Aside0.mk (below_then hq1.out hq1.out.size hb4)
              clear hb4
              refine hK.out _ _ (KEEP.out _ hq2.out) (fun hHeld => ?_)
              clear hK K
              refine norm_ (a' := ?_) ?_ ?_
              rotate_left
              · show Act.put _ (some 48) _ = _
                simp only [Act.put, List.setIfInBounds_toArray, List.set_cons_zero, List.set_cons_succ, i64_w, i32_w]
                rfl
              refine pure_ (i := 8) (N := (some 49)) (v := ?_) (a' := ?_) #[true, true, true, true, true, true, true, true, true, false, false, false, false, false, false, false, false, false, false, false, false, false, false] rfl rfl (by kernel_rfl) (fun _ _ _ h => h) (Or.inl ⟨by rfl, ?_⟩) ?_ ?_
              rotate_left
              · intro w'
                go_simp
                with_reducible rfl
              rotate_left
              · simp only [Act.put, List.setIfInBounds_toArray, List.set_cons_zero, List.set_cons_succ, i64_w, i32_w]
                rfl
              refine pure_ (i := 9) (N := (some 50)) (v := ?_) (a' := ?_) #[true, true, true, true, true, true, true, true, true, true, false, false, false, false, false, false, false, false, false, false, false, false, false] rfl rfl (by kernel_rfl) (fun _ _ _ h => h) (Or.inl ⟨by rfl, ?_⟩) ?_ ?_
              rotate_left
              · intro w'
                go_simp
                with_reducible rfl
              rotate_left
              · simp only [Act.put, List.setIfInBounds_toArray, List.set_cons_zero, List.set_cons_succ, i64_w, i32_w]
                rfl
              refine pure_ (i := 10) (N := (some 51)) (v := ?_) (a' := ?_) #[true, true, true, true, true, true, true, true, true, true, true, false, false, false, false, false, false, false, false, false, false, false, false] rfl rfl (by kernel_rfl) (fun _ _ _ h => h) (Or.inl ⟨by rfl, ?_⟩) ?_ ?_
              rotate_left
              · intro w'
                go_simp
                with_reducible rfl
              rotate_left
              · simp only [Act.put, List.setIfInBounds_toArray, List.set_cons_zero, List.set_cons_succ, i64_w, i32_w]
                rfl
              refine take_ (i := 11) (N := (some 52)) (v := ?_) (a' := ?_) #[true, true, true, true, true, true, true, true, true, true, true, true, false, false, false, false, false, false, false, false, false, false, false] rfl rfl (by kernel_rfl) (fun _ _ _ h => h) (Or.inl ⟨by rfl, ?_⟩) hHeld ?_ ?_
              rotate_left
              · rintro w' ⟨s0, s1, s2, s3, s4⟩
                go_simp
                with_reducible rfl
              rotate_left
              · simp only [Act.put, List.setIfInBounds_toArray, List.set_cons_zero, List.set_cons_succ, i64_w, i32_w]
                rfl
              refine take_ (i := 12) (N := (some 53)) (v := ?_) (a' := ?_) #[true, true, true, true, true, true, true, true, true, true, true, true, true, false, false, false, false, false, false, false, false, false, false] rfl rfl (by kernel_rfl) (fun _ _ _ h => h) (Or.inl ⟨by rfl, ?_⟩) hHeld ?_ ?_
              rotate_left
              · rintro w' ⟨s0, s1, s2, s3, s4⟩
                go_simp
                with_reducible rfl
              rotate_left
              · simp only [Act.put, List.setIfInBounds_toArray, List.set_cons_zero, List.set_cons_succ, i64_w, i32_w]
                rfl
              refine pure_ (i := 13) (N := (some 54)) (v := ?_) (a' := ?_) #[true, true, true, true, true, true, true, true, true, true, true, true, true, true, false, false, false, false, false, false, false, false, false] rfl rfl (by kernel_rfl) (fun _ _ _ h => h) (Or.inl ⟨by rfl, ?_⟩) ?_ ?_
              rotate_left
              · intro w'
                go_simp
                with_reducible rfl
              rotate_left
              · simp only [Act.put, List.setIfInBounds_toArray, List.set_cons_zero, List.set_cons_succ, i64_w, i32_w]
                rfl
              refine pure_ (i := 14) (N := (some 55)) (v := ?_) (a' := ?_) #[true, true, true, true, true, true, true, true, true, true, true, true, true, true, true, false, false, false, false, false, false, false, false] rfl rfl (by kernel_rfl) (fun _ _ _ h => h) (Or.inl ⟨by rfl, ?_⟩) ?_ ?_
              rotate_left
              · intro w'
                go_simp
                with_reducible rfl
              rotate_left
              · simp only [Act.put, List.setIfInBounds_toArray, List.set_cons_zero, List.set_cons_succ, i64_w, i32_w]
                rfl
              refine take_ (i := 15) (N := (some 56)) (v := ?_) (a' := ?_) #[true, true, true, true, true, true, true, true, true, true, true, true, true, true, true, true, false, false, false, false, false, false, false] rfl rfl (by kernel_rfl) (fun _ _ _ h => h) (Or.inl ⟨by rfl, ?_⟩) hHeld ?_ ?_
              rotate_left
              · rintro w' ⟨s0, s1, s2, s3, s4⟩
                go_simp
                with_reducible rfl
              rotate_left
              · simp only [Act.put, List.setIfInBounds_toArray, List.set_cons_zero, List.set_cons_succ, i64_w, i32_w]
                rfl
              refine pure_ (i := 16) (N := (some 57)) (v := ?_) (a' := ?_) #[true, true, true, true, true, true, true, true, true, true, true, true, true, true, true, true, true, false, false, false, false, false, false] rfl rfl (by kernel_rfl) (fun _ _ _ h => h) (Or.inl ⟨by rfl, ?_⟩) ?_ ?_
              rotate_left
              · intro w'
                go_simp
                with_reducible rfl
              rotate_left
              · simp only [Act.put, List.setIfInBounds_toArray, List.set_cons_zero, List.set_cons_succ, i64_w, i32_w]
                rfl
              refine pure_ (i := 18) (N := (some 59)) (v := ?_) (a' := ?_) #[true, true, true, true, true, true, true, true, true, true, true, true, true, true, true, true, true, false, true, false, false, false, false] rfl rfl (by kernel_rfl) (fun _ _ _ h => h) (Or.inl ⟨by rfl, ?_⟩) ?_ ?_
              rotate_left
              · intro w'
                go_simp
                with_reducible rfl
              rotate_left
              · simp only [Act.put, List.setIfInBounds_toArray, List.set_cons_zero, List.set_cons_succ, i64_w, i32_w]
                rfl
              refine join_ (σ := Value × Nat) 3 #[true, true, true, true, true, true, true, true, true, true, true, true, true, true, true, true, true, true, true, true, false, false, false] (fun s_ => [(58, s_.1), (60, .slice (some ⟨s_.2, 0, none⟩) 1 1)]) (fun s_ w' => (w'.cell? ⟨w.heap.size, 0, none⟩ = some (.int .i64 (n : Int)) ∧ w'.cell? ⟨bw, 0, none⟩ = some (.pointer (some ⟨g, 0, none⟩)) ∧ w'.cell? ⟨bl, 0, none⟩ = some (.slice Al l.length cl) ∧ w'.cell? ⟨bn, 0, none⟩ = some (.func (.func 137) #[] #[.pointer (some ⟨bw, 0, none⟩), .pointer (some ⟨bf, 0, none⟩), .pointer (some ⟨bd, 0, none⟩), .pointer (some ⟨bl, 0, none⟩), .pointer (some ⟨bn, 0, none⟩)]) ∧ w'.cell? ⟨ge, 1, none⟩ = some (.int .i64 ev.f1)) ∧ Kd.R (Kd.int .i64) 3 w' wx.heap.size (fun _ => True) s_.1 hs ∧ w'.heap[s_.2]? = some (.cells #[.int .i64 (k : Int)] 3 (0, 0)) ∧ Below wx.heap.size wx w') ?_ ?_
              rotate_left
              · intro hCont
                refine two_ (i := 17) (j := 19) (Ni := (some 58)) (Nj := (some 60)) #[true, true, true, true, true, true, true, true, true, true, true, true, true, true, true, true, true, true, true, false, false, false, false] #[true, true, true, true, true, true, true, true, true, true, true, true, true, true, true, true, true, false, true, true, false, false, false] rfl rfl rfl rfl (by kernel_rfl) (by decide) (by decide) (fun K hK => ?_) (fun K hK => ?_)
                · refine goes_ Try.func105 (by kernel_rfl) rfl #[.slice Ah hs.length ch] (by rfl) rfl rfl (by (try simp only [List.map_toArray, List.map_cons, List.map_nil]); first | done | rfl) ?_
                  refine (clone105_R hs w4 (Kd.R_below HRX.out hq2.out) (by omega)).mono ?_
                  rintro e w5 ⟨v5, rfl, hr5, hb5⟩
                  refine ⟨_, rfl, ?_⟩
                  have HR5 := Aside0.mk (Kd.R_lower hr5 hq2.out.size)
                  have hq4 := Aside0.mk (below_then hq2.out hq2.out.size hb5)
                  have hb5' := Aside0.mk hb5
                  clear hr5 hb5
                  refine hK.out _ _ (KEEP.out _ hq4.out) (fun hHeld => ?_)
                  clear hK K
                  refine norm_ (a' := ?_) ?_ ?_
                  rotate_left
                  · show Act.put _ (some 58) _ = _
                    simp only [Act.put, List.setIfInBounds_toArray, List.set_cons_zero, List.set_cons_succ, i64_w, i32_w]
                    rfl
                  refine one_ (i := 19) (N := (some 60)) #[true, true, true, true, true, true, true, true, true, true, true, true, true, true, true, true, true, true, true, true, false, false, false] rfl rfl (by kernel_rfl) (by decide) (fun K hK => ?_)
                  have hq5 : Aside0 (Below wx.heap.size wx (w5.alloc (.cells #[.int .i64 (k : Int)] 3))) := ⟨hq4.out.alloc hq4.out.size _⟩
                  refine value_ (v := .slice (some ⟨w5.heap.size, 0, none⟩) 1 1) (w1 := w5.alloc (.cells #[.int .i64 (k : Int)] 3)) (by rfl) rfl (by go_simp; done) ?_
                  refine hK.out _ _ (KEEP.out _ hq5.out) (fun hHeld => ?_)
                  clear hK K
                  refine norm_ (a' := ?_) ?_ ?_
                  rotate_left
                  · show Act.put _ (some 60) _ = _
                    simp only [Act.put, List.setIfInBounds_toArray, List.set_cons_zero, List.set_cons_succ, i64_w, i32_w]
                    rfl
                  exact norm_ (by simp only [putAll, Act.put, List.setIfInBounds_toArray, List.set_cons_zero, List.set_cons_succ]) (hCont (v5, w5.heap.size) _ ⟨hHeld, Kd.R_below HR5.out ((Below.refl _ _).alloc (Nat.le_refl _) _), blk_new _ _, hq5.out⟩)
                · have hq5 : Aside0 (Below wx.heap.size wx (w4.alloc (.cells #[.int .i64 (k : Int)] 3))) := ⟨hq2.out.alloc hq2.out.size _⟩
                  refine value_ (v := .slice (some ⟨w4.heap.size, 0, none⟩) 1 1) (w1 := w4.alloc (.cells #[.int .i64 (k : Int)] 3)) (by rfl) rfl (by go_simp; done) ?_
                  refine hK.out _ _ (KEEP.out _ hq5.out) (fun hHeld => ?_)
                  clear hK K
                  refine norm_ (a' := ?_) ?_ ?_
                  rotate_left
                  · show Act.put _ (some 60) _ = _
                    simp only [Act.put, List.setIfInBounds_toArray, List.set_cons_zero, List.set_cons_succ, i64_w, i32_w]
                    rfl
                  refine one_ (i := 17) (N := (some 58)) #[true, true, true, true, true, true, true, true, true, true, true, true, true, true, true, true, true, true, true, true, false, false, false] rfl rfl (by kernel_rfl) (by decide) (fun K hK => ?_)
                  refine goes_ Try.func105 (by kernel_rfl) rfl #[.slice Ah hs.length ch] (by rfl) rfl rfl (by (try simp only [List.map_toArray, List.map_cons, List.map_nil]); first | done | rfl) ?_
                  refine (clone105_R hs (w4.alloc (.cells #[.int .i64 (k : Int)] 3)) (Kd.R_below HRX.out hq5.out) (by omega)).mono ?_
                  rintro e w5 ⟨v5, rfl, hr5, hb5⟩
                  refine ⟨_, rfl, ?_⟩
                  have HR5 := Aside0.mk (Kd.R_lower hr5 hq5.out.size)
                  have hq4 := Aside0.mk (below_then hq5.out hq5.out.size hb5)
                  have hb5' := Aside0.mk hb5
                  clear hr5 hb5
                  refine hK.out _ _ (KEEP.out _ hq4.out) (fun hHeld => ?_)
                  clear hK K
                  refine norm_ (a' := ?_) ?_ ?_
                  rotate_left
                  · show Act.put _ (some 58) _ = _
                    simp only [Act.put, List.setIfInBounds_toArray, List.set_cons_zero, List.set_cons_succ, i64_w, i32_w]
                    rfl
                  exact norm_ (by simp only [putAll, Act.put, List.setIfInBounds_toArray, List.set_cons_zero, List.set_cons_succ]) (hCont (v5, w4.heap.size) _ ⟨hHeld, HR5.out, blk_below (blk_new _ _) hb5'.out, hq4.out⟩)
              intro s_ w5 hF
              obtain ⟨v5, gx⟩ := s_
              obtain ⟨hHeld, hr5, hgx, hb5⟩ := hF
              have hq5 := Aside0.mk hb5
              have HR5 := Aside0.mk hr5
              have HGX := Aside0.mk hgx
              clear hr5 hgx hb5
              obtain ⟨A5, c5, rfl⟩ := Kd.R_slice HR5.out
              refine norm_ (a' := ?_) ?_ ?_
              rotate_left
              · simp only [putAll, Act.put, List.setIfInBounds_toArray, List.set_cons_zero, List.set_cons_succ]
                rfl
              refine one_ (i := 20) (N := (some 61)) #[true, true, true, true, true, true, true, true, true, true, true, true, true, true, true, true, true, true, true, true, true, false, false] rfl rfl (by kernel_rfl) (by decide) (fun K hK => ?_)
              refine kd_append_at (Kd.int .i64) (w0 := wx) wx.heap.size (by rfl) (.tmp 58) (.tmp 60) 22 3 (.int .i64 0) 8 (by rfl) Try.underlying22 info3 rfl (by decide) (.slice A5 hs.length c5) hs (k : Int) [.int .i64 (k : Int)] gx (by rfl) (by rfl) HGX.out (fun _ => False) rfl (fun _ hk => hk.elim) HR5.out hq5.out hq5.out.size (by omega) (by unfold maxLen; omega) ?_
              intro gg cap w6 hr6 hb6 hg6
              have HR6 := Aside0.mk hr6
              have hq6 := Aside0.mk hb6
              clear hr6 hb6 hg6
              refine hK.out _ _ (KEEP.out _ hq6.out) (fun hHeld => ?_)
              clear hK K
              refine norm_ (a' := ?_) ?_ ?_
              rotate_left
              · show Act.put _ (some 61) _ = _
                simp only [Act.put, List.setIfInBounds_toArray, List.set_cons_zero, List.set_cons_succ, i64_w, i32_w]
                rfl
              refine last_ (i := 21) (N := (some 62)) #[true, true, true, true, true, true, true, true, true, true, true, true, true, true, true, true, true, true, true, true, true, true, false] rfl rfl (by kernel_rfl) (by decide) (fun K hK => ?_)
              refine goesV_ Try.func137 (by kernel_rfl) rfl #[.int .i64 ((n : Int) + 1), .int .i64 ev.f1, .slice (some ⟨gg, 0, none⟩) (hs.length + 1) cap, .pointer (some ⟨bw, 0, none⟩), .pointer (some ⟨bf, 0, none⟩), .pointer (some ⟨bd, 0, none⟩), .pointer (some ⟨bl, 0, none⟩), .pointer (some ⟨bn, 0, none⟩)] (by rfl) rfl rfl rfl #[.int .i64 (wrap64 ((n : Int) + 1)), .int .i64 ev.f1, .slice (some ⟨gg, 0, none⟩) (hs.length + 1) cap] (by (try simp only [List.map_toArray, List.map_cons, List.map_nil]); first | done | rfl) (by simp [hwn]) ?_
              refine (HIH.out _ w6 hq6.out HR6.out).mono ?_
              rintro e w7 ⟨N', m', vf, hN', hm', hsd', hk', hb', rfl, hf', hr'⟩
              refine ⟨_, rfl, ?_⟩
              have HN7 := Aside0.mk hN'
              have HM7 := Aside0.mk hm'
              have HS7 := Aside0.mk hsd'
              have HK7 := Aside0.mk hk'
              have HB7 := Aside0.mk hb'
              have HF7 := Aside0.mk hf'
              have HR7 := Aside0.mk hr'
              clear hN' hm' hsd' hk' hb' hf' hr'
              refine hK.out _ _ ?_
              clear hK K
              have HX7 := Aside0.mk (HNx.out.kept.trans ((KeptBut.of_below hq6.out).trans HK7.out))
              clear KEEP b8 bw0 bl0 bn0 ge1 hHeld
              cases o with
              | none =>
                refine norm_ (a' := ?_) ?_ ?_
                rotate_left
                · show Act.put _ (some 62) _ = _
                  simp only [Act.put, List.setIfInBounds_toArray, List.set_cons_zero, List.set_cons_succ, i64_w, i32_w]
                  rfl
                refine pure_ (i := 22) (N := (some 63)) (v := ?_) (a' := ?_) #[true, true, true, true, true, true, true, true, true, true, true, true, true, true, true, true, true, true, true, true, true, true, true] rfl rfl (by kernel_rfl) (fun _ _ _ h => h) (Or.inl ⟨by rfl, ?_⟩) ?_ ?_
                rotate_left
                · intro w'
                  go_simp
                  with_reducible rfl
                rotate_left
                · simp only [Act.put, List.setIfInBounds_toArray, List.set_cons_zero, List.set_cons_succ, i64_w, i32_w]
                  rfl
                refine done_ (by kernel_rfl) ?_
                go_wp2_with fail
                go_roundg (102 - (k + 1))
                case measure => omega
                case rel =>
                  have hbb := below_then HBx.out HBx.out.size hq6.out
                  exact ⟨k + 1, N', m', by omega, by omega, by go_num, ⟨by have := HNk.out; have := HN7.out; have : (k + 1) * P = k * P + P := Nat.succ_mul k P; omega⟩, HM7, HS7, ⟨NAt.step (HNr.out.later hbb) (HMr.out.below hbb) HK7.out HB7.out ⟨vf, HF7.out⟩⟩, ⟨fun j hj => by
                    by_cases e : j = k
                    · rw [e]; exact HTK.out
                    · exact HTr.out j (by omega)⟩⟩
              | some r =>
                refine norm_ (a' := ?_) ?_ ?_
                rotate_left
                · show Act.put _ (some 62) _ = _
                  simp only [Act.put, List.setIfInBounds_toArray, List.set_cons_zero, List.set_cons_succ, i64_w, i32_w]
                  rfl
                refine pure_ (i := 22) (N := (some 63)) (v := ?_) (a' := ?_) #[true, true, true, true, true, true, true, true, true, true, true, true, true, true, true, true, true, true, true, true, true, true, true] rfl rfl (by kernel_rfl) (fun _ _ _ h => h) (Or.inl ⟨by rfl, ?_⟩) ?_ ?_
                rotate_left
                · intro w'
                  go_simp
                  with_reducible rfl
                rotate_left
                · simp only [Act.put, List.setIfInBounds_toArray, List.set_cons_zero, List.set_cons_succ, i64_w, i32_w]
                  rfl
                refine done_ (by kernel_rfl) ?_
                go_wp2_with fail
                go_ret
                have hsome : srchL routes pat l (sends.drop n) n before = some ((k : Int) :: r) := by
                  rw [List.drop_eq_getElem_cons hn, srchL_cons]
                  exact findSome_first hlt (fun j hj => HTr.out j hj) HTK.out
                rw [hsome]
                refine ⟨N', m', vf, by have := HNk.out; have := HN7.out; have hkp : k * P ≤ 101 * P := Nat.mul_le_mul_right P (by omega); omega, HM7.out, HS7.out, HX7.out, HB7.out, rfl, HF7.out, fun r' hr' => ?_⟩
                obtain rfl := Option.some.inj hr'
                have h := HR7.out r rfl
                rw [List.append_assoc] at h
                exact h
          · have hcf : canL routes sends[n] (k : Int) ((k : Int) == 101) = false := by simpa using hcan
            rw [hcf] at HCAN
            have HTK : Aside0 (tryL routes pat l sends[n] (sends.drop (n + 1)) n before k = none) := ⟨by
              unfold tryL goodB
              rw [hcf, Bool.false_and]
              rfl⟩
            clear hcan hcf HANY bl0 bn0 ge1
            have KEEP : Aside0 (∀ w' : World, Below wx.heap.size wx w' → (w'.cell? ⟨w.heap.size, 0, none⟩ = some (.int .i64 (n : Int)) ∧ w'.cell? ⟨bw, 0, none⟩ = some (.pointer (some ⟨g, 0, none⟩)))) :=
              ⟨fun w' hb => ⟨pw_cell_below hb b8, pw_cell_below hb bw0⟩⟩
            refine start_ (n := 23) (S := fun w' => w'.cell? ⟨w.heap.size, 0, none⟩ = some (.int .i64 (n : Int)) ∧ w'.cell? ⟨bw, 0, none⟩ = some (.pointer (some ⟨g, 0, none⟩))) (ds := []) #[false, false, false, false, false, false, false, false, false, false, false, false, false, false, false, false, false, false, false, false, false, false, false] (by kernel_rfl) rfl rfl ⟨b8, bw0⟩ (fun hHeld => ?_)
            refine pure_ (i := 2) (N := (some 43)) (v := ?_) (a' := ?_) #[false, false, true, false, false, false, false, false, false, false, false, false, false, false, false, false, false, false, false, false, false, false, false] rfl rfl (by kernel_rfl) (fun _ _ _ h => h) (Or.inl ⟨by rfl, ?_⟩) ?_ ?_
            rotate_left
            · intro w'
              go_simp
              with_reducible rfl
            rotate_left
            · simp only [Act.put, List.setIfInBounds_toArray, List.set_cons_zero, List.set_cons_succ, i64_w, i32_w]
              rfl
            refine take_ (i := 0) (N := (some 41)) (v := ?_) (a' := ?_) #[true, false, true, false, false, false, false, false, false, false, false, false, false, false, false, false, false, false, false, false, false, false, false] rfl rfl (by kernel_rfl) (fun _ _ _ h => h) (Or.inl ⟨by rfl, ?_⟩) hHeld ?_ ?_
            rotate_left
            · rintro w' ⟨s0, s1⟩
              go_simp
              with_reducible rfl
            rotate_left
            · simp only [Act.put, List.setIfInBounds_toArray, List.set_cons_zero, List.set_cons_succ, i64_w, i32_w]
              rfl
            refine take_ (i := 1) (N := (some 42)) (v := ?_) (a' := ?_) #[true, true, true, false, false, false, false, false, false, false, false, false, false, false, false, false, false, false, false, false, false, false, false] rfl rfl (by kernel_rfl) (fun _ _ _ h => h) (Or.inl ⟨by rfl, ?_⟩) hHeld ?_ ?_
            rotate_left
            · rintro w' ⟨s0, s1⟩
              go_simp
              with_reducible rfl
            rotate_left
            · simp only [Act.put, List.setIfInBounds_toArray, List.set_cons_zero, List.set_cons_succ, i64_w, i32_w]
              rfl
            refine one_ (i := 3) (N := (some 44)) #[true, true, true, true, false, false, false, false, false, false, false, false, false, false, false, false, false, false, false, false, false, false, false] rfl rfl (by kernel_rfl) (by decide) (fun K hK => ?_)
            refine goes_ Try.func139 (by kernel_rfl) rfl #[.pointer (some ⟨g, 0, none⟩), .int .i64 (n : Int), .int .i64 (k : Int)] (by rfl) rfl rfl (by (try simp only [List.map_toArray, List.map_cons, List.map_nil]); first | done | rfl) ?_
            refine (HCAN.out wx.drew hq0.out).mono ?_
            rintro e w3 ⟨rfl, hb3⟩
            refine ⟨_, rfl, ?_⟩
            have hq1 := Aside0.mk (below_then hq0.out hq0.out.size hb3)
            clear hb3
            refine hK.out _ _ (KEEP.out _ hq1.out) (fun hHeld => ?_)
            clear hK K
            refine norm_ (a' := ?_) ?_ ?_
            rotate_left
            · show Act.put _ (some 44) _ = _
              simp only [Act.put, List.setIfInBounds_toArray, List.set_cons_zero, List.set_cons_succ, i64_w, i32_w]
              rfl
            refine pure_ (i := 4) (N := (some 45)) (v := ?_) (a' := ?_) #[true, true, true, true, true, false, false, false, false, false, false, false, false, false, false, false, false, false, false, false, false, false, false] rfl rfl (by kernel_rfl) (fun _ _ _ h => h) (Or.inl ⟨by rfl, ?_⟩) ?_ ?_
            rotate_left
            · intro w'
              go_simp
              with_reducible rfl
            rotate_left
            · simp only [Act.put, List.setIfInBounds_toArray, List.set_cons_zero, List.set_cons_succ, i64_w, i32_w]
              rfl
            refine pure_ (i := 5) (N := (some 46)) (v := undef) (a' := ?_) #[true, true, true, true, true, true, false, false, false, false, false, false, false, false, false, false, false, false, false, false, false, false, false] rfl rfl (by kernel_rfl) (fun _ _ _ h => h) (Or.inr ⟨by rfl, rfl⟩) ?_ ?_
            rotate_left
            · simp only [Act.put, List.setIfInBounds_toArray, List.set_cons_zero, List.set_cons_succ, i64_w, i32_w]
              rfl
            refine pure_ (i := 6) (N := (some 47)) (v := undef) (a' := ?_) #[true, true, true, true, true, true, true, false, false, false, false, false, false, false, false, false, false, false, false, false, false, false, false] rfl rfl (by kernel_rfl) (fun _ _ _ h => h) (Or.inr ⟨by rfl, rfl⟩) ?_ ?_
            rotate_left
            · simp only [Act.put, List.setIfInBounds_toArray, List.set_cons_zero, List.set_cons_succ, i64_w, i32_w]
              rfl
            refine pure_ (i := 7) (N := (some 48)) (v := undef) (a' := ?_) #[true, true, true, true, true, true, true, true, false, false, false, false, false, false, false, false, false, false, false, false, false, false, false] rfl rfl (by kernel_rfl) (fun _ _ _ h => h) (Or.inr ⟨by rfl, rfl⟩) ?_ ?_
            rotate_left
            · simp only [Act.put, List.setIfInBounds_toArray, List.set_cons_zero, List.set_cons_succ, i64_w, i32_w]
              rfl
            refine pure_ (i := 8) (N := (some 49)) (v := undef) (a' := ?_) #[true, true, true, true, true, true, true, true, true, false, false, false, false, false, false, false, false, false, false, false, false, false, false] rfl rfl (by kernel_rfl) (fun _ _ _ h => h) (Or.inr ⟨by rfl, rfl⟩) ?_ ?_
            rotate_left
            · simp only [Act.put, List.setIfInBounds_toArray, List.set_cons_zero, List.set_cons_succ, i64_w, i32_w]
              rfl
            refine pure_ (i := 9) (N := (some 50)) (v := ?_) (a' := ?_) #[true, true, true, true, true, true, true, true, true, true, false, false, false, false, false, false, false, false, false, false, false, false, false] rfl rfl (by kernel_rfl) (fun _ _ _ h => h) (Or.inl ⟨by rfl, ?_⟩) ?_ ?_
            rotate_left
            · intro w'
              go_simp
              with_reducible rfl
            rotate_left
            · simp only [Act.put, List.setIfInBounds_toArray, List.set_cons_zero, List.set_cons_succ, i64_w, i32_w]
              rfl
            refine pure_ (i := 10) (N := (some 51)) (v := ?_) (a' := ?_) #[true, true, true, true, true, true, true, true, true, true, true, false, false, false, false, false, false, false, false, false, false, false, false] rfl rfl (by kernel_rfl) (fun _ _ _ h => h) (Or.inl ⟨by rfl, ?_⟩) ?_ ?_
            rotate_left
            · intro w'
              go_simp
              with_reducible rfl
            rotate_left
            · simp only [Act.put, List.setIfInBounds_toArray, List.set_cons_zero, List.set_cons_succ, i64_w, i32_w]
              rfl
            refine pure_ (i := 11) (N := (some 52)) (v := undef) (a' := ?_) #[true, true, true, true, true, true, true, true, true, true, true, true, false, false, false, false, false, false, false, false, false, false, false] rfl rfl (by kernel_rfl) (fun _ _ _ h => h) (Or.inr ⟨by rfl, rfl⟩) ?_ ?_
            rotate_left
            · simp only [Act.put, List.setIfInBounds_toArray, List.set_cons_zero, List.set_cons_succ, i64_w, i32_w]
              rfl
            refine pure_ (i := 12) (N := (some 53)) (v := undef) (a' := ?_) #[true, true, true, true, true, true, true, true, true, true, true, true, true, false, false, false, false, false, false, false, false, false, false] rfl rfl (by kernel_rfl) (fun _ _ _ h => h) (Or.inr ⟨by rfl, rfl⟩) ?_ ?_
            rotate_left
            · simp only [Act.put, List.setIfInBounds_toArray, List.set_cons_zero, List.set_cons_succ, i64_w, i32_w]
              rfl
            refine pure_ (i := 13) (N := (some 54)) (v := undef) (a' := ?_) #[true, true, true, true, true, true, true, true, true, true, true, true, true, true, false, false, false, false, false, false, false, false, false] rfl rfl (by kernel_rfl) (fun _ _ _ h => h) (Or.inr ⟨by rfl, rfl⟩) ?_ ?_
            rotate_left
            · simp only [Act.put, List.setIfInBounds_toArray, List.set_cons_zero, List.set_cons_succ, i64_w, i32_w]
              rfl
            refine pure_ (i := 14) (N := (some 55)) (v := undef) (a' := ?_) #[true, true, true, true, true, true, true, true, true, true, true, true, true, true, true, false, false, false, false, false, false, false, false] rfl rfl (by kernel_rfl) (fun _ _ _ h => h) (Or.inr ⟨by rfl, rfl⟩) ?_ ?_
            rotate_left
            · simp only [Act.put, List.setIfInBounds_toArray, List.set_cons_zero, List.set_cons_succ, i64_w, i32_w]
              rfl
            refine pure_ (i := 15) (N := (some 56)) (v := undef) (a' := ?_) #[true, true, true, true, true, true, true, true, true, true, true, true, true, true, true, true, false, false, false, false, false, false, false] rfl rfl (by kernel_rfl) (fun _ _ _ h => h) (Or.inr ⟨by rfl, rfl⟩) ?_ ?_
            rotate_left
            · simp only [Act.put, List.setIfInBounds_toArray, List.set_cons_zero, List.set_cons_succ, i64_w, i32_w]
              rfl
            refine pure_ (i := 16) (N := (some 57)) (v := undef) (a' := ?_) #[true, true, true, true, true, true, true, true, true, true, true, true, true, true, true, true, true, false, false, false, false, false, false] rfl rfl (by kernel_rfl) (fun _ _ _ h => h) (Or.inr ⟨by rfl, rfl⟩) ?_ ?_
            rotate_left
            · simp only [Act.put, List.setIfInBounds_toArray, List.set_cons_zero, List.set_cons_succ, i64_w, i32_w]
              rfl
            refine pure_ (i := 17) (N := (some 58)) (v := undef) (a' := ?_) #[true, true, true, true, true, true, true, true, true, true, true, true, true, true, true, true, true, true, false, false, false, false, false] rfl rfl (by kernel_rfl) (fun _ _ _ h => h) (Or.inr ⟨by rfl, rfl⟩) ?_ ?_
            rotate_left
            · simp only [Act.put, List.setIfInBounds_toArray, List.set_cons_zero, List.set_cons_succ, i64_w, i32_w]
              rfl
            refine pure_ (i := 18) (N := (some 59)) (v := undef) (a' := ?_) #[true, true, true, true, true, true, true, true, true, true, true, true, true, true, true, true, true, true, true, false, false, false, false] rfl rfl (by kernel_rfl) (fun _ _ _ h => h) (Or.inr ⟨by rfl, rfl⟩) ?_ ?_
            rotate_left
            · simp only [Act.put, List.setIfInBounds_toArray, List.set_cons_zero, List.set_cons_succ, i64_w, i32_w]
              rfl
            refine pure_ (i := 19) (N := (some 60)) (v := undef) (a' := ?_) #[true, true, true, true, true, true, true, true, true, true, true, true, true, true, true, true, true, true, true, true, false, false, false] rfl rfl (by kernel_rfl) (fun _ _ _ h => h) (Or.inr ⟨by rfl, rfl⟩) ?_ ?_
            rotate_left
            · simp only [Act.put, List.setIfInBounds_toArray, List.set_cons_zero, List.set_cons_succ, i64_w, i32_w]
              rfl
            refine pure_ (i := 20) (N := (some 61)) (v := undef) (a' := ?_) #[true, true, true, true, true, true, true, true, true, true, true, true, true, true, true, true, true, true, true, true, true, false, false] rfl rfl (by kernel_rfl) (fun _ _ _ h => h) (Or.inr ⟨by rfl, rfl⟩) ?_ ?_
            rotate_left
            · simp only [Act.put, List.setIfInBounds_toArray, List.set_cons_zero, List.set_cons_succ, i64_w, i32_w]
              rfl
            refine pure_ (i := 21) (N := (some 62)) (v := undef) (a' := ?_) #[true, true, true, true, true, true, true, true, true, true, true, true, true, true, true, true, true, true, true, true, true, true, false] rfl rfl (by kernel_rfl) (fun _ _ _ h => h) (Or.inr ⟨by rfl, rfl⟩) ?_ ?_
            rotate_left
            · simp only [Act.put, List.setIfInBounds_toArray, List.set_cons_zero, List.set_cons_succ, i64_w, i32_w]
              rfl
            refine pure_ (i := 22) (N := (some 63)) (v := ?_) (a' := ?_) #[true, true, true, true, true, true, true, true, true, true, true, true, true, true, true, true, true, true, true, true, true, true, true] rfl rfl (by kernel_rfl) (fun _ _ _ h => h) (Or.inl ⟨by rfl, ?_⟩) ?_ ?_
            rotate_left
            · intro w'
              go_simp
              with_reducible rfl
            rotate_left
            · simp only [Act.put, List.setIfInBounds_toArray, List.set_cons_zero, List.set_cons_succ, i64_w, i32_w]
              rfl
            refine done_ (by kernel_rfl) ?_
            go_wp2_with fail
            go_roundg (102 - (k + 1))
            case measure => omega
            case rel =>
              have hbb := below_then HBx.out HBx.out.size hq1.out
              exact ⟨k + 1, Nk, mk, by omega, by omega, by go_num, ⟨by have := HNk.out; have : (k + 1) * P = k * P + P := Nat.succ_mul k P; omega⟩, ⟨HMr.out.below hbb⟩, HSr, ⟨HNr.out.later hbb⟩, ⟨fun j hj => by
                by_cases e : j = k
                · rw [e]; exact HTK.out
                · exact HTr.out j (by omega)⟩⟩
      · have hltz : ¬ (k : Int) < 102 := by omega
        have HK2 := Aside0.mk (by omega : k = 102)
        have b8 : wm.cell? ⟨w.heap.size, 0, none⟩ = some (.int .i64 (n : Int)) := (blk_cell HNr.out.num 0).trans rfl
        have bd0 : wm.cell? ⟨bd, 0, none⟩ = some (.map (some mb)) := (blk_cell HNr.out.boxes.dead 0).trans rfl
        obtain ⟨D, hown, hIs, hat⟩ := HMr.out
        obtain ⟨kl, hkl⟩ := keyOf194 (n : Int) before (WalkArith.wf_i64 (by omega)) (WalkArith.wf_i64 (by omega))
        have hcm : Nk < maxLen := by have := HNk.out; rw [HK2.out] at this; unfold maxLen; omega
        have HOW := Aside0.mk hown
        have HAT := Aside0.mk hat
        have HIS := Aside0.mk hIs
        have HKL := Aside0.mk hkl
        clear hown hat hIs hkl
        go_wp2_with (at_mapUpdate; refine wpList_mapUpdate_own _ rfl _ _ _ 191 rfl 194 4 key194 Try.underlying191 (plainElem Try.prog 4) mb Nk D rfl HOW.out hcm _ _ kl rfl rfl HKL.out (.lit (.bool true)) [] (plainElem_bool Try.underlying4 true) ?_; intro w1 hown1 hgrow1; have HM2 := Aside0.mk (DMap.put HKL.out HAT.out HIS.out hown1); have HG2 := Aside0.mk hgrow1; clear hown1 hgrow1)
        go_ret
        have hnone : srchL routes pat l (sends.drop n) n before = none := by
          rw [List.drop_eq_getElem_cons hn, srchL_cons]
          exact findSome_none (fun j hj => HTr.out j (by rw [HK2.out]; exact hj))
        obtain ⟨vf, hf⟩ := HNr.out.boxes.found
        have hmf := map_ne HMr.out hf
        rw [hnone]
        exact ⟨Nk + 1, _, vf, by have := HNk.out; rw [HK2.out] at this; omega, HM2.out, HSr.out.put hnone, HNr.out.kept.trans (.grown HG2.out), HNr.out.below.grown HG2.out HNr.out.below.size (fun j e => by cases e; exact HMB.out), rfl, blk_grown hf HG2.out (fun e => hmf (Option.some.inj e)), fun r hr => by cases hr⟩
end Go.Proofs.Ytiephlhohgohcaa.PAll
namespace Go.Proofs.Ytiephlhohgohcaa.PAll
open Go.RowKit Go.Proofs.YtiephlhohgohcaaW.PrintWords Go.Proofs.YtiephlhohgohcaaW.PrintLast Go.Proofs.YtiephlhohgohcaaW.PrintMore
attribute [local go_sem] max2_int min2_int max_two min_two max_three min_three max_four min_four
set_option linter.unusedVariables false
set_option linter.unusedSimpArgs false
theorem putsOf_le : ∀ d, d ≤ 4 → putsOf d ≤ 2000000 := by decide
theorem next137 (w0 : World) (g : Nat) (A0 : Option Addr) (c0 : Nat) (sends : List Int) (A1 : Option Addr) (c1 : Nat) (routes : List S122) (pat : Int) (Al : Option Addr) (cl : Nat) (l : List S87)
    (hwk : WorkAt w0 g A0 c0 sends A1 c1 routes pat) (h0 : Kd.C (Kd.int .i64) w0 A0 sends.length sends) (l0 : sends.length ≤ c0) (h1 : Kd.C k122 w0 A1 routes.length routes) (l1 : routes.length ≤ c1) (hl : Kd.C k87 w0 Al l.length l) (V : Valid sends routes pat)
    (bw bf bd bl bn mb : Nat) (hbf : w0.heap.size ≤ bf) (hmb : w0.heap.size ≤ mb) : ∀ (d n : Nat), n + d = sends.length → Rest137 w0 sends routes pat Al cl l g bw bf bd bl bn mb (putsOf d) n
  | 0, n, hn => by
    have hn' : n = sends.length := by omega
    subst hn'
    intro before hv hs N m w hbe0 hbe1 HBX hb0 hrow hhs hm hsd hN
    rw [List.drop_eq_nil_of_le (Nat.le_refl _)]
    exact next137_end w0 g A0 c0 sends A1 c1 routes pat Al cl l hwk V.sn bw bf bd bl bn mb N 0 before hv hs m w HBX hbf hb0 hrow hm hsd
  | d + 1, n, hn => by
    have hs4 := V.sn
    exact next137_step w0 g A0 c0 sends A1 c1 routes pat Al cl l hwk h0 l0 h1 l1 hl V bw bf bd bl bn mb (putsOf d) hbf hmb (putsOf_le d (by omega)) n (by omega) (next137 w0 g A0 c0 sends A1 c1 routes pat Al cl l hwk h0 l0 h1 l1 hl V bw bf bd bl bn mb hbf hmb d (n + 1) (by omega))
theorem blk_new_at {w : World} {o : Obj} {k : Nat} (hk : w.heap.size = k) : (w.alloc o).heap[k]? = some o := hk ▸ blk_new w o
theorem size_new_at {w : World} {o : Obj} {k : Nat} (hk : w.heap.size = k) : (w.alloc o).heap.size = k + 1 := by rw [World.size_alloc, hk]
/-- What a search returns. -/
def SearchPost (w : World) (o : Option (List Int)) (e : Ending) (w' : World) : Prop :=
  ∃ v, e = .returned (.tuple #[v, .bool o.isSome]) ∧ (∀ r, o = some r → Kd.R (Kd.int .i64) 3 w' w.heap.size (fun _ => True) v r) ∧ Below w.heap.size w w'
/-- The world when a search begins. -/
def W109 (w : World) (g : Nat) (Al : Option Addr) (nl cl : Nat) : World :=
  ((((((w.alloc (.cells #[.pointer (some ⟨g, 0, none⟩)] 139)).alloc (.cells #[.slice Al nl cl] 36)).alloc (.cells #[.slice none 0 0] 22)).alloc (.map #[] 0)).alloc (.cells #[.map (some (w.heap.size + 1 + 1 + 1))] 191)).alloc
    (.cells #[.func (.func 137) #[] #[.pointer (some ⟨w.heap.size, 0, none⟩), .pointer (some ⟨w.heap.size + 1 + 1, 0, none⟩), .pointer (some ⟨w.heap.size + 1 + 1 + 1 + 1, 0, none⟩), .pointer (some ⟨w.heap.size + 1, 0, none⟩), .pointer (some ⟨w.heap.size + 1 + 1 + 1 + 1 + 1, 0, none⟩)]] 192))
theorem w109_below (w : World) (g : Nat) (Al : Option Addr) (nl cl : Nat) : Below w.heap.size w (W109 w g Al nl cl) :=
  ((((((Below.refl _ w).alloc (by simp) _).alloc (by simp) _).alloc (by simp; omega) _).alloc (by simp; omega) _).alloc (by simp; omega) _).alloc (by simp; omega) _
theorem w109_boxes (w : World) (g : Nat) (Al : Option Addr) (nl cl : Nat) :
    SBoxes (W109 w g Al nl cl) w.heap.size (w.heap.size + 1 + 1) (w.heap.size + 1 + 1 + 1 + 1) (w.heap.size + 1) (w.heap.size + 1 + 1 + 1 + 1 + 1) g (w.heap.size + 1 + 1 + 1) Al nl cl ∧ DMap (W109 w g Al nl cl) (w.heap.size + 1 + 1 + 1) 0 (fun _ _ => false) := by
  have z1 := size_new_at (w := w) (o := .cells #[.pointer (some ⟨g, 0, none⟩)] 139) rfl
  have z2 := size_new_at (o := .cells #[.slice Al nl cl] 36) z1
  have z3 := size_new_at (o := .cells #[.slice none 0 0] 22) z2
  have z4 := size_new_at (o := .map #[] 0) z3
  have z5 := size_new_at (o := .cells #[.map (some (w.heap.size + 1 + 1 + 1))] 191) z4
  refine ⟨⟨?_, ⟨.slice none 0 0, ?_⟩, ?_, ?_, ?_⟩, ?_⟩
  · exact blk_alloc (blk_alloc (blk_alloc (blk_alloc (blk_alloc (blk_new w _) _) _) _) _) _
  · exact blk_alloc (blk_alloc (blk_alloc (blk_new_at z2) _) _) _
  · exact blk_alloc (blk_new_at z4) _
  · exact blk_alloc (blk_alloc (blk_alloc (blk_alloc (blk_new_at z1) _) _) _) _
  · exact blk_new_at z5
  · have h := DMap.made (((w.alloc (.cells #[.pointer (some ⟨g, 0, none⟩)] 139)).alloc (.cells #[.slice Al nl cl] 36)).alloc (.cells #[.slice none 0 0] 22))
    rw [z3] at h
    exact (h.below (below_alloc (Below.refl _ _) _)).below (below_alloc (Below.refl _ _) _)
set_option maxRecDepth 100000 in
set_option maxHeartbeats 4000000 in
theorem search109 (g : Nat) (A0 : Option Addr) (c0 : Nat) (sends : List Int) (A1 : Option Addr) (c1 : Nat) (routes : List S122) (pat : Int) (Al : Option Addr) (cl : Nat) (l : List S87) (w : World)
    (hwk : WorkAt w g A0 c0 sends A1 c1 routes pat) (h0 : Kd.C (Kd.int .i64) w A0 sends.length sends) (l0 : sends.length ≤ c0) (h1 : Kd.C k122 w A1 routes.length routes) (l1 : routes.length ≤ c1) (hl : Kd.C k87 w Al l.length l) (V : Valid sends routes pat) :
    Calls Try.prog 109 #[.pointer (some ⟨g, 0, none⟩), .slice Al l.length cl] w (SearchPost w (srchL routes pat l sends 0 0)) := by
  have HN := Aside0.mk (next137 w g A0 c0 sends A1 c1 routes pat Al cl l hwk h0 l0 h1 l1 hl V w.heap.size (w.heap.size + 1 + 1) (w.heap.size + 1 + 1 + 1 + 1) (w.heap.size + 1) (w.heap.size + 1 + 1 + 1 + 1 + 1) (w.heap.size + 1 + 1 + 1) (by omega) (by omega) sends.length 0 (by omega))
  have hpu := putsOf_le sends.length V.sn
  obtain ⟨hx, hm⟩ := w109_boxes w g Al l.length cl
  have hb := w109_below w g Al l.length cl
  generalize hso : srchL routes pat l sends 0 0 = o
  have HSO := Aside0.mk hso
  have HX := Aside0.mk hx
  have HM := Aside0.mk hm
  have HB := Aside0.mk hb
  clear hwk h0 l0 h1 l1 hl V hx hm hb hso
  have hmm := @run_makeMap Try.prog
  go_enter Try.func109, Try.ntmps109
  go_wp2_with fail
  refine (HN.out 0 (.slice none 0 0) [] 0 (fun _ _ => false) (W109 w g Al l.length cl) (by omega) (by omega) HX.out HB.out (Kd.R_nil _ _ _ _ _) (by simp) HM.out (fun _ _ h => by cases h) (by omega)).mono ?_
  rw [List.drop_zero, show ((0 : Nat) : Int) = 0 from rfl, HSO.out]
  rintro e w7 ⟨N', m', vf, hN', hm', hsd', hk', hb', rfl, hf', hr'⟩
  have f0 : w7.cell? ⟨w.heap.size + 1 + 1, 0, none⟩ = some vf := (blk_cell hf' 0).trans rfl
  have HB7 := Aside0.mk hb'
  have HR7 := Aside0.mk hr'
  clear hN' hm' hsd' hk' hb' hf' hr' HN HX HM HB hpu hmm
  go_wp2_with fail
  go_ret2
  exact ⟨vf, rfl, fun r hr => by have h := HR7.out r hr; rw [List.nil_append] at h; exact h, HB7.out⟩
end Go.Proofs.Ytiephlhohgohcaa.PAll
namespace Go.Proofs.Ytiephlhohgohcaa.PAll
open Go.RowKit Go.Proofs.YtiephlhohgohcaaW.PrintWords Go.Proofs.YtiephlhohgohcaaW.PrintLast Go.Proofs.YtiephlhohgohcaaW.PrintMore
attribute [local go_sem] max2_int min2_int max_two min_two max_three min_three max_four min_four
set_option linter.unusedVariables false
set_option linter.unusedSimpArgs false
/-- What holds while entries are left out. -/
structure OAt (w0 W : World) (bl bf bw bn g : Nat) (Al : Option Addr) (nl cl : Nat) (outv : Value) (out : List Int) (keptv : Value) (kept : List S87) : Prop where
  list : W.heap[bl]? = some (.cells #[.slice Al nl cl] 36 (0, 0))
  found : ∃ v, W.heap[bf]? = some (.cells #[v] 22 (0, 0))
  work : W.heap[bw]? = some (.cells #[.pointer (some ⟨g, 0, none⟩)] 139 (0, 0))
  leave : W.heap[bn]? = some (.cells #[.func (.func 108) #[] #[.pointer (some ⟨bl, 0, none⟩), .pointer (some ⟨bf, 0, none⟩), .pointer (some ⟨bw, 0, none⟩), .pointer (some ⟨bn, 0, none⟩)]] 167 (0, 0))
  below : Below w0.heap.size w0 W
  rout : Kd.R (Kd.int .i64) 3 W w0.heap.size (fun _ => True) outv out
  rkept : Kd.R k87 87 W w0.heap.size (fun _ => True) keptv kept
theorem OAt.later {w0 W W' : World} {bl bf bw bn g : Nat} {Al : Option Addr} {nl cl : Nat} {outv : Value} {out : List Int} {keptv : Value} {kept : List S87} (h : OAt w0 W bl bf bw bn g Al nl cl outv out keptv kept) (hb : Below W.heap.size W W') : OAt w0 W' bl bf bw bn g Al nl cl outv out keptv kept := by
  obtain ⟨h1, ⟨v, h2⟩, h3, h4, h5, h6, h7⟩ := h
  exact ⟨blk_below h1 hb, ⟨v, blk_below h2 hb⟩, blk_below h3 hb, blk_below h4 hb, below_then h5 h5.size hb, Kd.R_below h6 hb, Kd.R_below h7 hb⟩
theorem R_kept1 {α : Type} {d : Kd α} {e : Nat} {w w' : World} {a : Nat} {base : Nat} {ok : Nat → Prop} {v : Value} {xs : List α} (h : Kd.R d e w base ok v xs) (hE : ∀ q, q ∈ e :: d.E → q ≠ 22) (hk : KeptBut a a w w') {ca : Array Value} (ha : w.heap[a]? = some (.cells ca 22 (0, 0))) : Kd.R d e w' base ok v xs :=
  Kd.R_mono (Kd.R_move (Kd.R_bound h) (fun k hk' => by
    obtain ⟨_, _, hlt, q, hq, cells, hc⟩ := hk'
    exact hk.same k hlt (blk_ne hc ha (hE q hq)) (blk_ne hc ha (hE q hq)))) (fun _ hk' => hk'.1)
theorem OAt.step {w0 W W' : World} {bl bf bw bn g : Nat} {Al : Option Addr} {nl cl : Nat} {outv : Value} {out : List Int} {keptv : Value} {kept : List S87} (h : OAt w0 W bl bf bw bn g Al nl cl outv out keptv kept) (hk : KeptBut bf bf W W') (hb : Below w0.heap.size w0 W') (hf : ∃ v, W'.heap[bf]? = some (.cells #[v] 22 (0, 0))) : OAt w0 W' bl bf bw bn g Al nl cl outv out keptv kept := by
  obtain ⟨h1, ⟨v, h2⟩, h3, h4, h5, h6, h7⟩ := h
  exact ⟨hk.blk h1 (blk_ne h1 h2 (by decide)) (blk_ne h1 h2 (by decide)), hf, hk.blk h3 (blk_ne h3 h2 (by decide)) (blk_ne h3 h2 (by decide)), hk.blk h4 (blk_ne h4 h2 (by decide)) (blk_ne h4 h2 (by decide)), hb, R_kept1 h6 (by decide) hk h2, R_kept1 h7 (by decide) hk h2⟩
/-- What a call leaves. -/
def LeavePost (w0 w : World) (bf : Nat) (o : Option (List Int)) (e : Ending) (w' : World) : Prop :=
  KeptBut bf bf w w' ∧ Below w0.heap.size w0 w' ∧ e = .returned (.bool o.isSome) ∧ ∃ v, w'.heap[bf]? = some (.cells #[v] 22 (0, 0)) ∧ ∀ r, o = some r → Kd.R (Kd.int .i64) 3 w' w0.heap.size (fun _ => True) v r
def RestL (w0 : World) (sends : List Int) (routes : List S122) (pat : Int) (Al : Option Addr) (cl : Nat) (l : List S87) (g bl bf bw bn : Nat) (n : Nat) : Prop :=
  ∀ (outv keptv : Value) (out : List Int) (kept : List S87) (many : Nat) (w : World), OAt w0 w bl bf bw bn g Al l.length cl outv out keptv kept → out.length ≤ n → kept.length ≤ n → many ≤ 100 →
    Calls Try.prog 108 #[outv, keptv, .int .i64 (n : Int), .int .i64 (many : Int), .pointer (some ⟨bl, 0, none⟩), .pointer (some ⟨bf, 0, none⟩), .pointer (some ⟨bw, 0, none⟩), .pointer (some ⟨bn, 0, none⟩)] w
      (LeavePost w0 w bf (leaveL routes pat sends (l.drop n) n out kept many))
set_option maxRecDepth 100000 in
set_option maxHeartbeats 4000000 in
theorem leave108_far (w0 : World) (sends : List Int) (routes : List S122) (pat : Int) (Al : Option Addr) (cl : Nat) (l : List S87) (g bl bf bw bn : Nat) (n : Nat) (hl8 : l.length ≤ 8) (hn : n ≤ l.length)
    (outv keptv : Value) (out : List Int) (kept : List S87) (many : Nat) (w : World) (hO : OAt w0 w bl bf bw bn g Al l.length cl outv out keptv kept) (hm : many ≤ 100) (hfar : l.length - n < many) :
    Calls Try.prog 108 #[outv, keptv, .int .i64 (n : Int), .int .i64 (many : Int), .pointer (some ⟨bl, 0, none⟩), .pointer (some ⟨bf, 0, none⟩), .pointer (some ⟨bw, 0, none⟩), .pointer (some ⟨bn, 0, none⟩)] w
      (LeavePost w0 w bf none) := by
  obtain ⟨Ao, co, rfl⟩ := Kd.R_slice hO.rout
  obtain ⟨Ak, ck, rfl⟩ := Kd.R_slice hO.rkept
  have HO := Aside0.mk hO
  have bl0 : w.cell? ⟨bl, 0, none⟩ = some (.slice Al l.length cl) := (blk_cell hO.list 0).trans rfl
  have hgt : (l.length : Int) - (n : Int) < (many : Int) := by omega
  clear hO
  go_enter Try.func108, Try.ntmps108
  go_wp2_with fail
  go_ret
  obtain ⟨v, hv⟩ := HO.out.found
  exact ⟨.refl _ _ _, HO.out.below, rfl, v, hv, fun r hr => by cases hr⟩
set_option maxRecDepth 100000 in
set_option maxHeartbeats 4000000 in
theorem leave108_end (w0 : World) (A0 : Option Addr) (c0 : Nat) (sends : List Int) (A1 : Option Addr) (c1 : Nat) (routes : List S122) (pat : Int) (Al : Option Addr) (cl : Nat) (l : List S87) (g bl bf bw bn : Nat)
    (hwk : WorkAt w0 g A0 c0 sends A1 c1 routes pat) (h0 : Kd.C (Kd.int .i64) w0 A0 sends.length sends) (l0 : sends.length ≤ c0) (h1 : Kd.C k122 w0 A1 routes.length routes) (l1 : routes.length ≤ c1) (V : Valid sends routes pat) (hbf : w0.heap.size ≤ bf) (hl8 : l.length ≤ 8)
    (outv keptv : Value) (out : List Int) (kept : List S87) (w : World) (hO : OAt w0 w bl bf bw bn g Al l.length cl outv out keptv kept) :
    Calls Try.prog 108 #[outv, keptv, .int .i64 (l.length : Int), .int .i64 0, .pointer (some ⟨bl, 0, none⟩), .pointer (some ⟨bf, 0, none⟩), .pointer (some ⟨bw, 0, none⟩), .pointer (some ⟨bn, 0, none⟩)] w
      (LeavePost w0 w bf (if (srchL routes pat kept sends 0 0).isSome = true then some out else none)) := by
  obtain ⟨Ao, co, rfl⟩ := Kd.R_slice hO.rout
  obtain ⟨Ak, ck, rfl⟩ := Kd.R_slice hO.rkept
  obtain ⟨v, hf⟩ := hO.found
  have HO := Aside0.mk hO
  have HF := Aside0.mk hf
  have bl0 : w.cell? ⟨bl, 0, none⟩ = some (.slice Al l.length cl) := (blk_cell hO.list 0).trans rfl
  have ff := blk_frozen hf 0
  have f0 : w.cell? ⟨bf, 0, none⟩ = some v := (blk_cell hf 0).trans rfl
  have hne : bw ≠ bf := blk_ne hO.work hf (by decide)
  have hw2 := blk_far hO.work (p := ⟨bf, 0, none⟩) hne (.slice Ao out.length co)
  have bw0 : (w.setCell ⟨bf, 0, none⟩ (.slice Ao out.length co)).cell? ⟨bw, 0, none⟩ = some (.pointer (some ⟨g, 0, none⟩)) := (blk_cell hw2 0).trans rfl
  have hk1 : KeptBut bf bf w (w.setCell ⟨bf, 0, none⟩ (.slice Ao out.length co)) := .set w 0 _
  have hb1 : Below w0.heap.size w0 (w.setCell ⟨bf, 0, none⟩ (.slice Ao out.length co)) := hO.below.setCell (p := ⟨bf, 0, none⟩) hbf _
  have hr1 := R_kept1 hO.rout (by decide) hk1 hf
  have hr2 := R_kept1 hO.rkept (by decide) hk1 hf
  have hf1 : (w.setCell ⟨bf, 0, none⟩ (.slice Ao out.length co)).heap[bf]? = some (.cells #[.slice Ao out.length co] 22 (0, 0)) := blk_set hf 0 _
  obtain ⟨Ak', ck', he, _, hCk⟩ := Kd.R_reads hr2
  injection he with e1 e2 e3
  subst e1
  clear e2
  have HS := Aside0.mk (search109 g A0 c0 sends A1 c1 routes pat Ak ck kept _ (hwk.below hb1) (Kd.C_below h0 hb1) l0 (Kd.C_below h1 hb1) l1 hCk V)
  have HK1 := Aside0.mk hk1
  have HB1 := Aside0.mk hb1
  have HR1 := Aside0.mk hr1
  have HF1 := Aside0.mk hf1
  generalize hso : srchL routes pat kept sends 0 0 = o at HS
  have HSO := Aside0.mk hso
  clear hO hf hw2 hk1 hb1 hr1 hr2 hf1 hCk hwk h0 h1 l0 l1 V hne e3 hso
  cases o
  all_goals
    go_enter Try.func108, Try.ntmps108
    go_wp2_with fail
    refine HS.out.mono ?_
    rintro e w7 ⟨vs, rfl, _, hb7⟩
    have HB7 := Aside0.mk hb7
    clear hb7 bw0 f0 ff bl0
    go_wp2_with fail
    go_ret
    refine ⟨HK1.out.trans (.of_below HB7.out), below_then HB1.out HB1.out.size HB7.out, rfl, _, blk_below HF1.out HB7.out, fun r hr => ?_⟩
    first
      | (cases hr; done)
      | (obtain rfl := Option.some.inj hr
         exact Kd.R_below HR1.out HB7.out)
/-- What a region of the recursive call reads. -/
def SReg (W : World) (ad : Addr) (bl bf bw bn n nl cl : Nat) (x : S87) : Prop :=
  W.cell? ⟨bl, 0, none⟩ = some (.slice (some ad) nl cl) ∧ W.cell? ⟨bn, 0, none⟩ = some (.func (.func 108) #[] #[.pointer (some ⟨bl, 0, none⟩), .pointer (some ⟨bf, 0, none⟩), .pointer (some ⟨bw, 0, none⟩), .pointer (some ⟨bn, 0, none⟩)]) ∧ W.cell? (ad.add (n * 3)) = some (.int .i64 x.f0) ∧ W.cell? ⟨(ad.add (n * 3)).block, (ad.add (n * 3)).off + 1, none⟩ = some (.int .i64 x.f1) ∧ W.cell? ⟨(ad.add (n * 3)).block, (ad.add (n * 3)).off + 2, none⟩ = some (.bool x.f2)
theorem OAt.reg {w0 W : World} {bl bf bw bn g : Nat} {ad : Addr} {l : List S87} {cl : Nat} {outv : Value} {out : List Int} {keptv : Value} {kept : List S87} {n : Nat} {x : S87} (h : OAt w0 W bl bf bw bn g (some ad) l.length cl outv out keptv kept)
    (d0 : w0.cell? (ad.add (n * 3)) = some (.int .i64 x.f0)) (d1 : w0.cell? ⟨(ad.add (n * 3)).block, (ad.add (n * 3)).off + 1, none⟩ = some (.int .i64 x.f1)) (d2 : w0.cell? ⟨(ad.add (n * 3)).block, (ad.add (n * 3)).off + 2, none⟩ = some (.bool x.f2)) : SReg W ad bl bf bw bn n l.length cl x :=
  ⟨(blk_cell h.list 0).trans rfl, (blk_cell h.leave 0).trans rfl, (h.below.cell (World.block_lt_of_cell? w0 _ d0)).trans d0, (h.below.cell (World.block_lt_of_cell? w0 _ d1)).trans d1, (h.below.cell (World.block_lt_of_cell? w0 _ d2)).trans d2⟩
set_option maxRecDepth 100000 in
set_option maxHeartbeats 8000000 in
theorem leave108_zero (w0 : World) (sends : List Int) (routes : List S122) (pat : Int) (ad : Addr) (cl : Nat) (l : List S87) (g bl bf bw bn : Nat) (hl8 : l.length ≤ 8) (n : Nat) (hn : n < l.length) (x : S87)
    (d0 : w0.cell? (ad.add (n * 3)) = some (.int .i64 x.f0)) (d1 : w0.cell? ⟨(ad.add (n * 3)).block, (ad.add (n * 3)).off + 1, none⟩ = some (.int .i64 x.f1)) (d2 : w0.cell? ⟨(ad.add (n * 3)).block, (ad.add (n * 3)).off + 2, none⟩ = some (.bool x.f2))
    (IH : RestL w0 sends routes pat (some ad) cl l g bl bf bw bn (n + 1))
    (outv keptv : Value) (out : List Int) (kept : List S87) (many : Nat) (w : World) (hO : OAt w0 w bl bf bw bn g (some ad) l.length cl outv out keptv kept) (ho : out.length ≤ n) (hk : kept.length ≤ n) (hm : many ≤ l.length - n) (hm0 : many = 0) :
    Calls Try.prog 108 #[outv, keptv, .int .i64 (n : Int), .int .i64 (many : Int), .pointer (some ⟨bl, 0, none⟩), .pointer (some ⟨bf, 0, none⟩), .pointer (some ⟨bw, 0, none⟩), .pointer (some ⟨bn, 0, none⟩)] w
      (LeavePost w0 w bf (leaveL routes pat sends (l.drop (n + 1)) ((n : Int) + 1) out (kept ++ [x]) many)) := by
  obtain ⟨Ao, co, rfl⟩ := Kd.R_slice hO.rout
  obtain ⟨Ak, ck, rfl⟩ := Kd.R_slice hO.rkept
  have HO := Aside0.mk hO
  have HREG : Aside0 (∀ W, OAt w0 W bl bf bw bn g (some ad) l.length cl (.slice Ao out.length co) out (.slice Ak kept.length ck) kept → SReg W ad bl bf bw bn n l.length cl x) := ⟨fun W h => h.reg d0 d1 d2⟩
  obtain ⟨bl0, bn0, e0, e1, e2⟩ := HREG.out w hO
  have hgt : ¬ (l.length : Int) - (n : Int) < (many : Int) := by omega
  have hne : ((n : Int) == (l.length : Int)) = false := beq_eq_false_iff_ne.2 (by omega)
  have hix : (n : Int) < (l.length : Int) := by omega
  have hwn : wrap64 ((n : Int) + 1) = (n : Int) + 1 := by unfold wrap64; omega
  subst hm0
  have HIH2 : Aside0 (∀ (wq : World), OAt w0 wq bl bf bw bn g (some ad) l.length cl (.slice Ao out.length co) out (.slice Ak kept.length ck) kept → ∀ (v' : Value) (w' : World), Below wq.heap.size wq w' → Kd.R k87 87 w' wq.heap.size (fun _ => True) v' (kept ++ [x]) →
      Calls Try.prog 108 #[.slice Ao out.length co, v', .int .i64 ((n : Int) + 1), .int .i64 0, .pointer (some ⟨bl, 0, none⟩), .pointer (some ⟨bf, 0, none⟩), .pointer (some ⟨bw, 0, none⟩), .pointer (some ⟨bn, 0, none⟩)] w' (LeavePost w0 w' bf (leaveL routes pat sends (l.drop (n + 1)) ((n : Int) + 1) out (kept ++ [x]) 0))) := ⟨fun wq hq v' w' hb hr => by
    have h := IH (.slice Ao out.length co) v' out (kept ++ [x]) 0 w' (by obtain ⟨h1, h2, h3, h4, h5, h6, h7⟩ := hq.later hb; exact ⟨h1, h2, h3, h4, h5, h6, Kd.R_lower hr hq.below.size⟩) (by omega) (by simp; omega) (by omega)
    rw [show ((0 : Nat) : Int) = 0 from rfl] at h
    exact h⟩
  obtain ⟨o2, ho2⟩ : ∃ o2, o2 = leaveL routes pat sends (l.drop (n + 1)) ((n : Int) + 1) out (kept ++ [x]) 0 := ⟨_, rfl⟩
  rw [← ho2] at HIH2 ⊢
  clear ho2
  clear hO d0 d1 d2 IH
  go_enter Try.func108, Try.ntmps108
  go_wp2_with fail
  have hq0 : Aside0 (Below w.heap.size w w.drew) := ⟨below_drew (Below.refl _ _)⟩
  refine start_ (n := 33) (S := fun w' => w'.cell? ⟨bl, 0, none⟩ = some (.slice (some ad) l.length cl) ∧ w'.cell? ⟨bn, 0, none⟩ = some (.func (.func 108) #[] #[.pointer (some ⟨bl, 0, none⟩), .pointer (some ⟨bf, 0, none⟩), .pointer (some ⟨bw, 0, none⟩), .pointer (some ⟨bn, 0, none⟩)]) ∧ w'.cell? (ad.add (n * 3)) = some (.int .i64 x.f0) ∧ w'.cell? ⟨(ad.add (n * 3)).block, (ad.add (n * 3)).off + 1, none⟩ = some (.int .i64 x.f1) ∧ w'.cell? ⟨(ad.add (n * 3)).block, (ad.add (n * 3)).off + 2, none⟩ = some (.bool x.f2)) (ds := [30]) #[false, false, false, false, false, false, false, false, false, false, false, false, false, false, false, false, false, false, false, false, false, false, false, false, false, false, false, false, false, false, false, false, false] (by kernel_rfl) rfl rfl ⟨bl0, bn0, e0, e1, e2⟩ (fun hHeld => ?_)
  refine pure_ (i := 0) (N := (some 35)) (v := ?_) (a' := ?_) #[true, false, false, false, false, false, false, false, false, false, false, false, false, false, false, false, false, false, false, false, false, false, false, false, false, false, false, false, false, false, false, false, false] rfl rfl (by kernel_rfl) (fun _ _ _ h => h) (Or.inl ⟨by rfl, ?_⟩) ?_ ?_
  rotate_left
  · intro w'
    go_simp
    with_reducible rfl
  rotate_left
  · simp only [Act.put, List.setIfInBounds_toArray, List.set_cons_zero, List.set_cons_succ, i64_w, i32_w]
    rfl
  refine pure_ (i := 1) (N := (some 36)) (v := ?_) (a' := ?_) #[true, true, false, false, false, false, false, false, false, false, false, false, false, false, false, false, false, false, false, false, false, false, false, false, false, false, false, false, false, false, false, false, false] rfl rfl (by kernel_rfl) (fun _ _ _ h => h) (Or.inl ⟨by rfl, ?_⟩) ?_ ?_
  rotate_left
  · intro w'
    go_simp
    with_reducible rfl
  rotate_left
  · simp only [Act.put, List.setIfInBounds_toArray, List.set_cons_zero, List.set_cons_succ, i64_w, i32_w]
    rfl
  refine pure_ (i := 2) (N := (some 37)) (v := ?_) (a' := ?_) #[true, true, true, false, false, false, false, false, false, false, false, false, false, false, false, false, false, false, false, false, false, false, false, false, false, false, false, false, false, false, false, false, false] rfl rfl (by kernel_rfl) (fun _ _ _ h => h) (Or.inl ⟨by rfl, ?_⟩) ?_ ?_
  rotate_left
  · intro w'
    go_simp
    with_reducible rfl
  rotate_left
  · simp only [Act.put, List.setIfInBounds_toArray, List.set_cons_zero, List.set_cons_succ, i64_w, i32_w]
    rfl
  refine pure_ (i := 3) (N := (some 38)) (v := undef) (a' := ?_) #[true, true, true, true, false, false, false, false, false, false, false, false, false, false, false, false, false, false, false, false, false, false, false, false, false, false, false, false, false, false, false, false, false] rfl rfl (by kernel_rfl) (fun _ _ _ h => h) (Or.inr ⟨by rfl, rfl⟩) ?_ ?_
  rotate_left
  · simp only [Act.put, List.setIfInBounds_toArray, List.set_cons_zero, List.set_cons_succ, i64_w, i32_w]
    rfl
  refine pure_ (i := 4) (N := (some 39)) (v := undef) (a' := ?_) #[true, true, true, true, true, false, false, false, false, false, false, false, false, false, false, false, false, false, false, false, false, false, false, false, false, false, false, false, false, false, false, false, false] rfl rfl (by kernel_rfl) (fun _ _ _ h => h) (Or.inr ⟨by rfl, rfl⟩) ?_ ?_
  rotate_left
  · simp only [Act.put, List.setIfInBounds_toArray, List.set_cons_zero, List.set_cons_succ, i64_w, i32_w]
    rfl
  refine pure_ (i := 5) (N := (some 40)) (v := undef) (a' := ?_) #[true, true, true, true, true, true, false, false, false, false, false, false, false, false, false, false, false, false, false, false, false, false, false, false, false, false, false, false, false, false, false, false, false] rfl rfl (by kernel_rfl) (fun _ _ _ h => h) (Or.inr ⟨by rfl, rfl⟩) ?_ ?_
  rotate_left
  · simp only [Act.put, List.setIfInBounds_toArray, List.set_cons_zero, List.set_cons_succ, i64_w, i32_w]
    rfl
  refine pure_ (i := 6) (N := (some 41)) (v := undef) (a' := ?_) #[true, true, true, true, true, true, true, false, false, false, false, false, false, false, false, false, false, false, false, false, false, false, false, false, false, false, false, false, false, false, false, false, false] rfl rfl (by kernel_rfl) (fun _ _ _ h => h) (Or.inr ⟨by rfl, rfl⟩) ?_ ?_
  rotate_left
  · simp only [Act.put, List.setIfInBounds_toArray, List.set_cons_zero, List.set_cons_succ, i64_w, i32_w]
    rfl
  refine pure_ (i := 7) (N := (some 42)) (v := undef) (a' := ?_) #[true, true, true, true, true, true, true, true, false, false, false, false, false, false, false, false, false, false, false, false, false, false, false, false, false, false, false, false, false, false, false, false, false] rfl rfl (by kernel_rfl) (fun _ _ _ h => h) (Or.inr ⟨by rfl, rfl⟩) ?_ ?_
  rotate_left
  · simp only [Act.put, List.setIfInBounds_toArray, List.set_cons_zero, List.set_cons_succ, i64_w, i32_w]
    rfl
  refine pure_ (i := 8) (N := (some 43)) (v := undef) (a' := ?_) #[true, true, true, true, true, true, true, true, true, false, false, false, false, false, false, false, false, false, false, false, false, false, false, false, false, false, false, false, false, false, false, false, false] rfl rfl (by kernel_rfl) (fun _ _ _ h => h) (Or.inr ⟨by rfl, rfl⟩) ?_ ?_
  rotate_left
  · simp only [Act.put, List.setIfInBounds_toArray, List.set_cons_zero, List.set_cons_succ, i64_w, i32_w]
    rfl
  refine pure_ (i := 9) (N := (some 44)) (v := undef) (a' := ?_) #[true, true, true, true, true, true, true, true, true, true, false, false, false, false, false, false, false, false, false, false, false, false, false, false, false, false, false, false, false, false, false, false, false] rfl rfl (by kernel_rfl) (fun _ _ _ h => h) (Or.inr ⟨by rfl, rfl⟩) ?_ ?_
  rotate_left
  · simp only [Act.put, List.setIfInBounds_toArray, List.set_cons_zero, List.set_cons_succ, i64_w, i32_w]
    rfl
  refine pure_ (i := 10) (N := (some 45)) (v := undef) (a' := ?_) #[true, true, true, true, true, true, true, true, true, true, true, false, false, false, false, false, false, false, false, false, false, false, false, false, false, false, false, false, false, false, false, false, false] rfl rfl (by kernel_rfl) (fun _ _ _ h => h) (Or.inr ⟨by rfl, rfl⟩) ?_ ?_
  rotate_left
  · simp only [Act.put, List.setIfInBounds_toArray, List.set_cons_zero, List.set_cons_succ, i64_w, i32_w]
    rfl
  refine pure_ (i := 11) (N := (some 46)) (v := undef) (a' := ?_) #[true, true, true, true, true, true, true, true, true, true, true, true, false, false, false, false, false, false, false, false, false, false, false, false, false, false, false, false, false, false, false, false, false] rfl rfl (by kernel_rfl) (fun _ _ _ h => h) (Or.inr ⟨by rfl, rfl⟩) ?_ ?_
  rotate_left
  · simp only [Act.put, List.setIfInBounds_toArray, List.set_cons_zero, List.set_cons_succ, i64_w, i32_w]
    rfl
  refine pure_ (i := 12) (N := (some 47)) (v := undef) (a' := ?_) #[true, true, true, true, true, true, true, true, true, true, true, true, true, false, false, false, false, false, false, false, false, false, false, false, false, false, false, false, false, false, false, false, false] rfl rfl (by kernel_rfl) (fun _ _ _ h => h) (Or.inr ⟨by rfl, rfl⟩) ?_ ?_
  rotate_left
  · simp only [Act.put, List.setIfInBounds_toArray, List.set_cons_zero, List.set_cons_succ, i64_w, i32_w]
    rfl
  refine pure_ (i := 13) (N := (some 48)) (v := undef) (a' := ?_) #[true, true, true, true, true, true, true, true, true, true, true, true, true, true, false, false, false, false, false, false, false, false, false, false, false, false, false, false, false, false, false, false, false] rfl rfl (by kernel_rfl) (fun _ _ _ h => h) (Or.inr ⟨by rfl, rfl⟩) ?_ ?_
  rotate_left
  · simp only [Act.put, List.setIfInBounds_toArray, List.set_cons_zero, List.set_cons_succ, i64_w, i32_w]
    rfl
  refine pure_ (i := 14) (N := (some 49)) (v := undef) (a' := ?_) #[true, true, true, true, true, true, true, true, true, true, true, true, true, true, true, false, false, false, false, false, false, false, false, false, false, false, false, false, false, false, false, false, false] rfl rfl (by kernel_rfl) (fun _ _ _ h => h) (Or.inr ⟨by rfl, rfl⟩) ?_ ?_
  rotate_left
  · simp only [Act.put, List.setIfInBounds_toArray, List.set_cons_zero, List.set_cons_succ, i64_w, i32_w]
    rfl
  refine pure_ (i := 15) (N := (some 50)) (v := ?_) (a' := ?_) #[true, true, true, true, true, true, true, true, true, true, true, true, true, true, true, true, false, false, false, false, false, false, false, false, false, false, false, false, false, false, false, false, false] rfl rfl (by kernel_rfl) (fun _ _ _ h => h) (Or.inl ⟨by rfl, ?_⟩) ?_ ?_
  rotate_left
  · intro w'
    go_simp
    with_reducible rfl
  rotate_left
  · simp only [Act.put, List.setIfInBounds_toArray, List.set_cons_zero, List.set_cons_succ, i64_w, i32_w]
    rfl
  refine pure_ (i := 16) (N := (some 51)) (v := ?_) (a' := ?_) #[true, true, true, true, true, true, true, true, true, true, true, true, true, true, true, true, true, false, false, false, false, false, false, false, false, false, false, false, false, false, false, false, false] rfl rfl (by kernel_rfl) (fun _ _ _ h => h) (Or.inl ⟨by rfl, ?_⟩) ?_ ?_
  rotate_left
  · intro w'
    go_simp
    with_reducible rfl
  rotate_left
  · simp only [Act.put, List.setIfInBounds_toArray, List.set_cons_zero, List.set_cons_succ, i64_w, i32_w]
    rfl
  refine take_ (i := 17) (N := (some 52)) (v := ?_) (a' := ?_) #[true, true, true, true, true, true, true, true, true, true, true, true, true, true, true, true, true, true, false, false, false, false, false, false, false, false, false, false, false, false, false, false, false] rfl rfl (by kernel_rfl) (fun _ _ _ h => h) (Or.inl ⟨by rfl, ?_⟩) hHeld ?_ ?_
  rotate_left
  · rintro w' ⟨s0, s1, s2, s3, s4⟩
    go_simp
    with_reducible rfl
  rotate_left
  · simp only [Act.put, List.setIfInBounds_toArray, List.set_cons_zero, List.set_cons_succ, i64_w, i32_w]
    rfl
  refine pure_ (i := 18) (N := (some 53)) (v := ?_) (a' := ?_) #[true, true, true, true, true, true, true, true, true, true, true, true, true, true, true, true, true, true, true, false, false, false, false, false, false, false, false, false, false, false, false, false, false] rfl rfl (by kernel_rfl) (fun _ _ _ h => h) (Or.inl ⟨by rfl, ?_⟩) ?_ ?_
  rotate_left
  · intro w'
    go_simp
    with_reducible rfl
  rotate_left
  · simp only [Act.put, List.setIfInBounds_toArray, List.set_cons_zero, List.set_cons_succ, i64_w, i32_w]
    rfl
  refine pure_ (i := 19) (N := (some 54)) (v := ?_) (a' := ?_) #[true, true, true, true, true, true, true, true, true, true, true, true, true, true, true, true, true, true, true, true, false, false, false, false, false, false, false, false, false, false, false, false, false] rfl rfl (by kernel_rfl) (fun _ _ _ h => h) (Or.inl ⟨by rfl, ?_⟩) ?_ ?_
  rotate_left
  · intro w'
    go_simp
    with_reducible rfl
  rotate_left
  · simp only [Act.put, List.setIfInBounds_toArray, List.set_cons_zero, List.set_cons_succ, i64_w, i32_w]
    rfl
  refine take_ (i := 21) (N := (some 56)) (v := ?_) (a' := ?_) #[true, true, true, true, true, true, true, true, true, true, true, true, true, true, true, true, true, true, true, true, false, true, false, false, false, false, false, false, false, false, false, false, false] rfl rfl (by kernel_rfl) (fun _ _ _ h => h) (Or.inl ⟨by rfl, ?_⟩) hHeld ?_ ?_
  rotate_left
  · rintro w' ⟨s0, s1, s2, s3, s4⟩
    go_simp
    with_reducible rfl
  rotate_left
  · simp only [Act.put, List.setIfInBounds_toArray, List.set_cons_zero, List.set_cons_succ, i64_w, i32_w]
    rfl
  refine pure_ (i := 22) (N := (some 57)) (v := ?_) (a' := ?_) #[true, true, true, true, true, true, true, true, true, true, true, true, true, true, true, true, true, true, true, true, false, true, true, false, false, false, false, false, false, false, false, false, false] rfl rfl (by kernel_rfl) (fun _ _ _ h => h) (Or.inl ⟨by rfl, ?_⟩) ?_ ?_
  rotate_left
  · intro w'
    go_simp
    with_reducible rfl
  rotate_left
  · simp only [Act.put, List.setIfInBounds_toArray, List.set_cons_zero, List.set_cons_succ, i64_w, i32_w]
    rfl
  refine pure_ (i := 23) (N := (some 58)) (v := ?_) (a' := ?_) #[true, true, true, true, true, true, true, true, true, true, true, true, true, true, true, true, true, true, true, true, false, true, true, true, false, false, false, false, false, false, false, false, false] rfl rfl (by kernel_rfl) (fun _ _ _ h => h) (Or.inl ⟨by rfl, ?_⟩) ?_ ?_
  rotate_left
  · intro w'
    go_simp
    with_reducible rfl
  rotate_left
  · simp only [Act.put, List.setIfInBounds_toArray, List.set_cons_zero, List.set_cons_succ, i64_w, i32_w]
    rfl
  refine take_ (i := 24) (N := (some 59)) (v := ?_) (a' := ?_) #[true, true, true, true, true, true, true, true, true, true, true, true, true, true, true, true, true, true, true, true, false, true, true, true, true, false, false, false, false, false, false, false, false] rfl rfl (by kernel_rfl) (fun _ _ _ h => h) (Or.inl ⟨by rfl, ?_⟩) hHeld ?_ ?_
  rotate_left
  · rintro w' ⟨s0, s1, s2, s3, s4⟩
    go_simp
    with_reducible rfl
  rotate_left
  · simp only [Act.put, List.setIfInBounds_toArray, List.set_cons_zero, List.set_cons_succ, i64_w, i32_w]
    rfl
  refine pure_ (i := 27) (N := (some 62)) (v := ?_) (a' := ?_) #[true, true, true, true, true, true, true, true, true, true, true, true, true, true, true, true, true, true, true, true, false, true, true, true, true, false, false, true, false, false, false, false, false] rfl rfl (by kernel_rfl) (fun _ _ _ h => h) (Or.inl ⟨by rfl, ?_⟩) ?_ ?_
  rotate_left
  · intro w'
    go_simp
    with_reducible rfl
  rotate_left
  · simp only [Act.put, List.setIfInBounds_toArray, List.set_cons_zero, List.set_cons_succ, i64_w, i32_w]
    rfl
  refine pure_ (i := 28) (N := (some 63)) (v := ?_) (a' := ?_) #[true, true, true, true, true, true, true, true, true, true, true, true, true, true, true, true, true, true, true, true, false, true, true, true, true, false, false, true, true, false, false, false, false] rfl rfl (by kernel_rfl) (fun _ _ _ h => h) (Or.inl ⟨by rfl, ?_⟩) ?_ ?_
  rotate_left
  · intro w'
    go_simp
    with_reducible rfl
  rotate_left
  · simp only [Act.put, List.setIfInBounds_toArray, List.set_cons_zero, List.set_cons_succ, i64_w, i32_w]
    rfl
  refine pure_ (i := 29) (N := (some 64)) (v := ?_) (a' := ?_) #[true, true, true, true, true, true, true, true, true, true, true, true, true, true, true, true, true, true, true, true, false, true, true, true, true, false, false, true, true, true, false, false, false] rfl rfl (by kernel_rfl) (fun _ _ _ h => h) (Or.inl ⟨by rfl, ?_⟩) ?_ ?_
  rotate_left
  · intro w'
    go_simp
    with_reducible rfl
  rotate_left
  · simp only [Act.put, List.setIfInBounds_toArray, List.set_cons_zero, List.set_cons_succ, i64_w, i32_w]
    rfl
  refine join_ (σ := Value × Nat) 4 #[true, true, true, true, true, true, true, true, true, true, true, true, true, true, true, true, true, true, true, true, true, true, true, true, true, true, false, true, true, true, false, false, false] (fun s_ => [(55, s_.1), (60, .slice (some ⟨s_.2, 0, none⟩) 1 1)]) (fun s_ w' => (w'.cell? ⟨bl, 0, none⟩ = some (.slice (some ad) l.length cl) ∧ w'.cell? ⟨bn, 0, none⟩ = some (.func (.func 108) #[] #[.pointer (some ⟨bl, 0, none⟩), .pointer (some ⟨bf, 0, none⟩), .pointer (some ⟨bw, 0, none⟩), .pointer (some ⟨bn, 0, none⟩)]) ∧ w'.cell? (ad.add (n * 3)) = some (.int .i64 x.f0) ∧ w'.cell? ⟨(ad.add (n * 3)).block, (ad.add (n * 3)).off + 1, none⟩ = some (.int .i64 x.f1) ∧ w'.cell? ⟨(ad.add (n * 3)).block, (ad.add (n * 3)).off + 2, none⟩ = some (.bool x.f2)) ∧ Kd.R k87 87 w' w.heap.size (fun _ => True) s_.1 kept ∧ w'.heap[s_.2]? = some (.cells #[.int .i64 x.f0, .int .i64 x.f1, .bool x.f2] 87 (0, 0)) ∧ Below w.heap.size w w') ?_ ?_
  rotate_left
  · intro hCont
    refine two_ (i := 20) (j := 25) (Ni := (some 55)) (Nj := (some 60)) #[true, true, true, true, true, true, true, true, true, true, true, true, true, true, true, true, true, true, true, true, true, true, true, true, true, false, false, true, true, true, false, false, false] #[true, true, true, true, true, true, true, true, true, true, true, true, true, true, true, true, true, true, true, true, false, true, true, true, true, true, false, true, true, true, false, false, false] rfl rfl rfl rfl (by kernel_rfl) (by decide) (by decide) (fun K hK => ?_) (fun K hK => ?_)
    · refine goes_ Try.func110 (by kernel_rfl) rfl #[.slice Ak kept.length ck] (by rfl) rfl rfl (by (try simp only [List.map_toArray, List.map_cons, List.map_nil]); first | done | rfl) ?_
      refine (clone110_R kept w.drew (Kd.R_below HO.out.rkept hq0.out) (by omega)).mono ?_
      rintro e u5 ⟨v5, rfl, hr5, hb5⟩
      refine ⟨_, rfl, ?_⟩
      have HR5 := Aside0.mk (Kd.R_lower hr5 hq0.out.size)
      have gq4 := Aside0.mk (below_then hq0.out hq0.out.size hb5)
      have hb5' := Aside0.mk hb5
      clear hr5 hb5
      refine hK.out _ _ (HREG.out _ (HO.out.later gq4.out)) (fun hHeld => ?_)
      clear hK K
      refine norm_ (a' := ?_) ?_ ?_
      rotate_left
      · show Act.put _ (some 55) _ = _
        simp only [Act.put, List.setIfInBounds_toArray, List.set_cons_zero, List.set_cons_succ, i64_w, i32_w]
        rfl
      refine one_ (i := 25) (N := (some 60)) #[true, true, true, true, true, true, true, true, true, true, true, true, true, true, true, true, true, true, true, true, true, true, true, true, true, true, false, true, true, true, false, false, false] rfl rfl (by kernel_rfl) (by decide) (fun K hK => ?_)
      have gq5 : Aside0 (Below w.heap.size w ((u5).alloc (.cells #[.int .i64 x.f0, .int .i64 x.f1, .bool x.f2] 87))) := ⟨gq4.out.alloc gq4.out.size _⟩
      refine value_ (v := .slice (some ⟨(u5).heap.size, 0, none⟩) 1 1) (w1 := (u5).alloc (.cells #[.int .i64 x.f0, .int .i64 x.f1, .bool x.f2] 87)) (by rfl) rfl (by go_simp; done) ?_
      refine hK.out _ _ (HREG.out _ (HO.out.later gq5.out)) (fun hHeld => ?_)
      clear hK K
      refine norm_ (a' := ?_) ?_ ?_
      rotate_left
      · show Act.put _ (some 60) _ = _
        simp only [Act.put, List.setIfInBounds_toArray, List.set_cons_zero, List.set_cons_succ, i64_w, i32_w]
        rfl
      exact norm_ (by simp only [putAll, Act.put, List.setIfInBounds_toArray, List.set_cons_zero, List.set_cons_succ]) (hCont (v5, u5.heap.size) _ ⟨hHeld, Kd.R_below HR5.out ((Below.refl _ _).alloc (Nat.le_refl _) _), blk_new _ _, gq5.out⟩)
    · have gq5 : Aside0 (Below w.heap.size w ((w.drew).alloc (.cells #[.int .i64 x.f0, .int .i64 x.f1, .bool x.f2] 87))) := ⟨hq0.out.alloc hq0.out.size _⟩
      refine value_ (v := .slice (some ⟨(w.drew).heap.size, 0, none⟩) 1 1) (w1 := (w.drew).alloc (.cells #[.int .i64 x.f0, .int .i64 x.f1, .bool x.f2] 87)) (by rfl) rfl (by go_simp; done) ?_
      refine hK.out _ _ (HREG.out _ (HO.out.later gq5.out)) (fun hHeld => ?_)
      clear hK K
      refine norm_ (a' := ?_) ?_ ?_
      rotate_left
      · show Act.put _ (some 60) _ = _
        simp only [Act.put, List.setIfInBounds_toArray, List.set_cons_zero, List.set_cons_succ, i64_w, i32_w]
        rfl
      refine one_ (i := 20) (N := (some 55)) #[true, true, true, true, true, true, true, true, true, true, true, true, true, true, true, true, true, true, true, true, true, true, true, true, true, true, false, true, true, true, false, false, false] rfl rfl (by kernel_rfl) (by decide) (fun K hK => ?_)
      refine goes_ Try.func110 (by kernel_rfl) rfl #[.slice Ak kept.length ck] (by rfl) rfl rfl (by (try simp only [List.map_toArray, List.map_cons, List.map_nil]); first | done | rfl) ?_
      refine (clone110_R kept ((w.drew).alloc (.cells #[.int .i64 x.f0, .int .i64 x.f1, .bool x.f2] 87)) (Kd.R_below HO.out.rkept gq5.out) (by omega)).mono ?_
      rintro e u5 ⟨v5, rfl, hr5, hb5⟩
      refine ⟨_, rfl, ?_⟩
      have HR5 := Aside0.mk (Kd.R_lower hr5 gq5.out.size)
      have gq4 := Aside0.mk (below_then gq5.out gq5.out.size hb5)
      have hb5' := Aside0.mk hb5
      clear hr5 hb5
      refine hK.out _ _ (HREG.out _ (HO.out.later gq4.out)) (fun hHeld => ?_)
      clear hK K
      refine norm_ (a' := ?_) ?_ ?_
      rotate_left
      · show Act.put _ (some 55) _ = _
        simp only [Act.put, List.setIfInBounds_toArray, List.set_cons_zero, List.set_cons_succ, i64_w, i32_w]
        rfl
      exact norm_ (by simp only [putAll, Act.put, List.setIfInBounds_toArray, List.set_cons_zero, List.set_cons_succ]) (hCont (v5, (w.drew).heap.size) _ ⟨hHeld, HR5.out, blk_below (blk_new _ _) hb5'.out, gq4.out⟩)
  intro s_ u5 hF
  obtain ⟨v5, gx⟩ := s_
  obtain ⟨hHeld, hr5, hgx, hb5⟩ := hF
  have gq5 := Aside0.mk hb5
  have HR5 := Aside0.mk hr5
  have HGX := Aside0.mk hgx
  clear hr5 hgx hb5
  obtain ⟨A5, c5, rfl⟩ := Kd.R_slice HR5.out
  refine norm_ (a' := ?_) ?_ ?_
  rotate_left
  · simp only [putAll, Act.put, List.setIfInBounds_toArray, List.set_cons_zero, List.set_cons_succ]
    rfl
  refine one_ (i := 26) (N := (some 61)) #[true, true, true, true, true, true, true, true, true, true, true, true, true, true, true, true, true, true, true, true, true, true, true, true, true, true, true, true, true, true, false, false, false] rfl rfl (by kernel_rfl) (by decide) (fun K hK => ?_)
  refine kd_append_at k87 (w0 := w) w.heap.size (by rfl) (.tmp 55) (.tmp 60) 36 87 (.agg #[.int .i64 0, .int .i64 0, .bool false]) 24 (by rfl) Try.underlying36 info87 rfl (by decide) (.slice A5 kept.length c5) kept x [.int .i64 x.f0, .int .i64 x.f1, .bool x.f2] gx (by rfl) (by rfl) HGX.out (fun _ => False) (k87_mkM _ _ _ x) (fun _ hk => hk.elim) HR5.out gq5.out gq5.out.size (by omega) (by unfold maxLen; omega) ?_
  intro gg cap u6 hr6 hb6 hg6
  have HR6 := Aside0.mk hr6
  have gq6 := Aside0.mk hb6
  clear hr6 hb6 hg6
  refine hK.out _ _ (HREG.out _ (HO.out.later gq6.out)) (fun hHeld => ?_)
  clear hK K
  refine norm_ (a' := ?_) ?_ ?_
  rotate_left
  · show Act.put _ (some 61) _ = _
    simp only [Act.put, List.setIfInBounds_toArray, List.set_cons_zero, List.set_cons_succ, i64_w, i32_w]
    rfl
  refine last_ (i := 30) (N := (some 65)) #[true, true, true, true, true, true, true, true, true, true, true, true, true, true, true, true, true, true, true, true, true, true, true, true, true, true, true, true, true, true, true, false, false] rfl rfl (by kernel_rfl) (by decide) (fun K hK => ?_)
  refine goesV_ Try.func108 (by kernel_rfl) rfl #[.slice Ao out.length co, .slice (some ⟨gg, 0, none⟩) (kept.length + 1) cap, .int .i64 ((n : Int) + 1), .int .i64 0, .pointer (some ⟨bl, 0, none⟩), .pointer (some ⟨bf, 0, none⟩), .pointer (some ⟨bw, 0, none⟩), .pointer (some ⟨bn, 0, none⟩)] (by rfl) rfl rfl rfl #[.slice Ao out.length co, .slice (some ⟨gg, 0, none⟩) (kept.length + 1) cap, .int .i64 (wrap64 ((n : Int) + 1)), .int .i64 0] (by (try simp only [List.map_toArray, List.map_cons, List.map_nil]); first | done | rfl) (by simp [hwn]) ?_
  refine (HIH2.out w HO.out _ u6 gq6.out HR6.out).mono ?_
  rintro e u7 ⟨hk', hb', rfl, vf, hf', hr'⟩
  refine ⟨_, rfl, ?_⟩
  have HK7 := Aside0.mk hk'
  have HB7 := Aside0.mk hb'
  have HF7 := Aside0.mk hf'
  have HR7 := Aside0.mk hr'
  clear hk' hb' hf' hr'
  refine hK.out _ _ ?_
  clear hK K hHeld
  refine norm_ (a' := ?_) ?_ ?_
  rotate_left
  · show Act.put _ (some 65) _ = _
    simp only [Act.put, List.setIfInBounds_toArray, List.set_cons_zero, List.set_cons_succ, i64_w, i32_w]
    rfl
  refine pure_ (i := 31) (N := (some 66)) (v := ?_) (a' := ?_) #[true, true, true, true, true, true, true, true, true, true, true, true, true, true, true, true, true, true, true, true, true, true, true, true, true, true, true, true, true, true, true, true, false] rfl rfl (by kernel_rfl) (fun _ _ _ h => h) (Or.inl ⟨by rfl, ?_⟩) ?_ ?_
  rotate_left
  · intro w'
    go_simp
    with_reducible rfl
  rotate_left
  · simp only [Act.put, List.setIfInBounds_toArray, List.set_cons_zero, List.set_cons_succ, i64_w, i32_w]
    rfl
  refine pure_ (i := 32) (N := (some 12)) (v := ?_) (a' := ?_) #[true, true, true, true, true, true, true, true, true, true, true, true, true, true, true, true, true, true, true, true, true, true, true, true, true, true, true, true, true, true, true, true, true] rfl rfl (by kernel_rfl) (fun _ _ _ h => h) (Or.inl ⟨by rfl, ?_⟩) ?_ ?_
  rotate_left
  · intro w'
    go_simp
    with_reducible rfl
  rotate_left
  · simp only [Act.put, List.setIfInBounds_toArray, List.set_cons_zero, List.set_cons_succ, i64_w, i32_w]
    rfl
  refine done_ (by kernel_rfl) ?_
  go_wp2_with fail
  go_ret
  exact ⟨(KeptBut.of_below gq6.out).trans HK7.out, HB7.out, rfl, vf, HF7.out, HR7.out⟩
set_option maxRecDepth 100000 in
set_option maxHeartbeats 8000000 in
theorem leave108_some (w0 : World) (sends : List Int) (routes : List S122) (pat : Int) (ad : Addr) (cl : Nat) (l : List S87) (g bl bf bw bn : Nat) (hl8 : l.length ≤ 8) (n : Nat) (hn : n < l.length) (x : S87)
    (d0 : w0.cell? (ad.add (n * 3)) = some (.int .i64 x.f0)) (d1 : w0.cell? ⟨(ad.add (n * 3)).block, (ad.add (n * 3)).off + 1, none⟩ = some (.int .i64 x.f1)) (d2 : w0.cell? ⟨(ad.add (n * 3)).block, (ad.add (n * 3)).off + 2, none⟩ = some (.bool x.f2))
    (IH : RestL w0 sends routes pat (some ad) cl l g bl bf bw bn (n + 1))
    (outv keptv : Value) (out : List Int) (kept : List S87) (many : Nat) (w : World) (hO : OAt w0 w bl bf bw bn g (some ad) l.length cl outv out keptv kept) (ho : out.length ≤ n) (hk : kept.length ≤ n) (hm : many ≤ l.length - n) (hm0 : 0 < many) (r0 : List Int) (hr0 : leaveL routes pat sends (l.drop (n + 1)) ((n : Int) + 1) (out ++ [(n : Int)]) kept (many - 1) = some r0) :
    Calls Try.prog 108 #[outv, keptv, .int .i64 (n : Int), .int .i64 (many : Int), .pointer (some ⟨bl, 0, none⟩), .pointer (some ⟨bf, 0, none⟩), .pointer (some ⟨bw, 0, none⟩), .pointer (some ⟨bn, 0, none⟩)] w
      (LeavePost w0 w bf (some r0)) := by
  obtain ⟨Ao, co, rfl⟩ := Kd.R_slice hO.rout
  obtain ⟨Ak, ck, rfl⟩ := Kd.R_slice hO.rkept
  have HO := Aside0.mk hO
  have HREG : Aside0 (∀ W, OAt w0 W bl bf bw bn g (some ad) l.length cl (.slice Ao out.length co) out (.slice Ak kept.length ck) kept → SReg W ad bl bf bw bn n l.length cl x) := ⟨fun W h => h.reg d0 d1 d2⟩
  obtain ⟨bl0, bn0, e0, e1, e2⟩ := HREG.out w hO
  have hgt : ¬ (l.length : Int) - (n : Int) < (many : Int) := by omega
  have hne : ((n : Int) == (l.length : Int)) = false := beq_eq_false_iff_ne.2 (by omega)
  have hix : (n : Int) < (l.length : Int) := by omega
  have hwn : wrap64 ((n : Int) + 1) = (n : Int) + 1 := by unfold wrap64; omega
  obtain ⟨o1, ho1⟩ : ∃ o1, o1 = leaveL routes pat sends (l.drop (n + 1)) ((n : Int) + 1) (out ++ [(n : Int)]) kept (many - 1) := ⟨_, rfl⟩
  have HIH1 : Aside0 (∀ (v' : Value) (w' : World), Below w.heap.size w w' → Kd.R (Kd.int .i64) 3 w' w.heap.size (fun _ => True) v' (out ++ [(n : Int)]) →
      Calls Try.prog 108 #[v', .slice Ak kept.length ck, .int .i64 ((n : Int) + 1), .int .i64 ((many : Int) - 1), .pointer (some ⟨bl, 0, none⟩), .pointer (some ⟨bf, 0, none⟩), .pointer (some ⟨bw, 0, none⟩), .pointer (some ⟨bn, 0, none⟩)] w' (LeavePost w0 w' bf o1)) := ⟨fun v' w' hb hr => by
    have h := IH v' (.slice Ak kept.length ck) (out ++ [(n : Int)]) kept (many - 1) w' (by obtain ⟨h1, h2, h3, h4, h5, h6, h7⟩ := hO.later hb; exact ⟨h1, h2, h3, h4, h5, Kd.R_lower hr hO.below.size, h7⟩) (by simp; omega) (by omega) (by omega)
    rw [show ((many - 1 : Nat) : Int) = (many : Int) - 1 by omega] at h
    rw [ho1]
    exact h⟩
  have hwm : wrap64 ((many : Int) - 1) = (many : Int) - 1 := by unfold wrap64; omega
  rw [hr0] at ho1
  subst ho1
  clear hr0
  clear hO d0 d1 d2 IH
  go_enter Try.func108, Try.ntmps108
  go_wp2_with fail
  have hq0 : Aside0 (Below w.heap.size w w.drew) := ⟨below_drew (Below.refl _ _)⟩
  refine start_ (n := 33) (S := fun w' => w'.cell? ⟨bl, 0, none⟩ = some (.slice (some ad) l.length cl) ∧ w'.cell? ⟨bn, 0, none⟩ = some (.func (.func 108) #[] #[.pointer (some ⟨bl, 0, none⟩), .pointer (some ⟨bf, 0, none⟩), .pointer (some ⟨bw, 0, none⟩), .pointer (some ⟨bn, 0, none⟩)]) ∧ w'.cell? (ad.add (n * 3)) = some (.int .i64 x.f0) ∧ w'.cell? ⟨(ad.add (n * 3)).block, (ad.add (n * 3)).off + 1, none⟩ = some (.int .i64 x.f1) ∧ w'.cell? ⟨(ad.add (n * 3)).block, (ad.add (n * 3)).off + 2, none⟩ = some (.bool x.f2)) (ds := []) #[false, false, false, false, false, false, false, false, false, false, false, false, false, false, false, false, false, false, false, false, false, false, false, false, false, false, false, false, false, false, false, false, false] (by kernel_rfl) rfl rfl ⟨bl0, bn0, e0, e1, e2⟩ (fun hHeld => ?_)
  refine pure_ (i := 0) (N := (some 35)) (v := ?_) (a' := ?_) #[true, false, false, false, false, false, false, false, false, false, false, false, false, false, false, false, false, false, false, false, false, false, false, false, false, false, false, false, false, false, false, false, false] rfl rfl (by kernel_rfl) (fun _ _ _ h => h) (Or.inl ⟨by rfl, ?_⟩) ?_ ?_
  rotate_left
  · intro w'
    go_simp
    with_reducible rfl
  rotate_left
  · simp only [Act.put, List.setIfInBounds_toArray, List.set_cons_zero, List.set_cons_succ, i64_w, i32_w]
    rfl
  refine pure_ (i := 1) (N := (some 36)) (v := ?_) (a' := ?_) #[true, true, false, false, false, false, false, false, false, false, false, false, false, false, false, false, false, false, false, false, false, false, false, false, false, false, false, false, false, false, false, false, false] rfl rfl (by kernel_rfl) (fun _ _ _ h => h) (Or.inl ⟨by rfl, ?_⟩) ?_ ?_
  rotate_left
  · intro w'
    go_simp
    with_reducible rfl
  rotate_left
  · simp only [Act.put, List.setIfInBounds_toArray, List.set_cons_zero, List.set_cons_succ, i64_w, i32_w]
    rfl
  refine pure_ (i := 2) (N := (some 37)) (v := ?_) (a' := ?_) #[true, true, true, false, false, false, false, false, false, false, false, false, false, false, false, false, false, false, false, false, false, false, false, false, false, false, false, false, false, false, false, false, false] rfl rfl (by kernel_rfl) (fun _ _ _ h => h) (Or.inl ⟨by rfl, ?_⟩) ?_ ?_
  rotate_left
  · intro w'
    go_simp
    with_reducible rfl
  rotate_left
  · simp only [Act.put, List.setIfInBounds_toArray, List.set_cons_zero, List.set_cons_succ, i64_w, i32_w]
    rfl
  refine take_ (i := 3) (N := (some 38)) (v := ?_) (a' := ?_) #[true, true, true, true, false, false, false, false, false, false, false, false, false, false, false, false, false, false, false, false, false, false, false, false, false, false, false, false, false, false, false, false, false] rfl rfl (by kernel_rfl) (fun _ _ _ h => h) (Or.inl ⟨by rfl, ?_⟩) hHeld ?_ ?_
  rotate_left
  · rintro w' ⟨s0, s1, s2, s3, s4⟩
    go_simp
    with_reducible rfl
  rotate_left
  · simp only [Act.put, List.setIfInBounds_toArray, List.set_cons_zero, List.set_cons_succ, i64_w, i32_w]
    rfl
  refine pure_ (i := 4) (N := (some 39)) (v := ?_) (a' := ?_) #[true, true, true, true, true, false, false, false, false, false, false, false, false, false, false, false, false, false, false, false, false, false, false, false, false, false, false, false, false, false, false, false, false] rfl rfl (by kernel_rfl) (fun _ _ _ h => h) (Or.inl ⟨by rfl, ?_⟩) ?_ ?_
  rotate_left
  · intro w'
    go_simp
    with_reducible rfl
  rotate_left
  · simp only [Act.put, List.setIfInBounds_toArray, List.set_cons_zero, List.set_cons_succ, i64_w, i32_w]
    rfl
  refine pure_ (i := 6) (N := (some 41)) (v := ?_) (a' := ?_) #[true, true, true, true, true, false, true, false, false, false, false, false, false, false, false, false, false, false, false, false, false, false, false, false, false, false, false, false, false, false, false, false, false] rfl rfl (by kernel_rfl) (fun _ _ _ h => h) (Or.inl ⟨by rfl, ?_⟩) ?_ ?_
  rotate_left
  · intro w'
    go_simp
    with_reducible rfl
  rotate_left
  · simp only [Act.put, List.setIfInBounds_toArray, List.set_cons_zero, List.set_cons_succ, i64_w, i32_w]
    rfl
  refine pure_ (i := 9) (N := (some 44)) (v := ?_) (a' := ?_) #[true, true, true, true, true, false, true, false, false, true, false, false, false, false, false, false, false, false, false, false, false, false, false, false, false, false, false, false, false, false, false, false, false] rfl rfl (by kernel_rfl) (fun _ _ _ h => h) (Or.inl ⟨by rfl, ?_⟩) ?_ ?_
  rotate_left
  · intro w'
    go_simp
    with_reducible rfl
  rotate_left
  · simp only [Act.put, List.setIfInBounds_toArray, List.set_cons_zero, List.set_cons_succ, i64_w, i32_w]
    rfl
  refine pure_ (i := 10) (N := (some 45)) (v := ?_) (a' := ?_) #[true, true, true, true, true, false, true, false, false, true, true, false, false, false, false, false, false, false, false, false, false, false, false, false, false, false, false, false, false, false, false, false, false] rfl rfl (by kernel_rfl) (fun _ _ _ h => h) (Or.inl ⟨by rfl, ?_⟩) ?_ ?_
  rotate_left
  · intro w'
    go_simp
    with_reducible rfl
  rotate_left
  · simp only [Act.put, List.setIfInBounds_toArray, List.set_cons_zero, List.set_cons_succ, i64_w, i32_w]
    rfl
  refine pure_ (i := 11) (N := (some 46)) (v := ?_) (a' := ?_) #[true, true, true, true, true, false, true, false, false, true, true, true, false, false, false, false, false, false, false, false, false, false, false, false, false, false, false, false, false, false, false, false, false] rfl rfl (by kernel_rfl) (fun _ _ _ h => h) (Or.inl ⟨by rfl, ?_⟩) ?_ ?_
  rotate_left
  · intro w'
    go_simp
    with_reducible rfl
  rotate_left
  · simp only [Act.put, List.setIfInBounds_toArray, List.set_cons_zero, List.set_cons_succ, i64_w, i32_w]
    rfl
  refine pure_ (i := 12) (N := (some 47)) (v := ?_) (a' := ?_) #[true, true, true, true, true, false, true, false, false, true, true, true, true, false, false, false, false, false, false, false, false, false, false, false, false, false, false, false, false, false, false, false, false] rfl rfl (by kernel_rfl) (fun _ _ _ h => h) (Or.inl ⟨by rfl, ?_⟩) ?_ ?_
  rotate_left
  · intro w'
    go_simp
    with_reducible rfl
  rotate_left
  · simp only [Act.put, List.setIfInBounds_toArray, List.set_cons_zero, List.set_cons_succ, i64_w, i32_w]
    rfl
  refine pure_ (i := 13) (N := (some 48)) (v := ?_) (a' := ?_) #[true, true, true, true, true, false, true, false, false, true, true, true, true, true, false, false, false, false, false, false, false, false, false, false, false, false, false, false, false, false, false, false, false] rfl rfl (by kernel_rfl) (fun _ _ _ h => h) (Or.inl ⟨by rfl, ?_⟩) ?_ ?_
  rotate_left
  · intro w'
    go_simp
    with_reducible rfl
  rotate_left
  · simp only [Act.put, List.setIfInBounds_toArray, List.set_cons_zero, List.set_cons_succ, i64_w, i32_w]
    rfl
  refine join_ (σ := Value × Nat) 20 #[true, true, true, true, true, true, true, true, false, true, true, true, true, true, false, false, false, false, false, false, false, false, false, false, false, false, false, false, false, false, false, false, false] (fun s_ => [(40, s_.1), (42, .slice (some ⟨s_.2, 0, none⟩) 1 1)]) (fun s_ w' => (w'.cell? ⟨bl, 0, none⟩ = some (.slice (some ad) l.length cl) ∧ w'.cell? ⟨bn, 0, none⟩ = some (.func (.func 108) #[] #[.pointer (some ⟨bl, 0, none⟩), .pointer (some ⟨bf, 0, none⟩), .pointer (some ⟨bw, 0, none⟩), .pointer (some ⟨bn, 0, none⟩)]) ∧ w'.cell? (ad.add (n * 3)) = some (.int .i64 x.f0) ∧ w'.cell? ⟨(ad.add (n * 3)).block, (ad.add (n * 3)).off + 1, none⟩ = some (.int .i64 x.f1) ∧ w'.cell? ⟨(ad.add (n * 3)).block, (ad.add (n * 3)).off + 2, none⟩ = some (.bool x.f2)) ∧ Kd.R (Kd.int .i64) 3 w' w.heap.size (fun _ => True) s_.1 out ∧ w'.heap[s_.2]? = some (.cells #[.int .i64 (n : Int)] 3 (0, 0)) ∧ Below w.heap.size w w') ?_ ?_
  rotate_left
  · intro hCont
    refine two_ (i := 5) (j := 7) (Ni := (some 40)) (Nj := (some 42)) #[true, true, true, true, true, true, true, false, false, true, true, true, true, true, false, false, false, false, false, false, false, false, false, false, false, false, false, false, false, false, false, false, false] #[true, true, true, true, true, false, true, true, false, true, true, true, true, true, false, false, false, false, false, false, false, false, false, false, false, false, false, false, false, false, false, false, false] rfl rfl rfl rfl (by kernel_rfl) (by decide) (by decide) (fun K hK => ?_) (fun K hK => ?_)
    · refine goes_ Try.func105 (by kernel_rfl) rfl #[.slice Ao out.length co] (by rfl) rfl rfl (by (try simp only [List.map_toArray, List.map_cons, List.map_nil]); first | done | rfl) ?_
      refine (clone105_R out w.drew (Kd.R_below HO.out.rout hq0.out) (by omega)).mono ?_
      rintro e w5 ⟨v5, rfl, hr5, hb5⟩
      refine ⟨_, rfl, ?_⟩
      have HR5 := Aside0.mk (Kd.R_lower hr5 hq0.out.size)
      have hq4 := Aside0.mk (below_then hq0.out hq0.out.size hb5)
      have hb5' := Aside0.mk hb5
      clear hr5 hb5
      refine hK.out _ _ (HREG.out _ (HO.out.later hq4.out)) (fun hHeld => ?_)
      clear hK K
      refine norm_ (a' := ?_) ?_ ?_
      rotate_left
      · show Act.put _ (some 40) _ = _
        simp only [Act.put, List.setIfInBounds_toArray, List.set_cons_zero, List.set_cons_succ, i64_w, i32_w]
        rfl
      refine one_ (i := 7) (N := (some 42)) #[true, true, true, true, true, true, true, true, false, true, true, true, true, true, false, false, false, false, false, false, false, false, false, false, false, false, false, false, false, false, false, false, false] rfl rfl (by kernel_rfl) (by decide) (fun K hK => ?_)
      have hq5 : Aside0 (Below w.heap.size w ((w5).alloc (.cells #[.int .i64 (n : Int)] 3))) := ⟨hq4.out.alloc hq4.out.size _⟩
      refine value_ (v := .slice (some ⟨(w5).heap.size, 0, none⟩) 1 1) (w1 := (w5).alloc (.cells #[.int .i64 (n : Int)] 3)) (by rfl) rfl (by go_simp; done) ?_
      refine hK.out _ _ (HREG.out _ (HO.out.later hq5.out)) (fun hHeld => ?_)
      clear hK K
      refine norm_ (a' := ?_) ?_ ?_
      rotate_left
      · show Act.put _ (some 42) _ = _
        simp only [Act.put, List.setIfInBounds_toArray, List.set_cons_zero, List.set_cons_succ, i64_w, i32_w]
        rfl
      exact norm_ (by simp only [putAll, Act.put, List.setIfInBounds_toArray, List.set_cons_zero, List.set_cons_succ]) (hCont (v5, w5.heap.size) _ ⟨hHeld, Kd.R_below HR5.out ((Below.refl _ _).alloc (Nat.le_refl _) _), blk_new _ _, hq5.out⟩)
    · have hq5 : Aside0 (Below w.heap.size w ((w.drew).alloc (.cells #[.int .i64 (n : Int)] 3))) := ⟨hq0.out.alloc hq0.out.size _⟩
      refine value_ (v := .slice (some ⟨(w.drew).heap.size, 0, none⟩) 1 1) (w1 := (w.drew).alloc (.cells #[.int .i64 (n : Int)] 3)) (by rfl) rfl (by go_simp; done) ?_
      refine hK.out _ _ (HREG.out _ (HO.out.later hq5.out)) (fun hHeld => ?_)
      clear hK K
      refine norm_ (a' := ?_) ?_ ?_
      rotate_left
      · show Act.put _ (some 42) _ = _
        simp only [Act.put, List.setIfInBounds_toArray, List.set_cons_zero, List.set_cons_succ, i64_w, i32_w]
        rfl
      refine one_ (i := 5) (N := (some 40)) #[true, true, true, true, true, true, true, true, false, true, true, true, true, true, false, false, false, false, false, false, false, false, false, false, false, false, false, false, false, false, false, false, false] rfl rfl (by kernel_rfl) (by decide) (fun K hK => ?_)
      refine goes_ Try.func105 (by kernel_rfl) rfl #[.slice Ao out.length co] (by rfl) rfl rfl (by (try simp only [List.map_toArray, List.map_cons, List.map_nil]); first | done | rfl) ?_
      refine (clone105_R out ((w.drew).alloc (.cells #[.int .i64 (n : Int)] 3)) (Kd.R_below HO.out.rout hq5.out) (by omega)).mono ?_
      rintro e w5 ⟨v5, rfl, hr5, hb5⟩
      refine ⟨_, rfl, ?_⟩
      have HR5 := Aside0.mk (Kd.R_lower hr5 hq5.out.size)
      have hq4 := Aside0.mk (below_then hq5.out hq5.out.size hb5)
      have hb5' := Aside0.mk hb5
      clear hr5 hb5
      refine hK.out _ _ (HREG.out _ (HO.out.later hq4.out)) (fun hHeld => ?_)
      clear hK K
      refine norm_ (a' := ?_) ?_ ?_
      rotate_left
      · show Act.put _ (some 40) _ = _
        simp only [Act.put, List.setIfInBounds_toArray, List.set_cons_zero, List.set_cons_succ, i64_w, i32_w]
        rfl
      exact norm_ (by simp only [putAll, Act.put, List.setIfInBounds_toArray, List.set_cons_zero, List.set_cons_succ]) (hCont (v5, (w.drew).heap.size) _ ⟨hHeld, HR5.out, blk_below (blk_new _ _) hb5'.out, hq4.out⟩)
  intro s_ w5 hF
  obtain ⟨v5, gx⟩ := s_
  obtain ⟨hHeld, hr5, hgx, hb5⟩ := hF
  have hq5 := Aside0.mk hb5
  have HR5 := Aside0.mk hr5
  have HGX := Aside0.mk hgx
  clear hr5 hgx hb5
  obtain ⟨A5, c5, rfl⟩ := Kd.R_slice HR5.out
  refine norm_ (a' := ?_) ?_ ?_
  rotate_left
  · simp only [putAll, Act.put, List.setIfInBounds_toArray, List.set_cons_zero, List.set_cons_succ]
    rfl
  refine one_ (i := 8) (N := (some 43)) #[true, true, true, true, true, true, true, true, true, true, true, true, true, true, false, false, false, false, false, false, false, false, false, false, false, false, false, false, false, false, false, false, false] rfl rfl (by kernel_rfl) (by decide) (fun K hK => ?_)
  refine kd_append_at (Kd.int .i64) (w0 := w) w.heap.size (by rfl) (.tmp 40) (.tmp 42) 22 3 (.int .i64 0) 8 (by rfl) Try.underlying22 info3 rfl (by decide) (.slice A5 out.length c5) out (n : Int) [.int .i64 (n : Int)] gx (by rfl) (by rfl) HGX.out (fun _ => False) rfl (fun _ hk => hk.elim) HR5.out hq5.out hq5.out.size (by omega) (by unfold maxLen; omega) ?_
  intro gg cap w6 hr6 hb6 hg6
  have HR6 := Aside0.mk hr6
  have hq6 := Aside0.mk hb6
  clear hr6 hb6 hg6
  refine hK.out _ _ (HREG.out _ (HO.out.later hq6.out)) (fun hHeld => ?_)
  clear hK K
  refine norm_ (a' := ?_) ?_ ?_
  rotate_left
  · show Act.put _ (some 43) _ = _
    simp only [Act.put, List.setIfInBounds_toArray, List.set_cons_zero, List.set_cons_succ, i64_w, i32_w]
    rfl
  refine one_ (i := 14) (N := (some 49)) #[true, true, true, true, true, true, true, true, true, true, true, true, true, true, true, false, false, false, false, false, false, false, false, false, false, false, false, false, false, false, false, false, false] rfl rfl (by kernel_rfl) (by decide) (fun K hK => ?_)
  refine goesV_ Try.func108 (by kernel_rfl) rfl #[.slice (some ⟨gg, 0, none⟩) (out.length + 1) cap, .slice Ak kept.length ck, .int .i64 ((n : Int) + 1), .int .i64 ((many : Int) - 1), .pointer (some ⟨bl, 0, none⟩), .pointer (some ⟨bf, 0, none⟩), .pointer (some ⟨bw, 0, none⟩), .pointer (some ⟨bn, 0, none⟩)] (by rfl) rfl rfl rfl #[.slice (some ⟨gg, 0, none⟩) (out.length + 1) cap, .slice Ak kept.length ck, .int .i64 (wrap64 ((n : Int) + 1)), .int .i64 (wrap64 ((many : Int) - 1))] (by (try simp only [List.map_toArray, List.map_cons, List.map_nil]); first | done | rfl) (by simp [hwn, hwm]) ?_
  refine (HIH1.out _ w6 hq6.out HR6.out).mono ?_
  rintro e w7 ⟨hk', hb', rfl, vf, hf', hr'⟩
  refine ⟨_, rfl, ?_⟩
  have HK7 := Aside0.mk hk'
  have HB7 := Aside0.mk hb'
  have HF7 := Aside0.mk hf'
  have HR7 := Aside0.mk hr'
  have HO7 := Aside0.mk ((HO.out.later hq6.out).step HK7.out HB7.out ⟨vf, HF7.out⟩)
  clear hk' hb' hf' hr'
  refine hK.out _ _ (HREG.out _ HO7.out) (fun hHeld => ?_)
  clear hK K
  refine norm_ (a' := ?_) ?_ ?_
  rotate_left
  · show Act.put _ (some 49) _ = _
    simp only [Act.put, List.setIfInBounds_toArray, List.set_cons_zero, List.set_cons_succ, i64_w, i32_w]
    rfl
  refine pure_ (i := 15) (N := (some 50)) (v := ?_) (a' := ?_) #[true, true, true, true, true, true, true, true, true, true, true, true, true, true, true, true, false, false, false, false, false, false, false, false, false, false, false, false, false, false, false, false, false] rfl rfl (by kernel_rfl) (fun _ _ _ h => h) (Or.inl ⟨by rfl, ?_⟩) ?_ ?_
  rotate_left
  · intro w'
    go_simp
    with_reducible rfl
  rotate_left
  · simp only [Act.put, List.setIfInBounds_toArray, List.set_cons_zero, List.set_cons_succ, i64_w, i32_w]
    rfl
  refine pure_ (i := 16) (N := (some 51)) (v := ?_) (a' := ?_) #[true, true, true, true, true, true, true, true, true, true, true, true, true, true, true, true, true, false, false, false, false, false, false, false, false, false, false, false, false, false, false, false, false] rfl rfl (by kernel_rfl) (fun _ _ _ h => h) (Or.inl ⟨by rfl, ?_⟩) ?_ ?_
  rotate_left
  · intro w'
    go_simp
    with_reducible rfl
  rotate_left
  · simp only [Act.put, List.setIfInBounds_toArray, List.set_cons_zero, List.set_cons_succ, i64_w, i32_w]
    rfl
  refine pure_ (i := 17) (N := (some 52)) (v := undef) (a' := ?_) #[true, true, true, true, true, true, true, true, true, true, true, true, true, true, true, true, true, true, false, false, false, false, false, false, false, false, false, false, false, false, false, false, false] rfl rfl (by kernel_rfl) (fun _ _ _ h => h) (Or.inr ⟨by rfl, rfl⟩) ?_ ?_
  rotate_left
  · simp only [Act.put, List.setIfInBounds_toArray, List.set_cons_zero, List.set_cons_succ, i64_w, i32_w]
    rfl
  refine pure_ (i := 18) (N := (some 53)) (v := undef) (a' := ?_) #[true, true, true, true, true, true, true, true, true, true, true, true, true, true, true, true, true, true, true, false, false, false, false, false, false, false, false, false, false, false, false, false, false] rfl rfl (by kernel_rfl) (fun _ _ _ h => h) (Or.inr ⟨by rfl, rfl⟩) ?_ ?_
  rotate_left
  · simp only [Act.put, List.setIfInBounds_toArray, List.set_cons_zero, List.set_cons_succ, i64_w, i32_w]
    rfl
  refine pure_ (i := 19) (N := (some 54)) (v := undef) (a' := ?_) #[true, true, true, true, true, true, true, true, true, true, true, true, true, true, true, true, true, true, true, true, false, false, false, false, false, false, false, false, false, false, false, false, false] rfl rfl (by kernel_rfl) (fun _ _ _ h => h) (Or.inr ⟨by rfl, rfl⟩) ?_ ?_
  rotate_left
  · simp only [Act.put, List.setIfInBounds_toArray, List.set_cons_zero, List.set_cons_succ, i64_w, i32_w]
    rfl
  refine pure_ (i := 20) (N := (some 55)) (v := undef) (a' := ?_) #[true, true, true, true, true, true, true, true, true, true, true, true, true, true, true, true, true, true, true, true, true, false, false, false, false, false, false, false, false, false, false, false, false] rfl rfl (by kernel_rfl) (fun _ _ _ h => h) (Or.inr ⟨by rfl, rfl⟩) ?_ ?_
  rotate_left
  · simp only [Act.put, List.setIfInBounds_toArray, List.set_cons_zero, List.set_cons_succ, i64_w, i32_w]
    rfl
  refine pure_ (i := 21) (N := (some 56)) (v := undef) (a' := ?_) #[true, true, true, true, true, true, true, true, true, true, true, true, true, true, true, true, true, true, true, true, true, true, false, false, false, false, false, false, false, false, false, false, false] rfl rfl (by kernel_rfl) (fun _ _ _ h => h) (Or.inr ⟨by rfl, rfl⟩) ?_ ?_
  rotate_left
  · simp only [Act.put, List.setIfInBounds_toArray, List.set_cons_zero, List.set_cons_succ, i64_w, i32_w]
    rfl
  refine pure_ (i := 22) (N := (some 57)) (v := undef) (a' := ?_) #[true, true, true, true, true, true, true, true, true, true, true, true, true, true, true, true, true, true, true, true, true, true, true, false, false, false, false, false, false, false, false, false, false] rfl rfl (by kernel_rfl) (fun _ _ _ h => h) (Or.inr ⟨by rfl, rfl⟩) ?_ ?_
  rotate_left
  · simp only [Act.put, List.setIfInBounds_toArray, List.set_cons_zero, List.set_cons_succ, i64_w, i32_w]
    rfl
  refine pure_ (i := 23) (N := (some 58)) (v := undef) (a' := ?_) #[true, true, true, true, true, true, true, true, true, true, true, true, true, true, true, true, true, true, true, true, true, true, true, true, false, false, false, false, false, false, false, false, false] rfl rfl (by kernel_rfl) (fun _ _ _ h => h) (Or.inr ⟨by rfl, rfl⟩) ?_ ?_
  rotate_left
  · simp only [Act.put, List.setIfInBounds_toArray, List.set_cons_zero, List.set_cons_succ, i64_w, i32_w]
    rfl
  refine pure_ (i := 24) (N := (some 59)) (v := undef) (a' := ?_) #[true, true, true, true, true, true, true, true, true, true, true, true, true, true, true, true, true, true, true, true, true, true, true, true, true, false, false, false, false, false, false, false, false] rfl rfl (by kernel_rfl) (fun _ _ _ h => h) (Or.inr ⟨by rfl, rfl⟩) ?_ ?_
  rotate_left
  · simp only [Act.put, List.setIfInBounds_toArray, List.set_cons_zero, List.set_cons_succ, i64_w, i32_w]
    rfl
  refine pure_ (i := 25) (N := (some 60)) (v := undef) (a' := ?_) #[true, true, true, true, true, true, true, true, true, true, true, true, true, true, true, true, true, true, true, true, true, true, true, true, true, true, false, false, false, false, false, false, false] rfl rfl (by kernel_rfl) (fun _ _ _ h => h) (Or.inr ⟨by rfl, rfl⟩) ?_ ?_
  rotate_left
  · simp only [Act.put, List.setIfInBounds_toArray, List.set_cons_zero, List.set_cons_succ, i64_w, i32_w]
    rfl
  refine pure_ (i := 26) (N := (some 61)) (v := undef) (a' := ?_) #[true, true, true, true, true, true, true, true, true, true, true, true, true, true, true, true, true, true, true, true, true, true, true, true, true, true, true, false, false, false, false, false, false] rfl rfl (by kernel_rfl) (fun _ _ _ h => h) (Or.inr ⟨by rfl, rfl⟩) ?_ ?_
  rotate_left
  · simp only [Act.put, List.setIfInBounds_toArray, List.set_cons_zero, List.set_cons_succ, i64_w, i32_w]
    rfl
  refine pure_ (i := 27) (N := (some 62)) (v := undef) (a' := ?_) #[true, true, true, true, true, true, true, true, true, true, true, true, true, true, true, true, true, true, true, true, true, true, true, true, true, true, true, true, false, false, false, false, false] rfl rfl (by kernel_rfl) (fun _ _ _ h => h) (Or.inr ⟨by rfl, rfl⟩) ?_ ?_
  rotate_left
  · simp only [Act.put, List.setIfInBounds_toArray, List.set_cons_zero, List.set_cons_succ, i64_w, i32_w]
    rfl
  refine pure_ (i := 28) (N := (some 63)) (v := undef) (a' := ?_) #[true, true, true, true, true, true, true, true, true, true, true, true, true, true, true, true, true, true, true, true, true, true, true, true, true, true, true, true, true, false, false, false, false] rfl rfl (by kernel_rfl) (fun _ _ _ h => h) (Or.inr ⟨by rfl, rfl⟩) ?_ ?_
  rotate_left
  · simp only [Act.put, List.setIfInBounds_toArray, List.set_cons_zero, List.set_cons_succ, i64_w, i32_w]
    rfl
  refine pure_ (i := 29) (N := (some 64)) (v := undef) (a' := ?_) #[true, true, true, true, true, true, true, true, true, true, true, true, true, true, true, true, true, true, true, true, true, true, true, true, true, true, true, true, true, true, false, false, false] rfl rfl (by kernel_rfl) (fun _ _ _ h => h) (Or.inr ⟨by rfl, rfl⟩) ?_ ?_
  rotate_left
  · simp only [Act.put, List.setIfInBounds_toArray, List.set_cons_zero, List.set_cons_succ, i64_w, i32_w]
    rfl
  refine pure_ (i := 30) (N := (some 65)) (v := undef) (a' := ?_) #[true, true, true, true, true, true, true, true, true, true, true, true, true, true, true, true, true, true, true, true, true, true, true, true, true, true, true, true, true, true, true, false, false] rfl rfl (by kernel_rfl) (fun _ _ _ h => h) (Or.inr ⟨by rfl, rfl⟩) ?_ ?_
  rotate_left
  · simp only [Act.put, List.setIfInBounds_toArray, List.set_cons_zero, List.set_cons_succ, i64_w, i32_w]
    rfl
  refine pure_ (i := 31) (N := (some 66)) (v := ?_) (a' := ?_) #[true, true, true, true, true, true, true, true, true, true, true, true, true, true, true, true, true, true, true, true, true, true, true, true, true, true, true, true, true, true, true, true, false] rfl rfl (by kernel_rfl) (fun _ _ _ h => h) (Or.inl ⟨by rfl, ?_⟩) ?_ ?_
  rotate_left
  · intro w'
    go_simp
    with_reducible rfl
  rotate_left
  · simp only [Act.put, List.setIfInBounds_toArray, List.set_cons_zero, List.set_cons_succ, i64_w, i32_w]
    rfl
  refine pure_ (i := 32) (N := (some 12)) (v := ?_) (a' := ?_) #[true, true, true, true, true, true, true, true, true, true, true, true, true, true, true, true, true, true, true, true, true, true, true, true, true, true, true, true, true, true, true, true, true] rfl rfl (by kernel_rfl) (fun _ _ _ h => h) (Or.inl ⟨by rfl, ?_⟩) ?_ ?_
  rotate_left
  · intro w'
    go_simp
    with_reducible rfl
  rotate_left
  · simp only [Act.put, List.setIfInBounds_toArray, List.set_cons_zero, List.set_cons_succ, i64_w, i32_w]
    rfl
  refine done_ (by kernel_rfl) ?_
  go_wp2_with fail
  go_ret
  exact ⟨(KeptBut.of_below hq6.out).trans HK7.out, HB7.out, rfl, vf, HF7.out, HR7.out⟩
set_option maxRecDepth 100000 in
set_option maxHeartbeats 8000000 in
theorem leave108_none (w0 : World) (sends : List Int) (routes : List S122) (pat : Int) (ad : Addr) (cl : Nat) (l : List S87) (g bl bf bw bn : Nat) (hl8 : l.length ≤ 8) (n : Nat) (hn : n < l.length) (x : S87)
    (d0 : w0.cell? (ad.add (n * 3)) = some (.int .i64 x.f0)) (d1 : w0.cell? ⟨(ad.add (n * 3)).block, (ad.add (n * 3)).off + 1, none⟩ = some (.int .i64 x.f1)) (d2 : w0.cell? ⟨(ad.add (n * 3)).block, (ad.add (n * 3)).off + 2, none⟩ = some (.bool x.f2))
    (IH : RestL w0 sends routes pat (some ad) cl l g bl bf bw bn (n + 1))
    (outv keptv : Value) (out : List Int) (kept : List S87) (many : Nat) (w : World) (hO : OAt w0 w bl bf bw bn g (some ad) l.length cl outv out keptv kept) (ho : out.length ≤ n) (hk : kept.length ≤ n) (hm : many ≤ l.length - n) (hm0 : 0 < many) (hr0 : leaveL routes pat sends (l.drop (n + 1)) ((n : Int) + 1) (out ++ [(n : Int)]) kept (many - 1) = none) :
    Calls Try.prog 108 #[outv, keptv, .int .i64 (n : Int), .int .i64 (many : Int), .pointer (some ⟨bl, 0, none⟩), .pointer (some ⟨bf, 0, none⟩), .pointer (some ⟨bw, 0, none⟩), .pointer (some ⟨bn, 0, none⟩)] w
      (LeavePost w0 w bf (leaveL routes pat sends (l.drop (n + 1)) ((n : Int) + 1) out (kept ++ [x]) many)) := by
  obtain ⟨Ao, co, rfl⟩ := Kd.R_slice hO.rout
  obtain ⟨Ak, ck, rfl⟩ := Kd.R_slice hO.rkept
  have HO := Aside0.mk hO
  have HREG : Aside0 (∀ W, OAt w0 W bl bf bw bn g (some ad) l.length cl (.slice Ao out.length co) out (.slice Ak kept.length ck) kept → SReg W ad bl bf bw bn n l.length cl x) := ⟨fun W h => h.reg d0 d1 d2⟩
  obtain ⟨bl0, bn0, e0, e1, e2⟩ := HREG.out w hO
  have hgt : ¬ (l.length : Int) - (n : Int) < (many : Int) := by omega
  have hne : ((n : Int) == (l.length : Int)) = false := beq_eq_false_iff_ne.2 (by omega)
  have hix : (n : Int) < (l.length : Int) := by omega
  have hwn : wrap64 ((n : Int) + 1) = (n : Int) + 1 := by unfold wrap64; omega
  have HIH2 : Aside0 (∀ (wq : World), OAt w0 wq bl bf bw bn g (some ad) l.length cl (.slice Ao out.length co) out (.slice Ak kept.length ck) kept → ∀ (v' : Value) (w' : World), Below wq.heap.size wq w' → Kd.R k87 87 w' wq.heap.size (fun _ => True) v' (kept ++ [x]) →
      Calls Try.prog 108 #[.slice Ao out.length co, v', .int .i64 ((n : Int) + 1), .int .i64 (many : Int), .pointer (some ⟨bl, 0, none⟩), .pointer (some ⟨bf, 0, none⟩), .pointer (some ⟨bw, 0, none⟩), .pointer (some ⟨bn, 0, none⟩)] w' (LeavePost w0 w' bf (leaveL routes pat sends (l.drop (n + 1)) ((n : Int) + 1) out (kept ++ [x]) many))) := ⟨fun wq hq v' w' hb hr =>
    IH (.slice Ao out.length co) v' out (kept ++ [x]) many w' (by obtain ⟨h1, h2, h3, h4, h5, h6, h7⟩ := hq.later hb; exact ⟨h1, h2, h3, h4, h5, h6, Kd.R_lower hr hq.below.size⟩) (by omega) (by simp; omega) (by omega)⟩
  obtain ⟨o2, ho2⟩ : ∃ o2, o2 = leaveL routes pat sends (l.drop (n + 1)) ((n : Int) + 1) out (kept ++ [x]) many := ⟨_, rfl⟩
  rw [← ho2] at HIH2 ⊢
  clear ho2
  obtain ⟨o1, ho1⟩ : ∃ o1, o1 = leaveL routes pat sends (l.drop (n + 1)) ((n : Int) + 1) (out ++ [(n : Int)]) kept (many - 1) := ⟨_, rfl⟩
  have HIH1 : Aside0 (∀ (v' : Value) (w' : World), Below w.heap.size w w' → Kd.R (Kd.int .i64) 3 w' w.heap.size (fun _ => True) v' (out ++ [(n : Int)]) →
      Calls Try.prog 108 #[v', .slice Ak kept.length ck, .int .i64 ((n : Int) + 1), .int .i64 ((many : Int) - 1), .pointer (some ⟨bl, 0, none⟩), .pointer (some ⟨bf, 0, none⟩), .pointer (some ⟨bw, 0, none⟩), .pointer (some ⟨bn, 0, none⟩)] w' (LeavePost w0 w' bf o1)) := ⟨fun v' w' hb hr => by
    have h := IH v' (.slice Ak kept.length ck) (out ++ [(n : Int)]) kept (many - 1) w' (by obtain ⟨h1, h2, h3, h4, h5, h6, h7⟩ := hO.later hb; exact ⟨h1, h2, h3, h4, h5, Kd.R_lower hr hO.below.size, h7⟩) (by simp; omega) (by omega) (by omega)
    rw [show ((many - 1 : Nat) : Int) = (many : Int) - 1 by omega] at h
    rw [ho1]
    exact h⟩
  have hwm : wrap64 ((many : Int) - 1) = (many : Int) - 1 := by unfold wrap64; omega
  rw [hr0] at ho1
  subst ho1
  clear hr0
  clear hO d0 d1 d2 IH
  go_enter Try.func108, Try.ntmps108
  go_wp2_with fail
  have hq0 : Aside0 (Below w.heap.size w w.drew) := ⟨below_drew (Below.refl _ _)⟩
  refine start_ (n := 33) (S := fun w' => w'.cell? ⟨bl, 0, none⟩ = some (.slice (some ad) l.length cl) ∧ w'.cell? ⟨bn, 0, none⟩ = some (.func (.func 108) #[] #[.pointer (some ⟨bl, 0, none⟩), .pointer (some ⟨bf, 0, none⟩), .pointer (some ⟨bw, 0, none⟩), .pointer (some ⟨bn, 0, none⟩)]) ∧ w'.cell? (ad.add (n * 3)) = some (.int .i64 x.f0) ∧ w'.cell? ⟨(ad.add (n * 3)).block, (ad.add (n * 3)).off + 1, none⟩ = some (.int .i64 x.f1) ∧ w'.cell? ⟨(ad.add (n * 3)).block, (ad.add (n * 3)).off + 2, none⟩ = some (.bool x.f2)) (ds := [30]) #[false, false, false, false, false, false, false, false, false, false, false, false, false, false, false, false, false, false, false, false, false, false, false, false, false, false, false, false, false, false, false, false, false] (by kernel_rfl) rfl rfl ⟨bl0, bn0, e0, e1, e2⟩ (fun hHeld => ?_)
  refine pure_ (i := 0) (N := (some 35)) (v := ?_) (a' := ?_) #[true, false, false, false, false, false, false, false, false, false, false, false, false, false, false, false, false, false, false, false, false, false, false, false, false, false, false, false, false, false, false, false, false] rfl rfl (by kernel_rfl) (fun _ _ _ h => h) (Or.inl ⟨by rfl, ?_⟩) ?_ ?_
  rotate_left
  · intro w'
    go_simp
    with_reducible rfl
  rotate_left
  · simp only [Act.put, List.setIfInBounds_toArray, List.set_cons_zero, List.set_cons_succ, i64_w, i32_w]
    rfl
  refine pure_ (i := 1) (N := (some 36)) (v := ?_) (a' := ?_) #[true, true, false, false, false, false, false, false, false, false, false, false, false, false, false, false, false, false, false, false, false, false, false, false, false, false, false, false, false, false, false, false, false] rfl rfl (by kernel_rfl) (fun _ _ _ h => h) (Or.inl ⟨by rfl, ?_⟩) ?_ ?_
  rotate_left
  · intro w'
    go_simp
    with_reducible rfl
  rotate_left
  · simp only [Act.put, List.setIfInBounds_toArray, List.set_cons_zero, List.set_cons_succ, i64_w, i32_w]
    rfl
  refine pure_ (i := 2) (N := (some 37)) (v := ?_) (a' := ?_) #[true, true, true, false, false, false, false, false, false, false, false, false, false, false, false, false, false, false, false, false, false, false, false, false, false, false, false, false, false, false, false, false, false] rfl rfl (by kernel_rfl) (fun _ _ _ h => h) (Or.inl ⟨by rfl, ?_⟩) ?_ ?_
  rotate_left
  · intro w'
    go_simp
    with_reducible rfl
  rotate_left
  · simp only [Act.put, List.setIfInBounds_toArray, List.set_cons_zero, List.set_cons_succ, i64_w, i32_w]
    rfl
  refine take_ (i := 3) (N := (some 38)) (v := ?_) (a' := ?_) #[true, true, true, true, false, false, false, false, false, false, false, false, false, false, false, false, false, false, false, false, false, false, false, false, false, false, false, false, false, false, false, false, false] rfl rfl (by kernel_rfl) (fun _ _ _ h => h) (Or.inl ⟨by rfl, ?_⟩) hHeld ?_ ?_
  rotate_left
  · rintro w' ⟨s0, s1, s2, s3, s4⟩
    go_simp
    with_reducible rfl
  rotate_left
  · simp only [Act.put, List.setIfInBounds_toArray, List.set_cons_zero, List.set_cons_succ, i64_w, i32_w]
    rfl
  refine pure_ (i := 4) (N := (some 39)) (v := ?_) (a' := ?_) #[true, true, true, true, true, false, false, false, false, false, false, false, false, false, false, false, false, false, false, false, false, false, false, false, false, false, false, false, false, false, false, false, false] rfl rfl (by kernel_rfl) (fun _ _ _ h => h) (Or.inl ⟨by rfl, ?_⟩) ?_ ?_
  rotate_left
  · intro w'
    go_simp
    with_reducible rfl
  rotate_left
  · simp only [Act.put, List.setIfInBounds_toArray, List.set_cons_zero, List.set_cons_succ, i64_w, i32_w]
    rfl
  refine pure_ (i := 6) (N := (some 41)) (v := ?_) (a' := ?_) #[true, true, true, true, true, false, true, false, false, false, false, false, false, false, false, false, false, false, false, false, false, false, false, false, false, false, false, false, false, false, false, false, false] rfl rfl (by kernel_rfl) (fun _ _ _ h => h) (Or.inl ⟨by rfl, ?_⟩) ?_ ?_
  rotate_left
  · intro w'
    go_simp
    with_reducible rfl
  rotate_left
  · simp only [Act.put, List.setIfInBounds_toArray, List.set_cons_zero, List.set_cons_succ, i64_w, i32_w]
    rfl
  refine pure_ (i := 9) (N := (some 44)) (v := ?_) (a' := ?_) #[true, true, true, true, true, false, true, false, false, true, false, false, false, false, false, false, false, false, false, false, false, false, false, false, false, false, false, false, false, false, false, false, false] rfl rfl (by kernel_rfl) (fun _ _ _ h => h) (Or.inl ⟨by rfl, ?_⟩) ?_ ?_
  rotate_left
  · intro w'
    go_simp
    with_reducible rfl
  rotate_left
  · simp only [Act.put, List.setIfInBounds_toArray, List.set_cons_zero, List.set_cons_succ, i64_w, i32_w]
    rfl
  refine pure_ (i := 10) (N := (some 45)) (v := ?_) (a' := ?_) #[true, true, true, true, true, false, true, false, false, true, true, false, false, false, false, false, false, false, false, false, false, false, false, false, false, false, false, false, false, false, false, false, false] rfl rfl (by kernel_rfl) (fun _ _ _ h => h) (Or.inl ⟨by rfl, ?_⟩) ?_ ?_
  rotate_left
  · intro w'
    go_simp
    with_reducible rfl
  rotate_left
  · simp only [Act.put, List.setIfInBounds_toArray, List.set_cons_zero, List.set_cons_succ, i64_w, i32_w]
    rfl
  refine pure_ (i := 11) (N := (some 46)) (v := ?_) (a' := ?_) #[true, true, true, true, true, false, true, false, false, true, true, true, false, false, false, false, false, false, false, false, false, false, false, false, false, false, false, false, false, false, false, false, false] rfl rfl (by kernel_rfl) (fun _ _ _ h => h) (Or.inl ⟨by rfl, ?_⟩) ?_ ?_
  rotate_left
  · intro w'
    go_simp
    with_reducible rfl
  rotate_left
  · simp only [Act.put, List.setIfInBounds_toArray, List.set_cons_zero, List.set_cons_succ, i64_w, i32_w]
    rfl
  refine pure_ (i := 12) (N := (some 47)) (v := ?_) (a' := ?_) #[true, true, true, true, true, false, true, false, false, true, true, true, true, false, false, false, false, false, false, false, false, false, false, false, false, false, false, false, false, false, false, false, false] rfl rfl (by kernel_rfl) (fun _ _ _ h => h) (Or.inl ⟨by rfl, ?_⟩) ?_ ?_
  rotate_left
  · intro w'
    go_simp
    with_reducible rfl
  rotate_left
  · simp only [Act.put, List.setIfInBounds_toArray, List.set_cons_zero, List.set_cons_succ, i64_w, i32_w]
    rfl
  refine pure_ (i := 13) (N := (some 48)) (v := ?_) (a' := ?_) #[true, true, true, true, true, false, true, false, false, true, true, true, true, true, false, false, false, false, false, false, false, false, false, false, false, false, false, false, false, false, false, false, false] rfl rfl (by kernel_rfl) (fun _ _ _ h => h) (Or.inl ⟨by rfl, ?_⟩) ?_ ?_
  rotate_left
  · intro w'
    go_simp
    with_reducible rfl
  rotate_left
  · simp only [Act.put, List.setIfInBounds_toArray, List.set_cons_zero, List.set_cons_succ, i64_w, i32_w]
    rfl
  refine join_ (σ := Value × Nat) 20 #[true, true, true, true, true, true, true, true, false, true, true, true, true, true, false, false, false, false, false, false, false, false, false, false, false, false, false, false, false, false, false, false, false] (fun s_ => [(40, s_.1), (42, .slice (some ⟨s_.2, 0, none⟩) 1 1)]) (fun s_ w' => (w'.cell? ⟨bl, 0, none⟩ = some (.slice (some ad) l.length cl) ∧ w'.cell? ⟨bn, 0, none⟩ = some (.func (.func 108) #[] #[.pointer (some ⟨bl, 0, none⟩), .pointer (some ⟨bf, 0, none⟩), .pointer (some ⟨bw, 0, none⟩), .pointer (some ⟨bn, 0, none⟩)]) ∧ w'.cell? (ad.add (n * 3)) = some (.int .i64 x.f0) ∧ w'.cell? ⟨(ad.add (n * 3)).block, (ad.add (n * 3)).off + 1, none⟩ = some (.int .i64 x.f1) ∧ w'.cell? ⟨(ad.add (n * 3)).block, (ad.add (n * 3)).off + 2, none⟩ = some (.bool x.f2)) ∧ Kd.R (Kd.int .i64) 3 w' w.heap.size (fun _ => True) s_.1 out ∧ w'.heap[s_.2]? = some (.cells #[.int .i64 (n : Int)] 3 (0, 0)) ∧ Below w.heap.size w w') ?_ ?_
  rotate_left
  · intro hCont
    refine two_ (i := 5) (j := 7) (Ni := (some 40)) (Nj := (some 42)) #[true, true, true, true, true, true, true, false, false, true, true, true, true, true, false, false, false, false, false, false, false, false, false, false, false, false, false, false, false, false, false, false, false] #[true, true, true, true, true, false, true, true, false, true, true, true, true, true, false, false, false, false, false, false, false, false, false, false, false, false, false, false, false, false, false, false, false] rfl rfl rfl rfl (by kernel_rfl) (by decide) (by decide) (fun K hK => ?_) (fun K hK => ?_)
    · refine goes_ Try.func105 (by kernel_rfl) rfl #[.slice Ao out.length co] (by rfl) rfl rfl (by (try simp only [List.map_toArray, List.map_cons, List.map_nil]); first | done | rfl) ?_
      refine (clone105_R out w.drew (Kd.R_below HO.out.rout hq0.out) (by omega)).mono ?_
      rintro e w5 ⟨v5, rfl, hr5, hb5⟩
      refine ⟨_, rfl, ?_⟩
      have HR5 := Aside0.mk (Kd.R_lower hr5 hq0.out.size)
      have hq4 := Aside0.mk (below_then hq0.out hq0.out.size hb5)
      have hb5' := Aside0.mk hb5
      clear hr5 hb5
      refine hK.out _ _ (HREG.out _ (HO.out.later hq4.out)) (fun hHeld => ?_)
      clear hK K
      refine norm_ (a' := ?_) ?_ ?_
      rotate_left
      · show Act.put _ (some 40) _ = _
        simp only [Act.put, List.setIfInBounds_toArray, List.set_cons_zero, List.set_cons_succ, i64_w, i32_w]
        rfl
      refine one_ (i := 7) (N := (some 42)) #[true, true, true, true, true, true, true, true, false, true, true, true, true, true, false, false, false, false, false, false, false, false, false, false, false, false, false, false, false, false, false, false, false] rfl rfl (by kernel_rfl) (by decide) (fun K hK => ?_)
      have hq5 : Aside0 (Below w.heap.size w ((w5).alloc (.cells #[.int .i64 (n : Int)] 3))) := ⟨hq4.out.alloc hq4.out.size _⟩
      refine value_ (v := .slice (some ⟨(w5).heap.size, 0, none⟩) 1 1) (w1 := (w5).alloc (.cells #[.int .i64 (n : Int)] 3)) (by rfl) rfl (by go_simp; done) ?_
      refine hK.out _ _ (HREG.out _ (HO.out.later hq5.out)) (fun hHeld => ?_)
      clear hK K
      refine norm_ (a' := ?_) ?_ ?_
      rotate_left
      · show Act.put _ (some 42) _ = _
        simp only [Act.put, List.setIfInBounds_toArray, List.set_cons_zero, List.set_cons_succ, i64_w, i32_w]
        rfl
      exact norm_ (by simp only [putAll, Act.put, List.setIfInBounds_toArray, List.set_cons_zero, List.set_cons_succ]) (hCont (v5, w5.heap.size) _ ⟨hHeld, Kd.R_below HR5.out ((Below.refl _ _).alloc (Nat.le_refl _) _), blk_new _ _, hq5.out⟩)
    · have hq5 : Aside0 (Below w.heap.size w ((w.drew).alloc (.cells #[.int .i64 (n : Int)] 3))) := ⟨hq0.out.alloc hq0.out.size _⟩
      refine value_ (v := .slice (some ⟨(w.drew).heap.size, 0, none⟩) 1 1) (w1 := (w.drew).alloc (.cells #[.int .i64 (n : Int)] 3)) (by rfl) rfl (by go_simp; done) ?_
      refine hK.out _ _ (HREG.out _ (HO.out.later hq5.out)) (fun hHeld => ?_)
      clear hK K
      refine norm_ (a' := ?_) ?_ ?_
      rotate_left
      · show Act.put _ (some 42) _ = _
        simp only [Act.put, List.setIfInBounds_toArray, List.set_cons_zero, List.set_cons_succ, i64_w, i32_w]
        rfl
      refine one_ (i := 5) (N := (some 40)) #[true, true, true, true, true, true, true, true, false, true, true, true, true, true, false, false, false, false, false, false, false, false, false, false, false, false, false, false, false, false, false, false, false] rfl rfl (by kernel_rfl) (by decide) (fun K hK => ?_)
      refine goes_ Try.func105 (by kernel_rfl) rfl #[.slice Ao out.length co] (by rfl) rfl rfl (by (try simp only [List.map_toArray, List.map_cons, List.map_nil]); first | done | rfl) ?_
      refine (clone105_R out ((w.drew).alloc (.cells #[.int .i64 (n : Int)] 3)) (Kd.R_below HO.out.rout hq5.out) (by omega)).mono ?_
      rintro e w5 ⟨v5, rfl, hr5, hb5⟩
      refine ⟨_, rfl, ?_⟩
      have HR5 := Aside0.mk (Kd.R_lower hr5 hq5.out.size)
      have hq4 := Aside0.mk (below_then hq5.out hq5.out.size hb5)
      have hb5' := Aside0.mk hb5
      clear hr5 hb5
      refine hK.out _ _ (HREG.out _ (HO.out.later hq4.out)) (fun hHeld => ?_)
      clear hK K
      refine norm_ (a' := ?_) ?_ ?_
      rotate_left
      · show Act.put _ (some 40) _ = _
        simp only [Act.put, List.setIfInBounds_toArray, List.set_cons_zero, List.set_cons_succ, i64_w, i32_w]
        rfl
      exact norm_ (by simp only [putAll, Act.put, List.setIfInBounds_toArray, List.set_cons_zero, List.set_cons_succ]) (hCont (v5, (w.drew).heap.size) _ ⟨hHeld, HR5.out, blk_below (blk_new _ _) hb5'.out, hq4.out⟩)
  intro s_ w5 hF
  obtain ⟨v5, gx⟩ := s_
  obtain ⟨hHeld, hr5, hgx, hb5⟩ := hF
  have hq5 := Aside0.mk hb5
  have HR5 := Aside0.mk hr5
  have HGX := Aside0.mk hgx
  clear hr5 hgx hb5
  obtain ⟨A5, c5, rfl⟩ := Kd.R_slice HR5.out
  refine norm_ (a' := ?_) ?_ ?_
  rotate_left
  · simp only [putAll, Act.put, List.setIfInBounds_toArray, List.set_cons_zero, List.set_cons_succ]
    rfl
  refine one_ (i := 8) (N := (some 43)) #[true, true, true, true, true, true, true, true, true, true, true, true, true, true, false, false, false, false, false, false, false, false, false, false, false, false, false, false, false, false, false, false, false] rfl rfl (by kernel_rfl) (by decide) (fun K hK => ?_)
  refine kd_append_at (Kd.int .i64) (w0 := w) w.heap.size (by rfl) (.tmp 40) (.tmp 42) 22 3 (.int .i64 0) 8 (by rfl) Try.underlying22 info3 rfl (by decide) (.slice A5 out.length c5) out (n : Int) [.int .i64 (n : Int)] gx (by rfl) (by rfl) HGX.out (fun _ => False) rfl (fun _ hk => hk.elim) HR5.out hq5.out hq5.out.size (by omega) (by unfold maxLen; omega) ?_
  intro gg cap w6 hr6 hb6 hg6
  have HR6 := Aside0.mk hr6
  have hq6 := Aside0.mk hb6
  clear hr6 hb6 hg6
  refine hK.out _ _ (HREG.out _ (HO.out.later hq6.out)) (fun hHeld => ?_)
  clear hK K
  refine norm_ (a' := ?_) ?_ ?_
  rotate_left
  · show Act.put _ (some 43) _ = _
    simp only [Act.put, List.setIfInBounds_toArray, List.set_cons_zero, List.set_cons_succ, i64_w, i32_w]
    rfl
  refine one_ (i := 14) (N := (some 49)) #[true, true, true, true, true, true, true, true, true, true, true, true, true, true, true, false, false, false, false, false, false, false, false, false, false, false, false, false, false, false, false, false, false] rfl rfl (by kernel_rfl) (by decide) (fun K hK => ?_)
  refine goesV_ Try.func108 (by kernel_rfl) rfl #[.slice (some ⟨gg, 0, none⟩) (out.length + 1) cap, .slice Ak kept.length ck, .int .i64 ((n : Int) + 1), .int .i64 ((many : Int) - 1), .pointer (some ⟨bl, 0, none⟩), .pointer (some ⟨bf, 0, none⟩), .pointer (some ⟨bw, 0, none⟩), .pointer (some ⟨bn, 0, none⟩)] (by rfl) rfl rfl rfl #[.slice (some ⟨gg, 0, none⟩) (out.length + 1) cap, .slice Ak kept.length ck, .int .i64 (wrap64 ((n : Int) + 1)), .int .i64 (wrap64 ((many : Int) - 1))] (by (try simp only [List.map_toArray, List.map_cons, List.map_nil]); first | done | rfl) (by simp [hwn, hwm]) ?_
  refine (HIH1.out _ w6 hq6.out HR6.out).mono ?_
  rintro e w7 ⟨hk', hb', rfl, vf, hf', hr'⟩
  refine ⟨_, rfl, ?_⟩
  have HK7 := Aside0.mk hk'
  have HB7 := Aside0.mk hb'
  have HF7 := Aside0.mk hf'
  have HR7 := Aside0.mk hr'
  have HO7 := Aside0.mk ((HO.out.later hq6.out).step HK7.out HB7.out ⟨vf, HF7.out⟩)
  clear hk' hb' hf' hr'
  refine hK.out _ _ (HREG.out _ HO7.out) (fun hHeld => ?_)
  clear hK K
  refine norm_ (a' := ?_) ?_ ?_
  rotate_left
  · show Act.put _ (some 49) _ = _
    simp only [Act.put, List.setIfInBounds_toArray, List.set_cons_zero, List.set_cons_succ, i64_w, i32_w]
    rfl
  refine pure_ (i := 15) (N := (some 50)) (v := ?_) (a' := ?_) #[true, true, true, true, true, true, true, true, true, true, true, true, true, true, true, true, false, false, false, false, false, false, false, false, false, false, false, false, false, false, false, false, false] rfl rfl (by kernel_rfl) (fun _ _ _ h => h) (Or.inl ⟨by rfl, ?_⟩) ?_ ?_
  rotate_left
  · intro w'
    go_simp
    with_reducible rfl
  rotate_left
  · simp only [Act.put, List.setIfInBounds_toArray, List.set_cons_zero, List.set_cons_succ, i64_w, i32_w]
    rfl
  refine pure_ (i := 16) (N := (some 51)) (v := ?_) (a' := ?_) #[true, true, true, true, true, true, true, true, true, true, true, true, true, true, true, true, true, false, false, false, false, false, false, false, false, false, false, false, false, false, false, false, false] rfl rfl (by kernel_rfl) (fun _ _ _ h => h) (Or.inl ⟨by rfl, ?_⟩) ?_ ?_
  rotate_left
  · intro w'
    go_simp
    with_reducible rfl
  rotate_left
  · simp only [Act.put, List.setIfInBounds_toArray, List.set_cons_zero, List.set_cons_succ, i64_w, i32_w]
    rfl
  have gq0 : Aside0 (Below w7.heap.size w7 w7) := ⟨Below.refl _ _⟩
  have HKX := Aside0.mk ((KeptBut.of_below hq6.out).trans HK7.out)
  clear HR6 HR5 HGX hq5 HF7 HR7 HK7 HB7
  refine take_ (i := 17) (N := (some 52)) (v := ?_) (a' := ?_) #[true, true, true, true, true, true, true, true, true, true, true, true, true, true, true, true, true, true, false, false, false, false, false, false, false, false, false, false, false, false, false, false, false] rfl rfl (by kernel_rfl) (fun _ _ _ h => h) (Or.inl ⟨by rfl, ?_⟩) hHeld ?_ ?_
  rotate_left
  · rintro w' ⟨s0, s1, s2, s3, s4⟩
    go_simp
    with_reducible rfl
  rotate_left
  · simp only [Act.put, List.setIfInBounds_toArray, List.set_cons_zero, List.set_cons_succ, i64_w, i32_w]
    rfl
  refine pure_ (i := 18) (N := (some 53)) (v := ?_) (a' := ?_) #[true, true, true, true, true, true, true, true, true, true, true, true, true, true, true, true, true, true, true, false, false, false, false, false, false, false, false, false, false, false, false, false, false] rfl rfl (by kernel_rfl) (fun _ _ _ h => h) (Or.inl ⟨by rfl, ?_⟩) ?_ ?_
  rotate_left
  · intro w'
    go_simp
    with_reducible rfl
  rotate_left
  · simp only [Act.put, List.setIfInBounds_toArray, List.set_cons_zero, List.set_cons_succ, i64_w, i32_w]
    rfl
  refine pure_ (i := 19) (N := (some 54)) (v := ?_) (a' := ?_) #[true, true, true, true, true, true, true, true, true, true, true, true, true, true, true, true, true, true, true, true, false, false, false, false, false, false, false, false, false, false, false, false, false] rfl rfl (by kernel_rfl) (fun _ _ _ h => h) (Or.inl ⟨by rfl, ?_⟩) ?_ ?_
  rotate_left
  · intro w'
    go_simp
    with_reducible rfl
  rotate_left
  · simp only [Act.put, List.setIfInBounds_toArray, List.set_cons_zero, List.set_cons_succ, i64_w, i32_w]
    rfl
  refine take_ (i := 21) (N := (some 56)) (v := ?_) (a' := ?_) #[true, true, true, true, true, true, true, true, true, true, true, true, true, true, true, true, true, true, true, true, false, true, false, false, false, false, false, false, false, false, false, false, false] rfl rfl (by kernel_rfl) (fun _ _ _ h => h) (Or.inl ⟨by rfl, ?_⟩) hHeld ?_ ?_
  rotate_left
  · rintro w' ⟨s0, s1, s2, s3, s4⟩
    go_simp
    with_reducible rfl
  rotate_left
  · simp only [Act.put, List.setIfInBounds_toArray, List.set_cons_zero, List.set_cons_succ, i64_w, i32_w]
    rfl
  refine pure_ (i := 22) (N := (some 57)) (v := ?_) (a' := ?_) #[true, true, true, true, true, true, true, true, true, true, true, true, true, true, true, true, true, true, true, true, false, true, true, false, false, false, false, false, false, false, false, false, false] rfl rfl (by kernel_rfl) (fun _ _ _ h => h) (Or.inl ⟨by rfl, ?_⟩) ?_ ?_
  rotate_left
  · intro w'
    go_simp
    with_reducible rfl
  rotate_left
  · simp only [Act.put, List.setIfInBounds_toArray, List.set_cons_zero, List.set_cons_succ, i64_w, i32_w]
    rfl
  refine pure_ (i := 23) (N := (some 58)) (v := ?_) (a' := ?_) #[true, true, true, true, true, true, true, true, true, true, true, true, true, true, true, true, true, true, true, true, false, true, true, true, false, false, false, false, false, false, false, false, false] rfl rfl (by kernel_rfl) (fun _ _ _ h => h) (Or.inl ⟨by rfl, ?_⟩) ?_ ?_
  rotate_left
  · intro w'
    go_simp
    with_reducible rfl
  rotate_left
  · simp only [Act.put, List.setIfInBounds_toArray, List.set_cons_zero, List.set_cons_succ, i64_w, i32_w]
    rfl
  refine take_ (i := 24) (N := (some 59)) (v := ?_) (a' := ?_) #[true, true, true, true, true, true, true, true, true, true, true, true, true, true, true, true, true, true, true, true, false, true, true, true, true, false, false, false, false, false, false, false, false] rfl rfl (by kernel_rfl) (fun _ _ _ h => h) (Or.inl ⟨by rfl, ?_⟩) hHeld ?_ ?_
  rotate_left
  · rintro w' ⟨s0, s1, s2, s3, s4⟩
    go_simp
    with_reducible rfl
  rotate_left
  · simp only [Act.put, List.setIfInBounds_toArray, List.set_cons_zero, List.set_cons_succ, i64_w, i32_w]
    rfl
  refine pure_ (i := 27) (N := (some 62)) (v := ?_) (a' := ?_) #[true, true, true, true, true, true, true, true, true, true, true, true, true, true, true, true, true, true, true, true, false, true, true, true, true, false, false, true, false, false, false, false, false] rfl rfl (by kernel_rfl) (fun _ _ _ h => h) (Or.inl ⟨by rfl, ?_⟩) ?_ ?_
  rotate_left
  · intro w'
    go_simp
    with_reducible rfl
  rotate_left
  · simp only [Act.put, List.setIfInBounds_toArray, List.set_cons_zero, List.set_cons_succ, i64_w, i32_w]
    rfl
  refine pure_ (i := 28) (N := (some 63)) (v := ?_) (a' := ?_) #[true, true, true, true, true, true, true, true, true, true, true, true, true, true, true, true, true, true, true, true, false, true, true, true, true, false, false, true, true, false, false, false, false] rfl rfl (by kernel_rfl) (fun _ _ _ h => h) (Or.inl ⟨by rfl, ?_⟩) ?_ ?_
  rotate_left
  · intro w'
    go_simp
    with_reducible rfl
  rotate_left
  · simp only [Act.put, List.setIfInBounds_toArray, List.set_cons_zero, List.set_cons_succ, i64_w, i32_w]
    rfl
  refine pure_ (i := 29) (N := (some 64)) (v := ?_) (a' := ?_) #[true, true, true, true, true, true, true, true, true, true, true, true, true, true, true, true, true, true, true, true, false, true, true, true, true, false, false, true, true, true, false, false, false] rfl rfl (by kernel_rfl) (fun _ _ _ h => h) (Or.inl ⟨by rfl, ?_⟩) ?_ ?_
  rotate_left
  · intro w'
    go_simp
    with_reducible rfl
  rotate_left
  · simp only [Act.put, List.setIfInBounds_toArray, List.set_cons_zero, List.set_cons_succ, i64_w, i32_w]
    rfl
  refine join_ (σ := Value × Nat) 4 #[true, true, true, true, true, true, true, true, true, true, true, true, true, true, true, true, true, true, true, true, true, true, true, true, true, true, false, true, true, true, false, false, false] (fun s_ => [(55, s_.1), (60, .slice (some ⟨s_.2, 0, none⟩) 1 1)]) (fun s_ w' => (w'.cell? ⟨bl, 0, none⟩ = some (.slice (some ad) l.length cl) ∧ w'.cell? ⟨bn, 0, none⟩ = some (.func (.func 108) #[] #[.pointer (some ⟨bl, 0, none⟩), .pointer (some ⟨bf, 0, none⟩), .pointer (some ⟨bw, 0, none⟩), .pointer (some ⟨bn, 0, none⟩)]) ∧ w'.cell? (ad.add (n * 3)) = some (.int .i64 x.f0) ∧ w'.cell? ⟨(ad.add (n * 3)).block, (ad.add (n * 3)).off + 1, none⟩ = some (.int .i64 x.f1) ∧ w'.cell? ⟨(ad.add (n * 3)).block, (ad.add (n * 3)).off + 2, none⟩ = some (.bool x.f2)) ∧ Kd.R k87 87 w' w7.heap.size (fun _ => True) s_.1 kept ∧ w'.heap[s_.2]? = some (.cells #[.int .i64 x.f0, .int .i64 x.f1, .bool x.f2] 87 (0, 0)) ∧ Below w7.heap.size w7 w') ?_ ?_
  rotate_left
  · intro hCont
    refine two_ (i := 20) (j := 25) (Ni := (some 55)) (Nj := (some 60)) #[true, true, true, true, true, true, true, true, true, true, true, true, true, true, true, true, true, true, true, true, true, true, true, true, true, false, false, true, true, true, false, false, false] #[true, true, true, true, true, true, true, true, true, true, true, true, true, true, true, true, true, true, true, true, false, true, true, true, true, true, false, true, true, true, false, false, false] rfl rfl rfl rfl (by kernel_rfl) (by decide) (by decide) (fun K hK => ?_) (fun K hK => ?_)
    · refine goes_ Try.func110 (by kernel_rfl) rfl #[.slice Ak kept.length ck] (by rfl) rfl rfl (by (try simp only [List.map_toArray, List.map_cons, List.map_nil]); first | done | rfl) ?_
      refine (clone110_R kept w7 (Kd.R_below HO7.out.rkept gq0.out) (by omega)).mono ?_
      rintro e u5 ⟨v5, rfl, hr5, hb5⟩
      refine ⟨_, rfl, ?_⟩
      have HR5 := Aside0.mk (Kd.R_lower hr5 gq0.out.size)
      have gq4 := Aside0.mk (below_then gq0.out gq0.out.size hb5)
      have hb5' := Aside0.mk hb5
      clear hr5 hb5
      refine hK.out _ _ (HREG.out _ (HO7.out.later gq4.out)) (fun hHeld => ?_)
      clear hK K
      refine norm_ (a' := ?_) ?_ ?_
      rotate_left
      · show Act.put _ (some 55) _ = _
        simp only [Act.put, List.setIfInBounds_toArray, List.set_cons_zero, List.set_cons_succ, i64_w, i32_w]
        rfl
      refine one_ (i := 25) (N := (some 60)) #[true, true, true, true, true, true, true, true, true, true, true, true, true, true, true, true, true, true, true, true, true, true, true, true, true, true, false, true, true, true, false, false, false] rfl rfl (by kernel_rfl) (by decide) (fun K hK => ?_)
      have gq5 : Aside0 (Below w7.heap.size w7 ((u5).alloc (.cells #[.int .i64 x.f0, .int .i64 x.f1, .bool x.f2] 87))) := ⟨gq4.out.alloc gq4.out.size _⟩
      refine value_ (v := .slice (some ⟨(u5).heap.size, 0, none⟩) 1 1) (w1 := (u5).alloc (.cells #[.int .i64 x.f0, .int .i64 x.f1, .bool x.f2] 87)) (by rfl) rfl (by go_simp; done) ?_
      refine hK.out _ _ (HREG.out _ (HO7.out.later gq5.out)) (fun hHeld => ?_)
      clear hK K
      refine norm_ (a' := ?_) ?_ ?_
      rotate_left
      · show Act.put _ (some 60) _ = _
        simp only [Act.put, List.setIfInBounds_toArray, List.set_cons_zero, List.set_cons_succ, i64_w, i32_w]
        rfl
      exact norm_ (by simp only [putAll, Act.put, List.setIfInBounds_toArray, List.set_cons_zero, List.set_cons_succ]) (hCont (v5, u5.heap.size) _ ⟨hHeld, Kd.R_below HR5.out ((Below.refl _ _).alloc (Nat.le_refl _) _), blk_new _ _, gq5.out⟩)
    · have gq5 : Aside0 (Below w7.heap.size w7 ((w7).alloc (.cells #[.int .i64 x.f0, .int .i64 x.f1, .bool x.f2] 87))) := ⟨gq0.out.alloc gq0.out.size _⟩
      refine value_ (v := .slice (some ⟨(w7).heap.size, 0, none⟩) 1 1) (w1 := (w7).alloc (.cells #[.int .i64 x.f0, .int .i64 x.f1, .bool x.f2] 87)) (by rfl) rfl (by go_simp; done) ?_
      refine hK.out _ _ (HREG.out _ (HO7.out.later gq5.out)) (fun hHeld => ?_)
      clear hK K
      refine norm_ (a' := ?_) ?_ ?_
      rotate_left
      · show Act.put _ (some 60) _ = _
        simp only [Act.put, List.setIfInBounds_toArray, List.set_cons_zero, List.set_cons_succ, i64_w, i32_w]
        rfl
      refine one_ (i := 20) (N := (some 55)) #[true, true, true, true, true, true, true, true, true, true, true, true, true, true, true, true, true, true, true, true, true, true, true, true, true, true, false, true, true, true, false, false, false] rfl rfl (by kernel_rfl) (by decide) (fun K hK => ?_)
      refine goes_ Try.func110 (by kernel_rfl) rfl #[.slice Ak kept.length ck] (by rfl) rfl rfl (by (try simp only [List.map_toArray, List.map_cons, List.map_nil]); first | done | rfl) ?_
      refine (clone110_R kept ((w7).alloc (.cells #[.int .i64 x.f0, .int .i64 x.f1, .bool x.f2] 87)) (Kd.R_below HO7.out.rkept gq5.out) (by omega)).mono ?_
      rintro e u5 ⟨v5, rfl, hr5, hb5⟩
      refine ⟨_, rfl, ?_⟩
      have HR5 := Aside0.mk (Kd.R_lower hr5 gq5.out.size)
      have gq4 := Aside0.mk (below_then gq5.out gq5.out.size hb5)
      have hb5' := Aside0.mk hb5
      clear hr5 hb5
      refine hK.out _ _ (HREG.out _ (HO7.out.later gq4.out)) (fun hHeld => ?_)
      clear hK K
      refine norm_ (a' := ?_) ?_ ?_
      rotate_left
      · show Act.put _ (some 55) _ = _
        simp only [Act.put, List.setIfInBounds_toArray, List.set_cons_zero, List.set_cons_succ, i64_w, i32_w]
        rfl
      exact norm_ (by simp only [putAll, Act.put, List.setIfInBounds_toArray, List.set_cons_zero, List.set_cons_succ]) (hCont (v5, (w7).heap.size) _ ⟨hHeld, HR5.out, blk_below (blk_new _ _) hb5'.out, gq4.out⟩)
  intro s_ u5 hF
  obtain ⟨v5, gx⟩ := s_
  obtain ⟨hHeld, hr5, hgx, hb5⟩ := hF
  have gq5 := Aside0.mk hb5
  have HR5 := Aside0.mk hr5
  have HGX := Aside0.mk hgx
  clear hr5 hgx hb5
  obtain ⟨A5, c5, rfl⟩ := Kd.R_slice HR5.out
  refine norm_ (a' := ?_) ?_ ?_
  rotate_left
  · simp only [putAll, Act.put, List.setIfInBounds_toArray, List.set_cons_zero, List.set_cons_succ]
    rfl
  refine one_ (i := 26) (N := (some 61)) #[true, true, true, true, true, true, true, true, true, true, true, true, true, true, true, true, true, true, true, true, true, true, true, true, true, true, true, true, true, true, false, false, false] rfl rfl (by kernel_rfl) (by decide) (fun K hK => ?_)
  refine kd_append_at k87 (w0 := w7) w7.heap.size (by rfl) (.tmp 55) (.tmp 60) 36 87 (.agg #[.int .i64 0, .int .i64 0, .bool false]) 24 (by rfl) Try.underlying36 info87 rfl (by decide) (.slice A5 kept.length c5) kept x [.int .i64 x.f0, .int .i64 x.f1, .bool x.f2] gx (by rfl) (by rfl) HGX.out (fun _ => False) (k87_mkM _ _ _ x) (fun _ hk => hk.elim) HR5.out gq5.out gq5.out.size (by omega) (by unfold maxLen; omega) ?_
  intro gg cap u6 hr6 hb6 hg6
  have HR6 := Aside0.mk hr6
  have gq6 := Aside0.mk hb6
  clear hr6 hb6 hg6
  refine hK.out _ _ (HREG.out _ (HO7.out.later gq6.out)) (fun hHeld => ?_)
  clear hK K
  refine norm_ (a' := ?_) ?_ ?_
  rotate_left
  · show Act.put _ (some 61) _ = _
    simp only [Act.put, List.setIfInBounds_toArray, List.set_cons_zero, List.set_cons_succ, i64_w, i32_w]
    rfl
  refine last_ (i := 30) (N := (some 65)) #[true, true, true, true, true, true, true, true, true, true, true, true, true, true, true, true, true, true, true, true, true, true, true, true, true, true, true, true, true, true, true, false, false] rfl rfl (by kernel_rfl) (by decide) (fun K hK => ?_)
  refine goesV_ Try.func108 (by kernel_rfl) rfl #[.slice Ao out.length co, .slice (some ⟨gg, 0, none⟩) (kept.length + 1) cap, .int .i64 ((n : Int) + 1), .int .i64 (many : Int), .pointer (some ⟨bl, 0, none⟩), .pointer (some ⟨bf, 0, none⟩), .pointer (some ⟨bw, 0, none⟩), .pointer (some ⟨bn, 0, none⟩)] (by rfl) rfl rfl rfl #[.slice Ao out.length co, .slice (some ⟨gg, 0, none⟩) (kept.length + 1) cap, .int .i64 (wrap64 ((n : Int) + 1)), .int .i64 (many : Int)] (by (try simp only [List.map_toArray, List.map_cons, List.map_nil]); first | done | rfl) (by simp [hwn]) ?_
  refine (HIH2.out w7 HO7.out _ u6 gq6.out HR6.out).mono ?_
  rintro e u7 ⟨hk', hb', rfl, vf, hf', hr'⟩
  refine ⟨_, rfl, ?_⟩
  have HK7 := Aside0.mk hk'
  have HB7 := Aside0.mk hb'
  have HF7 := Aside0.mk hf'
  have HR7 := Aside0.mk hr'
  clear hk' hb' hf' hr'
  refine hK.out _ _ ?_
  clear hK K hHeld
  refine norm_ (a' := ?_) ?_ ?_
  rotate_left
  · show Act.put _ (some 65) _ = _
    simp only [Act.put, List.setIfInBounds_toArray, List.set_cons_zero, List.set_cons_succ, i64_w, i32_w]
    rfl
  refine pure_ (i := 31) (N := (some 66)) (v := ?_) (a' := ?_) #[true, true, true, true, true, true, true, true, true, true, true, true, true, true, true, true, true, true, true, true, true, true, true, true, true, true, true, true, true, true, true, true, false] rfl rfl (by kernel_rfl) (fun _ _ _ h => h) (Or.inl ⟨by rfl, ?_⟩) ?_ ?_
  rotate_left
  · intro w'
    go_simp
    with_reducible rfl
  rotate_left
  · simp only [Act.put, List.setIfInBounds_toArray, List.set_cons_zero, List.set_cons_succ, i64_w, i32_w]
    rfl
  refine pure_ (i := 32) (N := (some 12)) (v := ?_) (a' := ?_) #[true, true, true, true, true, true, true, true, true, true, true, true, true, true, true, true, true, true, true, true, true, true, true, true, true, true, true, true, true, true, true, true, true] rfl rfl (by kernel_rfl) (fun _ _ _ h => h) (Or.inl ⟨by rfl, ?_⟩) ?_ ?_
  rotate_left
  · intro w'
    go_simp
    with_reducible rfl
  rotate_left
  · simp only [Act.put, List.setIfInBounds_toArray, List.set_cons_zero, List.set_cons_succ, i64_w, i32_w]
    rfl
  refine done_ (by kernel_rfl) ?_
  go_wp2_with fail
  go_ret
  exact ⟨HKX.out.trans ((KeptBut.of_below gq6.out).trans HK7.out), HB7.out, rfl, _, HF7.out, HR7.out⟩
end Go.Proofs.Ytiephlhohgohcaa.PAll
namespace Go.Proofs.Ytiephlhohgohcaa.PAll
open Go.RowKit Go.Proofs.YtiephlhohgohcaaW.PrintWords Go.Proofs.YtiephlhohgohcaaW.PrintLast Go.Proofs.YtiephlhohgohcaaW.PrintMore
attribute [local go_sem] max2_int min2_int max_two min_two max_three min_three max_four min_four
set_option linter.unusedVariables false
set_option linter.unusedSimpArgs false
theorem leave108 (w0 : World) (A0 : Option Addr) (c0 : Nat) (sends : List Int) (A1 : Option Addr) (c1 : Nat) (routes : List S122) (pat : Int) (Al : Option Addr) (cl : Nat) (l : List S87) (g bl bf bw bn : Nat)
    (hwk : WorkAt w0 g A0 c0 sends A1 c1 routes pat) (h0 : Kd.C (Kd.int .i64) w0 A0 sends.length sends) (l0 : sends.length ≤ c0) (h1 : Kd.C k122 w0 A1 routes.length routes) (l1 : routes.length ≤ c1) (V : Valid sends routes pat) (hl : Kd.C k87 w0 Al l.length l) (hbf : w0.heap.size ≤ bf) (hl8 : l.length ≤ 8) :
    ∀ (d n : Nat), n + d = l.length → RestL w0 sends routes pat Al cl l g bl bf bw bn n
  | 0, n, hn => by
    have hn' : n = l.length := by omega
    subst hn'
    intro outv keptv out kept many w hO ho hk hm
    rw [List.drop_eq_nil_of_le (Nat.le_refl _), leaveL]
    by_cases h : 0 < many
    · rw [if_pos h]
      exact leave108_far w0 sends routes pat Al cl l g bl bf bw bn l.length hl8 (Nat.le_refl _) outv keptv out kept many w hO hm (by omega)
    · have h0' : many = 0 := by omega
      subst h0'
      rw [if_neg (by omega)]
      exact leave108_end w0 A0 c0 sends A1 c1 routes pat Al cl l g bl bf bw bn hwk h0 l0 h1 l1 V hbf hl8 outv keptv out kept w hO
  | d + 1, n, hn => by
    have IH := leave108 w0 A0 c0 sends A1 c1 routes pat Al cl l g bl bf bw bn hwk h0 l0 h1 l1 V hl hbf hl8 d (n + 1) (by omega)
    have hlt : n < l.length := by omega
    intro outv keptv out kept many w hO ho hk hm
    have hdl : (l.drop (n + 1)).length + 1 = l.length - n := by simp; omega
    by_cases hf : l.length - n < many
    · rw [leaveL_far _ _ _ _ _ _ _ _ (by simpa using hf)]
      exact leave108_far w0 sends routes pat Al cl l g bl bf bw bn n hl8 (by omega) outv keptv out kept many w hO hm hf
    · obtain ⟨ad, e, d0, d1, d2⟩ := at_T87 hl (n : Int) (by omega) (by omega)
      have hx : rd_T87 l (n : Int) = l[n] := by unfold rd_T87; rw [Int.toNat_natCast, rd_in _ _ _ hlt]
      rw [Int.toNat_natCast, hx] at d0 d1 d2
      subst e
      rw [List.drop_eq_getElem_cons hlt, leaveL, if_neg (by omega)]
      by_cases h : 0 < many
      · rw [if_pos h]
        rcases hr : leaveL routes pat sends (l.drop (n + 1)) ((n : Int) + 1) (out ++ [(n : Int)]) kept (many - 1) with _ | r
        · exact leave108_none w0 sends routes pat ad cl l g bl bf bw bn hl8 n hlt l[n] d0 d1 d2 IH outv keptv out kept many w hO ho hk (by omega) h hr
        · exact leave108_some w0 sends routes pat ad cl l g bl bf bw bn hl8 n hlt l[n] d0 d1 d2 IH outv keptv out kept many w hO ho hk (by omega) h r hr
      · rw [if_neg h]
        exact leave108_zero w0 sends routes pat ad cl l g bl bf bw bn hl8 n hlt l[n] d0 d1 d2 IH outv keptv out kept many w hO ho hk (by omega) (by omega)
set_option maxRecDepth 100000 in
set_option maxHeartbeats 4000000 in
theorem odd50 (A0 : Option Addr) (c0 : Nat) (sends : List Int) (A1 : Option Addr) (c1 : Nat) (routes : List S122) (pat : Int) (Al : Option Addr) (cl : Nat) (l : List S87) (w : World)
    (h0 : Kd.C (Kd.int .i64) w A0 sends.length sends) (l0 : sends.length ≤ c0) (h1 : Kd.C k122 w A1 routes.length routes) (l1 : routes.length ≤ c1) (hl : Kd.C k87 w Al l.length l) :
    Calls Try.prog 50 #[.agg #[.slice A0 sends.length c0, .slice A1 routes.length c1, .int .i64 pat], .slice Al l.length cl] w fun e w' =>
      ∃ v, e = .returned (.tuple #[v, .int .i64 (oddRes sends routes pat l).2]) ∧ Kd.R (Kd.int .i64) 3 w' w.heap.size (fun _ => True) v (oddRes sends routes pat l).1 ∧ Below w.heap.size w w' := by
  have HR0 := Aside0.mk h0
  have HR1 := Aside0.mk h1
  have HR2 := Aside0.mk hl
  have HL0 := Aside0.mk l0
  have HL1 := Aside0.mk l1
  obtain ⟨W1, hW1⟩ : ∃ W1, W1 = (w.alloc (.cells #[.slice A0 sends.length c0, .slice A1 routes.length c1, .int .i64 pat] 34)).alloc (.cells #[.slice Al l.length cl] 36) := ⟨_, rfl⟩
  have hb1 : Below w.heap.size w W1 := hW1 ▸ ((Below.refl _ w).alloc (Nat.le_refl _) _).alloc (by simp) _
  have HX := Aside0.mk (show W1.heap[w.heap.size]? = some (.cells #[.slice A0 sends.length c0, .slice A1 routes.length c1, .int .i64 pat] 34 (0, 0)) from by rw [hW1]; exact blk_alloc (blk_new _ _) _)
  have HY := Aside0.mk (show W1.heap[w.heap.size + 1]? = some (.cells #[.slice Al l.length cl] 36 (0, 0)) from by rw [hW1]; exact blk_new_at (size_new_at rfl))
  have HB := Aside0.mk hb1
  have HW1 := Aside0.mk hW1
  have g0 := Aside0.mk (Kd.C_below h0 hb1)
  have g1 := Aside0.mk (Kd.C_below h1 hb1)
  have g2 := Aside0.mk (Kd.C_below hl hb1)
  clear h0 h1 hl l0 l1 hW1 hb1
  have x0 : W1.cell? ⟨w.heap.size, 0, none⟩ = some (.slice A0 sends.length c0) := (blk_cell HX.out 0).trans rfl
  have x1 : W1.cell? ⟨w.heap.size, 1, none⟩ = some (.slice A1 routes.length c1) := (blk_cell HX.out 1).trans rfl
  have x2 : W1.cell? ⟨w.heap.size, 2, none⟩ = some (.int .i64 pat) := (blk_cell HX.out 2).trans rfl
  have x3 : W1.cell? ⟨w.heap.size + 1, 0, none⟩ = some (.slice Al l.length cl) := (blk_cell HY.out 0).trans rfl
  go_enter Try.func50, Try.ntmps50
  go_wp2_with fail
  rw [← HW1.out]
  clear HW1
  refine (booked107 A0 c0 sends A1 c1 routes pat Al cl l W1 g0.out HL0.out g1.out HL1.out g2.out).mono ?_
  rintro e w2 ⟨rfl, hb⟩
  have HB2 := Aside0.mk (below_then HB.out HB.out.size hb)
  have HX2 := Aside0.mk (blk_below HX.out hb)
  have HY2 := Aside0.mk (blk_below HY.out hb)
  have G0 := Aside0.mk (Kd.C_below g0.out hb)
  have G1 := Aside0.mk (Kd.C_below g1.out hb)
  have G2 := Aside0.mk (Kd.C_below g2.out hb)
  clear hb x0 x1 x2 x3 HX HY HB g0 g1 g2
  have x0 : w2.cell? ⟨w.heap.size, 0, none⟩ = some (.slice A0 sends.length c0) := (blk_cell HX2.out 0).trans rfl
  have x1 : w2.cell? ⟨w.heap.size, 1, none⟩ = some (.slice A1 routes.length c1) := (blk_cell HX2.out 1).trans rfl
  have x2 : w2.cell? ⟨w.heap.size, 2, none⟩ = some (.int .i64 pat) := (blk_cell HX2.out 2).trans rfl
  by_cases hc : bookedL sends routes pat l = 0
  · have hcb : (bookedL sends routes pat l != (0 : Int)) = false := by rw [hc]; rfl
    have HC := Aside0.mk hc
    have hck : check sends routes pat = 0 ∧ l.length ≤ 8 := by
      unfold bookedL at hc
      split at hc
      · rename_i h; exact absurd hc h
      · rename_i h
        refine ⟨by simpa using h, ?_⟩
        split at hc
        · cases hc
        · omega
    have V := Aside0.mk (valid_of hck.1)
    have hl8 := hck.2
    clear hc hck
    go_wp2_with fail
    refine (work78 A0 c0 sends A1 c1 routes pat w2 G0.out G1.out V.out.sn V.out.rn V.out.s0 (fun r hr => (V.out.ln r hr).2) (fun r hr l hl => V.out.leg hr hl)).mono ?_
    rintro e w3 ⟨g, rfl, hwk, hb⟩
    have HB3 := Aside0.mk (below_then HB2.out HB2.out.size hb)
    have HY3 := Aside0.mk (blk_below HY2.out hb)
    have HK3 := Aside0.mk hwk
    have HR03 := Aside0.mk (Kd.C_below G0.out hb)
    have HR13 := Aside0.mk (Kd.C_below G1.out hb)
    have HR23 := Aside0.mk (Kd.C_below G2.out hb)
    clear hb hwk x0 x1 x2 HX2 HY2 HB2 G0 G1 G2
    obtain ⟨W6, hW6⟩ : ∃ W6, W6 = (((w3.alloc (.cells #[.pointer (some ⟨g, 0, none⟩)] 139)).alloc (.cells #[.slice none 0 0] 22)).alloc (.cells #[.func (.func 108) #[] #[.pointer (some ⟨w.heap.size + 1, 0, none⟩), .pointer (some ⟨w3.heap.size + 1, 0, none⟩), .pointer (some ⟨w3.heap.size, 0, none⟩), .pointer (some ⟨w3.heap.size + 1 + 1, 0, none⟩)]] 167)) := ⟨_, rfl⟩
    have hb6 : Below w3.heap.size w3 W6 := hW6 ▸ (((Below.refl _ w3).alloc (by simp) _).alloc (by simp) _).alloc (by simp; omega) _
    have z1 := size_new_at (w := w3) (o := .cells #[.pointer (some ⟨g, 0, none⟩)] 139) rfl
    have z2 := size_new_at (o := .cells #[.slice none 0 0] 22) z1
    have HO6 : Aside0 (OAt w3 W6 (w.heap.size + 1) (w3.heap.size + 1) w3.heap.size (w3.heap.size + 1 + 1) g Al l.length cl (.slice none 0 0) [] (.slice none 0 0) []) := ⟨⟨blk_below HY3.out hb6, ⟨.slice none 0 0, by rw [hW6]; exact blk_alloc (blk_new_at z1) _⟩, by rw [hW6]; exact blk_alloc (blk_alloc (blk_new _ _) _) _, by rw [hW6]; exact blk_new_at z2, hb6, Kd.R_nil _ _ _ _ _, Kd.R_nil _ _ _ _ _⟩⟩
    have HLV := Aside0.mk (leave108 w3 A0 c0 sends A1 c1 routes pat Al cl l g (w.heap.size + 1) (w3.heap.size + 1) w3.heap.size (w3.heap.size + 1 + 1) HK3.out HR03.out HL0.out HR13.out HL1.out V.out HR23.out (by omega) hl8 l.length 0 (by omega))
    have HB6 := Aside0.mk (below_then HB3.out HB3.out.size hb6)
    have HW6 := Aside0.mk hW6
    have x6 : W6.cell? ⟨w.heap.size + 1, 0, none⟩ = some (.slice Al l.length cl) := (blk_cell HO6.out.list 0).trans rfl
    rw [hW6] at x6
    clear hb6 hW6 z1 z2 HK3 HR03 HR13 HR23 HY3
    go_wp2_with fail
    rw [← HW6.out]
    clear x6
    go_loopg [23] (l.length + 1) (fun gg s23 wr => ∃ k : Nat, k ≤ l.length + 1 ∧ l.length + 1 - k ≤ gg ∧ s23 = .int .i64 k ∧ Aside0 (OAt w3 wr (w.heap.size + 1) (w3.heap.size + 1) w3.heap.size (w3.heap.size + 1 + 1) g Al l.length cl (.slice none 0 0) [] (.slice none 0 0) []) ∧ Aside0 (Below w.heap.size w wr) ∧
      Aside0 (∀ j : Nat, j < k → leaveL routes pat sends l 0 [] [] j = none))
    case atStart => exact ⟨0, by omega, by omega, rfl, HO6, HB6, ⟨fun j hj => by omega⟩⟩
    case round =>
      obtain ⟨k, hk, hgk, rfl, HOr, HBr, HTr⟩ := hrel
      clear HO6 HB6
      obtain ⟨wm, rfl⟩ : ∃ wm : World, wm = wr := ⟨_, rfl⟩
      by_cases hlt : k < l.length + 1
      · have hltz : (k : Int) < (l.length : Int) + 1 := by omega
        have x9 : wm.cell? ⟨w3.heap.size + 1 + 1, 0, none⟩ = some (.func (.func 108) #[] #[.pointer (some ⟨w.heap.size + 1, 0, none⟩), .pointer (some ⟨w3.heap.size + 1, 0, none⟩), .pointer (some ⟨w3.heap.size, 0, none⟩), .pointer (some ⟨w3.heap.size + 1 + 1, 0, none⟩)]) := (blk_cell HOr.out.leave 0).trans rfl
        have hcl := HLV.out (.slice none 0 0) (.slice none 0 0) [] [] k wm HOr.out (by simp) (by simp) (by omega)
        rw [List.drop_zero, show ((0 : Nat) : Int) = 0 from rfl] at hcl
        have HCL := Aside0.mk hcl
        clear hcl
        generalize ho : leaveL routes pat sends l 0 [] [] k = o at HCL
        have HO := Aside0.mk ho
        clear ho
        go_wp2_with fail
        refine HCL.out.mono ?_
        rintro e w7 ⟨hk7, hb7, rfl, vf, hf7, hr7⟩
        have HO7 := Aside0.mk (HOr.out.step hk7 hb7 ⟨vf, hf7⟩)
        have HB7 : Aside0 (Below w.heap.size w w7) := ⟨below_then HB3.out HB3.out.size hb7⟩
        have f8 : w7.cell? ⟨w3.heap.size + 1, 0, none⟩ = some vf := (blk_cell hf7 0).trans rfl
        have HR7 := Aside0.mk hr7
        clear hk7 hb7 hf7 hr7 x9 HCL
        cases o with
        | none =>
          clear f8
          go_wp2_with fail
          go_roundg (l.length + 1 - (k + 1))
          case measure => omega
          case rel => exact ⟨k + 1, by omega, by omega, by go_num, HO7, HB7, ⟨fun j hj => by
            by_cases e : j = k
            · rw [e]; exact HO.out
            · exact HTr.out j (by omega)⟩⟩
        | some r =>
          have HRES : Aside0 (oddL routes pat sends l = r) := ⟨by rw [oddL, findSome_first hlt HTr.out HO.out]; rfl⟩
          have HVR := Aside0.mk (Kd.R_lower (HR7.out r rfl) HB3.out.size)
          go_wp2_with fail
          go_ret2
          rw [oddRes, if_neg (by rw [HC.out]; simp), HRES.out]
          exact ⟨vf, rfl, HVR.out, HB7.out⟩
      · exfalso
        have h := leaveL_all V.out l 0 []
        rw [HTr.out l.length (by omega)] at h
        cases h
  · have hcb : (bookedL sends routes pat l != (0 : Int)) = true := by simpa using hc
    have HC := Aside0.mk hc
    clear hc
    go_wp2_with fail
    go_ret2
    rw [oddRes, if_pos HC.out]
    exact ⟨_, rfl, Kd.R_nil _ _ _ _ _, HB2.out⟩
end Go.Proofs.Ytiephlhohgohcaa.PAll
namespace Go.Proofs.Ytiephlhohgohcaa.PAll
open Go.RowKit Go.Proofs.YtiephlhohgohcaaW.PrintWords Go.Proofs.YtiephlhohgohcaaW.PrintLast Go.Proofs.YtiephlhohgohcaaW.PrintMore
attribute [local go_sem] max2_int min2_int max_two min_two max_three min_three max_four min_four
set_option linter.unusedVariables false
set_option linter.unusedSimpArgs false
theorem R_single (n : Int) (w : World) (base : Nat) (hb : base ≤ w.heap.size) : (Kd.int .i64).R 3 (w.alloc (.cells #[.int .i64 n] 3)) base (fun _ => True) (.slice (some ⟨w.heap.size, 0, none⟩) 1 1) [n] := by
  refine ⟨fun _ _ => trivial, [.int .i64 n], ⟨by rfl, .inr ⟨w.heap.size, 1, #[.int .i64 n], rfl, hb, blk_new _ _, Nat.le_refl _, by decide, by rfl, by rfl⟩⟩, (Reps.none _ _).snoc (p := n) (c := [.int .i64 n]) rfl rfl⟩
/-- What the legs take, so that a copy is there at an hour. -/
def takesL : List S119 → Int → Int → Option (List Int)
  | [], sent, hour => if sent = hour then some [] else none
  | l :: ls, sent, hour => (List.range (l.f0.f1 - l.f0.f0 + 1).toNat).findSome? fun m : Nat => (takesL ls (awakeL l (sent + l.f0.f0 + m)) hour).map fun r => (l.f0.f0 + m) :: r
theorem takesL_len : ∀ (ls : List S119) (sent hour : Int) (r : List Int), takesL ls sent hour = some r → r.length = ls.length
  | [], sent, hour, r, h => by
    rw [takesL] at h
    split at h
    · cases h; rfl
    · cases h
  | l :: ls, sent, hour, r, h => by
    rw [takesL] at h
    obtain ⟨m, _, h1⟩ := List.exists_of_findSome?_eq_some h
    cases h2 : takesL ls (awakeL l (sent + l.f0.f0 + m)) hour with
    | none => rw [h2] at h1; cases h1
    | some q =>
      rw [h2] at h1
      cases h1
      rw [List.length_cons, takesL_len ls _ _ q h2, List.length_cons]
set_option maxRecDepth 100000 in
set_option maxHeartbeats 2000000 in
theorem takes141 (A : Option Addr) (c : Nat) (legs : List S119) (lossy : Bool) (hour : Int) (HOK : ∀ l ∈ legs, LegOk l ∧ l.f1.length ≤ 100) (hlen : legs.length ≤ 3) :
    ∀ (d at' : Nat) (sent : Int) (w : World), at' + d = legs.length → 0 ≤ sent → sent ≤ 30 + 6 * (at' : Int) → Kd.C k119 w A legs.length legs → Calls Try.prog 141 #[.agg #[.slice A legs.length c, .bool lossy], .int .i64 (at' : Int), .int .i64 sent, .int .i64 hour] w fun e w' =>
      ∃ v, e = .returned (.tuple #[v, .bool (takesL (legs.drop at') sent hour).isSome]) ∧ Kd.R (Kd.int .i64) 3 w' w.heap.size (fun _ => True) v ((takesL (legs.drop at') sent hour).getD []) ∧ Below w.heap.size w w'
  | 0, at', sent, w, hat, hs0, hs1, h => by
    rw [List.drop_eq_nil_of_le (by omega), takesL]
    obtain ⟨W1, hW1⟩ : ∃ W1, W1 = w.alloc (.cells #[.slice A legs.length c, .bool lossy] 122) := ⟨_, rfl⟩
    have hb1 : Below w.heap.size w W1 := hW1 ▸ (Below.refl _ w).alloc (Nat.le_refl _) _
    have x0 : W1.cell? ⟨w.heap.size, 0, none⟩ = some (.slice A legs.length c) := (blk_cell (by rw [hW1]; exact blk_new _ _) 0).trans rfl
    have HB := Aside0.mk hb1
    have HW1 := Aside0.mk hW1
    have hatz : ((at' : Int) == (legs.length : Int)) = true := by rw [beq_iff_eq]; omega
    have hatd : decide ((at' : Int) = (legs.length : Int)) = true := decide_eq_true (by omega)
    clear hW1 hb1 h
    by_cases e : sent = hour
    · have hd : decide (sent = hour) = true := decide_eq_true e
      have HE := Aside0.mk e
      rw [if_pos e]
      clear e
      go_enter Try.func141, Try.ntmps141
      go_wp2_with fail
      rw [← HW1.out]
      go_wp2_with fail
      go_ret2
      exact ⟨_, by simp [HE.out], Kd.R_nil _ _ _ _ _, HB.out⟩
    · have hd : decide (sent = hour) = false := decide_eq_false e
      have HE := Aside0.mk e
      rw [if_neg e]
      go_enter Try.func141, Try.ntmps141
      go_wp2_with fail
      rw [← HW1.out]
      go_wp2_with fail
      go_ret2
      exact ⟨_, by simp [HE.out], Kd.R_nil _ _ _ _ _, HB.out⟩
  | d + 1, at', sent, w, hat, hs0, hs1, h => by
    have hlt : at' < legs.length := by omega
    have REC : Aside0 (∀ (s : Int) (w' : World), 0 ≤ s → s ≤ 30 + 6 * ((at' + 1 : Nat) : Int) → Below w.heap.size w w' → Calls Try.prog 141 #[.agg #[.slice A legs.length c, .bool lossy], .int .i64 ((at' : Int) + 1), .int .i64 s, .int .i64 hour] w' fun e w'' =>
      ∃ v, e = .returned (.tuple #[v, .bool (takesL (legs.drop (at' + 1)) s hour).isSome]) ∧ Kd.R (Kd.int .i64) 3 w'' w'.heap.size (fun _ => True) v ((takesL (legs.drop (at' + 1)) s hour).getD []) ∧ Below w'.heap.size w' w'') := ⟨fun s w' h0 h1 hb => by
        have := takes141 A c legs lossy hour HOK hlen d (at' + 1) s w' (by omega) h0 h1 (Kd.C_below h hb)
        rwa [show ((at' + 1 : Nat) : Int) = (at' : Int) + 1 by omega] at this⟩
    have LOK := Aside0.mk (HOK _ (List.getElem_mem hlt))
    rw [List.drop_eq_getElem_cons hlt, takesL]
    obtain ⟨ad, A5, c5, ea, y0, y1, y2, l5, g5⟩ := at_T119 h (at' : Int) (by omega) (by omega)
    cases ea
    have er : rd_T119 legs (at' : Int) = legs[at'] := by unfold rd_T119; rw [Int.toNat_natCast, rd_in _ _ _ hlt]
    rw [er, Int.toNat_natCast] at y0 y1 y2
    rw [er] at l5 g5
    clear er
    generalize legs[at'] = lg at LOK y0 y1 y2 l5 g5 ⊢
    obtain ⟨⟨lo, hi⟩, asl⟩ := lg
    dsimp only at y0 y1 y2 l5 g5 ⊢
    have hlo := LOK.out.1.lo
    have hhi := LOK.out.1.hi
    have hmo := LOK.out.1.most
    dsimp only at hlo hhi hmo
    obtain ⟨cnt, hcnt⟩ : ∃ cnt : Nat, (cnt : Int) = hi - lo + 1 := ⟨(hi - lo + 1).toNat, by omega⟩
    have HCNT := Aside0.mk hcnt
    rw [show (hi - lo + 1).toNat = cnt by omega]
    have hc7 : cnt ≤ 7 := by omega
    have hat2 : at' ≤ 2 := by omega
    clear hcnt
    have hls : (legs.drop (at' + 1)).length ≤ 3 := by rw [List.length_drop]; omega
    have HLS := Aside0.mk hls
    clear hls
    generalize legs.drop (at' + 1) = ls at REC HLS ⊢
    obtain ⟨R, hR⟩ : ∃ R, (List.range cnt).findSome? (fun m : Nat => (takesL ls (awakeL ⟨⟨lo, hi⟩, asl⟩ (sent + lo + m)) hour).map fun r => (lo + m) :: r) = R := ⟨_, rfl⟩
    have HRR := Aside0.mk hR
    rw [hR]
    clear hR
    have z1 := size_new_at (w := w) (o := .cells #[.slice (some ad) legs.length c, .bool lossy] 122) rfl
    obtain ⟨W2, hW2⟩ : ∃ W2, W2 = (w.alloc (.cells #[.slice (some ad) legs.length c, .bool lossy] 122)).alloc (.cells #[.int .i64 lo, .int .i64 hi, .slice A5 asl.length c5] 119) := ⟨_, rfl⟩
    have hb2 : Below w.heap.size w W2 := hW2 ▸ ((Below.refl _ w).alloc (by simp) _).alloc (by simp) _
    have HX2 := Aside0.mk (show W2.heap[w.heap.size]? = some (.cells #[.slice (some ad) legs.length c, .bool lossy] 122 (0, 0)) from by rw [hW2]; exact blk_alloc (blk_new _ _) _)
    have HT2 := Aside0.mk (show W2.heap[w.heap.size + 1]? = some (.cells #[.int .i64 lo, .int .i64 hi, .slice A5 asl.length c5] 119 (0, 0)) from by rw [hW2]; exact blk_new_at z1)
    have HB2 := Aside0.mk hb2
    have HG5 := Aside0.mk g5
    have hbw : Below w.heap.size w (w.alloc (.cells #[.slice (some ad) legs.length c, .bool lossy] 122)) := (Below.refl _ w).alloc (by simp) _
    have Y0 := pw_cell_below hbw y0
    have Y1 := pw_cell_below hbw y1
    have Y2 := pw_cell_below hbw y2
    have HW2 := Aside0.mk hW2
    have hatz : ((at' : Int) == (legs.length : Int)) = false := by rw [beq_eq_false_iff_ne]; omega
    have hatd : decide ((at' : Int) = (legs.length : Int)) = false := decide_eq_false (by omega)
    have hltz : (at' : Int) < (legs.length : Int) := by omega
    clear z1 hW2 hb2 hbw y0 y1 y2 l5 g5 h
    go_enter Try.func141, Try.ntmps141
    go_wp2_with fail
    rw [← HW2.out]
    clear HW2 Y0 Y1 Y2
    go_loopg [11] (cnt + 1) (fun gg s11 wr => ∃ m : Nat, m ≤ cnt ∧ cnt + 1 - m ≤ gg ∧ s11 = .int .i64 (lo + (m : Int)) ∧ Aside0 (Below W2.heap.size W2 wr) ∧ Aside0 (∀ j : Nat, j < m → takesL ls (awakeL ⟨⟨lo, hi⟩, asl⟩ (sent + lo + j)) hour = none))
    case atStart => exact ⟨0, by omega, by omega, by simp, ⟨Below.refl _ _⟩, ⟨fun j hj => by omega⟩⟩
    case round =>
      obtain ⟨m, hm, hgm, rfl, HBr, HNO⟩ := hrel
      obtain ⟨wm, rfl⟩ : ∃ wm : World, wm = wr := ⟨_, rfl⟩
      have HX := Aside0.mk (blk_below HX2.out HBr.out)
      have HT := Aside0.mk (blk_below HT2.out HBr.out)
      have HB := Aside0.mk (below_then HB2.out HB2.out.size HBr.out)
      have x0 : wm.cell? ⟨w.heap.size, 0, none⟩ = some (.slice (some ad) legs.length c) := (blk_cell HX.out 0).trans rfl
      have x1 : wm.cell? ⟨w.heap.size, 1, none⟩ = some (.bool lossy) := (blk_cell HX.out 1).trans rfl
      have t0 : wm.cell? ⟨w.heap.size + 1, 0, none⟩ = some (.int .i64 lo) := (blk_cell HT.out 0).trans rfl
      have t1 : wm.cell? ⟨w.heap.size + 1, 1, none⟩ = some (.int .i64 hi) := (blk_cell HT.out 1).trans rfl
      have t2 : wm.cell? ⟨w.heap.size + 1, 2, none⟩ = some (.slice A5 asl.length c5) := (blk_cell HT.out 2).trans rfl
      by_cases hmc : m < cnt
      · have hle : lo + (m : Int) ≤ hi := by have := HCNT.out; omega
        have hupto := awake_upto LOK.out.1 (h := sent) (B := 30 + 6 * (at' : Int)) hs0 hs1 (by omega) (n := m) (by show (m : Int) ≤ hi - lo; omega)
        dsimp only at hupto
        have e1 : IntKind.i64.wrap (sent + (lo + (m : Int))) = sent + (lo + (m : Int)) := IntWalk.i64_in _ (by omega)
        have e2 : IntKind.i64.wrap ((at' : Int) + 1) = (at' : Int) + 1 := IntWalk.i64_in _ (by omega)
        have HAW : Aside0 (∀ w', Below w.heap.size w w' → Calls Try.prog 126 #[.agg #[.int .i64 lo, .int .i64 hi, .slice A5 asl.length c5], .int .i64 (sent + (lo + (m : Int)))] w' fun e w'' => e = .returned (.int .i64 (awakeL ⟨⟨lo, hi⟩, asl⟩ (sent + lo + (m : Int)))) ∧ Below w'.heap.size w' w'') := ⟨fun w' hb => by
          have := awake126 ⟨⟨lo, hi⟩, asl⟩ A5 c5 (sent + lo + (m : Int)) w' (Kd.C_below HG5.out hb) LOK.out.1.wk (by omega) (by omega)
          rwa [show sent + lo + (m : Int) = sent + (lo + (m : Int)) by omega] at this ⊢⟩
        have HTRY : Aside0 (takesL ls (awakeL ⟨⟨lo, hi⟩, asl⟩ (sent + lo + (m : Int))) hour = takesL ls (awakeL ⟨⟨lo, hi⟩, asl⟩ (sent + lo + (m : Int))) hour) := ⟨rfl⟩
        obtain ⟨av, hav⟩ : ∃ av, awakeL ⟨⟨lo, hi⟩, asl⟩ (sent + lo + (m : Int)) = av := ⟨_, rfl⟩
        have HAV := Aside0.mk hav
        rw [hav] at HAW hupto
        clear hav HTRY
        have RECV : Aside0 (∀ w' : World, Below w.heap.size w w' → Calls Try.prog 141 #[.agg #[.slice (some ad) legs.length c, .bool lossy], .int .i64 ((at' : Int) + 1), .int .i64 av, .int .i64 hour] w' fun e w'' =>
          ∃ v, e = .returned (.tuple #[v, .bool (takesL ls av hour).isSome]) ∧ Kd.R (Kd.int .i64) 3 w'' w'.heap.size (fun _ => True) v ((takesL ls av hour).getD []) ∧ Below w'.heap.size w' w'') := ⟨fun w' hb => REC.out av w' (by omega) (by omega) hb⟩
        obtain ⟨T, hT⟩ : ∃ T, takesL ls av hour = T := ⟨_, rfl⟩
        rw [hT] at RECV
        have HTT := Aside0.mk hT
        clear hT
        have KEEP : Aside0 (∀ w', Below wm.heap.size wm w' → (w'.cell? ⟨w.heap.size, 0, none⟩ = some (.slice (some ad) legs.length c) ∧ w'.cell? ⟨w.heap.size, 1, none⟩ = some (.bool lossy) ∧ w'.cell? ⟨w.heap.size + 1, 0, none⟩ = some (.int .i64 lo) ∧ w'.cell? ⟨w.heap.size + 1, 1, none⟩ = some (.int .i64 hi) ∧ w'.cell? ⟨w.heap.size + 1, 2, none⟩ = some (.slice A5 asl.length c5))) :=
          ⟨fun w' hb => ⟨pw_cell_below hb x0, pw_cell_below hb x1, pw_cell_below hb t0, pw_cell_below hb t1, pw_cell_below hb t2⟩⟩
        have hq0 : Aside0 (Below wm.heap.size wm wm.drew) := ⟨below_drew (Below.refl _ _)⟩
        go_wp2_with fail
        go_region_held3 (fun w' => w'.cell? ⟨w.heap.size, 0, none⟩ = some (.slice (some ad) legs.length c) ∧ w'.cell? ⟨w.heap.size, 1, none⟩ = some (.bool lossy) ∧ w'.cell? ⟨w.heap.size + 1, 0, none⟩ = some (.int .i64 lo) ∧ w'.cell? ⟨w.heap.size + 1, 1, none⟩ = some (.int .i64 hi) ∧ w'.cell? ⟨w.heap.size + 1, 2, none⟩ = some (.slice A5 asl.length c5))
          (first
            | exact KEEP.out _ hq0.out
            | exact KEEP.out _ hq1.out
            | exact KEEP.out _ hq2.out)
          (first
            | (go_at_call 126; refine (HAW.out _ (below_then HB.out HB.out.size hq0.out)).mono ?_; rintro e wa ⟨rfl, ha⟩; have hq1 := Aside0.mk (below_then hq0.out hq0.out.size ha); clear ha)
            | (go_at_call 141; refine (RECV.out _ (below_then HB.out HB.out.size hq1.out)).mono ?_; rintro e wb ⟨vm, rfl, hrv, hb⟩; have hq2 := Aside0.mk (below_then hq1.out hq1.out.size hb); have HRV := Aside0.mk hrv; clear hb hrv))
        clear e1 e2 KEEP x0 x1 t0 t1 t2
        have HBB := Aside0.mk (below_then HBr.out HBr.out.size hq2.out)
        have HBW := Aside0.mk (below_then HB2.out HB2.out.size HBB.out)
        cases T with
        | none =>
          clear HRV
          go_wp2_with fail
          go_roundg (cnt + 1 - (m + 1))
          case measure => omega
          case rel =>
            refine ⟨m + 1, by omega, by omega, by go_num, HBB, ⟨fun j hj => ?_⟩⟩
            by_cases e : j = m
            · subst e; rw [HAV.out]; exact HTT.out
            · exact HNO.out j (by omega)
        | some r =>
          obtain ⟨Av, cv, hv, hlv, hCv⟩ := Kd.R_reads HRV.out
          have hrl : r.length ≤ 100 := by
            have := takesL_len ls av hour r HTT.out
            have := HLS.out
            omega
          subst hv
          have HCV := Aside0.mk (Kd.C_below hCv ((Below.refl _ wb).alloc (Nat.le_refl _) (.cells #[.int .i64 (lo + (m : Int))] 3)))
          have HRF : Aside0 (R = some ((lo + (m : Int)) :: r)) := ⟨by
            rw [← HRR.out]
            exact findSome_first hmc (fun j hj => by rw [HNO.out j hj]; rfl) (by rw [HAV.out, HTT.out]; rfl)⟩
          clear hCv hlv HRV
          dsimp only [Option.getD] at HCV ⊢
          have hwb := HBW.out.size
          go_wp2_with (at_builtin; refine Kd.R_append_row (Value.int .i64) (0 : Int) (w0 := w) w.heap.size rfl (.tmp 52) (.tmp 53) 22 3 (.int .i64 0) 8 rfl Try.underlying22 info3 rfl (by decide) (.slice (some ⟨wb.heap.size, 0, none⟩) 1 1) [lo + (m : Int)] r Av r.length cv (fun _ => True) rfl rfl (fun _ _ => trivial) (R_single (lo + (m : Int)) wb w.heap.size hwb) HCV.out (HBW.out.alloc hwb _) (by simp; omega) (by simp; omega) ?_; intro v9 w9 hr9 hb9 hg9 hat9; have HR9 := Aside0.mk hr9; have HB9 := Aside0.mk hb9; clear hr9 hb9 hg9 hat9)
          go_ret2
          exact ⟨_, by rw [HRF.out]; rfl, by rw [HRF.out]; exact HR9.out, HB9.out⟩
      · have hle : ¬ lo + (m : Int) ≤ hi := by have := HCNT.out; omega
        have HF : Aside0 (R = none) := ⟨by
          rw [← HRR.out]
          exact findSome_none (fun j hj => by rw [HNO.out j (by omega)]; rfl)⟩
        go_wp2_with fail
        go_ret2
        exact ⟨_, by rw [HF.out]; rfl, by rw [HF.out]; exact Kd.R_nil _ _ _ _ _, HB.out⟩
end Go.Proofs.Ytiephlhohgohcaa.PAll
