/- Part 20 of what the row rests on: each text as it stands among the working texts, cut to what is used; those of the print of the kit as a program printed them. -/
import Derived.Test.YtiephlhohgohcaaOdds19
import Derived.Test.YtiephlhohgohcaaOdds12
import Derived.Test.YtiephlhohgohcaaOdds14
import Derived.Test.YtiephlhohgohcaaOdds6
import Derived.Test.YtiephlhohgohcaaOdds18
import Derived.Test.YtiephlhohgohcaaOdds9
import Derived.Test.YtiephlhohgohcaaOdds7
import Derived.Test.YtiephlhohgohcaaOdds16
import Derived.Test.YtiephlhohgohcaaOdds5
import Derived.Test.YtiephlhohgohcaaOdds17
import Derived.Laws.Tables
import Derived.BigQuiet
set_option linter.unusedVariables false
set_option linter.unusedSimpArgs false
namespace Go.Proofs.Ytiephlhohgohcaa.PAll
open Go.RowKit Go.Proofs.YtiephlhohgohcaaW.PrintWords Go.Proofs.YtiephlhohgohcaaW.PrintLast Go.Proofs.YtiephlhohgohcaaW.PrintMore
attribute [local go_sem] max2_int min2_int max_two min_two max_three min_three max_four min_four
set_option linter.unusedVariables false
set_option linter.unusedSimpArgs false
/-- The cells of a set of hours, 0 to 101. -/
def rcells (f : Int → Bool) : Array Value := ((List.range 102).map (fun j : Nat => Value.bool (f (j : Int)))).toArray
theorem rcells_size (f : Int → Bool) : (rcells f).size = 102 := by simp [rcells]
theorem rcells_at (f : Int → Bool) {j : Nat} (hj : j < 102) : (rcells f)[j]? = some (.bool (f (j : Int))) := by simp [rcells, hj]
theorem rcells_one (f : Int → Bool) : (rcells f).all (·.oneCell') = true := by
  rw [Array.all_eq_true_iff_forall_mem]
  intro v hv
  simp only [rcells, List.mem_toArray, List.mem_map] at hv
  obtain ⟨j, _, rfl⟩ := hv
  rfl
theorem rcells_set (f : Int → Bool) {j : Nat} (hj : j < 102) : (rcells f).setIfInBounds j (.bool true) = rcells (fun x => f x || x == (j : Int)) := by
  apply Array.ext
  · simp [rcells_size]
  · intro i h1 h2
    rw [rcells_size] at h2
    rw [Array.getElem_setIfInBounds (by rw [rcells_size]; exact h2)]
    simp only [rcells, List.getElem_toArray, List.getElem_map, List.getElem_range]
    by_cases e : j = i
    · subst e; simp
    · rw [if_neg e]
      have : ((i : Int) == (j : Int)) = false := beq_eq_false_iff_ne.2 (by omega)
      rw [this, Bool.or_false]
theorem rcells_congr {f g : Int → Bool} (h : ∀ j : Nat, j < 102 → f (j : Int) = g (j : Int)) : rcells f = rcells g := by
  unfold rcells
  congr 1
  apply List.map_congr_left
  intro j hj
  rw [h j (List.mem_range.1 hj)]
theorem zero50 : Try.zeroCells50 = rcells (fun _ => false) := by kernel_rfl
theorem info50s : (Try.prog.info? 50).map (·.size) = some 102 := by kernel_rfl
/-- A block that is the set f. -/
def RSet (W : World) (b : Nat) (f : Int → Bool) : Prop := W.heap[b]? = some (.cells (rcells f) 50 (0, 0))
theorem RSet.cell {W : World} {b : Nat} {f : Int → Bool} (h : RSet W b f) {j : Nat} (hj : j < 102) : W.cell? ⟨b, j, none⟩ = some (.bool (f (j : Int))) := (blk_cell h j).trans (rcells_at f hj)
theorem RSet.frozen {W : World} {b : Nat} {f : Int → Bool} (h : RSet W b f) (j : Nat) : W.frozen? ⟨b, j, none⟩ = false := blk_frozen h j
theorem RSet.below {W W' : World} {b : Nat} {f : Int → Bool} (h : RSet W b f) (hb : Below W.heap.size W W') : RSet W' b f := blk_below h hb
theorem RSet.set {W : World} {b : Nat} {f : Int → Bool} (h : RSet W b f) {j : Nat} (hj : j < 102) : RSet (W.setCell ⟨b, j, none⟩ (.bool true)) b (fun x => f x || x == (j : Int)) := by
  have := blk_set h j (.bool true)
  rw [rcells_set f hj] at this
  exact this
theorem RSet.far {W : World} {b : Nat} {f : Int → Bool} (h : RSet W b f) {p : Addr} (hp : b ≠ p.block) (u : Value) : RSet (W.setCell p u) b f := blk_far h hp u
end Go.Proofs.Ytiephlhohgohcaa.PAll
namespace Go.Proofs.Ytiephlhohgohcaa.PAll
open Go.RowKit Go.Proofs.YtiephlhohgohcaaW.PrintWords Go.Proofs.YtiephlhohgohcaaW.PrintLast Go.Proofs.YtiephlhohgohcaaW.PrintMore
attribute [local go_sem] max2_int min2_int max_two min_two max_three min_three max_four min_four
set_option linter.unusedVariables false
set_option linter.unusedSimpArgs false
theorem refAwake80 (l : S101) (A : Option Addr) (c : Nat) (w : World) (h : Kd.C k64 w A l.f1.length l.f1) (hc : l.f1.length ≤ c) (hw : Wakes (toL l)) (hl : l.f1.length ≤ 100) (x : Int) (h0 : 0 ≤ x) (h1 : x ≤ 10000) :
    Calls Try.prog 80 #[.agg #[.int .i64 l.f0.f0, .int .i64 l.f0.f1, .slice A l.f1.length c], .int .i64 x] w fun e w' => e = .returned (.int .i64 (awakeL (toL l) x)) ∧ Below w.heap.size w w' := by
  obtain ⟨k, hk⟩ := (awake_f l hw hl x h0 h1).rounds
  exact (glisterref05_Awake.calls k l.f0.f0 l.f0.f1 A c l.f1 x _ w h hc hk).mono fun _ _ h => ⟨h.1, by first | exact h.2 | exact h.2.below⟩
theorem heap_setRow_other (w : World) (g k : Nat) (cs : Array Value) (h : k ≠ g) : (w.setRow g cs).heap[k]? = w.heap[k]? := by
  simp only [World.setRow, Array.getElem?_modify]
  rw [if_neg (by omega)]
theorem below_setRow {B : Nat} {a w : World} {g : Nat} (h : Below B a w) (hg : B ≤ g) (cs : Array Value) : Below B a (w.setRow g cs) :=
  h.trans ⟨rfl, rfl, rfl, by simp, fun k hk => heap_setRow_other w g k cs (by omega)⟩
set_option maxRecDepth 100000 in
set_option maxHeartbeats 8000000 in
theorem refHours31 (A : Option Addr) (c : Nat) (legs : List S101) (lossy : Bool) (sent : Nat) (w : World) (h : Kd.C k101 w A legs.length legs) (hc : legs.length ≤ c) (hok : ∀ l ∈ legs, LegOk (toL l) ∧ l.f1.length ≤ 100) (hl : legs.length ≤ 3) (s1 : sent ≤ 30) :
    Calls Try.prog 31 #[.agg #[.slice A legs.length c, .bool lossy], .int .i64 (sent : Int)] w fun e w' => e = .returned (.agg (rcells (setsOf (legs.map toL) (sent : Int)))) ∧ Below w.heap.size w w' := by
  have H := Aside0.mk h
  have HC := Aside0.mk hc
  have HOK := Aside0.mk hok
  clear h hc hok
  obtain ⟨W3, hW3⟩ : ∃ W3, W3 = ((w.alloc (.cells #[.slice A legs.length c, .bool lossy] 54)).alloc (.cells Try.zeroCells50 50)).alloc (.cells Try.zeroCells50 50) := ⟨_, rfl⟩
  have z1 := size_new_at (w := w) (o := .cells #[.slice A legs.length c, .bool lossy] 54) rfl
  have z2 := size_new_at (o := .cells Try.zeroCells50 50) z1
  have hb3 : Below w.heap.size w W3 := hW3 ▸ (((Below.refl _ w).alloc (by simp) _).alloc (by simp) _).alloc (by simp; omega) _
  have HX3 := Aside0.mk (show W3.heap[w.heap.size]? = some (.cells #[.slice A legs.length c, .bool lossy] 54 (0, 0)) from by rw [hW3]; exact blk_alloc (blk_alloc (blk_new _ _) _) _)
  have HR3 := Aside0.mk (show RSet W3 (w.heap.size + 1) (fun _ => false) from by rw [hW3, RSet, ← zero50]; exact blk_alloc (blk_new_at z1) _)
  have hn3 : RSet W3 (w.heap.size + 1 + 1) (fun _ => false) := by rw [hW3, RSet, ← zero50]; exact blk_new_at z2
  have s0 : W3.cell? ⟨w.heap.size + 1 + 1, sent, none⟩ = some (.bool false) := hn3.cell (by omega)
  have s1' := hn3.frozen sent
  have HS1 := Aside0.mk s1
  have hlt : (sent : Int) < 102 := by omega
  rw [hW3] at s0 s1'
  obtain ⟨W4, hW4⟩ : ∃ W4, W4 = ((w.alloc (.cells #[.slice A legs.length c, .bool lossy] 54)).alloc (.cells Try.zeroCells50 50)).alloc (.cells (Try.zeroCells50.setIfInBounds sent (.bool true)) 50) := ⟨_, rfl⟩
  have HB4 := Aside0.mk (show Below w.heap.size w W4 from hW4 ▸ (((Below.refl _ w).alloc (by simp) _).alloc (by simp) _).alloc (by simp; omega) _)
  have HX4 := Aside0.mk (show W4.heap[w.heap.size]? = some (.cells #[.slice A legs.length c, .bool lossy] 54 (0, 0)) from by rw [hW4]; exact blk_alloc (blk_alloc (blk_new _ _) _) _)
  have HR4 := Aside0.mk (show RSet W4 (w.heap.size + 1) (fun _ => false) from by rw [hW4, RSet, ← zero50]; exact blk_alloc (blk_new_at z1) _)
  have HN4' : Aside0 (RSet W4 (w.heap.size + 1 + 1) (setsFrom ((legs.map toL).take 0) (startSet (sent : Int)))) := ⟨by
    have e : W4.heap[w.heap.size + 1 + 1]? = some (.cells (Try.zeroCells50.setIfInBounds sent (.bool true)) 50 (0, 0)) := by rw [hW4]; exact blk_new_at z2
    unfold RSet
    rw [e, zero50, rcells_set _ (by omega)]
    congr 2⟩
  have HW4 := Aside0.mk hW4
  clear hW3 z1 z2 hb3 hn3 hW4 HX3 HR3
  go_enter Try.func31, Try.ntmps31
  go_wp2_with fail
  rw [← HW4.out]
  clear s0 s1' HW4
  go_loopg [6] legs.length (fun gg s6 wr => ∃ i : Nat, i ≤ legs.length ∧ legs.length - i ≤ gg ∧ s6 = .int .i64 i ∧ Aside0 (wr.heap[w.heap.size]? = some (.cells #[.slice A legs.length c, .bool lossy] 54 (0, 0))) ∧ Aside0 (RSet wr (w.heap.size + 1) (fun _ => false)) ∧
    Aside0 (RSet wr (w.heap.size + 1 + 1) (setsFrom ((legs.map toL).take i) (startSet (sent : Int)))) ∧ Aside0 (Below w.heap.size w wr))
  case atStart => exact ⟨0, by omega, by omega, rfl, HX4, HR4, HN4', HB4⟩
  case round =>
    obtain ⟨i, hi, hgi, rfl, HX, HR, HN, HB⟩ := hrel
    clear HX4 HR4 HN4' HB4
    obtain ⟨wm, rfl⟩ : ∃ wm : World, wm = wr := ⟨_, rfl⟩
    have x0 : wm.cell? ⟨w.heap.size, 0, none⟩ = some (.slice A legs.length c) := (blk_cell HX.out 0).trans rfl
    by_cases hlt : i < legs.length
    · have hltz : (i : Int) < (legs.length : Int) := by omega
      obtain ⟨ad, A5, c5, e5, d0, d1, d2, l5, g5⟩ := at_T101 H.out (i : Int) (by omega) hltz
      cases e5
      rw [Int.toNat_natCast] at d0 d1 d2
      have hx : rd_T101 legs (i : Int) = legs[i] := rdT101 hlt
      have hokl := HOK.out _ (List.getElem_mem hlt)
      rw [← hx] at hokl
      have HXL := Aside0.mk hx
      have D0 := Aside0.mk d0
      have D1 := Aside0.mk d1
      have D2 := Aside0.mk d2
      have G5 := Aside0.mk g5
      clear hx d0 d1 d2 g5
      generalize rd_T101 legs (i : Int) = lg at D0 D1 D2 l5 G5 hokl HXL
      obtain ⟨⟨lo, hi'⟩, asl⟩ := lg
      dsimp only at D0 D1 D2 l5 G5
      have LOK := Aside0.mk hokl.1
      have LAS := Aside0.mk hokl.2
      have b1 : 0 ≤ lo := hokl.1.lo
      have b2 : lo ≤ hi' := hokl.1.hi
      have b3 : hi' ≤ 6 := hokl.1.most
      clear hokl
      obtain ⟨gn, hgn⟩ : ∃ gn, gn = wm.heap.size := ⟨_, rfl⟩
      obtain ⟨W5, hW5⟩ : ∃ W5, W5 = wm.alloc (.cells Try.zeroCells50 50) := ⟨_, rfl⟩
      have hb5 : Below wm.heap.size wm W5 := hW5 ▸ (Below.refl _ wm).alloc (Nat.le_refl _) _
      have HX5 := Aside0.mk (blk_below HX.out hb5)
      have HR5 := Aside0.mk (HR.out.below hb5)
      have HN5 := Aside0.mk (HN.out.below hb5)
      have HB5 := Aside0.mk (below_then HB.out HB.out.size hb5)
      have HNX5 := Aside0.mk (show RSet W5 gn (fun _ => false) from by rw [hW5, hgn, RSet, ← zero50]; exact blk_new _ _)
      have HGN := Aside0.mk (show w.heap.size + 1 + 1 < gn from hgn ▸ (by have := blk_lt HN.out; omega))
      have HW5 := Aside0.mk hW5
      have HG5 := Aside0.mk hgn
      clear hb5 hW5 hgn
      go_wp2_with fail
      rw [← HW5.out, ← HG5.out]
      clear HW5 HG5 x0
      have HCU : Aside0 (Upto (setsFrom ((legs.map toL).take i) (startSet (sent : Int))) 48) := ⟨by
        have h1 := setsFrom_ok ((legs.map toL).take i) (startSet (sent : Int)) 0 (fun q hq => by
          obtain ⟨q', hq', rfl⟩ := List.mem_map.1 (List.mem_of_mem_take hq)
          exact (HOK.out q' hq').1) (fun z hz => by have := start_upto (s := (sent : Int)) (by omega) (by omega) z hz; omega) ⟨(sent : Int), by simp [startSet]⟩ (by rw [List.length_take, List.length_map]; omega)
        have hln : ((legs.map toL).take i).length ≤ 3 := by rw [List.length_take, List.length_map]; omega
        intro x hx
        have := h1.1 x hx
        omega⟩
      generalize hcur : setsFrom ((legs.map toL).take i) (startSet (sent : Int)) = cur at HN5 HCU
      have HCUR := Aside0.mk hcur
      clear hcur
      go_loopg [8] 91 (fun gg s8 wr => ∃ k : Nat, k ≤ 91 ∧ 91 - k ≤ gg ∧ s8 = .int .i64 k ∧ Aside0 (wr.heap[w.heap.size]? = some (.cells #[.slice (some ad) legs.length c, .bool lossy] 54 (0, 0))) ∧ Aside0 (RSet wr (w.heap.size + 1) (fun _ => false)) ∧
        Aside0 (RSet wr (w.heap.size + 1 + 1) cur) ∧ Aside0 (RSet wr gn (manyB (toL ⟨⟨lo, hi'⟩, asl⟩) (hoursOf cur k))) ∧ Aside0 (Below w.heap.size w wr))
      case atStart => exact ⟨0, by omega, by omega, rfl, HX5, HR5, HN5, HNX5, HB5⟩
      case round =>
        obtain ⟨k, hk, hgk, rfl, HXk, HRk, HNk, HNXk, HBk⟩ := hrel
        clear HX5 HR5 HN5 HNX5 HB5
        obtain ⟨wk, rfl⟩ : ∃ wk : World, wk = wr := ⟨_, rfl⟩
        by_cases hlk : k < 91
        · have hlkz : (k : Int) ≤ 90 := by omega
          obtain ⟨cnt, hcnt⟩ : ∃ cnt : Nat, (cnt : Int) = hi' - lo + 1 := ⟨(hi' - lo + 1).toNat, by omega⟩
          have HCNT := Aside0.mk hcnt
          have hc7 : cnt ≤ 7 := by omega
          clear hcnt
          have x0 : wk.cell? ⟨w.heap.size, 0, none⟩ = some (.slice (some ad) legs.length c) := (blk_cell HXk.out 0).trans rfl
          have y0 := (HBk.out.cell (World.block_lt_of_cell? w _ D0.out)).trans D0.out
          go_wp2_with fail
          clear x0 y0
          go_loopg [9] (cnt + 1) (fun gm s9 wr => ∃ m : Nat, m ≤ cnt ∧ cnt + 1 - m ≤ gm ∧ s9 = .int .i64 (lo + (m : Int)) ∧ Aside0 (m = 0 ∨ cur (k : Int) = true) ∧ Aside0 (wr.heap[w.heap.size]? = some (.cells #[.slice (some ad) legs.length c, .bool lossy] 54 (0, 0))) ∧ Aside0 (RSet wr (w.heap.size + 1) (fun _ => false)) ∧
            Aside0 (RSet wr (w.heap.size + 1 + 1) cur) ∧ Aside0 (RSet wr gn (fun y => manyB (toL ⟨⟨lo, hi'⟩, asl⟩) (hoursOf cur k) y || oneB (toL ⟨⟨lo, hi'⟩, asl⟩) (k : Int) m y)) ∧ Aside0 (Below w.heap.size w wr))
          case atStart => exact ⟨0, by omega, by omega, by simp, ⟨.inl rfl⟩, HXk, HRk, HNk, ⟨by
            have e := HNXk.out
            unfold RSet at e ⊢
            rw [e]
            congr 2
            apply rcells_congr
            intro y _
            simp [oneB]⟩, HBk⟩
          case round =>
            obtain ⟨m, hm, hgm, rfl, HMC, HXm, HRm, HNm, HNXm, HBm⟩ := hrel
            clear HXk HRk HNk HNXk HBk
            obtain ⟨wi, rfl⟩ : ∃ wi : World, wi = wr := ⟨_, rfl⟩
            have x0 : wi.cell? ⟨w.heap.size, 0, none⟩ = some (.slice (some ad) legs.length c) := (blk_cell HXm.out 0).trans rfl
            have y0 := (HBm.out.cell (World.block_lt_of_cell? w _ D0.out)).trans D0.out
            have y1 := (HBm.out.cell (World.block_lt_of_cell? w _ D1.out)).trans D1.out
            have y2 := (HBm.out.cell (World.block_lt_of_cell? w _ D2.out)).trans D2.out
            have hk102 : (k : Int) < 102 := by omega
            have n0 : wi.cell? ⟨w.heap.size + 1 + 1, k, none⟩ = some (.bool (cur (k : Int))) := HNm.out.cell (by omega)
            have NEXT : Aside0 (m = cnt ∨ cur (k : Int) = false → RSet wi gn (manyB (toL ⟨⟨lo, hi'⟩, asl⟩) (hoursOf cur (k + 1)))) := ⟨fun hmc => by
              have e := HNXm.out
              unfold RSet at e ⊢
              rw [e]
              congr 2
              apply rcells_congr
              intro y _
              cases hck : cur (k : Int) with
              | true =>
                have hmm : m = cnt := by
                  rcases hmc with h | h
                  · exact h
                  · rw [hck] at h; cases h
                rw [hoursOf_yes hck, manyB_snoc, hmm]
                have : ((toL ⟨⟨lo, hi'⟩, asl⟩).f0.f1 - (toL ⟨⟨lo, hi'⟩, asl⟩).f0.f0 + 1).toNat = cnt := by
                  have := HCNT.out
                  show (hi' - lo + 1).toNat = cnt
                  omega
                rw [this]
              | false =>
                have hmm : m = 0 := by
                  rcases HMC.out with h | h
                  · exact h
                  · rw [hck] at h; cases h
                rw [hoursOf_no hck, hmm]
                simp [oneB]⟩
            by_cases hmc : m < cnt
            · have hle : lo + (m : Int) ≤ hi' := by have := HCNT.out; omega
              cases hck : cur (k : Int) with
              | false =>
                have HCK := Aside0.mk hck
                rw [hck] at n0
                clear hck
                have HNXT := Aside0.mk (NEXT.out (.inr HCK.out))
                go_wp2_with fail
                go_roundg (91 - (k + 1))
                case measure => omega
                case rel => exact ⟨k + 1, by omega, by omega, by go_num, HXm, HRm, HNm, HNXT, HBm⟩
              | true =>
                have HCK := Aside0.mk hck
                rw [hck] at n0
                have hkc := HCU.out (k : Int) hck
                clear hck
                have ha := awake_upto LOK.out (h := (k : Int)) (B := 48) hkc.1 hkc.2 (by omega) (n := m) (by have := HCNT.out; show (m : Int) ≤ hi' - lo; omega)
                have ha' : 0 ≤ awakeL (toL ⟨⟨lo, hi'⟩, asl⟩) ((k : Int) + (lo + (m : Int))) ∧ awakeL (toL ⟨⟨lo, hi'⟩, asl⟩) ((k : Int) + (lo + (m : Int))) ≤ 54 := by
                  rw [show (k : Int) + (lo + (m : Int)) = (k : Int) + lo + (m : Int) by omega]; exact ha
                obtain ⟨av, hav⟩ : ∃ av : Nat, (av : Int) = awakeL (toL ⟨⟨lo, hi'⟩, asl⟩) ((k : Int) + (lo + (m : Int))) := ⟨_, Int.toNat_of_nonneg ha'.1⟩
                have hav54 : av ≤ 54 := by omega
                have HAV := Aside0.mk hav
                have HAW : Aside0 (∀ w', Below w.heap.size w w' → Calls Try.prog 80 #[.agg #[.int .i64 lo, .int .i64 hi', .slice A5 asl.length c5], .int .i64 ((k : Int) + (lo + (m : Int)))] w' fun e w'' => e = .returned (.int .i64 (av : Int)) ∧ Below w'.heap.size w' w'') := ⟨fun w' hb => by
                  rw [hav]
                  exact refAwake80 ⟨⟨lo, hi'⟩, asl⟩ A5 c5 w' (Kd.C_below G5.out hb) l5 LOK.out.wk LAS.out _ (by omega) (by omega)⟩
                clear ha ha' hav hkc
                go_wp2_with fail
                refine (HAW.out _ HBm.out).mono ?_
                rintro e w7 ⟨rfl, hb⟩
                have HX7 := Aside0.mk (blk_below HXm.out hb)
                have HR7 := Aside0.mk (HRm.out.below hb)
                have HN7 := Aside0.mk (HNm.out.below hb)
                have HNX7 := Aside0.mk (HNXm.out.below hb)
                have HB7 := Aside0.mk (below_then HBm.out HBm.out.size hb)
                clear hb x0 y0 y1 y2 n0
                have t0 := HNX7.out.cell (j := av) (by omega)
                have t1 := HNX7.out.frozen av
                have hav102 : (av : Int) < 102 := by omega
                generalize (manyB (toL ⟨⟨lo, hi'⟩, asl⟩) (hoursOf cur k) (av : Int) || oneB (toL ⟨⟨lo, hi'⟩, asl⟩) (k : Int) m (av : Int)) = tv at t0
                go_wp2_with fail
                clear t0 t1
                go_roundg (cnt + 1 - (m + 1))
                case measure => omega
                case rel =>
                  refine ⟨m + 1, by omega, by omega, by go_num, ⟨.inr HCK.out⟩, ⟨blk_far HX7.out (p := ⟨gn, av, none⟩) (by have := HGN.out; simp; omega) _⟩, ⟨HR7.out.far (p := ⟨gn, av, none⟩) (by have := HGN.out; simp; omega) _⟩, ⟨HN7.out.far (p := ⟨gn, av, none⟩) (by have := HGN.out; simp; omega) _⟩, ⟨?_⟩, ⟨HB7.out.setCell (p := ⟨gn, av, none⟩) (by have := HGN.out; simp; omega) _⟩⟩
                  have e := HNX7.out.set (j := av) (by omega)
                  unfold RSet at e ⊢
                  rw [e]
                  congr 2
                  apply rcells_congr
                  intro y _
                  rw [oneB_succ, HAV.out, show (k : Int) + (lo + (m : Int)) = (k : Int) + lo + (m : Int) by omega, Bool.or_assoc]
                  rfl
            · have hle : ¬ lo + (m : Int) ≤ hi' := by have := HCNT.out; omega
              have HNXT := Aside0.mk (NEXT.out (.inl (by omega)))
              go_wp2_with fail
              go_roundg (91 - (k + 1))
              case measure => omega
              case rel => exact ⟨k + 1, by omega, by omega, by go_num, HXm, HRm, HNm, HNXT, HBm⟩
        · have hlkz : ¬ (k : Int) ≤ 90 := by omega
          have hkk : k = 91 := by omega
          have HNF : Aside0 (RSet wk gn (setsFrom ((legs.map toL).take (i + 1)) (startSet (sent : Int)))) := ⟨by
            have e := HNXk.out
            rw [hkk] at e
            unfold RSet at e ⊢
            rw [e]
            congr 2
            apply rcells_congr
            intro y _
            rw [List.take_succ_eq_append_getElem (show i < (legs.map toL).length by rw [List.length_map]; exact hlt), setsFrom_snoc, HCUR.out, List.getElem_map, ← HXL.out]
            show manyB _ (hoursOf cur 91) (y : Int) = manyB _ (hoursOf cur 101) (y : Int)
            congr 1
            have key : ∀ d : Nat, d ≤ 10 → hoursOf cur (91 + d) = hoursOf cur 91 := by
              intro d
              induction d with
              | zero => intro _; rfl
              | succ d ih =>
                intro hd
                have hf : cur ((91 + d : Nat) : Int) = false := by
                  cases hq : cur ((91 + d : Nat) : Int) with
                  | false => rfl
                  | true => have := HCU.out _ hq; omega
                rw [show 91 + (d + 1) = (91 + d) + 1 from rfl, hoursOf_no hf, ih (by omega)]
            exact (key 10 (by omega)).symm⟩
          clear hkk
          go_wp2_with (first
            | (refine wpList_load_row rfl 50 _ rfl gn rfl 50 _ (0, 0) _ HNF.out Try.underlying50 rfl (by rw [rcells_size]; exact info50s) ?_)
            | (refine wpList_store_row rfl 50 _ _ rfl (w.heap.size + 1 + 1) (rcells (setsFrom ((legs.map toL).take (i + 1)) (startSet (sent : Int)))) rfl rfl 50 _ HNk.out (by rw [rcells_size]; exact info50s) (by rw [rcells_size, rcells_size]) (rcells_one _) ?_))
          go_roundg (legs.length - (i + 1))
          case measure => omega
          case rel => exact ⟨i + 1, by omega, by omega, by go_num, ⟨(heap_setRow_other _ _ _ _ (by omega)).trans HXk.out⟩, ⟨(heap_setRow_other _ _ _ _ (by omega)).trans HRk.out⟩, ⟨setRow_heap _ _ _ _ _ _ HNk.out⟩, ⟨below_setRow HBk.out (by omega) _⟩⟩
    · have hltz : ¬ (i : Int) < (legs.length : Int) := by omega
      have hii : i = legs.length := by omega
      have HF : Aside0 (RSet wm (w.heap.size + 1 + 1) (setsOf (legs.map toL) (sent : Int))) := ⟨by
        have e := HN.out
        rw [hii, List.take_of_length_le (by simp)] at e
        exact e⟩
      clear hii
      go_wp2_with (first
        | (refine wpList_load_row rfl 50 _ rfl (w.heap.size + 1 + 1) rfl 50 _ (0, 0) _ HF.out Try.underlying50 rfl (by rw [rcells_size]; exact info50s) ?_)
        | (refine wpList_store_row rfl 50 _ _ rfl (w.heap.size + 1) (rcells (setsOf (legs.map toL) (sent : Int))) rfl rfl 50 _ HR.out (by rw [rcells_size]; exact info50s) (by rw [rcells_size, rcells_size]) (rcells_one _) ?_))
      refine bodyPost_ret (results_cell_row rfl _ _ (w.heap.size + 1) 50 (rcells (setsOf (legs.map toL) (sent : Int))) (0, 0) _ rfl (setRow_heap _ _ _ _ _ _ HR.out) Try.underlying50 rfl (by rw [rcells_size]; exact info50s)) rfl ⟨rfl, below_setRow HB.out (by omega) _⟩
end Go.Proofs.Ytiephlhohgohcaa.PAll
namespace Go.Proofs.Ytiephlhohgohcaa.PAll
open Go.RowKit Go.Proofs.YtiephlhohgohcaaW.PrintWords Go.Proofs.YtiephlhohgohcaaW.PrintLast Go.Proofs.YtiephlhohgohcaaW.PrintMore
attribute [local go_sem] max2_int min2_int max_two min_two max_three min_three max_four min_four
set_option linter.unusedVariables false
set_option linter.unusedSimpArgs false
theorem rcells_put (f : Int → Bool) {j : Nat} (hj : j < 102) (v : Bool) : (rcells f).setIfInBounds j (.bool v) = rcells (fun x => if x = (j : Int) then v else f x) := by
  apply Array.ext
  · simp [rcells_size]
  · intro i h1 h2
    rw [rcells_size] at h2
    rw [Array.getElem_setIfInBounds (by rw [rcells_size]; exact h2)]
    simp only [rcells, List.getElem_toArray, List.getElem_map, List.getElem_range]
    by_cases e : j = i
    · subst e; simp
    · rw [if_neg e, if_neg (by omega)]
theorem RSet.put {W : World} {b : Nat} {f : Int → Bool} (h : RSet W b f) {j : Nat} (hj : j < 102) (v : Bool) : RSet (W.setCell ⟨b, j, none⟩ (.bool v)) b (fun x => if x = (j : Int) then v else f x) := by
  have := blk_set h j (.bool v)
  rw [rcells_put f hj v] at this
  exact this
theorem RSet.congr {W : World} {b : Nat} {f g : Int → Bool} (h : RSet W b f) (hfg : ∀ j : Nat, j < 102 → f (j : Int) = g (j : Int)) : RSet W b g := by
  unfold RSet at h ⊢
  rw [h, rcells_congr hfg]
theorem BoxAt.far {w W : World} {A0 : Option Addr} {c0 n0 : Nat} {A1 : Option Addr} {c1 n1 : Nat} {pat : Int} (h : BoxAt w W A0 c0 n0 A1 c1 n1 pat) {p : Addr} (hp : w.heap.size < p.block) (u : Value) : BoxAt w (W.setCell p u) A0 c0 n0 A1 c1 n1 pat :=
  ⟨h.below.setCell (by omega) u, blk_far h.box (by omega) u⟩
theorem BoxAt.row {w W : World} {A0 : Option Addr} {c0 n0 : Nat} {A1 : Option Addr} {c1 n1 : Nat} {pat : Int} (h : BoxAt w W A0 c0 n0 A1 c1 n1 pat) {g : Nat} (hg : w.heap.size < g) (cs : Array Value) : BoxAt w (W.setRow g cs) A0 c0 n0 A1 c1 n1 pat :=
  ⟨below_setRow h.below (by omega) cs, (heap_setRow_other W g _ cs (by omega)).trans h.box⟩
theorem RSet.row {W : World} {b : Nat} {f : Int → Bool} (h : RSet W b f) {g : Nat} (hg : b ≠ g) (cs : Array Value) : RSet (W.setRow g cs) b f := (heap_setRow_other W g b cs hg).trans h
set_option maxRecDepth 100000 in
set_option maxHeartbeats 8000000 in
theorem comings85 (A0 : Option Addr) (c0 : Nat) (sends : List Int) (A1 : Option Addr) (c1 : Nat) (routes : List S54) (pat : Int) (rs : List S122) (w : World) (hrs : rs = routes.map toX) (h : PostAt w A0 c0 sends A1 c1 routes) (V : Valid sends rs pat) (ni : Nat) (hni : ni < sends.length) :
    Calls Try.prog 85 #[.agg #[.slice A0 sends.length c0, .slice A1 routes.length c1, .int .i64 pat], .int .i64 (ni : Int)] w fun e w' => e = .returned (.agg (rcells (comL rs sends[ni]))) ∧ Below w.heap.size w w' := by
  have HRS := Aside0.mk hrs
  have HP := Aside0.mk h
  have VV := Aside0.mk V
  have hrn : routes.length ≤ 3 := by have := V.rn; rw [hrs, List.length_map] at this; exact this
  have hrl : rs.length = routes.length := by rw [hrs, List.length_map]
  have HRL := Aside0.mk hrl
  obtain ⟨ads, es, ds⟩ := Kd.at_int h.h0 (ni : Int) (by omega) (by omega)
  cases es
  rw [Int.toNat_natCast, rdI hni] at ds
  have hms := List.getElem_mem hni
  obtain ⟨sn, hsn⟩ : ∃ sn : Nat, sends[ni] = (sn : Int) := ⟨sends[ni].toNat, by have := V.s0 _ hms; omega⟩
  have hsn30 : sn ≤ 30 := by have := V.s0 _ hms; omega
  rw [hsn] at ds
  have DS := Aside0.mk ds
  have HSO : Aside0 (SetsOk rs (sn : Int)) := ⟨by rw [← hsn]; exact V.setsOk hms⟩
  rw [hsn]
  have hnz : (ni : Int) < (sends.length : Int) := by omega
  clear h V hrl ds hms hsn hrs
  obtain ⟨W4, hW4⟩ : ∃ W4, W4 = ((w.alloc (.cells #[.slice (some ads) sends.length c0, .slice A1 routes.length c1, .int .i64 pat] 25)).alloc (.cells Try.zeroCells50 50)).alloc (.cells (Try.zeroCells50.setIfInBounds 101 (.bool true)) 50) := ⟨_, rfl⟩
  have z1 := size_new_at (w := w) (o := .cells #[.slice (some ads) sends.length c0, .slice A1 routes.length c1, .int .i64 pat] 25) rfl
  have z2 := size_new_at (o := .cells Try.zeroCells50 50) z1
  have HX4 : Aside0 (BoxAt w W4 (some ads) c0 sends.length A1 c1 routes.length pat) := ⟨⟨hW4 ▸ (((Below.refl _ w).alloc (by simp) _).alloc (by simp) _).alloc (by simp; omega) _, by rw [hW4]; exact blk_alloc (blk_alloc (blk_new _ _) _) _⟩⟩
  have HR4 := Aside0.mk (show RSet W4 (w.heap.size + 1) (fun _ => false) from by rw [hW4, RSet, ← zero50]; exact blk_alloc (blk_new_at z1) _)
  have HN4 : Aside0 (RSet W4 (w.heap.size + 1 + 1) (comF (sn : Int) (rs.take 0) nev)) := ⟨by
    have e : W4.heap[w.heap.size + 1 + 1]? = some (.cells (Try.zeroCells50.setIfInBounds 101 (.bool true)) 50 (0, 0)) := by rw [hW4]; exact blk_new_at z2
    rw [zero50, rcells_put _ (by omega)] at e
    refine RSet.congr e (fun j hj => ?_)
    rw [List.take_zero, comF, nev]
    by_cases h : (j : Int) = 101 <;> simp [h]⟩
  have s0 : (((w.alloc (.cells #[.slice (some ads) sends.length c0, .slice A1 routes.length c1, .int .i64 pat] 25)).alloc (.cells Try.zeroCells50 50)).alloc (.cells Try.zeroCells50 50)).cell? ⟨w.heap.size + 1 + 1, 101, none⟩ = some (.bool false) := by
    have e := blk_new_at (o := .cells Try.zeroCells50 50) z2
    rw [blk_cell e, zero50]
    exact rcells_at _ (by omega)
  have s1 : (((w.alloc (.cells #[.slice (some ads) sends.length c0, .slice A1 routes.length c1, .int .i64 pat] 25)).alloc (.cells Try.zeroCells50 50)).alloc (.cells Try.zeroCells50 50)).frozen? ⟨w.heap.size + 1 + 1, 101, none⟩ = false := blk_frozen (blk_new_at z2) 101
  have HW4 := Aside0.mk hW4
  clear z1 z2 hW4
  go_enter Try.func85, Try.ntmps85
  go_wp2_with fail
  rw [← HW4.out]
  clear s0 s1 HW4
  go_loopg [6] routes.length (fun gg s6 wr => ∃ j : Nat, j ≤ routes.length ∧ routes.length - j ≤ gg ∧ s6 = .int .i64 j ∧ Aside0 (BoxAt w wr (some ads) c0 sends.length A1 c1 routes.length pat) ∧ Aside0 (RSet wr (w.heap.size + 1) (fun _ => false)) ∧ Aside0 (RSet wr (w.heap.size + 1 + 1) (comF (sn : Int) (rs.take j) nev)))
  case atStart => exact ⟨0, by omega, by omega, rfl, HX4, HR4, HN4⟩
  case round =>
    obtain ⟨j, hj, hgj, rfl, HX, HR, HN⟩ := hrel
    clear HX4 HR4 HN4
    obtain ⟨wm, rfl⟩ : ∃ wm : World, wm = wr := ⟨_, rfl⟩
    by_cases hlt : j < routes.length
    · have hltz : (j : Int) < (routes.length : Int) := by omega
      obtain ⟨adr, A7, c7, er, dr0, dr1, l7, g7⟩ := at_T54 HP.out.h1 (j : Int) (by omega) hltz
      cases er
      rw [Int.toNat_natCast] at dr0 dr1
      rw [rdT54 hlt] at dr0 dr1 l7 g7
      have hmr := List.getElem_mem hlt
      have HLG : Aside0 ((∀ l ∈ routes[j].f0, LegOk (toL l) ∧ l.f1.length ≤ 100) ∧ routes[j].f0.length ≤ 3) := ⟨by
        have hv := VV.out
        rw [HRS.out] at hv
        exact ⟨fun l hl => ⟨hv.leg (List.mem_map_of_mem hmr) (List.mem_map_of_mem hl), (wakes_of hv hmr hl).2⟩, (legs_of hv hmr).2⟩⟩
      have HTK : Aside0 (comF (sn : Int) (rs.take (j + 1)) nev = manyC (comF (sn : Int) (rs.take j) nev) (byR (toX routes[j]) (sn : Int)) 102) := ⟨by
        have hj' : j < rs.length := by rw [HRL.out]; exact hlt
        rw [List.take_succ_eq_append_getElem hj', comF_snoc]
        congr 2
        simp only [HRS.out, List.getElem_map]⟩
      clear hmr
      generalize routes[j] = rt at dr0 dr1 l7 g7 HLG HTK
      obtain ⟨legs, lossy⟩ := rt
      dsimp only at dr0 dr1 l7 g7 HLG
      have HREF : Aside0 (∀ w', Below wm.heap.size wm w' → Calls Try.prog 31 #[.agg #[.slice A7 legs.length c7, .bool lossy], .int .i64 (sn : Int)] w' fun e w'' => e = .returned (.agg (rcells (setsOf (legs.map toL) (sn : Int)))) ∧ Below w'.heap.size w' w'') := ⟨fun w' hb =>
        refHours31 A7 c7 legs lossy sn w' (Kd.C_below g7 (below_then HX.out.below HX.out.below.size hb)) l7 HLG.out.1 HLG.out.2 hsn30⟩
      have HBY : Aside0 (byR (toX ⟨legs, lossy⟩) (sn : Int) = fun x => if x = 101 then lossy else setsOf (legs.map toL) (sn : Int) x) := ⟨rfl⟩
      generalize byR (toX ⟨legs, lossy⟩) (sn : Int) = by' at HTK HBY
      generalize setsOf (legs.map toL) (sn : Int) = set at HREF HBY
      generalize comF (sn : Int) (rs.take j) nev = now at HN HTK
      have DR1 := Aside0.mk dr1
      clear g7 l7 HLG
      have x0 := HX.out.x0
      have x1 := HX.out.x1
      have y0 := (HX.out.below.cell (World.block_lt_of_cell? w _ DS.out)).trans DS.out
      have y1 := (HX.out.below.cell (World.block_lt_of_cell? w _ dr0)).trans dr0
      have y2 := (HX.out.below.cell (World.block_lt_of_cell? w _ dr1)).trans dr1
      clear dr0 dr1
      have KEEP : Aside0 (∀ w' : World, Below wm.heap.size wm w' → (w'.cell? ⟨w.heap.size, 0, none⟩ = some (.slice (some ads) sends.length c0) ∧ w'.cell? ⟨w.heap.size, 1, none⟩ = some (.slice (some adr) routes.length c1) ∧ w'.cell? (ads.add ni) = some (.int .i64 (sn : Int)) ∧ w'.cell? (adr.add (j * 2)) = some (.slice A7 legs.length c7) ∧ w'.cell? ⟨(adr.add (j * 2)).block, (adr.add (j * 2)).off + 1, none⟩ = some (.bool lossy))) :=
        ⟨fun w' hb => ⟨pw_cell_below hb x0, pw_cell_below hb x1, pw_cell_below hb y0, pw_cell_below hb y1, pw_cell_below hb y2⟩⟩
      go_wp2_with fail
      refine start_ (n := 13) (S := fun w' => w'.cell? ⟨w.heap.size, 0, none⟩ = some (.slice (some ads) sends.length c0) ∧ w'.cell? ⟨w.heap.size, 1, none⟩ = some (.slice (some adr) routes.length c1) ∧ w'.cell? (ads.add ni) = some (.int .i64 (sn : Int)) ∧ w'.cell? (adr.add (j * 2)) = some (.slice A7 legs.length c7) ∧ w'.cell? ⟨(adr.add (j * 2)).block, (adr.add (j * 2)).off + 1, none⟩ = some (.bool lossy)) (ds := [12]) #[false, false, false, false, false, false, false, false, false, false, false, false, false] (by kernel_rfl) rfl rfl ⟨x0, x1, y0, y1, y2⟩ (fun hHeld => ?_)
      have hq0 : Aside0 (Below wm.heap.size wm wm.drew) := ⟨below_drew (Below.refl _ _)⟩
      refine pure_ (i := 0) (N := (some 19)) (v := ?_) (a' := ?_) #[true, false, false, false, false, false, false, false, false, false, false, false, false] rfl rfl (by kernel_rfl) (fun _ _ _ h => h) (Or.inl ⟨by rfl, ?_⟩) ?_ ?_
      rotate_left
      · intro w'
        go_simp
        with_reducible rfl
      rotate_left
      · simp only [Act.put, List.setIfInBounds_toArray, List.set_cons_zero, List.set_cons_succ, i64_w, i32_w]
        rfl
      refine take_ (i := 1) (N := (some 20)) (v := ?_) (a' := ?_) #[true, true, false, false, false, false, false, false, false, false, false, false, false] rfl rfl (by kernel_rfl) (fun _ _ _ h => h) (Or.inl ⟨by rfl, ?_⟩) hHeld ?_ ?_
      rotate_left
      · rintro w' ⟨s0, s1, s2, s3, s4⟩
        go_simp
        with_reducible rfl
      rotate_left
      · simp only [Act.put, List.setIfInBounds_toArray, List.set_cons_zero, List.set_cons_succ, i64_w, i32_w]
        rfl
      refine pure_ (i := 2) (N := (some 21)) (v := ?_) (a' := ?_) #[true, true, true, false, false, false, false, false, false, false, false, false, false] rfl rfl (by kernel_rfl) (fun _ _ _ h => h) (Or.inl ⟨by rfl, ?_⟩) ?_ ?_
      rotate_left
      · intro w'
        go_simp
        with_reducible rfl
      rotate_left
      · simp only [Act.put, List.setIfInBounds_toArray, List.set_cons_zero, List.set_cons_succ, i64_w, i32_w]
        rfl
      refine pure_ (i := 3) (N := (some 22)) (v := ?_) (a' := ?_) #[true, true, true, true, false, false, false, false, false, false, false, false, false] rfl rfl (by kernel_rfl) (fun _ _ _ h => h) (Or.inl ⟨by rfl, ?_⟩) ?_ ?_
      rotate_left
      · intro w'
        go_simp
        with_reducible rfl
      rotate_left
      · simp only [Act.put, List.setIfInBounds_toArray, List.set_cons_zero, List.set_cons_succ, i64_w, i32_w]
        rfl
      refine take_ (i := 4) (N := (some 23)) (v := ?_) (a' := ?_) #[true, true, true, true, true, false, false, false, false, false, false, false, false] rfl rfl (by kernel_rfl) (fun _ _ _ h => h) (Or.inl ⟨by rfl, ?_⟩) hHeld ?_ ?_
      rotate_left
      · rintro w' ⟨s0, s1, s2, s3, s4⟩
        go_simp
        with_reducible rfl
      rotate_left
      · simp only [Act.put, List.setIfInBounds_toArray, List.set_cons_zero, List.set_cons_succ, i64_w, i32_w]
        rfl
      refine pure_ (i := 5) (N := (some 24)) (v := ?_) (a' := ?_) #[true, true, true, true, true, true, false, false, false, false, false, false, false] rfl rfl (by kernel_rfl) (fun _ _ _ h => h) (Or.inl ⟨by rfl, ?_⟩) ?_ ?_
      rotate_left
      · intro w'
        go_simp
        with_reducible rfl
      rotate_left
      · simp only [Act.put, List.setIfInBounds_toArray, List.set_cons_zero, List.set_cons_succ, i64_w, i32_w]
        rfl
      refine take_ (i := 6) (N := (some 25)) (v := ?_) (a' := ?_) #[true, true, true, true, true, true, true, false, false, false, false, false, false] rfl rfl (by kernel_rfl) (fun _ _ _ h => h) (Or.inl ⟨by rfl, ?_⟩) hHeld ?_ ?_
      rotate_left
      · rintro w' ⟨s0, s1, s2, s3, s4⟩
        go_simp
        with_reducible rfl
      rotate_left
      · simp only [Act.put, List.setIfInBounds_toArray, List.set_cons_zero, List.set_cons_succ, i64_w, i32_w]
        rfl
      refine pure_ (i := 7) (N := (some 26)) (v := ?_) (a' := ?_) #[true, true, true, true, true, true, true, true, false, false, false, false, false] rfl rfl (by kernel_rfl) (fun _ _ _ h => h) (Or.inl ⟨by rfl, ?_⟩) ?_ ?_
      rotate_left
      · intro w'
        go_simp
        with_reducible rfl
      rotate_left
      · simp only [Act.put, List.setIfInBounds_toArray, List.set_cons_zero, List.set_cons_succ, i64_w, i32_w]
        rfl
      refine pure_ (i := 8) (N := (some 27)) (v := ?_) (a' := ?_) #[true, true, true, true, true, true, true, true, true, false, false, false, false] rfl rfl (by kernel_rfl) (fun _ _ _ h => h) (Or.inl ⟨by rfl, ?_⟩) ?_ ?_
      rotate_left
      · intro w'
        go_simp
        with_reducible rfl
      rotate_left
      · simp only [Act.put, List.setIfInBounds_toArray, List.set_cons_zero, List.set_cons_succ, i64_w, i32_w]
        rfl
      refine take_ (i := 9) (N := (some 28)) (v := ?_) (a' := ?_) #[true, true, true, true, true, true, true, true, true, true, false, false, false] rfl rfl (by kernel_rfl) (fun _ _ _ h => h) (Or.inl ⟨by rfl, ?_⟩) hHeld ?_ ?_
      rotate_left
      · rintro w' ⟨s0, s1, s2, s3, s4⟩
        go_simp
        with_reducible rfl
      rotate_left
      · simp only [Act.put, List.setIfInBounds_toArray, List.set_cons_zero, List.set_cons_succ, i64_w, i32_w]
        rfl
      refine join_ (σ := Nat) 1 #[true, true, true, true, true, true, true, true, true, true, true, true, false] (fun s_ => [(29, .agg (rcells set)), (7, .pointer (some ⟨s_, 0, none⟩))]) (fun s_ w' => (w'.cell? ⟨w.heap.size, 0, none⟩ = some (.slice (some ads) sends.length c0) ∧ w'.cell? ⟨w.heap.size, 1, none⟩ = some (.slice (some adr) routes.length c1) ∧ w'.cell? (ads.add ni) = some (.int .i64 (sn : Int)) ∧ w'.cell? (adr.add (j * 2)) = some (.slice A7 legs.length c7) ∧ w'.cell? ⟨(adr.add (j * 2)).block, (adr.add (j * 2)).off + 1, none⟩ = some (.bool lossy)) ∧ RSet w' s_ (fun _ => false) ∧ wm.heap.size ≤ s_ ∧ Below wm.heap.size wm w') ?_ ?_
      rotate_left
      · intro hCont
        refine two_ (i := 10) (j := 11) (Ni := (some 29)) (Nj := (some 7)) #[true, true, true, true, true, true, true, true, true, true, true, false, false] #[true, true, true, true, true, true, true, true, true, true, false, true, false] rfl rfl rfl rfl (by kernel_rfl) (by decide) (by decide) (fun K hK => ?_) (fun K hK => ?_)
        · refine goes_ Try.func31 (by kernel_rfl) rfl #[.agg #[.slice A7 legs.length c7, .bool lossy], .int .i64 (sn : Int)] (by rfl) rfl rfl (by (try simp only [List.map_toArray, List.map_cons, List.map_nil]); first | done | rfl) ?_
          refine (HREF.out wm.drew hq0.out).mono ?_
          rintro e w9 ⟨rfl, hb9⟩
          refine ⟨_, rfl, ?_⟩
          have hq4 := Aside0.mk (below_then hq0.out hq0.out.size hb9)
          have hb9' := Aside0.mk hb9
          clear hb9
          refine hK.out _ _ (KEEP.out _ hq4.out) (fun hHeld => ?_)
          clear hK K
          refine norm_ (a' := ?_) ?_ ?_
          rotate_left
          · show Act.put _ (some 29) _ = _
            simp only [Act.put, List.setIfInBounds_toArray, List.set_cons_zero, List.set_cons_succ, i64_w, i32_w]
            rfl
          refine one_ (i := 11) (N := (some 7)) #[true, true, true, true, true, true, true, true, true, true, true, true, false] rfl rfl (by kernel_rfl) (by decide) (fun K hK => ?_)
          have hq5 : Aside0 (Below wm.heap.size wm ((w9).alloc (.cells Try.zeroCells50 50))) := ⟨hq4.out.alloc hq4.out.size _⟩
          have hz5 : Aside0 (RSet ((w9).alloc (.cells Try.zeroCells50 50)) (w9).heap.size (fun _ => false)) := ⟨by rw [RSet, ← zero50]; exact blk_new _ _⟩
          refine value_ (v := .pointer (some ⟨(w9).heap.size, 0, none⟩)) (w1 := (w9).alloc (.cells Try.zeroCells50 50)) (by rfl) rfl (by go_simp; done) ?_
          refine hK.out _ _ (KEEP.out _ hq5.out) (fun hHeld => ?_)
          clear hK K
          refine norm_ (a' := ?_) ?_ ?_
          rotate_left
          · show Act.put _ (some 7) _ = _
            simp only [Act.put, List.setIfInBounds_toArray, List.set_cons_zero, List.set_cons_succ, i64_w, i32_w]
            rfl
          exact norm_ (by simp only [putAll, Act.put, List.setIfInBounds_toArray, List.set_cons_zero, List.set_cons_succ]) (hCont w9.heap.size _ ⟨hHeld, hz5.out, hq4.out.size, hq5.out⟩)
        · have hq5 : Aside0 (Below wm.heap.size wm ((wm.drew).alloc (.cells Try.zeroCells50 50))) := ⟨hq0.out.alloc hq0.out.size _⟩
          have hz5 : Aside0 (RSet ((wm.drew).alloc (.cells Try.zeroCells50 50)) (wm.drew).heap.size (fun _ => false)) := ⟨by rw [RSet, ← zero50]; exact blk_new _ _⟩
          refine value_ (v := .pointer (some ⟨(wm.drew).heap.size, 0, none⟩)) (w1 := (wm.drew).alloc (.cells Try.zeroCells50 50)) (by rfl) rfl (by go_simp; done) ?_
          refine hK.out _ _ (KEEP.out _ hq5.out) (fun hHeld => ?_)
          clear hK K
          refine norm_ (a' := ?_) ?_ ?_
          rotate_left
          · show Act.put _ (some 7) _ = _
            simp only [Act.put, List.setIfInBounds_toArray, List.set_cons_zero, List.set_cons_succ, i64_w, i32_w]
            rfl
          refine one_ (i := 10) (N := (some 29)) #[true, true, true, true, true, true, true, true, true, true, true, true, false] rfl rfl (by kernel_rfl) (by decide) (fun K hK => ?_)
          refine goes_ Try.func31 (by kernel_rfl) rfl #[.agg #[.slice A7 legs.length c7, .bool lossy], .int .i64 (sn : Int)] (by rfl) rfl rfl (by (try simp only [List.map_toArray, List.map_cons, List.map_nil]); first | done | rfl) ?_
          refine (HREF.out ((wm.drew).alloc (.cells Try.zeroCells50 50)) hq5.out).mono ?_
          rintro e w9 ⟨rfl, hb9⟩
          refine ⟨_, rfl, ?_⟩
          have hq4 := Aside0.mk (below_then hq5.out hq5.out.size hb9)
          have hb9' := Aside0.mk hb9
          clear hb9
          refine hK.out _ _ (KEEP.out _ hq4.out) (fun hHeld => ?_)
          clear hK K
          refine norm_ (a' := ?_) ?_ ?_
          rotate_left
          · show Act.put _ (some 29) _ = _
            simp only [Act.put, List.setIfInBounds_toArray, List.set_cons_zero, List.set_cons_succ, i64_w, i32_w]
            rfl
          exact norm_ (by simp only [putAll, Act.put, List.setIfInBounds_toArray, List.set_cons_zero, List.set_cons_succ]) (hCont (wm.drew).heap.size _ ⟨hHeld, hz5.out.below hb9'.out, hq0.out.size, hq4.out⟩)
      intro gs w9 hF
      obtain ⟨hHeld, hz, hgs, hb9⟩ := hF
      have HZ9 := Aside0.mk hz
      have HGS := Aside0.mk hgs
      have hq9 := Aside0.mk hb9
      clear hz hgs hb9
      refine norm_ (a' := ?_) ?_ ?_
      rotate_left
      · simp only [putAll, Act.put, List.setIfInBounds_toArray, List.set_cons_zero, List.set_cons_succ]
        rfl
      refine last_ (i := 12) (N := none) #[true, true, true, true, true, true, true, true, true, true, true, true, true] rfl rfl (by kernel_rfl) (by decide) (fun K hK => ?_)
      rw [if_pos (by rfl)]
      refine wp_store_row 50 _ _ rfl gs (rcells set) rfl rfl 50 _ HZ9.out (by rw [rcells_size]; exact info50s) (by rw [rcells_size, rcells_size]) (rcells_one _) ?_
      refine hK.out _ _ ?_
      clear hK K hHeld
      refine done_ (by kernel_rfl) ?_
      have HS9 : Aside0 (RSet (w9.setRow gs (rcells set)) gs set) := ⟨setRow_heap _ _ _ _ _ _ HZ9.out⟩
      have hg1 : w.heap.size + 1 + 1 < gs := by have := HGS.out; have := blk_lt HN.out; omega
      have HX9 : Aside0 (BoxAt w (w9.setRow gs (rcells set)) (some ads) c0 sends.length (some adr) c1 routes.length pat) := ⟨(HX.out.later hq9.out).row (by omega) _⟩
      have HR9 : Aside0 (RSet (w9.setRow gs (rcells set)) (w.heap.size + 1) (fun _ => false)) := ⟨(HR.out.below hq9.out).row (by omega) _⟩
      have HN9 : Aside0 (RSet (w9.setRow gs (rcells set)) (w.heap.size + 1 + 1) now) := ⟨(HN.out.below hq9.out).row (by omega) _⟩
      clear x0 x1 y0 y1 y2 KEEP HREF hq0 hq9 HZ9 HX HR HN HGS
      generalize w9.setRow gs (rcells set) = wA at HS9 HX9 HR9 HN9 ⊢
      have x1 := HX9.out.x1
      have y2 := (HX9.out.below.cell (World.block_lt_of_cell? w _ DR1.out)).trans DR1.out
      have t0 := HS9.out.cell (j := 101) (by omega)
      have t1 := HS9.out.frozen 101
      generalize set ((101 : Nat) : Int) = tv at t0
      have HXB : Aside0 (BoxAt w (wA.setCell ⟨gs, 101, none⟩ (.bool lossy)) (some ads) c0 sends.length (some adr) c1 routes.length pat) := ⟨HX9.out.far (p := ⟨gs, 101, none⟩) (by simp; omega) _⟩
      have HRB : Aside0 (RSet (wA.setCell ⟨gs, 101, none⟩ (.bool lossy)) (w.heap.size + 1) (fun _ => false)) := ⟨HR9.out.far (p := ⟨gs, 101, none⟩) (by simp; omega) _⟩
      have HNB : Aside0 (RSet (wA.setCell ⟨gs, 101, none⟩ (.bool lossy)) (w.heap.size + 1 + 1) now) := ⟨HN9.out.far (p := ⟨gs, 101, none⟩) (by simp; omega) _⟩
      have HSB : Aside0 (RSet (wA.setCell ⟨gs, 101, none⟩ (.bool lossy)) gs by') := ⟨by
        rw [HBY.out]
        exact HS9.out.put (by omega) lossy⟩
      obtain ⟨wB, hwB⟩ : ∃ wB, wB = wA.setCell ⟨gs, 101, none⟩ (.bool lossy) := ⟨_, rfl⟩
      rw [← hwB] at HXB HRB HNB HSB
      obtain ⟨gn, hgn⟩ : ∃ gn, gn = wB.heap.size := ⟨_, rfl⟩
      have hbC : Below wB.heap.size wB (wB.alloc (.cells Try.zeroCells50 50)) := (Below.refl _ _).alloc (Nat.le_refl _) _
      have HXC := Aside0.mk (HXB.out.later hbC)
      have HRC := Aside0.mk (HRB.out.below hbC)
      have HNC := Aside0.mk (HNB.out.below hbC)
      have HSC := Aside0.mk (HSB.out.below hbC)
      have HZC := Aside0.mk (show RSet (wB.alloc (.cells Try.zeroCells50 50)) gn (fun _ => false) from by rw [hgn, RSet, ← zero50]; exact blk_new _ _)
      have HGN := Aside0.mk (show gs < gn from hgn ▸ blk_lt HSB.out)
      have hszb : wB.heap.size = wA.heap.size := by rw [hwB]; simp
      have HGN2 := Aside0.mk (hgn.trans hszb)
      have HWB := Aside0.mk hwB
      clear hbC hgn hwB hszb HS9 HX9 HR9 HN9 HXB HRB HNB HSB HBY
      go_wp2_with fail
      rw [← HWB.out, ← HGN2.out]
      clear t0 t1 x1 y2 HWB HGN2
      generalize wB.alloc (.cells Try.zeroCells50 50) = wC at HXC HRC HNC HSC HZC ⊢
      have HNOW : Aside0 (manyC now by' (101 + 1) = manyC now by' 102) := ⟨rfl⟩
      go_loopg [9] 102 (fun gg s9 wr => ∃ a : Nat, a ≤ 102 ∧ 102 - a ≤ gg ∧ s9 = .int .i64 a ∧ Aside0 (BoxAt w wr (some ads) c0 sends.length (some adr) c1 routes.length pat) ∧ Aside0 (RSet wr (w.heap.size + 1) (fun _ => false)) ∧ Aside0 (RSet wr (w.heap.size + 1 + 1) now) ∧ Aside0 (RSet wr gs by') ∧ Aside0 (RSet wr gn (manyC now by' a)))
      case atStart => exact ⟨0, by omega, by omega, rfl, HXC, HRC, HNC, HSC, ⟨HZC.out.congr (fun y _ => by simp [manyC])⟩⟩
      case round =>
        obtain ⟨a, ha, hga, rfl, HXa, HRa, HNa, HSa, HZa⟩ := hrel
        clear HXC HRC HNC HSC HZC
        obtain ⟨wa, rfl⟩ : ∃ wa : World, wa = wr := ⟨_, rfl⟩
        by_cases hla : a < 102
        · have hlaz : (a : Int) ≤ 101 := by omega
          have haz : (a : Int) < 102 := by omega
          go_wp2_with fail
          go_loopg [10] 103 (fun gm s10 wr => ∃ m : Nat, m ≤ 102 ∧ 103 - m ≤ gm ∧ s10 = .int .i64 (m : Int) ∧ Aside0 (m = 0 ∨ now (a : Int) = true) ∧ Aside0 (BoxAt w wr (some ads) c0 sends.length (some adr) c1 routes.length pat) ∧ Aside0 (RSet wr (w.heap.size + 1) (fun _ => false)) ∧ Aside0 (RSet wr (w.heap.size + 1 + 1) now) ∧ Aside0 (RSet wr gs by') ∧
            Aside0 (RSet wr gn (fun y => manyC now by' a y || oneC by' (a : Int) m y)))
          case atStart => exact ⟨0, by omega, by omega, rfl, ⟨.inl rfl⟩, HXa, HRa, HNa, HSa, ⟨HZa.out.congr (fun y _ => by simp [oneC])⟩⟩
          case round =>
            obtain ⟨m, hm, hgm, rfl, HMC, HXm, HRm, HNm, HSm, HZm⟩ := hrel
            clear HXa HRa HNa HSa HZa
            obtain ⟨wi, rfl⟩ : ∃ wi : World, wi = wr := ⟨_, rfl⟩
            have n0 : wi.cell? ⟨w.heap.size + 1 + 1, a, none⟩ = some (.bool (now (a : Int))) := HNm.out.cell (by omega)
            have NEXT : Aside0 (m = 102 ∨ now (a : Int) = false → RSet wi gn (manyC now by' (a + 1))) := ⟨fun hmc => by
              refine HZm.out.congr (fun y _ => ?_)
              rw [manyC_succ]
              cases hck : now (a : Int) with
              | true =>
                rcases hmc with h | h
                · rw [h, Bool.true_and]
                · rw [hck] at h; cases h
              | false =>
                rcases HMC.out with h | h
                · rw [h]; simp [oneC]
                · rw [hck] at h; cases h⟩
            by_cases hmc : m < 102
            · have hle : (m : Int) ≤ 101 := by omega
              have hmz : (m : Int) < 102 := by omega
              cases hck : now (a : Int) with
              | false =>
                have HCK := Aside0.mk hck
                rw [hck] at n0
                clear hck
                have HNXT := Aside0.mk (NEXT.out (.inr HCK.out))
                go_wp2_with fail
                go_roundg (102 - (a + 1))
                case measure => omega
                case rel => exact ⟨a + 1, by omega, by omega, by go_num, HXm, HRm, HNm, HSm, HNXT⟩
              | true =>
                have HCK := Aside0.mk hck
                rw [hck] at n0
                clear hck
                have n1 : wi.cell? ⟨gs, m, none⟩ = some (.bool (by' (m : Int))) := HSm.out.cell (by omega)
                cases hcb : by' (m : Int) with
                | false =>
                  have HCB := Aside0.mk hcb
                  rw [hcb] at n1
                  clear hcb
                  go_wp2_with fail
                  go_roundg (103 - (m + 1))
                  case measure => omega
                  case rel => exact ⟨m + 1, by omega, by omega, by go_num, ⟨.inr HCK.out⟩, HXm, HRm, HNm, HSm, ⟨HZm.out.congr (fun y _ => by rw [oneC_succ, HCB.out]; simp)⟩⟩
                | true =>
                  have HCB := Aside0.mk hcb
                  rw [hcb] at n1
                  clear hcb
                  obtain ⟨mn, hmn, hmn2⟩ : ∃ mn : Nat, min (a : Int) (m : Int) = (mn : Int) ∧ mn < 102 := ⟨min a m, by omega, by omega⟩
                  have hmnz : (mn : Int) < 102 := by omega
                  have HMN := Aside0.mk hmn
                  have t0 := HZm.out.cell (j := mn) (by omega)
                  have t1 := HZm.out.frozen mn
                  generalize (manyC now by' a (mn : Int) || oneC by' (a : Int) m (mn : Int)) = tv at t0
                  have hg2 : w.heap.size + 1 + 1 < gn := by have := HGN.out; omega
                  have HXn : Aside0 (BoxAt w (wi.setCell ⟨gn, mn, none⟩ (.bool true)) (some ads) c0 sends.length (some adr) c1 routes.length pat) := ⟨HXm.out.far (p := ⟨gn, mn, none⟩) (by simp; omega) _⟩
                  have HRn : Aside0 (RSet (wi.setCell ⟨gn, mn, none⟩ (.bool true)) (w.heap.size + 1) (fun _ => false)) := ⟨HRm.out.far (p := ⟨gn, mn, none⟩) (by simp; omega) _⟩
                  have HNn : Aside0 (RSet (wi.setCell ⟨gn, mn, none⟩ (.bool true)) (w.heap.size + 1 + 1) now) := ⟨HNm.out.far (p := ⟨gn, mn, none⟩) (by simp; omega) _⟩
                  have HSn : Aside0 (RSet (wi.setCell ⟨gn, mn, none⟩ (.bool true)) gs by') := ⟨HSm.out.far (p := ⟨gn, mn, none⟩) (by have := HGN.out; simp; omega) _⟩
                  have HZn : Aside0 (RSet (wi.setCell ⟨gn, mn, none⟩ (.bool true)) gn (fun y => manyC now by' a y || oneC by' (a : Int) (m + 1) y)) := ⟨(HZm.out.put hmn2 true).congr (fun y _ => by
                    rw [oneC_succ, HCB.out, HMN.out, Bool.true_and, ← Bool.or_assoc]
                    by_cases e : (y : Int) = (mn : Int)
                    · rw [if_pos e, beq_iff_eq.2 e, Bool.or_true]
                    · rw [if_neg e, beq_eq_false_iff_ne.2 e, Bool.or_false])⟩
                  clear hg2
                  rcases (show (m < a ∧ mn = m) ∨ (¬ m < a ∧ mn = a) by omega) with ⟨hma, e⟩ | ⟨hma, e⟩ <;> clear hmn <;> subst e
                  · go_wp2_with fail
                    go_roundg (103 - (mn + 1))
                    case measure => omega
                    case rel => exact ⟨mn + 1, by omega, by omega, by go_num, ⟨.inr HCK.out⟩, HXn, HRn, HNn, HSn, HZn⟩
                  · go_wp2_with fail
                    go_roundg (103 - (m + 1))
                    case measure => omega
                    case rel => exact ⟨m + 1, by omega, by omega, by go_num, ⟨.inr HCK.out⟩, HXn, HRn, HNn, HSn, HZn⟩
            · have hle : ¬ (m : Int) ≤ 101 := by omega
              have HNXT := Aside0.mk (NEXT.out (.inl (by omega)))
              go_wp2_with fail
              go_roundg (102 - (a + 1))
              case measure => omega
              case rel => exact ⟨a + 1, by omega, by omega, by go_num, HXm, HRm, HNm, HSm, HNXT⟩
        · have hlaz : ¬ (a : Int) ≤ 101 := by omega
          have haa : a = 102 := by omega
          have HNF : Aside0 (RSet wa gn (comF (sn : Int) (rs.take (j + 1)) nev)) := ⟨by
            rw [HTK.out, ← haa]
            exact HZa.out⟩
          clear haa
          go_wp2_with (first
            | (refine wpList_load_row rfl 50 _ rfl gn rfl 50 _ (0, 0) _ HNF.out Try.underlying50 rfl (by rw [rcells_size]; exact info50s) ?_)
            | (refine wpList_store_row rfl 50 _ _ rfl (w.heap.size + 1 + 1) (rcells (comF (sn : Int) (rs.take (j + 1)) nev)) rfl rfl 50 _ HNa.out (by rw [rcells_size]; exact info50s) (by rw [rcells_size, rcells_size]) (rcells_one _) ?_))
          go_roundg (routes.length - (j + 1))
          case measure => omega
          case rel => exact ⟨j + 1, by omega, by omega, by go_num, ⟨HXa.out.row (by omega) _⟩, ⟨HRa.out.row (by omega) _⟩, ⟨setRow_heap _ _ _ _ _ _ HNa.out⟩⟩
    · have hltz : ¬ (j : Int) < (routes.length : Int) := by omega
      have hjj : j = routes.length := by omega
      have HF : Aside0 (RSet wm (w.heap.size + 1 + 1) (comL rs (sn : Int))) := ⟨by
        have e := HN.out
        rw [hjj, ← HRL.out, List.take_length] at e
        exact e⟩
      have x1 := HX.out.x1
      clear hjj
      go_wp2_with (first
        | (refine wpList_load_row rfl 50 _ rfl (w.heap.size + 1 + 1) rfl 50 _ (0, 0) _ HF.out Try.underlying50 rfl (by rw [rcells_size]; exact info50s) ?_)
        | (refine wpList_store_row rfl 50 _ _ rfl (w.heap.size + 1) (rcells (comL rs (sn : Int))) rfl rfl 50 _ HR.out (by rw [rcells_size]; exact info50s) (by rw [rcells_size, rcells_size]) (rcells_one _) ?_))
      refine bodyPost_ret (results_cell_row rfl _ _ (w.heap.size + 1) 50 (rcells (comL rs (sn : Int))) (0, 0) _ rfl (setRow_heap _ _ _ _ _ _ HR.out) Try.underlying50 rfl (by rw [rcells_size]; exact info50s)) rfl ⟨rfl, below_setRow HX.out.below (by omega) _⟩
end Go.Proofs.Ytiephlhohgohcaa.PAll
namespace Go.Proofs.Ytiephlhohgohcaa.PAll
open Go.RowKit Go.Proofs.YtiephlhohgohcaaW.PrintWords Go.Proofs.YtiephlhohgohcaaW.PrintLast Go.Proofs.YtiephlhohgohcaaW.PrintMore
attribute [local go_sem] max2_int min2_int max_two min_two max_three min_three max_four min_four
set_option linter.unusedVariables false
set_option linter.unusedSimpArgs false
def loK (f : Int → Bool) : Nat → Int
  | 0 => 102
  | k + 1 => if f (k : Int) = true then min (loK f k) (k : Int) else loK f k
def hiK (f : Int → Bool) : Nat → Int
  | 0 => -1
  | k + 1 => if f (k : Int) = true then (k : Int) else hiK f k
set_option maxRecDepth 100000 in
set_option maxHeartbeats 8000000 in
theorem ends36 (f : Int → Bool) (w : World) :
    Calls Try.prog 36 #[.agg (rcells f)] w fun e w' => e = .returned (.tuple #[.agg #[.int .i64 (loK f 102), .int .i64 (hiK f 102)], .bool (decide (0 ≤ hiK f 102))]) ∧ Below w.heap.size w w' := by
  have hz1 := size_new_at (w := w) (o := .cells (rcells f) 50) rfl
  have hz2 := size_new_at (o := .cells #[Value.int IntKind.i64 0, Value.int IntKind.i64 0] 64) hz1
  obtain ⟨W4, hW4⟩ : ∃ W4, W4 = ((w.alloc (Obj.cells (rcells f) 50)).alloc (Obj.cells #[Value.int IntKind.i64 0, Value.int IntKind.i64 0] 64)).alloc (Obj.cells #[Value.int IntKind.i64 102, Value.int IntKind.i64 (-1)] 64) := ⟨_, rfl⟩
  have HB4 : Aside0 (Below w.heap.size w W4) := ⟨hW4 ▸ (((Below.refl _ w).alloc (by simp) _).alloc (by simp) _).alloc (by simp; omega) _⟩
  have HF4 : Aside0 (RSet W4 w.heap.size f) := ⟨by rw [hW4]; exact blk_alloc (blk_alloc (blk_new _ _) _) _⟩
  have HR4 : Aside0 (W4.heap[w.heap.size + 1]? = some (.cells #[.int .i64 0, .int .i64 0] 64 (0, 0))) := ⟨by rw [hW4]; exact blk_alloc (blk_new_at hz1) _⟩
  have HO4 : Aside0 (W4.heap[w.heap.size + 1 + 1]? = some (.cells #[.int .i64 (loK f 0), .int .i64 (hiK f 0)] 64 (0, 0))) := ⟨by rw [hW4]; exact blk_new_at hz2⟩
  have HW4 := Aside0.mk hW4
  clear hz1 hz2 hW4
  go_enter Try.func36, Try.ntmps36
  go_wp2_with fail
  rw [← HW4.out]
  clear HW4
  go_loopg [5] 102 (fun gg s5 wr => ∃ k : Nat, k ≤ 102 ∧ 102 - k ≤ gg ∧ s5 = .int .i64 k ∧ Aside0 (Below w.heap.size w wr) ∧ Aside0 (RSet wr w.heap.size f) ∧ Aside0 (wr.heap[w.heap.size + 1]? = some (.cells #[.int .i64 0, .int .i64 0] 64 (0, 0))) ∧ Aside0 (wr.heap[w.heap.size + 1 + 1]? = some (.cells #[.int .i64 (loK f k), .int .i64 (hiK f k)] 64 (0, 0))))
  case atStart => exact ⟨0, by omega, by omega, rfl, HB4, HF4, HR4, HO4⟩
  case round =>
    obtain ⟨k, hk, hgk, rfl, HB, HF, HR, HO⟩ := hrel
    clear HB4 HF4 HR4 HO4
    obtain ⟨wk, rfl⟩ : ∃ wk : World, wk = wr := ⟨_, rfl⟩
    have o0 : wk.cell? ⟨w.heap.size + 1 + 1, 0, none⟩ = some (.int .i64 (loK f k)) := (blk_cell HO.out 0).trans rfl
    have o1 : wk.cell? ⟨w.heap.size + 1 + 1, 1, none⟩ = some (.int .i64 (hiK f k)) := (blk_cell HO.out 1).trans rfl
    have f0 := blk_frozen HO.out 0
    have f1 := blk_frozen HO.out 1
    by_cases hlk : k < 102
    · have hlkz : (k : Int) ≤ 101 := by omega
      have hlk2 : (k : Int) < 102 := by omega
      have n0 : wk.cell? ⟨w.heap.size, k, none⟩ = some (.bool (f (k : Int))) := HF.out.cell (by omega)
      have hsz : w.heap.size < w.heap.size + 1 + 1 := by omega
      cases hfk : f (k : Int) with
      | false =>
        have HFK := Aside0.mk hfk
        rw [hfk] at n0
        clear hfk
        go_wp2_with fail
        go_roundg (102 - (k + 1))
        case measure => omega
        case rel => exact ⟨k + 1, by omega, by omega, by go_num, HB, HF, HR, ⟨by
          have e := HO.out
          rw [loK, hiK, HFK.out]
          simpa using e⟩⟩
      | true =>
        have HFK := Aside0.mk hfk
        rw [hfk] at n0
        clear hfk
        have HN : Aside0 (loK f (k + 1) = min (loK f k) (k : Int) ∧ hiK f (k + 1) = k) := ⟨by rw [loK, hiK, HFK.out]; simp⟩
        obtain ⟨lv, hlv⟩ : ∃ lv, loK f k = lv := ⟨_, rfl⟩
        rw [hlv] at o0 HN
        generalize hiK f k = hv at o1
        clear hlv
        have HOS : Aside0 (((wk.setCell ⟨w.heap.size + 1 + 1, 0, none⟩ (.int .i64 (min lv (k : Int)))).setCell ⟨w.heap.size + 1 + 1, 1, none⟩ (.int .i64 (k : Int))).heap[w.heap.size + 1 + 1]? = some (.cells #[.int .i64 (loK f (k + 1)), .int .i64 (hiK f (k + 1))] 64 (0, 0))) := ⟨by
          rw [HN.out.1, HN.out.2]
          exact (blk_set (blk_set HO.out 0 _) 1 _).trans rfl⟩
        have HBS : Aside0 (Below w.heap.size w ((wk.setCell ⟨w.heap.size + 1 + 1, 0, none⟩ (.int .i64 (min lv (k : Int)))).setCell ⟨w.heap.size + 1 + 1, 1, none⟩ (.int .i64 (k : Int)))) := ⟨(HB.out.setCell (p := ⟨w.heap.size + 1 + 1, 0, none⟩) (by simp; omega) _).setCell (p := ⟨w.heap.size + 1 + 1, 1, none⟩) (by simp; omega) _⟩
        have HFS : Aside0 (RSet ((wk.setCell ⟨w.heap.size + 1 + 1, 0, none⟩ (.int .i64 (min lv (k : Int)))).setCell ⟨w.heap.size + 1 + 1, 1, none⟩ (.int .i64 (k : Int))) w.heap.size f) := ⟨(HF.out.far (p := ⟨w.heap.size + 1 + 1, 0, none⟩) (by simp; omega) _).far (p := ⟨w.heap.size + 1 + 1, 1, none⟩) (by simp; omega) _⟩
        have HRS : Aside0 (((wk.setCell ⟨w.heap.size + 1 + 1, 0, none⟩ (.int .i64 (min lv (k : Int)))).setCell ⟨w.heap.size + 1 + 1, 1, none⟩ (.int .i64 (k : Int))).heap[w.heap.size + 1]? = some (.cells #[.int .i64 0, .int .i64 0] 64 (0, 0))) := ⟨blk_far (blk_far HR.out (p := ⟨w.heap.size + 1 + 1, 0, none⟩) (by simp) _) (p := ⟨w.heap.size + 1 + 1, 1, none⟩) (by simp) _⟩
        rcases (show ((k : Int) < lv ∧ min lv (k : Int) = (k : Int)) ∨ (¬ (k : Int) < lv ∧ min lv (k : Int) = lv) by omega) with ⟨hma, e⟩ | ⟨hma, e⟩ <;> rw [e] at HOS HBS HFS HRS <;> clear e
        · go_wp2_with fail
          go_roundg (102 - (k + 1))
          case measure => omega
          case rel => exact ⟨k + 1, by omega, by omega, by go_num, HBS, HFS, HRS, HOS⟩
        · go_wp2_with fail
          go_roundg (102 - (k + 1))
          case measure => omega
          case rel => exact ⟨k + 1, by omega, by omega, by go_num, HBS, HFS, HRS, HOS⟩
    · have hlkz : ¬ (k : Int) ≤ 101 := by omega
      have hkk : k = 102 := by omega
      subst hkk
      clear hk hgk
      have b0 : wk.cell? ⟨w.heap.size + 1, 0, none⟩ = some (.int .i64 0) := (blk_cell HR.out 0).trans rfl
      have b1 : wk.cell? ⟨w.heap.size + 1, 1, none⟩ = some (.int .i64 0) := (blk_cell HR.out 1).trans rfl
      have g0 := blk_frozen HR.out 0
      have g1 := blk_frozen HR.out 1
      obtain ⟨lv, hlv⟩ : ∃ lv, loK f 102 = lv := ⟨_, rfl⟩
      obtain ⟨hv, hhv⟩ : ∃ hv, hiK f 102 = hv := ⟨_, rfl⟩
      rw [hlv] at o0
      rw [hhv] at o1
      have HLV := Aside0.mk hlv
      have HHV := Aside0.mk hhv
      clear hlv hhv
      go_upto_region 7 with fail
      have HQ0 := Aside0.mk ((blk_set (blk_set HR.out 0 (.int .i64 lv)) 1 (.int .i64 hv)).trans rfl : _ = some (Obj.cells #[.int .i64 lv, .int .i64 hv] 64 (0, 0)))
      have HQ1 := Aside0.mk ((HB.out.setCell (p := ⟨w.heap.size + 1, 0, none⟩) (by simp) (.int .i64 lv)).setCell (p := ⟨w.heap.size + 1, 1, none⟩) (by simp) (.int .i64 hv))
      go_region
      all_goals (go_wp2_with fail)
      all_goals refine bodyPost_ret (results_ct rfl _ _ (w.heap.size + 1) 64 #[.int .i64 lv, .int .i64 hv] (0, 0) _ rfl ?_ Try.underlying64 rfl (by kernel_rfl)) rfl ⟨?_, ?_⟩
      all_goals (try exact HQ0.out)
      all_goals (try exact below_drew HQ1.out)
      all_goals (rw [HLV.out, HHV.out]; rfl)
end Go.Proofs.Ytiephlhohgohcaa.PAll
namespace Go.Proofs.Ytiephlhohgohcaa.PAll
open Go.RowKit Go.Proofs.YtiephlhohgohcaaW.PrintWords Go.Proofs.YtiephlhohgohcaaW.PrintLast Go.Proofs.YtiephlhohgohcaaW.PrintMore
attribute [local go_sem] max2_int min2_int max_two min_two max_three min_three max_four min_four
set_option linter.unusedVariables false
set_option linter.unusedSimpArgs false
/-- An entry that does not fit. -/
def badE (n at' : Int) (sk : Bool) (x : S108) : Bool := x.f0 == n && (x.f1 != at' || x.f2 != sk)
def finOne (can : Int → Bool) (l : List S108) (n d f : Int) (m : Nat) : Int → Bool := fun y => (List.range m).any fun h : Nat => can h && !l.any (badE n (recvE n f h d).f1 (recvE n f h d).f2) && y == (recvE n f h d).f1
def finStep (can : Int → Bool) (l : List S108) (n d : Int) (now : Int → Bool) (k : Nat) : Int → Bool := fun y => (List.range k).any fun f : Nat => now f && finOne can l n d f 102 y
def finL (rs : List S122) (pat : Int) (l : List S108) : Int → List Int → (Int → Bool) → (Int → Bool)
  | _, [], now => now
  | n, s :: ss, now => finL rs pat l (n + 1) ss (finStep (comL rs s) l n (s + pat) now 101)
theorem finL_snoc (rs : List S122) (pat : Int) (l : List S108) (s : Int) : ∀ (ss : List Int) (n : Int) (now : Int → Bool), finL rs pat l n (ss ++ [s]) now = finStep (comL rs s) l (n + ss.length) (s + pat) (finL rs pat l n ss now) 101
  | [], n, now => by simp [finL]
  | a :: ss, n, now => by
    simp only [List.cons_append, finL, List.length_cons]
    rw [finL_snoc rs pat l s ss (n + 1)]
    congr 1
    omega
/-- The set of the hour 0 alone. -/
def zer : Int → Bool := fun x => x == 0
theorem finOne_succ (can : Int → Bool) (l : List S108) (n d f : Int) (m : Nat) (y : Int) : finOne can l n d f (m + 1) y = (finOne can l n d f m y || (can m && !l.any (badE n (recvE n f m d).f1 (recvE n f m d).f2) && y == (recvE n f m d).f1)) := by
  simp only [finOne, List.range_succ, List.any_append, List.any_cons, List.any_nil, Bool.or_false]
theorem finStep_succ (can : Int → Bool) (l : List S108) (n d : Int) (now : Int → Bool) (k : Nat) (y : Int) : finStep can l n d now (k + 1) y = (finStep can l n d now k y || (now k && finOne can l n d k 102 y)) := by
  simp [finStep, List.range_succ]
set_option maxRecDepth 100000 in
theorem refFinish76 (A0 : Option Addr) (c0 : Nat) (sends : List Int) (A1 : Option Addr) (c1 : Nat) (routes : List S54) (pat : Int) (w : World) (h : PostAt w A0 c0 sends A1 c1 routes) (hs : ∀ s ∈ sends, 0 ≤ s ∧ s ≤ 30) (hp : 0 ≤ pat ∧ pat ≤ 30) (i : Nat) (hi : i < sends.length) (before hour : Int) :
    Calls Try.prog 76 #[.agg #[.slice A0 sends.length c0, .slice A1 routes.length c1, .int .i64 pat], .int .i64 (i : Int), .int .i64 before, .int .i64 hour] w fun e w' => e = .returned (.tuple #[.int .i64 (recvE i before hour (sends[i] + pat)).f1, .bool (recvE i before hour (sends[i] + pat)).f2]) ∧ Below w.heap.size w w' :=
  glisterref05_Finish.calls A0 c0 sends A1 c1 routes pat (i : Int) before hour _ _ w h.h0 h.l0 h.h1 h.l1 (finish_f hs hp i hi before hour)
set_option maxRecDepth 100000 in
set_option maxHeartbeats 8000000 in
theorem finishes37 (A0 : Option Addr) (c0 : Nat) (sends : List Int) (A1 : Option Addr) (c1 : Nat) (routes : List S54) (pat : Int) (rs : List S122) (w : World) (hrs : rs = routes.map toX) (h : PostAt w A0 c0 sends A1 c1 routes) (V : Valid sends rs pat) (ni : Nat) (hni : ni < sends.length)
    (A2 : Option Addr) (c2 : Nat) (l : List S108) (hl : Kd.C k108 w A2 l.length l) (hlc : l.length ≤ 1000) :
    Calls Try.prog 37 #[.agg #[.slice A0 sends.length c0, .slice A1 routes.length c1, .int .i64 pat], .int .i64 (ni : Int), .slice A2 l.length c2] w fun e w' => e = .returned (.agg (rcells (finL rs pat l 0 (sends.take (ni + 1)) zer))) ∧ Below w.heap.size w w' := by
  have hsn := V.sn
  have HS0 := Aside0.mk V.s0
  have HP0 := Aside0.mk V.p0
  have HCOM : Aside0 (∀ w', Below w.heap.size w w' → ∀ (i : Nat) (hi : i < sends.length), Calls Try.prog 85 #[.agg #[.slice A0 sends.length c0, .slice A1 routes.length c1, .int .i64 pat], .int .i64 (i : Int)] w' fun e w'' => e = .returned (.agg (rcells (comL rs sends[i]))) ∧ Below w'.heap.size w' w'') := ⟨fun w' hb i hi => comings85 A0 c0 sends A1 c1 routes pat rs w' hrs (h.below hb) V i hi⟩
  have HFIN : Aside0 (∀ w', Below w.heap.size w w' → ∀ (i : Nat) (hi : i < sends.length) (before hour : Int), Calls Try.prog 76 #[.agg #[.slice A0 sends.length c0, .slice A1 routes.length c1, .int .i64 pat], .int .i64 (i : Int), .int .i64 before, .int .i64 hour] w' fun e w'' => e = .returned (.tuple #[.int .i64 (recvE i before hour (sends[i] + pat)).f1, .bool (recvE i before hour (sends[i] + pat)).f2]) ∧ Below w'.heap.size w' w'') := ⟨fun w' hb i hi before hour => refFinish76 A0 c0 sends A1 c1 routes pat w' (h.below hb) V.s0 V.p0 i hi before hour⟩
  have HLK : Aside0 (Kd.C k108 w A2 l.length l) := ⟨hl⟩
  clear h V hrs hl
  obtain ⟨R, hR⟩ : ∃ R, finL rs pat l 0 (sends.take (ni + 1)) zer = R := ⟨_, rfl⟩
  have HRR := Aside0.mk hR
  rw [hR]
  clear hR
  have z1 := size_new_at (w := w) (o := .cells #[.slice A0 sends.length c0, .slice A1 routes.length c1, .int .i64 pat] 25) rfl
  have z2 := size_new_at (o := .cells Try.zeroCells50 50) z1
  obtain ⟨W4, hW4⟩ : ∃ W4, W4 = ((w.alloc (.cells #[.slice A0 sends.length c0, .slice A1 routes.length c1, .int .i64 pat] 25)).alloc (.cells Try.zeroCells50 50)).alloc (.cells (Try.zeroCells50.setIfInBounds 0 (.bool true)) 50) := ⟨_, rfl⟩
  have HX4 : Aside0 (BoxAt w W4 A0 c0 sends.length A1 c1 routes.length pat) := ⟨⟨hW4 ▸ (((Below.refl _ w).alloc (by simp) _).alloc (by simp) _).alloc (by simp; omega) _, by rw [hW4]; exact blk_alloc (blk_alloc (blk_new _ _) _) _⟩⟩
  have HR4 := Aside0.mk (show RSet W4 (w.heap.size + 1) (fun _ => false) from by rw [hW4, RSet, ← zero50]; exact blk_alloc (blk_new_at z1) _)
  have HN4 : Aside0 (RSet W4 (w.heap.size + 1 + 1) (finL rs pat l 0 (sends.take 0) zer)) := ⟨by
    have e : W4.heap[w.heap.size + 1 + 1]? = some (.cells (Try.zeroCells50.setIfInBounds 0 (.bool true)) 50 (0, 0)) := by rw [hW4]; exact blk_new_at z2
    rw [zero50, rcells_put _ (by omega)] at e
    refine RSet.congr e (fun j hj => ?_)
    rw [List.take_zero, finL, zer]
    by_cases h : (j : Int) = 0
    · rw [if_pos (by simpa using h), beq_iff_eq.2 h]
    · rw [if_neg (by simpa using h), beq_eq_false_iff_ne.2 h]⟩
  have s0 : (((w.alloc (.cells #[.slice A0 sends.length c0, .slice A1 routes.length c1, .int .i64 pat] 25)).alloc (.cells Try.zeroCells50 50)).alloc (.cells Try.zeroCells50 50)).cell? ⟨w.heap.size + 1 + 1, 0, none⟩ = some (.bool false) := by
    have e := blk_new_at (o := .cells Try.zeroCells50 50) z2
    rw [blk_cell e, zero50]
    exact rcells_at _ (by omega)
  have s1 : (((w.alloc (.cells #[.slice A0 sends.length c0, .slice A1 routes.length c1, .int .i64 pat] 25)).alloc (.cells Try.zeroCells50 50)).alloc (.cells Try.zeroCells50 50)).frozen? ⟨w.heap.size + 1 + 1, 0, none⟩ = false := blk_frozen (blk_new_at z2) 0
  have HW4 := Aside0.mk hW4
  clear z1 z2 hW4
  go_enter Try.func37, Try.ntmps37
  go_wp2_with fail
  rw [← HW4.out]
  clear s0 s1 HW4
  go_loopg [8] (ni + 1) (fun gg s8 wr => ∃ i : Nat, i ≤ ni + 1 ∧ ni + 1 - i ≤ gg ∧ s8 = .int .i64 i ∧ Aside0 (BoxAt w wr A0 c0 sends.length A1 c1 routes.length pat) ∧ Aside0 (RSet wr (w.heap.size + 1) (fun _ => false)) ∧ Aside0 (RSet wr (w.heap.size + 1 + 1) (finL rs pat l 0 (sends.take i) zer)))
  case atStart => exact ⟨0, by omega, by omega, rfl, HX4, HR4, HN4⟩
  case round =>
    obtain ⟨i, hi, hgi, rfl, HX, HR, HN⟩ := hrel
    clear HX4 HR4 HN4
    obtain ⟨wm, rfl⟩ : ∃ wm : World, wm = wr := ⟨_, rfl⟩
    by_cases hlt : i < ni + 1
    · have hltz : (i : Int) ≤ (ni : Int) := by omega
      have hil : i < sends.length := by omega
      have HTK : Aside0 (finL rs pat l 0 (sends.take (i + 1)) zer = finStep (comL rs sends[i]) l (i : Int) (sends[i] + pat) (finL rs pat l 0 (sends.take i) zer) 101) := ⟨by
        rw [List.take_succ_eq_append_getElem hil, finL_snoc, List.length_take, Nat.min_eq_left (by omega)]
        congr 1
        omega⟩
      have hsi := HS0.out _ (List.getElem_mem hil)
      have hp0 := HP0.out
      have HC : Aside0 (∀ w', Below w.heap.size w w' → Calls Try.prog 85 #[.agg #[.slice A0 sends.length c0, .slice A1 routes.length c1, .int .i64 pat], .int .i64 (i : Int)] w' fun e w'' => e = .returned (.agg (rcells (comL rs sends[i]))) ∧ Below w'.heap.size w' w'') := ⟨fun w' hb => HCOM.out w' hb i hil⟩
      have HF : Aside0 (∀ w', Below w.heap.size w w' → ∀ (before hour : Int), Calls Try.prog 76 #[.agg #[.slice A0 sends.length c0, .slice A1 routes.length c1, .int .i64 pat], .int .i64 (i : Int), .int .i64 before, .int .i64 hour] w' fun e w'' => e = .returned (.tuple #[.int .i64 (recvE i before hour (sends[i] + pat)).f1, .bool (recvE i before hour (sends[i] + pat)).f2]) ∧ Below w'.heap.size w' w'') := ⟨fun w' hb => HFIN.out w' hb i hil⟩
      generalize finL rs pat l 0 (sends.take i) zer = now at HN HTK
      generalize comL rs sends[i] = can at HTK HC
      have HD : Aside0 (0 ≤ sends[i] + pat ∧ sends[i] + pat ≤ 60) := ⟨by omega⟩
      generalize sends[i] + pat = d at HTK HF HD
      clear hsi hp0
      obtain ⟨gn, hgn⟩ : ∃ gn, gn = wm.heap.size := ⟨_, rfl⟩
      obtain ⟨W5, hW5⟩ : ∃ W5, W5 = wm.alloc (.cells Try.zeroCells50 50) := ⟨_, rfl⟩
      have hb5 : Below wm.heap.size wm W5 := hW5 ▸ (Below.refl _ wm).alloc (Nat.le_refl _) _
      have HX5 := Aside0.mk (HX.out.later hb5)
      have HR5 := Aside0.mk (HR.out.below hb5)
      have HN5 := Aside0.mk (HN.out.below hb5)
      have HZ5 := Aside0.mk (show RSet W5 gn (fun _ => false) from by rw [hW5, hgn, RSet, ← zero50]; exact blk_new _ _)
      have HGN := Aside0.mk (show w.heap.size + 1 + 1 < gn from hgn ▸ blk_lt HN.out)
      have HW5 := Aside0.mk hW5
      have HG5 := Aside0.mk hgn
      have x0 := HX5.out.x0
      have x1 := HX5.out.x1
      have x2 := HX5.out.x2
      clear hb5 hW5 hgn HX HR HN
      go_upto_region 7 with fail
      rw [← HW5.out, ← HG5.out]
      clear HW5 HG5
      go_wp2_with fail
      refine (HC.out _ HX5.out.below).mono ?_
      rintro e w6 ⟨rfl, hb⟩
      have HX6 := Aside0.mk (HX5.out.later hb)
      have HR6 := Aside0.mk (HR5.out.below hb)
      have HN6 := Aside0.mk (HN5.out.below hb)
      have HZ6 := Aside0.mk (HZ5.out.below hb)
      clear hb x0 x1 x2 HX5 HR5 HN5 HZ5 HC
      obtain ⟨gc, hgc⟩ : ∃ gc, gc = w6.heap.size := ⟨_, rfl⟩
      have HG6 := Aside0.mk hgc
      have HGC := Aside0.mk (show gn < gc from hgc ▸ blk_lt HZ6.out)
      clear hgc
      obtain ⟨W7, hW7⟩ : ∃ W7, W7 = w6.alloc (.cells Try.zeroCells50 50) := ⟨_, rfl⟩
      have hb7 : Below w6.heap.size w6 W7 := hW7 ▸ (Below.refl _ w6).alloc (Nat.le_refl _) _
      have HK7 := Aside0.mk (show RSet W7 gc (fun _ => false) from by rw [hW7, HG6.out, RSet, ← zero50]; exact blk_new _ _)
      have hg2 : w.heap.size + 1 + 1 < gc := by have := HGN.out; have := HGC.out; omega
      have HX8 := Aside0.mk ((HX6.out.later hb7).row (g := gc) (by omega) (rcells can))
      have HR8 := Aside0.mk ((HR6.out.below hb7).row (g := gc) (by omega) (rcells can))
      have HN8 := Aside0.mk ((HN6.out.below hb7).row (g := gc) (by omega) (rcells can))
      have HZ8 := Aside0.mk ((HZ6.out.below hb7).row (g := gc) (by have := HGC.out; omega) (rcells can))
      have HC8 : Aside0 (RSet (W7.setRow gc (rcells can)) gc can) := ⟨setRow_heap _ _ _ _ _ _ HK7.out⟩
      have HW7 := Aside0.mk hW7
      clear hb7 hW7 hg2 HX6 HR6 HN6 HZ6
      have HK6 := Aside0.mk (show RSet (w6.alloc (.cells Try.zeroCells50 50)) w6.heap.size (fun _ => false) from by rw [RSet, ← zero50]; exact blk_new _ _)
      go_wp2_with (first | (refine wpList_store_row rfl 50 _ _ rfl w6.heap.size (rcells can) rfl rfl 50 _ HK6.out (by rw [rcells_size]; exact info50s) (by rw [rcells_size, rcells_size]) (rcells_one _) ?_))
      rw [← HW7.out, ← HG6.out]
      clear HK6 HW7 HG6 HK7
      generalize W7.setRow gc (rcells can) = wA at HX8 HR8 HN8 HZ8 HC8 ⊢
      go_loopg [11] 101 (fun gf s11 wr => ∃ f : Nat, f ≤ 101 ∧ 101 - f ≤ gf ∧ s11 = .int .i64 f ∧ Aside0 (BoxAt w wr A0 c0 sends.length A1 c1 routes.length pat) ∧ Aside0 (RSet wr (w.heap.size + 1) (fun _ => false)) ∧ Aside0 (RSet wr (w.heap.size + 1 + 1) now) ∧ Aside0 (RSet wr gc can) ∧ Aside0 (RSet wr gn (finStep can l (i : Int) d now f)))
      case atStart => exact ⟨0, by omega, by omega, rfl, HX8, HR8, HN8, HC8, ⟨HZ8.out.congr (fun y _ => by simp [finStep])⟩⟩
      case round =>
        obtain ⟨f, hf, hgf, rfl, HXf, HRf, HNf, HCf, HZf⟩ := hrel
        clear HX8 HR8 HN8 HC8 HZ8
        obtain ⟨wf, rfl⟩ : ∃ wf : World, wf = wr := ⟨_, rfl⟩
        by_cases hlf : f < 101
        · have hlfz : (f : Int) ≤ 100 := by omega
          have hfz : (f : Int) < 102 := by omega
          go_wp2_with fail
          go_loopg [12] 103 (fun gm s12 wr => ∃ m : Nat, m ≤ 102 ∧ 103 - m ≤ gm ∧ s12 = .int .i64 (m : Int) ∧ Aside0 (m = 0 ∨ now (f : Int) = true) ∧ Aside0 (BoxAt w wr A0 c0 sends.length A1 c1 routes.length pat) ∧ Aside0 (RSet wr (w.heap.size + 1) (fun _ => false)) ∧ Aside0 (RSet wr (w.heap.size + 1 + 1) now) ∧ Aside0 (RSet wr gc can) ∧
            Aside0 (RSet wr gn (fun y => finStep can l (i : Int) d now f y || finOne can l (i : Int) d (f : Int) m y)))
          case atStart => exact ⟨0, by omega, by omega, rfl, ⟨.inl rfl⟩, HXf, HRf, HNf, HCf, ⟨HZf.out.congr (fun y _ => by simp [finOne])⟩⟩
          case round =>
            obtain ⟨m, hm, hgm, rfl, HMC, HXm, HRm, HNm, HCm, HZm⟩ := hrel
            clear HXf HRf HNf HCf HZf
            obtain ⟨wi, rfl⟩ : ∃ wi : World, wi = wr := ⟨_, rfl⟩
            have n0 : wi.cell? ⟨w.heap.size + 1 + 1, f, none⟩ = some (.bool (now (f : Int))) := HNm.out.cell (by omega)
            have NEXT : Aside0 (m = 102 ∨ now (f : Int) = false → RSet wi gn (finStep can l (i : Int) d now (f + 1))) := ⟨fun hmc => by
              refine HZm.out.congr (fun y _ => ?_)
              rw [finStep_succ]
              cases hck : now (f : Int) with
              | true =>
                rcases hmc with h | h
                · rw [h, Bool.true_and]
                · rw [hck] at h; cases h
              | false =>
                rcases HMC.out with h | h
                · rw [h]; simp [finOne]
                · rw [hck] at h; cases h⟩
            by_cases hmc : m < 102
            · have hle : (m : Int) ≤ 101 := by omega
              have hmz : (m : Int) < 102 := by omega
              cases hck : now (f : Int) with
              | false =>
                have HCK := Aside0.mk hck
                rw [hck] at n0
                clear hck
                have HNXT := Aside0.mk (NEXT.out (.inr HCK.out))
                go_wp2_with fail
                go_roundg (101 - (f + 1))
                case measure => omega
                case rel => exact ⟨f + 1, by omega, by omega, by go_num, HXm, HRm, HNm, HCm, HNXT⟩
              | true =>
                have HCK := Aside0.mk hck
                rw [hck] at n0
                clear hck
                have n1 : wi.cell? ⟨gc, m, none⟩ = some (.bool (can (m : Int))) := HCm.out.cell (by omega)
                cases hcb : can (m : Int) with
                | false =>
                  have HCB := Aside0.mk hcb
                  rw [hcb] at n1
                  clear hcb
                  go_wp2_with fail
                  go_roundg (103 - (m + 1))
                  case measure => omega
                  case rel => exact ⟨m + 1, by omega, by omega, by go_num, ⟨.inr HCK.out⟩, HXm, HRm, HNm, HCm, ⟨HZm.out.congr (fun y _ => by rw [finOne_succ, HCB.out]; simp)⟩⟩
                | true =>
                  have HCB := Aside0.mk hcb
                  rw [hcb] at n1
                  clear hcb
                  obtain ⟨av, hav, hav2⟩ : ∃ av : Nat, (recvE (i : Int) (f : Int) (m : Int) d).f1 = (av : Int) ∧ av < 102 := by
                    have := HD.out
                    have e : (recvE (i : Int) (f : Int) (m : Int) d).f1 = max (f : Int) (min (m : Int) d) := rfl
                    exact ⟨(recvE (i : Int) (f : Int) (m : Int) d).f1.toNat, by omega, by omega⟩
                  have havz : (av : Int) < 102 := by omega
                  obtain ⟨sk, hsk⟩ : ∃ sk : Bool, (recvE (i : Int) (f : Int) (m : Int) d).f2 = sk := ⟨_, rfl⟩
                  have HFC : Aside0 (∀ w', Below w.heap.size w w' → Calls Try.prog 76 #[.agg #[.slice A0 sends.length c0, .slice A1 routes.length c1, .int .i64 pat], .int .i64 (i : Int), .int .i64 (f : Int), .int .i64 (m : Int)] w' fun e w'' => e = .returned (.tuple #[.int .i64 (av : Int), .bool sk]) ∧ Below w'.heap.size w' w'') := ⟨fun w' hb => by
                    have e := HF.out w' hb (f : Int) (m : Int)
                    rw [hav, hsk] at e
                    exact e⟩
                  have HNEW : Aside0 (∀ y, finOne can l (i : Int) d (f : Int) (m + 1) y = (finOne can l (i : Int) d (f : Int) m y || (!l.any (badE (i : Int) (av : Int) sk) && y == (av : Int)))) := ⟨fun y => by rw [finOne_succ, HCB.out, hav, hsk, Bool.true_and]⟩
                  clear hav hsk
                  have x0 := HXm.out.x0
                  have x1 := HXm.out.x1
                  have x2 := HXm.out.x2
                  go_wp2_with fail
                  refine (HFC.out _ HXm.out.below).mono ?_
                  rintro e w7 ⟨rfl, hb⟩
                  replace HXm := Aside0.mk (HXm.out.later hb)
                  replace HRm := Aside0.mk (HRm.out.below hb)
                  replace HNm := Aside0.mk (HNm.out.below hb)
                  replace HCm := Aside0.mk (HCm.out.below hb)
                  replace HZm := Aside0.mk (HZm.out.below hb)
                  clear hb x0 x1 x2 n0 n1 HFC NEXT
                  go_wp2_with fail
                  go_loopg [15, 16] l.length (fun gk s15 s16 wr => ∃ k : Nat, k ≤ l.length ∧ l.length - k ≤ gk ∧ s16 = .int .i64 (k : Int) ∧ s15 = .bool (!(l.take k).any (badE (i : Int) (av : Int) sk)) ∧ wr = w7)
                  case atStart => exact ⟨0, by omega, by omega, rfl, by rw [List.take_zero]; rfl, rfl⟩
                  case round =>
                    obtain ⟨k, hk, hgk, rfl, rfl, rfl⟩ := hrel
                    by_cases hlk : k < l.length
                    · have hlkz : (k : Int) < (l.length : Int) := by omega
                      obtain ⟨ad, ea, y0, y1, y2⟩ := at_T108 (Kd.C_below HLK.out HXm.out.below) (k : Int) (by omega) hlkz
                      cases ea
                      have er : rd_T108 l (k : Int) = l[k] := by unfold rd_T108; rw [Int.toNat_natCast, rd_in _ _ _ hlk]
                      rw [er] at y0 y1 y2
                      rw [Int.toNat_natCast] at y0 y1 y2
                      have HT : Aside0 ((!(l.take (k + 1)).any (badE (i : Int) (av : Int) sk)) = ((!(l.take k).any (badE (i : Int) (av : Int) sk)) && !badE (i : Int) (av : Int) sk l[k])) := ⟨by rw [List.take_succ_eq_append_getElem hlk, List.any_append]; simp only [List.any_cons, List.any_nil, Bool.or_false, Bool.not_or]⟩
                      clear er
                      generalize l[k] = x at y0 y1 y2 HT
                      obtain ⟨e0, e1, e2⟩ := x
                      dsimp only at y0 y1 y2
                      generalize (!(l.take k).any (badE (i : Int) (av : Int) sk)) = fb at HT ⊢
                      by_cases h0 : e0 = (i : Int)
                      · have d0 : decide (e0 = (i : Int)) = true := decide_eq_true h0
                        by_cases h1 : e1 = (av : Int)
                        · have d1 : decide (e1 = (av : Int)) = true := decide_eq_true h1
                          by_cases h2 : e2 = sk
                          · subst h2
                            have HT2 : Aside0 ((!(l.take (k + 1)).any (badE (i : Int) (av : Int) e2)) = fb) := ⟨by rw [HT.out, badE]; simp [h0, h1]⟩
                            go_wp2_with fail
                            go_roundg (l.length - (k + 1))
                            case measure => omega
                            case rel => exact ⟨k + 1, by omega, by omega, by go_num, by rw [HT2.out], rfl⟩
                          · have d2 : e2 = !sk := by revert h2; cases e2 <;> cases sk <;> simp
                            subst d2
                            cases sk
                            · have HT2 : Aside0 ((!(l.take (k + 1)).any (badE (i : Int) (av : Int) false)) = false) := ⟨by rw [HT.out, badE]; simp [h0, h1]⟩
                              go_wp2_with fail
                              go_roundg (l.length - (k + 1))
                              case measure => omega
                              case rel => exact ⟨k + 1, by omega, by omega, by go_num, by rw [HT2.out], rfl⟩
                            · have HT2 : Aside0 ((!(l.take (k + 1)).any (badE (i : Int) (av : Int) true)) = false) := ⟨by rw [HT.out, badE]; simp [h0, h1]⟩
                              go_wp2_with fail
                              go_roundg (l.length - (k + 1))
                              case measure => omega
                              case rel => exact ⟨k + 1, by omega, by omega, by go_num, by rw [HT2.out], rfl⟩
                        · have d1 : decide (e1 = (av : Int)) = false := decide_eq_false h1
                          have HT2 : Aside0 ((!(l.take (k + 1)).any (badE (i : Int) (av : Int) sk)) = false) := ⟨by rw [HT.out, badE]; simp [h0, h1]⟩
                          go_wp2_with fail
                          go_roundg (l.length - (k + 1))
                          case measure => omega
                          case rel => exact ⟨k + 1, by omega, by omega, by go_num, by rw [HT2.out], rfl⟩
                      · have d0 : decide (e0 = (i : Int)) = false := decide_eq_false h0
                        have HT2 : Aside0 ((!(l.take (k + 1)).any (badE (i : Int) (av : Int) sk)) = fb) := ⟨by rw [HT.out, badE]; simp [h0]⟩
                        go_wp2_with fail
                        go_roundg (l.length - (k + 1))
                        case measure => omega
                        case rel => exact ⟨k + 1, by omega, by omega, by go_num, by rw [HT2.out], rfl⟩
                    · have hlkz : ¬ (k : Int) < (l.length : Int) := by omega
                      have hkk : k = l.length := by omega
                      rw [hkk, List.take_length]
                      clear hkk
                      generalize l.any (badE (i : Int) (av : Int) sk) = ab at HNEW ⊢
                      cases ab with
                      | true =>
                        go_wp2_with fail
                        go_roundg (103 - (m + 1))
                        case measure => omega
                        case rel => exact ⟨m + 1, by omega, by omega, by go_num, ⟨.inr HCK.out⟩, HXm, HRm, HNm, HCm, ⟨HZm.out.congr (fun y _ => by rw [HNEW.out]; simp)⟩⟩
                      | false =>
                        have t0 := HZm.out.cell (j := av) (by omega)
                        have t1 := HZm.out.frozen av
                        generalize (finStep can l (i : Int) d now f (av : Int) || finOne can l (i : Int) d (f : Int) m (av : Int)) = tv at t0
                        have hg2 : w.heap.size + 1 + 1 < gn := by have := HGN.out; omega
                        have HXn : Aside0 (BoxAt w (wr.setCell ⟨gn, av, none⟩ (.bool true)) A0 c0 sends.length A1 c1 routes.length pat) := ⟨HXm.out.far (p := ⟨gn, av, none⟩) (by simp; omega) _⟩
                        have HRn : Aside0 (RSet (wr.setCell ⟨gn, av, none⟩ (.bool true)) (w.heap.size + 1) (fun _ => false)) := ⟨HRm.out.far (p := ⟨gn, av, none⟩) (by simp; omega) _⟩
                        have HNn : Aside0 (RSet (wr.setCell ⟨gn, av, none⟩ (.bool true)) (w.heap.size + 1 + 1) now) := ⟨HNm.out.far (p := ⟨gn, av, none⟩) (by simp; omega) _⟩
                        have HCn : Aside0 (RSet (wr.setCell ⟨gn, av, none⟩ (.bool true)) gc can) := ⟨HCm.out.far (p := ⟨gn, av, none⟩) (by have := HGC.out; simp; omega) _⟩
                        have HZn : Aside0 (RSet (wr.setCell ⟨gn, av, none⟩ (.bool true)) gn (fun y => finStep can l (i : Int) d now f y || finOne can l (i : Int) d (f : Int) (m + 1) y)) := ⟨(HZm.out.put hav2 true).congr (fun y _ => by
                          rw [HNEW.out, ← Bool.or_assoc]
                          by_cases e : (y : Int) = (av : Int)
                          · rw [if_pos e, beq_iff_eq.2 e]; simp
                          · rw [if_neg e, beq_eq_false_iff_ne.2 e]; simp)⟩
                        clear hg2
                        go_wp2_with fail
                        go_roundg (103 - (m + 1))
                        case measure => omega
                        case rel => exact ⟨m + 1, by omega, by omega, by go_num, ⟨.inr HCK.out⟩, HXn, HRn, HNn, HCn, HZn⟩
            · have hle : ¬ (m : Int) ≤ 101 := by omega
              have HNXT := Aside0.mk (NEXT.out (.inl (by omega)))
              go_wp2_with fail
              go_roundg (101 - (f + 1))
              case measure => omega
              case rel => exact ⟨f + 1, by omega, by omega, by go_num, HXm, HRm, HNm, HCm, HNXT⟩
        · have hlfz : ¬ (f : Int) ≤ 100 := by omega
          have hff : f = 101 := by omega
          have HNF : Aside0 (RSet wf gn (finL rs pat l 0 (sends.take (i + 1)) zer)) := ⟨by
            rw [HTK.out, ← hff]
            exact HZf.out⟩
          clear hff
          have hg2 : w.heap.size + 1 + 1 < gc := by have := HGN.out; have := HGC.out; omega
          obtain ⟨nx, hnx⟩ : ∃ nx, finL rs pat l 0 (sends.take (i + 1)) zer = nx := ⟨_, rfl⟩
          rw [hnx] at HNF
          have HNX := Aside0.mk hnx
          clear hnx
          go_wp2_with (first
            | (refine wpList_load_row rfl 50 _ rfl gn rfl 50 _ (0, 0) _ HNF.out Try.underlying50 rfl (by rw [rcells_size]; exact info50s) ?_)
            | (refine wpList_store_row rfl 50 _ _ rfl (w.heap.size + 1 + 1) (rcells nx) rfl rfl 50 _ HNf.out (by rw [rcells_size]; exact info50s) (by rw [rcells_size, rcells_size]) (rcells_one _) ?_))
          go_roundg (ni + 1 - (i + 1))
          case measure => omega
          case rel => exact ⟨i + 1, by omega, by omega, by go_num, ⟨HXf.out.row (by omega) _⟩, ⟨HRf.out.row (by omega) _⟩, ⟨by rw [HNX.out]; exact setRow_heap _ _ _ _ _ _ HNf.out⟩⟩
    · have hltz : ¬ (i : Int) ≤ (ni : Int) := by omega
      have hii : i = ni + 1 := by omega
      have HFN : Aside0 (RSet wm (w.heap.size + 1 + 1) R) := ⟨by
        rw [← HRR.out, ← hii]
        exact HN.out⟩
      clear hii
      go_wp2_with (first
        | (refine wpList_load_row rfl 50 _ rfl (w.heap.size + 1 + 1) rfl 50 _ (0, 0) _ HFN.out Try.underlying50 rfl (by rw [rcells_size]; exact info50s) ?_)
        | (refine wpList_store_row rfl 50 _ _ rfl (w.heap.size + 1) (rcells R) rfl rfl 50 _ HR.out (by rw [rcells_size]; exact info50s) (by rw [rcells_size, rcells_size]) (rcells_one _) ?_))
      refine bodyPost_ret (results_cell_row rfl _ _ (w.heap.size + 1) 50 (rcells R) (0, 0) _ rfl (setRow_heap _ _ _ _ _ _ HR.out) Try.underlying50 rfl (by rw [rcells_size]; exact info50s)) rfl ⟨rfl, below_setRow HX.out.below (by omega) _⟩
end Go.Proofs.Ytiephlhohgohcaa.PAll
namespace Go.Proofs.Ytiephlhohgohcaa.PAll
open Go.RowKit Go.Proofs.YtiephlhohgohcaaW.PrintWords Go.Proofs.YtiephlhohgohcaaW.PrintLast Go.Proofs.YtiephlhohgohcaaW.PrintMore
set_option linter.unusedVariables false
set_option linter.unusedSimpArgs false
theorem loK_spec (f : Int → Bool) : ∀ k : Nat, k ≤ 102 → (∀ y : Nat, y < k → f y = true → loK f k ≤ y) ∧ ((loK f k = 102 ∧ ∀ y : Nat, y < k → f y = false) ∨ ∃ y : Nat, y < k ∧ f y = true ∧ loK f k = y)
  | 0, _ => ⟨fun y hy => by omega, .inl ⟨rfl, fun y hy => by omega⟩⟩
  | k + 1, hk => by
    obtain ⟨h1, h2⟩ := loK_spec f k (by omega)
    rw [loK]
    cases hf : f (k : Int) with
    | true =>
      rw [if_pos rfl]
      refine ⟨fun y hy hy2 => ?_, .inr ?_⟩
      · by_cases e : y = k
        · subst e; omega
        · have := h1 y (by omega) hy2; omega
      · rcases h2 with ⟨h2, _⟩ | ⟨y, hy, hy2, h2⟩
        · exact ⟨k, by omega, hf, by omega⟩
        · have := h1 y hy hy2
          exact ⟨y, by omega, hy2, by omega⟩
    | false =>
      rw [if_neg (by simp)]
      refine ⟨fun y hy hy2 => ?_, ?_⟩
      · by_cases e : y = k
        · subst e; rw [hf] at hy2; cases hy2
        · exact h1 y (by omega) hy2
      · rcases h2 with ⟨h2, h3⟩ | ⟨y, hy, hy2, h2⟩
        · refine .inl ⟨h2, fun y hy => ?_⟩
          by_cases e : y = k
          · subst e; exact hf
          · exact h3 y (by omega)
        · exact .inr ⟨y, by omega, hy2, h2⟩
theorem hiK_spec (f : Int → Bool) : ∀ k : Nat, (∀ y : Nat, y < k → f y = true → (y : Int) ≤ hiK f k) ∧ ((hiK f k = -1 ∧ ∀ y : Nat, y < k → f y = false) ∨ ∃ y : Nat, y < k ∧ f y = true ∧ hiK f k = y)
  | 0 => ⟨fun y hy => by omega, .inl ⟨rfl, fun y hy => by omega⟩⟩
  | k + 1 => by
    obtain ⟨h1, h2⟩ := hiK_spec f k
    rw [hiK]
    cases hf : f (k : Int) with
    | true =>
      rw [if_pos rfl]
      exact ⟨fun y hy hy2 => by omega, .inr ⟨k, by omega, hf, rfl⟩⟩
    | false =>
      rw [if_neg (by simp)]
      refine ⟨fun y hy hy2 => ?_, ?_⟩
      · by_cases e : y = k
        · subst e; rw [hf] at hy2; cases hy2
        · exact h1 y (by omega) hy2
      · rcases h2 with ⟨h2, h3⟩ | ⟨y, hy, hy2, h2⟩
        · refine .inl ⟨h2, fun y hy => ?_⟩
          by_cases e : y = k
          · subst e; exact hf
          · exact h3 y (by omega)
        · exact .inr ⟨y, by omega, hy2, h2⟩
/-- The least and the greatest number of a set. -/
def EndsOf (f : Int → Bool) (a b : Int) : Prop := 0 ≤ a ∧ b ≤ 101 ∧ f a = true ∧ f b = true ∧ ∀ y : Nat, f y = true → y ≤ 101 → a ≤ y ∧ (y : Int) ≤ b
theorem EndsOf.lo {f : Int → Bool} {a b : Int} (h : EndsOf f a b) (ha : a ≤ 101) : loK f 102 = a := by
  obtain ⟨h0, h1, h2, h3, h4⟩ := h
  obtain ⟨s1, s2⟩ := loK_spec f 102 (by omega)
  have e : ((a.toNat : Nat) : Int) = a := Int.toNat_of_nonneg h0
  have := s1 a.toNat (by omega) (by rw [e]; exact h2)
  rcases s2 with ⟨s2, _⟩ | ⟨y, hy, hy2, s2⟩
  · omega
  · have := h4 y hy2 (by omega); omega
theorem EndsOf.hi {f : Int → Bool} {a b : Int} (h : EndsOf f a b) (hb : 0 ≤ b) : hiK f 102 = b := by
  obtain ⟨h0, h1, h2, h3, h4⟩ := h
  obtain ⟨s1, s2⟩ := hiK_spec f 102
  have e : ((b.toNat : Nat) : Int) = b := Int.toNat_of_nonneg hb
  have := s1 b.toNat (by omega) (by rw [e]; exact h3)
  rcases s2 with ⟨s2, _⟩ | ⟨y, hy, hy2, s2⟩
  · omega
  · have := h4 y hy2 (by omega); omega
end Go.Proofs.Ytiephlhohgohcaa.PAll
namespace Go.Proofs.Ytiephlhohgohcaa.PAll
open Go.RowKit Go.Proofs.YtiephlhohgohcaaW.PrintWords Go.Proofs.YtiephlhohgohcaaW.PrintLast Go.Proofs.YtiephlhohgohcaaW.PrintMore
set_option linter.unusedVariables false
set_option linter.unusedSimpArgs false
theorem wrong_bad (n f h d : Int) (x : S108) : wrongB n (recvE n f h d) (toE x) = badE n (recvE n f h d).f1 (recvE n f h d).f2 x := by
  obtain ⟨a, b, c⟩ := x
  rw [Bool.eq_iff_iff]
  simp only [wrongB, badE, toE, recvE, Bool.and_eq_true, beq_iff_eq, Bool.not_eq_true', decide_eq_false_iff_not, S87.mk.injEq, Bool.or_eq_true, bne_iff_ne, ne_eq]
  constructor
  · rintro ⟨h1, h2⟩
    refine ⟨h1, ?_⟩
    by_cases h3 : b = max f (min h d)
    · exact .inr (fun h4 => h2 ⟨h1, h3, h4⟩)
    · exact .inl h3
  · rintro ⟨h1, h2⟩
    refine ⟨h1, ?_⟩
    rintro ⟨_, h3, h4⟩
    rcases h2 with h2 | h2
    · exact h2 h3
    · exact h2 h4
theorem goodB_eq {rs : List S122} {pat : Int} (l : List S108) (n f s : Int) (h : Nat) (hs : SetsOk rs s) (hh : h < 102) : goodB rs pat (l.map toE) n f s (h : Int) = (comL rs s (h : Int) && !l.any (badE n (recvE n f h (s + pat)).f1 (recvE n f h (s + pat)).f2)) := by
  rw [goodB, comL_can rs hs h (by omega)]
  congr 2
  rw [List.any_map]
  congr 1
  funext x
  exact wrong_bad n f h (s + pat) x
theorem srchL_some {rs : List S122} {pat : Int} (l : List S87) (s : Int) (ss : List Int) (n f : Int) : (srchL rs pat l (s :: ss) n f).isSome = true ↔ ∃ h : Nat, h < 102 ∧ goodB rs pat l n f s (h : Int) = true ∧ (srchL rs pat l ss (n + 1) (recvE n f h (s + pat)).f1).isSome = true := by
  rw [srchL_cons, List.findSome?_isSome_iff]
  constructor
  · rintro ⟨h, hh, h1⟩
    refine ⟨h, List.mem_range.1 hh, ?_⟩
    rw [tryL] at h1
    cases hg : goodB rs pat l n f s (h : Int) with
    | true => rw [hg, if_pos rfl] at h1; exact ⟨rfl, by simpa using h1⟩
    | false => rw [hg] at h1; simp at h1
  · rintro ⟨h, hh, h1, h2⟩
    refine ⟨h, List.mem_range.2 hh, ?_⟩
    rw [tryL, if_pos h1]
    simpa using h2
theorem finL_srch {rs : List S122} {pat : Int} (hp : 0 ≤ pat ∧ pat ≤ 30) (l : List S108) : ∀ (ss : List Int) (n : Int) (now : Int → Bool), (∀ s ∈ ss, 0 ≤ s ∧ s ≤ 30 ∧ SetsOk rs s) → (now 101 = false) →
    ((∃ y : Nat, y < 102 ∧ finL rs pat l n ss now y = true) ↔ ∃ f : Nat, f < 101 ∧ now f = true ∧ (srchL rs pat (l.map toE) ss n f).isSome = true)
  | [], n, now, _, h101 => by
    simp only [finL, srchL, Option.isSome_some, and_true]
    constructor
    · rintro ⟨y, hy, h⟩
      have : y ≠ 101 := fun e => by rw [e] at h; exact absurd h (by rw [show ((101 : Nat) : Int) = 101 from rfl, h101]; simp)
      exact ⟨y, by omega, h⟩
    · rintro ⟨y, hy, h⟩; exact ⟨y, by omega, h⟩
  | s :: ss, n, now, hs, h101 => by
    obtain ⟨s0, s1, so⟩ := hs s List.mem_cons_self
    have hlow : ∀ f h : Nat, f < 101 → h < 102 → 0 ≤ (recvE n f h (s + pat)).f1 ∧ (recvE n f h (s + pat)).f1 ≤ 100 := fun f h hf hh => by
      have e : (recvE n f h (s + pat)).f1 = max (f : Int) (min (h : Int) (s + pat)) := rfl
      omega
    have hst : ∀ y : Int, finStep (comL rs s) l n (s + pat) now 101 y = true ↔ ∃ f h : Nat, f < 101 ∧ h < 102 ∧ now f = true ∧ goodB rs pat (l.map toE) n f s (h : Int) = true ∧ y = (recvE n f h (s + pat)).f1 := fun y => by
      simp only [finStep, finOne, List.any_eq_true, List.mem_range, Bool.and_eq_true, beq_iff_eq]
      constructor
      · rintro ⟨f, hf, h1, h, hh, ⟨h2, h3⟩, h4⟩
        exact ⟨f, h, hf, hh, h1, by rw [goodB_eq l n f s h so hh, Bool.and_eq_true]; exact ⟨h2, h3⟩, h4⟩
      · rintro ⟨f, h, hf, hh, h1, h2, h4⟩
        rw [goodB_eq l n f s h so hh, Bool.and_eq_true] at h2
        exact ⟨f, hf, h1, h, hh, h2, h4⟩
    rw [finL, finL_srch hp l ss (n + 1) _ (fun t ht => hs t (List.mem_cons_of_mem _ ht))]
    · constructor
      · rintro ⟨f', hf', h1, h2⟩
        rw [hst] at h1
        obtain ⟨f, h, hf, hh, h3, h4, h5⟩ := h1
        refine ⟨f, hf, h3, ?_⟩
        rw [srchL_some]
        exact ⟨h, hh, h4, by rw [← h5]; exact h2⟩
      · rintro ⟨f, hf, h1, h2⟩
        rw [srchL_some] at h2
        obtain ⟨h, hh, h3, h4⟩ := h2
        have hl := hlow f h hf hh
        have e : (((recvE n f h (s + pat)).f1.toNat : Nat) : Int) = (recvE n f h (s + pat)).f1 := Int.toNat_of_nonneg hl.1
        refine ⟨(recvE n f h (s + pat)).f1.toNat, by omega, ?_, ?_⟩
        · rw [hst]
          exact ⟨f, h, hf, hh, h1, h3, e⟩
        · rw [e]; exact h4
    · cases hc : finStep (comL rs s) l n (s + pat) now 101 101 with
      | false => rfl
      | true =>
        rw [hst] at hc
        obtain ⟨f, h, hf, hh, _, _, h5⟩ := hc
        have := hlow f h hf hh
        omega
/-- What the reference's Explained says. -/
def explB (rs : List S122) (pat : Int) (sends : List Int) (l : List S108) : Bool := decide (0 ≤ hiK (finL rs pat l 0 sends zer) 102)
theorem expl_srch {sends : List Int} {rs : List S122} {pat : Int} (V : Valid sends rs pat) (l : List S108) : explB rs pat sends l = (srchL rs pat (l.map toE) sends 0 0).isSome := by
  have h := finL_srch V.p0 l sends 0 zer (fun s hs => by have := V.s0 s hs; exact ⟨this.1, this.2, V.setsOk hs⟩) rfl
  have hk := hiK_spec (finL rs pat l 0 sends zer) 102
  rw [Bool.eq_iff_iff, explB, decide_eq_true_eq]
  constructor
  · intro h0
    rcases hk.2 with ⟨h1, _⟩ | ⟨y, hy, hy2, _⟩
    · omega
    · obtain ⟨f, hf, h1, h2⟩ := h.1 ⟨y, hy, hy2⟩
      simp only [zer, beq_iff_eq] at h1
      have : f = 0 := by omega
      subst this
      exact h2
  · intro h0
    obtain ⟨y, hy, hy2⟩ := h.2 ⟨0, by omega, rfl, h0⟩
    have := hk.1 y hy hy2
    omega
end Go.Proofs.Ytiephlhohgohcaa.PAll
namespace Go.Proofs.Ytiephlhohgohcaa.PAll
open Go.RowKit Go.Proofs.YtiephlhohgohcaaW.PrintWords Go.Proofs.YtiephlhohgohcaaW.PrintLast Go.Proofs.YtiephlhohgohcaaW.PrintMore
attribute [local go_sem] max2_int min2_int max_two min_two max_three min_three max_four min_four
set_option linter.unusedVariables false
set_option linter.unusedSimpArgs false
set_option maxRecDepth 100000 in
set_option maxHeartbeats 4000000 in
theorem explained63 (A0 : Option Addr) (c0 : Nat) (sends : List Int) (A1 : Option Addr) (c1 : Nat) (routes : List S54) (pat : Int) (rs : List S122) (w : World) (hrs : rs = routes.map toX) (h : PostAt w A0 c0 sends A1 c1 routes) (V : Valid sends rs pat)
    (A2 : Option Addr) (c2 : Nat) (l : List S108) (hl : Kd.C k108 w A2 l.length l) (hlc : l.length ≤ 1000) :
    Calls Try.prog 63 #[.agg #[.slice A0 sends.length c0, .slice A1 routes.length c1, .int .i64 pat], .slice A2 l.length c2] w fun e w' => e = .returned (.bool (explB rs pat sends l)) ∧ Below w.heap.size w w' := by
  obtain ⟨m, hm⟩ : ∃ m, sends.length = m + 1 := ⟨sends.length - 1, by have := V.s1; omega⟩
  have hm4 : m + 1 ≤ 4 := by have := V.sn; omega
  have hw : wrap64 ((sends.length : Int) - 1) = (m : Int) := by rw [hm]; unfold wrap64; omega
  have HCT : Aside0 (∀ w', Below w.heap.size w w' → Calls Try.prog 37 #[.agg #[.slice A0 sends.length c0, .slice A1 routes.length c1, .int .i64 pat], .int .i64 (m : Int), .slice A2 l.length c2] w' fun e w'' => e = .returned (.agg (rcells (finL rs pat l 0 sends zer))) ∧ Below w'.heap.size w' w'') := ⟨fun w' hb => by
    have := finishes37 A0 c0 sends A1 c1 routes pat rs w' hrs (h.below hb) V m (by omega) A2 c2 l (Kd.C_below hl hb) hlc
    rwa [← hm, List.take_length] at this⟩
  rw [explB]
  generalize finL rs pat l 0 sends zer = fs at HCT ⊢
  obtain ⟨R, hR⟩ : ∃ R, decide (0 ≤ hiK fs 102) = R := ⟨_, rfl⟩
  have HRR := Aside0.mk hR
  rw [hR]
  clear h V hl hrs hm hR
  obtain ⟨W1, hW1⟩ : ∃ W1, W1 = w.alloc (.cells #[.slice A0 sends.length c0, .slice A1 routes.length c1, .int .i64 pat] 25) := ⟨_, rfl⟩
  have hx := BoxAt.start w A0 c0 sends.length A1 c1 routes.length pat
  rw [← hW1] at hx
  have HX := Aside0.mk hx
  have x0 := hx.x0
  have x1 := hx.x1
  have x2 := hx.x2
  have HW1 := Aside0.mk hW1
  clear hx hW1
  go_enter Try.func63, Try.ntmps63
  go_wp2_with fail
  rw [← HW1.out]
  clear HW1
  refine (HCT.out _ HX.out.below).mono ?_
  rintro e w2 ⟨rfl, hb⟩
  replace HX := Aside0.mk (HX.out.later hb)
  clear hb x0 x1 x2
  go_wp2_with fail
  refine (ends36 fs w2).mono ?_
  rintro e w3 ⟨rfl, hb⟩
  replace HX := Aside0.mk (HX.out.later hb)
  clear hb
  rw [HRR.out]
  generalize loK fs 102 = lv
  generalize hiK fs 102 = hv
  go_wp2_with fail
  go_ret
  exact ⟨rfl, HX.out.below.alloc HX.out.below.size _⟩
/-- The error of entries for a valid post. -/
def entF (sends : List Int) (l : List S108) : Int := if 8 < l.length then 3 else if l.all (fun x => entOk sends (toE x)) = true then 0 else 2
set_option maxRecDepth 100000 in
set_option maxHeartbeats 1000000 in
theorem entriesFault111 (A0 : Option Addr) (c0 : Nat) (sends : List Int) (A1 : Option Addr) (c1 n1 : Nat) (pat : Int) (w : World) (hs : sends.length ≤ 100)
    (A2 : Option Addr) (c2 : Nat) (l : List S108) (hl : Kd.C k108 w A2 l.length l) :
    Calls Try.prog 111 #[.agg #[.slice A0 sends.length c0, .slice A1 n1 c1, .int .i64 pat], .slice A2 l.length c2] w fun e w' => e = .returned (.int .i64 (entF sends l)) ∧ Below w.heap.size w w' := by
  have HLK := Aside0.mk hl
  obtain ⟨R, hR⟩ : ∃ R, entF sends l = R := ⟨_, rfl⟩
  have HRR := Aside0.mk hR
  rw [hR]
  clear hl hR
  obtain ⟨W1, hW1⟩ : ∃ W1, W1 = w.alloc (.cells #[.slice A0 sends.length c0, .slice A1 n1 c1, .int .i64 pat] 25) := ⟨_, rfl⟩
  have hx := BoxAt.start w A0 c0 sends.length A1 c1 n1 pat
  rw [← hW1] at hx
  have HX1 := Aside0.mk hx
  have HW1 := Aside0.mk hW1
  clear hx hW1
  by_cases h8 : 8 < l.length
  · have h8z : (l.length : Int) > 8 := by omega
    have HE : Aside0 (R = 3) := ⟨by rw [← HRR.out, entF, if_pos h8]⟩
    go_enter Try.func111, Try.ntmps111
    go_wp2_with fail
    rw [← HW1.out]
    go_ret
    exact ⟨by rw [HE.out]; rfl, HX1.out.below⟩
  · have h8z : ¬ (l.length : Int) > 8 := by omega
    have HE : Aside0 (R = if l.all (fun x => entOk sends (toE x)) = true then 0 else 2) := ⟨by rw [← HRR.out, entF, if_neg h8]⟩
    have hw : wrap64 ((sends.length : Int) - 1) = (sends.length : Int) - 1 := by unfold wrap64; omega
    go_enter Try.func111, Try.ntmps111
    go_wp2_with fail
    rw [← HW1.out]
    clear HW1
    go_loopg [5] l.length (fun gg s5 wr => ∃ k : Nat, k ≤ l.length ∧ l.length - k ≤ gg ∧ s5 = .int .i64 k ∧ Aside0 (BoxAt w wr A0 c0 sends.length A1 c1 n1 pat) ∧ Aside0 ((l.take k).all (fun x => entOk sends (toE x)) = true))
    case atStart => exact ⟨0, by omega, by omega, rfl, HX1, ⟨by rw [List.take_zero]; rfl⟩⟩
    case round =>
      obtain ⟨k, hk, hgk, rfl, HX, HT⟩ := hrel
      clear HX1
      obtain ⟨wk, rfl⟩ : ∃ wk : World, wk = wr := ⟨_, rfl⟩
      by_cases hlt : k < l.length
      · have hltz : (k : Int) < (l.length : Int) := by omega
        obtain ⟨ad, ea, y0, y1, y2⟩ := at_T108 (Kd.C_below HLK.out HX.out.below) (k : Int) (by omega) hltz
        cases ea
        have er : rd_T108 l (k : Int) = l[k] := by unfold rd_T108; rw [Int.toNat_natCast, rd_in _ _ _ hlt]
        rw [er, Int.toNat_natCast] at y0 y1 y2
        have HTN : Aside0 ((l.take (k + 1)).all (fun x => entOk sends (toE x)) = entOk sends (toE l[k])) := ⟨by rw [List.take_succ_eq_append_getElem hlt, List.all_append, HT.out, Bool.true_and]; simp only [List.all_cons, List.all_nil, Bool.and_true]⟩
        have HBAD : Aside0 (entOk sends (toE l[k]) = false → R = 2) := ⟨fun hb => by
          rw [HE.out, if_neg]
          rw [List.all_eq_true]
          intro ha
          rw [ha _ (List.getElem_mem hlt)] at hb
          cases hb⟩
        clear er
        generalize l[k] = x at y0 y1 y2 HTN HBAD
        obtain ⟨e0, e1, e2⟩ := x
        dsimp only at y0 y1 y2
        have HIN1 : Aside0 (∀ w', Calls Try.prog 30 #[.int .i64 e0, .int .i64 0, .int .i64 ((sends.length : Int) - 1)] w' fun e w'' => e = .returned (.bool (inB 0 ((sends.length : Int) - 1) e0)) ∧ Drawn0 w' w'') := ⟨fun w' => glisterref05_In.calls e0 0 ((sends.length : Int) - 1) _ w' (in_f _ _ _)⟩
        have HIN2 : Aside0 (∀ w', Calls Try.prog 30 #[.int .i64 e1, .int .i64 0, .int .i64 100] w' fun e w'' => e = .returned (.bool (inB 0 100 e1)) ∧ Drawn0 w' w'') := ⟨fun w' => glisterref05_In.calls e1 0 100 _ w' (in_f _ _ _)⟩
        have HOK : Aside0 (entOk sends (toE ⟨e0, e1, e2⟩) = (inB 0 ((sends.length : Int) - 1) e0 && inB 0 100 e1)) := ⟨rfl⟩
        generalize entOk sends (toE ⟨e0, e1, e2⟩) = ok at HTN HBAD HOK
        generalize inB 0 ((sends.length : Int) - 1) e0 = b0 at HIN1 HOK
        generalize inB 0 100 e1 = b1 at HIN2 HOK
        have x0 := HX.out.x0
        cases b0 with
        | false =>
          go_wp2_with fail
          go_quiet (first | (go_at_call 30; (with_reducible refine (HIN1.out _).mono ?_); rintro e w' ⟨rfl, ⟨nd, rfl⟩⟩; (try first | exact ⟨rfl, _, World.drewN_drewN _ _ _⟩ | exact ⟨rfl, _, Eq.trans (World.drewN_drewN _ _ _) (congrArg (World.drewN _) (Nat.add_assoc _ _ _))⟩)) | (go_at_call 30; (with_reducible refine (HIN2.out _).mono ?_); rintro e w' ⟨rfl, ⟨nd, rfl⟩⟩; (try first | exact ⟨rfl, _, World.drewN_drewN _ _ _⟩ | exact ⟨rfl, _, Eq.trans (World.drewN_drewN _ _ _) (congrArg (World.drewN _) (Nat.add_assoc _ _ _))⟩)))
          go_wp2_with fail
          go_ret
          exact ⟨by rw [HBAD.out HOK.out]; rfl, pw_below_drewN HX.out.below _⟩
        | true =>
          cases b1 with
          | false =>
            go_wp2_with fail
            go_quiet (first | (go_at_call 30; (with_reducible refine (HIN1.out _).mono ?_); rintro e w' ⟨rfl, ⟨nd, rfl⟩⟩; (try first | exact ⟨rfl, _, World.drewN_drewN _ _ _⟩ | exact ⟨rfl, _, Eq.trans (World.drewN_drewN _ _ _) (congrArg (World.drewN _) (Nat.add_assoc _ _ _))⟩)) | (go_at_call 30; (with_reducible refine (HIN2.out _).mono ?_); rintro e w' ⟨rfl, ⟨nd, rfl⟩⟩; (try first | exact ⟨rfl, _, World.drewN_drewN _ _ _⟩ | exact ⟨rfl, _, Eq.trans (World.drewN_drewN _ _ _) (congrArg (World.drewN _) (Nat.add_assoc _ _ _))⟩)))
            go_wp2_with fail
            go_ret
            exact ⟨by rw [HBAD.out HOK.out]; rfl, pw_below_drewN HX.out.below _⟩
          | true =>
            go_wp2_with fail
            go_quiet (first | (go_at_call 30; (with_reducible refine (HIN1.out _).mono ?_); rintro e w' ⟨rfl, ⟨nd, rfl⟩⟩; (try first | exact ⟨rfl, _, World.drewN_drewN _ _ _⟩ | exact ⟨rfl, _, Eq.trans (World.drewN_drewN _ _ _) (congrArg (World.drewN _) (Nat.add_assoc _ _ _))⟩)) | (go_at_call 30; (with_reducible refine (HIN2.out _).mono ?_); rintro e w' ⟨rfl, ⟨nd, rfl⟩⟩; (try first | exact ⟨rfl, _, World.drewN_drewN _ _ _⟩ | exact ⟨rfl, _, Eq.trans (World.drewN_drewN _ _ _) (congrArg (World.drewN _) (Nat.add_assoc _ _ _))⟩)))
            go_wp2_with fail
            go_roundg (l.length - (k + 1))
            case measure => omega
            case rel => exact ⟨k + 1, by omega, by omega, by go_num, ⟨HX.out.later (pw_below_drewN (Below.refl _ _) _)⟩, ⟨by rw [HTN.out, HOK.out]; rfl⟩⟩
      · have hltz : ¬ (k : Int) < (l.length : Int) := by omega
        have hkk : k = l.length := by omega
        have HF : Aside0 (R = 0) := ⟨by
          have := HT.out
          rw [hkk, List.take_length] at this
          rw [HE.out, if_pos this]⟩
        go_wp2_with fail
        go_ret
        exact ⟨by rw [HF.out]; rfl, HX.out.below⟩
theorem bookedL_F (sends : List Int) (rs : List S122) (pat : Int) (l : List S108) : bookedL sends rs pat (l.map toE) = if check sends rs pat ≠ 0 then check sends rs pat else entF sends l := by
  rw [bookedL, entF, List.length_map, List.all_map]
  rfl
set_option maxRecDepth 100000 in
set_option maxHeartbeats 4000000 in
theorem booked52 (A0 : Option Addr) (c0 : Nat) (sends : List Int) (A1 : Option Addr) (c1 : Nat) (routes : List S54) (pat : Int) (rs : List S122) (w : World) (hrs : rs = routes.map toX) (h : PostAt w A0 c0 sends A1 c1 routes) (h7 : sends.length ≤ 7)
    (A2 : Option Addr) (c2 : Nat) (l : List S108) (hl : Kd.C k108 w A2 l.length l) :
    Calls Try.prog 52 #[.agg #[.slice A0 sends.length c0, .slice A1 routes.length c1, .int .i64 pat], .slice A2 l.length c2] w fun e w' => e = .returned (.int .i64 (bookedL sends rs pat (l.map toE))) ∧ Below w.heap.size w w' := by
  have HFA : Aside0 (∀ w', Below w.heap.size w w' → Calls Try.prog 25 #[.agg #[.slice A0 sends.length c0, .slice A1 routes.length c1, .int .i64 pat]] w' fun e w'' => e = .returned (.int .i64 (check sends rs pat)) ∧ Below w'.heap.size w' w'') := ⟨fun w' hb => fault25 pat hrs (h.below hb) h7⟩
  have HEF : Aside0 (∀ w', Below w.heap.size w w' → Calls Try.prog 111 #[.agg #[.slice A0 sends.length c0, .slice A1 routes.length c1, .int .i64 pat], .slice A2 l.length c2] w' fun e w'' => e = .returned (.int .i64 (entF sends l)) ∧ Below w'.heap.size w' w'') := ⟨fun w' hb => entriesFault111 A0 c0 sends A1 c1 routes.length pat w' (by omega) A2 c2 l (Kd.C_below hl hb)⟩
  rw [bookedL_F]
  obtain ⟨R, hR⟩ : ∃ R, (if check sends rs pat ≠ 0 then check sends rs pat else entF sends l) = R := ⟨_, rfl⟩
  have HRR := Aside0.mk hR
  rw [hR]
  clear h hl hrs hR
  generalize check sends rs pat = ck at HFA HRR
  generalize entF sends l = ef at HEF HRR
  obtain ⟨W1, hW1⟩ : ∃ W1, W1 = w.alloc (.cells #[.slice A0 sends.length c0, .slice A1 routes.length c1, .int .i64 pat] 25) := ⟨_, rfl⟩
  have hx := BoxAt.start w A0 c0 sends.length A1 c1 routes.length pat
  rw [← hW1] at hx
  have HX := Aside0.mk hx
  have x0 := hx.x0
  have x1 := hx.x1
  have x2 := hx.x2
  have HW1 := Aside0.mk hW1
  clear hx hW1
  go_enter Try.func52, Try.ntmps52
  go_wp2_with fail
  rw [← HW1.out]
  clear HW1
  refine (HFA.out _ HX.out.below).mono ?_
  rintro e w2 ⟨rfl, hb⟩
  replace HX := Aside0.mk (HX.out.later hb)
  clear hb x0 x1 x2
  by_cases hck : ck = 0
  · have HE : Aside0 (ef = R) := ⟨by rw [← HRR.out, if_neg (fun h => h hck)]⟩
    clear HRR
    subst hck
    have x0 := HX.out.x0
    have x1 := HX.out.x1
    have x2 := HX.out.x2
    go_wp2_with fail
    refine (HEF.out _ HX.out.below).mono ?_
    rintro e w3 ⟨rfl, hb⟩
    replace HX := Aside0.mk (HX.out.later hb)
    clear hb
    rw [HE.out]
    go_wp2_with fail
    go_ret
    exact ⟨rfl, HX.out.below⟩
  · have HE : Aside0 (ck = R) := ⟨by rw [← HRR.out, if_pos hck]⟩
    have hcd : decide (ck = 0) = false := decide_eq_false hck
    have hcb : (ck != 0) = true := bne_iff_ne.2 hck
    go_wp2_with fail
    go_ret
    exact ⟨by rw [← HE.out]; rfl, HX.out.below⟩
end Go.Proofs.Ytiephlhohgohcaa.PAll
namespace Go.Proofs.Ytiephlhohgohcaa.PAll
open Go.RowKit Go.Proofs.YtiephlhohgohcaaW.PrintWords Go.Proofs.YtiephlhohgohcaaW.PrintLast Go.Proofs.YtiephlhohgohcaaW.PrintMore
set_option linter.unusedVariables false
set_option linter.unusedSimpArgs false
def lexLt : List Int → List Int → Bool
  | x :: a, y :: b => if x ≠ y then decide (x < y) else lexLt a b
  | _, _ => false
def lessB (a b : List Int) : Bool := if a.length = b.length then lexLt a b else decide (a.length < b.length)
theorem lexLt_irr : ∀ a : List Int, lexLt a a = false
  | [] => rfl
  | x :: a => by rw [lexLt, if_neg (by simp), lexLt_irr a]
theorem lexLt_tot : ∀ a b : List Int, a.length = b.length → a = b ∨ lexLt a b = true ∨ lexLt b a = true
  | [], [], _ => .inl rfl
  | [], y :: b, h => by simp at h
  | x :: a, [], h => by simp at h
  | x :: a, y :: b, h => by
    by_cases e : x = y
    · subst e
      rcases lexLt_tot a b (by simpa using h) with h1 | h1 | h1
      · exact .inl (by rw [h1])
      · exact .inr (.inl (by rw [lexLt, if_neg (by simp)]; exact h1))
      · exact .inr (.inr (by rw [lexLt, if_neg (by simp)]; exact h1))
    · rcases Int.lt_or_gt_of_ne e with h1 | h1
      · exact .inr (.inl (by rw [lexLt, if_pos e]; exact decide_eq_true h1))
      · exact .inr (.inr (by rw [lexLt, if_pos (fun q => e q.symm)]; exact decide_eq_true h1))
theorem lessB_tot (a b : List Int) : a = b ∨ lessB a b = true ∨ lessB b a = true := by
  unfold lessB
  by_cases e : a.length = b.length
  · rw [if_pos e, if_pos e.symm]
    exact lexLt_tot a b e
  · rw [if_neg e, if_neg (fun q => e q.symm)]
    rcases Nat.lt_or_gt_of_ne e with h | h
    · exact .inr (.inl (decide_eq_true h))
    · exact .inr (.inr (decide_eq_true h))
theorem lessB_irr (a : List Int) : lessB a a = false := by rw [lessB, if_pos rfl]; exact lexLt_irr a
theorem lexLt_trans : ∀ a b c : List Int, lexLt a b = true → lexLt b c = true → lexLt a c = true
  | [], _, _, h, _ => by cases ‹List Int› <;> simp [lexLt] at h
  | _ :: _, [], _, h, _ => by simp [lexLt] at h
  | _ :: _, _ :: _, [], _, h => by simp [lexLt] at h
  | x :: a, y :: b, z :: c, h1, h2 => by
    rw [lexLt] at h1 h2 ⊢
    by_cases e1 : x = y
    · subst e1
      rw [if_neg (by simp)] at h1
      by_cases e2 : x = z
      · subst e2
        rw [if_neg (by simp)] at h2 ⊢
        exact lexLt_trans a b c h1 h2
      · rw [if_pos e2] at h2 ⊢; exact h2
    · rw [if_pos e1, decide_eq_true_eq] at h1
      by_cases e2 : y = z
      · subst e2
        rw [if_pos e1]; exact decide_eq_true h1
      · rw [if_pos e2, decide_eq_true_eq] at h2
        rw [if_pos (by omega)]; exact decide_eq_true (by omega)
theorem lessB_trans {a b c : List Int} (h1 : lessB a b = true) (h2 : lessB b c = true) : lessB a c = true := by
  unfold lessB at *
  by_cases e1 : a.length = b.length
  · rw [if_pos e1] at h1
    by_cases e2 : b.length = c.length
    · rw [if_pos e2] at h2
      rw [if_pos (e1.trans e2)]
      exact lexLt_trans a b c h1 h2
    · rw [if_neg e2] at h2
      rw [if_neg (by omega), e1]
      exact h2
  · rw [if_neg e1, decide_eq_true_eq] at h1
    by_cases e2 : b.length = c.length
    · rw [if_neg (by omega)]
      exact decide_eq_true (by omega)
    · rw [if_neg e2, decide_eq_true_eq] at h2
      rw [if_neg (by omega)]
      exact decide_eq_true (by omega)
/-- The indexes of the entries that are left out, and the others. -/
def outs : Int → List Bool → List Int
  | _, [] => []
  | n, b :: bs => if b = true then n :: outs (n + 1) bs else outs (n + 1) bs
def keeps {α : Type} : List α → List Bool → List α
  | x :: xs, b :: bs => if b = true then keeps xs bs else x :: keeps xs bs
  | _, _ => []
theorem outs_ge : ∀ (bs : List Bool) (n : Int), ∀ x ∈ outs n bs, n ≤ x
  | [], _, x, h => by simp [outs] at h
  | b :: bs, n, x, h => by
    cases b with
    | true =>
      rw [outs, if_pos rfl] at h
      rcases List.mem_cons.1 h with h | h
      · omega
      · have := outs_ge bs (n + 1) x h; omega
    | false =>
      rw [outs, if_neg (by simp)] at h
      have := outs_ge bs (n + 1) x h; omega
theorem outs_len : ∀ (bs : List Bool) (n : Int), (outs n bs).length ≤ bs.length
  | [], _ => by simp [outs]
  | b :: bs, n => by
    have := outs_len bs (n + 1)
    rw [outs]
    split
    · simp only [List.length_cons]; omega
    · simp only [List.length_cons]; omega
section
variable (routes : List S122) (pat : Int) (sends : List Int)
/-- The sets of so many entries, in the order in which they are tried. -/
theorem leave_spec : ∀ (xs : List S87) (n : Int) (out : List Int) (kept : List S87) (many : Nat),
    match leaveL routes pat sends xs n out kept many with
    | none => ∀ bs : List Bool, bs.length = xs.length → (outs n bs).length = many → (srchL routes pat (kept ++ keeps xs bs) sends 0 0).isSome = false
    | some r => ∃ bs : List Bool, bs.length = xs.length ∧ (outs n bs).length = many ∧ (srchL routes pat (kept ++ keeps xs bs) sends 0 0).isSome = true ∧ r = out ++ outs n bs ∧
        ∀ bs' : List Bool, bs'.length = xs.length → (outs n bs').length = many → (srchL routes pat (kept ++ keeps xs bs') sends 0 0).isSome = true → lexLt (outs n bs') (outs n bs) = false
  | [], n, out, kept, many => by
    rw [leaveL]
    by_cases hm : 0 < many
    · rw [if_pos hm]
      intro bs hb hl
      obtain rfl : bs = [] := List.length_eq_zero_iff.1 hb
      simp [outs] at hl
      omega
    · rw [if_neg hm]
      obtain rfl : many = 0 := by omega
      cases hs : (srchL routes pat kept sends 0 0).isSome with
      | true =>
        rw [if_pos rfl]
        refine ⟨[], rfl, rfl, by simpa [keeps] using hs, by simp [outs], fun bs' hb' hl' _ => ?_⟩
        obtain rfl : bs' = [] := List.length_eq_zero_iff.1 hb'
        rfl
      | false =>
        rw [if_neg (by simp)]
        intro bs hb hl
        obtain rfl : bs = [] := List.length_eq_zero_iff.1 hb
        simpa [keeps] using hs
  | x :: xs, n, out, kept, many => by
    rw [leaveL]
    by_cases hm : xs.length + 1 < many
    · rw [if_pos hm]
      intro bs hb hl
      have := outs_len bs n
      simp only [List.length_cons] at hb
      omega
    · rw [if_neg hm]
      have drop := leave_spec xs (n + 1) (out ++ [n]) kept (many - 1)
      have keep := leave_spec xs (n + 1) out (kept ++ [x]) many
      -- what follows if the first entry is kept
      have K : (∀ bs : List Bool, bs.length = xs.length → (outs (n + 1) bs).length + 1 = many → (srchL routes pat (kept ++ keeps xs bs) sends 0 0).isSome = false) →
          match leaveL routes pat sends xs (n + 1) out (kept ++ [x]) many with
          | none => ∀ bs : List Bool, bs.length = (x :: xs).length → (outs n bs).length = many → (srchL routes pat (kept ++ keeps (x :: xs) bs) sends 0 0).isSome = false
          | some r => ∃ bs : List Bool, bs.length = (x :: xs).length ∧ (outs n bs).length = many ∧ (srchL routes pat (kept ++ keeps (x :: xs) bs) sends 0 0).isSome = true ∧ r = out ++ outs n bs ∧
              ∀ bs' : List Bool, bs'.length = (x :: xs).length → (outs n bs').length = many → (srchL routes pat (kept ++ keeps (x :: xs) bs') sends 0 0).isSome = true → lexLt (outs n bs') (outs n bs) = false := by
        intro hd
        cases hk : leaveL routes pat sends xs (n + 1) out (kept ++ [x]) many with
        | none =>
          rw [hk] at keep
          intro bs hb hl
          cases bs with
          | nil => simp at hb
          | cons b bs =>
            simp only [List.length_cons, Nat.add_right_cancel_iff] at hb
            cases b with
            | true =>
              rw [outs, if_pos rfl, List.length_cons] at hl
              rw [keeps, if_pos rfl]
              exact hd bs hb hl
            | false =>
              rw [outs, if_neg (by simp)] at hl
              rw [keeps, if_neg (by simp)]
              have := keep bs hb hl
              rwa [List.append_assoc, List.singleton_append] at this
        | some r =>
          rw [hk] at keep
          obtain ⟨bs, h1, h2, h3, h4, h5⟩ := keep
          refine ⟨false :: bs, by simp [h1], by rw [outs, if_neg (by simp)]; exact h2, ?_, by rw [outs, if_neg (by simp)]; exact h4, fun bs' hb' hl' hs' => ?_⟩
          · rw [keeps, if_neg (by simp)]
            rwa [List.append_assoc, List.singleton_append] at h3
          · cases bs' with
            | nil => simp at hb'
            | cons b bs' =>
              simp only [List.length_cons, Nat.add_right_cancel_iff] at hb'
              cases b with
              | true =>
                rw [outs, if_pos rfl, List.length_cons] at hl'
                rw [keeps, if_pos rfl] at hs'
                have := hd bs' hb' hl'
                rw [this] at hs'
                cases hs'
              | false =>
                rw [outs, if_neg (by simp)] at hl' ⊢
                rw [keeps, if_neg (by simp)] at hs'
                rw [outs, if_neg (by simp)]
                exact h5 bs' hb' hl' (by rwa [List.append_assoc, List.singleton_append])
      by_cases hp : 0 < many
      · rw [if_pos hp]
        cases hd : leaveL routes pat sends xs (n + 1) (out ++ [n]) kept (many - 1) with
        | none =>
          rw [hd] at drop
          exact K (fun bs hb hl => drop bs hb (by omega))
        | some r =>
          rw [hd] at drop
          obtain ⟨bs, h1, h2, h3, h4, h5⟩ := drop
          refine ⟨true :: bs, by simp [h1], by rw [outs, if_pos rfl, List.length_cons]; omega, by rw [keeps, if_pos rfl]; exact h3, by rw [outs, if_pos rfl, h4, List.append_assoc, List.singleton_append], fun bs' hb' hl' hs' => ?_⟩
          cases bs' with
          | nil => simp at hb'
          | cons b bs' =>
            simp only [List.length_cons, Nat.add_right_cancel_iff] at hb'
            cases b with
            | true =>
              rw [outs, if_pos rfl, List.length_cons] at hl'
              rw [keeps, if_pos rfl] at hs'
              rw [outs, if_pos rfl, outs, if_pos rfl, lexLt, if_neg (by simp)]
              exact h5 bs' hb' (by omega) hs'
            | false =>
              rw [outs, if_neg (by simp)] at hl'
              rw [outs, if_neg (by simp), outs, if_pos rfl]
              cases ho : outs (n + 1) bs' with
              | nil => rfl
              | cons y ys =>
                have := outs_ge bs' (n + 1) y (by rw [ho]; exact List.mem_cons_self)
                rw [lexLt, if_pos (by omega)]
                exact decide_eq_false (by omega)
      · rw [if_neg hp]
        exact K (fun bs hb hl => by omega)
end
end Go.Proofs.Ytiephlhohgohcaa.PAll
namespace Go.Proofs.Ytiephlhohgohcaa.PAll
open Go.RowKit Go.Proofs.YtiephlhohgohcaaW.PrintWords Go.Proofs.YtiephlhohgohcaaW.PrintLast Go.Proofs.YtiephlhohgohcaaW.PrintMore
set_option linter.unusedVariables false
set_option linter.unusedSimpArgs false
theorem findSome_range {α : Type} {f : Nat → Option α} {r : α} : ∀ {m : Nat}, (List.range m).findSome? f = some r → ∃ k, k < m ∧ f k = some r ∧ ∀ j, j < k → f j = none
  | 0, h => by simp at h
  | m + 1, h => by
    rw [List.range_succ, List.findSome?_append] at h
    cases h1 : (List.range m).findSome? f with
    | some q =>
      rw [h1] at h
      obtain ⟨k, hk, h2, h3⟩ := findSome_range h1
      have e : q = r := by simpa using h
      subst e
      exact ⟨k, by omega, h2, h3⟩
    | none =>
      rw [h1] at h
      rw [List.findSome?_eq_none_iff] at h1
      refine ⟨m, by omega, ?_, fun j hj => h1 j (List.mem_range.2 hj)⟩
      cases hm : f m with
      | none => simp [List.findSome?, hm] at h
      | some q => simpa [List.findSome?, hm] using h
theorem keeps_map (l : List S108) : ∀ bs : List Bool, (keeps l bs).map toE = keeps (l.map toE) bs := by
  induction l with
  | nil => intro bs; cases bs <;> rfl
  | cons x l ih =>
    intro bs
    cases bs with
    | nil => rfl
    | cons b bs =>
      rw [List.map_cons, keeps, keeps]
      cases b with
      | true => rw [if_pos rfl, if_pos rfl]; exact ih bs
      | false => rw [if_neg (by simp), if_neg (by simp), List.map_cons, ih bs]
/-- A smallest set among those without which the others are explained. -/
def Least (E : List Bool → Bool) (n : Nat) (r : List Int) : Prop := (∃ bs : List Bool, bs.length = n ∧ E bs = true ∧ r = outs 0 bs) ∧ ∀ bs : List Bool, bs.length = n → E bs = true → lessB (outs 0 bs) r = false
theorem Least.only {E : List Bool → Bool} {n : Nat} {r q : List Int} (h : Least E n r) (k : Least E n q) : r = q := by
  obtain ⟨⟨a, a1, a2, rfl⟩, a4⟩ := h
  obtain ⟨⟨b, b1, b2, rfl⟩, b4⟩ := k
  rcases lessB_tot (outs 0 a) (outs 0 b) with h | h | h
  · exact h
  · rw [b4 a a1 a2] at h; cases h
  · rw [a4 b b1 b2] at h; cases h
theorem oddL_least {sends : List Int} {rs : List S122} {pat : Int} (V : Valid sends rs pat) (l : List S108) :
    Least (fun bs => explB rs pat sends (keeps l bs)) l.length (oddL rs pat sends (l.map toE)) := by
  have hE : ∀ bs, explB rs pat sends (keeps l bs) = (srchL rs pat (keeps (l.map toE) bs) sends 0 0).isSome := fun bs => by rw [expl_srch V, keeps_map]
  have hall := leaveL_all V (l.map toE) 0 []
  cases hf : (List.range ((l.map toE).length + 1)).findSome? (fun many => leaveL rs pat sends (l.map toE) 0 [] [] many) with
  | none =>
    rw [List.findSome?_eq_none_iff] at hf
    rw [hf _ (List.mem_range.2 (Nat.lt_succ_self _))] at hall
    cases hall
  | some r =>
    rw [oddL, hf]
    obtain ⟨k, hk, h1, h2⟩ := findSome_range hf
    have hs := leave_spec rs pat sends (l.map toE) 0 [] [] k
    rw [h1] at hs
    obtain ⟨bs, b1, b2, b3, b4, b5⟩ := hs
    rw [List.nil_append] at b3 b4
    rw [List.length_map] at b1
    refine ⟨⟨bs, b1, (hE bs).trans b3, b4⟩, fun bs' hb' he' => ?_⟩
    replace he' := (hE bs').symm.trans he'
    show lessB (outs 0 bs') r = false
    rw [b4, lessB]
    by_cases e : (outs 0 bs').length = (outs 0 bs).length
    · rw [if_pos e]
      exact b5 bs' (by rw [List.length_map]; exact hb') (by omega) (by rw [List.nil_append]; exact he')
    · rw [if_neg e]
      refine decide_eq_false (fun hlt => ?_)
      have hn := h2 (outs 0 bs').length (by omega)
      have hs' := leave_spec rs pat sends (l.map toE) 0 [] [] (outs 0 bs').length
      rw [hn] at hs'
      have := hs' bs' (by rw [List.length_map]; exact hb') rfl
      rw [List.nil_append] at this
      rw [this] at he'
      cases he'
/-- The bits of a number. -/
def flg : Nat → Nat → List Bool
  | 0, _ => []
  | n + 1, k => decide (k % 2 = 1) :: flg n (k / 2)
theorem flg_len : ∀ n k : Nat, (flg n k).length = n
  | 0, _ => rfl
  | n + 1, k => by rw [flg, List.length_cons, flg_len n]
theorem flg_all : ∀ bs : List Bool, ∃ k : Nat, k < 2 ^ bs.length ∧ flg bs.length k = bs
  | [] => ⟨0, by simp, rfl⟩
  | b :: bs => by
    obtain ⟨k, hk, h⟩ := flg_all bs
    refine ⟨2 * k + (if b = true then 1 else 0), ?_, ?_⟩
    · rw [List.length_cons, Nat.pow_succ]
      cases b <;> simp <;> omega
    · rw [List.length_cons, flg]
      have e1 : (2 * k + (if b = true then 1 else 0)) / 2 = k := by cases b <;> simp <;> omega
      have e2 : decide ((2 * k + (if b = true then 1 else 0)) % 2 = 1) = b := by cases b <;> simp <;> omega
      rw [e1, e2, h]
theorem flg_max : ∀ n : Nat, flg n (2 ^ n - 1) = List.replicate n true
  | 0 => rfl
  | n + 1 => by
    have hp : 0 < 2 ^ n := Nat.two_pow_pos n
    rw [flg, List.replicate_succ]
    have e1 : (2 ^ (n + 1) - 1) / 2 = 2 ^ n - 1 := by rw [Nat.pow_succ]; omega
    have e2 : (2 ^ (n + 1) - 1) % 2 = 1 := by rw [Nat.pow_succ]; omega
    rw [e1, e2, flg_max n]
    rfl
/-- What the reference has found after so many tries. -/
def bestTo (E : List Bool → Bool) (n : Nat) : Nat → List Int
  | 0 => outs 0 (flg n (2 ^ n - 1))
  | k + 1 => if (lessB (outs 0 (flg n k)) (bestTo E n k) && E (flg n k)) = true then outs 0 (flg n k) else bestTo E n k
theorem bestTo_spec (E : List Bool → Bool) (n : Nat) (h0 : E (List.replicate n true) = true) : ∀ k : Nat, (∃ bs : List Bool, bs.length = n ∧ E bs = true ∧ bestTo E n k = outs 0 bs) ∧ ∀ j : Nat, j < k → E (flg n j) = true → lessB (outs 0 (flg n j)) (bestTo E n k) = false
  | 0 => ⟨⟨List.replicate n true, by simp, h0, by rw [bestTo, flg_max]⟩, fun j hj => by omega⟩
  | k + 1 => by
    obtain ⟨h1, h2⟩ := bestTo_spec E n h0 k
    rw [bestTo]
    cases hc : (lessB (outs 0 (flg n k)) (bestTo E n k) && E (flg n k)) with
    | true =>
      rw [if_pos rfl]
      rw [Bool.and_eq_true] at hc
      refine ⟨⟨flg n k, flg_len n k, hc.2, rfl⟩, fun j hj he => ?_⟩
      by_cases e : j = k
      · subst e; exact lessB_irr _
      · have := h2 j (by omega) he
        cases hl : lessB (outs 0 (flg n j)) (outs 0 (flg n k)) with
        | false => rfl
        | true => rw [lessB_trans hl hc.1] at this; cases this
    | false =>
      rw [if_neg (by simp)]
      refine ⟨h1, fun j hj he => ?_⟩
      by_cases e : j = k
      · subst e
        rw [he, Bool.and_true] at hc
        exact hc
      · exact h2 j (by omega) he
theorem bestTo_least (E : List Bool → Bool) (n : Nat) (h0 : E (List.replicate n true) = true) : Least E n (bestTo E n (2 ^ n)) := by
  obtain ⟨⟨bs, h1, h2, h3⟩, h4⟩ := bestTo_spec E n h0 (2 ^ n)
  refine ⟨⟨bs, h1, h2, h3⟩, fun bs' hb he => ?_⟩
  obtain ⟨k, hk, hf⟩ := flg_all bs'
  rw [hb] at hk hf
  have := h4 k hk (by rw [hf]; exact he)
  rwa [hf] at this
theorem keeps_none {α : Type} : ∀ l : List α, keeps l (List.replicate l.length true) = []
  | [] => rfl
  | x :: l => by
    rw [List.length_cons, List.replicate_succ, keeps, if_pos rfl]
    exact keeps_none l
/-- Both smallest sets are the same. -/
theorem odd_same {sends : List Int} {rs : List S122} {pat : Int} (V : Valid sends rs pat) (l : List S108) : bestTo (fun bs => explB rs pat sends (keeps l bs)) l.length (2 ^ l.length) = oddL rs pat sends (l.map toE) := by
  refine (bestTo_least _ _ ?_).only (oddL_least V l)
  show explB rs pat sends (keeps l (List.replicate l.length true)) = true
  rw [keeps_none, expl_srch V]
  exact srchL_nil V sends 0 0 (fun s hs => hs)
end Go.Proofs.Ytiephlhohgohcaa.PAll
namespace Go.Proofs.Ytiephlhohgohcaa.PAll
open Go.RowKit Go.Proofs.YtiephlhohgohcaaW.PrintWords Go.Proofs.YtiephlhohgohcaaW.PrintLast Go.Proofs.YtiephlhohgohcaaW.PrintMore
set_option linter.unusedVariables false
set_option linter.unusedSimpArgs false
theorem rdT108 {l : List S108} {i : Nat} (h : i < l.length) : rd_T108 l (i : Int) = l[i] := by unfold rd_T108; rw [Int.toNat_natCast, rd_in _ _ _ h]
theorem u64S (i : Nat) (h : i ≤ 1000) : IntKind.u64.wrap (i : Int) = (i : Int) := by
  simp only [IntKind.wrap, IntKind.bits, IntKind.signed]
  simp
  omega
theorem shr_bit (b i : Nat) (h : i ≤ 60) : Int.tmod (shr .i64 (b : Int) (i : Int)) 2 = (((b / 2 ^ i) % 2 : Nat) : Int) := by
  have hm : min i 64 = i := by omega
  have e : shr .i64 (b : Int) (i : Int) = ((b / 2 ^ i : Nat) : Int) := by
    unfold shr
    rw [Int.toNat_natCast, show IntKind.i64.bits = 64 from rfl, hm]
    push_cast
    rfl
  rw [e, Int.tmod_eq_emod_of_nonneg (Int.natCast_nonneg _)]
  push_cast
  rfl
theorem some_l0 (l : List S108) (h60 : l.length ≤ 60) (b : Nat) : ∀ (d i : Nat) (x6 : List S108) (x7 : List Int), i + d = l.length → x6.length ≤ i → x7.length ≤ i →
    Ev (fun k => glisterref05_Some.l0 k l (b : Int) x6 x7 (i : Int)) (x6 ++ keeps (l.drop i) (flg d (b / 2 ^ i)), x7 ++ outs (i : Int) (flg d (b / 2 ^ i)))
  | 0, i, x6, x7, hi, h6, h7 => by
    refine Ev.step (fun k => by rw [glisterref05_Some.l0]) ?_
    refine Ev.no (by omega) ?_
    rw [List.drop_eq_nil_of_le (by omega), flg, outs, keeps, List.append_nil, List.append_nil]
    · exact Ev.now _
    all_goals simp
  | d + 1, i, x6, x7, hi, h6, h7 => by
    have hlt : i < l.length := by omega
    refine Ev.step (fun k => by rw [glisterref05_Some.l0]) ?_
    refine Ev.yes (by omega) ?_
    rw [u64S i (by omega)]
    refine Ev.yes (by omega) ?_
    rw [shr_bit b i (by omega), rdT108 hlt, wrapS i (by omega), List.drop_eq_getElem_cons hlt, flg, keeps, outs]
    have hdiv : b / 2 ^ i / 2 = b / 2 ^ (i + 1) := by rw [Nat.div_div_eq_div_mul, Nat.pow_succ]
    rw [hdiv]
    have hi1 : ((i + 1 : Nat) : Int) = (i : Int) + 1 := by omega
    by_cases hb : (b / 2 ^ i) % 2 = 1
    · refine Ev.no (by omega) (Ev.yes (by omega) ?_)
      rw [decide_eq_true hb, if_pos rfl, if_pos rfl]
      have := some_l0 l h60 b d (i + 1) x6 (x7 ++ [(i : Int)]) (by omega) (by omega) (by simp; omega)
      rw [List.append_assoc, List.singleton_append, hi1] at this
      rw [hi1]
      exact this
    · refine Ev.yes (by omega) (Ev.yes (by omega) (Ev.yes (by omega) ?_))
      rw [decide_eq_false hb, if_neg (by simp), if_neg (by simp)]
      have := some_l0 l h60 b d (i + 1) (x6 ++ [l[i]]) x7 (by omega) (by simp; omega) (by omega)
      rw [List.append_assoc, List.singleton_append, hi1] at this
      rw [hi1]
      exact this
theorem some_f (l : List S108) (h60 : l.length ≤ 60) (b : Nat) : ∃ k, glisterref05_Some.f k l (b : Int) = some (keeps l (flg l.length b), outs 0 (flg l.length b)) := by
  refine Ev.rounds ?_
  have := some_l0 l h60 b l.length 0 [] [] (by omega) (by simp) (by simp)
  simpa [glisterref05_Some.f] using this
theorem less_l0 (x y : List Int) (hx : x.length ≤ 1000) : ∀ (d i : Nat), i + d = x.length → Ev (fun k => glisterref05_Less.l0 k x y (i : Int)) (if x.length = y.length then lexLt (x.drop i) (y.drop i) else decide (x.length < y.length))
  | 0, i, hi => by
    refine Ev.step (fun k => by rw [glisterref05_Less.l0]) (Ev.no (by omega) ?_)
    refine Ev.step (fun k => by rw [glisterref05_Less.j1]) (Ev.no (by simp) ?_)
    rw [List.drop_eq_nil_of_le (show x.length ≤ i by omega)]
    by_cases e : x.length = y.length
    · rw [if_pos e, List.drop_eq_nil_of_le (show y.length ≤ i by omega), decide_eq_false (by omega)]
      exact Ev.now _
    · rw [if_neg e]
      have : decide ((x.length : Int) < (y.length : Int)) = decide (x.length < y.length) := by rw [decide_eq_decide]; omega
      rw [this]
      exact Ev.now _
  | d + 1, i, hi => by
    have hlt : i < x.length := by omega
    refine Ev.step (fun k => by rw [glisterref05_Less.l0]) (Ev.yes (by omega) ?_)
    refine Ev.step (fun k => by rw [glisterref05_Less.j1]) ?_
    by_cases e : x.length = y.length
    · have hly : i < y.length := by omega
      refine Ev.yes (by simp; omega) (Ev.yes (by omega) (Ev.yes (by omega) (Ev.yes (by omega) ?_)))
      rw [if_pos e, rdI hlt, rdI hly, List.drop_eq_getElem_cons hlt, List.drop_eq_getElem_cons hly, lexLt]
      by_cases he : x[i] = y[i]
      · refine Ev.yes he ?_
        rw [if_neg (by simpa using he), wrapS i (by omega)]
        have := less_l0 x y hx d (i + 1) (by omega)
        rwa [if_pos e] at this
      · refine Ev.no he ?_
        rw [if_pos he]
        exact Ev.now _
    · refine Ev.no (by simp; omega) ?_
      rw [if_neg e]
      have : decide ((x.length : Int) < (y.length : Int)) = decide (x.length < y.length) := by rw [decide_eq_decide]; omega
      rw [this]
      exact Ev.now _
theorem less_f (x y : List Int) (hx : x.length ≤ 1000) : ∃ k, glisterref05_Less.f k x y = some (lessB x y) := by
  refine Ev.rounds ?_
  have := less_l0 x y hx x.length 0 (by omega)
  simpa [glisterref05_Less.f, lessB] using this
theorem entries_l0 (l : List S108) (hl : l.length ≤ 1000) : ∀ (d i : Nat) (x3 : List S87), i + d = l.length → x3.length ≤ i → Ev (fun k => glisterlaw05_Entries.l0 k l x3 (i : Int)) (x3 ++ (l.drop i).map toE)
  | 0, i, x3, hi, h3 => by
    refine Ev.step (fun k => by rw [glisterlaw05_Entries.l0]) (Ev.no (by omega) ?_)
    rw [List.drop_eq_nil_of_le (by omega), List.map_nil, List.append_nil]
    exact Ev.now _
  | d + 1, i, x3, hi, h3 => by
    have hlt : i < l.length := by omega
    refine Ev.step (fun k => by rw [glisterlaw05_Entries.l0]) (Ev.yes (by omega) (Ev.yes (by omega) (Ev.yes (by omega) ?_)))
    rw [rdT108 hlt, wrapS i (by omega), List.drop_eq_getElem_cons hlt, List.map_cons]
    have := entries_l0 l hl d (i + 1) (x3 ++ [toE l[i]]) (by omega) (by simp; omega)
    rwa [List.append_assoc, List.singleton_append] at this
theorem entries_f (l : List S108) (hl : l.length ≤ 1000) : ∃ k, glisterlaw05_Entries.f k l = some (l.map toE) := by
  refine Ev.rounds ?_
  have := entries_l0 l hl l.length 0 [] (by omega) (by simp)
  simpa [glisterlaw05_Entries.f] using this
end Go.Proofs.Ytiephlhohgohcaa.PAll
namespace Go.Proofs.Ytiephlhohgohcaa.PAll
open Go.RowKit Go.Proofs.YtiephlhohgohcaaW.PrintWords Go.Proofs.YtiephlhohgohcaaW.PrintLast Go.Proofs.YtiephlhohgohcaaW.PrintMore
attribute [local go_sem] max2_int min2_int max_two min_two max_three min_three max_four min_four
set_option linter.unusedVariables false
set_option linter.unusedSimpArgs false
theorem some59 (A2 : Option Addr) (c2 : Nat) (l : List S108) (w : World) (hl : Kd.C k108 w A2 l.length l) (hc : l.length ≤ c2) (h60 : l.length ≤ 60) (b : Nat) :
    Calls Try.prog 59 #[.slice A2 l.length c2, .int .i64 (b : Int)] w fun e w' => ∃ A c A' c', e = .returned (.tuple #[.slice A (keeps l (flg l.length b)).length c, .slice A' (outs 0 (flg l.length b)).length c']) ∧ (keeps l (flg l.length b)).length ≤ c ∧ Kd.C k108 w' A (keeps l (flg l.length b)).length (keeps l (flg l.length b)) ∧ (outs 0 (flg l.length b)).length ≤ c' ∧ Kd.C (Kd.int .i64) w' A' (outs 0 (flg l.length b)).length (outs 0 (flg l.length b)) ∧ Below w.heap.size w w' := by
  obtain ⟨k, hk⟩ := some_f l h60 b
  refine (glisterref05_Some.calls k A2 c2 l (b : Int) _ _ w hl hc hk).mono ?_
  rintro e w' ⟨v0, v1, rfl, h0, h1, hb⟩
  obtain ⟨A, c, rfl, l0, g0⟩ := Kd.R_reads h0
  obtain ⟨A', c', rfl, l1, g1⟩ := Kd.R_reads h1
  exact ⟨A, c, A', c', rfl, l0, g0, l1, g1, hb⟩
theorem less60 (A0 : Option Addr) (c0 : Nat) (x : List Int) (A1 : Option Addr) (c1 : Nat) (y : List Int) (w : World) (h0 : Kd.C (Kd.int .i64) w A0 x.length x) (l0 : x.length ≤ c0) (h1 : Kd.C (Kd.int .i64) w A1 y.length y) (l1 : y.length ≤ c1) (hx : x.length ≤ 1000) :
    Calls Try.prog 60 #[.slice A0 x.length c0, .slice A1 y.length c1] w fun e w' => e = .returned (.bool (lessB x y)) ∧ Below w.heap.size w w' := by
  obtain ⟨k, hk⟩ := less_f x y hx
  exact (glisterref05_Less.calls k A0 c0 x A1 c1 y _ w h0 l0 h1 l1 hk).mono fun _ _ h => ⟨h.1, by obtain ⟨n, rfl⟩ := h.2.out; exact pw_below_drewN (Below.refl _ _) n⟩
theorem entries51 (A2 : Option Addr) (c2 : Nat) (l : List S108) (w : World) (hl : Kd.C k108 w A2 l.length l) (hc : l.length ≤ c2) (h : l.length ≤ 1000) :
    Calls Try.prog 51 #[.slice A2 l.length c2] w fun e w' => ∃ A c, e = .returned (.slice A (l.map toE).length c) ∧ (l.map toE).length ≤ c ∧ Kd.C k87 w' A (l.map toE).length (l.map toE) ∧ Below w.heap.size w w' := by
  obtain ⟨k, hk⟩ := entries_f l h
  refine (glisterlaw05_Entries.calls k A2 c2 l _ w hl hc hk).mono ?_
  rintro e w' ⟨v0, rfl, h0, hb⟩
  obtain ⟨A, c, rfl, l0, g0⟩ := Kd.R_reads h0
  exact ⟨A, c, rfl, l0, g0, hb⟩
theorem keeps_len {α : Type} : ∀ (l : List α) (bs : List Bool), (keeps l bs).length ≤ l.length
  | [], bs => by cases bs <;> simp [keeps]
  | x :: l, [] => by simp [keeps]
  | x :: l, b :: bs => by
    have := keeps_len l bs
    rw [keeps]
    split
    · simp only [List.length_cons]; omega
    · simp only [List.length_cons]; omega
set_option maxRecDepth 100000 in
set_option maxHeartbeats 2000000 in
theorem refOdd53 (A0 : Option Addr) (c0 : Nat) (sends : List Int) (A1 : Option Addr) (c1 : Nat) (routes : List S54) (pat : Int) (rs : List S122) (w : World) (hrs : rs = routes.map toX) (h : PostAt w A0 c0 sends A1 c1 routes) (V : Valid sends rs pat)
    (A2 : Option Addr) (c2 : Nat) (l : List S108) (hl : Kd.C k108 w A2 l.length l) (hc : l.length ≤ c2) (hlc : l.length ≤ 10) :
    Calls Try.prog 53 #[.agg #[.slice A0 sends.length c0, .slice A1 routes.length c1, .int .i64 pat], .slice A2 l.length c2] w fun e w' => ∃ A c js, e = .returned (.slice A js.length c) ∧ js = bestTo (fun bs => explB rs pat sends (keeps l bs)) l.length (2 ^ l.length) ∧ js.length ≤ c ∧ Kd.C (Kd.int .i64) w' A js.length js ∧ Below w.heap.size w w' := by
  have HEX : Aside0 (∀ w', Below w.heap.size w w' → ∀ (A : Option Addr) (c : Nat) (m : List S108), Kd.C k108 w' A m.length m → m.length ≤ 1000 → Calls Try.prog 63 #[.agg #[.slice A0 sends.length c0, .slice A1 routes.length c1, .int .i64 pat], .slice A m.length c] w' fun e w'' => e = .returned (.bool (explB rs pat sends m)) ∧ Below w'.heap.size w' w'') := ⟨fun w' hb A c m hm hml => explained63 A0 c0 sends A1 c1 routes pat rs w' hrs (h.below hb) V A c m hm hml⟩
  have HLK := Aside0.mk hl
  have HLC := Aside0.mk hc
  obtain ⟨E, hE⟩ : ∃ E, (fun bs => explB rs pat sends (keeps l bs)) = E := ⟨_, rfl⟩
  have HEE : Aside0 (∀ bs, explB rs pat sends (keeps l bs) = E bs) := ⟨fun bs => by rw [← hE]⟩
  rw [hE]
  clear h V hl hc hrs hE
  obtain ⟨P, hP, hP0, hP1⟩ : ∃ P : Nat, 2 ^ l.length = P ∧ 0 < P ∧ P ≤ 1024 := ⟨2 ^ l.length, rfl, Nat.two_pow_pos _, by rw [show 1024 = 2 ^ 10 from rfl]; exact Nat.pow_le_pow_right (by omega) (by omega)⟩
  have HPP := Aside0.mk hP
  have hw1 : wrap64 ((2 : Int) ^ l.length) = (P : Int) := by
    have : ((2 : Int) ^ l.length) = (P : Int) := by rw [← hP]; push_cast; rfl
    rw [this]; unfold wrap64; omega
  have hw2 : wrap64 ((P : Int) - 1) = (P : Int) - 1 := by unfold wrap64; omega
  rw [hP]
  clear hP
  obtain ⟨W1, hW1⟩ : ∃ W1, W1 = w.alloc (.cells #[.slice A0 sends.length c0, .slice A1 routes.length c1, .int .i64 pat] 25) := ⟨_, rfl⟩
  have hx := BoxAt.start w A0 c0 sends.length A1 c1 routes.length pat
  rw [← hW1] at hx
  have HX := Aside0.mk hx
  have HW1 := Aside0.mk hW1
  clear hx hW1
  go_enter Try.func53, Try.ntmps53
  go_wp2_with fail
  rw [← HW1.out]
  clear HW1
  have h59 := some59 A2 c2 l W1 (Kd.C_below HLK.out HX.out.below) HLC.out (by omega) (P - 1)
  rw [show ((P - 1 : Nat) : Int) = (P : Int) - 1 by omega] at h59
  refine h59.mono ?_
  clear h59
  rintro e w2 ⟨A3, c3, A4, c4, rfl, l3, g3, l4, g4, hb⟩
  replace HX := Aside0.mk (HX.out.later hb)
  have hb0 : outs 0 (flg l.length (P - 1)) = bestTo E l.length 0 := by rw [bestTo, HPP.out]
  rw [hb0] at l4 g4 ⊢
  have HB := Aside0.mk g4
  have HBL := Aside0.mk l4
  clear hb l3 g3 l4 g4 hb0
  go_wp2_with fail
  go_loopg [6, 7] P (fun gg s6 s7 wr => ∃ (k : Nat) (Ab : Option Addr) (cb : Nat), k ≤ P ∧ P - k ≤ gg ∧ s7 = .int .i64 k ∧ s6 = .slice Ab (bestTo E l.length k).length cb ∧ Aside0 ((bestTo E l.length k).length ≤ cb) ∧ Aside0 (Kd.C (Kd.int .i64) wr Ab (bestTo E l.length k).length (bestTo E l.length k)) ∧ Aside0 (BoxAt w wr A0 c0 sends.length A1 c1 routes.length pat))
  case atStart => exact ⟨0, A4, c4, by omega, by omega, rfl, rfl, HBL, HB, HX⟩
  case round =>
    obtain ⟨k, Ab, cb, hk, hgk, rfl, rfl, HBLk, HBk, HXk⟩ := hrel
    clear HBL HB HX
    obtain ⟨wk, rfl⟩ : ∃ wk : World, wk = wr := ⟨_, rfl⟩
    by_cases hlt : k < P
    · have hltz : (k : Int) < (P : Int) := by omega
      have HNX : Aside0 (bestTo E l.length (k + 1) = if (lessB (outs 0 (flg l.length k)) (bestTo E l.length k) && E (flg l.length k)) = true then outs 0 (flg l.length k) else bestTo E l.length k) := ⟨rfl⟩
      generalize bestTo E l.length k = bk at HBLk HBk HNX ⊢
      go_wp2_with fail
      refine (some59 A2 c2 l wk (Kd.C_below HLK.out HXk.out.below) HLC.out (by omega) k).mono ?_
      rintro e w3 ⟨A5, c5, A6, c6, rfl, l5, g5, l6, g6, hb⟩
      have HX3 := Aside0.mk (HXk.out.later hb)
      have HB3 := Aside0.mk (Kd.C_below HBk.out hb)
      have HI := Aside0.mk g5
      have HO := Aside0.mk g6
      have HOL := Aside0.mk l6
      have hol := outs_len (flg l.length k) 0
      have hkl := keeps_len l (flg l.length k)
      rw [flg_len] at hol
      have HEQ := HEE.out (flg l.length k)
      have HEB := Aside0.mk HEQ
      clear hb l5 g5 l6 g6 HXk HBk HEQ
      generalize keeps l (flg l.length k) = ks at HI hkl HEB ⊢
      generalize outs 0 (flg l.length k) = os at HO HOL hol HNX ⊢
      go_wp2_with fail
      refine (less60 A6 c6 os Ab cb bk w3 HO.out HOL.out HB3.out HBLk.out (by omega)).mono ?_
      rintro e w4 ⟨rfl, hb⟩
      have HX4 := Aside0.mk (HX3.out.later hb)
      have HB4 := Aside0.mk (Kd.C_below HB3.out hb)
      have HI4 := Aside0.mk (Kd.C_below HI.out hb)
      have HO4 := Aside0.mk (Kd.C_below HO.out hb)
      clear hb HX3 HB3 HI HO
      generalize lessB os bk = lb at HNX
      cases lb with
      | false =>
        have HN2 : Aside0 (bestTo E l.length (k + 1) = bk) := ⟨by rw [HNX.out]; simp⟩
        go_wp2_with fail
        go_roundg (P - (k + 1))
        case measure => omega
        case rel => exact ⟨k + 1, Ab, cb, by omega, by omega, by go_num, by rw [HN2.out], ⟨by rw [HN2.out]; exact HBLk.out⟩, ⟨by rw [HN2.out]; exact HB4.out⟩, HX4⟩
      | true =>
        have x0 := HX4.out.x0
        have x1 := HX4.out.x1
        have x2 := HX4.out.x2
        go_wp2_with fail
        refine (HEX.out _ HX4.out.below A5 c5 ks HI4.out (by omega)).mono ?_
        rintro e w5 ⟨rfl, hb⟩
        have HX5 := Aside0.mk (HX4.out.later hb)
        have HB5 := Aside0.mk (Kd.C_below HB4.out hb)
        have HO5 := Aside0.mk (Kd.C_below HO4.out hb)
        clear hb x0 x1 x2 HX4 HB4 HI4 HO4
        rw [HEB.out]
        generalize E (flg l.length k) = eb at HNX ⊢
        cases eb with
        | false =>
          have HN2 : Aside0 (bestTo E l.length (k + 1) = bk) := ⟨by rw [HNX.out]; simp⟩
          go_wp2_with fail
          go_roundg (P - (k + 1))
          case measure => omega
          case rel => exact ⟨k + 1, Ab, cb, by omega, by omega, by go_num, by rw [HN2.out], ⟨by rw [HN2.out]; exact HBLk.out⟩, ⟨by rw [HN2.out]; exact HB5.out⟩, HX5⟩
        | true =>
          have HN2 : Aside0 (bestTo E l.length (k + 1) = os) := ⟨by rw [HNX.out]; simp⟩
          go_wp2_with fail
          go_roundg (P - (k + 1))
          case measure => omega
          case rel => exact ⟨k + 1, A6, c6, by omega, by omega, by go_num, by rw [HN2.out], ⟨by rw [HN2.out]; exact HOL.out⟩, ⟨by rw [HN2.out]; exact HO5.out⟩, HX5⟩
    · have hltz : ¬ (k : Int) < (P : Int) := by omega
      obtain rfl : k = P := by omega
      go_wp2_with fail
      go_ret
      exact ⟨_, _, _, rfl, rfl, HBLk.out, HBk.out, HXk.out.below⟩
end Go.Proofs.Ytiephlhohgohcaa.PAll
namespace Go.Proofs.Ytiephlhohgohcaa.PAll
open Go.RowKit Go.Proofs.YtiephlhohgohcaaW.PrintWords Go.Proofs.YtiephlhohgohcaaW.PrintLast Go.Proofs.YtiephlhohgohcaaW.PrintMore
attribute [local go_sem] max2_int min2_int max_two min_two max_three min_three max_four min_four
set_option linter.unusedVariables false
set_option linter.unusedSimpArgs false
set_option maxRecDepth 100000 in
set_option maxHeartbeats 2000000 in
theorem copiesOdds7 (A0 : Option Addr) (c0 : Nat) (sends : List Int) (A1 : Option Addr) (c1 : Nat) (routes : List S54) (pat : Int) (A2 : Option Addr) (c2 : Nat) (l : List S108) (w : World) (h : PostAt w A0 c0 sends A1 c1 routes) (hl : Kd.C k108 w A2 l.length l) (hc : l.length ≤ c2) :
    Calls Try.prog 7 #[.agg #[.slice A0 sends.length c0, .slice A1 routes.length c1, .int .i64 pat], .slice A2 l.length c2] w fun e w' => e = .returned (.bool true) ∧ Below w.heap.size w w' := by
  obtain ⟨rs, hrs⟩ : ∃ rs, rs = routes.map toX := ⟨_, rfl⟩
  have HRS := Aside0.mk hrs
  have HLK := Aside0.mk hl
  have HLC := Aside0.mk hc
  clear hrs hl hc
  obtain ⟨W1, hW1⟩ : ∃ W1, W1 = w.alloc (.cells #[.slice A0 sends.length c0, .slice A1 routes.length c1, .int .i64 pat] 25) := ⟨_, rfl⟩
  have hx := BoxAt.start w A0 c0 sends.length A1 c1 routes.length pat
  rw [← hW1] at hx
  have HX := Aside0.mk hx
  have HP := Aside0.mk h
  have x0 := hx.x0
  have x1 := hx.x1
  have x2 := hx.x2
  have HW1 := Aside0.mk hW1
  clear h hx hW1
  go_enter Try.func7, Try.ntmps7
  go_wp2_with fail
  rw [← HW1.out]
  clear HW1
  refine (thin18 pat (HP.out.below HX.out.below)).mono ?_
  rintro e w2 ⟨rfl, hb⟩
  replace HX := Aside0.mk (HX.out.later hb)
  clear hb x0 x1 x2
  have AWAY : Aside0 (∀ w', BoxAt w w' A0 c0 sends.length A1 c1 routes.length pat → Calls Try.prog 20 #[] w' fun e w'' => e = .returned (.bool true) ∧ BoxAt w w'' A0 c0 sends.length A1 c1 routes.length pat) := ⟨fun w' hx => (awake20 w').mono fun _ _ h => ⟨h.1, hx.later h.2⟩⟩
  cases hth : thinB sends routes with
  | false =>
    clear hth
    go_wp2_with fail
    refine (AWAY.out _ HX.out).mono ?_
    rintro e w3 ⟨rfl, hx⟩
    have HX3 := Aside0.mk hx
    clear hx
    go_wp2_with fail
    go_ret
    exact ⟨rfl, HX3.out.below⟩
  | true =>
    have HTH := Aside0.mk hth
    have hs7 := (thin_spec hth).1
    clear hth
    by_cases hmany : (l.length : Int) > 10 ∨ l.length = 7 ∨ l.length = 8
    · rcases hmany with h1 | h1 | h1
      · go_wp2_with fail
        refine (AWAY.out _ HX.out).mono ?_
        rintro e w3 ⟨rfl, hx⟩
        have HX3 := Aside0.mk hx
        clear hx
        go_wp2_with fail
        go_ret
        exact ⟨rfl, HX3.out.below⟩
      · have h2 : ¬ (l.length : Int) > 10 := by omega
        have h3 : ((l.length : Int) == 7) = true := by rw [beq_iff_eq]; omega
        go_wp2_with fail
        refine (AWAY.out _ HX.out).mono ?_
        rintro e w3 ⟨rfl, hx⟩
        have HX3 := Aside0.mk hx
        clear hx
        go_wp2_with fail
        go_ret
        exact ⟨rfl, HX3.out.below⟩
      · have h2 : ¬ (l.length : Int) > 10 := by omega
        have h3 : ((l.length : Int) == 7) = false := by rw [beq_eq_false_iff_ne]; omega
        have h4 : ((l.length : Int) == 8) = true := by rw [beq_iff_eq]; omega
        go_wp2_with fail
        refine (AWAY.out _ HX.out).mono ?_
        rintro e w3 ⟨rfl, hx⟩
        have HX3 := Aside0.mk hx
        clear hx
        go_wp2_with fail
        go_ret
        exact ⟨rfl, HX3.out.below⟩
    · have h2 : ¬ (l.length : Int) > 10 := by omega
      have h3 : ((l.length : Int) == 7) = false := by rw [beq_eq_false_iff_ne]; omega
      have h4 : ((l.length : Int) == 8) = false := by rw [beq_eq_false_iff_ne]; omega
      have h10 : l.length ≤ 10 := by omega
      have x0 := HX.out.x0
      have x1 := HX.out.x1
      have x2 := HX.out.x2
      go_wp2_with fail
      refine (post22_thin pat HRS.out (HP.out.below HX.out.below) HTH.out).mono ?_
      rintro e w4 ⟨A3, c3, A4, c4, rfl, hp, hb⟩
      replace HX := Aside0.mk (HX.out.later hb)
      have HP4 := Aside0.mk hp
      clear hb hp x0 x1 x2
      go_wp2_with fail
      refine (entries51 A2 c2 l w4 (Kd.C_below HLK.out HX.out.below) HLC.out (by omega)).mono ?_
      rintro e w5 ⟨A5, c5, rfl, l5, g5, hb⟩
      replace HX := Aside0.mk (HX.out.later hb)
      replace HP4 := Aside0.mk (HP4.out.below hb)
      have HE5 := Aside0.mk g5
      clear hb l5 g5
      obtain ⟨es, hes⟩ : ∃ es, l.map toE = es := ⟨_, rfl⟩
      have HES := Aside0.mk hes
      rw [hes] at HE5 ⊢
      clear hes
      obtain ⟨⟨ol, oe⟩, ho⟩ : ∃ p, oddRes sends rs pat es = p := ⟨_, rfl⟩
      have HOR := Aside0.mk ho
      clear ho
      go_wp2_with fail
      have hct := odd50 A3 c3 sends A4 c4 rs pat A5 c5 es w5 HP4.out.h0 HP4.out.l0 HP4.out.h1 HP4.out.l1 HE5.out
      rw [HOR.out] at hct
      refine hct.mono ?_
      clear hct
      rintro e w6 ⟨v6, rfl, hr, hb⟩
      obtain ⟨A6, c6, rfl, hl6, hC6⟩ := Kd.R_reads hr
      replace HX := Aside0.mk (HX.out.later hb)
      have HO := Aside0.mk hC6
      have HOL := Aside0.mk hl6
      clear hb hr hl6 hC6 HP4 HE5
      dsimp only at HO HOL ⊢
      have x0 := HX.out.x0
      have x1 := HX.out.x1
      have x2 := HX.out.x2
      go_wp2_with fail
      have hct := booked52 A0 c0 sends A1 c1 routes pat rs w6 HRS.out (HP.out.below HX.out.below) hs7 A2 c2 l (Kd.C_below HLK.out HX.out.below)
      rw [HES.out] at hct
      refine hct.mono ?_
      clear hct
      rintro e w7 ⟨rfl, hb⟩
      replace HX := Aside0.mk (HX.out.later hb)
      replace HO := Aside0.mk (Kd.C_below HO.out hb)
      clear hb x0 x1 x2
      by_cases hbk : bookedL sends rs pat es = 0
      · have h5 := HOR.out
        rw [oddRes, if_neg (fun h => h hbk), Prod.mk.injEq] at h5
        obtain ⟨hol, rfl⟩ := h5
        have hck : check sends rs pat = 0 := by
          rw [bookedL] at hbk
          by_cases e : check sends rs pat = 0
          · exact e
          · rw [if_pos e] at hbk; exact hbk
        have V := Aside0.mk (valid_of hck)
        have hsame := odd_same V.out l
        rw [HES.out, hol] at hsame
        have HSM := Aside0.mk hsame
        rw [hbk]
        clear hbk hol hck hsame HOR
        have x0 := HX.out.x0
        have x1 := HX.out.x1
        have x2 := HX.out.x2
        go_wp2_with fail
        refine (refOdd53 A0 c0 sends A1 c1 routes pat rs w7 HRS.out (HP.out.below HX.out.below) V.out A2 c2 l (Kd.C_below HLK.out HX.out.below) HLC.out h10).mono ?_
        rintro e w8 ⟨A8, c8, js, rfl, hjs, hl8, hC8, hb⟩
        replace HX := Aside0.mk (HX.out.later hb)
        replace HO := Aside0.mk (Kd.C_below HO.out hb)
        rw [HSM.out] at hjs
        subst hjs
        have HJ := Aside0.mk hC8
        have HJL := Aside0.mk hl8
        have hjl : js.length ≤ 1000 := by
          rw [← HSM.out]
          obtain ⟨⟨bs, b1, _, b3⟩, _⟩ := bestTo_spec (fun bs => explB rs pat sends (keeps l bs)) l.length (by
            show explB rs pat sends (keeps l (List.replicate l.length true)) = true
            rw [keeps_none, expl_srch V.out]
            exact srchL_nil V.out sends 0 0 (fun s hs => hs)) (2 ^ l.length)
          rw [b3]
          have := outs_len bs 0
          omega
        clear hb hl8 hC8 x0 x1 x2
        go_wp2_with fail
        have hct := ints32 A6 c6 js A8 c8 js w8 HO.out HOL.out HJ.out HJL.out (by omega)
        rw [decide_eq_true rfl] at hct
        refine hct.mono ?_
        clear hct
        rintro e w9 ⟨rfl, hb⟩
        have HX9 := Aside0.mk (HX.out.later hb)
        clear hb
        go_wp2_with fail
        refine (AWAY.out _ HX9.out).mono ?_
        rintro e w10 ⟨rfl, hx⟩
        have HX10 := Aside0.mk hx
        clear hx
        go_wp2_with fail
        go_ret
        exact ⟨rfl, HX10.out.below⟩
      · have h5 := HOR.out
        rw [oddRes, if_pos hbk, Prod.mk.injEq] at h5
        obtain ⟨rfl, rfl⟩ := h5
        dsimp only [List.length_nil]
        clear HOR HO HOL
        have hcn : decide (bookedL sends rs pat es = 0) = false := decide_eq_false hbk
        generalize bookedL sends rs pat es = ck at hbk hcn ⊢
        go_wp2_with fail
        refine (AWAY.out _ HX.out).mono ?_
        rintro e w8 ⟨rfl, hx⟩
        have HX8 := Aside0.mk hx
        clear hx
        go_wp2_with fail
        go_ret
        exact ⟨rfl, HX8.out.below⟩
end Go.Proofs.Ytiephlhohgohcaa.PAll
