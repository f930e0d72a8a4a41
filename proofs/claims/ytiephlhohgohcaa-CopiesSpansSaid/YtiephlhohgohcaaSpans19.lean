/- Part 19 of what the row rests on: each text as it stands among the working texts, cut to what is used; those of the print of the kit as a program printed them. -/
import Derived.Test.YtiephlhohgohcaaSpans18
import Derived.Test.YtiephlhohgohcaaSpans11
import Derived.Test.YtiephlhohgohcaaSpans13
import Derived.Test.YtiephlhohgohcaaSpans6
import Derived.Test.YtiephlhohgohcaaSpans17
import Derived.Test.YtiephlhohgohcaaSpans15
import Derived.Test.YtiephlhohgohcaaSpans5
import Derived.Laws.Tables
set_option linter.unusedVariables false
set_option linter.unusedSimpArgs false
namespace Go.Proofs.Ytiephlhohgohcaa.PAll
open Go.RowKit Go.Proofs.YtiephlhohgohcaaW.PrintWords Go.Proofs.YtiephlhohgohcaaW.PrintLast Go.Proofs.YtiephlhohgohcaaW.PrintMore
attribute [local go_sem] max2_int min2_int max_two min_two max_three min_three max_four min_four
set_option linter.unusedVariables false
set_option linter.unusedSimpArgs false
/-- The cells of a set of hours, 0 to 101. -/
def rcells (f : Int → Bool) : Array Value := ((List.range 102).map (fun j : Nat => Value.bool (f (j : Int)))).toArray
theorem rcells_size (f : Int → Bool) : (rcells f).size = 102 := by simp [rcells]
theorem rcells_at (f : Int → Bool) {j : Nat} (hj : j < 102) : (rcells f)[j]? = some (.bool (f (j : Int))) := by simp [rcells, hj]
theorem rcells_one (f : Int → Bool) : (rcells f).all (·.oneCell') = true := by
  rw [Array.all_eq_true_iff_forall_mem]
  intro v hv
  simp only [rcells, List.mem_toArray, List.mem_map] at hv
  obtain ⟨j, _, rfl⟩ := hv
  rfl
theorem rcells_set (f : Int → Bool) {j : Nat} (hj : j < 102) : (rcells f).setIfInBounds j (.bool true) = rcells (fun x => f x || x == (j : Int)) := by
  apply Array.ext
  · simp [rcells_size]
  · intro i h1 h2
    rw [rcells_size] at h2
    rw [Array.getElem_setIfInBounds (by rw [rcells_size]; exact h2)]
    simp only [rcells, List.getElem_toArray, List.getElem_map, List.getElem_range]
    by_cases e : j = i
    · subst e; simp
    · rw [if_neg e]
      have : ((i : Int) == (j : Int)) = false := beq_eq_false_iff_ne.2 (by omega)
      rw [this, Bool.or_false]
theorem rcells_congr {f g : Int → Bool} (h : ∀ j : Nat, j < 102 → f (j : Int) = g (j : Int)) : rcells f = rcells g := by
  unfold rcells
  congr 1
  apply List.map_congr_left
  intro j hj
  rw [h j (List.mem_range.1 hj)]
theorem zero50 : Try.zeroCells50 = rcells (fun _ => false) := by kernel_rfl
theorem info50s : (Try.prog.info? 50).map (·.size) = some 102 := by kernel_rfl
/-- A block that is the set f. -/
def RSet (W : World) (b : Nat) (f : Int → Bool) : Prop := W.heap[b]? = some (.cells (rcells f) 50 (0, 0))
theorem RSet.cell {W : World} {b : Nat} {f : Int → Bool} (h : RSet W b f) {j : Nat} (hj : j < 102) : W.cell? ⟨b, j, none⟩ = some (.bool (f (j : Int))) := (blk_cell h j).trans (rcells_at f hj)
theorem RSet.frozen {W : World} {b : Nat} {f : Int → Bool} (h : RSet W b f) (j : Nat) : W.frozen? ⟨b, j, none⟩ = false := blk_frozen h j
theorem RSet.below {W W' : World} {b : Nat} {f : Int → Bool} (h : RSet W b f) (hb : Below W.heap.size W W') : RSet W' b f := blk_below h hb
theorem RSet.set {W : World} {b : Nat} {f : Int → Bool} (h : RSet W b f) {j : Nat} (hj : j < 102) : RSet (W.setCell ⟨b, j, none⟩ (.bool true)) b (fun x => f x || x == (j : Int)) := by
  have := blk_set h j (.bool true)
  rw [rcells_set f hj] at this
  exact this
theorem RSet.far {W : World} {b : Nat} {f : Int → Bool} (h : RSet W b f) {p : Addr} (hp : b ≠ p.block) (u : Value) : RSet (W.setCell p u) b f := blk_far h hp u
end Go.Proofs.Ytiephlhohgohcaa.PAll
namespace Go.Proofs.Ytiephlhohgohcaa.PAll
open Go.RowKit Go.Proofs.YtiephlhohgohcaaW.PrintWords Go.Proofs.YtiephlhohgohcaaW.PrintLast Go.Proofs.YtiephlhohgohcaaW.PrintMore
attribute [local go_sem] max2_int min2_int max_two min_two max_three min_three max_four min_four
set_option linter.unusedVariables false
set_option linter.unusedSimpArgs false
theorem refAwake80 (l : S101) (A : Option Addr) (c : Nat) (w : World) (h : Kd.C k64 w A l.f1.length l.f1) (hc : l.f1.length ≤ c) (hw : Wakes (toL l)) (hl : l.f1.length ≤ 100) (x : Int) (h0 : 0 ≤ x) (h1 : x ≤ 10000) :
    Calls Try.prog 80 #[.agg #[.int .i64 l.f0.f0, .int .i64 l.f0.f1, .slice A l.f1.length c], .int .i64 x] w fun e w' => e = .returned (.int .i64 (awakeL (toL l) x)) ∧ Below w.heap.size w w' := by
  obtain ⟨k, hk⟩ := (awake_f l hw hl x h0 h1).rounds
  exact (glisterref05_Awake.calls k l.f0.f0 l.f0.f1 A c l.f1 x _ w h hc hk).mono fun _ _ h => ⟨h.1, by first | exact h.2 | exact h.2.below⟩
theorem heap_setRow_other (w : World) (g k : Nat) (cs : Array Value) (h : k ≠ g) : (w.setRow g cs).heap[k]? = w.heap[k]? := by
  simp only [World.setRow, Array.getElem?_modify]
  rw [if_neg (by omega)]
theorem below_setRow {B : Nat} {a w : World} {g : Nat} (h : Below B a w) (hg : B ≤ g) (cs : Array Value) : Below B a (w.setRow g cs) :=
  h.trans ⟨rfl, rfl, rfl, by simp, fun k hk => heap_setRow_other w g k cs (by omega)⟩
set_option maxRecDepth 100000 in
set_option maxHeartbeats 8000000 in
theorem refHours31 (A : Option Addr) (c : Nat) (legs : List S101) (lossy : Bool) (sent : Nat) (w : World) (h : Kd.C k101 w A legs.length legs) (hc : legs.length ≤ c) (hok : ∀ l ∈ legs, LegOk (toL l) ∧ l.f1.length ≤ 100) (hl : legs.length ≤ 3) (s1 : sent ≤ 30) :
    Calls Try.prog 31 #[.agg #[.slice A legs.length c, .bool lossy], .int .i64 (sent : Int)] w fun e w' => e = .returned (.agg (rcells (setsOf (legs.map toL) (sent : Int)))) ∧ Below w.heap.size w w' := by
  have H := Aside0.mk h
  have HC := Aside0.mk hc
  have HOK := Aside0.mk hok
  clear h hc hok
  obtain ⟨W3, hW3⟩ : ∃ W3, W3 = ((w.alloc (.cells #[.slice A legs.length c, .bool lossy] 54)).alloc (.cells Try.zeroCells50 50)).alloc (.cells Try.zeroCells50 50) := ⟨_, rfl⟩
  have z1 := size_new_at (w := w) (o := .cells #[.slice A legs.length c, .bool lossy] 54) rfl
  have z2 := size_new_at (o := .cells Try.zeroCells50 50) z1
  have hb3 : Below w.heap.size w W3 := hW3 ▸ (((Below.refl _ w).alloc (by simp) _).alloc (by simp) _).alloc (by simp; omega) _
  have HX3 := Aside0.mk (show W3.heap[w.heap.size]? = some (.cells #[.slice A legs.length c, .bool lossy] 54 (0, 0)) from by rw [hW3]; exact blk_alloc (blk_alloc (blk_new _ _) _) _)
  have HR3 := Aside0.mk (show RSet W3 (w.heap.size + 1) (fun _ => false) from by rw [hW3, RSet, ← zero50]; exact blk_alloc (blk_new_at z1) _)
  have hn3 : RSet W3 (w.heap.size + 1 + 1) (fun _ => false) := by rw [hW3, RSet, ← zero50]; exact blk_new_at z2
  have s0 : W3.cell? ⟨w.heap.size + 1 + 1, sent, none⟩ = some (.bool false) := hn3.cell (by omega)
  have s1' := hn3.frozen sent
  have HS1 := Aside0.mk s1
  have hlt : (sent : Int) < 102 := by omega
  rw [hW3] at s0 s1'
  obtain ⟨W4, hW4⟩ : ∃ W4, W4 = ((w.alloc (.cells #[.slice A legs.length c, .bool lossy] 54)).alloc (.cells Try.zeroCells50 50)).alloc (.cells (Try.zeroCells50.setIfInBounds sent (.bool true)) 50) := ⟨_, rfl⟩
  have HB4 := Aside0.mk (show Below w.heap.size w W4 from hW4 ▸ (((Below.refl _ w).alloc (by simp) _).alloc (by simp) _).alloc (by simp; omega) _)
  have HX4 := Aside0.mk (show W4.heap[w.heap.size]? = some (.cells #[.slice A legs.length c, .bool lossy] 54 (0, 0)) from by rw [hW4]; exact blk_alloc (blk_alloc (blk_new _ _) _) _)
  have HR4 := Aside0.mk (show RSet W4 (w.heap.size + 1) (fun _ => false) from by rw [hW4, RSet, ← zero50]; exact blk_alloc (blk_new_at z1) _)
  have HN4' : Aside0 (RSet W4 (w.heap.size + 1 + 1) (setsFrom ((legs.map toL).take 0) (startSet (sent : Int)))) := ⟨by
    have e : W4.heap[w.heap.size + 1 + 1]? = some (.cells (Try.zeroCells50.setIfInBounds sent (.bool true)) 50 (0, 0)) := by rw [hW4]; exact blk_new_at z2
    unfold RSet
    rw [e, zero50, rcells_set _ (by omega)]
    congr 2⟩
  have HW4 := Aside0.mk hW4
  clear hW3 z1 z2 hb3 hn3 hW4 HX3 HR3
  go_enter Try.func31, Try.ntmps31
  go_wp2_with fail
  rw [← HW4.out]
  clear s0 s1' HW4
  go_loopg [6] legs.length (fun gg s6 wr => ∃ i : Nat, i ≤ legs.length ∧ legs.length - i ≤ gg ∧ s6 = .int .i64 i ∧ Aside0 (wr.heap[w.heap.size]? = some (.cells #[.slice A legs.length c, .bool lossy] 54 (0, 0))) ∧ Aside0 (RSet wr (w.heap.size + 1) (fun _ => false)) ∧
    Aside0 (RSet wr (w.heap.size + 1 + 1) (setsFrom ((legs.map toL).take i) (startSet (sent : Int)))) ∧ Aside0 (Below w.heap.size w wr))
  case atStart => exact ⟨0, by omega, by omega, rfl, HX4, HR4, HN4', HB4⟩
  case round =>
    obtain ⟨i, hi, hgi, rfl, HX, HR, HN, HB⟩ := hrel
    clear HX4 HR4 HN4' HB4
    obtain ⟨wm, rfl⟩ : ∃ wm : World, wm = wr := ⟨_, rfl⟩
    have x0 : wm.cell? ⟨w.heap.size, 0, none⟩ = some (.slice A legs.length c) := (blk_cell HX.out 0).trans rfl
    by_cases hlt : i < legs.length
    · have hltz : (i : Int) < (legs.length : Int) := by omega
      obtain ⟨ad, A5, c5, e5, d0, d1, d2, l5, g5⟩ := at_T101 H.out (i : Int) (by omega) hltz
      cases e5
      rw [Int.toNat_natCast] at d0 d1 d2
      have hx : rd_T101 legs (i : Int) = legs[i] := rdT101 hlt
      have hokl := HOK.out _ (List.getElem_mem hlt)
      rw [← hx] at hokl
      have HXL := Aside0.mk hx
      have D0 := Aside0.mk d0
      have D1 := Aside0.mk d1
      have D2 := Aside0.mk d2
      have G5 := Aside0.mk g5
      clear hx d0 d1 d2 g5
      generalize rd_T101 legs (i : Int) = lg at D0 D1 D2 l5 G5 hokl HXL
      obtain ⟨⟨lo, hi'⟩, asl⟩ := lg
      dsimp only at D0 D1 D2 l5 G5
      have LOK := Aside0.mk hokl.1
      have LAS := Aside0.mk hokl.2
      have b1 : 0 ≤ lo := hokl.1.lo
      have b2 : lo ≤ hi' := hokl.1.hi
      have b3 : hi' ≤ 6 := hokl.1.most
      clear hokl
      obtain ⟨gn, hgn⟩ : ∃ gn, gn = wm.heap.size := ⟨_, rfl⟩
      obtain ⟨W5, hW5⟩ : ∃ W5, W5 = wm.alloc (.cells Try.zeroCells50 50) := ⟨_, rfl⟩
      have hb5 : Below wm.heap.size wm W5 := hW5 ▸ (Below.refl _ wm).alloc (Nat.le_refl _) _
      have HX5 := Aside0.mk (blk_below HX.out hb5)
      have HR5 := Aside0.mk (HR.out.below hb5)
      have HN5 := Aside0.mk (HN.out.below hb5)
      have HB5 := Aside0.mk (below_then HB.out HB.out.size hb5)
      have HNX5 := Aside0.mk (show RSet W5 gn (fun _ => false) from by rw [hW5, hgn, RSet, ← zero50]; exact blk_new _ _)
      have HGN := Aside0.mk (show w.heap.size + 1 + 1 < gn from hgn ▸ (by have := blk_lt HN.out; omega))
      have HW5 := Aside0.mk hW5
      have HG5 := Aside0.mk hgn
      clear hb5 hW5 hgn
      go_wp2_with fail
      rw [← HW5.out, ← HG5.out]
      clear HW5 HG5 x0
      have HCU : Aside0 (Upto (setsFrom ((legs.map toL).take i) (startSet (sent : Int))) 48) := ⟨by
        have h1 := setsFrom_ok ((legs.map toL).take i) (startSet (sent : Int)) 0 (fun q hq => by
          obtain ⟨q', hq', rfl⟩ := List.mem_map.1 (List.mem_of_mem_take hq)
          exact (HOK.out q' hq').1) (fun z hz => by have := start_upto (s := (sent : Int)) (by omega) (by omega) z hz; omega) ⟨(sent : Int), by simp [startSet]⟩ (by rw [List.length_take, List.length_map]; omega)
        have hln : ((legs.map toL).take i).length ≤ 3 := by rw [List.length_take, List.length_map]; omega
        intro x hx
        have := h1.1 x hx
        omega⟩
      generalize hcur : setsFrom ((legs.map toL).take i) (startSet (sent : Int)) = cur at HN5 HCU
      have HCUR := Aside0.mk hcur
      clear hcur
      go_loopg [8] 91 (fun gg s8 wr => ∃ k : Nat, k ≤ 91 ∧ 91 - k ≤ gg ∧ s8 = .int .i64 k ∧ Aside0 (wr.heap[w.heap.size]? = some (.cells #[.slice (some ad) legs.length c, .bool lossy] 54 (0, 0))) ∧ Aside0 (RSet wr (w.heap.size + 1) (fun _ => false)) ∧
        Aside0 (RSet wr (w.heap.size + 1 + 1) cur) ∧ Aside0 (RSet wr gn (manyB (toL ⟨⟨lo, hi'⟩, asl⟩) (hoursOf cur k))) ∧ Aside0 (Below w.heap.size w wr))
      case atStart => exact ⟨0, by omega, by omega, rfl, HX5, HR5, HN5, HNX5, HB5⟩
      case round =>
        obtain ⟨k, hk, hgk, rfl, HXk, HRk, HNk, HNXk, HBk⟩ := hrel
        clear HX5 HR5 HN5 HNX5 HB5
        obtain ⟨wk, rfl⟩ : ∃ wk : World, wk = wr := ⟨_, rfl⟩
        by_cases hlk : k < 91
        · have hlkz : (k : Int) ≤ 90 := by omega
          obtain ⟨cnt, hcnt⟩ : ∃ cnt : Nat, (cnt : Int) = hi' - lo + 1 := ⟨(hi' - lo + 1).toNat, by omega⟩
          have HCNT := Aside0.mk hcnt
          have hc7 : cnt ≤ 7 := by omega
          clear hcnt
          have x0 : wk.cell? ⟨w.heap.size, 0, none⟩ = some (.slice (some ad) legs.length c) := (blk_cell HXk.out 0).trans rfl
          have y0 := (HBk.out.cell (World.block_lt_of_cell? w _ D0.out)).trans D0.out
          go_wp2_with fail
          clear x0 y0
          go_loopg [9] (cnt + 1) (fun gm s9 wr => ∃ m : Nat, m ≤ cnt ∧ cnt + 1 - m ≤ gm ∧ s9 = .int .i64 (lo + (m : Int)) ∧ Aside0 (m = 0 ∨ cur (k : Int) = true) ∧ Aside0 (wr.heap[w.heap.size]? = some (.cells #[.slice (some ad) legs.length c, .bool lossy] 54 (0, 0))) ∧ Aside0 (RSet wr (w.heap.size + 1) (fun _ => false)) ∧
            Aside0 (RSet wr (w.heap.size + 1 + 1) cur) ∧ Aside0 (RSet wr gn (fun y => manyB (toL ⟨⟨lo, hi'⟩, asl⟩) (hoursOf cur k) y || oneB (toL ⟨⟨lo, hi'⟩, asl⟩) (k : Int) m y)) ∧ Aside0 (Below w.heap.size w wr))
          case atStart => exact ⟨0, by omega, by omega, by simp, ⟨.inl rfl⟩, HXk, HRk, HNk, ⟨by
            have e := HNXk.out
            unfold RSet at e ⊢
            rw [e]
            congr 2
            apply rcells_congr
            intro y _
            simp [oneB]⟩, HBk⟩
          case round =>
            obtain ⟨m, hm, hgm, rfl, HMC, HXm, HRm, HNm, HNXm, HBm⟩ := hrel
            clear HXk HRk HNk HNXk HBk
            obtain ⟨wi, rfl⟩ : ∃ wi : World, wi = wr := ⟨_, rfl⟩
            have x0 : wi.cell? ⟨w.heap.size, 0, none⟩ = some (.slice (some ad) legs.length c) := (blk_cell HXm.out 0).trans rfl
            have y0 := (HBm.out.cell (World.block_lt_of_cell? w _ D0.out)).trans D0.out
            have y1 := (HBm.out.cell (World.block_lt_of_cell? w _ D1.out)).trans D1.out
            have y2 := (HBm.out.cell (World.block_lt_of_cell? w _ D2.out)).trans D2.out
            have hk102 : (k : Int) < 102 := by omega
            have n0 : wi.cell? ⟨w.heap.size + 1 + 1, k, none⟩ = some (.bool (cur (k : Int))) := HNm.out.cell (by omega)
            have NEXT : Aside0 (m = cnt ∨ cur (k : Int) = false → RSet wi gn (manyB (toL ⟨⟨lo, hi'⟩, asl⟩) (hoursOf cur (k + 1)))) := ⟨fun hmc => by
              have e := HNXm.out
              unfold RSet at e ⊢
              rw [e]
              congr 2
              apply rcells_congr
              intro y _
              cases hck : cur (k : Int) with
              | true =>
                have hmm : m = cnt := by
                  rcases hmc with h | h
                  · exact h
                  · rw [hck] at h; cases h
                rw [hoursOf_yes hck, manyB_snoc, hmm]
                have : ((toL ⟨⟨lo, hi'⟩, asl⟩).f0.f1 - (toL ⟨⟨lo, hi'⟩, asl⟩).f0.f0 + 1).toNat = cnt := by
                  have := HCNT.out
                  show (hi' - lo + 1).toNat = cnt
                  omega
                rw [this]
              | false =>
                have hmm : m = 0 := by
                  rcases HMC.out with h | h
                  · exact h
                  · rw [hck] at h; cases h
                rw [hoursOf_no hck, hmm]
                simp [oneB]⟩
            by_cases hmc : m < cnt
            · have hle : lo + (m : Int) ≤ hi' := by have := HCNT.out; omega
              cases hck : cur (k : Int) with
              | false =>
                have HCK := Aside0.mk hck
                rw [hck] at n0
                clear hck
                have HNXT := Aside0.mk (NEXT.out (.inr HCK.out))
                go_wp2_with fail
                go_roundg (91 - (k + 1))
                case measure => omega
                case rel => exact ⟨k + 1, by omega, by omega, by go_num, HXm, HRm, HNm, HNXT, HBm⟩
              | true =>
                have HCK := Aside0.mk hck
                rw [hck] at n0
                have hkc := HCU.out (k : Int) hck
                clear hck
                have ha := awake_upto LOK.out (h := (k : Int)) (B := 48) hkc.1 hkc.2 (by omega) (n := m) (by have := HCNT.out; show (m : Int) ≤ hi' - lo; omega)
                have ha' : 0 ≤ awakeL (toL ⟨⟨lo, hi'⟩, asl⟩) ((k : Int) + (lo + (m : Int))) ∧ awakeL (toL ⟨⟨lo, hi'⟩, asl⟩) ((k : Int) + (lo + (m : Int))) ≤ 54 := by
                  rw [show (k : Int) + (lo + (m : Int)) = (k : Int) + lo + (m : Int) by omega]; exact ha
                obtain ⟨av, hav⟩ : ∃ av : Nat, (av : Int) = awakeL (toL ⟨⟨lo, hi'⟩, asl⟩) ((k : Int) + (lo + (m : Int))) := ⟨_, Int.toNat_of_nonneg ha'.1⟩
                have hav54 : av ≤ 54 := by omega
                have HAV := Aside0.mk hav
                have HAW : Aside0 (∀ w', Below w.heap.size w w' → Calls Try.prog 80 #[.agg #[.int .i64 lo, .int .i64 hi', .slice A5 asl.length c5], .int .i64 ((k : Int) + (lo + (m : Int)))] w' fun e w'' => e = .returned (.int .i64 (av : Int)) ∧ Below w'.heap.size w' w'') := ⟨fun w' hb => by
                  rw [hav]
                  exact refAwake80 ⟨⟨lo, hi'⟩, asl⟩ A5 c5 w' (Kd.C_below G5.out hb) l5 LOK.out.wk LAS.out _ (by omega) (by omega)⟩
                clear ha ha' hav hkc
                go_wp2_with fail
                refine (HAW.out _ HBm.out).mono ?_
                rintro e w7 ⟨rfl, hb⟩
                have HX7 := Aside0.mk (blk_below HXm.out hb)
                have HR7 := Aside0.mk (HRm.out.below hb)
                have HN7 := Aside0.mk (HNm.out.below hb)
                have HNX7 := Aside0.mk (HNXm.out.below hb)
                have HB7 := Aside0.mk (below_then HBm.out HBm.out.size hb)
                clear hb x0 y0 y1 y2 n0
                have t0 := HNX7.out.cell (j := av) (by omega)
                have t1 := HNX7.out.frozen av
                have hav102 : (av : Int) < 102 := by omega
                generalize (manyB (toL ⟨⟨lo, hi'⟩, asl⟩) (hoursOf cur k) (av : Int) || oneB (toL ⟨⟨lo, hi'⟩, asl⟩) (k : Int) m (av : Int)) = tv at t0
                go_wp2_with fail
                clear t0 t1
                go_roundg (cnt + 1 - (m + 1))
                case measure => omega
                case rel =>
                  refine ⟨m + 1, by omega, by omega, by go_num, ⟨.inr HCK.out⟩, ⟨blk_far HX7.out (p := ⟨gn, av, none⟩) (by have := HGN.out; simp; omega) _⟩, ⟨HR7.out.far (p := ⟨gn, av, none⟩) (by have := HGN.out; simp; omega) _⟩, ⟨HN7.out.far (p := ⟨gn, av, none⟩) (by have := HGN.out; simp; omega) _⟩, ⟨?_⟩, ⟨HB7.out.setCell (p := ⟨gn, av, none⟩) (by have := HGN.out; simp; omega) _⟩⟩
                  have e := HNX7.out.set (j := av) (by omega)
                  unfold RSet at e ⊢
                  rw [e]
                  congr 2
                  apply rcells_congr
                  intro y _
                  rw [oneB_succ, HAV.out, show (k : Int) + (lo + (m : Int)) = (k : Int) + lo + (m : Int) by omega, Bool.or_assoc]
                  rfl
            · have hle : ¬ lo + (m : Int) ≤ hi' := by have := HCNT.out; omega
              have HNXT := Aside0.mk (NEXT.out (.inl (by omega)))
              go_wp2_with fail
              go_roundg (91 - (k + 1))
              case measure => omega
              case rel => exact ⟨k + 1, by omega, by omega, by go_num, HXm, HRm, HNm, HNXT, HBm⟩
        · have hlkz : ¬ (k : Int) ≤ 90 := by omega
          have hkk : k = 91 := by omega
          have HNF : Aside0 (RSet wk gn (setsFrom ((legs.map toL).take (i + 1)) (startSet (sent : Int)))) := ⟨by
            have e := HNXk.out
            rw [hkk] at e
            unfold RSet at e ⊢
            rw [e]
            congr 2
            apply rcells_congr
            intro y _
            rw [List.take_succ_eq_append_getElem (show i < (legs.map toL).length by rw [List.length_map]; exact hlt), setsFrom_snoc, HCUR.out, List.getElem_map, ← HXL.out]
            show manyB _ (hoursOf cur 91) (y : Int) = manyB _ (hoursOf cur 101) (y : Int)
            congr 1
            have key : ∀ d : Nat, d ≤ 10 → hoursOf cur (91 + d) = hoursOf cur 91 := by
              intro d
              induction d with
              | zero => intro _; rfl
              | succ d ih =>
                intro hd
                have hf : cur ((91 + d : Nat) : Int) = false := by
                  cases hq : cur ((91 + d : Nat) : Int) with
                  | false => rfl
                  | true => have := HCU.out _ hq; omega
                rw [show 91 + (d + 1) = (91 + d) + 1 from rfl, hoursOf_no hf, ih (by omega)]
            exact (key 10 (by omega)).symm⟩
          clear hkk
          go_wp2_with (first
            | (refine wpList_load_row rfl 50 _ rfl gn rfl 50 _ (0, 0) _ HNF.out Try.underlying50 rfl (by rw [rcells_size]; exact info50s) ?_)
            | (refine wpList_store_row rfl 50 _ _ rfl (w.heap.size + 1 + 1) (rcells (setsFrom ((legs.map toL).take (i + 1)) (startSet (sent : Int)))) rfl rfl 50 _ HNk.out (by rw [rcells_size]; exact info50s) (by rw [rcells_size, rcells_size]) (rcells_one _) ?_))
          go_roundg (legs.length - (i + 1))
          case measure => omega
          case rel => exact ⟨i + 1, by omega, by omega, by go_num, ⟨(heap_setRow_other _ _ _ _ (by omega)).trans HXk.out⟩, ⟨(heap_setRow_other _ _ _ _ (by omega)).trans HRk.out⟩, ⟨setRow_heap _ _ _ _ _ _ HNk.out⟩, ⟨below_setRow HBk.out (by omega) _⟩⟩
    · have hltz : ¬ (i : Int) < (legs.length : Int) := by omega
      have hii : i = legs.length := by omega
      have HF : Aside0 (RSet wm (w.heap.size + 1 + 1) (setsOf (legs.map toL) (sent : Int))) := ⟨by
        have e := HN.out
        rw [hii, List.take_of_length_le (by simp)] at e
        exact e⟩
      clear hii
      go_wp2_with (first
        | (refine wpList_load_row rfl 50 _ rfl (w.heap.size + 1 + 1) rfl 50 _ (0, 0) _ HF.out Try.underlying50 rfl (by rw [rcells_size]; exact info50s) ?_)
        | (refine wpList_store_row rfl 50 _ _ rfl (w.heap.size + 1) (rcells (setsOf (legs.map toL) (sent : Int))) rfl rfl 50 _ HR.out (by rw [rcells_size]; exact info50s) (by rw [rcells_size, rcells_size]) (rcells_one _) ?_))
      refine bodyPost_ret (results_cell_row rfl _ _ (w.heap.size + 1) 50 (rcells (setsOf (legs.map toL) (sent : Int))) (0, 0) _ rfl (setRow_heap _ _ _ _ _ _ HR.out) Try.underlying50 rfl (by rw [rcells_size]; exact info50s)) rfl ⟨rfl, below_setRow HB.out (by omega) _⟩
end Go.Proofs.Ytiephlhohgohcaa.PAll
namespace Go.Proofs.Ytiephlhohgohcaa.PAll
open Go.RowKit Go.Proofs.YtiephlhohgohcaaW.PrintWords Go.Proofs.YtiephlhohgohcaaW.PrintLast Go.Proofs.YtiephlhohgohcaaW.PrintMore
attribute [local go_sem] max2_int min2_int max_two min_two max_three min_three max_four min_four
set_option linter.unusedVariables false
set_option linter.unusedSimpArgs false
theorem rcells_put (f : Int → Bool) {j : Nat} (hj : j < 102) (v : Bool) : (rcells f).setIfInBounds j (.bool v) = rcells (fun x => if x = (j : Int) then v else f x) := by
  apply Array.ext
  · simp [rcells_size]
  · intro i h1 h2
    rw [rcells_size] at h2
    rw [Array.getElem_setIfInBounds (by rw [rcells_size]; exact h2)]
    simp only [rcells, List.getElem_toArray, List.getElem_map, List.getElem_range]
    by_cases e : j = i
    · subst e; simp
    · rw [if_neg e, if_neg (by omega)]
theorem RSet.put {W : World} {b : Nat} {f : Int → Bool} (h : RSet W b f) {j : Nat} (hj : j < 102) (v : Bool) : RSet (W.setCell ⟨b, j, none⟩ (.bool v)) b (fun x => if x = (j : Int) then v else f x) := by
  have := blk_set h j (.bool v)
  rw [rcells_put f hj v] at this
  exact this
theorem RSet.congr {W : World} {b : Nat} {f g : Int → Bool} (h : RSet W b f) (hfg : ∀ j : Nat, j < 102 → f (j : Int) = g (j : Int)) : RSet W b g := by
  unfold RSet at h ⊢
  rw [h, rcells_congr hfg]
theorem BoxAt.far {w W : World} {A0 : Option Addr} {c0 n0 : Nat} {A1 : Option Addr} {c1 n1 : Nat} {pat : Int} (h : BoxAt w W A0 c0 n0 A1 c1 n1 pat) {p : Addr} (hp : w.heap.size < p.block) (u : Value) : BoxAt w (W.setCell p u) A0 c0 n0 A1 c1 n1 pat :=
  ⟨h.below.setCell (by omega) u, blk_far h.box (by omega) u⟩
theorem BoxAt.row {w W : World} {A0 : Option Addr} {c0 n0 : Nat} {A1 : Option Addr} {c1 n1 : Nat} {pat : Int} (h : BoxAt w W A0 c0 n0 A1 c1 n1 pat) {g : Nat} (hg : w.heap.size < g) (cs : Array Value) : BoxAt w (W.setRow g cs) A0 c0 n0 A1 c1 n1 pat :=
  ⟨below_setRow h.below (by omega) cs, (heap_setRow_other W g _ cs (by omega)).trans h.box⟩
theorem RSet.row {W : World} {b : Nat} {f : Int → Bool} (h : RSet W b f) {g : Nat} (hg : b ≠ g) (cs : Array Value) : RSet (W.setRow g cs) b f := (heap_setRow_other W g b cs hg).trans h
set_option maxRecDepth 100000 in
set_option maxHeartbeats 8000000 in
theorem comings85 (A0 : Option Addr) (c0 : Nat) (sends : List Int) (A1 : Option Addr) (c1 : Nat) (routes : List S54) (pat : Int) (rs : List S122) (w : World) (hrs : rs = routes.map toX) (h : PostAt w A0 c0 sends A1 c1 routes) (V : Valid sends rs pat) (ni : Nat) (hni : ni < sends.length) :
    Calls Try.prog 85 #[.agg #[.slice A0 sends.length c0, .slice A1 routes.length c1, .int .i64 pat], .int .i64 (ni : Int)] w fun e w' => e = .returned (.agg (rcells (comL rs sends[ni]))) ∧ Below w.heap.size w w' := by
  have HRS := Aside0.mk hrs
  have HP := Aside0.mk h
  have VV := Aside0.mk V
  have hrn : routes.length ≤ 3 := by have := V.rn; rw [hrs, List.length_map] at this; exact this
  have hrl : rs.length = routes.length := by rw [hrs, List.length_map]
  have HRL := Aside0.mk hrl
  obtain ⟨ads, es, ds⟩ := Kd.at_int h.h0 (ni : Int) (by omega) (by omega)
  cases es
  rw [Int.toNat_natCast, rdI hni] at ds
  have hms := List.getElem_mem hni
  obtain ⟨sn, hsn⟩ : ∃ sn : Nat, sends[ni] = (sn : Int) := ⟨sends[ni].toNat, by have := V.s0 _ hms; omega⟩
  have hsn30 : sn ≤ 30 := by have := V.s0 _ hms; omega
  rw [hsn] at ds
  have DS := Aside0.mk ds
  have HSO : Aside0 (SetsOk rs (sn : Int)) := ⟨by rw [← hsn]; exact V.setsOk hms⟩
  rw [hsn]
  have hnz : (ni : Int) < (sends.length : Int) := by omega
  clear h V hrl ds hms hsn hrs
  obtain ⟨W4, hW4⟩ : ∃ W4, W4 = ((w.alloc (.cells #[.slice (some ads) sends.length c0, .slice A1 routes.length c1, .int .i64 pat] 25)).alloc (.cells Try.zeroCells50 50)).alloc (.cells (Try.zeroCells50.setIfInBounds 101 (.bool true)) 50) := ⟨_, rfl⟩
  have z1 := size_new_at (w := w) (o := .cells #[.slice (some ads) sends.length c0, .slice A1 routes.length c1, .int .i64 pat] 25) rfl
  have z2 := size_new_at (o := .cells Try.zeroCells50 50) z1
  have HX4 : Aside0 (BoxAt w W4 (some ads) c0 sends.length A1 c1 routes.length pat) := ⟨⟨hW4 ▸ (((Below.refl _ w).alloc (by simp) _).alloc (by simp) _).alloc (by simp; omega) _, by rw [hW4]; exact blk_alloc (blk_alloc (blk_new _ _) _) _⟩⟩
  have HR4 := Aside0.mk (show RSet W4 (w.heap.size + 1) (fun _ => false) from by rw [hW4, RSet, ← zero50]; exact blk_alloc (blk_new_at z1) _)
  have HN4 : Aside0 (RSet W4 (w.heap.size + 1 + 1) (comF (sn : Int) (rs.take 0) nev)) := ⟨by
    have e : W4.heap[w.heap.size + 1 + 1]? = some (.cells (Try.zeroCells50.setIfInBounds 101 (.bool true)) 50 (0, 0)) := by rw [hW4]; exact blk_new_at z2
    rw [zero50, rcells_put _ (by omega)] at e
    refine RSet.congr e (fun j hj => ?_)
    rw [List.take_zero, comF, nev]
    by_cases h : (j : Int) = 101 <;> simp [h]⟩
  have s0 : (((w.alloc (.cells #[.slice (some ads) sends.length c0, .slice A1 routes.length c1, .int .i64 pat] 25)).alloc (.cells Try.zeroCells50 50)).alloc (.cells Try.zeroCells50 50)).cell? ⟨w.heap.size + 1 + 1, 101, none⟩ = some (.bool false) := by
    have e := blk_new_at (o := .cells Try.zeroCells50 50) z2
    rw [blk_cell e, zero50]
    exact rcells_at _ (by omega)
  have s1 : (((w.alloc (.cells #[.slice (some ads) sends.length c0, .slice A1 routes.length c1, .int .i64 pat] 25)).alloc (.cells Try.zeroCells50 50)).alloc (.cells Try.zeroCells50 50)).frozen? ⟨w.heap.size + 1 + 1, 101, none⟩ = false := blk_frozen (blk_new_at z2) 101
  have HW4 := Aside0.mk hW4
  clear z1 z2 hW4
  go_enter Try.func85, Try.ntmps85
  go_wp2_with fail
  rw [← HW4.out]
  clear s0 s1 HW4
  go_loopg [6] routes.length (fun gg s6 wr => ∃ j : Nat, j ≤ routes.length ∧ routes.length - j ≤ gg ∧ s6 = .int .i64 j ∧ Aside0 (BoxAt w wr (some ads) c0 sends.length A1 c1 routes.length pat) ∧ Aside0 (RSet wr (w.heap.size + 1) (fun _ => false)) ∧ Aside0 (RSet wr (w.heap.size + 1 + 1) (comF (sn : Int) (rs.take j) nev)))
  case atStart => exact ⟨0, by omega, by omega, rfl, HX4, HR4, HN4⟩
  case round =>
    obtain ⟨j, hj, hgj, rfl, HX, HR, HN⟩ := hrel
    clear HX4 HR4 HN4
    obtain ⟨wm, rfl⟩ : ∃ wm : World, wm = wr := ⟨_, rfl⟩
    by_cases hlt : j < routes.length
    · have hltz : (j : Int) < (routes.length : Int) := by omega
      obtain ⟨adr, A7, c7, er, dr0, dr1, l7, g7⟩ := at_T54 HP.out.h1 (j : Int) (by omega) hltz
      cases er
      rw [Int.toNat_natCast] at dr0 dr1
      rw [rdT54 hlt] at dr0 dr1 l7 g7
      have hmr := List.getElem_mem hlt
      have HLG : Aside0 ((∀ l ∈ routes[j].f0, LegOk (toL l) ∧ l.f1.length ≤ 100) ∧ routes[j].f0.length ≤ 3) := ⟨by
        have hv := VV.out
        rw [HRS.out] at hv
        exact ⟨fun l hl => ⟨hv.leg (List.mem_map_of_mem hmr) (List.mem_map_of_mem hl), (wakes_of hv hmr hl).2⟩, (legs_of hv hmr).2⟩⟩
      have HTK : Aside0 (comF (sn : Int) (rs.take (j + 1)) nev = manyC (comF (sn : Int) (rs.take j) nev) (byR (toX routes[j]) (sn : Int)) 102) := ⟨by
        have hj' : j < rs.length := by rw [HRL.out]; exact hlt
        rw [List.take_succ_eq_append_getElem hj', comF_snoc]
        congr 2
        simp only [HRS.out, List.getElem_map]⟩
      clear hmr
      generalize routes[j] = rt at dr0 dr1 l7 g7 HLG HTK
      obtain ⟨legs, lossy⟩ := rt
      dsimp only at dr0 dr1 l7 g7 HLG
      have HREF : Aside0 (∀ w', Below wm.heap.size wm w' → Calls Try.prog 31 #[.agg #[.slice A7 legs.length c7, .bool lossy], .int .i64 (sn : Int)] w' fun e w'' => e = .returned (.agg (rcells (setsOf (legs.map toL) (sn : Int)))) ∧ Below w'.heap.size w' w'') := ⟨fun w' hb =>
        refHours31 A7 c7 legs lossy sn w' (Kd.C_below g7 (below_then HX.out.below HX.out.below.size hb)) l7 HLG.out.1 HLG.out.2 hsn30⟩
      have HBY : Aside0 (byR (toX ⟨legs, lossy⟩) (sn : Int) = fun x => if x = 101 then lossy else setsOf (legs.map toL) (sn : Int) x) := ⟨rfl⟩
      generalize byR (toX ⟨legs, lossy⟩) (sn : Int) = by' at HTK HBY
      generalize setsOf (legs.map toL) (sn : Int) = set at HREF HBY
      generalize comF (sn : Int) (rs.take j) nev = now at HN HTK
      have DR1 := Aside0.mk dr1
      clear g7 l7 HLG
      have x0 := HX.out.x0
      have x1 := HX.out.x1
      have y0 := (HX.out.below.cell (World.block_lt_of_cell? w _ DS.out)).trans DS.out
      have y1 := (HX.out.below.cell (World.block_lt_of_cell? w _ dr0)).trans dr0
      have y2 := (HX.out.below.cell (World.block_lt_of_cell? w _ dr1)).trans dr1
      clear dr0 dr1
      have KEEP : Aside0 (∀ w' : World, Below wm.heap.size wm w' → (w'.cell? ⟨w.heap.size, 0, none⟩ = some (.slice (some ads) sends.length c0) ∧ w'.cell? ⟨w.heap.size, 1, none⟩ = some (.slice (some adr) routes.length c1) ∧ w'.cell? (ads.add ni) = some (.int .i64 (sn : Int)) ∧ w'.cell? (adr.add (j * 2)) = some (.slice A7 legs.length c7) ∧ w'.cell? ⟨(adr.add (j * 2)).block, (adr.add (j * 2)).off + 1, none⟩ = some (.bool lossy))) :=
        ⟨fun w' hb => ⟨pw_cell_below hb x0, pw_cell_below hb x1, pw_cell_below hb y0, pw_cell_below hb y1, pw_cell_below hb y2⟩⟩
      go_wp2_with fail
      refine start_ (n := 13) (S := fun w' => w'.cell? ⟨w.heap.size, 0, none⟩ = some (.slice (some ads) sends.length c0) ∧ w'.cell? ⟨w.heap.size, 1, none⟩ = some (.slice (some adr) routes.length c1) ∧ w'.cell? (ads.add ni) = some (.int .i64 (sn : Int)) ∧ w'.cell? (adr.add (j * 2)) = some (.slice A7 legs.length c7) ∧ w'.cell? ⟨(adr.add (j * 2)).block, (adr.add (j * 2)).off + 1, none⟩ = some (.bool lossy)) (ds := [12]) #[false, false, false, false, false, false, false, false, false, false, false, false, false] (by kernel_rfl) rfl rfl ⟨x0, x1, y0, y1, y2⟩ (fun hHeld => ?_)
      have hq0 : Aside0 (Below wm.heap.size wm wm.drew) := ⟨below_drew (Below.refl _ _)⟩
      refine pure_ (i := 0) (N := (some 19)) (v := ?_) (a' := ?_) #[true, false, false, false, false, false, false, false, false, false, false, false, false] rfl rfl (by kernel_rfl) (fun _ _ _ h => h) (Or.inl ⟨by rfl, ?_⟩) ?_ ?_
      rotate_left
      · intro w'
        go_simp
        with_reducible rfl
      rotate_left
      · simp only [Act.put, List.setIfInBounds_toArray, List.set_cons_zero, List.set_cons_succ, i64_w, i32_w]
        rfl
      refine take_ (i := 1) (N := (some 20)) (v := ?_) (a' := ?_) #[true, true, false, false, false, false, false, false, false, false, false, false, false] rfl rfl (by kernel_rfl) (fun _ _ _ h => h) (Or.inl ⟨by rfl, ?_⟩) hHeld ?_ ?_
      rotate_left
      · rintro w' ⟨s0, s1, s2, s3, s4⟩
        go_simp
        with_reducible rfl
      rotate_left
      · simp only [Act.put, List.setIfInBounds_toArray, List.set_cons_zero, List.set_cons_succ, i64_w, i32_w]
        rfl
      refine pure_ (i := 2) (N := (some 21)) (v := ?_) (a' := ?_) #[true, true, true, false, false, false, false, false, false, false, false, false, false] rfl rfl (by kernel_rfl) (fun _ _ _ h => h) (Or.inl ⟨by rfl, ?_⟩) ?_ ?_
      rotate_left
      · intro w'
        go_simp
        with_reducible rfl
      rotate_left
      · simp only [Act.put, List.setIfInBounds_toArray, List.set_cons_zero, List.set_cons_succ, i64_w, i32_w]
        rfl
      refine pure_ (i := 3) (N := (some 22)) (v := ?_) (a' := ?_) #[true, true, true, true, false, false, false, false, false, false, false, false, false] rfl rfl (by kernel_rfl) (fun _ _ _ h => h) (Or.inl ⟨by rfl, ?_⟩) ?_ ?_
      rotate_left
      · intro w'
        go_simp
        with_reducible rfl
      rotate_left
      · simp only [Act.put, List.setIfInBounds_toArray, List.set_cons_zero, List.set_cons_succ, i64_w, i32_w]
        rfl
      refine take_ (i := 4) (N := (some 23)) (v := ?_) (a' := ?_) #[true, true, true, true, true, false, false, false, false, false, false, false, false] rfl rfl (by kernel_rfl) (fun _ _ _ h => h) (Or.inl ⟨by rfl, ?_⟩) hHeld ?_ ?_
      rotate_left
      · rintro w' ⟨s0, s1, s2, s3, s4⟩
        go_simp
        with_reducible rfl
      rotate_left
      · simp only [Act.put, List.setIfInBounds_toArray, List.set_cons_zero, List.set_cons_succ, i64_w, i32_w]
        rfl
      refine pure_ (i := 5) (N := (some 24)) (v := ?_) (a' := ?_) #[true, true, true, true, true, true, false, false, false, false, false, false, false] rfl rfl (by kernel_rfl) (fun _ _ _ h => h) (Or.inl ⟨by rfl, ?_⟩) ?_ ?_
      rotate_left
      · intro w'
        go_simp
        with_reducible rfl
      rotate_left
      · simp only [Act.put, List.setIfInBounds_toArray, List.set_cons_zero, List.set_cons_succ, i64_w, i32_w]
        rfl
      refine take_ (i := 6) (N := (some 25)) (v := ?_) (a' := ?_) #[true, true, true, true, true, true, true, false, false, false, false, false, false] rfl rfl (by kernel_rfl) (fun _ _ _ h => h) (Or.inl ⟨by rfl, ?_⟩) hHeld ?_ ?_
      rotate_left
      · rintro w' ⟨s0, s1, s2, s3, s4⟩
        go_simp
        with_reducible rfl
      rotate_left
      · simp only [Act.put, List.setIfInBounds_toArray, List.set_cons_zero, List.set_cons_succ, i64_w, i32_w]
        rfl
      refine pure_ (i := 7) (N := (some 26)) (v := ?_) (a' := ?_) #[true, true, true, true, true, true, true, true, false, false, false, false, false] rfl rfl (by kernel_rfl) (fun _ _ _ h => h) (Or.inl ⟨by rfl, ?_⟩) ?_ ?_
      rotate_left
      · intro w'
        go_simp
        with_reducible rfl
      rotate_left
      · simp only [Act.put, List.setIfInBounds_toArray, List.set_cons_zero, List.set_cons_succ, i64_w, i32_w]
        rfl
      refine pure_ (i := 8) (N := (some 27)) (v := ?_) (a' := ?_) #[true, true, true, true, true, true, true, true, true, false, false, false, false] rfl rfl (by kernel_rfl) (fun _ _ _ h => h) (Or.inl ⟨by rfl, ?_⟩) ?_ ?_
      rotate_left
      · intro w'
        go_simp
        with_reducible rfl
      rotate_left
      · simp only [Act.put, List.setIfInBounds_toArray, List.set_cons_zero, List.set_cons_succ, i64_w, i32_w]
        rfl
      refine take_ (i := 9) (N := (some 28)) (v := ?_) (a' := ?_) #[true, true, true, true, true, true, true, true, true, true, false, false, false] rfl rfl (by kernel_rfl) (fun _ _ _ h => h) (Or.inl ⟨by rfl, ?_⟩) hHeld ?_ ?_
      rotate_left
      · rintro w' ⟨s0, s1, s2, s3, s4⟩
        go_simp
        with_reducible rfl
      rotate_left
      · simp only [Act.put, List.setIfInBounds_toArray, List.set_cons_zero, List.set_cons_succ, i64_w, i32_w]
        rfl
      refine join_ (σ := Nat) 1 #[true, true, true, true, true, true, true, true, true, true, true, true, false] (fun s_ => [(29, .agg (rcells set)), (7, .pointer (some ⟨s_, 0, none⟩))]) (fun s_ w' => (w'.cell? ⟨w.heap.size, 0, none⟩ = some (.slice (some ads) sends.length c0) ∧ w'.cell? ⟨w.heap.size, 1, none⟩ = some (.slice (some adr) routes.length c1) ∧ w'.cell? (ads.add ni) = some (.int .i64 (sn : Int)) ∧ w'.cell? (adr.add (j * 2)) = some (.slice A7 legs.length c7) ∧ w'.cell? ⟨(adr.add (j * 2)).block, (adr.add (j * 2)).off + 1, none⟩ = some (.bool lossy)) ∧ RSet w' s_ (fun _ => false) ∧ wm.heap.size ≤ s_ ∧ Below wm.heap.size wm w') ?_ ?_
      rotate_left
      · intro hCont
        refine two_ (i := 10) (j := 11) (Ni := (some 29)) (Nj := (some 7)) #[true, true, true, true, true, true, true, true, true, true, true, false, false] #[true, true, true, true, true, true, true, true, true, true, false, true, false] rfl rfl rfl rfl (by kernel_rfl) (by decide) (by decide) (fun K hK => ?_) (fun K hK => ?_)
        · refine goes_ Try.func31 (by kernel_rfl) rfl #[.agg #[.slice A7 legs.length c7, .bool lossy], .int .i64 (sn : Int)] (by rfl) rfl rfl (by (try simp only [List.map_toArray, List.map_cons, List.map_nil]); first | done | rfl) ?_
          refine (HREF.out wm.drew hq0.out).mono ?_
          rintro e w9 ⟨rfl, hb9⟩
          refine ⟨_, rfl, ?_⟩
          have hq4 := Aside0.mk (below_then hq0.out hq0.out.size hb9)
          have hb9' := Aside0.mk hb9
          clear hb9
          refine hK.out _ _ (KEEP.out _ hq4.out) (fun hHeld => ?_)
          clear hK K
          refine norm_ (a' := ?_) ?_ ?_
          rotate_left
          · show Act.put _ (some 29) _ = _
            simp only [Act.put, List.setIfInBounds_toArray, List.set_cons_zero, List.set_cons_succ, i64_w, i32_w]
            rfl
          refine one_ (i := 11) (N := (some 7)) #[true, true, true, true, true, true, true, true, true, true, true, true, false] rfl rfl (by kernel_rfl) (by decide) (fun K hK => ?_)
          have hq5 : Aside0 (Below wm.heap.size wm ((w9).alloc (.cells Try.zeroCells50 50))) := ⟨hq4.out.alloc hq4.out.size _⟩
          have hz5 : Aside0 (RSet ((w9).alloc (.cells Try.zeroCells50 50)) (w9).heap.size (fun _ => false)) := ⟨by rw [RSet, ← zero50]; exact blk_new _ _⟩
          refine value_ (v := .pointer (some ⟨(w9).heap.size, 0, none⟩)) (w1 := (w9).alloc (.cells Try.zeroCells50 50)) (by rfl) rfl (by go_simp; done) ?_
          refine hK.out _ _ (KEEP.out _ hq5.out) (fun hHeld => ?_)
          clear hK K
          refine norm_ (a' := ?_) ?_ ?_
          rotate_left
          · show Act.put _ (some 7) _ = _
            simp only [Act.put, List.setIfInBounds_toArray, List.set_cons_zero, List.set_cons_succ, i64_w, i32_w]
            rfl
          exact norm_ (by simp only [putAll, Act.put, List.setIfInBounds_toArray, List.set_cons_zero, List.set_cons_succ]) (hCont w9.heap.size _ ⟨hHeld, hz5.out, hq4.out.size, hq5.out⟩)
        · have hq5 : Aside0 (Below wm.heap.size wm ((wm.drew).alloc (.cells Try.zeroCells50 50))) := ⟨hq0.out.alloc hq0.out.size _⟩
          have hz5 : Aside0 (RSet ((wm.drew).alloc (.cells Try.zeroCells50 50)) (wm.drew).heap.size (fun _ => false)) := ⟨by rw [RSet, ← zero50]; exact blk_new _ _⟩
          refine value_ (v := .pointer (some ⟨(wm.drew).heap.size, 0, none⟩)) (w1 := (wm.drew).alloc (.cells Try.zeroCells50 50)) (by rfl) rfl (by go_simp; done) ?_
          refine hK.out _ _ (KEEP.out _ hq5.out) (fun hHeld => ?_)
          clear hK K
          refine norm_ (a' := ?_) ?_ ?_
          rotate_left
          · show Act.put _ (some 7) _ = _
            simp only [Act.put, List.setIfInBounds_toArray, List.set_cons_zero, List.set_cons_succ, i64_w, i32_w]
            rfl
          refine one_ (i := 10) (N := (some 29)) #[true, true, true, true, true, true, true, true, true, true, true, true, false] rfl rfl (by kernel_rfl) (by decide) (fun K hK => ?_)
          refine goes_ Try.func31 (by kernel_rfl) rfl #[.agg #[.slice A7 legs.length c7, .bool lossy], .int .i64 (sn : Int)] (by rfl) rfl rfl (by (try simp only [List.map_toArray, List.map_cons, List.map_nil]); first | done | rfl) ?_
          refine (HREF.out ((wm.drew).alloc (.cells Try.zeroCells50 50)) hq5.out).mono ?_
          rintro e w9 ⟨rfl, hb9⟩
          refine ⟨_, rfl, ?_⟩
          have hq4 := Aside0.mk (below_then hq5.out hq5.out.size hb9)
          have hb9' := Aside0.mk hb9
          clear hb9
          refine hK.out _ _ (KEEP.out _ hq4.out) (fun hHeld => ?_)
          clear hK K
          refine norm_ (a' := ?_) ?_ ?_
          rotate_left
          · show Act.put _ (some 29) _ = _
            simp only [Act.put, List.setIfInBounds_toArray, List.set_cons_zero, List.set_cons_succ, i64_w, i32_w]
            rfl
          exact norm_ (by simp only [putAll, Act.put, List.setIfInBounds_toArray, List.set_cons_zero, List.set_cons_succ]) (hCont (wm.drew).heap.size _ ⟨hHeld, hz5.out.below hb9'.out, hq0.out.size, hq4.out⟩)
      intro gs w9 hF
      obtain ⟨hHeld, hz, hgs, hb9⟩ := hF
      have HZ9 := Aside0.mk hz
      have HGS := Aside0.mk hgs
      have hq9 := Aside0.mk hb9
      clear hz hgs hb9
      refine norm_ (a' := ?_) ?_ ?_
      rotate_left
      · simp only [putAll, Act.put, List.setIfInBounds_toArray, List.set_cons_zero, List.set_cons_succ]
        rfl
      refine last_ (i := 12) (N := none) #[true, true, true, true, true, true, true, true, true, true, true, true, true] rfl rfl (by kernel_rfl) (by decide) (fun K hK => ?_)
      rw [if_pos (by rfl)]
      refine wp_store_row 50 _ _ rfl gs (rcells set) rfl rfl 50 _ HZ9.out (by rw [rcells_size]; exact info50s) (by rw [rcells_size, rcells_size]) (rcells_one _) ?_
      refine hK.out _ _ ?_
      clear hK K hHeld
      refine done_ (by kernel_rfl) ?_
      have HS9 : Aside0 (RSet (w9.setRow gs (rcells set)) gs set) := ⟨setRow_heap _ _ _ _ _ _ HZ9.out⟩
      have hg1 : w.heap.size + 1 + 1 < gs := by have := HGS.out; have := blk_lt HN.out; omega
      have HX9 : Aside0 (BoxAt w (w9.setRow gs (rcells set)) (some ads) c0 sends.length (some adr) c1 routes.length pat) := ⟨(HX.out.later hq9.out).row (by omega) _⟩
      have HR9 : Aside0 (RSet (w9.setRow gs (rcells set)) (w.heap.size + 1) (fun _ => false)) := ⟨(HR.out.below hq9.out).row (by omega) _⟩
      have HN9 : Aside0 (RSet (w9.setRow gs (rcells set)) (w.heap.size + 1 + 1) now) := ⟨(HN.out.below hq9.out).row (by omega) _⟩
      clear x0 x1 y0 y1 y2 KEEP HREF hq0 hq9 HZ9 HX HR HN HGS
      generalize w9.setRow gs (rcells set) = wA at HS9 HX9 HR9 HN9 ⊢
      have x1 := HX9.out.x1
      have y2 := (HX9.out.below.cell (World.block_lt_of_cell? w _ DR1.out)).trans DR1.out
      have t0 := HS9.out.cell (j := 101) (by omega)
      have t1 := HS9.out.frozen 101
      generalize set ((101 : Nat) : Int) = tv at t0
      have HXB : Aside0 (BoxAt w (wA.setCell ⟨gs, 101, none⟩ (.bool lossy)) (some ads) c0 sends.length (some adr) c1 routes.length pat) := ⟨HX9.out.far (p := ⟨gs, 101, none⟩) (by simp; omega) _⟩
      have HRB : Aside0 (RSet (wA.setCell ⟨gs, 101, none⟩ (.bool lossy)) (w.heap.size + 1) (fun _ => false)) := ⟨HR9.out.far (p := ⟨gs, 101, none⟩) (by simp; omega) _⟩
      have HNB : Aside0 (RSet (wA.setCell ⟨gs, 101, none⟩ (.bool lossy)) (w.heap.size + 1 + 1) now) := ⟨HN9.out.far (p := ⟨gs, 101, none⟩) (by simp; omega) _⟩
      have HSB : Aside0 (RSet (wA.setCell ⟨gs, 101, none⟩ (.bool lossy)) gs by') := ⟨by
        rw [HBY.out]
        exact HS9.out.put (by omega) lossy⟩
      obtain ⟨wB, hwB⟩ : ∃ wB, wB = wA.setCell ⟨gs, 101, none⟩ (.bool lossy) := ⟨_, rfl⟩
      rw [← hwB] at HXB HRB HNB HSB
      obtain ⟨gn, hgn⟩ : ∃ gn, gn = wB.heap.size := ⟨_, rfl⟩
      have hbC : Below wB.heap.size wB (wB.alloc (.cells Try.zeroCells50 50)) := (Below.refl _ _).alloc (Nat.le_refl _) _
      have HXC := Aside0.mk (HXB.out.later hbC)
      have HRC := Aside0.mk (HRB.out.below hbC)
      have HNC := Aside0.mk (HNB.out.below hbC)
      have HSC := Aside0.mk (HSB.out.below hbC)
      have HZC := Aside0.mk (show RSet (wB.alloc (.cells Try.zeroCells50 50)) gn (fun _ => false) from by rw [hgn, RSet, ← zero50]; exact blk_new _ _)
      have HGN := Aside0.mk (show gs < gn from hgn ▸ blk_lt HSB.out)
      have hszb : wB.heap.size = wA.heap.size := by rw [hwB]; simp
      have HGN2 := Aside0.mk (hgn.trans hszb)
      have HWB := Aside0.mk hwB
      clear hbC hgn hwB hszb HS9 HX9 HR9 HN9 HXB HRB HNB HSB HBY
      go_wp2_with fail
      rw [← HWB.out, ← HGN2.out]
      clear t0 t1 x1 y2 HWB HGN2
      generalize wB.alloc (.cells Try.zeroCells50 50) = wC at HXC HRC HNC HSC HZC ⊢
      have HNOW : Aside0 (manyC now by' (101 + 1) = manyC now by' 102) := ⟨rfl⟩
      go_loopg [9] 102 (fun gg s9 wr => ∃ a : Nat, a ≤ 102 ∧ 102 - a ≤ gg ∧ s9 = .int .i64 a ∧ Aside0 (BoxAt w wr (some ads) c0 sends.length (some adr) c1 routes.length pat) ∧ Aside0 (RSet wr (w.heap.size + 1) (fun _ => false)) ∧ Aside0 (RSet wr (w.heap.size + 1 + 1) now) ∧ Aside0 (RSet wr gs by') ∧ Aside0 (RSet wr gn (manyC now by' a)))
      case atStart => exact ⟨0, by omega, by omega, rfl, HXC, HRC, HNC, HSC, ⟨HZC.out.congr (fun y _ => by simp [manyC])⟩⟩
      case round =>
        obtain ⟨a, ha, hga, rfl, HXa, HRa, HNa, HSa, HZa⟩ := hrel
        clear HXC HRC HNC HSC HZC
        obtain ⟨wa, rfl⟩ : ∃ wa : World, wa = wr := ⟨_, rfl⟩
        by_cases hla : a < 102
        · have hlaz : (a : Int) ≤ 101 := by omega
          have haz : (a : Int) < 102 := by omega
          go_wp2_with fail
          go_loopg [10] 103 (fun gm s10 wr => ∃ m : Nat, m ≤ 102 ∧ 103 - m ≤ gm ∧ s10 = .int .i64 (m : Int) ∧ Aside0 (m = 0 ∨ now (a : Int) = true) ∧ Aside0 (BoxAt w wr (some ads) c0 sends.length (some adr) c1 routes.length pat) ∧ Aside0 (RSet wr (w.heap.size + 1) (fun _ => false)) ∧ Aside0 (RSet wr (w.heap.size + 1 + 1) now) ∧ Aside0 (RSet wr gs by') ∧
            Aside0 (RSet wr gn (fun y => manyC now by' a y || oneC by' (a : Int) m y)))
          case atStart => exact ⟨0, by omega, by omega, rfl, ⟨.inl rfl⟩, HXa, HRa, HNa, HSa, ⟨HZa.out.congr (fun y _ => by simp [oneC])⟩⟩
          case round =>
            obtain ⟨m, hm, hgm, rfl, HMC, HXm, HRm, HNm, HSm, HZm⟩ := hrel
            clear HXa HRa HNa HSa HZa
            obtain ⟨wi, rfl⟩ : ∃ wi : World, wi = wr := ⟨_, rfl⟩
            have n0 : wi.cell? ⟨w.heap.size + 1 + 1, a, none⟩ = some (.bool (now (a : Int))) := HNm.out.cell (by omega)
            have NEXT : Aside0 (m = 102 ∨ now (a : Int) = false → RSet wi gn (manyC now by' (a + 1))) := ⟨fun hmc => by
              refine HZm.out.congr (fun y _ => ?_)
              rw [manyC_succ]
              cases hck : now (a : Int) with
              | true =>
                rcases hmc with h | h
                · rw [h, Bool.true_and]
                · rw [hck] at h; cases h
              | false =>
                rcases HMC.out with h | h
                · rw [h]; simp [oneC]
                · rw [hck] at h; cases h⟩
            by_cases hmc : m < 102
            · have hle : (m : Int) ≤ 101 := by omega
              have hmz : (m : Int) < 102 := by omega
              cases hck : now (a : Int) with
              | false =>
                have HCK := Aside0.mk hck
                rw [hck] at n0
                clear hck
                have HNXT := Aside0.mk (NEXT.out (.inr HCK.out))
                go_wp2_with fail
                go_roundg (102 - (a + 1))
                case measure => omega
                case rel => exact ⟨a + 1, by omega, by omega, by go_num, HXm, HRm, HNm, HSm, HNXT⟩
              | true =>
                have HCK := Aside0.mk hck
                rw [hck] at n0
                clear hck
                have n1 : wi.cell? ⟨gs, m, none⟩ = some (.bool (by' (m : Int))) := HSm.out.cell (by omega)
                cases hcb : by' (m : Int) with
                | false =>
                  have HCB := Aside0.mk hcb
                  rw [hcb] at n1
                  clear hcb
                  go_wp2_with fail
                  go_roundg (103 - (m + 1))
                  case measure => omega
                  case rel => exact ⟨m + 1, by omega, by omega, by go_num, ⟨.inr HCK.out⟩, HXm, HRm, HNm, HSm, ⟨HZm.out.congr (fun y _ => by rw [oneC_succ, HCB.out]; simp)⟩⟩
                | true =>
                  have HCB := Aside0.mk hcb
                  rw [hcb] at n1
                  clear hcb
                  obtain ⟨mn, hmn, hmn2⟩ : ∃ mn : Nat, min (a : Int) (m : Int) = (mn : Int) ∧ mn < 102 := ⟨min a m, by omega, by omega⟩
                  have hmnz : (mn : Int) < 102 := by omega
                  have HMN := Aside0.mk hmn
                  have t0 := HZm.out.cell (j := mn) (by omega)
                  have t1 := HZm.out.frozen mn
                  generalize (manyC now by' a (mn : Int) || oneC by' (a : Int) m (mn : Int)) = tv at t0
                  have hg2 : w.heap.size + 1 + 1 < gn := by have := HGN.out; omega
                  have HXn : Aside0 (BoxAt w (wi.setCell ⟨gn, mn, none⟩ (.bool true)) (some ads) c0 sends.length (some adr) c1 routes.length pat) := ⟨HXm.out.far (p := ⟨gn, mn, none⟩) (by simp; omega) _⟩
                  have HRn : Aside0 (RSet (wi.setCell ⟨gn, mn, none⟩ (.bool true)) (w.heap.size + 1) (fun _ => false)) := ⟨HRm.out.far (p := ⟨gn, mn, none⟩) (by simp; omega) _⟩
                  have HNn : Aside0 (RSet (wi.setCell ⟨gn, mn, none⟩ (.bool true)) (w.heap.size + 1 + 1) now) := ⟨HNm.out.far (p := ⟨gn, mn, none⟩) (by simp; omega) _⟩
                  have HSn : Aside0 (RSet (wi.setCell ⟨gn, mn, none⟩ (.bool true)) gs by') := ⟨HSm.out.far (p := ⟨gn, mn, none⟩) (by have := HGN.out; simp; omega) _⟩
                  have HZn : Aside0 (RSet (wi.setCell ⟨gn, mn, none⟩ (.bool true)) gn (fun y => manyC now by' a y || oneC by' (a : Int) (m + 1) y)) := ⟨(HZm.out.put hmn2 true).congr (fun y _ => by
                    rw [oneC_succ, HCB.out, HMN.out, Bool.true_and, ← Bool.or_assoc]
                    by_cases e : (y : Int) = (mn : Int)
                    · rw [if_pos e, beq_iff_eq.2 e, Bool.or_true]
                    · rw [if_neg e, beq_eq_false_iff_ne.2 e, Bool.or_false])⟩
                  clear hg2
                  rcases (show (m < a ∧ mn = m) ∨ (¬ m < a ∧ mn = a) by omega) with ⟨hma, e⟩ | ⟨hma, e⟩ <;> clear hmn <;> subst e
                  · go_wp2_with fail
                    go_roundg (103 - (mn + 1))
                    case measure => omega
                    case rel => exact ⟨mn + 1, by omega, by omega, by go_num, ⟨.inr HCK.out⟩, HXn, HRn, HNn, HSn, HZn⟩
                  · go_wp2_with fail
                    go_roundg (103 - (m + 1))
                    case measure => omega
                    case rel => exact ⟨m + 1, by omega, by omega, by go_num, ⟨.inr HCK.out⟩, HXn, HRn, HNn, HSn, HZn⟩
            · have hle : ¬ (m : Int) ≤ 101 := by omega
              have HNXT := Aside0.mk (NEXT.out (.inl (by omega)))
              go_wp2_with fail
              go_roundg (102 - (a + 1))
              case measure => omega
              case rel => exact ⟨a + 1, by omega, by omega, by go_num, HXm, HRm, HNm, HSm, HNXT⟩
        · have hlaz : ¬ (a : Int) ≤ 101 := by omega
          have haa : a = 102 := by omega
          have HNF : Aside0 (RSet wa gn (comF (sn : Int) (rs.take (j + 1)) nev)) := ⟨by
            rw [HTK.out, ← haa]
            exact HZa.out⟩
          clear haa
          go_wp2_with (first
            | (refine wpList_load_row rfl 50 _ rfl gn rfl 50 _ (0, 0) _ HNF.out Try.underlying50 rfl (by rw [rcells_size]; exact info50s) ?_)
            | (refine wpList_store_row rfl 50 _ _ rfl (w.heap.size + 1 + 1) (rcells (comF (sn : Int) (rs.take (j + 1)) nev)) rfl rfl 50 _ HNa.out (by rw [rcells_size]; exact info50s) (by rw [rcells_size, rcells_size]) (rcells_one _) ?_))
          go_roundg (routes.length - (j + 1))
          case measure => omega
          case rel => exact ⟨j + 1, by omega, by omega, by go_num, ⟨HXa.out.row (by omega) _⟩, ⟨HRa.out.row (by omega) _⟩, ⟨setRow_heap _ _ _ _ _ _ HNa.out⟩⟩
    · have hltz : ¬ (j : Int) < (routes.length : Int) := by omega
      have hjj : j = routes.length := by omega
      have HF : Aside0 (RSet wm (w.heap.size + 1 + 1) (comL rs (sn : Int))) := ⟨by
        have e := HN.out
        rw [hjj, ← HRL.out, List.take_length] at e
        exact e⟩
      have x1 := HX.out.x1
      clear hjj
      go_wp2_with (first
        | (refine wpList_load_row rfl 50 _ rfl (w.heap.size + 1 + 1) rfl 50 _ (0, 0) _ HF.out Try.underlying50 rfl (by rw [rcells_size]; exact info50s) ?_)
        | (refine wpList_store_row rfl 50 _ _ rfl (w.heap.size + 1) (rcells (comL rs (sn : Int))) rfl rfl 50 _ HR.out (by rw [rcells_size]; exact info50s) (by rw [rcells_size, rcells_size]) (rcells_one _) ?_))
      refine bodyPost_ret (results_cell_row rfl _ _ (w.heap.size + 1) 50 (rcells (comL rs (sn : Int))) (0, 0) _ rfl (setRow_heap _ _ _ _ _ _ HR.out) Try.underlying50 rfl (by rw [rcells_size]; exact info50s)) rfl ⟨rfl, below_setRow HX.out.below (by omega) _⟩
end Go.Proofs.Ytiephlhohgohcaa.PAll
namespace Go.Proofs.Ytiephlhohgohcaa.PAll
open Go.RowKit Go.Proofs.YtiephlhohgohcaaW.PrintWords Go.Proofs.YtiephlhohgohcaaW.PrintLast Go.Proofs.YtiephlhohgohcaaW.PrintMore
attribute [local go_sem] max2_int min2_int max_two min_two max_three min_three max_four min_four
set_option linter.unusedVariables false
set_option linter.unusedSimpArgs false
def loK (f : Int → Bool) : Nat → Int
  | 0 => 102
  | k + 1 => if f (k : Int) = true then min (loK f k) (k : Int) else loK f k
def hiK (f : Int → Bool) : Nat → Int
  | 0 => -1
  | k + 1 => if f (k : Int) = true then (k : Int) else hiK f k
theorem hiK_le (f : Int → Bool) : ∀ k : Nat, -1 ≤ hiK f k ∧ hiK f k < (k : Int)
  | 0 => by simp [hiK]
  | k + 1 => by
    have := hiK_le f k
    rw [hiK]
    split <;> omega
set_option maxRecDepth 100000 in
set_option maxHeartbeats 8000000 in
theorem ends36 (f : Int → Bool) (w : World) :
    Calls Try.prog 36 #[.agg (rcells f)] w fun e w' => e = .returned (.tuple #[.agg #[.int .i64 (loK f 102), .int .i64 (hiK f 102)], .bool (decide (0 ≤ hiK f 102))]) ∧ Below w.heap.size w w' := by
  have hz1 := size_new_at (w := w) (o := .cells (rcells f) 50) rfl
  have hz2 := size_new_at (o := .cells #[Value.int IntKind.i64 0, Value.int IntKind.i64 0] 64) hz1
  obtain ⟨W4, hW4⟩ : ∃ W4, W4 = ((w.alloc (Obj.cells (rcells f) 50)).alloc (Obj.cells #[Value.int IntKind.i64 0, Value.int IntKind.i64 0] 64)).alloc (Obj.cells #[Value.int IntKind.i64 102, Value.int IntKind.i64 (-1)] 64) := ⟨_, rfl⟩
  have HB4 : Aside0 (Below w.heap.size w W4) := ⟨hW4 ▸ (((Below.refl _ w).alloc (by simp) _).alloc (by simp) _).alloc (by simp; omega) _⟩
  have HF4 : Aside0 (RSet W4 w.heap.size f) := ⟨by rw [hW4]; exact blk_alloc (blk_alloc (blk_new _ _) _) _⟩
  have HR4 : Aside0 (W4.heap[w.heap.size + 1]? = some (.cells #[.int .i64 0, .int .i64 0] 64 (0, 0))) := ⟨by rw [hW4]; exact blk_alloc (blk_new_at hz1) _⟩
  have HO4 : Aside0 (W4.heap[w.heap.size + 1 + 1]? = some (.cells #[.int .i64 (loK f 0), .int .i64 (hiK f 0)] 64 (0, 0))) := ⟨by rw [hW4]; exact blk_new_at hz2⟩
  have HW4 := Aside0.mk hW4
  clear hz1 hz2 hW4
  go_enter Try.func36, Try.ntmps36
  go_wp2_with fail
  rw [← HW4.out]
  clear HW4
  go_loopg [5] 102 (fun gg s5 wr => ∃ k : Nat, k ≤ 102 ∧ 102 - k ≤ gg ∧ s5 = .int .i64 k ∧ Aside0 (Below w.heap.size w wr) ∧ Aside0 (RSet wr w.heap.size f) ∧ Aside0 (wr.heap[w.heap.size + 1]? = some (.cells #[.int .i64 0, .int .i64 0] 64 (0, 0))) ∧ Aside0 (wr.heap[w.heap.size + 1 + 1]? = some (.cells #[.int .i64 (loK f k), .int .i64 (hiK f k)] 64 (0, 0))))
  case atStart => exact ⟨0, by omega, by omega, rfl, HB4, HF4, HR4, HO4⟩
  case round =>
    obtain ⟨k, hk, hgk, rfl, HB, HF, HR, HO⟩ := hrel
    clear HB4 HF4 HR4 HO4
    obtain ⟨wk, rfl⟩ : ∃ wk : World, wk = wr := ⟨_, rfl⟩
    have o0 : wk.cell? ⟨w.heap.size + 1 + 1, 0, none⟩ = some (.int .i64 (loK f k)) := (blk_cell HO.out 0).trans rfl
    have o1 : wk.cell? ⟨w.heap.size + 1 + 1, 1, none⟩ = some (.int .i64 (hiK f k)) := (blk_cell HO.out 1).trans rfl
    have f0 := blk_frozen HO.out 0
    have f1 := blk_frozen HO.out 1
    by_cases hlk : k < 102
    · have hlkz : (k : Int) ≤ 101 := by omega
      have hlk2 : (k : Int) < 102 := by omega
      have n0 : wk.cell? ⟨w.heap.size, k, none⟩ = some (.bool (f (k : Int))) := HF.out.cell (by omega)
      have hsz : w.heap.size < w.heap.size + 1 + 1 := by omega
      cases hfk : f (k : Int) with
      | false =>
        have HFK := Aside0.mk hfk
        rw [hfk] at n0
        clear hfk
        go_wp2_with fail
        go_roundg (102 - (k + 1))
        case measure => omega
        case rel => exact ⟨k + 1, by omega, by omega, by go_num, HB, HF, HR, ⟨by
          have e := HO.out
          rw [loK, hiK, HFK.out]
          simpa using e⟩⟩
      | true =>
        have HFK := Aside0.mk hfk
        rw [hfk] at n0
        clear hfk
        have HN : Aside0 (loK f (k + 1) = min (loK f k) (k : Int) ∧ hiK f (k + 1) = k) := ⟨by rw [loK, hiK, HFK.out]; simp⟩
        obtain ⟨lv, hlv⟩ : ∃ lv, loK f k = lv := ⟨_, rfl⟩
        rw [hlv] at o0 HN
        generalize hiK f k = hv at o1
        clear hlv
        have HOS : Aside0 (((wk.setCell ⟨w.heap.size + 1 + 1, 0, none⟩ (.int .i64 (min lv (k : Int)))).setCell ⟨w.heap.size + 1 + 1, 1, none⟩ (.int .i64 (k : Int))).heap[w.heap.size + 1 + 1]? = some (.cells #[.int .i64 (loK f (k + 1)), .int .i64 (hiK f (k + 1))] 64 (0, 0))) := ⟨by
          rw [HN.out.1, HN.out.2]
          exact (blk_set (blk_set HO.out 0 _) 1 _).trans rfl⟩
        have HBS : Aside0 (Below w.heap.size w ((wk.setCell ⟨w.heap.size + 1 + 1, 0, none⟩ (.int .i64 (min lv (k : Int)))).setCell ⟨w.heap.size + 1 + 1, 1, none⟩ (.int .i64 (k : Int)))) := ⟨(HB.out.setCell (p := ⟨w.heap.size + 1 + 1, 0, none⟩) (by simp; omega) _).setCell (p := ⟨w.heap.size + 1 + 1, 1, none⟩) (by simp; omega) _⟩
        have HFS : Aside0 (RSet ((wk.setCell ⟨w.heap.size + 1 + 1, 0, none⟩ (.int .i64 (min lv (k : Int)))).setCell ⟨w.heap.size + 1 + 1, 1, none⟩ (.int .i64 (k : Int))) w.heap.size f) := ⟨(HF.out.far (p := ⟨w.heap.size + 1 + 1, 0, none⟩) (by simp; omega) _).far (p := ⟨w.heap.size + 1 + 1, 1, none⟩) (by simp; omega) _⟩
        have HRS : Aside0 (((wk.setCell ⟨w.heap.size + 1 + 1, 0, none⟩ (.int .i64 (min lv (k : Int)))).setCell ⟨w.heap.size + 1 + 1, 1, none⟩ (.int .i64 (k : Int))).heap[w.heap.size + 1]? = some (.cells #[.int .i64 0, .int .i64 0] 64 (0, 0))) := ⟨blk_far (blk_far HR.out (p := ⟨w.heap.size + 1 + 1, 0, none⟩) (by simp) _) (p := ⟨w.heap.size + 1 + 1, 1, none⟩) (by simp) _⟩
        rcases (show ((k : Int) < lv ∧ min lv (k : Int) = (k : Int)) ∨ (¬ (k : Int) < lv ∧ min lv (k : Int) = lv) by omega) with ⟨hma, e⟩ | ⟨hma, e⟩ <;> rw [e] at HOS HBS HFS HRS <;> clear e
        · go_wp2_with fail
          go_roundg (102 - (k + 1))
          case measure => omega
          case rel => exact ⟨k + 1, by omega, by omega, by go_num, HBS, HFS, HRS, HOS⟩
        · go_wp2_with fail
          go_roundg (102 - (k + 1))
          case measure => omega
          case rel => exact ⟨k + 1, by omega, by omega, by go_num, HBS, HFS, HRS, HOS⟩
    · have hlkz : ¬ (k : Int) ≤ 101 := by omega
      have hkk : k = 102 := by omega
      subst hkk
      clear hk hgk
      have b0 : wk.cell? ⟨w.heap.size + 1, 0, none⟩ = some (.int .i64 0) := (blk_cell HR.out 0).trans rfl
      have b1 : wk.cell? ⟨w.heap.size + 1, 1, none⟩ = some (.int .i64 0) := (blk_cell HR.out 1).trans rfl
      have g0 := blk_frozen HR.out 0
      have g1 := blk_frozen HR.out 1
      obtain ⟨lv, hlv⟩ : ∃ lv, loK f 102 = lv := ⟨_, rfl⟩
      obtain ⟨hv, hhv⟩ : ∃ hv, hiK f 102 = hv := ⟨_, rfl⟩
      rw [hlv] at o0
      rw [hhv] at o1
      have HLV := Aside0.mk hlv
      have HHV := Aside0.mk hhv
      clear hlv hhv
      go_upto_region 7 with fail
      have HQ0 := Aside0.mk ((blk_set (blk_set HR.out 0 (.int .i64 lv)) 1 (.int .i64 hv)).trans rfl : _ = some (Obj.cells #[.int .i64 lv, .int .i64 hv] 64 (0, 0)))
      have HQ1 := Aside0.mk ((HB.out.setCell (p := ⟨w.heap.size + 1, 0, none⟩) (by simp) (.int .i64 lv)).setCell (p := ⟨w.heap.size + 1, 1, none⟩) (by simp) (.int .i64 hv))
      go_region
      all_goals (go_wp2_with fail)
      all_goals refine bodyPost_ret (results_ct rfl _ _ (w.heap.size + 1) 64 #[.int .i64 lv, .int .i64 hv] (0, 0) _ rfl ?_ Try.underlying64 rfl (by kernel_rfl)) rfl ⟨?_, ?_⟩
      all_goals (try exact HQ0.out)
      all_goals (try exact below_drew HQ1.out)
      all_goals (rw [HLV.out, HHV.out]; rfl)
end Go.Proofs.Ytiephlhohgohcaa.PAll
namespace Go.Proofs.Ytiephlhohgohcaa.PAll
open Go.RowKit Go.Proofs.YtiephlhohgohcaaW.PrintWords Go.Proofs.YtiephlhohgohcaaW.PrintLast Go.Proofs.YtiephlhohgohcaaW.PrintMore
attribute [local go_sem] max2_int min2_int max_two min_two max_three min_three max_four min_four
set_option linter.unusedVariables false
set_option linter.unusedSimpArgs false
/-- What the reference's Sure says. -/
def sureM (rs : List S122) (pat : Int) (s : Int) : Bool := decide (hiK (comL rs s) 102 ≤ s + pat)
set_option maxRecDepth 100000 in
set_option maxHeartbeats 8000000 in
theorem sure39 (A0 : Option Addr) (c0 : Nat) (sends : List Int) (A1 : Option Addr) (c1 : Nat) (routes : List S54) (pat : Int) (rs : List S122) (w : World) (hrs : rs = routes.map toX) (h : PostAt w A0 c0 sends A1 c1 routes) (V : Valid sends rs pat) (ni : Nat) (hni : ni < sends.length) :
    Calls Try.prog 39 #[.agg #[.slice A0 sends.length c0, .slice A1 routes.length c1, .int .i64 pat], .int .i64 (ni : Int)] w fun e w' => e = .returned (.bool (sureM rs pat sends[ni])) ∧ Below w.heap.size w w' := by
  have HCOM : Aside0 (∀ w', Below w.heap.size w w' → Calls Try.prog 85 #[.agg #[.slice A0 sends.length c0, .slice A1 routes.length c1, .int .i64 pat], .int .i64 (ni : Int)] w' fun e w'' => e = .returned (.agg (rcells (comL rs sends[ni]))) ∧ Below w'.heap.size w' w'') := ⟨fun w' hb => comings85 A0 c0 sends A1 c1 routes pat rs w' hrs (h.below hb) V ni hni⟩
  obtain ⟨ads, es, ds⟩ := Kd.at_int h.h0 (ni : Int) (by omega) (by omega)
  cases es
  rw [Int.toNat_natCast, rdI hni] at ds
  have hms := List.getElem_mem hni
  have hsn := V.s0 _ hms
  have hpn := V.p0
  rw [sureM]
  generalize sends[ni] = sn at ds HCOM hsn ⊢
  have hnz : (ni : Int) < (sends.length : Int) := by omega
  have hw : wrap64 (sn + pat) = sn + pat := by unfold wrap64; omega
  have DS := Aside0.mk ds
  clear h V ds hms hrs
  obtain ⟨W1, hW1⟩ : ∃ W1, W1 = w.alloc (.cells #[.slice (some ads) sends.length c0, .slice A1 routes.length c1, .int .i64 pat] 25) := ⟨_, rfl⟩
  have hx := BoxAt.start w (some ads) c0 sends.length A1 c1 routes.length pat
  rw [← hW1] at hx
  have HX := Aside0.mk hx
  have x0 := hx.x0
  have x1 := hx.x1
  have x2 := hx.x2
  have HW1 := Aside0.mk hW1
  clear hx hW1
  go_enter Try.func39, Try.ntmps39
  go_wp2_with fail
  rw [← HW1.out]
  clear HW1
  refine (HCOM.out _ HX.out.below).mono ?_
  rintro e w2 ⟨rfl, hb⟩
  replace HX := Aside0.mk (HX.out.later hb)
  clear hb x0 x1 x2
  generalize hff : comL rs sn = f
  have HFF := Aside0.mk hff
  clear hff
  go_wp2_with fail
  refine (ends36 f w2).mono ?_
  rintro e w3 ⟨rfl, hb⟩
  replace HX := Aside0.mk (HX.out.later hb)
  clear hb
  have hk := hiK_le f 102
  generalize loK f 102 = lv
  generalize hhv : hiK f 102 = hv at hk ⊢
  have HHV := Aside0.mk hhv
  clear hhv
  go_wp2_with fail
  obtain ⟨W4, hW4⟩ : ∃ W4, W4 = w3.alloc (.cells #[.int .i64 lv, .int .i64 hv] 64) := ⟨_, rfl⟩
  rw [← hW4]
  have hb4 : Below w3.heap.size w3 W4 := hW4 ▸ (Below.refl _ w3).alloc (Nat.le_refl _) _
  have HX4 := Aside0.mk (HX.out.later hb4)
  have o1 : W4.cell? ⟨w3.heap.size, 1, none⟩ = some (.int .i64 hv) := (blk_cell (by rw [hW4]; exact blk_new _ _) 1).trans rfl
  have x0 := HX4.out.x0
  have x2 := HX4.out.x2
  have y0 := (HX4.out.below.cell (World.block_lt_of_cell? w _ DS.out)).trans DS.out
  clear hb4 hW4
  go_quiet (fail)
  go_wp2_with fail
  go_ret
  exact ⟨by rw [HFF.out, HHV.out]; rfl, pw_below_drewN HX4.out.below _⟩
def leastFrom (rs : List S122) (sends : List Int) : Nat → Nat → Int
  | _, 0 => -1
  | n, d + 1 => if sends.all (sureM rs (n : Int)) = true then (n : Int) else leastFrom rs sends (n + 1) d
set_option maxRecDepth 100000 in
set_option maxHeartbeats 8000000 in
theorem least40 (A0 : Option Addr) (c0 : Nat) (sends : List Int) (A1 : Option Addr) (c1 : Nat) (routes : List S54) (pat : Int) (rs : List S122) (w : World) (hrs : rs = routes.map toX) (h : PostAt w A0 c0 sends A1 c1 routes) (V : Valid sends rs pat) :
    Calls Try.prog 40 #[.agg #[.slice A0 sends.length c0, .slice A1 routes.length c1, .int .i64 pat]] w fun e w' => e = .returned (.int .i64 (leastFrom rs sends 0 31)) ∧ Below w.heap.size w w' := by
  have HSURE : Aside0 (∀ (n : Nat), n ≤ 30 → ∀ w', Below w.heap.size w w' → ∀ ni (hni : ni < sends.length), Calls Try.prog 39 #[.agg #[.slice A0 sends.length c0, .slice A1 routes.length c1, .int .i64 (n : Int)], .int .i64 (ni : Int)] w' fun e w'' => e = .returned (.bool (sureM rs (n : Int) sends[ni])) ∧ Below w'.heap.size w' w'') := ⟨fun n hn w' hb ni hni => sure39 A0 c0 sends A1 c1 routes (n : Int) rs w' hrs (h.below hb) { V with p0 := by omega } ni hni⟩
  have hsl := V.sn
  clear h V hrs
  obtain ⟨R, hR⟩ : ∃ R, leastFrom rs sends 0 31 = R := ⟨_, rfl⟩
  have HRR := Aside0.mk hR
  rw [hR]
  clear hR
  obtain ⟨W1, hW1⟩ : ∃ W1, W1 = w.alloc (.cells #[.slice A0 sends.length c0, .slice A1 routes.length c1, .int .i64 pat] 25) := ⟨_, rfl⟩
  have hx := BoxAt.start w A0 c0 sends.length A1 c1 routes.length pat
  rw [← hW1] at hx
  have HX1 := Aside0.mk hx
  have HW1 := Aside0.mk hW1
  clear hx hW1
  go_enter Try.func40, Try.ntmps40
  go_wp2_with fail
  rw [← HW1.out]
  clear HW1
  go_loopg [3] 31 (fun gg s3 wr => ∃ n : Nat, n ≤ 31 ∧ 31 - n ≤ gg ∧ s3 = .int .i64 n ∧ Aside0 (BoxAt w wr A0 c0 sends.length A1 c1 routes.length pat) ∧ Aside0 (R = leastFrom rs sends n (31 - n)))
  case atStart => exact ⟨0, by omega, by omega, rfl, HX1, ⟨HRR.out.symm⟩⟩
  case round =>
    obtain ⟨n, hn, hgn, rfl, HX, HL⟩ := hrel
    clear HX1
    obtain ⟨wn, rfl⟩ : ∃ wn : World, wn = wr := ⟨_, rfl⟩
    by_cases hln : n < 31
    · have hlnz : (n : Int) ≤ 30 := by omega
      obtain ⟨q, hq⟩ : ∃ q, 31 - n = q + 1 := ⟨30 - n, by omega⟩
      have hL := HL.out
      rw [hq, leastFrom] at hL
      have HQ := Aside0.mk (show 31 - (n + 1) = q by omega)
      replace HL := Aside0.mk hL
      clear hL hq
      have x0 := HX.out.x0
      have x1 := HX.out.x1
      have x2 := HX.out.x2
      go_wp2_with fail
      clear x0 x1 x2
      obtain ⟨gx, hgx⟩ : ∃ gx, gx = wn.heap.size := ⟨_, rfl⟩
      have hbx : Below wn.heap.size wn (wn.alloc (Obj.cells #[Value.slice A0 sends.length c0, Value.slice A1 routes.length c1, Value.int IntKind.i64 (n : Int)] 25)) := (Below.refl _ _).alloc (Nat.le_refl _) _
      have HX2 := Aside0.mk (HX.out.later hbx)
      have HG2 : Aside0 ((wn.alloc (Obj.cells #[Value.slice A0 sends.length c0, Value.slice A1 routes.length c1, Value.int IntKind.i64 (n : Int)] 25)).heap[gx]? = some (.cells #[.slice A0 sends.length c0, .slice A1 routes.length c1, .int .i64 (n : Int)] 25 (0, 0))) := ⟨by rw [hgx]; exact blk_new _ _⟩
      rw [← hgx]
      clear hbx hgx
      generalize wn.alloc (Obj.cells #[Value.slice A0 sends.length c0, Value.slice A1 routes.length c1, Value.int IntKind.i64 (n : Int)] 25) = wo at HX2 HG2 ⊢
      go_loopg [5, 6] sends.length (fun gm s5 s6 wr => ∃ i : Nat, i ≤ sends.length ∧ sends.length - i ≤ gm ∧ s6 = .int .i64 (i : Int) ∧ s5 = .bool ((sends.take i).all (sureM rs (n : Int))) ∧ Aside0 (BoxAt w wr A0 c0 sends.length A1 c1 routes.length pat) ∧ Aside0 (wr.heap[gx]? = some (.cells #[.slice A0 sends.length c0, .slice A1 routes.length c1, .int .i64 (n : Int)] 25 (0, 0))))
      case atStart => exact ⟨0, by omega, by omega, rfl, by rw [List.take_zero]; rfl, HX2, HG2⟩
      case round =>
        obtain ⟨i, hi, hgi, rfl, rfl, HXi, HGi⟩ := hrel
        clear HX2 HG2
        obtain ⟨wi, rfl⟩ : ∃ wi : World, wi = wr := ⟨_, rfl⟩
        have x0 := HXi.out.x0
        by_cases hlt : i < sends.length
        · have hltz : (i : Int) < (sends.length : Int) := by omega
          have HT : Aside0 ((sends.take (i + 1)).all (sureM rs (n : Int)) = ((sends.take i).all (sureM rs (n : Int)) && sureM rs (n : Int) sends[i])) := ⟨by rw [List.take_succ_eq_append_getElem hlt, List.all_append]; simp only [List.all_cons, List.all_nil, Bool.and_true]⟩
          have HS : Aside0 (∀ w', Below w.heap.size w w' → Calls Try.prog 39 #[.agg #[.slice A0 sends.length c0, .slice A1 routes.length c1, .int .i64 (n : Int)], .int .i64 (i : Int)] w' fun e w'' => e = .returned (.bool (sureM rs (n : Int) sends[i])) ∧ Below w'.heap.size w' w'') := ⟨fun w' hb => HSURE.out n (by omega) w' hb i hlt⟩
          generalize sureM rs (n : Int) sends[i] = sb at HT HS
          generalize (sends.take i).all (sureM rs (n : Int)) = ab at HT
          have g0 : wi.cell? ⟨gx, 0, none⟩ = some (.slice A0 sends.length c0) := (blk_cell HGi.out 0).trans rfl
          have g1 : wi.cell? ⟨gx, 1, none⟩ = some (.slice A1 routes.length c1) := (blk_cell HGi.out 1).trans rfl
          have g2 : wi.cell? ⟨gx, 2, none⟩ = some (.int .i64 (n : Int)) := (blk_cell HGi.out 2).trans rfl
          cases ab with
          | false =>
            go_wp2_with fail
            go_roundg (sends.length - (i + 1))
            case measure => omega
            case rel => exact ⟨i + 1, by omega, by omega, by go_num, by rw [HT.out]; rfl, HXi, HGi⟩
          | true =>
            go_wp2_with fail
            refine (HS.out _ HXi.out.below).mono ?_
            rintro e w5 ⟨rfl, hb⟩
            have HX5 := Aside0.mk (HXi.out.later hb)
            have HG5 := Aside0.mk (blk_below HGi.out hb)
            clear hb x0 g0 g1 g2
            go_wp2_with fail
            go_roundg (sends.length - (i + 1))
            case measure => omega
            case rel => exact ⟨i + 1, by omega, by omega, by go_num, by rw [HT.out]; rfl, HX5, HG5⟩
        · have hltz : ¬ (i : Int) < (sends.length : Int) := by omega
          have hii : i = sends.length := by omega
          rw [hii, List.take_length]
          generalize sends.all (sureM rs (n : Int)) = ab at HL ⊢
          clear hii
          cases ab with
          | true =>
            go_wp2_with fail
            go_ret
            exact ⟨by rw [HL.out]; rfl, HXi.out.below⟩
          | false =>
            go_wp2_with fail
            go_roundg (31 - (n + 1))
            case measure => omega
            case rel => exact ⟨n + 1, by omega, by omega, by go_num, HXi, ⟨by rw [HL.out, HQ.out]; rfl⟩⟩
    · have hlnz : ¬ (n : Int) ≤ 30 := by omega
      have hnn : n = 31 := by omega
      subst hnn
      have HE : Aside0 (R = -1) := ⟨HL.out.trans rfl⟩
      go_wp2_with fail
      go_ret
      exact ⟨by rw [HE.out]; rfl, HX.out.below⟩
end Go.Proofs.Ytiephlhohgohcaa.PAll
namespace Go.Proofs.Ytiephlhohgohcaa.PAll
open Go.RowKit Go.Proofs.YtiephlhohgohcaaW.PrintWords Go.Proofs.YtiephlhohgohcaaW.PrintLast Go.Proofs.YtiephlhohgohcaaW.PrintMore
attribute [local go_sem] max2_int min2_int max_two min_two max_three min_three max_four min_four
set_option linter.unusedVariables false
set_option linter.unusedSimpArgs false
/-- An entry that does not fit. -/
def badE (n at' : Int) (sk : Bool) (x : S108) : Bool := x.f0 == n && (x.f1 != at' || x.f2 != sk)
def finOne (can : Int → Bool) (l : List S108) (n d f : Int) (m : Nat) : Int → Bool := fun y => (List.range m).any fun h : Nat => can h && !l.any (badE n (recvE n f h d).f1 (recvE n f h d).f2) && y == (recvE n f h d).f1
def finStep (can : Int → Bool) (l : List S108) (n d : Int) (now : Int → Bool) (k : Nat) : Int → Bool := fun y => (List.range k).any fun f : Nat => now f && finOne can l n d f 102 y
def finL (rs : List S122) (pat : Int) (l : List S108) : Int → List Int → (Int → Bool) → (Int → Bool)
  | _, [], now => now
  | n, s :: ss, now => finL rs pat l (n + 1) ss (finStep (comL rs s) l n (s + pat) now 101)
theorem finL_snoc (rs : List S122) (pat : Int) (l : List S108) (s : Int) : ∀ (ss : List Int) (n : Int) (now : Int → Bool), finL rs pat l n (ss ++ [s]) now = finStep (comL rs s) l (n + ss.length) (s + pat) (finL rs pat l n ss now) 101
  | [], n, now => by simp [finL]
  | a :: ss, n, now => by
    simp only [List.cons_append, finL, List.length_cons]
    rw [finL_snoc rs pat l s ss (n + 1)]
    congr 1
    omega
/-- The set of the hour 0 alone. -/
def zer : Int → Bool := fun x => x == 0
theorem finOne_succ (can : Int → Bool) (l : List S108) (n d f : Int) (m : Nat) (y : Int) : finOne can l n d f (m + 1) y = (finOne can l n d f m y || (can m && !l.any (badE n (recvE n f m d).f1 (recvE n f m d).f2) && y == (recvE n f m d).f1)) := by
  simp only [finOne, List.range_succ, List.any_append, List.any_cons, List.any_nil, Bool.or_false]
theorem finStep_succ (can : Int → Bool) (l : List S108) (n d : Int) (now : Int → Bool) (k : Nat) (y : Int) : finStep can l n d now (k + 1) y = (finStep can l n d now k y || (now k && finOne can l n d k 102 y)) := by
  simp [finStep, List.range_succ]
set_option maxRecDepth 100000 in
theorem refFinish76 (A0 : Option Addr) (c0 : Nat) (sends : List Int) (A1 : Option Addr) (c1 : Nat) (routes : List S54) (pat : Int) (w : World) (h : PostAt w A0 c0 sends A1 c1 routes) (hs : ∀ s ∈ sends, 0 ≤ s ∧ s ≤ 30) (hp : 0 ≤ pat ∧ pat ≤ 30) (i : Nat) (hi : i < sends.length) (before hour : Int) :
    Calls Try.prog 76 #[.agg #[.slice A0 sends.length c0, .slice A1 routes.length c1, .int .i64 pat], .int .i64 (i : Int), .int .i64 before, .int .i64 hour] w fun e w' => e = .returned (.tuple #[.int .i64 (recvE i before hour (sends[i] + pat)).f1, .bool (recvE i before hour (sends[i] + pat)).f2]) ∧ Below w.heap.size w w' :=
  glisterref05_Finish.calls A0 c0 sends A1 c1 routes pat (i : Int) before hour _ _ w h.h0 h.l0 h.h1 h.l1 (finish_f hs hp i hi before hour)
set_option maxRecDepth 100000 in
set_option maxHeartbeats 8000000 in
theorem finishes37 (A0 : Option Addr) (c0 : Nat) (sends : List Int) (A1 : Option Addr) (c1 : Nat) (routes : List S54) (pat : Int) (rs : List S122) (w : World) (hrs : rs = routes.map toX) (h : PostAt w A0 c0 sends A1 c1 routes) (V : Valid sends rs pat) (ni : Nat) (hni : ni < sends.length)
    (A2 : Option Addr) (c2 : Nat) (l : List S108) (hl : Kd.C k108 w A2 l.length l) (hlc : l.length ≤ 1000) :
    Calls Try.prog 37 #[.agg #[.slice A0 sends.length c0, .slice A1 routes.length c1, .int .i64 pat], .int .i64 (ni : Int), .slice A2 l.length c2] w fun e w' => e = .returned (.agg (rcells (finL rs pat l 0 (sends.take (ni + 1)) zer))) ∧ Below w.heap.size w w' := by
  have hsn := V.sn
  have HS0 := Aside0.mk V.s0
  have HP0 := Aside0.mk V.p0
  have HCOM : Aside0 (∀ w', Below w.heap.size w w' → ∀ (i : Nat) (hi : i < sends.length), Calls Try.prog 85 #[.agg #[.slice A0 sends.length c0, .slice A1 routes.length c1, .int .i64 pat], .int .i64 (i : Int)] w' fun e w'' => e = .returned (.agg (rcells (comL rs sends[i]))) ∧ Below w'.heap.size w' w'') := ⟨fun w' hb i hi => comings85 A0 c0 sends A1 c1 routes pat rs w' hrs (h.below hb) V i hi⟩
  have HFIN : Aside0 (∀ w', Below w.heap.size w w' → ∀ (i : Nat) (hi : i < sends.length) (before hour : Int), Calls Try.prog 76 #[.agg #[.slice A0 sends.length c0, .slice A1 routes.length c1, .int .i64 pat], .int .i64 (i : Int), .int .i64 before, .int .i64 hour] w' fun e w'' => e = .returned (.tuple #[.int .i64 (recvE i before hour (sends[i] + pat)).f1, .bool (recvE i before hour (sends[i] + pat)).f2]) ∧ Below w'.heap.size w' w'') := ⟨fun w' hb i hi before hour => refFinish76 A0 c0 sends A1 c1 routes pat w' (h.below hb) V.s0 V.p0 i hi before hour⟩
  have HLK : Aside0 (Kd.C k108 w A2 l.length l) := ⟨hl⟩
  clear h V hrs hl
  obtain ⟨R, hR⟩ : ∃ R, finL rs pat l 0 (sends.take (ni + 1)) zer = R := ⟨_, rfl⟩
  have HRR := Aside0.mk hR
  rw [hR]
  clear hR
  have z1 := size_new_at (w := w) (o := .cells #[.slice A0 sends.length c0, .slice A1 routes.length c1, .int .i64 pat] 25) rfl
  have z2 := size_new_at (o := .cells Try.zeroCells50 50) z1
  obtain ⟨W4, hW4⟩ : ∃ W4, W4 = ((w.alloc (.cells #[.slice A0 sends.length c0, .slice A1 routes.length c1, .int .i64 pat] 25)).alloc (.cells Try.zeroCells50 50)).alloc (.cells (Try.zeroCells50.setIfInBounds 0 (.bool true)) 50) := ⟨_, rfl⟩
  have HX4 : Aside0 (BoxAt w W4 A0 c0 sends.length A1 c1 routes.length pat) := ⟨⟨hW4 ▸ (((Below.refl _ w).alloc (by simp) _).alloc (by simp) _).alloc (by simp; omega) _, by rw [hW4]; exact blk_alloc (blk_alloc (blk_new _ _) _) _⟩⟩
  have HR4 := Aside0.mk (show RSet W4 (w.heap.size + 1) (fun _ => false) from by rw [hW4, RSet, ← zero50]; exact blk_alloc (blk_new_at z1) _)
  have HN4 : Aside0 (RSet W4 (w.heap.size + 1 + 1) (finL rs pat l 0 (sends.take 0) zer)) := ⟨by
    have e : W4.heap[w.heap.size + 1 + 1]? = some (.cells (Try.zeroCells50.setIfInBounds 0 (.bool true)) 50 (0, 0)) := by rw [hW4]; exact blk_new_at z2
    rw [zero50, rcells_put _ (by omega)] at e
    refine RSet.congr e (fun j hj => ?_)
    rw [List.take_zero, finL, zer]
    by_cases h : (j : Int) = 0
    · rw [if_pos (by simpa using h), beq_iff_eq.2 h]
    · rw [if_neg (by simpa using h), beq_eq_false_iff_ne.2 h]⟩
  have s0 : (((w.alloc (.cells #[.slice A0 sends.length c0, .slice A1 routes.length c1, .int .i64 pat] 25)).alloc (.cells Try.zeroCells50 50)).alloc (.cells Try.zeroCells50 50)).cell? ⟨w.heap.size + 1 + 1, 0, none⟩ = some (.bool false) := by
    have e := blk_new_at (o := .cells Try.zeroCells50 50) z2
    rw [blk_cell e, zero50]
    exact rcells_at _ (by omega)
  have s1 : (((w.alloc (.cells #[.slice A0 sends.length c0, .slice A1 routes.length c1, .int .i64 pat] 25)).alloc (.cells Try.zeroCells50 50)).alloc (.cells Try.zeroCells50 50)).frozen? ⟨w.heap.size + 1 + 1, 0, none⟩ = false := blk_frozen (blk_new_at z2) 0
  have HW4 := Aside0.mk hW4
  clear z1 z2 hW4
  go_enter Try.func37, Try.ntmps37
  go_wp2_with fail
  rw [← HW4.out]
  clear s0 s1 HW4
  go_loopg [8] (ni + 1) (fun gg s8 wr => ∃ i : Nat, i ≤ ni + 1 ∧ ni + 1 - i ≤ gg ∧ s8 = .int .i64 i ∧ Aside0 (BoxAt w wr A0 c0 sends.length A1 c1 routes.length pat) ∧ Aside0 (RSet wr (w.heap.size + 1) (fun _ => false)) ∧ Aside0 (RSet wr (w.heap.size + 1 + 1) (finL rs pat l 0 (sends.take i) zer)))
  case atStart => exact ⟨0, by omega, by omega, rfl, HX4, HR4, HN4⟩
  case round =>
    obtain ⟨i, hi, hgi, rfl, HX, HR, HN⟩ := hrel
    clear HX4 HR4 HN4
    obtain ⟨wm, rfl⟩ : ∃ wm : World, wm = wr := ⟨_, rfl⟩
    by_cases hlt : i < ni + 1
    · have hltz : (i : Int) ≤ (ni : Int) := by omega
      have hil : i < sends.length := by omega
      have HTK : Aside0 (finL rs pat l 0 (sends.take (i + 1)) zer = finStep (comL rs sends[i]) l (i : Int) (sends[i] + pat) (finL rs pat l 0 (sends.take i) zer) 101) := ⟨by
        rw [List.take_succ_eq_append_getElem hil, finL_snoc, List.length_take, Nat.min_eq_left (by omega)]
        congr 1
        omega⟩
      have hsi := HS0.out _ (List.getElem_mem hil)
      have hp0 := HP0.out
      have HC : Aside0 (∀ w', Below w.heap.size w w' → Calls Try.prog 85 #[.agg #[.slice A0 sends.length c0, .slice A1 routes.length c1, .int .i64 pat], .int .i64 (i : Int)] w' fun e w'' => e = .returned (.agg (rcells (comL rs sends[i]))) ∧ Below w'.heap.size w' w'') := ⟨fun w' hb => HCOM.out w' hb i hil⟩
      have HF : Aside0 (∀ w', Below w.heap.size w w' → ∀ (before hour : Int), Calls Try.prog 76 #[.agg #[.slice A0 sends.length c0, .slice A1 routes.length c1, .int .i64 pat], .int .i64 (i : Int), .int .i64 before, .int .i64 hour] w' fun e w'' => e = .returned (.tuple #[.int .i64 (recvE i before hour (sends[i] + pat)).f1, .bool (recvE i before hour (sends[i] + pat)).f2]) ∧ Below w'.heap.size w' w'') := ⟨fun w' hb => HFIN.out w' hb i hil⟩
      generalize finL rs pat l 0 (sends.take i) zer = now at HN HTK
      generalize comL rs sends[i] = can at HTK HC
      have HD : Aside0 (0 ≤ sends[i] + pat ∧ sends[i] + pat ≤ 60) := ⟨by omega⟩
      generalize sends[i] + pat = d at HTK HF HD
      clear hsi hp0
      obtain ⟨gn, hgn⟩ : ∃ gn, gn = wm.heap.size := ⟨_, rfl⟩
      obtain ⟨W5, hW5⟩ : ∃ W5, W5 = wm.alloc (.cells Try.zeroCells50 50) := ⟨_, rfl⟩
      have hb5 : Below wm.heap.size wm W5 := hW5 ▸ (Below.refl _ wm).alloc (Nat.le_refl _) _
      have HX5 := Aside0.mk (HX.out.later hb5)
      have HR5 := Aside0.mk (HR.out.below hb5)
      have HN5 := Aside0.mk (HN.out.below hb5)
      have HZ5 := Aside0.mk (show RSet W5 gn (fun _ => false) from by rw [hW5, hgn, RSet, ← zero50]; exact blk_new _ _)
      have HGN := Aside0.mk (show w.heap.size + 1 + 1 < gn from hgn ▸ blk_lt HN.out)
      have HW5 := Aside0.mk hW5
      have HG5 := Aside0.mk hgn
      have x0 := HX5.out.x0
      have x1 := HX5.out.x1
      have x2 := HX5.out.x2
      clear hb5 hW5 hgn HX HR HN
      go_upto_region 7 with fail
      rw [← HW5.out, ← HG5.out]
      clear HW5 HG5
      go_wp2_with fail
      refine (HC.out _ HX5.out.below).mono ?_
      rintro e w6 ⟨rfl, hb⟩
      have HX6 := Aside0.mk (HX5.out.later hb)
      have HR6 := Aside0.mk (HR5.out.below hb)
      have HN6 := Aside0.mk (HN5.out.below hb)
      have HZ6 := Aside0.mk (HZ5.out.below hb)
      clear hb x0 x1 x2 HX5 HR5 HN5 HZ5 HC
      obtain ⟨gc, hgc⟩ : ∃ gc, gc = w6.heap.size := ⟨_, rfl⟩
      have HG6 := Aside0.mk hgc
      have HGC := Aside0.mk (show gn < gc from hgc ▸ blk_lt HZ6.out)
      clear hgc
      obtain ⟨W7, hW7⟩ : ∃ W7, W7 = w6.alloc (.cells Try.zeroCells50 50) := ⟨_, rfl⟩
      have hb7 : Below w6.heap.size w6 W7 := hW7 ▸ (Below.refl _ w6).alloc (Nat.le_refl _) _
      have HK7 := Aside0.mk (show RSet W7 gc (fun _ => false) from by rw [hW7, HG6.out, RSet, ← zero50]; exact blk_new _ _)
      have hg2 : w.heap.size + 1 + 1 < gc := by have := HGN.out; have := HGC.out; omega
      have HX8 := Aside0.mk ((HX6.out.later hb7).row (g := gc) (by omega) (rcells can))
      have HR8 := Aside0.mk ((HR6.out.below hb7).row (g := gc) (by omega) (rcells can))
      have HN8 := Aside0.mk ((HN6.out.below hb7).row (g := gc) (by omega) (rcells can))
      have HZ8 := Aside0.mk ((HZ6.out.below hb7).row (g := gc) (by have := HGC.out; omega) (rcells can))
      have HC8 : Aside0 (RSet (W7.setRow gc (rcells can)) gc can) := ⟨setRow_heap _ _ _ _ _ _ HK7.out⟩
      have HW7 := Aside0.mk hW7
      clear hb7 hW7 hg2 HX6 HR6 HN6 HZ6
      have HK6 := Aside0.mk (show RSet (w6.alloc (.cells Try.zeroCells50 50)) w6.heap.size (fun _ => false) from by rw [RSet, ← zero50]; exact blk_new _ _)
      go_wp2_with (first | (refine wpList_store_row rfl 50 _ _ rfl w6.heap.size (rcells can) rfl rfl 50 _ HK6.out (by rw [rcells_size]; exact info50s) (by rw [rcells_size, rcells_size]) (rcells_one _) ?_))
      rw [← HW7.out, ← HG6.out]
      clear HK6 HW7 HG6 HK7
      generalize W7.setRow gc (rcells can) = wA at HX8 HR8 HN8 HZ8 HC8 ⊢
      go_loopg [11] 101 (fun gf s11 wr => ∃ f : Nat, f ≤ 101 ∧ 101 - f ≤ gf ∧ s11 = .int .i64 f ∧ Aside0 (BoxAt w wr A0 c0 sends.length A1 c1 routes.length pat) ∧ Aside0 (RSet wr (w.heap.size + 1) (fun _ => false)) ∧ Aside0 (RSet wr (w.heap.size + 1 + 1) now) ∧ Aside0 (RSet wr gc can) ∧ Aside0 (RSet wr gn (finStep can l (i : Int) d now f)))
      case atStart => exact ⟨0, by omega, by omega, rfl, HX8, HR8, HN8, HC8, ⟨HZ8.out.congr (fun y _ => by simp [finStep])⟩⟩
      case round =>
        obtain ⟨f, hf, hgf, rfl, HXf, HRf, HNf, HCf, HZf⟩ := hrel
        clear HX8 HR8 HN8 HC8 HZ8
        obtain ⟨wf, rfl⟩ : ∃ wf : World, wf = wr := ⟨_, rfl⟩
        by_cases hlf : f < 101
        · have hlfz : (f : Int) ≤ 100 := by omega
          have hfz : (f : Int) < 102 := by omega
          go_wp2_with fail
          go_loopg [12] 103 (fun gm s12 wr => ∃ m : Nat, m ≤ 102 ∧ 103 - m ≤ gm ∧ s12 = .int .i64 (m : Int) ∧ Aside0 (m = 0 ∨ now (f : Int) = true) ∧ Aside0 (BoxAt w wr A0 c0 sends.length A1 c1 routes.length pat) ∧ Aside0 (RSet wr (w.heap.size + 1) (fun _ => false)) ∧ Aside0 (RSet wr (w.heap.size + 1 + 1) now) ∧ Aside0 (RSet wr gc can) ∧
            Aside0 (RSet wr gn (fun y => finStep can l (i : Int) d now f y || finOne can l (i : Int) d (f : Int) m y)))
          case atStart => exact ⟨0, by omega, by omega, rfl, ⟨.inl rfl⟩, HXf, HRf, HNf, HCf, ⟨HZf.out.congr (fun y _ => by simp [finOne])⟩⟩
          case round =>
            obtain ⟨m, hm, hgm, rfl, HMC, HXm, HRm, HNm, HCm, HZm⟩ := hrel
            clear HXf HRf HNf HCf HZf
            obtain ⟨wi, rfl⟩ : ∃ wi : World, wi = wr := ⟨_, rfl⟩
            have n0 : wi.cell? ⟨w.heap.size + 1 + 1, f, none⟩ = some (.bool (now (f : Int))) := HNm.out.cell (by omega)
            have NEXT : Aside0 (m = 102 ∨ now (f : Int) = false → RSet wi gn (finStep can l (i : Int) d now (f + 1))) := ⟨fun hmc => by
              refine HZm.out.congr (fun y _ => ?_)
              rw [finStep_succ]
              cases hck : now (f : Int) with
              | true =>
                rcases hmc with h | h
                · rw [h, Bool.true_and]
                · rw [hck] at h; cases h
              | false =>
                rcases HMC.out with h | h
                · rw [h]; simp [finOne]
                · rw [hck] at h; cases h⟩
            by_cases hmc : m < 102
            · have hle : (m : Int) ≤ 101 := by omega
              have hmz : (m : Int) < 102 := by omega
              cases hck : now (f : Int) with
              | false =>
                have HCK := Aside0.mk hck
                rw [hck] at n0
                clear hck
                have HNXT := Aside0.mk (NEXT.out (.inr HCK.out))
                go_wp2_with fail
                go_roundg (101 - (f + 1))
                case measure => omega
                case rel => exact ⟨f + 1, by omega, by omega, by go_num, HXm, HRm, HNm, HCm, HNXT⟩
              | true =>
                have HCK := Aside0.mk hck
                rw [hck] at n0
                clear hck
                have n1 : wi.cell? ⟨gc, m, none⟩ = some (.bool (can (m : Int))) := HCm.out.cell (by omega)
                cases hcb : can (m : Int) with
                | false =>
                  have HCB := Aside0.mk hcb
                  rw [hcb] at n1
                  clear hcb
                  go_wp2_with fail
                  go_roundg (103 - (m + 1))
                  case measure => omega
                  case rel => exact ⟨m + 1, by omega, by omega, by go_num, ⟨.inr HCK.out⟩, HXm, HRm, HNm, HCm, ⟨HZm.out.congr (fun y _ => by rw [finOne_succ, HCB.out]; simp)⟩⟩
                | true =>
                  have HCB := Aside0.mk hcb
                  rw [hcb] at n1
                  clear hcb
                  obtain ⟨av, hav, hav2⟩ : ∃ av : Nat, (recvE (i : Int) (f : Int) (m : Int) d).f1 = (av : Int) ∧ av < 102 := by
                    have := HD.out
                    have e : (recvE (i : Int) (f : Int) (m : Int) d).f1 = max (f : Int) (min (m : Int) d) := rfl
                    exact ⟨(recvE (i : Int) (f : Int) (m : Int) d).f1.toNat, by omega, by omega⟩
                  have havz : (av : Int) < 102 := by omega
                  obtain ⟨sk, hsk⟩ : ∃ sk : Bool, (recvE (i : Int) (f : Int) (m : Int) d).f2 = sk := ⟨_, rfl⟩
                  have HFC : Aside0 (∀ w', Below w.heap.size w w' → Calls Try.prog 76 #[.agg #[.slice A0 sends.length c0, .slice A1 routes.length c1, .int .i64 pat], .int .i64 (i : Int), .int .i64 (f : Int), .int .i64 (m : Int)] w' fun e w'' => e = .returned (.tuple #[.int .i64 (av : Int), .bool sk]) ∧ Below w'.heap.size w' w'') := ⟨fun w' hb => by
                    have e := HF.out w' hb (f : Int) (m : Int)
                    rw [hav, hsk] at e
                    exact e⟩
                  have HNEW : Aside0 (∀ y, finOne can l (i : Int) d (f : Int) (m + 1) y = (finOne can l (i : Int) d (f : Int) m y || (!l.any (badE (i : Int) (av : Int) sk) && y == (av : Int)))) := ⟨fun y => by rw [finOne_succ, HCB.out, hav, hsk, Bool.true_and]⟩
                  clear hav hsk
                  have x0 := HXm.out.x0
                  have x1 := HXm.out.x1
                  have x2 := HXm.out.x2
                  go_wp2_with fail
                  refine (HFC.out _ HXm.out.below).mono ?_
                  rintro e w7 ⟨rfl, hb⟩
                  replace HXm := Aside0.mk (HXm.out.later hb)
                  replace HRm := Aside0.mk (HRm.out.below hb)
                  replace HNm := Aside0.mk (HNm.out.below hb)
                  replace HCm := Aside0.mk (HCm.out.below hb)
                  replace HZm := Aside0.mk (HZm.out.below hb)
                  clear hb x0 x1 x2 n0 n1 HFC NEXT
                  go_wp2_with fail
                  go_loopg [15, 16] l.length (fun gk s15 s16 wr => ∃ k : Nat, k ≤ l.length ∧ l.length - k ≤ gk ∧ s16 = .int .i64 (k : Int) ∧ s15 = .bool (!(l.take k).any (badE (i : Int) (av : Int) sk)) ∧ wr = w7)
                  case atStart => exact ⟨0, by omega, by omega, rfl, by rw [List.take_zero]; rfl, rfl⟩
                  case round =>
                    obtain ⟨k, hk, hgk, rfl, rfl, rfl⟩ := hrel
                    by_cases hlk : k < l.length
                    · have hlkz : (k : Int) < (l.length : Int) := by omega
                      obtain ⟨ad, ea, y0, y1, y2⟩ := at_T108 (Kd.C_below HLK.out HXm.out.below) (k : Int) (by omega) hlkz
                      cases ea
                      have er : rd_T108 l (k : Int) = l[k] := by unfold rd_T108; rw [Int.toNat_natCast, rd_in _ _ _ hlk]
                      rw [er] at y0 y1 y2
                      rw [Int.toNat_natCast] at y0 y1 y2
                      have HT : Aside0 ((!(l.take (k + 1)).any (badE (i : Int) (av : Int) sk)) = ((!(l.take k).any (badE (i : Int) (av : Int) sk)) && !badE (i : Int) (av : Int) sk l[k])) := ⟨by rw [List.take_succ_eq_append_getElem hlk, List.any_append]; simp only [List.any_cons, List.any_nil, Bool.or_false, Bool.not_or]⟩
                      clear er
                      generalize l[k] = x at y0 y1 y2 HT
                      obtain ⟨e0, e1, e2⟩ := x
                      dsimp only at y0 y1 y2
                      generalize (!(l.take k).any (badE (i : Int) (av : Int) sk)) = fb at HT ⊢
                      by_cases h0 : e0 = (i : Int)
                      · have d0 : decide (e0 = (i : Int)) = true := decide_eq_true h0
                        by_cases h1 : e1 = (av : Int)
                        · have d1 : decide (e1 = (av : Int)) = true := decide_eq_true h1
                          by_cases h2 : e2 = sk
                          · subst h2
                            have HT2 : Aside0 ((!(l.take (k + 1)).any (badE (i : Int) (av : Int) e2)) = fb) := ⟨by rw [HT.out, badE]; simp [h0, h1]⟩
                            go_wp2_with fail
                            go_roundg (l.length - (k + 1))
                            case measure => omega
                            case rel => exact ⟨k + 1, by omega, by omega, by go_num, by rw [HT2.out], rfl⟩
                          · have d2 : e2 = !sk := by revert h2; cases e2 <;> cases sk <;> simp
                            subst d2
                            cases sk
                            · have HT2 : Aside0 ((!(l.take (k + 1)).any (badE (i : Int) (av : Int) false)) = false) := ⟨by rw [HT.out, badE]; simp [h0, h1]⟩
                              go_wp2_with fail
                              go_roundg (l.length - (k + 1))
                              case measure => omega
                              case rel => exact ⟨k + 1, by omega, by omega, by go_num, by rw [HT2.out], rfl⟩
                            · have HT2 : Aside0 ((!(l.take (k + 1)).any (badE (i : Int) (av : Int) true)) = false) := ⟨by rw [HT.out, badE]; simp [h0, h1]⟩
                              go_wp2_with fail
                              go_roundg (l.length - (k + 1))
                              case measure => omega
                              case rel => exact ⟨k + 1, by omega, by omega, by go_num, by rw [HT2.out], rfl⟩
                        · have d1 : decide (e1 = (av : Int)) = false := decide_eq_false h1
                          have HT2 : Aside0 ((!(l.take (k + 1)).any (badE (i : Int) (av : Int) sk)) = false) := ⟨by rw [HT.out, badE]; simp [h0, h1]⟩
                          go_wp2_with fail
                          go_roundg (l.length - (k + 1))
                          case measure => omega
                          case rel => exact ⟨k + 1, by omega, by omega, by go_num, by rw [HT2.out], rfl⟩
                      · have d0 : decide (e0 = (i : Int)) = false := decide_eq_false h0
                        have HT2 : Aside0 ((!(l.take (k + 1)).any (badE (i : Int) (av : Int) sk)) = fb) := ⟨by rw [HT.out, badE]; simp [h0]⟩
                        go_wp2_with fail
                        go_roundg (l.length - (k + 1))
                        case measure => omega
                        case rel => exact ⟨k + 1, by omega, by omega, by go_num, by rw [HT2.out], rfl⟩
                    · have hlkz : ¬ (k : Int) < (l.length : Int) := by omega
                      have hkk : k = l.length := by omega
                      rw [hkk, List.take_length]
                      clear hkk
                      generalize l.any (badE (i : Int) (av : Int) sk) = ab at HNEW ⊢
                      cases ab with
                      | true =>
                        go_wp2_with fail
                        go_roundg (103 - (m + 1))
                        case measure => omega
                        case rel => exact ⟨m + 1, by omega, by omega, by go_num, ⟨.inr HCK.out⟩, HXm, HRm, HNm, HCm, ⟨HZm.out.congr (fun y _ => by rw [HNEW.out]; simp)⟩⟩
                      | false =>
                        have t0 := HZm.out.cell (j := av) (by omega)
                        have t1 := HZm.out.frozen av
                        generalize (finStep can l (i : Int) d now f (av : Int) || finOne can l (i : Int) d (f : Int) m (av : Int)) = tv at t0
                        have hg2 : w.heap.size + 1 + 1 < gn := by have := HGN.out; omega
                        have HXn : Aside0 (BoxAt w (wr.setCell ⟨gn, av, none⟩ (.bool true)) A0 c0 sends.length A1 c1 routes.length pat) := ⟨HXm.out.far (p := ⟨gn, av, none⟩) (by simp; omega) _⟩
                        have HRn : Aside0 (RSet (wr.setCell ⟨gn, av, none⟩ (.bool true)) (w.heap.size + 1) (fun _ => false)) := ⟨HRm.out.far (p := ⟨gn, av, none⟩) (by simp; omega) _⟩
                        have HNn : Aside0 (RSet (wr.setCell ⟨gn, av, none⟩ (.bool true)) (w.heap.size + 1 + 1) now) := ⟨HNm.out.far (p := ⟨gn, av, none⟩) (by simp; omega) _⟩
                        have HCn : Aside0 (RSet (wr.setCell ⟨gn, av, none⟩ (.bool true)) gc can) := ⟨HCm.out.far (p := ⟨gn, av, none⟩) (by have := HGC.out; simp; omega) _⟩
                        have HZn : Aside0 (RSet (wr.setCell ⟨gn, av, none⟩ (.bool true)) gn (fun y => finStep can l (i : Int) d now f y || finOne can l (i : Int) d (f : Int) (m + 1) y)) := ⟨(HZm.out.put hav2 true).congr (fun y _ => by
                          rw [HNEW.out, ← Bool.or_assoc]
                          by_cases e : (y : Int) = (av : Int)
                          · rw [if_pos e, beq_iff_eq.2 e]; simp
                          · rw [if_neg e, beq_eq_false_iff_ne.2 e]; simp)⟩
                        clear hg2
                        go_wp2_with fail
                        go_roundg (103 - (m + 1))
                        case measure => omega
                        case rel => exact ⟨m + 1, by omega, by omega, by go_num, ⟨.inr HCK.out⟩, HXn, HRn, HNn, HCn, HZn⟩
            · have hle : ¬ (m : Int) ≤ 101 := by omega
              have HNXT := Aside0.mk (NEXT.out (.inl (by omega)))
              go_wp2_with fail
              go_roundg (101 - (f + 1))
              case measure => omega
              case rel => exact ⟨f + 1, by omega, by omega, by go_num, HXm, HRm, HNm, HCm, HNXT⟩
        · have hlfz : ¬ (f : Int) ≤ 100 := by omega
          have hff : f = 101 := by omega
          have HNF : Aside0 (RSet wf gn (finL rs pat l 0 (sends.take (i + 1)) zer)) := ⟨by
            rw [HTK.out, ← hff]
            exact HZf.out⟩
          clear hff
          have hg2 : w.heap.size + 1 + 1 < gc := by have := HGN.out; have := HGC.out; omega
          obtain ⟨nx, hnx⟩ : ∃ nx, finL rs pat l 0 (sends.take (i + 1)) zer = nx := ⟨_, rfl⟩
          rw [hnx] at HNF
          have HNX := Aside0.mk hnx
          clear hnx
          go_wp2_with (first
            | (refine wpList_load_row rfl 50 _ rfl gn rfl 50 _ (0, 0) _ HNF.out Try.underlying50 rfl (by rw [rcells_size]; exact info50s) ?_)
            | (refine wpList_store_row rfl 50 _ _ rfl (w.heap.size + 1 + 1) (rcells nx) rfl rfl 50 _ HNf.out (by rw [rcells_size]; exact info50s) (by rw [rcells_size, rcells_size]) (rcells_one _) ?_))
          go_roundg (ni + 1 - (i + 1))
          case measure => omega
          case rel => exact ⟨i + 1, by omega, by omega, by go_num, ⟨HXf.out.row (by omega) _⟩, ⟨HRf.out.row (by omega) _⟩, ⟨by rw [HNX.out]; exact setRow_heap _ _ _ _ _ _ HNf.out⟩⟩
    · have hltz : ¬ (i : Int) ≤ (ni : Int) := by omega
      have hii : i = ni + 1 := by omega
      have HFN : Aside0 (RSet wm (w.heap.size + 1 + 1) R) := ⟨by
        rw [← HRR.out, ← hii]
        exact HN.out⟩
      clear hii
      go_wp2_with (first
        | (refine wpList_load_row rfl 50 _ rfl (w.heap.size + 1 + 1) rfl 50 _ (0, 0) _ HFN.out Try.underlying50 rfl (by rw [rcells_size]; exact info50s) ?_)
        | (refine wpList_store_row rfl 50 _ _ rfl (w.heap.size + 1) (rcells R) rfl rfl 50 _ HR.out (by rw [rcells_size]; exact info50s) (by rw [rcells_size, rcells_size]) (rcells_one _) ?_))
      refine bodyPost_ret (results_cell_row rfl _ _ (w.heap.size + 1) 50 (rcells R) (0, 0) _ rfl (setRow_heap _ _ _ _ _ _ HR.out) Try.underlying50 rfl (by rw [rcells_size]; exact info50s)) rfl ⟨rfl, below_setRow HX.out.below (by omega) _⟩
end Go.Proofs.Ytiephlhohgohcaa.PAll
namespace Go.Proofs.Ytiephlhohgohcaa.PAll
open Go.RowKit Go.Proofs.YtiephlhohgohcaaW.PrintWords Go.Proofs.YtiephlhohgohcaaW.PrintLast Go.Proofs.YtiephlhohgohcaaW.PrintMore
set_option linter.unusedVariables false
set_option linter.unusedSimpArgs false
theorem loK_spec (f : Int → Bool) : ∀ k : Nat, k ≤ 102 → (∀ y : Nat, y < k → f y = true → loK f k ≤ y) ∧ ((loK f k = 102 ∧ ∀ y : Nat, y < k → f y = false) ∨ ∃ y : Nat, y < k ∧ f y = true ∧ loK f k = y)
  | 0, _ => ⟨fun y hy => by omega, .inl ⟨rfl, fun y hy => by omega⟩⟩
  | k + 1, hk => by
    obtain ⟨h1, h2⟩ := loK_spec f k (by omega)
    rw [loK]
    cases hf : f (k : Int) with
    | true =>
      rw [if_pos rfl]
      refine ⟨fun y hy hy2 => ?_, .inr ?_⟩
      · by_cases e : y = k
        · subst e; omega
        · have := h1 y (by omega) hy2; omega
      · rcases h2 with ⟨h2, _⟩ | ⟨y, hy, hy2, h2⟩
        · exact ⟨k, by omega, hf, by omega⟩
        · have := h1 y hy hy2
          exact ⟨y, by omega, hy2, by omega⟩
    | false =>
      rw [if_neg (by simp)]
      refine ⟨fun y hy hy2 => ?_, ?_⟩
      · by_cases e : y = k
        · subst e; rw [hf] at hy2; cases hy2
        · exact h1 y (by omega) hy2
      · rcases h2 with ⟨h2, h3⟩ | ⟨y, hy, hy2, h2⟩
        · refine .inl ⟨h2, fun y hy => ?_⟩
          by_cases e : y = k
          · subst e; exact hf
          · exact h3 y (by omega)
        · exact .inr ⟨y, by omega, hy2, h2⟩
theorem hiK_spec (f : Int → Bool) : ∀ k : Nat, (∀ y : Nat, y < k → f y = true → (y : Int) ≤ hiK f k) ∧ ((hiK f k = -1 ∧ ∀ y : Nat, y < k → f y = false) ∨ ∃ y : Nat, y < k ∧ f y = true ∧ hiK f k = y)
  | 0 => ⟨fun y hy => by omega, .inl ⟨rfl, fun y hy => by omega⟩⟩
  | k + 1 => by
    obtain ⟨h1, h2⟩ := hiK_spec f k
    rw [hiK]
    cases hf : f (k : Int) with
    | true =>
      rw [if_pos rfl]
      exact ⟨fun y hy hy2 => by omega, .inr ⟨k, by omega, hf, rfl⟩⟩
    | false =>
      rw [if_neg (by simp)]
      refine ⟨fun y hy hy2 => ?_, ?_⟩
      · by_cases e : y = k
        · subst e; rw [hf] at hy2; cases hy2
        · exact h1 y (by omega) hy2
      · rcases h2 with ⟨h2, h3⟩ | ⟨y, hy, hy2, h2⟩
        · refine .inl ⟨h2, fun y hy => ?_⟩
          by_cases e : y = k
          · subst e; exact hf
          · exact h3 y (by omega)
        · exact .inr ⟨y, by omega, hy2, h2⟩
/-- The least and the greatest number of a set. -/
def EndsOf (f : Int → Bool) (a b : Int) : Prop := 0 ≤ a ∧ b ≤ 101 ∧ f a = true ∧ f b = true ∧ ∀ y : Nat, f y = true → y ≤ 101 → a ≤ y ∧ (y : Int) ≤ b
theorem EndsOf.lo {f : Int → Bool} {a b : Int} (h : EndsOf f a b) (ha : a ≤ 101) : loK f 102 = a := by
  obtain ⟨h0, h1, h2, h3, h4⟩ := h
  obtain ⟨s1, s2⟩ := loK_spec f 102 (by omega)
  have e : ((a.toNat : Nat) : Int) = a := Int.toNat_of_nonneg h0
  have := s1 a.toNat (by omega) (by rw [e]; exact h2)
  rcases s2 with ⟨s2, _⟩ | ⟨y, hy, hy2, s2⟩
  · omega
  · have := h4 y hy2 (by omega); omega
theorem EndsOf.hi {f : Int → Bool} {a b : Int} (h : EndsOf f a b) (hb : 0 ≤ b) : hiK f 102 = b := by
  obtain ⟨h0, h1, h2, h3, h4⟩ := h
  obtain ⟨s1, s2⟩ := hiK_spec f 102
  have e : ((b.toNat : Nat) : Int) = b := Int.toNat_of_nonneg hb
  have := s1 b.toNat (by omega) (by rw [e]; exact h3)
  rcases s2 with ⟨s2, _⟩ | ⟨y, hy, hy2, s2⟩
  · omega
  · have := h4 y hy2 (by omega); omega
theorem early_spec (s : Int) : ∀ (rs : List S122) (n : Int), (rs.foldl (fun n r => min n (firstOf (setsOf r.f0 s))) n ≤ n) ∧ (∀ r ∈ rs, rs.foldl (fun n r => min n (firstOf (setsOf r.f0 s))) n ≤ firstOf (setsOf r.f0 s)) ∧
    (rs.foldl (fun n r => min n (firstOf (setsOf r.f0 s))) n = n ∨ ∃ r ∈ rs, rs.foldl (fun n r => min n (firstOf (setsOf r.f0 s))) n = firstOf (setsOf r.f0 s))
  | [], n => ⟨Int.le_refl _, fun r hr => (List.not_mem_nil hr).elim, .inl rfl⟩
  | a :: rs, n => by
    obtain ⟨h1, h2, h3⟩ := early_spec s rs (min n (firstOf (setsOf a.f0 s)))
    rw [List.foldl_cons]
    refine ⟨by omega, fun r hr => ?_, ?_⟩
    · rcases List.mem_cons.1 hr with rfl | hr
      · omega
      · exact h2 r hr
    · rcases h3 with h3 | ⟨r, hr, h3⟩
      · by_cases e : n ≤ firstOf (setsOf a.f0 s)
        · exact .inl (by omega)
        · exact .inr ⟨a, List.mem_cons_self, by omega⟩
      · exact .inr ⟨r, List.mem_cons_of_mem _ hr, h3⟩
theorem can_ends {rs : List S122} {s : Int} (h : SetsOk rs s) : EndsOf (comL rs s) (earlyL rs s) (lateL rs s) ∧ earlyL rs s ≤ 101 ∧ 0 ≤ lateL rs s := by
  obtain ⟨e1, e2, e3⟩ := early_spec s rs 101
  have e0 : 0 ≤ earlyL rs s := by
    rcases e3 with e3 | ⟨r, hr, e3⟩
    · rw [earlyL, e3]; omega
    · have := (mem_hoursOf.1 (firstOf_mem (h r hr).1)).1
      rw [earlyL, e3]; exact this
  have hl := can_late' h
  have hlm := lateL_le rs s
  have nat : ∀ y : Int, 0 ≤ y → y ≤ 101 → comL rs s y = canL rs s y (y == 101) := fun y h0 h1 => by
    have := comL_can rs h y.toNat (by omega)
    rw [Int.toNat_of_nonneg h0] at this
    exact this
  refine ⟨⟨e0, hlm, ?_, ?_, fun y hy hy1 => ?_⟩, e1, hl.1⟩
  · rw [nat _ e0 e1, canL_iff]
    refine ⟨fun r hr => .inr ?_, ?_⟩
    · have a1 := e2 r hr
      have a2 := firstOf_le (lastOf_mem (h r hr).1)
      exact Int.le_trans a1 a2
    · rcases e3 with e3 | ⟨r, hr, e3⟩
      · exact .inl e3
      · have a1 := mem_hoursOf.1 (firstOf_mem (h r hr).1)
        have a2 := (h r hr).2 _ a1.2.2
        refine .inr ⟨by show earlyL rs s < 101; rw [earlyL, e3]; omega, r, hr, ?_⟩
        rw [earlyL, e3]; exact a1.2.2
  · rw [nat _ hl.1 hlm]; exact hl.2
  · rw [nat _ (by omega) (by omega), canL_iff] at hy
    obtain ⟨c1, c2⟩ := hy
    constructor
    · rcases c2 with c2 | ⟨c2, r, hr, c3⟩
      · exact Int.le_trans e1 (by omega)
      · have a1 := e2 r hr
        have a2 := firstOf_le (x := (y : Int)) (mem_hoursOf.2 ⟨by omega, by omega, c3⟩)
        exact Int.le_trans a1 a2
    · obtain ⟨l1, l2⟩ := lateF_mem s rs 101
      rw [← lateL_F] at l1 l2
      rcases l2 with l2 | ⟨r, hr, hf, l2⟩
      · omega
      · rcases c1 r hr with c | c
        · rw [hf] at c; cases c
        · omega
/-- What the reference's Sure says is what the program says. -/
theorem sureM_eq {rs : List S122} {s pat : Int} (h : SetsOk rs s) : sureM rs pat s = decide (lateL rs s ≤ s + pat) := by
  have := can_ends h
  rw [sureM, this.1.hi this.2.2]
theorem finStep_iff {can : Int → Bool} {n d : Int} {now : Int → Bool} {y : Int} : finStep can [] n d now 101 y = true ↔ ∃ f h : Nat, f < 101 ∧ h < 102 ∧ now f = true ∧ can h = true ∧ y = max (f : Int) (min (h : Int) d) := by
  simp only [finStep, finOne, List.any_eq_true, List.mem_range, Bool.and_eq_true, List.any_nil, Bool.not_false, and_true, beq_iff_eq]
  constructor
  · rintro ⟨f, hf, h1, h, hh, h2, h3⟩; exact ⟨f, h, hf, hh, h1, h2, h3⟩
  · rintro ⟨f, h, hf, hh, h1, h2, h3⟩; exact ⟨f, hf, h1, h, hh, h2, h3⟩
theorem finL_ends {rs : List S122} {pat : Int} (hp : 0 ≤ pat ∧ pat ≤ 30) : ∀ (ss : List Int) (n : Int) (now : Int → Bool) (a b : Int), (∀ s ∈ ss, 0 ≤ s ∧ s ≤ 30 ∧ SetsOk rs s) → EndsOf now a b → a ≤ 100 → 0 ≤ b → b ≤ 100 →
    EndsOf (finL rs pat [] n ss now) (finF earlyL rs pat a ss) (finF lateL rs pat b ss) ∧ finF earlyL rs pat a ss ≤ 100 ∧ 0 ≤ finF lateL rs pat b ss
  | [], n, now, a, b, _, h, ha, hb, hb2 => ⟨h, ha, hb⟩
  | s :: ss, n, now, a, b, hs, h, ha, hb, hb2 => by
    obtain ⟨s0, s1, so⟩ := hs s List.mem_cons_self
    obtain ⟨⟨c0, c1, c2, c3, c4⟩, ce, cl⟩ := can_ends so
    rw [finL, finF, finF]
    obtain ⟨n0, n1, n2, n3, n4⟩ := h
    refine finL_ends hp ss (n + 1) _ _ _ (fun t ht => hs t (List.mem_cons_of_mem _ ht)) ⟨by omega, by omega, ?_, ?_, fun y hy hy1 => ?_⟩ (by omega) (by omega) (by omega)
    · rw [finStep_iff]
      exact ⟨a.toNat, (earlyL rs s).toNat, by omega, by omega, by rw [Int.toNat_of_nonneg n0]; exact n2, by rw [Int.toNat_of_nonneg c0]; exact c2, by rw [Int.toNat_of_nonneg n0, Int.toNat_of_nonneg c0]⟩
    · rw [finStep_iff]
      exact ⟨b.toNat, (lateL rs s).toNat, by omega, by omega, by rw [Int.toNat_of_nonneg hb]; exact n3, by rw [Int.toNat_of_nonneg cl]; exact c3, by rw [Int.toNat_of_nonneg hb, Int.toNat_of_nonneg cl]⟩
    · rw [finStep_iff] at hy
      obtain ⟨f, h, hf, hh, h1, h2, h3⟩ := hy
      have a1 := n4 f h1 (by omega)
      have a2 := c4 h h2 (by omega)
      omega
/-- The reference's ends without entries are the program's span. -/
theorem span_ends {sends : List Int} {rs : List S122} {pat : Int} (V : Valid sends rs pat) (i : Nat) : loK (finL rs pat [] 0 (sends.take (i + 1)) zer) 102 = (spanAt sends rs pat i).f0 ∧ hiK (finL rs pat [] 0 (sends.take (i + 1)) zer) 102 = (spanAt sends rs pat i).f1 := by
  have hz : EndsOf zer 0 0 := ⟨by omega, by omega, rfl, rfl, fun y hy _ => by
    simp only [zer, beq_iff_eq] at hy
    omega⟩
  have := finL_ends V.p0 (sends.take (i + 1)) 0 zer 0 0 (fun s hs => by
    have hm := List.mem_of_mem_take hs
    have := V.s0 s hm
    exact ⟨this.1, this.2, V.setsOk hm⟩) hz (by omega) (by omega) (by omega)
  exact ⟨this.1.lo (by omega), this.1.hi this.2.2⟩
theorem allSure_eq {sends : List Int} {rs : List S122} {pat : Int} (V : Valid sends rs pat) (k : Nat) : sends.all (sureM rs (k : Int)) = allSure sends rs k := by
  rw [Bool.eq_iff_iff]
  simp only [allSure, List.all_eq_true, List.mem_range]
  constructor
  · intro h i hi
    have := h _ (List.getElem_mem hi)
    rw [sureM_eq (V.setsOk (List.getElem_mem hi))] at this
    rw [sureB, rdI hi]
    exact this
  · intro h s hs
    obtain ⟨i, hi, rfl⟩ := List.mem_iff_getElem.1 hs
    have := h i hi
    rw [sureB, rdI hi] at this
    rw [sureM_eq (V.setsOk hs)]
    exact this
theorem leastFrom_find {sends : List Int} {rs : List S122} {pat : Int} (V : Valid sends rs pat) : ∀ (d n : Nat), leastFrom rs sends n d = match (List.range' n d).find? (allSure sends rs) with | some k => (k : Int) | none => -1
  | 0, n => rfl
  | d + 1, n => by
    rw [leastFrom, List.range'_succ, List.find?_cons, allSure_eq V]
    cases h : allSure sends rs n with
    | true => rfl
    | false => exact leastFrom_find V d (n + 1)
/-- Both smallest patiences. -/
theorem least_eq {sends : List Int} {rs : List S122} {pat : Int} (V : Valid sends rs pat) (hck : check sends rs pat = 0) :
    (leastFrom rs sends 0 31 < 0 ∧ leastRes sends rs pat = (0, 9)) ∨ (0 ≤ leastFrom rs sends 0 31 ∧ leastRes sends rs pat = (leastFrom rs sends 0 31, 0)) := by
  rw [leastFrom_find V 31 0, ← List.range_eq_range', leastRes, if_neg (by rw [hck]; exact fun h => h rfl)]
  cases (List.range 31).find? (allSure sends rs) with
  | none => exact .inl ⟨by decide, rfl⟩
  | some k => exact .inr ⟨Int.natCast_nonneg k, rfl⟩
end Go.Proofs.Ytiephlhohgohcaa.PAll
namespace Go.Proofs.Ytiephlhohgohcaa.PAll
open Go.RowKit Go.Proofs.YtiephlhohgohcaaW.PrintWords Go.Proofs.YtiephlhohgohcaaW.PrintLast Go.Proofs.YtiephlhohgohcaaW.PrintMore
attribute [local go_sem] max2_int min2_int max_two min_two max_three min_three max_four min_four
set_option linter.unusedVariables false
set_option linter.unusedSimpArgs false
theorem to38' (a b : Int) (w : World) : Calls Try.prog 38 #[.agg #[.int .i64 a, .int .i64 b]] w fun e w' => e = .returned (.agg #[.int .i64 a, .int .i64 b]) ∧ Below w.heap.size w w' := to38 ⟨a, b⟩ w
set_option maxRecDepth 100000 in
set_option maxHeartbeats 8000000 in
theorem copiesSpans5 (A0 : Option Addr) (c0 : Nat) (sends : List Int) (A1 : Option Addr) (c1 : Nat) (routes : List S54) (pat : Int) (w : World) (h : PostAt w A0 c0 sends A1 c1 routes) :
    Calls Try.prog 5 #[.agg #[.slice A0 sends.length c0, .slice A1 routes.length c1, .int .i64 pat]] w fun e w' => e = .returned (.bool true) ∧ Below w.heap.size w w' := by
  obtain ⟨rs, hrs⟩ : ∃ rs, rs = routes.map toX := ⟨_, rfl⟩
  have HRS := Aside0.mk hrs
  clear hrs
  obtain ⟨W1, hW1⟩ : ∃ W1, W1 = w.alloc (.cells #[.slice A0 sends.length c0, .slice A1 routes.length c1, .int .i64 pat] 25) := ⟨_, rfl⟩
  have hx := BoxAt.start w A0 c0 sends.length A1 c1 routes.length pat
  rw [← hW1] at hx
  have HX := Aside0.mk hx
  have HP := Aside0.mk h
  have x0 := hx.x0
  have x1 := hx.x1
  have x2 := hx.x2
  have HW1 := Aside0.mk hW1
  clear h hx hW1
  go_enter Try.func5, Try.ntmps5
  go_wp2_with fail
  rw [← HW1.out]
  clear HW1
  refine (thin18 pat (HP.out.below HX.out.below)).mono ?_
  rintro e w2 ⟨rfl, hb⟩
  replace HX := Aside0.mk (HX.out.later hb)
  clear hb x0 x1 x2
  cases hth : thinB sends routes with
  | false =>
    clear hth
    go_wp2_with fail
    refine (awake20 w2).mono ?_
    rintro e w3 ⟨rfl, hb⟩
    replace HX := Aside0.mk (HX.out.later hb)
    clear hb
    go_wp2_with fail
    go_ret
    exact ⟨rfl, HX.out.below⟩
  | true =>
    have HTH := Aside0.mk hth
    have hs7 := (thin_spec hth).1
    have hr6 := (thin_spec hth).2.1
    clear hth
    obtain ⟨⟨sl, se⟩, hsp⟩ : ∃ p, spansRes sends rs pat = p := ⟨_, rfl⟩
    obtain ⟨⟨ul, ue⟩, hsu⟩ : ∃ p, surelyRes sends rs pat = p := ⟨_, rfl⟩
    obtain ⟨⟨lv, le'⟩, hsl⟩ : ∃ p, leastRes sends rs pat = p := ⟨_, rfl⟩
    have HSP := Aside0.mk hsp
    have HSU := Aside0.mk hsu
    have HSL := Aside0.mk hsl
    clear hsp hsu hsl
    have x0 := HX.out.x0
    have x1 := HX.out.x1
    have x2 := HX.out.x2
    go_wp2_with fail
    refine (post22_thin pat HRS.out (HP.out.below HX.out.below) HTH.out).mono ?_
    rintro e w4 ⟨A3, c3, A4, c4, rfl, hp, hb⟩
    replace HX := Aside0.mk (HX.out.later hb)
    have HP4 := Aside0.mk hp
    clear hb hp x0 x1 x2
    go_wp2_with fail
    have hct := spans33 A3 c3 sends A4 c4 rs pat w4 HP4.out.h0 HP4.out.l0 HP4.out.h1 HP4.out.l1
    rw [HSP.out] at hct
    refine hct.mono ?_
    clear hct
    rintro e w5 ⟨v5, rfl, hr, hb⟩
    obtain ⟨A5, c5, rfl, hl5, hC5⟩ := Kd.R_reads hr
    replace HX := Aside0.mk (HX.out.later hb)
    have HJ := Aside0.mk hC5
    clear hb hr hl5 hC5 HP4
    dsimp only at HJ ⊢
    have x0 := HX.out.x0
    have x1 := HX.out.x1
    have x2 := HX.out.x2
    go_wp2_with fail
    refine (post22_thin pat HRS.out (HP.out.below HX.out.below) HTH.out).mono ?_
    rintro e w6 ⟨A6, c6, A7, c7, rfl, hp, hb⟩
    replace HX := Aside0.mk (HX.out.later hb)
    replace HJ := Aside0.mk (Kd.C_below HJ.out hb)
    have HP6 := Aside0.mk hp
    clear hb hp x0 x1 x2
    go_wp2_with fail
    have hct := surely34 A6 c6 sends A7 c7 rs pat w6 HP6.out.h0 HP6.out.l0 HP6.out.h1 HP6.out.l1
    rw [HSU.out] at hct
    refine hct.mono ?_
    clear hct
    rintro e w7 ⟨v7, rfl, hr, hb⟩
    obtain ⟨A8, c8, rfl, hl8, hC8⟩ := Kd.R_reads hr
    replace HX := Aside0.mk (HX.out.later hb)
    replace HJ := Aside0.mk (Kd.C_below HJ.out hb)
    have HU := Aside0.mk hC8
    have HUL := Aside0.mk hl8
    clear hb hr hl8 hC8 HP6
    dsimp only at HU HUL ⊢
    have x0 := HX.out.x0
    have x1 := HX.out.x1
    have x2 := HX.out.x2
    go_wp2_with fail
    refine (post22_thin pat HRS.out (HP.out.below HX.out.below) HTH.out).mono ?_
    rintro e w8 ⟨A9, c9, A10, c10, rfl, hp, hb⟩
    replace HX := Aside0.mk (HX.out.later hb)
    replace HJ := Aside0.mk (Kd.C_below HJ.out hb)
    replace HU := Aside0.mk (Kd.C_below HU.out hb)
    have HP8 := Aside0.mk hp
    clear hb hp x0 x1 x2
    go_wp2_with fail
    have hct := least35 A9 c9 sends A10 c10 rs pat w8 HP8.out.h0 HP8.out.l0 HP8.out.h1 HP8.out.l1
    rw [HSL.out] at hct
    refine hct.mono ?_
    clear hct
    rintro e w9 ⟨rfl, hb⟩
    replace HX := Aside0.mk (HX.out.later hb)
    replace HJ := Aside0.mk (Kd.C_below HJ.out hb)
    replace HU := Aside0.mk (Kd.C_below HU.out hb)
    clear hb HP8
    dsimp only
    have x0 := HX.out.x0
    have x1 := HX.out.x1
    have x2 := HX.out.x2
    go_wp2_with fail
    refine (fault25 pat HRS.out (HP.out.below HX.out.below) (thin_spec HTH.out).1).mono ?_
    rintro e w10 ⟨rfl, hb⟩
    replace HX := Aside0.mk (HX.out.later hb)
    replace HJ := Aside0.mk (Kd.C_below HJ.out hb)
    replace HU := Aside0.mk (Kd.C_below HU.out hb)
    clear hb x0 x1 x2
    by_cases hck : check sends rs pat = 0
    · have V := Aside0.mk (valid_of hck)
      have HCK := Aside0.mk hck
      have h1 := HSP.out
      have h2 := HSU.out
      rw [spansRes, if_neg (by rw [hck]; exact fun h => h rfl), Prod.mk.injEq] at h1
      rw [surelyRes, if_neg (by rw [hck]; exact fun h => h rfl), Prod.mk.injEq] at h2
      obtain ⟨hsl, rfl⟩ := h1
      obtain ⟨hul, rfl⟩ := h2
      have hlen : sl.length = sends.length := by rw [← hsl, spansL_len]
      have HSLI : Aside0 (∀ i : Nat, i < sends.length → rd_T68 sl (i : Int) = spanAt sends rs pat i) := ⟨fun i hi => by
        rw [← hsl, rd_T68, Int.toNat_natCast, spansL]
        simp [List.getD, hi]⟩
      rw [hlen] at HJ ⊢
      have HUE := Aside0.mk hul
      rw [hck]
      clear hck hsl hul hlen HSP HSU
      have x0 := HX.out.x0
      have x1 := HX.out.x1
      have x2 := HX.out.x2
      have hl4 := V.out.sn
      go_wp2_with fail
      clear x0 x1 x2
      go_loopg [10, 11] sends.length (fun gg s10 s11 wr => ∃ (i : Nat) (Av : Option Addr) (nv cv : Nat), i ≤ sends.length ∧ sends.length - i ≤ gg ∧ s11 = .int .i64 i ∧ s10 = .slice Av nv cv ∧ Aside0 (Kd.R (Kd.int .i64) 3 wr w10.heap.size (fun _ => True) (.slice Av nv cv) (sureL sends rs pat i)) ∧
        Aside0 (Below w10.heap.size w10 wr))
      case atStart => exact ⟨0, none, 0, 0, by omega, by omega, rfl, rfl, ⟨Kd.R_nil _ _ _ _ _⟩, ⟨Below.refl _ _⟩⟩
      case round =>
        obtain ⟨i, Av, nv, cv, hi, hgi, rfl, rfl, HO, HUi⟩ := hrel
        have HXi := Aside0.mk (HX.out.later HUi.out)
        have HJi := Aside0.mk (Kd.C_below HJ.out HUi.out)
        obtain ⟨wm, rfl⟩ : ∃ wm : World, wm = wr := ⟨_, rfl⟩
        have x0 := HXi.out.x0
        have x1 := HXi.out.x1
        have x2 := HXi.out.x2
        by_cases hlt : i < sends.length
        · have hltz : (i : Int) < (sends.length : Int) := by omega
          have HS : Aside0 (sureB sends rs pat i = sureM rs pat sends[i]) := ⟨by rw [sureM_eq (V.out.setsOk (List.getElem_mem hlt)), sureB, rdI hlt]⟩
          have HC39 : Aside0 (∀ w', Below w.heap.size w w' → Calls Try.prog 39 #[.agg #[.slice A0 sends.length c0, .slice A1 routes.length c1, .int .i64 pat], .int .i64 (i : Int)] w' fun e w'' => e = .returned (.bool (sureM rs pat sends[i])) ∧ Below w'.heap.size w' w'') := ⟨fun w' hb => sure39 A0 c0 sends A1 c1 routes pat rs w' HRS.out (HP.out.below hb) V.out i hlt⟩
          generalize sureM rs pat sends[i] = sb at HS HC39
          have hse := span_ends V.out i
          have hct := finishes37 A0 c0 sends A1 c1 routes pat rs wm HRS.out (HP.out.below HXi.out.below) V.out i hlt none 0 [] (Kd.C_nil _ _) (by simp)
          generalize finL rs pat [] 0 (sends.take (i + 1)) zer = fs at hse hct
          have HSE := Aside0.mk hse
          have HCT := Aside0.mk hct
          clear hse hct
          go_wp2_with fail
          refine HCT.out.mono ?_
          rintro e w11 ⟨rfl, hb⟩
          have HX1 := Aside0.mk (HXi.out.later hb)
          have HJ1 := Aside0.mk (Kd.C_below HJi.out hb)
          have HU1 := Aside0.mk (below_then HUi.out HUi.out.size hb)
          have HO1 := Aside0.mk (Kd.R_below HO.out hb)
          clear hb x0 x1 x2 HCT HXi HJi HUi HO
          go_wp2_with fail
          refine (ends36 fs w11).mono ?_
          rintro e w12 ⟨rfl, hb⟩
          have HX2 := Aside0.mk (HX1.out.later hb)
          have HJ2 := Aside0.mk (Kd.C_below HJ1.out hb)
          have HU2 := Aside0.mk (below_then HU1.out HU1.out.size hb)
          have HO2 := Aside0.mk (Kd.R_below HO1.out hb)
          clear hb HX1 HJ1 HU1 HO1
          rw [HSE.out.1, HSE.out.2]
          have HI : Aside0 (rd_T68 sl (i : Int) = spanAt sends rs pat i) := ⟨HSLI.out i hlt⟩
          clear HSE
          generalize spanAt sends rs pat i = sp at HI ⊢
          obtain ⟨slo, shi⟩ := sp
          dsimp only
          go_wp2_with fail
          obtain ⟨gt, hgt⟩ : ∃ gt, gt = w12.heap.size := ⟨_, rfl⟩
          obtain ⟨W13, hW13⟩ : ∃ W13, W13 = w12.alloc (Obj.cells #[Value.int IntKind.i64 slo, Value.int IntKind.i64 shi] 64) := ⟨_, rfl⟩
          rw [← hW13, ← hgt]
          have hb13 : Below w12.heap.size w12 W13 := hW13 ▸ (Below.refl _ w12).alloc (Nat.le_refl _) _
          have HX3 := Aside0.mk (HX2.out.later hb13)
          have HJ3 := Aside0.mk (Kd.C_below HJ2.out hb13)
          have HU3 := Aside0.mk (below_then HU2.out HU2.out.size hb13)
          have HO3 := Aside0.mk (Kd.R_below HO2.out hb13)
          have ht := (show W13.heap[gt]? = some (.cells #[.int .i64 slo, .int .i64 shi] 64 (0, 0)) from by rw [hW13, hgt]; exact blk_new _ _)
          have t0 : W13.cell? ⟨gt, 0, none⟩ = some (.int .i64 slo) := (blk_cell ht 0).trans rfl
          have t1 : W13.cell? ⟨gt, 1, none⟩ = some (.int .i64 shi) := (blk_cell ht 1).trans rfl
          clear hb13 hgt hW13 ht HX2 HJ2 HU2 HO2
          obtain ⟨ad, ea, y0, y1⟩ := at_T68 HJ3.out (i : Int) (by omega) hltz
          have HEA := Aside0.mk ea
          cases ea
          rw [HI.out, Int.toNat_natCast] at y0 y1
          dsimp only at y0 y1
          have KEEP : Aside0 (∀ w', Below W13.heap.size W13 w' → (w'.cell? ⟨gt, 0, none⟩ = some (.int .i64 slo) ∧ w'.cell? ⟨gt, 1, none⟩ = some (.int .i64 shi) ∧ w'.cell? (ad.add (i * 2)) = some (.int .i64 slo) ∧ w'.cell? ⟨(ad.add (i * 2)).block, (ad.add (i * 2)).off + 1, none⟩ = some (.int .i64 shi))) :=
            ⟨fun w' hb => ⟨pw_cell_below hb t0, pw_cell_below hb t1, pw_cell_below hb y0, pw_cell_below hb y1⟩⟩
          have hq0 : Aside0 (Below W13.heap.size W13 W13.drew) := ⟨below_drew (Below.refl _ _)⟩
          go_region_held3 (fun w' => w'.cell? ⟨gt, 0, none⟩ = some (.int .i64 slo) ∧ w'.cell? ⟨gt, 1, none⟩ = some (.int .i64 shi) ∧ w'.cell? (ad.add (i * 2)) = some (.int .i64 slo) ∧ w'.cell? ⟨(ad.add (i * 2)).block, (ad.add (i * 2)).off + 1, none⟩ = some (.int .i64 shi))
            (first
              | exact KEEP.out _ hq0.out
              | exact KEEP.out _ hq1.out)
            (first
              | (go_at_call 38; refine (to38' slo shi _).mono ?_; rintro e wa ⟨rfl, ha⟩; have hq1 := Aside0.mk (below_then hq0.out hq0.out.size ha); clear ha))
          have HX4 := Aside0.mk (HX3.out.later hq1.out)
          have HJ4 := Aside0.mk (Kd.C_below HJ3.out hq1.out)
          have HU4 := Aside0.mk (below_then HU3.out HU3.out.size hq1.out)
          have HO4 := Aside0.mk (Kd.R_below HO3.out hq1.out)
          clear t0 t1 y0 y1 KEEP hq0 hq1 HX3 HJ3 HU3 HO3 HEA HI
          have x0 := HX4.out.x0
          have x1 := HX4.out.x1
          have x2 := HX4.out.x2
          go_wp2_with fail
          refine (HC39.out _ HX4.out.below).mono ?_
          rintro e wb ⟨rfl, hb⟩
          have HX5 := Aside0.mk (HX4.out.later hb)
          have HJ5 := Aside0.mk (Kd.C_below HJ4.out hb)
          have HU5 := Aside0.mk (below_then HU4.out HU4.out.size hb)
          have HO5 := Aside0.mk (Kd.R_below HO4.out hb)
          clear hb x0 x1 x2 HX4 HJ4 HU4 HO4 HC39
          cases sb with
          | true =>
            have HY := Aside0.mk (sureL_yes HS.out)
            have hln := sureL_len sends rs pat i
            go_wp2_with (at_builtin; refine Kd.R_append (Kd.int .i64) (w0 := w10) w10.heap.size rfl (.tmp 106) (.tmp 108) 22 3 (.int .i64 0) 8 rfl Try.underlying22 info3 rfl (by decide) (by omega) (.slice Av nv cv) (sureL sends rs pat i) (i : Int) [.int .i64 (i : Int)] (fun _ => True) (fun _ => False) rfl rfl rfl (fun _ hk => hk.elim) (fun _ _ => trivial) HO5.out HU5.out HU5.out.size (by omega) ?_; intro v9 w9' hr9 hb9 hg9 hat9; obtain ⟨A10', c10', rfl⟩ := Kd.R_slice hr9; have HR9 := Aside0.mk hr9; have HB9 := Aside0.mk hb9; clear hr9 hb9 hg9 hat9)
            go_roundg (sends.length - (i + 1))
            case measure => omega
            case rel =>
              refine ⟨i + 1, _, _, _, by omega, by omega, by go_num, rfl, ⟨?_⟩, HB9⟩
              have hfin := HR9.out
              rw [List.length_append, List.length_singleton] at hfin
              rw [HY.out]
              exact hfin
          | false =>
            have HY := Aside0.mk (sureL_no HS.out)
            go_wp2_with fail
            go_roundg (sends.length - (i + 1))
            case measure => omega
            case rel =>
              refine ⟨i + 1, Av, nv, cv, by omega, by omega, by go_num, rfl, ⟨?_⟩, HU5⟩
              rw [HY.out]
              exact HO5.out
        · have hltz : ¬ (i : Int) < (sends.length : Int) := by omega
          have hii : i = sends.length := by omega
          have HQ : Aside0 (Kd.R (Kd.int .i64) 3 wm w10.heap.size (fun _ => True) (.slice Av nv cv) ul) := ⟨by rw [← HUE.out, ← hii]; exact HO.out⟩
          clear hii
          go_wp2_with fail
          refine (least40 A0 c0 sends A1 c1 routes pat rs wm HRS.out (HP.out.below HXi.out.below) V.out).mono ?_
          rintro e w11 ⟨rfl, hb⟩
          have HX1 := Aside0.mk (HXi.out.later hb)
          have HU1 := Aside0.mk (below_then HUi.out HUi.out.size hb)
          have HQ1 := Aside0.mk (Kd.R_below HQ.out hb)
          have HUC := Aside0.mk (Kd.C_below HU.out HU1.out)
          clear hb x0 x1 x2 HXi HJi HUi HO HQ
          obtain ⟨A11, c11, hae, hl11, hC11⟩ := Kd.R_reads HQ1.out
          injection hae with e1 e2 e3
          subst e1 e2 e3
          have HC11 := Aside0.mk hC11
          have HL11 := Aside0.mk hl11
          have hul : ul.length ≤ 4 := by rw [← HUE.out]; have := sureL_len sends rs pat sends.length; omega
          have HLE := least_eq V.out HCK.out
          rw [HSL.out] at HLE
          generalize leastFrom rs sends 0 31 = lf at HLE ⊢
          clear hl11 hC11
          have HIN : Aside0 (∀ w', Below w11.heap.size w11 w' → Calls Try.prog 32 #[.slice A8 ul.length c8, .slice Av ul.length cv] w' fun e w'' => e = .returned (.bool true) ∧ Below w'.heap.size w' w'') := ⟨fun w' hb => by
            have := ints32 A8 c8 ul Av cv ul w' (Kd.C_below HUC.out hb) HUL.out (Kd.C_below HC11.out hb) HL11.out (by omega)
            rwa [decide_eq_true rfl] at this⟩
          rcases HLE with ⟨hlf, hle⟩ | ⟨hlf, hle⟩
          · cases hle
            go_wp2_with fail
            refine (HIN.out _ (Below.refl _ _)).mono ?_
            rintro e w12 ⟨rfl, hb⟩
            have HX2 := Aside0.mk (HX1.out.later hb)
            clear hb
            go_wp2_with fail
            refine (awake20 w12).mono ?_
            rintro e w13 ⟨rfl, hb⟩
            have HX3 := Aside0.mk (HX2.out.later hb)
            clear hb
            go_wp2_with fail
            go_ret
            exact ⟨rfl, HX3.out.below⟩
          · cases hle
            have hlf2 : ¬ lv < 0 := by omega
            go_wp2_with fail
            refine (HIN.out _ (Below.refl _ _)).mono ?_
            rintro e w12 ⟨rfl, hb⟩
            have HX2 := Aside0.mk (HX1.out.later hb)
            clear hb
            go_wp2_with fail
            refine (awake20 w12).mono ?_
            rintro e w13 ⟨rfl, hb⟩
            have HX3 := Aside0.mk (HX2.out.later hb)
            clear hb
            go_wp2_with fail
            go_ret
            exact ⟨rfl, HX3.out.below⟩
    · have h1 := HSP.out
      have h2 := HSU.out
      have h3 := HSL.out
      rw [spansRes, if_pos hck, Prod.mk.injEq] at h1
      rw [surelyRes, if_pos hck, Prod.mk.injEq] at h2
      rw [leastRes, if_pos hck, Prod.mk.injEq] at h3
      obtain ⟨rfl, rfl⟩ := h1
      obtain ⟨rfl, rfl⟩ := h2
      obtain ⟨rfl, rfl⟩ := h3
      clear HSP HSU HSL HJ HU HUL
      dsimp only [List.length_nil]
      have hcn : decide (check sends rs pat = 0) = false := decide_eq_false hck
      generalize check sends rs pat = ck at hck hcn ⊢
      go_wp2_with fail
      refine (awake20 w10).mono ?_
      rintro e w11 ⟨rfl, hb⟩
      replace HX := Aside0.mk (HX.out.later hb)
      clear hb
      go_wp2_with fail
      go_ret
      exact ⟨rfl, HX.out.below⟩
end Go.Proofs.Ytiephlhohgohcaa.PAll
