/- Part 20 of what the row rests on: each text as it stands among the working texts, cut to what is used; those of the print of the kit as a program printed them. -/
import Derived.Test.YtiephlhohgohcaaHours19
import Derived.Test.YtiephlhohgohcaaHours12
import Derived.Laws.Tables
set_option linter.unusedVariables false
set_option linter.unusedSimpArgs false
namespace Go.Proofs.Ytiephlhohgohcaa.PAll
open Go.RowKit Go.Proofs.YtiephlhohgohcaaW.PrintWords Go.Proofs.YtiephlhohgohcaaW.PrintLast Go.Proofs.YtiephlhohgohcaaW.PrintMore
attribute [local go_sem] max2_int min2_int max_two min_two max_three min_three max_four min_four
set_option linter.unusedVariables false
set_option linter.unusedSimpArgs false
/-- The cells of a set of hours, 0 to 101. -/
def rcells (f : Int → Bool) : Array Value := ((List.range 102).map (fun j : Nat => Value.bool (f (j : Int)))).toArray
theorem rcells_size (f : Int → Bool) : (rcells f).size = 102 := by simp [rcells]
theorem rcells_at (f : Int → Bool) {j : Nat} (hj : j < 102) : (rcells f)[j]? = some (.bool (f (j : Int))) := by simp [rcells, hj]
theorem rcells_one (f : Int → Bool) : (rcells f).all (·.oneCell') = true := by
  rw [Array.all_eq_true_iff_forall_mem]
  intro v hv
  simp only [rcells, List.mem_toArray, List.mem_map] at hv
  obtain ⟨j, _, rfl⟩ := hv
  rfl
theorem rcells_set (f : Int → Bool) {j : Nat} (hj : j < 102) : (rcells f).setIfInBounds j (.bool true) = rcells (fun x => f x || x == (j : Int)) := by
  apply Array.ext
  · simp [rcells_size]
  · intro i h1 h2
    rw [rcells_size] at h2
    rw [Array.getElem_setIfInBounds (by rw [rcells_size]; exact h2)]
    simp only [rcells, List.getElem_toArray, List.getElem_map, List.getElem_range]
    by_cases e : j = i
    · subst e; simp
    · rw [if_neg e]
      have : ((i : Int) == (j : Int)) = false := beq_eq_false_iff_ne.2 (by omega)
      rw [this, Bool.or_false]
theorem rcells_congr {f g : Int → Bool} (h : ∀ j : Nat, j < 102 → f (j : Int) = g (j : Int)) : rcells f = rcells g := by
  unfold rcells
  congr 1
  apply List.map_congr_left
  intro j hj
  rw [h j (List.mem_range.1 hj)]
theorem zero50 : Try.zeroCells50 = rcells (fun _ => false) := by kernel_rfl
theorem info50s : (Try.prog.info? 50).map (·.size) = some 102 := by kernel_rfl
/-- A block that is the set f. -/
def RSet (W : World) (b : Nat) (f : Int → Bool) : Prop := W.heap[b]? = some (.cells (rcells f) 50 (0, 0))
theorem RSet.cell {W : World} {b : Nat} {f : Int → Bool} (h : RSet W b f) {j : Nat} (hj : j < 102) : W.cell? ⟨b, j, none⟩ = some (.bool (f (j : Int))) := (blk_cell h j).trans (rcells_at f hj)
theorem RSet.frozen {W : World} {b : Nat} {f : Int → Bool} (h : RSet W b f) (j : Nat) : W.frozen? ⟨b, j, none⟩ = false := blk_frozen h j
theorem RSet.below {W W' : World} {b : Nat} {f : Int → Bool} (h : RSet W b f) (hb : Below W.heap.size W W') : RSet W' b f := blk_below h hb
theorem RSet.set {W : World} {b : Nat} {f : Int → Bool} (h : RSet W b f) {j : Nat} (hj : j < 102) : RSet (W.setCell ⟨b, j, none⟩ (.bool true)) b (fun x => f x || x == (j : Int)) := by
  have := blk_set h j (.bool true)
  rw [rcells_set f hj] at this
  exact this
theorem RSet.far {W : World} {b : Nat} {f : Int → Bool} (h : RSet W b f) {p : Addr} (hp : b ≠ p.block) (u : Value) : RSet (W.setCell p u) b f := blk_far h hp u
end Go.Proofs.Ytiephlhohgohcaa.PAll
namespace Go.Proofs.Ytiephlhohgohcaa.PAll
open Go.RowKit Go.Proofs.YtiephlhohgohcaaW.PrintWords Go.Proofs.YtiephlhohgohcaaW.PrintLast Go.Proofs.YtiephlhohgohcaaW.PrintMore
attribute [local go_sem] max2_int min2_int max_two min_two max_three min_three max_four min_four
set_option linter.unusedVariables false
set_option linter.unusedSimpArgs false
theorem refAwake80 (l : S101) (A : Option Addr) (c : Nat) (w : World) (h : Kd.C k64 w A l.f1.length l.f1) (hc : l.f1.length ≤ c) (hw : Wakes (toL l)) (hl : l.f1.length ≤ 100) (x : Int) (h0 : 0 ≤ x) (h1 : x ≤ 10000) :
    Calls Try.prog 80 #[.agg #[.int .i64 l.f0.f0, .int .i64 l.f0.f1, .slice A l.f1.length c], .int .i64 x] w fun e w' => e = .returned (.int .i64 (awakeL (toL l) x)) ∧ Below w.heap.size w w' := by
  obtain ⟨k, hk⟩ := (awake_f l hw hl x h0 h1).rounds
  exact (glisterref05_Awake.calls k l.f0.f0 l.f0.f1 A c l.f1 x _ w h hc hk).mono fun _ _ h => ⟨h.1, by first | exact h.2 | exact h.2.below⟩
theorem heap_setRow_other (w : World) (g k : Nat) (cs : Array Value) (h : k ≠ g) : (w.setRow g cs).heap[k]? = w.heap[k]? := by
  simp only [World.setRow, Array.getElem?_modify]
  rw [if_neg (by omega)]
theorem below_setRow {B : Nat} {a w : World} {g : Nat} (h : Below B a w) (hg : B ≤ g) (cs : Array Value) : Below B a (w.setRow g cs) :=
  h.trans ⟨rfl, rfl, rfl, by simp, fun k hk => heap_setRow_other w g k cs (by omega)⟩
set_option maxRecDepth 100000 in
set_option maxHeartbeats 8000000 in
theorem refHours31 (A : Option Addr) (c : Nat) (legs : List S101) (lossy : Bool) (sent : Nat) (w : World) (h : Kd.C k101 w A legs.length legs) (hc : legs.length ≤ c) (hok : ∀ l ∈ legs, LegOk (toL l) ∧ l.f1.length ≤ 100) (hl : legs.length ≤ 3) (s1 : sent ≤ 30) :
    Calls Try.prog 31 #[.agg #[.slice A legs.length c, .bool lossy], .int .i64 (sent : Int)] w fun e w' => e = .returned (.agg (rcells (setsOf (legs.map toL) (sent : Int)))) ∧ Below w.heap.size w w' := by
  have H := Aside0.mk h
  have HC := Aside0.mk hc
  have HOK := Aside0.mk hok
  clear h hc hok
  obtain ⟨W3, hW3⟩ : ∃ W3, W3 = ((w.alloc (.cells #[.slice A legs.length c, .bool lossy] 54)).alloc (.cells Try.zeroCells50 50)).alloc (.cells Try.zeroCells50 50) := ⟨_, rfl⟩
  have z1 := size_new_at (w := w) (o := .cells #[.slice A legs.length c, .bool lossy] 54) rfl
  have z2 := size_new_at (o := .cells Try.zeroCells50 50) z1
  have hb3 : Below w.heap.size w W3 := hW3 ▸ (((Below.refl _ w).alloc (by simp) _).alloc (by simp) _).alloc (by simp; omega) _
  have HX3 := Aside0.mk (show W3.heap[w.heap.size]? = some (.cells #[.slice A legs.length c, .bool lossy] 54 (0, 0)) from by rw [hW3]; exact blk_alloc (blk_alloc (blk_new _ _) _) _)
  have HR3 := Aside0.mk (show RSet W3 (w.heap.size + 1) (fun _ => false) from by rw [hW3, RSet, ← zero50]; exact blk_alloc (blk_new_at z1) _)
  have hn3 : RSet W3 (w.heap.size + 1 + 1) (fun _ => false) := by rw [hW3, RSet, ← zero50]; exact blk_new_at z2
  have s0 : W3.cell? ⟨w.heap.size + 1 + 1, sent, none⟩ = some (.bool false) := hn3.cell (by omega)
  have s1' := hn3.frozen sent
  have HS1 := Aside0.mk s1
  have hlt : (sent : Int) < 102 := by omega
  rw [hW3] at s0 s1'
  obtain ⟨W4, hW4⟩ : ∃ W4, W4 = ((w.alloc (.cells #[.slice A legs.length c, .bool lossy] 54)).alloc (.cells Try.zeroCells50 50)).alloc (.cells (Try.zeroCells50.setIfInBounds sent (.bool true)) 50) := ⟨_, rfl⟩
  have HB4 := Aside0.mk (show Below w.heap.size w W4 from hW4 ▸ (((Below.refl _ w).alloc (by simp) _).alloc (by simp) _).alloc (by simp; omega) _)
  have HX4 := Aside0.mk (show W4.heap[w.heap.size]? = some (.cells #[.slice A legs.length c, .bool lossy] 54 (0, 0)) from by rw [hW4]; exact blk_alloc (blk_alloc (blk_new _ _) _) _)
  have HR4 := Aside0.mk (show RSet W4 (w.heap.size + 1) (fun _ => false) from by rw [hW4, RSet, ← zero50]; exact blk_alloc (blk_new_at z1) _)
  have HN4' : Aside0 (RSet W4 (w.heap.size + 1 + 1) (setsFrom ((legs.map toL).take 0) (startSet (sent : Int)))) := ⟨by
    have e : W4.heap[w.heap.size + 1 + 1]? = some (.cells (Try.zeroCells50.setIfInBounds sent (.bool true)) 50 (0, 0)) := by rw [hW4]; exact blk_new_at z2
    unfold RSet
    rw [e, zero50, rcells_set _ (by omega)]
    congr 2⟩
  have HW4 := Aside0.mk hW4
  clear hW3 z1 z2 hb3 hn3 hW4 HX3 HR3
  go_enter Try.func31, Try.ntmps31
  go_wp2_with fail
  rw [← HW4.out]
  clear s0 s1' HW4
  go_loopg [6] legs.length (fun gg s6 wr => ∃ i : Nat, i ≤ legs.length ∧ legs.length - i ≤ gg ∧ s6 = .int .i64 i ∧ Aside0 (wr.heap[w.heap.size]? = some (.cells #[.slice A legs.length c, .bool lossy] 54 (0, 0))) ∧ Aside0 (RSet wr (w.heap.size + 1) (fun _ => false)) ∧
    Aside0 (RSet wr (w.heap.size + 1 + 1) (setsFrom ((legs.map toL).take i) (startSet (sent : Int)))) ∧ Aside0 (Below w.heap.size w wr))
  case atStart => exact ⟨0, by omega, by omega, rfl, HX4, HR4, HN4', HB4⟩
  case round =>
    obtain ⟨i, hi, hgi, rfl, HX, HR, HN, HB⟩ := hrel
    clear HX4 HR4 HN4' HB4
    obtain ⟨wm, rfl⟩ : ∃ wm : World, wm = wr := ⟨_, rfl⟩
    have x0 : wm.cell? ⟨w.heap.size, 0, none⟩ = some (.slice A legs.length c) := (blk_cell HX.out 0).trans rfl
    by_cases hlt : i < legs.length
    · have hltz : (i : Int) < (legs.length : Int) := by omega
      obtain ⟨ad, A5, c5, e5, d0, d1, d2, l5, g5⟩ := at_T101 H.out (i : Int) (by omega) hltz
      cases e5
      rw [Int.toNat_natCast] at d0 d1 d2
      have hx : rd_T101 legs (i : Int) = legs[i] := rdT101 hlt
      have hokl := HOK.out _ (List.getElem_mem hlt)
      rw [← hx] at hokl
      have HXL := Aside0.mk hx
      have D0 := Aside0.mk d0
      have D1 := Aside0.mk d1
      have D2 := Aside0.mk d2
      have G5 := Aside0.mk g5
      clear hx d0 d1 d2 g5
      generalize rd_T101 legs (i : Int) = lg at D0 D1 D2 l5 G5 hokl HXL
      obtain ⟨⟨lo, hi'⟩, asl⟩ := lg
      dsimp only at D0 D1 D2 l5 G5
      have LOK := Aside0.mk hokl.1
      have LAS := Aside0.mk hokl.2
      have b1 : 0 ≤ lo := hokl.1.lo
      have b2 : lo ≤ hi' := hokl.1.hi
      have b3 : hi' ≤ 6 := hokl.1.most
      clear hokl
      obtain ⟨gn, hgn⟩ : ∃ gn, gn = wm.heap.size := ⟨_, rfl⟩
      obtain ⟨W5, hW5⟩ : ∃ W5, W5 = wm.alloc (.cells Try.zeroCells50 50) := ⟨_, rfl⟩
      have hb5 : Below wm.heap.size wm W5 := hW5 ▸ (Below.refl _ wm).alloc (Nat.le_refl _) _
      have HX5 := Aside0.mk (blk_below HX.out hb5)
      have HR5 := Aside0.mk (HR.out.below hb5)
      have HN5 := Aside0.mk (HN.out.below hb5)
      have HB5 := Aside0.mk (below_then HB.out HB.out.size hb5)
      have HNX5 := Aside0.mk (show RSet W5 gn (fun _ => false) from by rw [hW5, hgn, RSet, ← zero50]; exact blk_new _ _)
      have HGN := Aside0.mk (show w.heap.size + 1 + 1 < gn from hgn ▸ (by have := blk_lt HN.out; omega))
      have HW5 := Aside0.mk hW5
      have HG5 := Aside0.mk hgn
      clear hb5 hW5 hgn
      go_wp2_with fail
      rw [← HW5.out, ← HG5.out]
      clear HW5 HG5 x0
      have HCU : Aside0 (Upto (setsFrom ((legs.map toL).take i) (startSet (sent : Int))) 48) := ⟨by
        have h1 := setsFrom_ok ((legs.map toL).take i) (startSet (sent : Int)) 0 (fun q hq => by
          obtain ⟨q', hq', rfl⟩ := List.mem_map.1 (List.mem_of_mem_take hq)
          exact (HOK.out q' hq').1) (fun z hz => by have := start_upto (s := (sent : Int)) (by omega) (by omega) z hz; omega) ⟨(sent : Int), by simp [startSet]⟩ (by rw [List.length_take, List.length_map]; omega)
        have hln : ((legs.map toL).take i).length ≤ 3 := by rw [List.length_take, List.length_map]; omega
        intro x hx
        have := h1.1 x hx
        omega⟩
      generalize hcur : setsFrom ((legs.map toL).take i) (startSet (sent : Int)) = cur at HN5 HCU
      have HCUR := Aside0.mk hcur
      clear hcur
      go_loopg [8] 91 (fun gg s8 wr => ∃ k : Nat, k ≤ 91 ∧ 91 - k ≤ gg ∧ s8 = .int .i64 k ∧ Aside0 (wr.heap[w.heap.size]? = some (.cells #[.slice (some ad) legs.length c, .bool lossy] 54 (0, 0))) ∧ Aside0 (RSet wr (w.heap.size + 1) (fun _ => false)) ∧
        Aside0 (RSet wr (w.heap.size + 1 + 1) cur) ∧ Aside0 (RSet wr gn (manyB (toL ⟨⟨lo, hi'⟩, asl⟩) (hoursOf cur k))) ∧ Aside0 (Below w.heap.size w wr))
      case atStart => exact ⟨0, by omega, by omega, rfl, HX5, HR5, HN5, HNX5, HB5⟩
      case round =>
        obtain ⟨k, hk, hgk, rfl, HXk, HRk, HNk, HNXk, HBk⟩ := hrel
        clear HX5 HR5 HN5 HNX5 HB5
        obtain ⟨wk, rfl⟩ : ∃ wk : World, wk = wr := ⟨_, rfl⟩
        by_cases hlk : k < 91
        · have hlkz : (k : Int) ≤ 90 := by omega
          obtain ⟨cnt, hcnt⟩ : ∃ cnt : Nat, (cnt : Int) = hi' - lo + 1 := ⟨(hi' - lo + 1).toNat, by omega⟩
          have HCNT := Aside0.mk hcnt
          have hc7 : cnt ≤ 7 := by omega
          clear hcnt
          have x0 : wk.cell? ⟨w.heap.size, 0, none⟩ = some (.slice (some ad) legs.length c) := (blk_cell HXk.out 0).trans rfl
          have y0 := (HBk.out.cell (World.block_lt_of_cell? w _ D0.out)).trans D0.out
          go_wp2_with fail
          clear x0 y0
          go_loopg [9] (cnt + 1) (fun gm s9 wr => ∃ m : Nat, m ≤ cnt ∧ cnt + 1 - m ≤ gm ∧ s9 = .int .i64 (lo + (m : Int)) ∧ Aside0 (m = 0 ∨ cur (k : Int) = true) ∧ Aside0 (wr.heap[w.heap.size]? = some (.cells #[.slice (some ad) legs.length c, .bool lossy] 54 (0, 0))) ∧ Aside0 (RSet wr (w.heap.size + 1) (fun _ => false)) ∧
            Aside0 (RSet wr (w.heap.size + 1 + 1) cur) ∧ Aside0 (RSet wr gn (fun y => manyB (toL ⟨⟨lo, hi'⟩, asl⟩) (hoursOf cur k) y || oneB (toL ⟨⟨lo, hi'⟩, asl⟩) (k : Int) m y)) ∧ Aside0 (Below w.heap.size w wr))
          case atStart => exact ⟨0, by omega, by omega, by simp, ⟨.inl rfl⟩, HXk, HRk, HNk, ⟨by
            have e := HNXk.out
            unfold RSet at e ⊢
            rw [e]
            congr 2
            apply rcells_congr
            intro y _
            simp [oneB]⟩, HBk⟩
          case round =>
            obtain ⟨m, hm, hgm, rfl, HMC, HXm, HRm, HNm, HNXm, HBm⟩ := hrel
            clear HXk HRk HNk HNXk HBk
            obtain ⟨wi, rfl⟩ : ∃ wi : World, wi = wr := ⟨_, rfl⟩
            have x0 : wi.cell? ⟨w.heap.size, 0, none⟩ = some (.slice (some ad) legs.length c) := (blk_cell HXm.out 0).trans rfl
            have y0 := (HBm.out.cell (World.block_lt_of_cell? w _ D0.out)).trans D0.out
            have y1 := (HBm.out.cell (World.block_lt_of_cell? w _ D1.out)).trans D1.out
            have y2 := (HBm.out.cell (World.block_lt_of_cell? w _ D2.out)).trans D2.out
            have hk102 : (k : Int) < 102 := by omega
            have n0 : wi.cell? ⟨w.heap.size + 1 + 1, k, none⟩ = some (.bool (cur (k : Int))) := HNm.out.cell (by omega)
            have NEXT : Aside0 (m = cnt ∨ cur (k : Int) = false → RSet wi gn (manyB (toL ⟨⟨lo, hi'⟩, asl⟩) (hoursOf cur (k + 1)))) := ⟨fun hmc => by
              have e := HNXm.out
              unfold RSet at e ⊢
              rw [e]
              congr 2
              apply rcells_congr
              intro y _
              cases hck : cur (k : Int) with
              | true =>
                have hmm : m = cnt := by
                  rcases hmc with h | h
                  · exact h
                  · rw [hck] at h; cases h
                rw [hoursOf_yes hck, manyB_snoc, hmm]
                have : ((toL ⟨⟨lo, hi'⟩, asl⟩).f0.f1 - (toL ⟨⟨lo, hi'⟩, asl⟩).f0.f0 + 1).toNat = cnt := by
                  have := HCNT.out
                  show (hi' - lo + 1).toNat = cnt
                  omega
                rw [this]
              | false =>
                have hmm : m = 0 := by
                  rcases HMC.out with h | h
                  · exact h
                  · rw [hck] at h; cases h
                rw [hoursOf_no hck, hmm]
                simp [oneB]⟩
            by_cases hmc : m < cnt
            · have hle : lo + (m : Int) ≤ hi' := by have := HCNT.out; omega
              cases hck : cur (k : Int) with
              | false =>
                have HCK := Aside0.mk hck
                rw [hck] at n0
                clear hck
                have HNXT := Aside0.mk (NEXT.out (.inr HCK.out))
                go_wp2_with fail
                go_roundg (91 - (k + 1))
                case measure => omega
                case rel => exact ⟨k + 1, by omega, by omega, by go_num, HXm, HRm, HNm, HNXT, HBm⟩
              | true =>
                have HCK := Aside0.mk hck
                rw [hck] at n0
                have hkc := HCU.out (k : Int) hck
                clear hck
                have ha := awake_upto LOK.out (h := (k : Int)) (B := 48) hkc.1 hkc.2 (by omega) (n := m) (by have := HCNT.out; show (m : Int) ≤ hi' - lo; omega)
                have ha' : 0 ≤ awakeL (toL ⟨⟨lo, hi'⟩, asl⟩) ((k : Int) + (lo + (m : Int))) ∧ awakeL (toL ⟨⟨lo, hi'⟩, asl⟩) ((k : Int) + (lo + (m : Int))) ≤ 54 := by
                  rw [show (k : Int) + (lo + (m : Int)) = (k : Int) + lo + (m : Int) by omega]; exact ha
                obtain ⟨av, hav⟩ : ∃ av : Nat, (av : Int) = awakeL (toL ⟨⟨lo, hi'⟩, asl⟩) ((k : Int) + (lo + (m : Int))) := ⟨_, Int.toNat_of_nonneg ha'.1⟩
                have hav54 : av ≤ 54 := by omega
                have HAV := Aside0.mk hav
                have HAW : Aside0 (∀ w', Below w.heap.size w w' → Calls Try.prog 80 #[.agg #[.int .i64 lo, .int .i64 hi', .slice A5 asl.length c5], .int .i64 ((k : Int) + (lo + (m : Int)))] w' fun e w'' => e = .returned (.int .i64 (av : Int)) ∧ Below w'.heap.size w' w'') := ⟨fun w' hb => by
                  rw [hav]
                  exact refAwake80 ⟨⟨lo, hi'⟩, asl⟩ A5 c5 w' (Kd.C_below G5.out hb) l5 LOK.out.wk LAS.out _ (by omega) (by omega)⟩
                clear ha ha' hav hkc
                go_wp2_with fail
                refine (HAW.out _ HBm.out).mono ?_
                rintro e w7 ⟨rfl, hb⟩
                have HX7 := Aside0.mk (blk_below HXm.out hb)
                have HR7 := Aside0.mk (HRm.out.below hb)
                have HN7 := Aside0.mk (HNm.out.below hb)
                have HNX7 := Aside0.mk (HNXm.out.below hb)
                have HB7 := Aside0.mk (below_then HBm.out HBm.out.size hb)
                clear hb x0 y0 y1 y2 n0
                have t0 := HNX7.out.cell (j := av) (by omega)
                have t1 := HNX7.out.frozen av
                have hav102 : (av : Int) < 102 := by omega
                generalize (manyB (toL ⟨⟨lo, hi'⟩, asl⟩) (hoursOf cur k) (av : Int) || oneB (toL ⟨⟨lo, hi'⟩, asl⟩) (k : Int) m (av : Int)) = tv at t0
                go_wp2_with fail
                clear t0 t1
                go_roundg (cnt + 1 - (m + 1))
                case measure => omega
                case rel =>
                  refine ⟨m + 1, by omega, by omega, by go_num, ⟨.inr HCK.out⟩, ⟨blk_far HX7.out (p := ⟨gn, av, none⟩) (by have := HGN.out; simp; omega) _⟩, ⟨HR7.out.far (p := ⟨gn, av, none⟩) (by have := HGN.out; simp; omega) _⟩, ⟨HN7.out.far (p := ⟨gn, av, none⟩) (by have := HGN.out; simp; omega) _⟩, ⟨?_⟩, ⟨HB7.out.setCell (p := ⟨gn, av, none⟩) (by have := HGN.out; simp; omega) _⟩⟩
                  have e := HNX7.out.set (j := av) (by omega)
                  unfold RSet at e ⊢
                  rw [e]
                  congr 2
                  apply rcells_congr
                  intro y _
                  rw [oneB_succ, HAV.out, show (k : Int) + (lo + (m : Int)) = (k : Int) + lo + (m : Int) by omega, Bool.or_assoc]
                  rfl
            · have hle : ¬ lo + (m : Int) ≤ hi' := by have := HCNT.out; omega
              have HNXT := Aside0.mk (NEXT.out (.inl (by omega)))
              go_wp2_with fail
              go_roundg (91 - (k + 1))
              case measure => omega
              case rel => exact ⟨k + 1, by omega, by omega, by go_num, HXm, HRm, HNm, HNXT, HBm⟩
        · have hlkz : ¬ (k : Int) ≤ 90 := by omega
          have hkk : k = 91 := by omega
          have HNF : Aside0 (RSet wk gn (setsFrom ((legs.map toL).take (i + 1)) (startSet (sent : Int)))) := ⟨by
            have e := HNXk.out
            rw [hkk] at e
            unfold RSet at e ⊢
            rw [e]
            congr 2
            apply rcells_congr
            intro y _
            rw [List.take_succ_eq_append_getElem (show i < (legs.map toL).length by rw [List.length_map]; exact hlt), setsFrom_snoc, HCUR.out, List.getElem_map, ← HXL.out]
            show manyB _ (hoursOf cur 91) (y : Int) = manyB _ (hoursOf cur 101) (y : Int)
            congr 1
            have key : ∀ d : Nat, d ≤ 10 → hoursOf cur (91 + d) = hoursOf cur 91 := by
              intro d
              induction d with
              | zero => intro _; rfl
              | succ d ih =>
                intro hd
                have hf : cur ((91 + d : Nat) : Int) = false := by
                  cases hq : cur ((91 + d : Nat) : Int) with
                  | false => rfl
                  | true => have := HCU.out _ hq; omega
                rw [show 91 + (d + 1) = (91 + d) + 1 from rfl, hoursOf_no hf, ih (by omega)]
            exact (key 10 (by omega)).symm⟩
          clear hkk
          go_wp2_with (first
            | (refine wpList_load_row rfl 50 _ rfl gn rfl 50 _ (0, 0) _ HNF.out Try.underlying50 rfl (by rw [rcells_size]; exact info50s) ?_)
            | (refine wpList_store_row rfl 50 _ _ rfl (w.heap.size + 1 + 1) (rcells (setsFrom ((legs.map toL).take (i + 1)) (startSet (sent : Int)))) rfl rfl 50 _ HNk.out (by rw [rcells_size]; exact info50s) (by rw [rcells_size, rcells_size]) (rcells_one _) ?_))
          go_roundg (legs.length - (i + 1))
          case measure => omega
          case rel => exact ⟨i + 1, by omega, by omega, by go_num, ⟨(heap_setRow_other _ _ _ _ (by omega)).trans HXk.out⟩, ⟨(heap_setRow_other _ _ _ _ (by omega)).trans HRk.out⟩, ⟨setRow_heap _ _ _ _ _ _ HNk.out⟩, ⟨below_setRow HBk.out (by omega) _⟩⟩
    · have hltz : ¬ (i : Int) < (legs.length : Int) := by omega
      have hii : i = legs.length := by omega
      have HF : Aside0 (RSet wm (w.heap.size + 1 + 1) (setsOf (legs.map toL) (sent : Int))) := ⟨by
        have e := HN.out
        rw [hii, List.take_of_length_le (by simp)] at e
        exact e⟩
      clear hii
      go_wp2_with (first
        | (refine wpList_load_row rfl 50 _ rfl (w.heap.size + 1 + 1) rfl 50 _ (0, 0) _ HF.out Try.underlying50 rfl (by rw [rcells_size]; exact info50s) ?_)
        | (refine wpList_store_row rfl 50 _ _ rfl (w.heap.size + 1) (rcells (setsOf (legs.map toL) (sent : Int))) rfl rfl 50 _ HR.out (by rw [rcells_size]; exact info50s) (by rw [rcells_size, rcells_size]) (rcells_one _) ?_))
      refine bodyPost_ret (results_cell_row rfl _ _ (w.heap.size + 1) 50 (rcells (setsOf (legs.map toL) (sent : Int))) (0, 0) _ rfl (setRow_heap _ _ _ _ _ _ HR.out) Try.underlying50 rfl (by rw [rcells_size]; exact info50s)) rfl ⟨rfl, below_setRow HB.out (by omega) _⟩
end Go.Proofs.Ytiephlhohgohcaa.PAll
namespace Go.Proofs.Ytiephlhohgohcaa.PAll
open Go.RowKit Go.Proofs.YtiephlhohgohcaaW.PrintWords Go.Proofs.YtiephlhohgohcaaW.PrintLast Go.Proofs.YtiephlhohgohcaaW.PrintMore
attribute [local go_sem] max2_int min2_int max_two min_two max_three min_three max_four min_four
set_option linter.unusedVariables false
set_option linter.unusedSimpArgs false
theorem in30 (a lo hi : Int) (w : World) : Calls Try.prog 30 #[.int .i64 a, .int .i64 lo, .int .i64 hi] w fun e w' => e = .returned (.bool (inB lo hi a)) ∧ Below w.heap.size w w' :=
  (glisterref05_In.calls a lo hi _ w (in_f a lo hi)).mono fun _ _ h => ⟨h.1, by obtain ⟨n, rfl⟩ := h.2.out; exact pw_below_drewN (Below.refl _ _) n⟩
set_option maxRecDepth 100000 in
set_option maxHeartbeats 8000000 in
theorem copiesHours4 (A0 : Option Addr) (c0 : Nat) (sends : List Int) (A1 : Option Addr) (c1 : Nat) (routes : List S54) (pat number route : Int) (w : World) (h : PostAt w A0 c0 sends A1 c1 routes) :
    Calls Try.prog 4 #[.agg #[.slice A0 sends.length c0, .slice A1 routes.length c1, .int .i64 pat], .int .i64 number, .int .i64 route] w fun e w' => e = .returned (.bool true) ∧ Below w.heap.size w w' := by
  obtain ⟨rs, hrs⟩ : ∃ rs, rs = routes.map toX := ⟨_, rfl⟩
  have HRS := Aside0.mk hrs
  clear hrs
  obtain ⟨W1, hW1⟩ : ∃ W1, W1 = w.alloc (.cells #[.slice A0 sends.length c0, .slice A1 routes.length c1, .int .i64 pat] 25) := ⟨_, rfl⟩
  have hx := BoxAt.start w A0 c0 sends.length A1 c1 routes.length pat
  rw [← hW1] at hx
  have HX := Aside0.mk hx
  have HP := Aside0.mk h
  have x0 := hx.x0
  have x1 := hx.x1
  have x2 := hx.x2
  have HW1 := Aside0.mk hW1
  clear h hx hW1
  go_enter Try.func4, Try.ntmps4
  go_wp2_with fail
  rw [← HW1.out]
  clear HW1
  refine (thin18 pat (HP.out.below HX.out.below)).mono ?_
  rintro e w2 ⟨rfl, hb⟩
  replace HX := Aside0.mk (HX.out.later hb)
  clear hb x0 x1 x2
  cases hth : thinB sends routes with
  | false =>
    clear hth
    go_wp2_with fail
    refine (awake20 w2).mono ?_
    rintro e w3 ⟨rfl, hb⟩
    replace HX := Aside0.mk (HX.out.later hb)
    clear hb
    go_wp2_with fail
    go_ret
    exact ⟨rfl, HX.out.below⟩
  | true =>
    have HTH := Aside0.mk hth
    have hs7 := (thin_spec hth).1
    have hr6 := (thin_spec hth).2.1
    clear hth
    have x0 := HX.out.x0
    have x1 := HX.out.x1
    have x2 := HX.out.x2
    go_wp2_with fail
    refine (post22_thin pat HRS.out (HP.out.below HX.out.below) HTH.out).mono ?_
    rintro e w4 ⟨A3, c3, A4, c4, rfl, hp, hb⟩
    replace HX := Aside0.mk (HX.out.later hb)
    have HP4 := Aside0.mk hp
    clear hb hp x0 x1 x2
    go_wp2_with fail
    refine (hours29 A3 c3 sends A4 c4 rs pat number route w4 HP4.out.h0 HP4.out.l0 HP4.out.h1 HP4.out.l1).mono ?_
    rintro e w5 ⟨v5, rfl, hr, hb⟩
    obtain ⟨A5, c5, rfl, hl5, hC5⟩ := Kd.R_reads hr
    replace HX := Aside0.mk (HX.out.later hb)
    have HJ := Aside0.mk hC5
    have HJL := Aside0.mk hl5
    clear hb hr hl5 hC5 HP4
    have x0 := HX.out.x0
    have x1 := HX.out.x1
    have x2 := HX.out.x2
    go_wp2_with fail
    refine (fault25 pat HRS.out (HP.out.below HX.out.below) (thin_spec HTH.out).1).mono ?_
    rintro e w6 ⟨rfl, hb⟩
    replace HX := Aside0.mk (HX.out.later hb)
    replace HJ := Aside0.mk (Kd.C_below HJ.out hb)
    clear hb x0 x1 x2
    by_cases hck : check sends rs pat = 0
    · have hcb : (check sends rs pat == (0 : Int)) = true := by rw [hck]; rfl
      have V := Aside0.mk (valid_of hck)
      have HCK := Aside0.mk hck
      have hrl : rs.length = routes.length := by rw [HRS.out, List.length_map]
      have HRL := Aside0.mk hrl
      clear hck hrl
      have x0 := HX.out.x0
      have x1 := HX.out.x1
      have x2 := HX.out.x2
      go_wp2_with fail
      refine (in30 number 0 ((sends.length : Int) - 1) w6).mono ?_
      rintro e w7 ⟨rfl, hb⟩
      replace HX := Aside0.mk (HX.out.later hb)
      replace HJ := Aside0.mk (Kd.C_below HJ.out hb)
      clear hb x0 x1 x2
      cases hin : inB 0 ((sends.length : Int) - 1) number with
      | false =>
        have hres : hoursRes sends rs pat number route = ([], 2) := by rw [hoursRes, if_neg (by rw [HCK.out]; simp), hin]; rfl
        rw [hres] at HJ HJL ⊢
        clear hin hres
        dsimp only [List.length_nil] at HJ HJL ⊢
        go_wp2_with fail
        refine (awake20 w7).mono ?_
        rintro e w8 ⟨rfl, hb⟩
        replace HX := Aside0.mk (HX.out.later hb)
        clear hb
        go_wp2_with fail
        go_ret
        exact ⟨rfl, HX.out.below⟩
      | true =>
        have HIN := Aside0.mk hin
        clear hin
        have x0 := HX.out.x0
        have x1 := HX.out.x1
        have x2 := HX.out.x2
        go_wp2_with fail
        refine (in30 route 0 ((routes.length : Int) - 1) w7).mono ?_
        rintro e w8 ⟨rfl, hb⟩
        replace HX := Aside0.mk (HX.out.later hb)
        replace HJ := Aside0.mk (Kd.C_below HJ.out hb)
        clear hb x0 x1 x2
        cases hin : inB 0 ((routes.length : Int) - 1) route with
        | false =>
          have hres : hoursRes sends rs pat number route = ([], 2) := by rw [hoursRes, if_neg (by rw [HCK.out]; simp), HRL.out, hin, HIN.out]; rfl
          rw [hres] at HJ HJL ⊢
          clear hin hres
          dsimp only [List.length_nil] at HJ HJL ⊢
          go_wp2_with fail
          refine (awake20 w8).mono ?_
          rintro e w9 ⟨rfl, hb⟩
          replace HX := Aside0.mk (HX.out.later hb)
          clear hb
          go_wp2_with fail
          go_ret
          exact ⟨rfl, HX.out.below⟩
        | true =>
          have HIN2 := Aside0.mk hin
          have hnb := inB_iff.1 HIN.out
          have hrb := inB_iff.1 hin
          obtain ⟨ni, rfl⟩ : ∃ ni : Nat, number = (ni : Int) := ⟨number.toNat, by omega⟩
          obtain ⟨ri, rfl⟩ : ∃ ri : Nat, route = (ri : Int) := ⟨route.toNat, by omega⟩
          have hni : ni < sends.length := by omega
          have hri : ri < routes.length := by omega
          have hres : hoursRes sends rs pat (ni : Int) (ri : Int) = (hoursOf (setsOf (toX routes[ri]).f0 sends[ni]) 101, 0) := by
            rw [hoursRes, if_neg (by rw [HCK.out]; simp), HRL.out, hin, HIN.out]
            have e1 : rd_T122 rs (ri : Int) = toX routes[ri] := by
              unfold rd_T122
              rw [Int.toNat_natCast, rd_in _ _ _ (show ri < rs.length by rw [HRL.out]; exact hri)]
              simp only [HRS.out, List.getElem_map]
            rw [e1, rdI hni]
            rfl
          rw [hres] at HJ HJL ⊢
          clear hin hres hnb hrb
          dsimp only at HJ HJL ⊢
          obtain ⟨ads, es, ds⟩ := Kd.at_int HP.out.h0 (ni : Int) (by omega) (by omega)
          obtain ⟨adr, A7, c7, er, dr0, dr1, l7, g7⟩ := at_T54 HP.out.h1 (ri : Int) (by omega) (by omega)
          cases es
          cases er
          rw [Int.toNat_natCast] at ds dr0 dr1
          rw [rdI hni] at ds
          rw [rdT54 hri] at dr0 dr1 l7 g7
          have hms := List.getElem_mem hni
          have hmr := List.getElem_mem hri
          obtain ⟨sn, hsn⟩ : ∃ sn : Nat, sends[ni] = (sn : Int) := ⟨sends[ni].toNat, by have := V.out.s0 _ hms; omega⟩
          have hsn30 : sn ≤ 30 := by have := V.out.s0 _ hms; omega
          have HLG : Aside0 ((∀ l ∈ routes[ri].f0, LegOk (toL l) ∧ l.f1.length ≤ 100) ∧ routes[ri].f0.length ≤ 3) := ⟨by
            have hv := V.out
            rw [HRS.out] at hv
            exact ⟨fun l hl => ⟨hv.leg (List.mem_map_of_mem hmr) (List.mem_map_of_mem hl), (wakes_of hv hmr hl).2⟩, (legs_of hv hmr).2⟩⟩
          have hset : setsOf (toX routes[ri]).f0 sends[ni] = setsOf (routes[ri].f0.map toL) (sn : Int) := by rw [hsn]; rfl
          rw [hset] at HJ HJL ⊢
          rw [hsn] at ds
          clear hsn hset hms hmr
          generalize routes[ri] = rt at dr0 dr1 l7 g7 HLG HJ HJL ⊢
          obtain ⟨legs, lossy⟩ := rt
          dsimp only at dr0 dr1 l7 g7 HLG HJ HJL ⊢
          have HREF : Aside0 (∀ w', Below w8.heap.size w8 w' → Calls Try.prog 31 #[.agg #[.slice A7 legs.length c7, .bool lossy], .int .i64 (sn : Int)] w' fun e w'' => e = .returned (.agg (rcells (setsOf (legs.map toL) (sn : Int)))) ∧ Below w'.heap.size w' w'') := ⟨fun w' hb =>
            refHours31 A7 c7 legs lossy sn w' (Kd.C_below g7 (below_then HX.out.below HX.out.below.size hb)) l7 HLG.out.1 HLG.out.2 hsn30⟩
          obtain ⟨set, hset⟩ : ∃ set, set = setsOf (legs.map toL) (sn : Int) := ⟨_, rfl⟩
          rw [← hset] at HREF HJ HJL ⊢
          clear hset g7 l7 HLG
          have x0 := HX.out.x0
          have x1 := HX.out.x1
          have y0 := (HX.out.below.cell (World.block_lt_of_cell? w _ ds)).trans ds
          have y1 := (HX.out.below.cell (World.block_lt_of_cell? w _ dr0)).trans dr0
          have y2 := (HX.out.below.cell (World.block_lt_of_cell? w _ dr1)).trans dr1
          clear ds dr0 dr1
          have hnz : (ni : Int) < (sends.length : Int) := by omega
          have hrz : (ri : Int) < (routes.length : Int) := by omega
          have KEEP : Aside0 (∀ w' : World, Below w8.heap.size w8 w' → (w'.cell? ⟨w.heap.size, 0, none⟩ = some (.slice (some ads) sends.length c0) ∧ w'.cell? ⟨w.heap.size, 1, none⟩ = some (.slice (some adr) routes.length c1) ∧ w'.cell? (ads.add ni) = some (.int .i64 (sn : Int)) ∧ w'.cell? (adr.add (ri * 2)) = some (.slice A7 legs.length c7) ∧ w'.cell? ⟨(adr.add (ri * 2)).block, (adr.add (ri * 2)).off + 1, none⟩ = some (.bool lossy))) :=
            ⟨fun w' hb => ⟨pw_cell_below hb x0, pw_cell_below hb x1, pw_cell_below hb y0, pw_cell_below hb y1, pw_cell_below hb y2⟩⟩
          go_wp2_with fail
          refine start_ (n := 13) (S := fun w' => w'.cell? ⟨w.heap.size, 0, none⟩ = some (.slice (some ads) sends.length c0) ∧ w'.cell? ⟨w.heap.size, 1, none⟩ = some (.slice (some adr) routes.length c1) ∧ w'.cell? (ads.add ni) = some (.int .i64 (sn : Int)) ∧ w'.cell? (adr.add (ri * 2)) = some (.slice A7 legs.length c7) ∧ w'.cell? ⟨(adr.add (ri * 2)).block, (adr.add (ri * 2)).off + 1, none⟩ = some (.bool lossy)) (ds := [12]) #[false, false, false, false, false, false, false, false, false, false, false, false, false] (by kernel_rfl) rfl rfl ⟨x0, x1, y0, y1, y2⟩ (fun hHeld => ?_)
          have hq0 : Aside0 (Below w8.heap.size w8 w8.drew) := ⟨below_drew (Below.refl _ _)⟩
          refine pure_ (i := 0) (N := (some 60)) (v := ?_) (a' := ?_) #[true, false, false, false, false, false, false, false, false, false, false, false, false] rfl rfl (by kernel_rfl) (fun _ _ _ h => h) (Or.inl ⟨by rfl, ?_⟩) ?_ ?_
          rotate_left
          · intro w'
            go_simp
            with_reducible rfl
          rotate_left
          · simp only [Act.put, List.setIfInBounds_toArray, List.set_cons_zero, List.set_cons_succ, i64_w, i32_w]
            rfl
          refine take_ (i := 1) (N := (some 61)) (v := ?_) (a' := ?_) #[true, true, false, false, false, false, false, false, false, false, false, false, false] rfl rfl (by kernel_rfl) (fun _ _ _ h => h) (Or.inl ⟨by rfl, ?_⟩) hHeld ?_ ?_
          rotate_left
          · rintro w' ⟨s0, s1, s2, s3, s4⟩
            go_simp
            with_reducible rfl
          rotate_left
          · simp only [Act.put, List.setIfInBounds_toArray, List.set_cons_zero, List.set_cons_succ, i64_w, i32_w]
            rfl
          refine pure_ (i := 2) (N := (some 62)) (v := ?_) (a' := ?_) #[true, true, true, false, false, false, false, false, false, false, false, false, false] rfl rfl (by kernel_rfl) (fun _ _ _ h => h) (Or.inl ⟨by rfl, ?_⟩) ?_ ?_
          rotate_left
          · intro w'
            go_simp
            with_reducible rfl
          rotate_left
          · simp only [Act.put, List.setIfInBounds_toArray, List.set_cons_zero, List.set_cons_succ, i64_w, i32_w]
            rfl
          refine pure_ (i := 3) (N := (some 63)) (v := ?_) (a' := ?_) #[true, true, true, true, false, false, false, false, false, false, false, false, false] rfl rfl (by kernel_rfl) (fun _ _ _ h => h) (Or.inl ⟨by rfl, ?_⟩) ?_ ?_
          rotate_left
          · intro w'
            go_simp
            with_reducible rfl
          rotate_left
          · simp only [Act.put, List.setIfInBounds_toArray, List.set_cons_zero, List.set_cons_succ, i64_w, i32_w]
            rfl
          refine take_ (i := 4) (N := (some 64)) (v := ?_) (a' := ?_) #[true, true, true, true, true, false, false, false, false, false, false, false, false] rfl rfl (by kernel_rfl) (fun _ _ _ h => h) (Or.inl ⟨by rfl, ?_⟩) hHeld ?_ ?_
          rotate_left
          · rintro w' ⟨s0, s1, s2, s3, s4⟩
            go_simp
            with_reducible rfl
          rotate_left
          · simp only [Act.put, List.setIfInBounds_toArray, List.set_cons_zero, List.set_cons_succ, i64_w, i32_w]
            rfl
          refine pure_ (i := 5) (N := (some 65)) (v := ?_) (a' := ?_) #[true, true, true, true, true, true, false, false, false, false, false, false, false] rfl rfl (by kernel_rfl) (fun _ _ _ h => h) (Or.inl ⟨by rfl, ?_⟩) ?_ ?_
          rotate_left
          · intro w'
            go_simp
            with_reducible rfl
          rotate_left
          · simp only [Act.put, List.setIfInBounds_toArray, List.set_cons_zero, List.set_cons_succ, i64_w, i32_w]
            rfl
          refine take_ (i := 6) (N := (some 66)) (v := ?_) (a' := ?_) #[true, true, true, true, true, true, true, false, false, false, false, false, false] rfl rfl (by kernel_rfl) (fun _ _ _ h => h) (Or.inl ⟨by rfl, ?_⟩) hHeld ?_ ?_
          rotate_left
          · rintro w' ⟨s0, s1, s2, s3, s4⟩
            go_simp
            with_reducible rfl
          rotate_left
          · simp only [Act.put, List.setIfInBounds_toArray, List.set_cons_zero, List.set_cons_succ, i64_w, i32_w]
            rfl
          refine pure_ (i := 7) (N := (some 67)) (v := ?_) (a' := ?_) #[true, true, true, true, true, true, true, true, false, false, false, false, false] rfl rfl (by kernel_rfl) (fun _ _ _ h => h) (Or.inl ⟨by rfl, ?_⟩) ?_ ?_
          rotate_left
          · intro w'
            go_simp
            with_reducible rfl
          rotate_left
          · simp only [Act.put, List.setIfInBounds_toArray, List.set_cons_zero, List.set_cons_succ, i64_w, i32_w]
            rfl
          refine pure_ (i := 8) (N := (some 68)) (v := ?_) (a' := ?_) #[true, true, true, true, true, true, true, true, true, false, false, false, false] rfl rfl (by kernel_rfl) (fun _ _ _ h => h) (Or.inl ⟨by rfl, ?_⟩) ?_ ?_
          rotate_left
          · intro w'
            go_simp
            with_reducible rfl
          rotate_left
          · simp only [Act.put, List.setIfInBounds_toArray, List.set_cons_zero, List.set_cons_succ, i64_w, i32_w]
            rfl
          refine take_ (i := 9) (N := (some 69)) (v := ?_) (a' := ?_) #[true, true, true, true, true, true, true, true, true, true, false, false, false] rfl rfl (by kernel_rfl) (fun _ _ _ h => h) (Or.inl ⟨by rfl, ?_⟩) hHeld ?_ ?_
          rotate_left
          · rintro w' ⟨s0, s1, s2, s3, s4⟩
            go_simp
            with_reducible rfl
          rotate_left
          · simp only [Act.put, List.setIfInBounds_toArray, List.set_cons_zero, List.set_cons_succ, i64_w, i32_w]
            rfl
          refine join_ (σ := Nat) 1 #[true, true, true, true, true, true, true, true, true, true, true, true, false] (fun s_ => [(70, .agg (rcells set)), (10, .pointer (some ⟨s_, 0, none⟩))]) (fun s_ w' => (w'.cell? ⟨w.heap.size, 0, none⟩ = some (.slice (some ads) sends.length c0) ∧ w'.cell? ⟨w.heap.size, 1, none⟩ = some (.slice (some adr) routes.length c1) ∧ w'.cell? (ads.add ni) = some (.int .i64 (sn : Int)) ∧ w'.cell? (adr.add (ri * 2)) = some (.slice A7 legs.length c7) ∧ w'.cell? ⟨(adr.add (ri * 2)).block, (adr.add (ri * 2)).off + 1, none⟩ = some (.bool lossy)) ∧ RSet w' s_ (fun _ => false) ∧ w8.heap.size ≤ s_ ∧ Below w8.heap.size w8 w') ?_ ?_
          rotate_left
          · intro hCont
            refine two_ (i := 10) (j := 11) (Ni := (some 70)) (Nj := (some 10)) #[true, true, true, true, true, true, true, true, true, true, true, false, false] #[true, true, true, true, true, true, true, true, true, true, false, true, false] rfl rfl rfl rfl (by kernel_rfl) (by decide) (by decide) (fun K hK => ?_) (fun K hK => ?_)
            · refine goes_ Try.func31 (by kernel_rfl) rfl #[.agg #[.slice A7 legs.length c7, .bool lossy], .int .i64 (sn : Int)] (by rfl) rfl rfl (by (try simp only [List.map_toArray, List.map_cons, List.map_nil]); first | done | rfl) ?_
              refine (HREF.out w8.drew hq0.out).mono ?_
              rintro e w9 ⟨rfl, hb9⟩
              refine ⟨_, rfl, ?_⟩
              have hq4 := Aside0.mk (below_then hq0.out hq0.out.size hb9)
              have hb9' := Aside0.mk hb9
              clear hb9
              refine hK.out _ _ (KEEP.out _ hq4.out) (fun hHeld => ?_)
              clear hK K
              refine norm_ (a' := ?_) ?_ ?_
              rotate_left
              · show Act.put _ (some 70) _ = _
                simp only [Act.put, List.setIfInBounds_toArray, List.set_cons_zero, List.set_cons_succ, i64_w, i32_w]
                rfl
              refine one_ (i := 11) (N := (some 10)) #[true, true, true, true, true, true, true, true, true, true, true, true, false] rfl rfl (by kernel_rfl) (by decide) (fun K hK => ?_)
              have hq5 : Aside0 (Below w8.heap.size w8 ((w9).alloc (.cells Try.zeroCells50 50))) := ⟨hq4.out.alloc hq4.out.size _⟩
              have hz5 : Aside0 (RSet ((w9).alloc (.cells Try.zeroCells50 50)) (w9).heap.size (fun _ => false)) := ⟨by rw [RSet, ← zero50]; exact blk_new _ _⟩
              refine value_ (v := .pointer (some ⟨(w9).heap.size, 0, none⟩)) (w1 := (w9).alloc (.cells Try.zeroCells50 50)) (by rfl) rfl (by go_simp; done) ?_
              refine hK.out _ _ (KEEP.out _ hq5.out) (fun hHeld => ?_)
              clear hK K
              refine norm_ (a' := ?_) ?_ ?_
              rotate_left
              · show Act.put _ (some 10) _ = _
                simp only [Act.put, List.setIfInBounds_toArray, List.set_cons_zero, List.set_cons_succ, i64_w, i32_w]
                rfl
              exact norm_ (by simp only [putAll, Act.put, List.setIfInBounds_toArray, List.set_cons_zero, List.set_cons_succ]) (hCont w9.heap.size _ ⟨hHeld, hz5.out, hq4.out.size, hq5.out⟩)
            · have hq5 : Aside0 (Below w8.heap.size w8 ((w8.drew).alloc (.cells Try.zeroCells50 50))) := ⟨hq0.out.alloc hq0.out.size _⟩
              have hz5 : Aside0 (RSet ((w8.drew).alloc (.cells Try.zeroCells50 50)) (w8.drew).heap.size (fun _ => false)) := ⟨by rw [RSet, ← zero50]; exact blk_new _ _⟩
              refine value_ (v := .pointer (some ⟨(w8.drew).heap.size, 0, none⟩)) (w1 := (w8.drew).alloc (.cells Try.zeroCells50 50)) (by rfl) rfl (by go_simp; done) ?_
              refine hK.out _ _ (KEEP.out _ hq5.out) (fun hHeld => ?_)
              clear hK K
              refine norm_ (a' := ?_) ?_ ?_
              rotate_left
              · show Act.put _ (some 10) _ = _
                simp only [Act.put, List.setIfInBounds_toArray, List.set_cons_zero, List.set_cons_succ, i64_w, i32_w]
                rfl
              refine one_ (i := 10) (N := (some 70)) #[true, true, true, true, true, true, true, true, true, true, true, true, false] rfl rfl (by kernel_rfl) (by decide) (fun K hK => ?_)
              refine goes_ Try.func31 (by kernel_rfl) rfl #[.agg #[.slice A7 legs.length c7, .bool lossy], .int .i64 (sn : Int)] (by rfl) rfl rfl (by (try simp only [List.map_toArray, List.map_cons, List.map_nil]); first | done | rfl) ?_
              refine (HREF.out ((w8.drew).alloc (.cells Try.zeroCells50 50)) hq5.out).mono ?_
              rintro e w9 ⟨rfl, hb9⟩
              refine ⟨_, rfl, ?_⟩
              have hq4 := Aside0.mk (below_then hq5.out hq5.out.size hb9)
              have hb9' := Aside0.mk hb9
              clear hb9
              refine hK.out _ _ (KEEP.out _ hq4.out) (fun hHeld => ?_)
              clear hK K
              refine norm_ (a' := ?_) ?_ ?_
              rotate_left
              · show Act.put _ (some 70) _ = _
                simp only [Act.put, List.setIfInBounds_toArray, List.set_cons_zero, List.set_cons_succ, i64_w, i32_w]
                rfl
              exact norm_ (by simp only [putAll, Act.put, List.setIfInBounds_toArray, List.set_cons_zero, List.set_cons_succ]) (hCont (w8.drew).heap.size _ ⟨hHeld, hz5.out.below hb9'.out, hq0.out.size, hq4.out⟩)
          intro gs w9 hF
          obtain ⟨hHeld, hz, hgs, hb9⟩ := hF
          have HZ9 := Aside0.mk hz
          have HGS := Aside0.mk hgs
          have hq9 := Aside0.mk hb9
          clear hz hgs hb9
          refine norm_ (a' := ?_) ?_ ?_
          rotate_left
          · simp only [putAll, Act.put, List.setIfInBounds_toArray, List.set_cons_zero, List.set_cons_succ]
            rfl
          refine last_ (i := 12) (N := none) #[true, true, true, true, true, true, true, true, true, true, true, true, true] rfl rfl (by kernel_rfl) (by decide) (fun K hK => ?_)
          rw [if_pos (by rfl)]
          refine wp_store_row 50 _ _ rfl gs (rcells set) rfl rfl 50 _ HZ9.out (by rw [rcells_size]; exact info50s) (by rw [rcells_size, rcells_size]) (rcells_one _) ?_
          refine hK.out _ _ ?_
          clear hK K hHeld
          refine done_ (by kernel_rfl) ?_
          have HS9 : Aside0 (RSet (w9.setRow gs (rcells set)) gs set) := ⟨setRow_heap _ _ _ _ _ _ HZ9.out⟩
          have HB9 : Aside0 (Below w.heap.size w (w9.setRow gs (rcells set))) := ⟨below_setRow (below_then HX.out.below HX.out.below.size hq9.out) (by have := HGS.out; have := HX.out.below.size; omega) _⟩
          have HJ9 : Aside0 (Kd.C (Kd.int .i64) (w9.setRow gs (rcells set)) A5 (hoursOf set 101).length (hoursOf set 101)) := ⟨Kd.C_below HJ.out (below_setRow hq9.out HGS.out _)⟩
          clear x0 x1 y0 y1 y2 KEEP HREF hq0 hq9 HZ9 HX HJ
          generalize w9.setRow gs (rcells set) = wA at HS9 HB9 HJ9 ⊢
          go_wp2_with fail
          obtain ⟨gA, hgA⟩ : ∃ gA, gA = wA.heap.size := ⟨_, rfl⟩
          have HGA := Aside0.mk (show gs < gA from hgA ▸ blk_lt HS9.out)
          have HGW := Aside0.mk (show w.heap.size ≤ gA from hgA ▸ HB9.out.size)
          have hBr : Below gA wA wA := Below.refl _ _
          have HBR := Aside0.mk hBr
          have HGE := Aside0.mk hgA
          clear hBr hgA
          go_loopg [11, 12] 102 (fun gg s11 s12 wr => ∃ (k : Nat) (Av : Option Addr) (nv cv : Nat), k ≤ 101 ∧ 102 - k ≤ gg ∧ s12 = .int .i64 k ∧ s11 = .slice Av nv cv ∧ Aside0 (Kd.R (Kd.int .i64) 3 wr gA (fun _ => True) (.slice Av nv cv) (hoursOf set k)) ∧ Aside0 (Below gA wA wr))
          case atStart => exact ⟨0, none, 0, 0, by omega, by omega, rfl, rfl, ⟨Kd.R_nil _ _ _ _ _⟩, HBR⟩
          case round =>
            obtain ⟨k, Av, nv, cv, hk, hgk, rfl, rfl, HO, HBr⟩ := hrel
            clear HBR
            obtain ⟨wm, rfl⟩ : ∃ wm : World, wm = wr := ⟨_, rfl⟩
            have HLN := Aside0.mk (hoursOf_len set k)
            by_cases hlt : k < 101
            · have hltz : (k : Int) ≤ 100 := by omega
              have hlt2 : (k : Int) < 102 := by omega
              have HSm : Aside0 (RSet wm gs set) := ⟨(HBr.out.block gs HGA.out).trans HS9.out⟩
              have t0 := HSm.out.cell (j := k) (by omega)
              cases hck : set (k : Int) with
              | true =>
                rw [hck] at t0
                have HNX := Aside0.mk (hoursOf_yes hck)
                clear hck
                generalize hoursOf set k = ys at HO HLN HNX
                have hln := HLN.out
                go_wp2_with (at_builtin; refine Kd.R_append (Kd.int .i64) (w0 := wA) gA rfl (.tmp 78) (.tmp 80) 22 3 (.int .i64 0) 8 rfl Try.underlying22 info3 rfl (by decide) (by omega) (.slice Av nv cv) ys (k : Int) [.int .i64 (k : Int)] (fun _ => True) (fun _ => False) rfl rfl rfl (fun _ hk => hk.elim) (fun _ _ => trivial) HO.out HBr.out (by have := HBr.out.size; have := HGE.out; omega) (by omega) ?_; intro v9 w9 hr9 hb9 hg9 hat9; obtain ⟨A10, c10, rfl⟩ := Kd.R_slice hr9; have HR9 := Aside0.mk hr9; have HB9 := Aside0.mk hb9; clear hr9 hb9 hg9 hat9)
                go_roundg (102 - (k + 1))
                case measure => omega
                case rel => exact ⟨k + 1, A10, _, c10, by omega, by omega, by go_num, rfl, ⟨by rw [HNX.out]; have h := HR9.out; rw [List.length_append, List.length_singleton] at h; exact h⟩, HB9⟩
              | false =>
                rw [hck] at t0
                have HNX := Aside0.mk (hoursOf_no hck)
                clear hck
                go_wp2_with fail
                go_roundg (102 - (k + 1))
                case measure => omega
                case rel => exact ⟨k + 1, Av, nv, cv, by omega, by omega, by go_num, rfl, ⟨by rw [HNX.out]; exact HO.out⟩, HBr⟩
            · have hltz : ¬ (k : Int) ≤ 100 := by omega
              have hkk : k = 101 := by omega
              subst hkk
              obtain ⟨A10, c10, e10, hl10, hC10⟩ := Kd.R_reads HO.out
              injection e10 with e1 e2 e3
              subst e1
              subst e2
              subst e3
              have HC10 := Aside0.mk hC10
              have HL10 := Aside0.mk hl10
              have HBw : Aside0 (Below wA.heap.size wA wm) := ⟨HGE.out ▸ HBr.out⟩
              have HJm := Aside0.mk (Kd.C_below HJ9.out HBw.out)
              have HBm := Aside0.mk (below_then HB9.out HB9.out.size HBw.out)
              clear hl10 hC10
              generalize hoursOf set 101 = ys at HJm HJL HC10 HL10 HLN ⊢
              go_wp2_with fail
              refine (ints32 A5 c5 ys Av cv ys wm HJm.out HJL.out HC10.out HL10.out (by have := HLN.out; omega)).mono ?_
              rintro e w9 ⟨rfl, hb⟩
              rw [decide_eq_true (show ys = ys from rfl)]
              have HB9' := Aside0.mk (below_then HBm.out HBm.out.size hb)
              clear hb
              go_wp2_with fail
              refine (awake20 w9).mono ?_
              rintro e wB ⟨rfl, hb⟩
              have HBB := Aside0.mk (below_then HB9'.out HB9'.out.size hb)
              clear hb
              go_wp2_with fail
              go_ret
              exact ⟨rfl, HBB.out⟩
    · have hcb : (check sends rs pat == (0 : Int)) = false := by simpa using hck
      have hcn : (check sends rs pat != (0 : Int)) = true := by simpa using hck
      have hse : (check sends rs pat == check sends rs pat) = true := by simp
      have HRES : hoursRes sends rs pat number route = ([], check sends rs pat) := by rw [hoursRes, if_pos hck]
      clear hck
      generalize check sends rs pat = ck at hcb hcn hse HRES
      go_wp2_with fail
      refine (awake20 w6).mono ?_
      rintro e w7 ⟨rfl, hb⟩
      replace HX := Aside0.mk (HX.out.later hb)
      clear hb
      go_wp2_with fail
      go_ret
      exact ⟨rfl, HX.out.below⟩
end Go.Proofs.Ytiephlhohgohcaa.PAll
