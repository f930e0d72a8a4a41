/- Part 11 of what the row rests on: each text as it stands among the working texts, cut to what is used; those of the print of the kit as a program printed them. -/
import Derived.Test.YtiephlhohgohcaaEnds5
import Derived.RangeFuncNested
import Derived.RangeFuncBound
import Derived.RangeFuncCalls
import Derived.RangeFuncLeaves
import Derived.RangeFuncBox
import Derived.Shelf.Abstract
import Derived.Shelf.RegionOpen
import Derived.WalkKit
import Derived.OwnWalkIn
import Derived.TacticsInMore
import Derived.LoopNIn
import Derived.LoopIn
import Derived.Maps.AppendAt
set_option linter.unusedVariables false
set_option linter.unusedSimpArgs false
namespace Go.Proofs.Ytiephlhohgohcaa.PAll
open Go.RowKit Go.Shelf Go.Proofs.YtiephlhohgohcaaW.PrintWords Go.Proofs.YtiephlhohgohcaaW.PrintLast Go.Proofs.YtiephlhohgohcaaW.PrintMore
set_option linter.unusedVariables false
set_option linter.unusedSimpArgs false
attribute [local go_sem] Oper.semAt_some
/-- The hours below k of a set. -/
def hoursOf (f : Int → Bool) (k : Nat) : List Int := ((List.range k).filter (fun j : Nat => f (j : Int))).map (fun j : Nat => (j : Int))
theorem hoursOf_yes {f : Int → Bool} {k : Nat} (h : f (k : Int) = true) : hoursOf f (k + 1) = hoursOf f k ++ [(k : Int)] := by
  simp [hoursOf, List.range_succ, h]
theorem hoursOf_no {f : Int → Bool} {k : Nat} (h : f (k : Int) = false) : hoursOf f (k + 1) = hoursOf f k := by
  simp [hoursOf, List.range_succ, h]
theorem hoursOf_len (f : Int → Bool) (k : Nat) : (hoursOf f k).length ≤ k := by
  unfold hoursOf; rw [List.length_map]; exact Nat.le_trans (List.length_filter_le _ _) (by simp)
theorem mem_hoursOf {f : Int → Bool} {k : Nat} {x : Int} : x ∈ hoursOf f k ↔ 0 ≤ x ∧ x < k ∧ f x = true := by
  simp only [hoursOf, List.mem_map, List.mem_filter, List.mem_range]
  constructor
  · rintro ⟨j, ⟨h1, h2⟩, rfl⟩; exact ⟨by omega, by omega, h2⟩
  · rintro ⟨h1, h2, h3⟩; exact ⟨x.toNat, ⟨by omega, by rw [Int.toNat_of_nonneg h1]; exact h3⟩, Int.toNat_of_nonneg h1⟩
/-- A block that is the set f. -/
def SetAt (W : World) (b : Nat) (f : Int → Bool) : Prop := ∃ cs : Array Value, W.heap[b]? = some (.cells cs 181 (0, 0)) ∧ cs.size = 101 ∧ ∀ j : Nat, j < 101 → cs[j]? = some (.bool (f (j : Int)))
theorem SetAt.cell {W : World} {b : Nat} {f : Int → Bool} (h : SetAt W b f) {j : Nat} (hj : j < 101) : W.cell? ⟨b, j, none⟩ = some (.bool (f (j : Int))) := by
  obtain ⟨cs, h1, _, h3⟩ := h
  exact (blk_cell h1 j).trans (h3 j hj)
theorem SetAt.lt {W : World} {b : Nat} {f : Int → Bool} (h : SetAt W b f) : b < W.heap.size := by obtain ⟨cs, h1, _⟩ := h; exact blk_lt h1
theorem SetAt.frozen {W : World} {b : Nat} {f : Int → Bool} (h : SetAt W b f) (j : Nat) : W.frozen? ⟨b, j, none⟩ = false := by obtain ⟨cs, h1, _⟩ := h; exact blk_frozen h1 j
theorem SetAt.eq {W W' : World} {b : Nat} {f : Int → Bool} (h : SetAt W b f) (e : W'.heap[b]? = W.heap[b]?) : SetAt W' b f := by
  obtain ⟨cs, h1, h2⟩ := h; exact ⟨cs, e.trans h1, h2⟩
theorem SetAt.below {W W' : World} {b : Nat} {f : Int → Bool} (h : SetAt W b f) (hb : Below W.heap.size W W') : SetAt W' b f := h.eq (hb.block b h.lt)
theorem SetAt.far {W : World} {b : Nat} {f : Int → Bool} (h : SetAt W b f) {p : Addr} (hp : b ≠ p.block) (u : Value) : SetAt (W.setCell p u) b f := h.eq (Below.heap_setCell W p u b hp)
theorem SetAt.set {W : World} {b : Nat} {f : Int → Bool} (h : SetAt W b f) (j : Nat) : SetAt (W.setCell ⟨b, j, none⟩ (.bool true)) b (fun x => f x || x == (j : Int)) := by
  obtain ⟨cs, h1, h2, h3⟩ := h
  refine ⟨_, blk_set h1 j _, by simp [h2], fun i hi => ?_⟩
  rw [Array.getElem?_setIfInBounds]
  by_cases e : j = i
  · subst e; simp [h2, hi]
  · rw [if_neg e, h3 i hi]
    have : ((i : Int) == (j : Int)) = false := by simp; omega
    show _ = some (Value.bool (f (i : Int) || ((i : Int) == (j : Int))))
    rw [this, Bool.or_false]
theorem SetAt.new (W : World) : SetAt (W.alloc (.cells (Array.replicate 101 (.bool false)) 181)) W.heap.size (fun _ => false) := by
  refine ⟨_, blk_new _ _, by simp, fun j hj => ?_⟩
  simp [hj]
/-- What a round must keep: the box, and the set. -/
def KeepTwo (B b : Nat) (W W' : World) : Prop := W'.heap[B]? = W.heap[B]? ∧ W'.heap[b]? = W.heap[b]?
theorem keepTwo_t {B b : Nat} {X Y Z : World} (h : KeepTwo B b X Y) (k : KeepTwo B b Y Z) : KeepTwo B b X Z := ⟨k.1.trans h.1, k.2.trans h.2⟩
theorem keepTwo_b {B b n : Nat} (hB : B < n) (hb : b < n) (W : World) (l : Nat) (o o' : Obj) (hl : n ≤ l) (h : W.heap[l]? = some o) (_ : o.isCells = false) (_ : o.isWalk = false) : KeepTwo B b W (W.putObj l o') := by
  have hg := grownBy_putObj' W l o'
  have hlt := blk_lt h
  exact ⟨hg.block B (by omega) (fun e => by cases e; omega), hg.block b (by omega) (fun e => by cases e; omega)⟩
theorem KeepTwo.below {B b : Nat} {n : Nat} {W W' : World} (hB : B < n) (hb : b < n) (h : Below n W W') : KeepTwo B b W W' := ⟨h.block B hB, h.block b hb⟩
/-- An hour of a set. -/
abbrev Hour (f : Int → Bool) := { x : Int // f x = true ∧ 0 ≤ x ∧ x ≤ 100 }
set_option maxRecDepth 100000 in
set_option maxHeartbeats 2000000 in
theorem each1_in (F : Fence) (n : Nat) (h150 : F.fn 150) (hro : F.round = none) (hn : 1 ≤ n) (l Bs b : Nat) (f : Int → Bool) (J Jx : List (Hour f) → World → Prop)
    (hY : ∀ pre x W, J pre W → pre.length < 101 → YieldAt F (n - 1) Try.prog l #[.int .i64 x.1] W fun e W' =>
      (e = .returned (.bool true) ∧ J (pre ++ [x]) W' ∧ KeepTwo Bs b W W') ∨ (e = .returned (.bool false) ∧ Jx (pre ++ [x]) W'))
    (W : World) (hBs : W.cell? ⟨Bs, 0, none⟩ = some (.pointer (some ⟨b, 0, none⟩))) (hS : SetAt W b f) (h0 : J [] W) :
    CallsIn F n Try.prog 150 #[.func (.yield l) #[] #[], .pointer (some ⟨Bs, 0, none⟩)] W fun e W' => (∃ v, e = .returned v) ∧
      ((∃ ys : List (Hour f), ys.map (fun x => x.1) = hoursOf f 101 ∧ J ys W') ∨ (∃ pre : List (Hour f), True ∧ Jx pre W')) := by
  refine callsIn_of_wp Try.func150 rfl h150 ?_ hro
  simp only [Try.ntmps150, List.size_toArray, List.length_cons, List.length_nil, Nat.reduceAdd, Nat.reduceSub, Array.replicate_succ, Array.replicate_zero, List.push_toArray, List.append_toArray, List.nil_append, List.cons_append]
  gi_wp2
  gi_loopw [4] (fun i wr => ∃ (k : Nat) (ys : List (Hour f)), k ≤ 101 ∧ i = .int .i64 k ∧ ys.map (fun x => x.1) = hoursOf f k ∧ J ys wr ∧ KeepTwo Bs b W wr)
    (fun i _ => 101 - (intOf i).toNat)
  case atStart => exact ⟨0, [], Nat.zero_le _, rfl, rfl, h0, rfl, rfl⟩
  case round =>
    obtain ⟨k, ys, hk, rfl, hys, hJs, hkp⟩ := hrel
    have hcB : wr.cell? ⟨Bs, 0, none⟩ = some (.pointer (some ⟨b, 0, none⟩)) := by rw [← hBs]; unfold World.cell?; rw [hkp.1]
    have hSw := hS.eq hkp.2
    by_cases hlt : k < 101
    · have hcx := hSw.cell hlt
      cases hf : f (k : Int) with
      | true =>
        rw [hf] at hcx
        have hyl : ys.length < 101 := by have := congrArg List.length hys; rw [List.length_map] at this; have := hoursOf_len f k; omega
        obtain ⟨fn, tmps, assign, body, hy, hR⟩ := hY ys ⟨k, hf, by omega, by omega⟩ wr hJs hyl
        dsimp only at hy
        gi_wp2
        refine hR.mono ?_
        rintro e W3 (⟨rfl, hJ3, hk3⟩ | ⟨rfl, hJx3⟩)
        · gi_wp2
          go_roundw
          case rel => exact ⟨k + 1, ys ++ [⟨k, hf, by omega, by omega⟩], by omega, by go_num, by rw [List.map_append, hys, hoursOf_yes hf]; rfl, hJ3, keepTwo_t hkp hk3⟩
          case measure => simp [intOf]; omega
        · gi_wp2
          refine bodyPost_ret (results_none rfl _ _ _) rfl ?_
          exact ⟨⟨_, rfl⟩, .inr ⟨_, trivial, hJx3⟩⟩
      | false =>
        rw [hf] at hcx
        gi_wp2
        refine ⟨fun _ h => (by cases h), ?_⟩
        gi_wp2
        go_roundw
        case rel => exact ⟨k + 1, ys, by omega, by go_num, by rw [hys, hoursOf_no hf], hJs, hkp⟩
        case measure => simp [intOf]; omega
    · obtain rfl : k = 101 := by omega
      gi_wp2
      go_end0
      exact ⟨⟨_, rfl⟩, .inl ⟨_, hys, hJs⟩⟩
end Go.Proofs.Ytiephlhohgohcaa.PAll
namespace Go.Proofs.Ytiephlhohgohcaa.PAll
open Go.RowKit Go.Shelf Go.Proofs.YtiephlhohgohcaaW.PrintWords Go.Proofs.YtiephlhohgohcaaW.PrintLast Go.Proofs.YtiephlhohgohcaaW.PrintMore
set_option linter.unusedVariables false
set_option linter.unusedSimpArgs false
attribute [local go_sem] Oper.semAt_some
set_option maxHeartbeats 1000000 in
theorem each_in (F : Fence) (n : Nat) (h125 : F.fn 125) (hro : F.round = none) (p : Option Addr) (w : World) :
    CallsIn F n Try.prog 125 #[.pointer p] w fun e w' => e = .returned (.func (.func 150) #[] #[.pointer (some ⟨w.heap.size, 0, none⟩)]) ∧ w' = w.alloc (.cells #[.pointer p] 135) := by
  refine callsIn_of_wp Try.func125 rfl h125 ?_ hro
  simp only [Try.ntmps125, List.size_toArray, List.length_cons, List.length_nil, Nat.reduceAdd, Nat.reduceSub, Array.replicate_succ, Array.replicate_zero, List.push_toArray, List.append_toArray, List.nil_append, List.cons_append]
  gi_wp2
  go_ret
  exact ⟨rfl, rfl⟩
theorem each_stops (F : Fence) (n : Nat) (h150 : F.fn 150) (hro : F.round = none) (hn : 1 ≤ n) (Bs b : Nat) (f : Int → Bool) (w : World) (hBs : Bs < w.heap.size)
    (hc : w.cell? ⟨Bs, 0, none⟩ = some (.pointer (some ⟨b, 0, none⟩))) (hS : SetAt w b f) :
    SeqStopsK F n Try.prog 150 #[.pointer (some ⟨Bs, 0, none⟩)] (fun x : Hour f => #[Value.int .i64 x.1]) (KeepTwo Bs b) (fun ys => ys.map (fun x => x.1) = hoursOf f 101) (fun _ => True) 101 w := fun l J Jx W hW _ _ hY h0 =>
  each1_in F n h150 hro hn l Bs b f J Jx hY W ((hW.cell (p := ⟨Bs, 0, none⟩) hBs).trans hc) (hS.below hW) h0
set_option maxRecDepth 100000 in
set_option maxHeartbeats 2000000 in
theorem appendSeq_in (F : Fence) (n : Nat) (h153 : F.fn 153) (h150 : F.fn 150) (hro : F.round = none) (hn : 3 ≤ n) (Bs b : Nat) (f : Int → Bool) (w : World) (hBs : Bs < w.heap.size)
    (hc : w.cell? ⟨Bs, 0, none⟩ = some (.pointer (some ⟨b, 0, none⟩))) (hS : SetAt w b f) :
    CallsIn F n Try.prog 153 #[.slice none 0 0, .func (.func 150) #[] #[.pointer (some ⟨Bs, 0, none⟩)]] w fun e W' =>
      ∃ v, e = .returned v ∧ W'.ownsRow w.heap.size 3 1 v (hoursOf f 101).length ((hoursOf f 101).map (Value.int .i64)) ∧ Below w.heap.size w W' := by
  have h1 : 1 ≤ n := by omega
  obtain ⟨i0, hi, hz0, hz1, hz2⟩ := info_parts info3
  have hbl := hS.lt
  refine callsIn_of_wp_marks Try.func153 rfl h153 ?_ hro
  simp only [Try.ntmps153, List.size_toArray, List.length_cons, List.length_nil, Nat.reduceAdd, Nat.reduceSub, Array.replicate_succ, Array.replicate_zero, List.push_toArray, List.append_toArray, List.nil_append, List.cons_append]
  gi_wp2
  have bO := Boxed.new w 22 (.slice none 0 0)
  have hB0 : Below w.heap.size w (w.alloc (.cells #[.slice none 0 0] 22)) := (Below.refl _ w).alloc (Nat.le_refl _) _
  refine wpIn_rangeFunc_ownG hro h1 (gf := 150) (lb := #[.pointer (some ⟨Bs, 0, none⟩)]) rfl h150 (enters_of Try.func150 (by kernel_rfl) rfl)
    (each_stops F (n - 1) h150 hro (by omega) Bs b f _ (by simp; omega) ((hB0.cell (p := ⟨Bs, 0, none⟩) hBs).trans hc) (hS.below hB0)) keepTwo_t (keepTwo_b (by simp; omega) (by simp; omega)) (Below.refl _ _) (fun _ => rfl)
    (fun pre W => (∃ v, Boxed W w.heap.size 22 v ∧ W.ownsRow w.heap.size 3 1 v pre.length (pre.map (fun x => Value.int .i64 x.1)) ∧ True) ∧ Below w.heap.size w W)
    (fun _ _ _ => False)
    (OwnFrom.and (Own.from (holdsRow_own w.heap.size w.heap.size 22 3 1 (fun pre : List (Hour f) => pre.length) (fun pre => pre.map (fun x => Value.int .i64 x.1)) (fun _ _ => True)) _) (ownFrom_below (Nat.le_refl _) (by simp)))
    (fun _ _ _ _ _ hs _ _ => hs)
    ⟨⟨_, bO, World.ownsRow_nil _ _ _ _, trivial⟩, hB0⟩
    (fun x => { tmps := #[.slice none 0 0, .func (.func 150) #[] #[.pointer (some ⟨Bs, 0, none⟩)], .pointer (some ⟨w.heap.size, 0, none⟩), undef, .slice none 0 0, .int .i64 x.1, .func (.func 150) #[] #[.pointer (some ⟨Bs, 0, none⟩)], .int .i64 x.1, undef, undef, undef, undef, undef], defers := [] }) ?assign ?body ?done ?stop
  case assign =>
    intro l x W K hK
    gi_wp2
    exact hK
  case body =>
    rintro l pre x W ⟨⟨v, hv, hrow, -⟩, hB⟩ hlt
    have hc := hv.cell
    gi_wp2_with (gi_at_builtin; refine wpListIn_append_own _ rfl _ _ 22 rfl w.heap.size 3 i0 (.int .i64 0) 1 8 Try.underlying22 hi hz0 hz1 hz2 rfl (by decide) _ _ _ rfl (hrow.alloc _) ⟨W.heap.size, 0, none⟩ 1 1 [.int .i64 x.1] rfl rfl (cell_one_new _ _ _) (by simp [Value.oneCell']) (by unfold maxLen; omega) (by omega) (by have := hB.size; simp; omega) ?_; intro v' w1 hown' hgrow _; obtain ⟨g', cap', rfl⟩ := ownsRow_succ hown'; obtain ⟨hv1, hv2, hr2, hk2, hb2⟩ := hv.appended (by decide) hrow hB.size (Nat.le_refl _) hown' hgrow; have hc1 := hv1.cell; have hf1 := hv1.frozen)
    exact ⟨hk2.from _, KeepTwo.below hBs hbl hb2, ⟨_, hv2, by simpa using hr2, trivial⟩, hB.trans hb2⟩
  case done =>
    rintro D ys W hD hys ⟨⟨v, hv, hrow, -⟩, hB⟩ hK
    have hc := hv.cell
    have hrow' : W.ownsRow w.heap.size 3 1 v (hoursOf f 101).length ((hoursOf f 101).map (Value.int .i64)) := by rw [← hys, List.length_map, List.map_map]; exact hrow
    clear hrow
    have HRow := Aside0.mk hrow'
    clear hrow' hys
    gi_wp2
    refine ⟨by simp, .inl ⟨_, _, rfl, run_takeDeferred hK, ?_⟩⟩
    exact ⟨_, results_tmp rfl _ _ _, v, rfl, ownsRow_putObj HRow.out _ hK rfl, hB.trans (belowK_b (w := w) (Nat.le_refl _) W D _ _ (by simp at hD; omega) hK rfl rfl)⟩
  case stop =>
    rintro D c pre W _ _ h _
    exact h.elim
theorem each125 (p : Option Addr) (w : World) :
    Calls Try.prog 125 #[.pointer p] w fun e w' => e = .returned (.func (.func 150) #[] #[.pointer (some ⟨w.heap.size, 0, none⟩)]) ∧ w' = w.alloc (.cells #[.pointer p] 135) :=
  (callsIn_wide (n := 3)).1 (each_in Fence.wide 3 trivial rfl p w)
theorem appendSeq153 (Bs b : Nat) (f : Int → Bool) (w : World) (hBs : Bs < w.heap.size)
    (hc : w.cell? ⟨Bs, 0, none⟩ = some (.pointer (some ⟨b, 0, none⟩))) (hS : SetAt w b f) :
    Calls Try.prog 153 #[.slice none 0 0, .func (.func 150) #[] #[.pointer (some ⟨Bs, 0, none⟩)]] w fun e W' =>
      ∃ v, e = .returned v ∧ Kd.R (Kd.int .i64) 3 W' w.heap.size (fun _ => True) v (hoursOf f 101) ∧ Below w.heap.size w W' := by
  refine ((callsIn_wide (n := 3)).1 (appendSeq_in Fence.wide 3 trivial trivial rfl (by omega) Bs b f w hBs hc hS)).mono ?_
  rintro e W' ⟨v, rfl, hr, hb⟩
  exact ⟨v, rfl, Kd.R_of_own hr (fun _ _ => trivial), hb⟩
set_option maxRecDepth 100000 in
set_option maxHeartbeats 2000000 in
theorem collect127 (Bs b : Nat) (f : Int → Bool) (w : World) (hBs : Bs < w.heap.size)
    (hc : w.cell? ⟨Bs, 0, none⟩ = some (.pointer (some ⟨b, 0, none⟩))) (hS : SetAt w b f) :
    Calls Try.prog 127 #[.func (.func 150) #[] #[.pointer (some ⟨Bs, 0, none⟩)]] w fun e W' =>
      ∃ v, e = .returned v ∧ Kd.R (Kd.int .i64) 3 W' w.heap.size (fun _ => True) v (hoursOf f 101) ∧ Below w.heap.size w W' := by
  have H := Aside0.mk (appendSeq153 Bs b f w hBs hc hS)
  clear hc hS
  go_enter Try.func127, Try.ntmps127
  go_wp2_with fail
  refine H.out.mono ?_
  rintro e w1 ⟨v, rfl, hr, hb⟩
  have HR := Aside0.mk hr
  have HB := Aside0.mk hb
  clear hr hb
  go_wp2_with fail
  go_ret
  exact ⟨v, rfl, HR.out, HB.out⟩
set_option maxRecDepth 100000 in
set_option maxHeartbeats 2000000 in
theorem list79 (b : Nat) (f : Int → Bool) (w : World) (hS : SetAt w b f) :
    Calls Try.prog 79 #[.pointer (some ⟨b, 0, none⟩)] w fun e W' =>
      ∃ v, e = .returned v ∧ Kd.R (Kd.int .i64) 3 W' w.heap.size (fun _ => True) v (hoursOf f 101) ∧ Below w.heap.size w W' := by
  have H := Aside0.mk hS
  clear hS
  go_enter Try.func79, Try.ntmps79
  go_wp2_with fail
  refine (each125 _ _).mono ?_
  rintro e w1 ⟨rfl, rfl⟩
  have hb1 : Below w.heap.size w (w.alloc (.cells #[.pointer (some ⟨b, 0, none⟩)] 135)) := (Below.refl _ w).alloc (Nat.le_refl _) _
  have h1 : (w.alloc (.cells #[.pointer (some ⟨b, 0, none⟩)] 135)).cell? ⟨w.heap.size, 0, none⟩ = some (.pointer (some ⟨b, 0, none⟩)) := (blk_cell (blk_new _ _) 0).trans rfl
  have HC := Aside0.mk (collect127 w.heap.size b f _ (by simp) h1 (H.out.below hb1))
  have HB1 := Aside0.mk hb1
  clear h1 hb1
  go_wp2_with fail
  refine HC.out.mono ?_
  rintro e w2 ⟨v, rfl, hr, hb⟩
  have HR := Aside0.mk (Kd.R_lower hr HB1.out.size)
  have HB := Aside0.mk (below_then HB1.out HB1.out.size hb)
  clear hr hb
  go_wp2_with fail
  go_ret
  exact ⟨v, rfl, HR.out, HB.out⟩
set_option maxRecDepth 100000 in
set_option maxHeartbeats 2000000 in
theorem last128_at (b : Nat) (f : Int → Bool) (w : World) (hS : SetAt w b f) (L : Nat) (z : Int) (hlen : (hoursOf f 101).length = L + 1) (hz : rd (hoursOf f 101) (L : Int) = z) :
    Calls Try.prog 128 #[.pointer (some ⟨b, 0, none⟩)] w fun e W' => e = .returned (.int .i64 z) ∧ Below w.heap.size w W' := by
  have H := Aside0.mk hS
  have HLen := Aside0.mk hlen
  have HZ := Aside0.mk hz
  clear hS hlen hz
  go_enter Try.func128, Try.ntmps128
  go_wp2_with fail
  refine (list79 b f w H.out).mono ?_
  rintro e w2 ⟨v, rfl, hr, hb⟩
  obtain ⟨A, c, rfl, hlc, hq⟩ := Kd.R_reads hr
  have HB := Aside0.mk hb
  have hl1 : (hoursOf f 101).length ≤ 101 := hoursOf_len f 101
  obtain ⟨ad, e0, d0⟩ := Kd.at_int hq (L : Int) (by omega) (by rw [HLen.out]; omega)
  rw [HZ.out] at d0
  cases e0
  rw [Int.toNat_natCast] at d0
  rw [HLen.out] at hl1 hlc ⊢
  have hw : wrap64 (((L + 1 : Nat) : Int) - 1) = (L : Int) := by unfold wrap64; omega
  clear hr hb hq H
  have hx : (L : Int) < ((L + 1 : Nat) : Int) := by omega
  have hx0 : (0 : Int) ≤ (L : Int) := by omega
  go_wp2_with fail
  go_ret
  exact ⟨rfl, HB.out⟩
theorem last128 (b : Nat) (f : Int → Bool) (w : World) (hS : SetAt w b f) (hne : hoursOf f 101 ≠ []) :
    Calls Try.prog 128 #[.pointer (some ⟨b, 0, none⟩)] w fun e W' => e = .returned (.int .i64 ((hoursOf f 101).getLast hne)) ∧ Below w.heap.size w W' := by
  have hl0 : 0 < (hoursOf f 101).length := List.length_pos_iff.2 hne
  refine last128_at b f w hS ((hoursOf f 101).length - 1) _ (by omega) ?_
  unfold rd
  rw [Int.toNat_natCast, rd_in _ _ _ (by omega), List.getLast_eq_getElem]
end Go.Proofs.Ytiephlhohgohcaa.PAll
namespace Go.Proofs.Ytiephlhohgohcaa.PAll
open Go.RowKit Go.Proofs.YtiephlhohgohcaaW.PrintWords Go.Proofs.YtiephlhohgohcaaW.PrintLast Go.Proofs.YtiephlhohgohcaaW.PrintMore
set_option linter.unusedVariables false
def oneB (l : S119) (h : Int) (cnt : Nat) : Int → Bool := fun y => (List.range cnt).any fun n : Nat => awakeL l (h + l.f0.f0 + (n : Int)) == y
def manyB (l : S119) (hs : List Int) : Int → Bool := fun y => hs.any fun h => oneB l h (l.f0.f1 - l.f0.f0 + 1).toNat y
def stepSet (l : S119) (f : Int → Bool) : Int → Bool := manyB l (hoursOf f 101)
def startSet (sent : Int) : Int → Bool := fun x => x == sent
def setsFrom : List S119 → (Int → Bool) → (Int → Bool)
  | [], f => f
  | l :: ls, f => setsFrom ls (stepSet l f)
def setsOf (legs : List S119) (sent : Int) : Int → Bool := setsFrom legs (startSet sent)
theorem setsFrom_snoc : ∀ (ls : List S119) (l : S119) (f : Int → Bool), setsFrom (ls ++ [l]) f = stepSet l (setsFrom ls f)
  | [], _, _ => rfl
  | a :: ls, l, f => setsFrom_snoc ls l (stepSet a f)
theorem oneB_succ (l : S119) (h : Int) (cnt : Nat) (y : Int) : oneB l h (cnt + 1) y = (oneB l h cnt y || y == awakeL l (h + l.f0.f0 + (cnt : Int))) := by
  have hc : ∀ a b : Int, (a == b) = (b == a) := fun a b => BEq.comm
  simp only [oneB, List.range_succ, List.any_append, List.any_cons, List.any_nil, Bool.or_false]
  rw [hc (awakeL l (h + l.f0.f0 + (cnt : Int))) y]
theorem manyB_snoc (l : S119) (hs : List Int) (h : Int) (y : Int) : manyB l (hs ++ [h]) y = (manyB l hs y || oneB l h (l.f0.f1 - l.f0.f0 + 1).toNat y) := by
  simp [manyB]
def Upto (f : Int → Bool) (B : Int) : Prop := ∀ x, f x = true → 0 ≤ x ∧ x ≤ B
structure LegOk (l : S119) : Prop where
  wk : Wakes l
  lo : 0 ≤ l.f0.f0
  hi : l.f0.f0 ≤ l.f0.f1
  most : l.f0.f1 ≤ 6
theorem awake_upto {l : S119} (hl : LegOk l) {h B : Int} (h0 : 0 ≤ h) (hB : h ≤ B) (hB' : 30 ≤ B) {n : Nat} (hn : (n : Int) ≤ l.f0.f1 - l.f0.f0) : 0 ≤ awakeL l (h + l.f0.f0 + n) ∧ awakeL l (h + l.f0.f0 + n) ≤ B + 6 := by
  have h1 := hl.lo; have h2 := hl.hi; have h3 := hl.most
  obtain ⟨a1, a2, _⟩ := awakeL_spec hl.wk (h := h + l.f0.f0 + n) (by omega)
  omega
theorem step_upto {l : S119} (hl : LegOk l) {f : Int → Bool} {B : Int} (hf : Upto f B) (hB : 30 ≤ B) : Upto (stepSet l f) (B + 6) := by
  intro x hx
  simp only [stepSet, manyB, oneB, List.any_eq_true, List.mem_range, beq_iff_eq] at hx
  obtain ⟨h, hh, n, hn, rfl⟩ := hx
  have := hf h (mem_hoursOf.1 hh).2.2
  have h2 := hl.hi
  exact awake_upto hl this.1 this.2 hB (by omega)
theorem start_upto {s : Int} (h0 : 0 ≤ s) (h1 : s ≤ 30) : Upto (startSet s) 30 := by
  intro x hx; simp only [startSet, beq_iff_eq] at hx; omega
/-- A set that is not empty, within the hours, stays so. -/
theorem hoursOf_ne {f : Int → Bool} {B : Int} (hf : Upto f B) (hB : B ≤ 100) (hne : ∃ x, f x = true) : hoursOf f 101 ≠ [] := by
  obtain ⟨x, hx⟩ := hne
  have := hf x hx
  exact List.ne_nil_of_mem (mem_hoursOf.2 ⟨this.1, by omega, hx⟩)
theorem step_ne {l : S119} (hl : LegOk l) {f : Int → Bool} {B : Int} (hf : Upto f B) (hB : B ≤ 100) (hne : ∃ x, f x = true) : ∃ x, stepSet l f x = true := by
  obtain ⟨x, hx⟩ := hne
  have h1 := hf x hx
  have h2 := hl.hi
  refine ⟨awakeL l (x + l.f0.f0 + (0 : Nat)), ?_⟩
  simp only [stepSet, manyB, oneB, List.any_eq_true, List.mem_range, beq_iff_eq]
  exact ⟨x, mem_hoursOf.2 ⟨h1.1, by omega, hx⟩, 0, by omega, rfl⟩
theorem setsFrom_ok : ∀ (ls : List S119) (f : Int → Bool) (k : Nat), (∀ l ∈ ls, LegOk l) → Upto f (30 + 6 * k) → (∃ x, f x = true) → k + ls.length ≤ 10 → Upto (setsFrom ls f) (30 + 6 * ((k + ls.length : Nat) : Int)) ∧ ∃ x, setsFrom ls f x = true
  | [], f, k, _, hf, hne, _ => ⟨by simpa [setsFrom] using hf, hne⟩
  | l :: ls, f, k, hl, hf, hne, hk => by
    have hl0 := hl l (List.mem_cons_self ..)
    rw [List.length_cons] at hk
    have h1 := step_upto hl0 hf (by omega)
    have h2 := setsFrom_ok ls (stepSet l f) (k + 1) (fun x hx => hl x (List.mem_cons_of_mem _ hx)) (fun x hx => by have := h1 x hx; omega) (step_ne hl0 hf (by omega) hne) (by omega)
    refine ⟨fun x hx => ?_, h2.2⟩
    have := h2.1 x hx
    rw [List.length_cons]
    omega
theorem Valid.leg {sends : List Int} {routes : List S122} {pat : Int} (v : Valid sends routes pat) {r : S122} (hr : r ∈ routes) {l : S119} (hl : l ∈ r.f0) : LegOk l := by
  have := v.tk r hr l hl
  exact ⟨fun q hq => (v.sl r hr l hl q hq).2.2, this.1, this.2.1, this.2.2⟩
end Go.Proofs.Ytiephlhohgohcaa.PAll
