/- Part 22 of what the row rests on: each text as it stands among the working texts, cut to what is used; those of the print of the kit as a program printed them. -/
import Derived.Test.YtiephlhohgohcaaAwake11
import Derived.Test.YtiephlhohgohcaaAwake19
import Derived.Test.YtiephlhohgohcaaAwake20
set_option linter.unusedVariables false
set_option linter.unusedSimpArgs false
namespace Go.Proofs.Ytiephlhohgohcaa.PAll
open Go.RowKit Go.Proofs.YtiephlhohgohcaaW.PrintWords Go.Proofs.YtiephlhohgohcaaW.PrintLast Go.Proofs.YtiephlhohgohcaaW.PrintMore
set_option linter.unusedVariables false
set_option linter.unusedSimpArgs false
def nilR (x : R101) : R101 := ⟨x.lo, x.hi, ⟨none, 0, 0⟩⟩
def mixR (xs : List R101) (k : Nat) : List R101 := (xs.take k).map nilR ++ xs.drop k
theorem mixR_len (xs : List R101) (k : Nat) : (mixR xs k).length = xs.length := by
  simp [mixR]; omega
theorem mixR_get (xs : List R101) (k j : Nat) (hj : j < xs.length) : (mixR xs k)[j]? = some (if j < k then nilR xs[j] else xs[j]) := by
  unfold mixR
  by_cases h : j < k
  · rw [if_pos h, List.getElem?_append_left (by simp; omega), List.getElem?_map, List.getElem?_take, if_pos h, List.getElem?_eq_getElem hj]; rfl
  · rw [if_neg h, List.getElem?_append_right (by simp; omega), List.getElem?_drop, List.length_map, List.length_take, Nat.min_eq_left (by omega), show k + (j - k) = j by omega, List.getElem?_eq_getElem hj]
theorem mixR_none (xs : List R101) (k j : Nat) (hj : ¬ j < xs.length) : (mixR xs k)[j]? = none := List.getElem?_eq_none (by rw [mixR_len]; omega)
theorem mixR_at (xs : List R101) {k : Nat} (hk : k < xs.length) (h : k < (mixR xs k).length) : (mixR xs k)[k] = xs[k] := by
  have := mixR_get xs k k hk
  rw [if_neg (by omega), List.getElem?_eq_getElem h] at this
  exact Option.some.inj this
theorem mixR_succ (xs : List R101) {k : Nat} (hk : k < xs.length) : mixR xs (k + 1) = (mixR xs k).set k (nilR xs[k]) := by
  apply List.ext_getElem?
  intro j
  by_cases hj : j < xs.length
  · rw [mixR_get xs _ j hj]
    by_cases e : j = k
    · subst e
      rw [List.getElem?_set_self (by rw [mixR_len]; exact hj), if_pos (by omega)]
    · rw [List.getElem?_set_ne (fun h => e h.symm), mixR_get xs _ j hj]
      by_cases h2 : j < k
      · rw [if_pos h2, if_pos (by omega)]
      · rw [if_neg h2, if_neg (by omega)]
  · rw [mixR_none _ _ _ hj, List.getElem?_eq_none (by rw [List.length_set, mixR_len]; omega)]
theorem row_nil {xs : List R101} {cur : Array Value} {k : Nat} (h : RowIn o101 3 cur (mixR xs k)) (hk : k < xs.length) : RowIn o101 3 (cur.setIfInBounds (k * 3 + 2) (.slice none 0 0)) (mixR xs (k + 1)) := by
  rw [mixR_succ xs hk]
  refine h.set (.inr rfl) (fun _ => rfl) (by rw [mixR_len]; exact hk) (by omega) ?_
  rw [mixR_at xs hk]; rfl
theorem row_cells {xs : List R101} {cur : Array Value} {k : Nat} (h : RowIn o101 3 cur (mixR xs k)) (hk : k < xs.length) :
    cur[k * 3]? = some (.int .i64 xs[k].lo) ∧ cur[k * 3 + 1]? = some (.int .i64 xs[k].hi) ∧ cur[k * 3 + 2]? = some (.slice xs[k].s.a xs[k].s.n xs[k].s.c) := by
  have h1 := mixR_get xs k k hk
  rw [if_neg (by omega)] at h1
  exact ⟨h k _ h1 0 _ rfl, h k _ h1 1 _ rfl, h k _ h1 2 _ rfl⟩
theorem o54_len (x : R54) : (o54 x).length = kr54.sz := rfl
theorem o101_len (x : R101) : (o101 x).length = kr101.sz := rfl
theorem kr54_K (w : World) (x : R54) : kr54.K w x (o54 x) := ⟨[.slice x.s.a x.s.n x.s.c], [.bool x.b], rfl, rfl, rfl⟩
theorem kr101_K (w : World) (x : R101) : kr101.K w x (o101 x) := ⟨[.int .i64 x.lo, .int .i64 x.hi], [.slice x.s.a x.s.n x.s.c], rfl, ⟨[.int .i64 x.lo], [.int .i64 x.hi], rfl, rfl, rfl⟩, rfl⟩
/-- The post in which nobody is asleep on route number r, in memory. -/
theorem bare_post {w W : World} {A0 A1 : Option Addr} {c0 c1 cR cL : Nat} {sends : List Int} {routes : List S54} {r gR gL : Nat} {cur curL : Array Value} {raws : List R54} {xr : R54} {lraw : List R101}
    (hP : PostAt W A0 c0 sends A1 c1 routes) (hr : r < routes.length) (hb : Below w.heap.size w W) (hR : W.heap[gR]? = some (.cells cur 54 (0, 0))) (hL : W.heap[gL]? = some (.cells curL 101 (0, 0))) (hcR : routes.length ≤ cR) (hcL : routes[r].f0.length ≤ cL)
    (hrl : raws.length = routes.length) (hro : ∀ i (hi : i < routes.length), ∃ x, raws[i]? = some x ∧ Of54 w routes[i] x) (hxr : raws[r]? = some xr) (hrow : RowIn o54 2 cur (raws.set r ⟨⟨some ⟨gL, 0, none⟩, routes[r].f0.length, cL⟩, xr.b⟩))
    (hll : lraw.length = routes[r].f0.length) (hlo : ∀ i (hi : i < routes[r].f0.length), ∃ x, lraw[i]? = some x ∧ Of101 w routes[r].f0[i] x) (hrowL : RowIn o101 3 curL (mixR lraw routes[r].f0.length)) (hsm : routes.length ≤ 3) (hsl : routes[r].f0.length ≤ 3) :
    PostAt W A0 c0 sends (some ⟨gR, 0, none⟩) cR (routes.set r (bareW routes[r])) := by
  have hCL : Kd.C kr101 W (some ⟨gL, 0, none⟩) routes[r].f0.length (mixR lraw routes[r].f0.length) := by
    have h := C_row (d := kr101) (w := W) o101 (kr101_K W) o101_len hL hrowL (by rw [mixR_len]; omega)
    rw [mixR_len, hll] at h
    exact h
  have hCR := C_row (d := kr54) (w := W) o54 (kr54_K W) o54_len hR hrow (by rw [List.length_set]; omega)
  rw [List.length_set, hrl] at hCR
  have hCB : Kd.C k101 W (some ⟨gL, 0, none⟩) (bareW routes[r]).f0.length (bareW routes[r]).f0 := by
    have e : (bareW routes[r]).f0.length = routes[r].f0.length := List.length_map _
    rw [e]
    refine of101 hCL e (fun i hi => ?_)
    rw [e] at hi
    obtain ⟨x, x1, x2⟩ := hlo i hi
    have hxi : i < lraw.length := by omega
    have hx : lraw[i] = x := by rw [List.getElem?_eq_getElem hxi] at x1; exact Option.some.inj x1
    refine ⟨nilR x, by rw [mixR_get _ _ _ hxi, if_pos hi, hx], ?_⟩
    obtain ⟨a1, a2, a3, a4, a5⟩ := x2
    have eb : (bareW routes[r]).f0[i]'(by rw [e]; exact hi) = bareR routes[r].f0[i] := List.getElem_map _
    rw [eb]
    exact ⟨a1, a2, rfl, Nat.zero_le _, rfl, by simp [bareR], fun h => absurd h (by simp [bareR])⟩
  refine ⟨hP.h0, hP.l0, ?_, by rw [List.length_set]; exact hcR⟩
  rw [List.length_set]
  refine of54 hCR (List.length_set) (fun i hi => ?_)
  have hi2 : i < routes.length := by rw [List.length_set] at hi; exact hi
  by_cases e : i = r
  · subst e
    refine ⟨_, List.getElem?_set_self (by omega), ?_⟩
    rw [List.getElem_set_self]
    obtain ⟨x, x1, x2⟩ := hro i hi2
    rw [hxr] at x1
    obtain rfl := Option.some.inj x1
    have e : (bareW routes[i]).f0.length = routes[i].f0.length := List.length_map _
    exact ⟨e.symm, by rw [e]; exact hcL, hCB, x2.2.2.2⟩
  · obtain ⟨x, x1, x2⟩ := hro i hi2
    refine ⟨x, by rw [List.getElem?_set_ne (fun h => e h.symm)]; exact x1, ?_⟩
    rw [List.getElem_set_ne (fun h => e h.symm)]
    exact x2.below hb
end Go.Proofs.Ytiephlhohgohcaa.PAll
