/- Part 11 of what the row rests on: each text as it stands among the working texts, cut to what is used; those of the print of the kit as a program printed them. -/
import Derived.Test.YtiephlhohgohcaaAwake10
import Derived.Test.YtiephlhohgohcaaAwake7
set_option linter.unusedVariables false
set_option linter.unusedSimpArgs false
namespace Go.Proofs.Ytiephlhohgohcaa.PAll
open Go.RowKit Go.Proofs.YtiephlhohgohcaaW.PrintWords Go.Proofs.YtiephlhohgohcaaW.PrintLast Go.Proofs.YtiephlhohgohcaaW.PrintMore
set_option linter.unusedVariables false
set_option linter.unusedSimpArgs false
structure SlV where
  a : Option Addr
  n : Nat
  c : Nat
def kSl : Kd SlV := Kd.scalar (fun x => .slice x.a x.n x.c) (fun _ => rfl)
/-- A route, as it lies in memory. -/
structure R54 where
  s : SlV
  b : Bool
def kr54 : Kd R54 := Kd.iso (Kd.pair kSl Kd.bool) (fun x : R54 => (x.s, x.b))
theorem kr54_mkM (w : World) (base : Nat) (ok : Nat → Prop) (x : R54) : kr54.M w base ok x [.slice x.s.a x.s.n x.s.c, .bool x.b] := ⟨[.slice x.s.a x.s.n x.s.c], [.bool x.b], rfl, rfl, rfl⟩
theorem kr54_open {w : World} {x : R54} {cs : List Value} (h : kr54.K w x cs) : cs = [.slice x.s.a x.s.n x.s.c, .bool x.b] := by
  obtain ⟨c0, c1, rfl, rfl, rfl⟩ := h
  rfl
/-- A leg, as it lies in memory. -/
structure R101 where
  lo : Int
  hi : Int
  s : SlV
def kr101 : Kd R101 := Kd.iso (Kd.pair (Kd.pair (Kd.int .i64) (Kd.int .i64)) kSl) (fun x : R101 => ((x.lo, x.hi), x.s))
theorem kr101_mkM (w : World) (base : Nat) (ok : Nat → Prop) (x : R101) : kr101.M w base ok x [.int .i64 x.lo, .int .i64 x.hi, .slice x.s.a x.s.n x.s.c] := ⟨[.int .i64 x.lo, .int .i64 x.hi], [.slice x.s.a x.s.n x.s.c], rfl, ⟨[.int .i64 x.lo], [.int .i64 x.hi], rfl, rfl, rfl⟩, rfl⟩
theorem kr101_open {w : World} {x : R101} {cs : List Value} (h : kr101.K w x cs) : cs = [.int .i64 x.lo, .int .i64 x.hi, .slice x.s.a x.s.n x.s.c] := by
  obtain ⟨c0, c1, rfl, ⟨d0, d1, rfl, rfl, rfl⟩, rfl⟩ := h
  rfl
def Of54 (w : World) (r : S54) (x : R54) : Prop := x.s.n = r.f0.length ∧ r.f0.length ≤ x.s.c ∧ Kd.C k101 w x.s.a r.f0.length r.f0 ∧ x.b = r.f1
def Of101 (w : World) (r : S101) (x : R101) : Prop := x.lo = r.f0.f0 ∧ x.hi = r.f0.f1 ∧ x.s.n = r.f1.length ∧ r.f1.length ≤ x.s.c ∧ Kd.C k64 w x.s.a r.f1.length r.f1
theorem Of54.below {w w' : World} {r : S54} {x : R54} (h : Of54 w r x) (hb : Below w.heap.size w w') : Of54 w' r x := ⟨h.1, h.2.1, Kd.C_below h.2.2.1 hb, h.2.2.2⟩
theorem Of101.below {w w' : World} {r : S101} {x : R101} (h : Of101 w r x) (hb : Below w.heap.size w w') : Of101 w' r x := ⟨h.1, h.2.1, h.2.2.1, h.2.2.2.1, Kd.C_below h.2.2.2.2 hb⟩
theorem raw_of {α β : Type} {d : Kd α} {e : Kd β} {Of : World → α → β → Prop} {w : World} (hsz : e.sz = d.sz) (hK : ∀ r cs, d.K w r cs → ∃ x, Of w r x ∧ e.K w x cs) {A : Option Addr} {n : Nat} {rs : List α} (h : Kd.C d w A n rs) :
    ∃ xs : List β, xs.length = n ∧ Kd.C e w A n xs ∧ ∀ i (hi : i < rs.length), ∃ x, xs[i]? = some x ∧ Of w rs[i] x := by
  obtain ⟨h1, h2, h3⟩ := h
  rcases Nat.eq_zero_or_pos n with h0 | h0
  · subst h0
    obtain rfl := List.eq_nil_of_length_eq_zero h1
    exact ⟨[], rfl, ⟨rfl, h2, fun h => absurd h (by omega)⟩, fun i hi => by cases hi⟩
  · obtain ⟨ad, rfl, hc⟩ := h3 h0
    obtain ⟨xs, hl, hx⟩ := list_of (P := fun i x => ∃ (hi : i < rs.length), Of w rs[i] x ∧ ∃ cs, cs.length = d.sz ∧ e.K w x cs ∧ ∀ k u, cs[k]? = some u → w.cell? (ad.add (i * d.sz + k)) = some u) n (fun i hi => by
      have hi' : i < rs.length := by omega
      obtain ⟨cs, c1, c2, c3⟩ := hc i rs[i] (List.getElem?_eq_getElem hi')
      obtain ⟨x, x1, x2⟩ := hK _ _ c2
      exact ⟨x, hi', x1, cs, c1, x2, c3⟩)
    refine ⟨xs, hl, ⟨hl, h2, fun _ => ⟨ad, rfl, fun j p hj => ?_⟩⟩, fun i hi => ?_⟩
    · obtain ⟨hj', rfl⟩ := List.getElem?_eq_some_iff.1 hj
      obtain ⟨_, _, cs, c1, c2, c3⟩ := hx j hj'
      exact ⟨cs, by rw [hsz]; exact c1, c2, by rw [hsz]; exact c3⟩
    · have hi' : i < xs.length := by omega
      obtain ⟨_, h4, _⟩ := hx i hi'
      exact ⟨xs[i], List.getElem?_eq_getElem hi', h4⟩
theorem of_raw {α β : Type} {d : Kd α} {e : Kd β} {Of : World → α → β → Prop} {w : World} (hsz : e.sz = d.sz) (hK : ∀ r x cs, Of w r x → e.K w x cs → d.K w r cs) {A : Option Addr} {n : Nat} {rs : List α} {xs : List β} (h : Kd.C e w A n xs) (hl : rs.length = n)
    (hx : ∀ i (hi : i < rs.length), ∃ x, xs[i]? = some x ∧ Of w rs[i] x) : Kd.C d w A n rs := by
  obtain ⟨h1, h2, h3⟩ := h
  refine ⟨hl, h2, fun h0 => ?_⟩
  obtain ⟨ad, rfl, hc⟩ := h3 h0
  refine ⟨ad, rfl, fun j p hj => ?_⟩
  obtain ⟨hj', rfl⟩ := List.getElem?_eq_some_iff.1 hj
  obtain ⟨x, x1, x2⟩ := hx j hj'
  obtain ⟨cs, c1, c2, c3⟩ := hc j x x1
  exact ⟨cs, by rw [← hsz]; exact c1, hK _ _ _ x2 c2, by rw [← hsz]; exact c3⟩
theorem raw54 {w : World} {A : Option Addr} {n : Nat} {rs : List S54} (h : Kd.C k54 w A n rs) : ∃ xs : List R54, xs.length = n ∧ Kd.C kr54 w A n xs ∧ ∀ i (hi : i < rs.length), ∃ x, xs[i]? = some x ∧ Of54 w rs[i] x :=
  raw_of (Of := Of54) rfl (fun r cs hc => by
    obtain ⟨c0, c1, rfl, ⟨A, c, rfl, hl, hC⟩, rfl⟩ := hc
    exact ⟨⟨⟨A, r.f0.length, c⟩, r.f1⟩, ⟨rfl, hl, hC, rfl⟩, [.slice A r.f0.length c], [.bool r.f1], rfl, rfl, rfl⟩) h
theorem of54 {w : World} {A : Option Addr} {n : Nat} {rs : List S54} {xs : List R54} (h : Kd.C kr54 w A n xs) (hl : rs.length = n) (hx : ∀ i (hi : i < rs.length), ∃ x, xs[i]? = some x ∧ Of54 w rs[i] x) : Kd.C k54 w A n rs :=
  of_raw (Of := Of54) rfl (fun r x cs ho hc => by
    obtain ⟨o1, o2, o3, o4⟩ := ho
    rw [kr54_open hc, o1, o4]
    exact ⟨[.slice x.s.a r.f0.length x.s.c], [.bool r.f1], rfl, ⟨_, _, rfl, o2, o3⟩, rfl⟩) h hl hx
theorem raw101 {w : World} {A : Option Addr} {n : Nat} {rs : List S101} (h : Kd.C k101 w A n rs) : ∃ xs : List R101, xs.length = n ∧ Kd.C kr101 w A n xs ∧ ∀ i (hi : i < rs.length), ∃ x, xs[i]? = some x ∧ Of101 w rs[i] x :=
  raw_of (Of := Of101) rfl (fun r cs hc => by
    obtain ⟨c0, c1, rfl, ⟨d0, d1, rfl, rfl, rfl⟩, ⟨A, c, rfl, hl, hC⟩⟩ := hc
    exact ⟨⟨r.f0.f0, r.f0.f1, ⟨A, r.f1.length, c⟩⟩, ⟨rfl, rfl, rfl, hl, hC⟩, [.int .i64 r.f0.f0, .int .i64 r.f0.f1], [.slice A r.f1.length c], rfl, ⟨[.int .i64 r.f0.f0], [.int .i64 r.f0.f1], rfl, rfl, rfl⟩, rfl⟩) h
theorem of101 {w : World} {A : Option Addr} {n : Nat} {rs : List S101} {xs : List R101} (h : Kd.C kr101 w A n xs) (hl : rs.length = n) (hx : ∀ i (hi : i < rs.length), ∃ x, xs[i]? = some x ∧ Of101 w rs[i] x) : Kd.C k101 w A n rs :=
  of_raw (Of := Of101) rfl (fun r x cs ho hc => by
    obtain ⟨o1, o2, o3, o4, o5⟩ := ho
    rw [kr101_open hc, o1, o2, o3]
    exact ⟨[.int .i64 r.f0.f0, .int .i64 r.f0.f1], [.slice x.s.a r.f1.length x.s.c], rfl, ⟨[.int .i64 r.f0.f0], [.int .i64 r.f0.f1], rfl, rfl, rfl⟩, ⟨_, _, rfl, o4, o5⟩⟩) h hl hx
theorem u23row : Try.prog.underlying 23 = some (.slice 54) := by kernel_rfl
theorem u52row : Try.prog.underlying 52 = some (.slice 101) := by kernel_rfl
theorem inforow54 : (Try.prog.info? 54).map (fun i => (i.zero, i.size, i.bytes)) = some (some (.agg #[(.slice none 0 0), (.bool false)]), 2, 32) := by kernel_rfl
theorem inforow101 : (Try.prog.info? 101).map (fun i => (i.zero, i.size, i.bytes)) = some (some (.agg #[.int .i64 0, .int .i64 0, .slice none 0 0]), 3, 40) := by kernel_rfl
/-- A row of no elements in a block of its own. -/
theorem R_empty_at {α : Type} (d : Kd α) (e : Nat) {w : World} {g base : Nat} (h : w.heap[g]? = some (.cells #[] e (0, 0))) (hb : base ≤ g) : d.R e w base (fun _ => True) (.slice (some ⟨g, 0, none⟩) 0 0) [] :=
  ⟨fun _ _ => trivial, [], ⟨by simp, .inr ⟨g, 0, #[], rfl, hb, h, Nat.le_refl _, Nat.zero_le _, by simp, by simp⟩⟩, Reps.none _ _⟩
/-- A row stays where a cell of a block of another type is set. -/
theorem R_far {α : Type} {d : Kd α} {e base : Nat} {w : World} {ok : Nat → Prop} {v : Value} {xs : List α} (h : d.R e w base ok v xs) {a t : Nat} {ca : Array Value} (ha : w.heap[a]? = some (.cells ca t (0, 0))) (hE : ∀ q, q ∈ e :: d.E → q ≠ t) (j : Nat) (u : Value) : d.R e (w.setCell ⟨a, j, none⟩ u) base ok v xs :=
  Kd.R_mono (Kd.R_move (Kd.R_bound h) (fun k hk' => by
    obtain ⟨_, _, hlt, q, hq, cells, hc⟩ := hk'
    exact Below.heap_setCell w ⟨a, j, none⟩ u k (blk_ne hc ha (hE q hq)))) (fun _ hk' => hk'.1)
end Go.Proofs.Ytiephlhohgohcaa.PAll
namespace Go.Proofs.Ytiephlhohgohcaa.PAll
open Go.RowKit Go.Proofs.YtiephlhohgohcaaW.PrintWords Go.Proofs.YtiephlhohgohcaaW.PrintLast Go.Proofs.YtiephlhohgohcaaW.PrintMore
set_option linter.unusedVariables false
set_option linter.unusedSimpArgs false
def RowIn {β : Type} (o : β → List Value) (sz : Nat) (cur : Array Value) (xs : List β) : Prop := ∀ j x, xs[j]? = some x → ∀ i u, (o x)[i]? = some u → cur[j * sz + i]? = some u
def o54 (x : R54) : List Value := [.slice x.s.a x.s.n x.s.c, .bool x.b]
def o101 (x : R101) : List Value := [.int .i64 x.lo, .int .i64 x.hi, .slice x.s.a x.s.n x.s.c]
theorem row_block {β : Type} {d : Kd β} {e base : Nat} {w : World} {ok : Nat → Prop} {v : Value} {xs : List β} (o : β → List Value) (hM : ∀ w base ok x cs, d.M w base ok x cs → cs = o x) (h : d.R e w base ok v xs) (hne : 0 < xs.length) :
    ∃ g cap cur, v = .slice (some ⟨g, 0, none⟩) xs.length cap ∧ base ≤ g ∧ xs.length ≤ cap ∧ w.heap[g]? = some (.cells cur e (0, 0)) ∧ cur.size = cap * d.sz ∧ RowIn o d.sz cur xs := by
  obtain ⟨_, inner, ⟨hl, hown⟩, hr⟩ := h
  rcases hown with ⟨_, h0⟩ | ⟨g, cap, cur, rfl, hb, hg, hc, _, hs, ht⟩
  · omega
  · refine ⟨g, cap, cur, rfl, hb, hc, hg, hs, fun j x hj i u hu => ?_⟩
    have h1 := hM _ _ _ _ _ (hr.2 j x hj)
    rw [← h1] at hu
    obtain ⟨hi, hu'⟩ := List.getElem?_eq_some_iff.1 hu
    rw [List.length_take] at hi
    rw [List.getElem?_take, if_pos (by omega), List.getElem?_drop, ← ht] at hu
    rw [List.getElem?_take] at hu
    split at hu
    · rw [← Array.getElem?_toList]; exact hu
    · cases hu
theorem C_row {β : Type} {d : Kd β} {e : Nat} {w : World} {xs : List β} {g : Nat} {cur : Array Value} (o : β → List Value) (hK : ∀ x, d.K w x (o x)) (hlen : ∀ x, (o x).length = d.sz) (hg : w.heap[g]? = some (.cells cur e (0, 0))) (hr : RowIn o d.sz cur xs) (hl : xs.length ≤ 9223372036854775807) :
    Kd.C d w (some ⟨g, 0, none⟩) xs.length xs := by
  refine ⟨rfl, hl, fun _ => ⟨_, rfl, fun j x hj => ⟨o x, hlen x, hK x, fun i u hu => ?_⟩⟩⟩
  have h1 := hr j x hj i u hu
  have h2 : (⟨g, 0, none⟩ : Addr).add (j * d.sz + i) = ⟨g, j * d.sz + i, none⟩ := by
    generalize j * d.sz + i = m
    simp [Addr.add]
    intro h; exact h.symm
  rw [h2, blk_cell hg]
  exact h1
theorem RowIn.set {β : Type} {o : β → List Value} {sz : Nat} {cur : Array Value} {xs : List β} (h : RowIn o sz cur xs) (hsz : sz = 2 ∨ sz = 3) (hlen : ∀ x, (o x).length = sz) {r k : Nat} (hr : r < xs.length) (hk : k < sz) {y : β} {u : Value} (hy : o y = (o xs[r]).set k u) :
    RowIn o sz (cur.setIfInBounds (r * sz + k) u) (xs.set r y) := by
  intro j x hj i v hv
  have hi : i < sz := by
    have := (List.getElem?_eq_some_iff.1 hv).1
    rw [hlen] at this; exact this
  have hrk : (o xs[r])[k]? = some ((o xs[r])[k]'(by rw [hlen]; exact hk)) := List.getElem?_eq_getElem _
  have hb := h r xs[r] (List.getElem?_eq_getElem hr) k _ hrk
  have hbs : r * sz + k < cur.size := (Array.getElem?_eq_some_iff.1 hb).1
  by_cases e : j = r
  · subst e
    rw [List.getElem?_set_self hr] at hj
    obtain rfl := Option.some.inj hj
    rw [hy] at hv
    by_cases e2 : i = k
    · subst e2
      rw [List.getElem?_set_self (by rw [hlen]; exact hk)] at hv
      rw [Array.getElem?_setIfInBounds_self_of_lt hbs]
      exact hv
    · rw [List.getElem?_set_ne (fun q => e2 q.symm)] at hv
      rw [Array.getElem?_setIfInBounds_ne (by omega)]
      exact h j _ (List.getElem?_eq_getElem hr) i v hv
  · rw [List.getElem?_set_ne (fun q => e q.symm)] at hj
    have hne : r * sz + k ≠ j * sz + i := by
      rcases hsz with rfl | rfl <;> omega
    rw [Array.getElem?_setIfInBounds_ne hne]
    exact h j x hj i v hv
theorem kr54_open_M {w : World} {base : Nat} {ok : Nat → Prop} {x : R54} {cs : List Value} (h : kr54.M w base ok x cs) : cs = o54 x := by
  obtain ⟨c0, c1, rfl, rfl, rfl⟩ := h
  rfl
theorem kr101_open_M {w : World} {base : Nat} {ok : Nat → Prop} {x : R101} {cs : List Value} (h : kr101.M w base ok x cs) : cs = o101 x := by
  obtain ⟨c0, c1, rfl, ⟨d0, d1, rfl, rfl, rfl⟩, rfl⟩ := h
  rfl
end Go.Proofs.Ytiephlhohgohcaa.PAll
