/- Part 11 of what the row rests on: each text as it stands among the working texts, cut to what is used; those of the print of the kit as a program printed them. -/
import Derived.Test.YtiephlhohgohcaaMoved10
import Derived.Test.YtiephlhohgohcaaMoved7
set_option linter.unusedVariables false
set_option linter.unusedSimpArgs false
namespace Go.Proofs.Ytiephlhohgohcaa.PAll
open Go.RowKit Go.Proofs.YtiephlhohgohcaaW.PrintWords Go.Proofs.YtiephlhohgohcaaW.PrintLast Go.Proofs.YtiephlhohgohcaaW.PrintMore
set_option linter.unusedVariables false
set_option linter.unusedSimpArgs false
structure SlV where
  a : Option Addr
  n : Nat
  c : Nat
/-- A route, as it lies in memory. -/
structure R54 where
  s : SlV
  b : Bool
/-- A leg, as it lies in memory. -/
structure R101 where
  lo : Int
  hi : Int
  s : SlV
def Of54 (w : World) (r : S54) (x : R54) : Prop := x.s.n = r.f0.length ∧ r.f0.length ≤ x.s.c ∧ Kd.C k101 w x.s.a r.f0.length r.f0 ∧ x.b = r.f1
def Of101 (w : World) (r : S101) (x : R101) : Prop := x.lo = r.f0.f0 ∧ x.hi = r.f0.f1 ∧ x.s.n = r.f1.length ∧ r.f1.length ≤ x.s.c ∧ Kd.C k64 w x.s.a r.f1.length r.f1
theorem Of54.below {w w' : World} {r : S54} {x : R54} (h : Of54 w r x) (hb : Below w.heap.size w w') : Of54 w' r x := ⟨h.1, h.2.1, Kd.C_below h.2.2.1 hb, h.2.2.2⟩
theorem Of101.below {w w' : World} {r : S101} {x : R101} (h : Of101 w r x) (hb : Below w.heap.size w w') : Of101 w' r x := ⟨h.1, h.2.1, h.2.2.1, h.2.2.2.1, Kd.C_below h.2.2.2.2 hb⟩
theorem u23row : Try.prog.underlying 23 = some (.slice 54) := by kernel_rfl
theorem u52row : Try.prog.underlying 52 = some (.slice 101) := by kernel_rfl
theorem inforow54 : (Try.prog.info? 54).map (fun i => (i.zero, i.size, i.bytes)) = some (some (.agg #[(.slice none 0 0), (.bool false)]), 2, 32) := by kernel_rfl
theorem inforow101 : (Try.prog.info? 101).map (fun i => (i.zero, i.size, i.bytes)) = some (some (.agg #[.int .i64 0, .int .i64 0, .slice none 0 0]), 3, 40) := by kernel_rfl
/-- A row stays where a cell of a block of another type is set. -/
theorem R_far {α : Type} {d : Kd α} {e base : Nat} {w : World} {ok : Nat → Prop} {v : Value} {xs : List α} (h : d.R e w base ok v xs) {a t : Nat} {ca : Array Value} (ha : w.heap[a]? = some (.cells ca t (0, 0))) (hE : ∀ q, q ∈ e :: d.E → q ≠ t) (j : Nat) (u : Value) : d.R e (w.setCell ⟨a, j, none⟩ u) base ok v xs :=
  Kd.R_mono (Kd.R_move (Kd.R_bound h) (fun k hk' => by
    obtain ⟨_, _, hlt, q, hq, cells, hc⟩ := hk'
    exact Below.heap_setCell w ⟨a, j, none⟩ u k (blk_ne hc ha (hE q hq)))) (fun _ hk' => hk'.1)
end Go.Proofs.Ytiephlhohgohcaa.PAll
