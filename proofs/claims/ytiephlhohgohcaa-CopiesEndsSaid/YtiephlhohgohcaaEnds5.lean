/- Part 5 of what the row rests on: each text as it stands among the working texts, cut to what is used; those of the print of the kit as a program printed them. -/
import Derived.Test.YtiephlhohgohcaaEnds2
import Derived.Test.YtiephlhohgohcaaEnds1
import Derived.Test.YtiephlhohgohcaaEnds4
import Derived.Test.YtiephlhohgohcaaEnds3
import Derived.Test.YtiephlhohgohcaaProg
import Derived.Below
import Derived.Deep.Draws
import Derived.Deep.AppendLies
import Derived.Maps.AppendAt
import Derived.OwnWalk
import Derived.Laws.BytesArg
import Derived.Laws.MakeOwn
import Derived.Laws.OwnMore
import Derived.Deep.OwnRows
import Derived.Tactics
import Derived.Lib.ConvBytes
import Derived.Laws.Slices
import Derived.WalkKit
import Derived.KernelRfl
import Derived.RowKit3
import Derived.Deep.LoopGhost
import Derived.Deep.QuietTactic
import Derived.BigQuiet
import Derived.WideLaws
import Derived.Deep.DeepCutAuto
import Derived.Deep.CutBlock
import Derived.Deep.RegionHeld3
import Derived.Laws.Rows
import Derived.Lib.AppendStr
import Derived.ArgAppend
import Derived.Laws.IdiomCopy
import Derived.OrdersHeld
import Derived.Laws.BitsLemmas
import Derived.RowKit
set_option linter.unusedVariables false
set_option linter.unusedSimpArgs false
namespace Go.Proofs.Ytiephlhohgohcaa.PAll
open Go.RowKit Go.Proofs.YtiephlhohgohcaaW.PrintWords Go.Proofs.YtiephlhohgohcaaW.PrintLast Go.Proofs.YtiephlhohgohcaaW.PrintMore
attribute [local go_sem] max2_int min2_int max_two min_two max_three min_three max_four min_four   -- for this text's walks alone
set_option linter.unusedVariables false
set_option linter.unusedSimpArgs false
def errW : Option Int → Value
  | none => .nilIface
  | some c => .iface 0 (.int .i64 c)
theorem errW_none : errW none = .nilIface := rfl
theorem errW_some (c : Int) : errW (some c) = .iface 0 (.int .i64 c) := rfl
theorem info3 : (Try.prog.info? 3).map (fun i => (i.zero, i.size, i.bytes)) = some (some (.int .i64 0), 1, 8) := by kernel_rfl
theorem info22 : (Try.prog.info? 22).map (fun i => (i.zero, i.size, i.bytes)) = some (some (.slice none 0 0), 1, 24) := by kernel_rfl
theorem info68 : (Try.prog.info? 68).map (fun i => (i.zero, i.size, i.bytes)) = some (some (.agg #[(.int .i64 0), (.int .i64 0)]), 2, 16) := by kernel_rfl
theorem info78 : (Try.prog.info? 78).map (fun i => (i.zero, i.size, i.bytes)) = some (some (.slice none 0 0), 1, 24) := by kernel_rfl
theorem info87 : (Try.prog.info? 87).map (fun i => (i.zero, i.size, i.bytes)) = some (some (.agg #[(.int .i64 0), (.int .i64 0), (.bool false)]), 3, 24) := by kernel_rfl
theorem info119 : (Try.prog.info? 119).map (fun i => (i.zero, i.size, i.bytes)) = some (some (.agg #[(.int .i64 0), (.int .i64 0), (.slice none 0 0)]), 3, 40) := by kernel_rfl
theorem info122 : (Try.prog.info? 122).map (fun i => (i.zero, i.size, i.bytes)) = some (some (.agg #[(.slice none 0 0), (.bool false)]), 2, 32) := by kernel_rfl
structure S64 where
  f0 : Int
  f1 : Int
def z64 : S64 := ⟨(0 : Int), (0 : Int)⟩
def k64 : Kd S64 := Kd.iso (Kd.pair (Kd.int .i64) (Kd.int .i64)) (fun x : S64 => (x.f0, x.f1))
theorem k64_open {w : World} {x : S64} {cs : List Value} (h : k64.K w x cs) : cs = [.int .i64 x.f0, .int .i64 x.f1] := by
  obtain ⟨_, _, rfl, rfl, rfl⟩ := h
  exact rfl
def rd_T64 (xs : List S64) (i : Int) : S64 := xs.getD i.toNat z64
theorem at_T64 {w : World} {A : Option Addr} {n : Nat} {xs : List S64} (h : Kd.C k64 w A n xs) (i : Int) (h0 : 0 ≤ i) (h1 : i < n) : ∃ ad , A = some ad ∧ w.cell? (ad.add (i.toNat * 2)) = some (.int .i64 (rd_T64 xs i).f0) ∧ w.cell? ⟨(ad.add (i.toNat * 2)).block, (ad.add (i.toNat * 2)).off + 1, none⟩ = some (.int .i64 (rd_T64 xs i).f1) := by
  obtain ⟨ad, c, e, _, hK, hc0⟩ := Kd.C_get h z64 i h0 h1
  have hc : ∀ j u, c[j]? = some u → w.cell? (ad.add (i.toNat * 2 + j)) = some u := hc0
  obtain rfl := k64_open hK
  exact ⟨ad, e, hc 0 _ rfl, by rw [← add_field _ _ 1 (by omega)]; exact hc 1 _ rfl⟩
structure S101 where
  f0 : S64
  f1 : (List S64)
def z101 : S101 := ⟨z64, ([] : List S64)⟩
def k101 : Kd S101 := Kd.iso (Kd.pair k64 (Kd.slice 64 k64)) (fun x : S101 => (x.f0, x.f1))
theorem k101_open {w : World} {x : S101} {cs : List Value} (h : k101.K w x cs) : ∃ A2 c2, cs = [.int .i64 x.f0.f0, .int .i64 x.f0.f1, .slice A2 x.f1.length c2] ∧ x.f1.length ≤ c2 ∧ k64.C w A2 x.f1.length x.f1 := by
  obtain ⟨_, _, rfl, s0, ⟨A2, c2, rfl, l2, g2⟩⟩ := h
  obtain rfl := k64_open s0
  exact ⟨A2, c2, rfl, l2, g2⟩
def rd_T101 (xs : List S101) (i : Int) : S101 := xs.getD i.toNat z101
theorem at_T101 {w : World} {A : Option Addr} {n : Nat} {xs : List S101} (h : Kd.C k101 w A n xs) (i : Int) (h0 : 0 ≤ i) (h1 : i < n) : ∃ ad A2 c2, A = some ad ∧ w.cell? (ad.add (i.toNat * 3)) = some (.int .i64 (rd_T101 xs i).f0.f0) ∧ w.cell? ⟨(ad.add (i.toNat * 3)).block, (ad.add (i.toNat * 3)).off + 1, none⟩ = some (.int .i64 (rd_T101 xs i).f0.f1) ∧ w.cell? ⟨(ad.add (i.toNat * 3)).block, (ad.add (i.toNat * 3)).off + 2, none⟩ = some (.slice A2 (rd_T101 xs i).f1.length c2) ∧ (rd_T101 xs i).f1.length ≤ c2 ∧ k64.C w A2 (rd_T101 xs i).f1.length (rd_T101 xs i).f1 := by
  obtain ⟨ad, c, e, _, hK, hc0⟩ := Kd.C_get h z101 i h0 h1
  have hc : ∀ j u, c[j]? = some u → w.cell? (ad.add (i.toNat * 3 + j)) = some u := hc0
  obtain ⟨A2, c2, rfl, l2, g2⟩ := k101_open hK
  exact ⟨ad, A2, c2, e, hc 0 _ rfl, by rw [← add_field _ _ 1 (by omega)]; exact hc 1 _ rfl, by rw [← add_field _ _ 2 (by omega)]; exact hc 2 _ rfl, l2, g2⟩
structure S54 where
  f0 : (List S101)
  f1 : Bool
def z54 : S54 := ⟨([] : List S101), false⟩
def k54 : Kd S54 := Kd.iso (Kd.pair (Kd.slice 101 k101) Kd.bool) (fun x : S54 => (x.f0, x.f1))
theorem k54_open {w : World} {x : S54} {cs : List Value} (h : k54.K w x cs) : ∃ A0 c0, cs = [.slice A0 x.f0.length c0, .bool x.f1] ∧ x.f0.length ≤ c0 ∧ k101.C w A0 x.f0.length x.f0 := by
  obtain ⟨_, _, rfl, ⟨A0, c0, rfl, l0, g0⟩, rfl⟩ := h
  exact ⟨A0, c0, rfl, l0, g0⟩
def rd_T54 (xs : List S54) (i : Int) : S54 := xs.getD i.toNat z54
theorem at_T54 {w : World} {A : Option Addr} {n : Nat} {xs : List S54} (h : Kd.C k54 w A n xs) (i : Int) (h0 : 0 ≤ i) (h1 : i < n) : ∃ ad A0 c0, A = some ad ∧ w.cell? (ad.add (i.toNat * 2)) = some (.slice A0 (rd_T54 xs i).f0.length c0) ∧ w.cell? ⟨(ad.add (i.toNat * 2)).block, (ad.add (i.toNat * 2)).off + 1, none⟩ = some (.bool (rd_T54 xs i).f1) ∧ (rd_T54 xs i).f0.length ≤ c0 ∧ k101.C w A0 (rd_T54 xs i).f0.length (rd_T54 xs i).f0 := by
  obtain ⟨ad, c, e, _, hK, hc0⟩ := Kd.C_get h z54 i h0 h1
  have hc : ∀ j u, c[j]? = some u → w.cell? (ad.add (i.toNat * 2 + j)) = some u := hc0
  obtain ⟨A0, c0, rfl, l0, g0⟩ := k54_open hK
  exact ⟨ad, A0, c0, e, hc 0 _ rfl, by rw [← add_field _ _ 1 (by omega)]; exact hc 1 _ rfl, l0, g0⟩
def rd_L7 (xs : List (List Int)) (i : Int) : (List Int) := xs.getD i.toNat ([] : List Int)
theorem at_L7 {w : World} {A : Option Addr} {n : Nat} {xs : List (List Int)} (h : Kd.C (Kd.slice 3 (Kd.int .i64)) w A n xs) (i : Int) (h0 : 0 ≤ i) (h1 : i < n) : ∃ ad A0 c0, A = some ad ∧ w.cell? (ad.add i.toNat) = some (.slice A0 (rd_L7 xs i).length c0) ∧ (rd_L7 xs i).length ≤ c0 ∧ (Kd.int .i64).C w A0 (rd_L7 xs i).length (rd_L7 xs i) := by
  obtain ⟨ad, c, e, _, hK, hc0⟩ := Kd.C_get h ([] : List Int) i h0 h1
  have hc : ∀ j u, c[j]? = some u → w.cell? (ad.add (i.toNat * 1 + j)) = some u := hc0
  obtain ⟨A0, c0, rfl, l0, g0⟩ := hK
  exact ⟨ad, A0, c0, e, by have hq := hc 0 _ rfl; rwa [Nat.mul_one, Nat.add_zero] at hq, l0, g0⟩
def rd_L8 (xs : List (List (List Int))) (i : Int) : (List (List Int)) := xs.getD i.toNat ([] : List (List Int))
theorem at_L8 {w : World} {A : Option Addr} {n : Nat} {xs : List (List (List Int))} (h : Kd.C (Kd.slice 22 (Kd.slice 3 (Kd.int .i64))) w A n xs) (i : Int) (h0 : 0 ≤ i) (h1 : i < n) : ∃ ad A0 c0, A = some ad ∧ w.cell? (ad.add i.toNat) = some (.slice A0 (rd_L8 xs i).length c0) ∧ (rd_L8 xs i).length ≤ c0 ∧ (Kd.slice 3 (Kd.int .i64)).C w A0 (rd_L8 xs i).length (rd_L8 xs i) := by
  obtain ⟨ad, c, e, _, hK, hc0⟩ := Kd.C_get h ([] : List (List Int)) i h0 h1
  have hc : ∀ j u, c[j]? = some u → w.cell? (ad.add (i.toNat * 1 + j)) = some u := hc0
  obtain ⟨A0, c0, rfl, l0, g0⟩ := hK
  exact ⟨ad, A0, c0, e, by have hq := hc 0 _ rfl; rwa [Nat.mul_one, Nat.add_zero] at hq, l0, g0⟩
structure S68 where
  f0 : Int
  f1 : Int
def z68 : S68 := ⟨(0 : Int), (0 : Int)⟩
def k68 : Kd S68 := Kd.iso (Kd.pair (Kd.int .i64) (Kd.int .i64)) (fun x : S68 => (x.f0, x.f1))
theorem k68_open {w : World} {x : S68} {cs : List Value} (h : k68.K w x cs) : cs = [.int .i64 x.f0, .int .i64 x.f1] := by
  obtain ⟨_, _, rfl, rfl, rfl⟩ := h
  exact rfl
theorem k68_mk (w : World) (x : S68)  : k68.K w x [.int .i64 x.f0, .int .i64 x.f1] := ⟨[.int .i64 x.f0], [.int .i64 x.f1], rfl, rfl, rfl⟩
theorem k68_mkM (w : World) (base : Nat) (ok : Nat → Prop) (x : S68)  : k68.M w base ok x [.int .i64 x.f0, .int .i64 x.f1] := ⟨[.int .i64 x.f0], [.int .i64 x.f1], rfl, rfl, rfl⟩
def rd_T68 (xs : List S68) (i : Int) : S68 := xs.getD i.toNat z68
theorem at_T68 {w : World} {A : Option Addr} {n : Nat} {xs : List S68} (h : Kd.C k68 w A n xs) (i : Int) (h0 : 0 ≤ i) (h1 : i < n) : ∃ ad , A = some ad ∧ w.cell? (ad.add (i.toNat * 2)) = some (.int .i64 (rd_T68 xs i).f0) ∧ w.cell? ⟨(ad.add (i.toNat * 2)).block, (ad.add (i.toNat * 2)).off + 1, none⟩ = some (.int .i64 (rd_T68 xs i).f1) := by
  obtain ⟨ad, c, e, _, hK, hc0⟩ := Kd.C_get h z68 i h0 h1
  have hc : ∀ j u, c[j]? = some u → w.cell? (ad.add (i.toNat * 2 + j)) = some u := hc0
  obtain rfl := k68_open hK
  exact ⟨ad, e, hc 0 _ rfl, by rw [← add_field _ _ 1 (by omega)]; exact hc 1 _ rfl⟩
structure S119 where
  f0 : S68
  f1 : (List S68)
def z119 : S119 := ⟨z68, ([] : List S68)⟩
def k119 : Kd S119 := Kd.iso (Kd.pair k68 (Kd.slice 68 k68)) (fun x : S119 => (x.f0, x.f1))
theorem k119_open {w : World} {x : S119} {cs : List Value} (h : k119.K w x cs) : ∃ A2 c2, cs = [.int .i64 x.f0.f0, .int .i64 x.f0.f1, .slice A2 x.f1.length c2] ∧ x.f1.length ≤ c2 ∧ k68.C w A2 x.f1.length x.f1 := by
  obtain ⟨_, _, rfl, s0, ⟨A2, c2, rfl, l2, g2⟩⟩ := h
  obtain rfl := k68_open s0
  exact ⟨A2, c2, rfl, l2, g2⟩
theorem k119_mk (w : World) (x : S119) {A2 : Option Addr} {c2 : Nat} (l2 : x.f1.length ≤ c2) (g2 : k68.C w A2 x.f1.length x.f1) : k119.K w x [.int .i64 x.f0.f0, .int .i64 x.f0.f1, .slice A2 x.f1.length c2] := ⟨[.int .i64 x.f0.f0, .int .i64 x.f0.f1], [.slice A2 x.f1.length c2], rfl, (k68_mk w x.f0 ), ⟨A2, c2, rfl, l2, g2⟩⟩
theorem k119_mkM (w : World) (base : Nat) (ok : Nat → Prop) (x : S119) {v2 : Value} (g2 : k68.R 68 w base ok v2 x.f1) : k119.M w base ok x [.int .i64 x.f0.f0, .int .i64 x.f0.f1, v2] := ⟨[.int .i64 x.f0.f0, .int .i64 x.f0.f1], [v2], rfl, (k68_mkM w base ok x.f0 ), ⟨v2, rfl, g2⟩⟩
theorem k119_mkF (W : World) (ok : Nat → Prop) (x : S119) {A2 : Option Addr} {c2 : Nat} (l2 : x.f1.length ≤ c2) (g2 : Kd.F k68 W ok A2 x.f1.length x.f1) : Kd.FK k119 W ok x [.int .i64 x.f0.f0, .int .i64 x.f0.f1, .slice A2 x.f1.length c2] := fun W2 hW => k119_mk W2 x l2 (g2 W2 hW)
def rd_T119 (xs : List S119) (i : Int) : S119 := xs.getD i.toNat z119
theorem at_T119 {w : World} {A : Option Addr} {n : Nat} {xs : List S119} (h : Kd.C k119 w A n xs) (i : Int) (h0 : 0 ≤ i) (h1 : i < n) : ∃ ad A2 c2, A = some ad ∧ w.cell? (ad.add (i.toNat * 3)) = some (.int .i64 (rd_T119 xs i).f0.f0) ∧ w.cell? ⟨(ad.add (i.toNat * 3)).block, (ad.add (i.toNat * 3)).off + 1, none⟩ = some (.int .i64 (rd_T119 xs i).f0.f1) ∧ w.cell? ⟨(ad.add (i.toNat * 3)).block, (ad.add (i.toNat * 3)).off + 2, none⟩ = some (.slice A2 (rd_T119 xs i).f1.length c2) ∧ (rd_T119 xs i).f1.length ≤ c2 ∧ k68.C w A2 (rd_T119 xs i).f1.length (rd_T119 xs i).f1 := by
  obtain ⟨ad, c, e, _, hK, hc0⟩ := Kd.C_get h z119 i h0 h1
  have hc : ∀ j u, c[j]? = some u → w.cell? (ad.add (i.toNat * 3 + j)) = some u := hc0
  obtain ⟨A2, c2, rfl, l2, g2⟩ := k119_open hK
  exact ⟨ad, A2, c2, e, hc 0 _ rfl, by rw [← add_field _ _ 1 (by omega)]; exact hc 1 _ rfl, by rw [← add_field _ _ 2 (by omega)]; exact hc 2 _ rfl, l2, g2⟩
structure S122 where
  f0 : (List S119)
  f1 : Bool
def z122 : S122 := ⟨([] : List S119), false⟩
def k122 : Kd S122 := Kd.iso (Kd.pair (Kd.slice 119 k119) Kd.bool) (fun x : S122 => (x.f0, x.f1))
theorem k122_open {w : World} {x : S122} {cs : List Value} (h : k122.K w x cs) : ∃ A0 c0, cs = [.slice A0 x.f0.length c0, .bool x.f1] ∧ x.f0.length ≤ c0 ∧ k119.C w A0 x.f0.length x.f0 := by
  obtain ⟨_, _, rfl, ⟨A0, c0, rfl, l0, g0⟩, rfl⟩ := h
  exact ⟨A0, c0, rfl, l0, g0⟩
theorem k122_mk (w : World) (x : S122) {A0 : Option Addr} {c0 : Nat} (l0 : x.f0.length ≤ c0) (g0 : k119.C w A0 x.f0.length x.f0) : k122.K w x [.slice A0 x.f0.length c0, .bool x.f1] := ⟨[.slice A0 x.f0.length c0], [.bool x.f1], rfl, ⟨A0, c0, rfl, l0, g0⟩, rfl⟩
theorem k122_mkM (w : World) (base : Nat) (ok : Nat → Prop) (x : S122) {v0 : Value} (g0 : k119.R 119 w base ok v0 x.f0) : k122.M w base ok x [v0, .bool x.f1] := ⟨[v0], [.bool x.f1], rfl, ⟨v0, rfl, g0⟩, rfl⟩
theorem k122_mkF (W : World) (ok : Nat → Prop) (x : S122) {A0 : Option Addr} {c0 : Nat} (l0 : x.f0.length ≤ c0) (g0 : Kd.F k119 W ok A0 x.f0.length x.f0) : Kd.FK k122 W ok x [.slice A0 x.f0.length c0, .bool x.f1] := fun W2 hW => k122_mk W2 x l0 (g0 W2 hW)
def rd_T122 (xs : List S122) (i : Int) : S122 := xs.getD i.toNat z122
theorem at_T122 {w : World} {A : Option Addr} {n : Nat} {xs : List S122} (h : Kd.C k122 w A n xs) (i : Int) (h0 : 0 ≤ i) (h1 : i < n) : ∃ ad A0 c0, A = some ad ∧ w.cell? (ad.add (i.toNat * 2)) = some (.slice A0 (rd_T122 xs i).f0.length c0) ∧ w.cell? ⟨(ad.add (i.toNat * 2)).block, (ad.add (i.toNat * 2)).off + 1, none⟩ = some (.bool (rd_T122 xs i).f1) ∧ (rd_T122 xs i).f0.length ≤ c0 ∧ k119.C w A0 (rd_T122 xs i).f0.length (rd_T122 xs i).f0 := by
  obtain ⟨ad, c, e, _, hK, hc0⟩ := Kd.C_get h z122 i h0 h1
  have hc : ∀ j u, c[j]? = some u → w.cell? (ad.add (i.toNat * 2 + j)) = some u := hc0
  obtain ⟨A0, c0, rfl, l0, g0⟩ := k122_open hK
  exact ⟨ad, A0, c0, e, hc 0 _ rfl, by rw [← add_field _ _ 1 (by omega)]; exact hc 1 _ rfl, l0, g0⟩
structure S87 where
  f0 : Int
  f1 : Int
  f2 : Bool
def z87 : S87 := ⟨(0 : Int), (0 : Int), false⟩
def k87 : Kd S87 := Kd.iso (Kd.pair (Kd.int .i64) (Kd.pair (Kd.int .i64) Kd.bool)) (fun x : S87 => (x.f0, x.f1, x.f2))
theorem k87_open {w : World} {x : S87} {cs : List Value} (h : k87.K w x cs) : cs = [.int .i64 x.f0, .int .i64 x.f1, .bool x.f2] := by
  obtain ⟨_, _, rfl, rfl, ⟨_, _, rfl, rfl, rfl⟩⟩ := h
  exact rfl
theorem k87_mk (w : World) (x : S87)  : k87.K w x [.int .i64 x.f0, .int .i64 x.f1, .bool x.f2] := ⟨[.int .i64 x.f0], [.int .i64 x.f1, .bool x.f2], rfl, rfl, ⟨[.int .i64 x.f1], [.bool x.f2], rfl, rfl, rfl⟩⟩
theorem k87_mkM (w : World) (base : Nat) (ok : Nat → Prop) (x : S87)  : k87.M w base ok x [.int .i64 x.f0, .int .i64 x.f1, .bool x.f2] := ⟨[.int .i64 x.f0], [.int .i64 x.f1, .bool x.f2], rfl, rfl, ⟨[.int .i64 x.f1], [.bool x.f2], rfl, rfl, rfl⟩⟩
def rd_T87 (xs : List S87) (i : Int) : S87 := xs.getD i.toNat z87
theorem at_T87 {w : World} {A : Option Addr} {n : Nat} {xs : List S87} (h : Kd.C k87 w A n xs) (i : Int) (h0 : 0 ≤ i) (h1 : i < n) : ∃ ad , A = some ad ∧ w.cell? (ad.add (i.toNat * 3)) = some (.int .i64 (rd_T87 xs i).f0) ∧ w.cell? ⟨(ad.add (i.toNat * 3)).block, (ad.add (i.toNat * 3)).off + 1, none⟩ = some (.int .i64 (rd_T87 xs i).f1) ∧ w.cell? ⟨(ad.add (i.toNat * 3)).block, (ad.add (i.toNat * 3)).off + 2, none⟩ = some (.bool (rd_T87 xs i).f2) := by
  obtain ⟨ad, c, e, _, hK, hc0⟩ := Kd.C_get h z87 i h0 h1
  have hc : ∀ j u, c[j]? = some u → w.cell? (ad.add (i.toNat * 3 + j)) = some u := hc0
  obtain rfl := k87_open hK
  exact ⟨ad, e, hc 0 _ rfl, by rw [← add_field _ _ 1 (by omega)]; exact hc 1 _ rfl, by rw [← add_field _ _ 2 (by omega)]; exact hc 2 _ rfl⟩
structure S108 where
  f0 : Int
  f1 : Int
  f2 : Bool
def z108 : S108 := ⟨(0 : Int), (0 : Int), false⟩
def k108 : Kd S108 := Kd.iso (Kd.pair (Kd.int .i64) (Kd.pair (Kd.int .i64) Kd.bool)) (fun x : S108 => (x.f0, x.f1, x.f2))
theorem k108_open {w : World} {x : S108} {cs : List Value} (h : k108.K w x cs) : cs = [.int .i64 x.f0, .int .i64 x.f1, .bool x.f2] := by
  obtain ⟨_, _, rfl, rfl, ⟨_, _, rfl, rfl, rfl⟩⟩ := h
  exact rfl
theorem k108_mk (w : World) (x : S108)  : k108.K w x [.int .i64 x.f0, .int .i64 x.f1, .bool x.f2] := ⟨[.int .i64 x.f0], [.int .i64 x.f1, .bool x.f2], rfl, rfl, ⟨[.int .i64 x.f1], [.bool x.f2], rfl, rfl, rfl⟩⟩
def rd_T108 (xs : List S108) (i : Int) : S108 := xs.getD i.toNat z108
theorem at_T108 {w : World} {A : Option Addr} {n : Nat} {xs : List S108} (h : Kd.C k108 w A n xs) (i : Int) (h0 : 0 ≤ i) (h1 : i < n) : ∃ ad , A = some ad ∧ w.cell? (ad.add (i.toNat * 3)) = some (.int .i64 (rd_T108 xs i).f0) ∧ w.cell? ⟨(ad.add (i.toNat * 3)).block, (ad.add (i.toNat * 3)).off + 1, none⟩ = some (.int .i64 (rd_T108 xs i).f1) ∧ w.cell? ⟨(ad.add (i.toNat * 3)).block, (ad.add (i.toNat * 3)).off + 2, none⟩ = some (.bool (rd_T108 xs i).f2) := by
  obtain ⟨ad, c, e, _, hK, hc0⟩ := Kd.C_get h z108 i h0 h1
  have hc : ∀ j u, c[j]? = some u → w.cell? (ad.add (i.toNat * 3 + j)) = some u := hc0
  obtain rfl := k108_open hK
  exact ⟨ad, e, hc 0 _ rfl, by rw [← add_field _ _ 1 (by omega)]; exact hc 1 _ rfl, by rw [← add_field _ _ 2 (by omega)]; exact hc 2 _ rfl⟩
end Go.Proofs.Ytiephlhohgohcaa.PAll
namespace Go.Proofs.Ytiephlhohgohcaa.PAll
open Go.RowKit Go.Proofs.YtiephlhohgohcaaW.PrintWords Go.Proofs.YtiephlhohgohcaaW.PrintLast Go.Proofs.YtiephlhohgohcaaW.PrintMore
theorem rd_in {α : Type} (z : α) (l : List α) (k : Nat) (h : k < l.length) : l.getD k z = l[k] := by rw [List.getD_eq_getElem?_getD, List.getElem?_eq_getElem h]; rfl
theorem len_ne {a b : Nat} (h : ((a : Int) != (b : Int)) = true) : ¬ a = b := by rw [bne_iff_ne] at h; omega
theorem len_eq {a b : Nat} (h : ((a : Int) != (b : Int)) = false) : a = b := by
  by_cases e : a = b
  · exact e
  · have : ((a : Int) != (b : Int)) = true := by rw [bne_iff_ne]; omega
    rw [this] at h; cases h
theorem len_z {a : Nat} (h : ((a : Int) == 0) = true) : a = 0 := by rw [beq_iff_eq] at h; omega
theorem len_nz {a : Nat} (h : ((a : Int) == 0) = false) : ¬ a = 0 := by
  intro e; subst e; simp at h
theorem kd_append_drew {α : Type} (d : Kd α) {P : Program} {ops : Array Oper} {o : Oper} {a : Act} {Kc : Act → World → Prop} {Q : Exit → Act → World → Prop} {E : Prop} {w0 W : World} (base : Nat) (hgd : o.guard = none) (s x : Operand) (t e : TypeId) (z : Value) (bytes : Nat)
    (ho : o.op = .call { callee := .builtin .append, args := #[s, x], argTypes := #[t, t] })
    (ht : P.underlying t = some (.slice e)) (hinfo : (P.info? e).map (fun i => (i.zero, i.size, i.bytes)) = some (some z, d.sz, bytes)) (hz : z.cells.size = d.sz) (hs0 : 0 < d.sz)
    (v : Value) (xs : List α) (p : α) (cs : List Value) (hs : a.eval s = v) (hx : a.eval x = .slice (some ⟨W.heap.size, 0, none⟩) 1 1) (okp : Nat → Prop) (hp : d.M W base okp p cs) (hokp : ∀ k, okp k → some k ≠ v.ownBlock)
    (HO : d.R e W base (fun _ => True) v xs) (HB : Below base w0 W) (hbase : base ≤ W.heap.size) (hl : (xs.length + 1) * bytes ≤ 140737488355328) (h63 : xs.length + 1 ≤ maxLen)
    (h : ∀ g cap w1, d.R e w1 base (fun _ => True) (.slice (some ⟨g, 0, none⟩) (xs.length + 1) cap) (xs ++ [p]) → Below base w0 w1 → W.grownBy w1 v.ownBlock → Kc (a.put o.dst (.slice (some ⟨g, 0, none⟩) (xs.length + 1) cap)) w1) :
    if Region.wanted o (yielded ops a.tmps) = true then Oper.wp P o a ((W.alloc (.cells cs.toArray e)).drew) Kc Q else E := by
  obtain ⟨i0, hi, hzz⟩ := Option.map_eq_some_iff.1 hinfo
  simp only [Prod.mk.injEq] at hzz
  obtain ⟨hz0, hz1, hz2⟩ := hzz
  obtain ⟨h0, inner, hown, hr⟩ := HO
  have hlen := d.K_len (d.K_of_M hp)
  refine step_append_lies _ hgd s x t ho base e i0 z d.sz bytes ht hi hz0 hz1 hz2 hz hs0 v xs.length inner hs ((hown.alloc (.cells cs.toArray e)).drew) ⟨W.heap.size, 0, none⟩ 1 1 cs hx (by omega)
    (World.news_of_block (cs := cs.toArray) (t := e) (fr := (0, 0)) (heap_alloc_new W _)) (d.K_one (d.K_of_M hp)) (by omega) h63 hl (by simp; omega) _ rfl ?_
  intro g cap w1 hown1 hg hat hlt
  have hg' : W.grownBy w1 v.ownBlock := by
    have h1 := World.grownBy_alloc W (.cells cs.toArray e) v.ownBlock
    have h2 : (W.alloc (.cells cs.toArray e)).grownBy w1 v.ownBlock := ⟨hg.os, hg.tape, hg.output, hg.size, hg.block⟩
    exact World.grownBy.trans h1 h2
  refine h g cap w1 (Kd.R_appended h0 hr hp (fun k hk => ⟨trivial, hokp k hk⟩) (fun _ _ => trivial) hown1 hg' ?_) ?_ hg'
  · rcases hat with hat | hat
    · exact .inl (by rw [hat]; rfl)
    · exact .inr ⟨g, rfl, by rw [hat]; simp⟩
  · exact HB.grown hg' hbase (own_base hown)
/-- Rows of other types are not this one. -/
theorem R_apart_types {α β : Type} {d : Kd α} {d' : Kd β} {e e' base base' : Nat} {ok ok' : Nat → Prop} {w : World} {u v : Value} {xs : List α} {ys : List β} (h : d.R e w base ok u xs) (h' : d'.R e' w base' ok' v ys) (ht : ∀ q, q ∈ e :: d.E → q ≠ e') :
    d.R e w base (fun k => some k ≠ v.ownBlock) u xs :=
  Kd.R_mono (Kd.R_bound h) (fun k hk hv => by
    obtain ⟨_, _, _, q, hq, cells, hc⟩ := hk
    obtain ⟨_, inner, ho, _⟩ := h'
    obtain ⟨cells', hc'⟩ := own_typed ho k hv.symm
    rw [hc] at hc'
    injection hc' with hc'
    injection hc' with _ hc'
    exact ht q hq hc')
end Go.Proofs.Ytiephlhohgohcaa.PAll
namespace Go.Proofs.Ytiephlhohgohcaa.PAll
open Go.RowKit Go.Proofs.YtiephlhohgohcaaW.PrintWords Go.Proofs.YtiephlhohgohcaaW.PrintLast Go.Proofs.YtiephlhohgohcaaW.PrintMore
attribute [local go_sem] max2_int min2_int max_two min_two max_three min_three max_four min_four   -- for this text's walks alone
set_option linter.unusedVariables false
set_option linter.unusedSimpArgs false
def copies_within.f (a0 : Int) (a1 : Int) (a2 : Int) : Option (Bool) := if a1 ≤ a0 then (some (decide (a0 ≤ a2))) else (some false)
set_option maxHeartbeats 8000000 in
set_option maxRecDepth 100000 in
theorem copies_within.calls (a0 : Int) (a1 : Int) (a2 : Int) (r : Bool) (w : World) (h : copies_within.f a0 a1 a2 = some r) :
  Calls Try.prog 77 #[.int .i64 a0, .int .i64 a1, .int .i64 a2] w fun e w' => e = .returned (.bool r) ∧ Drawn0 w w' := by
 have H : (if a1 ≤ a0 then (some (decide (a0 ≤ a2))) else (some false)) = some r := h
 clear h
 by_cases c4 : a1 ≤ a0
 ·rw [if_pos c4] at H
  have c4b0 : decide (a1 ≤ a0) = true := decide_eq_true c4
  clear c4
  obtain rfl := Option.some.inj H
  go_enter Try.func77, Try.ntmps77
  go_wp2
  go_ret
  exact ⟨by first | rfl | (simp; done) | (simp [*]; done), by repeat (first | exact Drawn0.refl _ | apply Drawn0.step)⟩
 ·rw [if_neg c4] at H
  have c4b0 : decide (a1 ≤ a0) = false := decide_eq_false c4
  clear c4
  obtain rfl := Option.some.inj H
  go_enter Try.func77, Try.ntmps77
  go_wp2
  go_ret
  exact ⟨by first | rfl | (simp; done) | (simp [*]; done), by repeat (first | exact Drawn0.refl _ | apply Drawn0.step)⟩
end Go.Proofs.Ytiephlhohgohcaa.PAll
namespace Go.Proofs.Ytiephlhohgohcaa.PAll
open Go.RowKit Go.Proofs.YtiephlhohgohcaaW.PrintWords Go.Proofs.YtiephlhohgohcaaW.PrintLast Go.Proofs.YtiephlhohgohcaaW.PrintMore
attribute [local go_sem] max2_int min2_int max_two min_two max_three min_three max_four min_four   -- for this text's walks alone
set_option linter.unusedVariables false
set_option linter.unusedSimpArgs false
def copies_Range_has.f (a0_0 : Int) (a0_1 : Int) (a1 : Int) : Option (Bool) := (copies_within.f a1 a0_0 a0_1).bind fun t114 => (some t114)
set_option maxHeartbeats 8000000 in
set_option maxRecDepth 100000 in
theorem copies_Range_has.calls (a0_0 : Int) (a0_1 : Int) (a1 : Int) (r : Bool) (w : World) (h : copies_Range_has.f a0_0 a0_1 a1 = some r) :
  Calls Try.prog 65 #[.agg #[.int .i64 a0_0, .int .i64 a0_1], .int .i64 a1] w fun e w' => e = .returned (.bool r) ∧ Below w.heap.size w w' := by
 have hu68 := Try.underlying68
 have HB := Aside0.mk (Below.refl w.heap.size w)
 have H : ((copies_within.f a1 a0_0 a0_1).bind fun t114 => (some t114)) = some r := h
 clear h
 replace H := Option.bind_eq_some_iff.mp H
 obtain ⟨t114, A30, H⟩ := H
 replace H : (some t114) = some r := H
 have A3 := Aside0.mk A30
 clear A30
 obtain rfl := Option.some.inj H
 go_enter Try.func65, Try.ntmps65
 go_wp2_with (first | ((with_reducible refine gate_dst (N := 2) rfl ?_); refine box_event ?hg (N := 2) ?hd (cs := #[.int .i64 a0_0, .int .i64 a0_1]) (t := 68) ?hr ?_; (case hd => rfl); (case hg => rfl); (case hr => first | (go_simp; done) | (go_simp; rfl)); intro gb113 hg w4 hbox hb; have n0_ := Aside0.mk (below_step (by repeat (first | (with_reducible first | exact HB.out | apply below_alloc | apply pw_below_drewN | apply below_drew1) | exact HB.out)) hb); have n1_ := Aside0.mk (hbox); have n2_ := Aside0.mk ((by rw [hg]; exact (below_size (by repeat (first | (with_reducible first | exact HB.out | apply below_alloc | apply pw_below_drewN | apply below_drew1) | exact HB.out))) : w.heap.size ≤ gb113)); have n3_ := Aside0.mk ((by rw [hg]; exact (below_size (by repeat (first | (with_reducible first | exact HB.out | apply below_alloc | apply pw_below_drewN | apply below_drew1) | exact HB.out))) : w.heap.size ≤ gb113)); clear HB; have HB := n0_; have BK113 := n1_; have GW113 := n2_; have GE113 := n3_; clear n0_ n1_ n2_ n3_; clear hb hbox hg; have hcz5_0 : w4.cell? ⟨gb113, 0, none⟩ = some (.int .i64 a0_0) := (blk_cell BK113.out 0).trans rfl; have hcz5_1 : w4.cell? ⟨gb113, 1, none⟩ = some (.int .i64 a0_1) := (blk_cell BK113.out 1).trans rfl; have hfz5_0 := blk_frozen BK113.out 0; have hfz5_1 := blk_frozen BK113.out 1) | ((with_reducible refine gate_callee (f := 77) rfl ?_); refine goesL_ (some 10) rfl rfl Try.func77 (by kernel_rfl) rfl #[.int .i64 a1, .int .i64 a0_0, .int .i64 a0_1] rfl (by (try simp only [List.map_toArray, List.map_cons, List.map_nil]); first | done | rfl | (simp only [List.length_drop, List.length_take]; rfl)) ?_; (with_reducible refine (copies_within.calls a1 a0_0 a0_1 t114 _ A3.out).mono ?_); rintro e w' ⟨rfl, ⟨nd, rfl⟩⟩; refine ⟨_, rfl, ?_⟩))
 go_ret
 exact ⟨by first | rfl | (simp [errW_none, errW_some] <;> rfl) | (simp [*, errW_none, errW_some] <;> rfl), by repeat (first | (with_reducible first | exact HB.out | apply below_alloc | apply pw_below_drewN | apply below_drew1 | refine below_set ?_ GE113.out) | exact HB.out)⟩
end Go.Proofs.Ytiephlhohgohcaa.PAll
namespace Go.Proofs.Ytiephlhohgohcaa.PAll
open Go.RowKit Go.Proofs.YtiephlhohgohcaaW.PrintWords Go.Proofs.YtiephlhohgohcaaW.PrintLast Go.Proofs.YtiephlhohgohcaaW.PrintMore
def inB (lo hi n : Int) : Bool := decide (lo ≤ n) && decide (n ≤ hi)
def uptoB (most : Int) (r : S68) : Bool := decide (0 ≤ r.f0) && decide (r.f0 ≤ r.f1) && decide (r.f1 ≤ most)
def fewL (l : S119) : Bool := decide ((l.f1.length : Int) ≤ 2)
def fewR (r : S122) : Bool := decide ((r.f0.length : Int) ≤ 3) && r.f0.all fewL
def okL (l : S119) : Bool := uptoB 6 l.f0 && l.f1.all (uptoB 30)
def okR (r : S122) : Bool := decide (0 < (r.f0.length : Int)) && r.f0.all okL
def risesB : List Int → Bool
  | [] => true
  | x :: xs => (match xs with | [] => true | y :: _ => decide (x < y)) && risesB xs
/-- The error of a post. -/
def big (sends : List Int) (routes : List S122) : Bool := decide ((sends.length : Int) > 4) || decide ((routes.length : Int) > 3) || !routes.all fewR
def bad (sends : List Int) (routes : List S122) (pat : Int) : Bool :=
  decide (sends.length = 0) || decide (routes.length = 0) || !inB 0 30 pat || !sends.all (inB 0 30) || !risesB sends || !routes.all okR
def check (sends : List Int) (routes : List S122) (pat : Int) : Int := if big sends routes then 3 else if bad sends routes pat then 1 else 0
end Go.Proofs.Ytiephlhohgohcaa.PAll
namespace Go.Proofs.Ytiephlhohgohcaa.PAll
open Go.RowKit Go.Proofs.YtiephlhohgohcaaW.PrintWords Go.Proofs.YtiephlhohgohcaaW.PrintLast Go.Proofs.YtiephlhohgohcaaW.PrintMore
def asleepAt (l : S119) (h : Int) : Bool := l.f1.any fun r => inB r.f0 r.f1 h
def awakeF : Nat → S119 → Int → Int
  | 0, _, h => h
  | k + 1, l, h => if asleepAt l h then awakeF k l (h + 1) else h
/-- The first hour, from one on, at which nobody is asleep. -/
def awakeL (l : S119) (h : Int) : Int := awakeF 40 l h
theorem awakeF_of (l : S119) : ∀ (n k : Nat) (h : Int), n ≤ k → (∀ j : Nat, j < n → asleepAt l (h + j) = true) → asleepAt l (h + n) = false → awakeF k l h = h + n
  | 0, 0, h, _, _, _ => by simp [awakeF]
  | 0, k + 1, h, _, _, h1 => by simp at h1; simp [awakeF, h1]
  | n + 1, 0, _, hk, _, _ => absurd hk (by omega)
  | n + 1, k + 1, h, hk, h0, h1 => by
    have h00 := h0 0 (by omega)
    simp at h00
    rw [awakeF, if_pos h00, awakeF_of l n k (h + 1) (by omega) (fun j hj => by have := h0 (j + 1) (by omega); rw [show h + 1 + (j : Int) = h + ((j + 1 : Nat) : Int) by omega]; exact this) (by rw [show h + 1 + (n : Int) = h + ((n + 1 : Nat) : Int) by omega]; exact h1)]
    omega
/-- All that is asked of a leg so that nobody sleeps behind hour 30. -/
def Wakes (l : S119) : Prop := ∀ r ∈ l.f1, r.f1 ≤ 30
theorem asleep_late {l : S119} (hl : Wakes l) {h : Int} (hh : 31 ≤ h) : asleepAt l h = false := by
  rw [asleepAt, List.any_eq_false]
  intro r hr
  have := hl r hr
  simp [inB]; omega
theorem asleep_le {l : S119} (hl : Wakes l) {h : Int} (ha : asleepAt l h = true) : h ≤ 30 := by
  by_cases hh : 31 ≤ h
  · rw [asleep_late hl hh] at ha; cases ha
  · omega
/-- What is known of it. -/
theorem awakeF_spec (l : S119) (hl : Wakes l) : ∀ (k : Nat) (h : Int), 31 ≤ h + k → 0 ≤ h →
    h ≤ awakeF k l h ∧ (awakeF k l h = h ∨ awakeF k l h ≤ 31) ∧ asleepAt l (awakeF k l h) = false ∧ (∀ j, h ≤ j → j < awakeF k l h → asleepAt l j = true)
  | 0, h, hk, _ => by
    rw [awakeF]; exact ⟨by omega, .inl rfl, asleep_late hl (by omega), fun j h1 h2 => by omega⟩
  | k + 1, h, hk, h0 => by
    rw [awakeF]
    by_cases ha : asleepAt l h = true
    · rw [if_pos ha]
      have h30 := asleep_le hl ha
      obtain ⟨h1, h2, h3, h4⟩ := awakeF_spec l hl k (h + 1) (by omega) (by omega)
      refine ⟨by omega, .inr (by rcases h2 with h2 | h2 <;> omega), h3, fun j hj hj2 => ?_⟩
      by_cases e : j = h
      · rw [e]; exact ha
      · exact h4 j (by omega) hj2
    · rw [if_neg ha]
      exact ⟨by omega, .inl rfl, by simpa using ha, fun j h1 h2 => by omega⟩
theorem awakeL_spec {l : S119} (hl : Wakes l) {h : Int} (h0 : 0 ≤ h) :
    h ≤ awakeL l h ∧ (awakeL l h = h ∨ awakeL l h ≤ 31) ∧ asleepAt l (awakeL l h) = false ∧ (∀ j, h ≤ j → j < awakeL l h → asleepAt l j = true) :=
  awakeF_spec l hl 40 h (by omega) h0
/-- The hour at which a copy is at the receiver. -/
def comesL : List S119 → Int → List Int → Int
  | [], s, _ => s
  | l :: ls, s, t => comesL ls (awakeL l (s + t.headD 0)) t.tail
end Go.Proofs.Ytiephlhohgohcaa.PAll
namespace Go.Proofs.Ytiephlhohgohcaa.PAll
open Go.RowKit Go.Proofs.YtiephlhohgohcaaW.PrintWords Go.Proofs.YtiephlhohgohcaaW.PrintLast Go.Proofs.YtiephlhohgohcaaW.PrintMore
attribute [local go_sem] max2_int min2_int max_two min_two max_three min_three max_four min_four   -- for this text's walks alone
set_option linter.unusedVariables false
set_option linter.unusedSimpArgs false
def copies_Post_deadline.f (l0_0 : List Int) (l0_1 : List (S122)) (a0_2 : Int) (a1 : Int) : Option (Int) := if 0 ≤ a1 then (if a1 < (l0_0.length : Int) then (some (wrap64 ((rd l0_0 a1) + a0_2))) else (none)) else (none)
set_option maxHeartbeats 8000000 in
set_option maxRecDepth 100000 in
theorem copies_Post_deadline.calls (A0_0 : Option Addr) (c0_0 : Nat) (l0_0 : List Int) (A0_1 : Option Addr) (c0_1 : Nat) (l0_1 : List (S122)) (a0_2 : Int) (a1 : Int) (r : Int) (w : World) (hr0_0 : Kd.C (Kd.int .i64) w A0_0 l0_0.length l0_0) (hc0_0 : l0_0.length ≤ c0_0) (hr0_1 : Kd.C k122 w A0_1 l0_1.length l0_1) (hc0_1 : l0_1.length ≤ c0_1) (h : copies_Post_deadline.f l0_0 l0_1 a0_2 a1 = some r) :
  Calls Try.prog 84 #[.agg #[.slice A0_0 l0_0.length c0_0, .slice A0_1 l0_1.length c0_1, .int .i64 a0_2], .int .i64 a1] w fun e w' => e = .returned (.int .i64 r) ∧ Below w.heap.size w w' := by
 have hu34 := Try.underlying34
 have HR0_0 := Aside0.mk hr0_0
 have HC0_0 := Aside0.mk hc0_0
 clear hr0_0 hc0_0
 have HR0_1 := Aside0.mk hr0_1
 have HC0_1 := Aside0.mk hc0_1
 clear hr0_1 hc0_1
 have HB := Aside0.mk (Below.refl w.heap.size w)
 have H : (if 0 ≤ a1 then (if a1 < (l0_0.length : Int) then (some (wrap64 ((rd l0_0 a1) + a0_2))) else (none)) else (none)) = some r := h
 clear h
 by_cases c3 : 0 ≤ a1
 ·rw [if_pos c3] at H
  have c3b0 : decide (0 ≤ a1) = true := decide_eq_true c3
  clear c3
  by_cases c4 : a1 < (l0_0.length : Int)
  ·rw [if_pos c4] at H
   have c4b0 : decide (a1 < (l0_0.length : Int)) = true := decide_eq_true c4
   clear c4
   obtain rfl := Option.some.inj H
   go_enter Try.func84, Try.ntmps84
   go_wp2_with (first | ((with_reducible refine gate_dst (N := 2) rfl ?_); refine box_event ?hg (N := 2) ?hd (cs := #[.slice A0_0 l0_0.length c0_0, .slice A0_1 l0_1.length c0_1, .int .i64 a0_2]) (t := 34) ?hr ?_; (case hd => rfl); (case hg => rfl); (case hr => first | (go_simp; done) | (go_simp; rfl)); intro gb128 hg w5 hbox hb; have n0_ := Aside0.mk (below_step (by repeat (first | (with_reducible first | exact HB.out | apply below_alloc | apply pw_below_drewN | apply below_drew1) | exact HB.out)) hb); have n1_ := Aside0.mk (hbox); have n2_ := Aside0.mk ((by rw [hg]; exact (below_size (by repeat (first | (with_reducible first | exact HB.out | apply below_alloc | apply pw_below_drewN | apply below_drew1) | exact HB.out))) : w.heap.size ≤ gb128)); have n3_ := Aside0.mk ((by rw [hg]; exact (below_size (by repeat (first | (with_reducible first | exact HB.out | apply below_alloc | apply pw_below_drewN | apply below_drew1) | exact HB.out))) : w.heap.size ≤ gb128)); clear HB; have HB := n0_; have BK128 := n1_; have GW128 := n2_; have GE128 := n3_; clear n0_ n1_ n2_ n3_; clear hb hbox hg; have hcz6_0 : w5.cell? ⟨gb128, 0, none⟩ = some (.slice A0_0 l0_0.length c0_0) := (blk_cell BK128.out 0).trans rfl; have hcz6_1 : w5.cell? ⟨gb128, 1, none⟩ = some (.slice A0_1 l0_1.length c0_1) := (blk_cell BK128.out 1).trans rfl; have hcz6_2 : w5.cell? ⟨gb128, 2, none⟩ = some (.int .i64 a0_2) := (blk_cell BK128.out 2).trans rfl; have hfz6_0 := blk_frozen BK128.out 0; have hfz6_1 := blk_frozen BK128.out 1; have hfz6_2 := blk_frozen BK128.out 2; have p129 : 0 ≤ (a1 : Int) := of_decide_eq_true (by first | (with_reducible assumption) | assumption); have q129 : a1 < (l0_0.length : Int) := of_decide_eq_true (by first | (with_reducible assumption) | assumption); obtain ⟨ad129, e129, hx129_0⟩ := Kd.at_int HR0_0.out a1 p129 q129; cases e129; replace hx129_0 := (HB.out.cell (World.block_lt_of_cell? w _ hx129_0)).trans hx129_0; replace p129 := eq_true p129; replace q129 := eq_true q129))
   repeat (go_quiet (first | ((with_reducible refine gate_dst (N := 2) rfl ?_); refine box_event ?hg (N := 2) ?hd (cs := #[.slice A0_0 l0_0.length c0_0, .slice A0_1 l0_1.length c0_1, .int .i64 a0_2]) (t := 34) ?hr ?_; (case hd => rfl); (case hg => rfl); (case hr => first | (go_simp; done) | (go_simp; rfl)); intro gb128 hg w5 hbox hb; have n0_ := Aside0.mk (below_step (by repeat (first | (with_reducible first | exact HB.out | apply below_alloc | apply pw_below_drewN | apply below_drew1) | exact HB.out)) hb); have n1_ := Aside0.mk (hbox); have n2_ := Aside0.mk ((by rw [hg]; exact (below_size (by repeat (first | (with_reducible first | exact HB.out | apply below_alloc | apply pw_below_drewN | apply below_drew1) | exact HB.out))) : w.heap.size ≤ gb128)); have n3_ := Aside0.mk ((by rw [hg]; exact (below_size (by repeat (first | (with_reducible first | exact HB.out | apply below_alloc | apply pw_below_drewN | apply below_drew1) | exact HB.out))) : w.heap.size ≤ gb128)); clear HB; have HB := n0_; have BK128 := n1_; have GW128 := n2_; have GE128 := n3_; clear n0_ n1_ n2_ n3_; clear hb hbox hg; have hcz6_0 : w5.cell? ⟨gb128, 0, none⟩ = some (.slice A0_0 l0_0.length c0_0) := (blk_cell BK128.out 0).trans rfl; have hcz6_1 : w5.cell? ⟨gb128, 1, none⟩ = some (.slice A0_1 l0_1.length c0_1) := (blk_cell BK128.out 1).trans rfl; have hcz6_2 : w5.cell? ⟨gb128, 2, none⟩ = some (.int .i64 a0_2) := (blk_cell BK128.out 2).trans rfl; have hfz6_0 := blk_frozen BK128.out 0; have hfz6_1 := blk_frozen BK128.out 1; have hfz6_2 := blk_frozen BK128.out 2; have p129 : 0 ≤ (a1 : Int) := of_decide_eq_true (by first | (with_reducible assumption) | assumption); have q129 : a1 < (l0_0.length : Int) := of_decide_eq_true (by first | (with_reducible assumption) | assumption); obtain ⟨ad129, e129, hx129_0⟩ := Kd.at_int HR0_0.out a1 p129 q129; cases e129; replace hx129_0 := (HB.out.cell (World.block_lt_of_cell? w _ hx129_0)).trans hx129_0; replace p129 := eq_true p129; replace q129 := eq_true q129)); try go_wp2_with (first | ((with_reducible refine gate_dst (N := 2) rfl ?_); refine box_event ?hg (N := 2) ?hd (cs := #[.slice A0_0 l0_0.length c0_0, .slice A0_1 l0_1.length c0_1, .int .i64 a0_2]) (t := 34) ?hr ?_; (case hd => rfl); (case hg => rfl); (case hr => first | (go_simp; done) | (go_simp; rfl)); intro gb128 hg w5 hbox hb; have n0_ := Aside0.mk (below_step (by repeat (first | (with_reducible first | exact HB.out | apply below_alloc | apply pw_below_drewN | apply below_drew1) | exact HB.out)) hb); have n1_ := Aside0.mk (hbox); have n2_ := Aside0.mk ((by rw [hg]; exact (below_size (by repeat (first | (with_reducible first | exact HB.out | apply below_alloc | apply pw_below_drewN | apply below_drew1) | exact HB.out))) : w.heap.size ≤ gb128)); have n3_ := Aside0.mk ((by rw [hg]; exact (below_size (by repeat (first | (with_reducible first | exact HB.out | apply below_alloc | apply pw_below_drewN | apply below_drew1) | exact HB.out))) : w.heap.size ≤ gb128)); clear HB; have HB := n0_; have BK128 := n1_; have GW128 := n2_; have GE128 := n3_; clear n0_ n1_ n2_ n3_; clear hb hbox hg; have hcz6_0 : w5.cell? ⟨gb128, 0, none⟩ = some (.slice A0_0 l0_0.length c0_0) := (blk_cell BK128.out 0).trans rfl; have hcz6_1 : w5.cell? ⟨gb128, 1, none⟩ = some (.slice A0_1 l0_1.length c0_1) := (blk_cell BK128.out 1).trans rfl; have hcz6_2 : w5.cell? ⟨gb128, 2, none⟩ = some (.int .i64 a0_2) := (blk_cell BK128.out 2).trans rfl; have hfz6_0 := blk_frozen BK128.out 0; have hfz6_1 := blk_frozen BK128.out 1; have hfz6_2 := blk_frozen BK128.out 2; have p129 : 0 ≤ (a1 : Int) := of_decide_eq_true (by first | (with_reducible assumption) | assumption); have q129 : a1 < (l0_0.length : Int) := of_decide_eq_true (by first | (with_reducible assumption) | assumption); obtain ⟨ad129, e129, hx129_0⟩ := Kd.at_int HR0_0.out a1 p129 q129; cases e129; replace hx129_0 := (HB.out.cell (World.block_lt_of_cell? w _ hx129_0)).trans hx129_0; replace p129 := eq_true p129; replace q129 := eq_true q129)))
   go_ret
   exact ⟨by first | rfl | (simp [errW_none, errW_some] <;> rfl) | (simp [*, errW_none, errW_some] <;> rfl), by repeat (first | (with_reducible first | exact HB.out | apply below_alloc | apply pw_below_drewN | apply below_drew1 | refine below_set ?_ GE128.out) | exact HB.out)⟩
  ·rw [if_neg c4] at H
   exact absurd H (by simp)
 ·rw [if_neg c3] at H
  exact absurd H (by simp)
end Go.Proofs.Ytiephlhohgohcaa.PAll
namespace Go.Proofs.Ytiephlhohgohcaa.PAll
open Go.RowKit Go.Proofs.YtiephlhohgohcaaW.PrintWords Go.Proofs.YtiephlhohgohcaaW.PrintLast Go.Proofs.YtiephlhohgohcaaW.PrintMore
/-- When a copy comes: 101 if it is lost. -/
def comeR (r : S122) (sent : Int) (t : List Int) : Int := if t.length = 0 then 101 else comesL r.f0 sent t
def hourL : List S122 → Int → List (List Int) → Int → Int
  | r :: rs, s, t :: ts, h => hourL rs s ts (min h (comeR r s t))
  | _, _, _, h => h
/-- What becomes of a dispatch with an hour and a deadline. -/
def recvE (n before hour D : Int) : S87 := ⟨n, max before (min hour D), decide (D < hour)⟩
def playL (routes : List S122) (pat : Int) : Int → Int → List Int → List (List (List Int)) → List S87
  | n, before, s :: ss, l :: ls => recvE n before (hourL routes s l 101) (s + pat) :: playL routes pat (n + 1) (recvE n before (hourL routes s l 101) (s + pat)).f1 ss ls
  | _, _, _, _ => []
/-- A truth has the right shape, and its numbers are of their ranges. -/
def fitsT (r : S122) (t : List Int) : Prop := (t.length = 0 ∨ t.length = r.f0.length) ∧ ∀ x ∈ t, 0 ≤ x ∧ x ≤ 6
def rangesB : List S119 → List Int → Bool
  | l :: ls, n :: ns => inB l.f0.f0 l.f0.f1 n && rangesB ls ns
  | _, _ => true
def restRow : Bool → List S122 → List (List Int) → Option Bool
  | right, r :: rs, tk :: ts => if (r.f1 && tk.length == 0) = true then restRow right rs ts else if tk.length = r.f0.length then restRow (right && rangesB r.f0 tk) rs ts else none
  | right, _, _ => some right
def restT (routes : List S122) : Bool → List (List (List Int)) → Int
  | right, l :: ls => if l.length = routes.length then (match restRow right routes l with | none => 2 | some b => restT routes b ls) else 2
  | right, [] => if right then 0 else 11
/-- The error of a truth. -/
def shapedL (sends : List Int) (routes : List S122) (t : List (List (List Int))) : Int := if t.length = sends.length then restT routes true t else 2
/-- What the walks ask of a post. -/
structure PostOk (sends : List Int) (routes : List S122) (pat : Int) : Prop where
  sn : sends.length ≤ 100
  rn : routes.length ≤ 100
  s0 : ∀ s ∈ sends, 0 ≤ s ∧ s ≤ 30
  p0 : 0 ≤ pat ∧ pat ≤ 30
  ln : ∀ r ∈ routes, r.f0.length ≤ 100
  wk : ∀ r ∈ routes, ∀ l ∈ r.f0, Wakes l
end Go.Proofs.Ytiephlhohgohcaa.PAll
namespace Go.Proofs.Ytiephlhohgohcaa.PAll
open Go.RowKit Go.Proofs.YtiephlhohgohcaaW.PrintWords Go.Proofs.YtiephlhohgohcaaW.PrintLast Go.Proofs.YtiephlhohgohcaaW.PrintMore
theorem check_zero {sends : List Int} {routes : List S122} {pat : Int} (h : check sends routes pat = 0) : big sends routes = false ∧ bad sends routes pat = false := by
  unfold check at h
  cases hb : big sends routes <;> cases hd : bad sends routes pat <;> simp [hb, hd] at h ⊢
theorem inB_iff {lo hi n : Int} : inB lo hi n = true ↔ lo ≤ n ∧ n ≤ hi := by simp [inB]
/-- What is known of a valid post, as said in the chapter. -/
structure Valid (sends : List Int) (routes : List S122) (pat : Int) : Prop where
  sn : sends.length ≤ 4
  rn : routes.length ≤ 3
  s1 : 0 < sends.length
  r1 : 0 < routes.length
  s0 : ∀ s ∈ sends, 0 ≤ s ∧ s ≤ 30
  p0 : 0 ≤ pat ∧ pat ≤ 30
  up : risesB sends = true
  ln : ∀ r ∈ routes, 0 < r.f0.length ∧ r.f0.length ≤ 3
  an : ∀ r ∈ routes, ∀ l ∈ r.f0, l.f1.length ≤ 2
  tk : ∀ r ∈ routes, ∀ l ∈ r.f0, 0 ≤ l.f0.f0 ∧ l.f0.f0 ≤ l.f0.f1 ∧ l.f0.f1 ≤ 6
  sl : ∀ r ∈ routes, ∀ l ∈ r.f0, ∀ q ∈ l.f1, 0 ≤ q.f0 ∧ q.f0 ≤ q.f1 ∧ q.f1 ≤ 30
theorem valid_of {sends : List Int} {routes : List S122} {pat : Int} (h : check sends routes pat = 0) : Valid sends routes pat := by
  obtain ⟨hb, hd⟩ := check_zero h
  simp only [big, Bool.or_eq_false_iff, decide_eq_false_iff_not, Bool.not_eq_false', List.all_eq_true] at hb
  simp only [bad, Bool.or_eq_false_iff, decide_eq_false_iff_not, Bool.not_eq_false', List.all_eq_true, inB_iff] at hd
  obtain ⟨⟨b1, b2⟩, b3⟩ := hb
  obtain ⟨⟨⟨⟨⟨d1, d2⟩, d3⟩, d4⟩, d5⟩, d6⟩ := hd
  refine ⟨by omega, by omega, by omega, by omega, d4, d3, d5, fun r hr => ?_, fun r hr l hl => ?_, fun r hr l hl => ?_, fun r hr l hl q hq => ?_⟩
  · have h1 := b3 r hr; have h2 := d6 r hr
    simp only [fewR, okR, Bool.and_eq_true, decide_eq_true_eq] at h1 h2
    omega
  · have h1 := b3 r hr
    simp only [fewR, Bool.and_eq_true, decide_eq_true_eq, List.all_eq_true, fewL] at h1
    have := h1.2 l hl
    omega
  · have h2 := d6 r hr
    simp only [okR, Bool.and_eq_true, decide_eq_true_eq, List.all_eq_true, okL, uptoB] at h2
    have := (h2.2 l hl).1
    omega
  · have h2 := d6 r hr
    simp only [okR, Bool.and_eq_true, decide_eq_true_eq, List.all_eq_true, okL, uptoB] at h2
    have := (h2.2 l hl).2 q hq
    omega
theorem Valid.ok {sends : List Int} {routes : List S122} {pat : Int} (h : Valid sends routes pat) : PostOk sends routes pat :=
  ⟨by have := h.sn; omega, by have := h.rn; omega, h.s0, h.p0, fun r hr => by have := h.ln r hr; omega, fun r hr l hl q hq => (h.sl r hr l hl q hq).2.2⟩
theorem ranges_fit : ∀ (ls : List S119) (ns : List Int), ls.length = ns.length → rangesB ls ns = true → (∀ l ∈ ls, 0 ≤ l.f0.f0 ∧ l.f0.f0 ≤ l.f0.f1 ∧ l.f0.f1 ≤ 6) → ∀ x ∈ ns, 0 ≤ x ∧ x ≤ 6
  | [], [], _, _, _ => fun x hx => by cases hx
  | l :: ls, n :: ns, hlen, h, hl => fun x hx => by
    simp only [rangesB, Bool.and_eq_true, inB_iff] at h
    rcases List.mem_cons.1 hx with rfl | hx
    · have := hl l (List.mem_cons_self ..); omega
    · exact ranges_fit ls ns (by simpa using hlen) h.2 (fun l hl' => hl l (List.mem_cons_of_mem _ hl')) x hx
theorem restRow_false : ∀ (rs : List S122) (ts : List (List Int)), restRow false rs ts = some true → False
  | [], _, h => by simp [restRow] at h
  | r :: rs, [], h => by simp [restRow] at h
  | r :: rs, tk :: ts, h => by
    rw [restRow] at h
    split at h
    · exact restRow_false rs ts h
    · split at h
      · rw [Bool.false_and] at h; exact restRow_false rs ts h
      · cases h
theorem restRow_fit : ∀ (rs : List S122) (ts : List (List Int)) (right : Bool), restRow right rs ts = some true → right = true ∧
    ∀ (k : Nat) (hk : k < ts.length) (hk' : k < rs.length), (rs[k].f1 = true ∧ ts[k].length = 0) ∨ (ts[k].length = rs[k].f0.length ∧ rangesB rs[k].f0 ts[k] = true)
  | [], ts, right, h => by
    simp [restRow] at h
    exact ⟨h, fun k _ hk' => absurd hk' (by simp)⟩
  | r :: rs, [], right, h => by
    simp [restRow] at h
    exact ⟨h, fun k hk _ => absurd hk (by simp)⟩
  | r :: rs, tk :: ts, right, h => by
    rw [restRow] at h
    split at h
    · rename_i hc
      obtain ⟨h1, h2⟩ := restRow_fit rs ts right h
      refine ⟨h1, fun k hk hk' => ?_⟩
      cases k with
      | zero => simp at hc; exact .inl ⟨hc.1, by simp [hc.2]⟩
      | succ k => exact h2 k (by simpa using hk) (by simpa using hk')
    · split at h
      · rename_i hc hl
        obtain ⟨h1, h2⟩ := restRow_fit rs ts _ h
        simp only [Bool.and_eq_true] at h1
        refine ⟨h1.1, fun k hk hk' => ?_⟩
        cases k with
        | zero => exact .inr ⟨hl, h1.2⟩
        | succ k => exact h2 k (by simpa using hk) (by simpa using hk')
      · cases h
theorem restT_false (routes : List S122) : ∀ ls, restT routes false ls = 0 → False
  | [], h => by simp [restT] at h
  | l :: ls, h => by
    rw [restT] at h
    split at h
    · split at h
      · cases h
      · rename_i b hb
        cases b with
        | false => exact restT_false routes ls h
        | true => exact restRow_false _ _ hb
    · cases h
theorem restT_fit (routes : List S122) : ∀ ls, restT routes true ls = 0 → ∀ l ∈ ls, l.length = routes.length ∧ restRow true routes l = some true
  | [], _ => fun l hl => by cases hl
  | x :: ls, h => by
    rw [restT] at h
    split at h
    · rename_i hlen
      split at h
      · cases h
      · rename_i b hb
        cases b with
        | false => exact (restT_false routes ls h).elim
        | true =>
          intro l hl
          rcases List.mem_cons.1 hl with rfl | hl
          · exact ⟨hlen, hb⟩
          · exact restT_fit routes ls h l hl
    · cases h
/-- A truth of a post: of the right shape, all numbers in their ranges. -/
structure IsTruth (sends : List Int) (routes : List S122) (t : List (List (List Int))) : Prop where
  tn : t.length = sends.length
  ln : ∀ l ∈ t, l.length = routes.length
  fit : ∀ l ∈ t, ∀ (k : Nat) (hk : k < l.length) (hk' : k < routes.length), (routes[k].f1 = true ∧ l[k].length = 0) ∨ (l[k].length = routes[k].f0.length ∧ rangesB routes[k].f0 l[k] = true)
theorem truth_of {sends : List Int} {routes : List S122} {t : List (List (List Int))} (h : shapedL sends routes t = 0) : IsTruth sends routes t := by
  unfold shapedL at h
  split at h
  · rename_i hl
    have h1 := restT_fit routes t h
    exact ⟨hl, fun l hl => (h1 l hl).1, fun l hl => (restRow_fit routes l true (h1 l hl).2).2⟩
  · cases h
theorem IsTruth.fits {sends : List Int} {routes : List S122} {pat : Int} {t : List (List (List Int))} (v : Valid sends routes pat) (h : IsTruth sends routes t) : ∀ l ∈ t, ∀ (k : Nat) (hk : k < l.length) (hk' : k < routes.length), fitsT routes[k] l[k] := by
  intro l hl k hk hk'
  rcases h.fit l hl k hk hk' with ⟨_, h0⟩ | ⟨h1, h2⟩
  · exact ⟨.inl h0, fun x hx => by have := List.length_pos_of_mem hx; omega⟩
  · exact ⟨.inr h1, ranges_fit _ _ h1.symm h2 (v.tk _ (List.getElem_mem hk'))⟩
/-- What Play returns: the journal, the error. -/
def playRes (sends : List Int) (routes : List S122) (pat : Int) (t : List (List (List Int))) : List S87 × Int :=
  if check sends routes pat ≠ 0 then ([], check sends routes pat) else if shapedL sends routes t ≠ 0 then ([], shapedL sends routes t) else (playL routes pat 0 0 sends t, 0)
end Go.Proofs.Ytiephlhohgohcaa.PAll
namespace Go.Proofs.Ytiephlhohgohcaa.PAll
open Go.RowKit Go.Proofs.YtiephlhohgohcaaW.PrintWords Go.Proofs.YtiephlhohgohcaaW.PrintLast Go.Proofs.YtiephlhohgohcaaW.PrintMore
attribute [local go_sem] max2_int min2_int max_two min_two max_three min_three max_four min_four   -- for this text's walks alone
set_option linter.unusedVariables false
set_option linter.unusedSimpArgs false
def glisterlaw05_same.l0 : Nat → List (S87) → List (S108) → Int → Option (Bool)
 | 0, _, _, _ => none
 | k + 1, x0, x1, x5 => if x5 < (x0.length : Int) then (if 0 ≤ x5 then (if x5 < (x1.length : Int) then (if ((rd_T87 x0 x5).f0) = ((rd_T108 x1 x5).f0) then (if ((rd_T87 x0 x5).f1) = ((rd_T108 x1 x5).f1) then (if (((rd_T87 x0 x5).f2) != ((rd_T108 x1 x5).f2)) = true then (some false) else (glisterlaw05_same.l0 k x0 x1 (wrap64 (x5 + 1)))) else (some false)) else (some false)) else (none)) else (none)) else (some true)
def glisterlaw05_same.f (k : Nat) (l0 : List (S87)) (l1 : List (S108)) : Option (Bool) := if (l0.length : Int) = (l1.length : Int) then (glisterlaw05_same.l0 k l0 l1 0) else (some false)
theorem glisterlaw05_same.mono_l : ∀ k, (∀ y0 y1 y2, LeO (glisterlaw05_same.l0 k y0 y1 y2) (glisterlaw05_same.l0 (k + 1) y0 y1 y2))
 | 0 => fun _ _ _ r h => by simp [glisterlaw05_same.l0] at h
 | k + 1 => by
  have ih0 := glisterlaw05_same.mono_l k
  ·intro y0 y1 y2
   unfold glisterlaw05_same.l0
   repeat' first
   | (with_reducible exact ih0 _ _ _)
   | (with_reducible exact LeO.refl _)
   | (with_reducible exact LeO.none _)
   | (with_reducible refine LeO.ite ?_ ?_)
   | (with_reducible refine LeO.bind ?_ (fun _ => ?_))
   | exact ih0 _ _ _
   | exact LeO.none _
   | refine LeO.ite ?_ ?_
   | refine LeO.bind ?_ (fun _ => ?_)
theorem glisterlaw05_same.mono : ∀ a0 a1 k, LeO (glisterlaw05_same.f k a0 a1) (glisterlaw05_same.f (k + 1) a0 a1) := by
 intro a0 a1 k
 have ih0 := glisterlaw05_same.mono_l k
 unfold glisterlaw05_same.f
 repeat' first
   | (with_reducible exact ih0 _ _ _)
   | (with_reducible exact LeO.refl _)
   | (with_reducible exact LeO.none _)
   | (with_reducible refine LeO.ite ?_ ?_)
   | (with_reducible refine LeO.bind ?_ (fun _ => ?_))
   | exact ih0 _ _ _
   | exact LeO.none _
   | refine LeO.ite ?_ ?_
   | refine LeO.bind ?_ (fun _ => ?_)
set_option maxHeartbeats 8000000 in
set_option maxRecDepth 100000 in
theorem glisterlaw05_same.calls (k : Nat) (A0 : Option Addr) (c0 : Nat) (l0 : List (S87)) (A1 : Option Addr) (c1 : Nat) (l1 : List (S108)) (r : Bool) (w : World) (hr0 : Kd.C k87 w A0 l0.length l0) (hc0 : l0.length ≤ c0) (hr1 : Kd.C k108 w A1 l1.length l1) (hc1 : l1.length ≤ c1) (h : glisterlaw05_same.f k l0 l1 = some r) :
  Calls Try.prog 27 #[.slice A0 l0.length c0, .slice A1 l1.length c1] w fun e w' => e = .returned (.bool r) ∧ Drawn0 w w' := by
 have HR0 := Aside0.mk hr0
 have HC0 := Aside0.mk hc0
 clear hr0 hc0
 have HR1 := Aside0.mk hr1
 have HC1 := Aside0.mk hc1
 clear hr1 hc1
 have H : (if (l0.length : Int) = (l1.length : Int) then (glisterlaw05_same.l0 k l0 l1 0) else (some false)) = some r := h
 clear h
 by_cases c3 : (l0.length : Int) = (l1.length : Int)
 ·rw [if_pos c3] at H
  have c3b0 : ((l0.length : Int) == (l1.length : Int)) = true := beq_iff_eq.mpr c3
  have c3b1 : ((l0.length : Int) != (l1.length : Int)) = false := bne_eq_false_iff_eq.mpr c3
  have c3b2 : (l0.length == l1.length) = true := by first | simpa using c3 | (simp at c3 ⊢; omega)
  clear c3
  have H' := Aside0.mk H
  clear H
  go_enter Try.func27, Try.ntmps27
  go_wp2
  repeat (go_quiet (fail); try go_wp2)
  go_loopg [5] k (fun kq v5 w' => ∃ (x5_1 : Int), v5 = .int .i64 x5_1 ∧ Aside0 (glisterlaw05_same.l0 kq l0 l1 x5_1 = some r) ∧ Aside0 (kq ≤ k) ∧ Drawn0 w w')
  case atStart => exact ⟨(0), (by first | rfl | (simp; done) | (simp [*]; done)), H', ⟨Nat.le_refl _⟩, by repeat (first | exact Drawn0.refl _ | apply Drawn0.step)⟩
  case round =>
   clear H'
   try clear c1
   try clear c2
   try clear p2
   try clear c3
   try clear c3b0
   try clear c3b1
   try clear c3b2
   obtain ⟨x5_1, rfl, HA, HK1, ⟨m1, rfl⟩⟩ := hrel
   cases gk with
   | zero => exact absurd HA.out (by simp [glisterlaw05_same.l0])
   | succ k1 =>
    have H := HA.out
    clear HA
    simp only [glisterlaw05_same.l0] at H
    by_cases c4 : x5_1 < (l0.length : Int)
    ·rw [if_pos c4] at H
     have c4b0 : decide (x5_1 < (l0.length : Int)) = true := decide_eq_true c4
     clear c4
     by_cases c5 : 0 ≤ x5_1
     ·rw [if_pos c5] at H
      have c5b0 : decide (0 ≤ x5_1) = true := decide_eq_true c5
      clear c5
      by_cases c6 : x5_1 < (l1.length : Int)
      ·rw [if_pos c6] at H
       have c6b0 : decide (x5_1 < (l1.length : Int)) = true := decide_eq_true c6
       clear c6
       by_cases c7 : ((rd_T87 l0 x5_1).f0) = ((rd_T108 l1 x5_1).f0)
       ·rw [if_pos c7] at H
        have c7b0 : (((rd_T87 l0 x5_1).f0) == ((rd_T108 l1 x5_1).f0)) = true := beq_iff_eq.mpr c7
        have c7b1 : (((rd_T87 l0 x5_1).f0) != ((rd_T108 l1 x5_1).f0)) = false := bne_eq_false_iff_eq.mpr c7
        clear c7
        by_cases c8 : ((rd_T87 l0 x5_1).f1) = ((rd_T108 l1 x5_1).f1)
        ·rw [if_pos c8] at H
         have c8b0 : (((rd_T87 l0 x5_1).f1) == ((rd_T108 l1 x5_1).f1)) = true := beq_iff_eq.mpr c8
         have c8b1 : (((rd_T87 l0 x5_1).f1) != ((rd_T108 l1 x5_1).f1)) = false := bne_eq_false_iff_eq.mpr c8
         clear c8
         by_cases c9 : (((rd_T87 l0 x5_1).f2) != ((rd_T108 l1 x5_1).f2)) = true
         ·rw [if_pos c9] at H
          have c9b0 : (((rd_T87 l0 x5_1).f2) != ((rd_T108 l1 x5_1).f2)) = true := c9
          (try (have c9b1 : decide (((rd_T87 l0 x5_1).f2) = ((rd_T108 l1 x5_1).f2)) = false := by simpa using c9))
          (try (have c9b2 : (((rd_T87 l0 x5_1).f2) == ((rd_T108 l1 x5_1).f2)) = false := by simpa using c9))
          (try (have c9b3 : ¬ (((rd_T87 l0 x5_1).f2) = ((rd_T108 l1 x5_1).f2)) := by simpa using c9))
          clear c9
          obtain rfl := Option.some.inj H
          have p142 : 0 ≤ (x5_1 : Int) := of_decide_eq_true (by first | (with_reducible assumption) | assumption)
          have q142 : x5_1 < (l0.length : Int) := of_decide_eq_true (by first | (with_reducible assumption) | assumption)
          obtain ⟨ad142, e142, hx142_0, hx142_1, hx142_2⟩ := at_T87 HR0.out x5_1 p142 q142
          cases e142
          replace p142 := eq_true p142
          replace q142 := eq_true q142
          have p143 : 0 ≤ (x5_1 : Int) := of_decide_eq_true (by first | (with_reducible assumption) | assumption)
          have q143 : x5_1 < (l1.length : Int) := of_decide_eq_true (by first | (with_reducible assumption) | assumption)
          obtain ⟨ad143, e143, hx143_0, hx143_1, hx143_2⟩ := at_T108 HR1.out x5_1 p143 q143
          cases e143
          replace p143 := eq_true p143
          replace q143 := eq_true q143
          have p144 : 0 ≤ (x5_1 : Int) := of_decide_eq_true (by first | (with_reducible assumption) | assumption)
          have q144 : x5_1 < (l0.length : Int) := of_decide_eq_true (by first | (with_reducible assumption) | assumption)
          obtain ⟨ad144, e144, hx144_0, hx144_1, hx144_2⟩ := at_T87 HR0.out x5_1 p144 q144
          obtain rfl : ad142 = ad144 := (by injection e144)
          replace p144 := eq_true p144
          replace q144 := eq_true q144
          have p145 : 0 ≤ (x5_1 : Int) := of_decide_eq_true (by first | (with_reducible assumption) | assumption)
          have q145 : x5_1 < (l1.length : Int) := of_decide_eq_true (by first | (with_reducible assumption) | assumption)
          obtain ⟨ad145, e145, hx145_0, hx145_1, hx145_2⟩ := at_T108 HR1.out x5_1 p145 q145
          obtain rfl : ad143 = ad145 := (by injection e145)
          replace p145 := eq_true p145
          replace q145 := eq_true q145
          have p146 : 0 ≤ (x5_1 : Int) := of_decide_eq_true (by first | (with_reducible assumption) | assumption)
          have q146 : x5_1 < (l0.length : Int) := of_decide_eq_true (by first | (with_reducible assumption) | assumption)
          obtain ⟨ad146, e146, hx146_0, hx146_1, hx146_2⟩ := at_T87 HR0.out x5_1 p146 q146
          obtain rfl : ad142 = ad146 := (by injection e146)
          replace p146 := eq_true p146
          replace q146 := eq_true q146
          have p147 : 0 ≤ (x5_1 : Int) := of_decide_eq_true (by first | (with_reducible assumption) | assumption)
          have q147 : x5_1 < (l1.length : Int) := of_decide_eq_true (by first | (with_reducible assumption) | assumption)
          obtain ⟨ad147, e147, hx147_0, hx147_1, hx147_2⟩ := at_T108 HR1.out x5_1 p147 q147
          obtain rfl : ad143 = ad147 := (by injection e147)
          replace p147 := eq_true p147
          replace q147 := eq_true q147
          go_wp2
          repeat (go_quiet (fail); try go_wp2)
          go_ret
          exact ⟨by first | rfl | (simp; done) | (simp [*]; done), by repeat (first | exact Drawn0.refl _ | apply Drawn0.step)⟩
         ·rw [if_neg c9] at H
          have c9b0 : (((rd_T87 l0 x5_1).f2) != ((rd_T108 l1 x5_1).f2)) = false := by simpa using c9
          (try (have c9b1 : decide (((rd_T87 l0 x5_1).f2) = ((rd_T108 l1 x5_1).f2)) = true := by simpa using c9))
          (try (have c9b2 : (((rd_T87 l0 x5_1).f2) == ((rd_T108 l1 x5_1).f2)) = true := by simpa using c9))
          clear c9
          have H' := Aside0.mk H
          clear H
          have p142 : 0 ≤ (x5_1 : Int) := of_decide_eq_true (by first | (with_reducible assumption) | assumption)
          have q142 : x5_1 < (l0.length : Int) := of_decide_eq_true (by first | (with_reducible assumption) | assumption)
          obtain ⟨ad142, e142, hx142_0, hx142_1, hx142_2⟩ := at_T87 HR0.out x5_1 p142 q142
          cases e142
          replace p142 := eq_true p142
          replace q142 := eq_true q142
          have p143 : 0 ≤ (x5_1 : Int) := of_decide_eq_true (by first | (with_reducible assumption) | assumption)
          have q143 : x5_1 < (l1.length : Int) := of_decide_eq_true (by first | (with_reducible assumption) | assumption)
          obtain ⟨ad143, e143, hx143_0, hx143_1, hx143_2⟩ := at_T108 HR1.out x5_1 p143 q143
          cases e143
          replace p143 := eq_true p143
          replace q143 := eq_true q143
          have p144 : 0 ≤ (x5_1 : Int) := of_decide_eq_true (by first | (with_reducible assumption) | assumption)
          have q144 : x5_1 < (l0.length : Int) := of_decide_eq_true (by first | (with_reducible assumption) | assumption)
          obtain ⟨ad144, e144, hx144_0, hx144_1, hx144_2⟩ := at_T87 HR0.out x5_1 p144 q144
          obtain rfl : ad142 = ad144 := (by injection e144)
          replace p144 := eq_true p144
          replace q144 := eq_true q144
          have p145 : 0 ≤ (x5_1 : Int) := of_decide_eq_true (by first | (with_reducible assumption) | assumption)
          have q145 : x5_1 < (l1.length : Int) := of_decide_eq_true (by first | (with_reducible assumption) | assumption)
          obtain ⟨ad145, e145, hx145_0, hx145_1, hx145_2⟩ := at_T108 HR1.out x5_1 p145 q145
          obtain rfl : ad143 = ad145 := (by injection e145)
          replace p145 := eq_true p145
          replace q145 := eq_true q145
          have p146 : 0 ≤ (x5_1 : Int) := of_decide_eq_true (by first | (with_reducible assumption) | assumption)
          have q146 : x5_1 < (l0.length : Int) := of_decide_eq_true (by first | (with_reducible assumption) | assumption)
          obtain ⟨ad146, e146, hx146_0, hx146_1, hx146_2⟩ := at_T87 HR0.out x5_1 p146 q146
          obtain rfl : ad142 = ad146 := (by injection e146)
          replace p146 := eq_true p146
          replace q146 := eq_true q146
          have p147 : 0 ≤ (x5_1 : Int) := of_decide_eq_true (by first | (with_reducible assumption) | assumption)
          have q147 : x5_1 < (l1.length : Int) := of_decide_eq_true (by first | (with_reducible assumption) | assumption)
          obtain ⟨ad147, e147, hx147_0, hx147_1, hx147_2⟩ := at_T108 HR1.out x5_1 p147 q147
          obtain rfl : ad143 = ad147 := (by injection e147)
          replace p147 := eq_true p147
          replace q147 := eq_true q147
          go_wp2
          repeat (go_quiet (fail); try go_wp2)
          go_roundg k1
          case measure => have := HK1.out; omega
          case rel => exact ⟨(wrap64 (x5_1 + 1)), (by first | rfl | (simp; done) | (simp [*]; done)), H', ⟨by have := HK1.out; omega⟩, by repeat (first | exact Drawn0.refl _ | apply Drawn0.step)⟩
        ·rw [if_neg c8] at H
         have c8b0 : (((rd_T87 l0 x5_1).f1) == ((rd_T108 l1 x5_1).f1)) = false := beq_eq_false_iff_ne.mpr c8
         have c8b1 : (((rd_T87 l0 x5_1).f1) != ((rd_T108 l1 x5_1).f1)) = true := bne_iff_ne.mpr c8
         obtain rfl := Option.some.inj H
         have p142 : 0 ≤ (x5_1 : Int) := of_decide_eq_true (by first | (with_reducible assumption) | assumption)
         have q142 : x5_1 < (l0.length : Int) := of_decide_eq_true (by first | (with_reducible assumption) | assumption)
         obtain ⟨ad142, e142, hx142_0, hx142_1, hx142_2⟩ := at_T87 HR0.out x5_1 p142 q142
         cases e142
         replace p142 := eq_true p142
         replace q142 := eq_true q142
         have p143 : 0 ≤ (x5_1 : Int) := of_decide_eq_true (by first | (with_reducible assumption) | assumption)
         have q143 : x5_1 < (l1.length : Int) := of_decide_eq_true (by first | (with_reducible assumption) | assumption)
         obtain ⟨ad143, e143, hx143_0, hx143_1, hx143_2⟩ := at_T108 HR1.out x5_1 p143 q143
         cases e143
         replace p143 := eq_true p143
         replace q143 := eq_true q143
         have p144 : 0 ≤ (x5_1 : Int) := of_decide_eq_true (by first | (with_reducible assumption) | assumption)
         have q144 : x5_1 < (l0.length : Int) := of_decide_eq_true (by first | (with_reducible assumption) | assumption)
         obtain ⟨ad144, e144, hx144_0, hx144_1, hx144_2⟩ := at_T87 HR0.out x5_1 p144 q144
         obtain rfl : ad142 = ad144 := (by injection e144)
         replace p144 := eq_true p144
         replace q144 := eq_true q144
         have p145 : 0 ≤ (x5_1 : Int) := of_decide_eq_true (by first | (with_reducible assumption) | assumption)
         have q145 : x5_1 < (l1.length : Int) := of_decide_eq_true (by first | (with_reducible assumption) | assumption)
         obtain ⟨ad145, e145, hx145_0, hx145_1, hx145_2⟩ := at_T108 HR1.out x5_1 p145 q145
         obtain rfl : ad143 = ad145 := (by injection e145)
         replace p145 := eq_true p145
         replace q145 := eq_true q145
         go_wp2
         repeat (go_quiet (fail); try go_wp2)
         go_ret
         exact ⟨by first | rfl | (simp; done) | (simp [*]; done), by repeat (first | exact Drawn0.refl _ | apply Drawn0.step)⟩
       ·rw [if_neg c7] at H
        have c7b0 : (((rd_T87 l0 x5_1).f0) == ((rd_T108 l1 x5_1).f0)) = false := beq_eq_false_iff_ne.mpr c7
        have c7b1 : (((rd_T87 l0 x5_1).f0) != ((rd_T108 l1 x5_1).f0)) = true := bne_iff_ne.mpr c7
        obtain rfl := Option.some.inj H
        have p142 : 0 ≤ (x5_1 : Int) := of_decide_eq_true (by first | (with_reducible assumption) | assumption)
        have q142 : x5_1 < (l0.length : Int) := of_decide_eq_true (by first | (with_reducible assumption) | assumption)
        obtain ⟨ad142, e142, hx142_0, hx142_1, hx142_2⟩ := at_T87 HR0.out x5_1 p142 q142
        cases e142
        replace p142 := eq_true p142
        replace q142 := eq_true q142
        have p143 : 0 ≤ (x5_1 : Int) := of_decide_eq_true (by first | (with_reducible assumption) | assumption)
        have q143 : x5_1 < (l1.length : Int) := of_decide_eq_true (by first | (with_reducible assumption) | assumption)
        obtain ⟨ad143, e143, hx143_0, hx143_1, hx143_2⟩ := at_T108 HR1.out x5_1 p143 q143
        cases e143
        replace p143 := eq_true p143
        replace q143 := eq_true q143
        go_wp2
        repeat (go_quiet (fail); try go_wp2)
        go_ret
        exact ⟨by first | rfl | (simp; done) | (simp [*]; done), by repeat (first | exact Drawn0.refl _ | apply Drawn0.step)⟩
      ·rw [if_neg c6] at H
       exact absurd H (by simp)
     ·rw [if_neg c5] at H
      exact absurd H (by simp)
    ·rw [if_neg c4] at H
     have c4b0 : decide (x5_1 < (l0.length : Int)) = false := decide_eq_false c4
     clear c4
     obtain rfl := Option.some.inj H
     go_wp2
     repeat (go_quiet (fail); try go_wp2)
     go_ret
     exact ⟨by first | rfl | (simp; done) | (simp [*]; done), by repeat (first | exact Drawn0.refl _ | apply Drawn0.step)⟩
 ·rw [if_neg c3] at H
  have c3b0 : ((l0.length : Int) == (l1.length : Int)) = false := beq_eq_false_iff_ne.mpr c3
  have c3b1 : ((l0.length : Int) != (l1.length : Int)) = true := bne_iff_ne.mpr c3
  have c3b2 : (l0.length == l1.length) = false := by first | simpa using c3 | (simp at c3 ⊢; omega)
  obtain rfl := Option.some.inj H
  go_enter Try.func27, Try.ntmps27
  go_wp2
  repeat (go_quiet (fail); try go_wp2)
  go_ret
  exact ⟨by first | rfl | (simp; done) | (simp [*]; done), by repeat (first | exact Drawn0.refl _ | apply Drawn0.step)⟩
end Go.Proofs.Ytiephlhohgohcaa.PAll
namespace Go.Proofs.Ytiephlhohgohcaa.PAll
open Go.RowKit Go.Proofs.YtiephlhohgohcaaW.PrintWords Go.Proofs.YtiephlhohgohcaaW.PrintLast Go.Proofs.YtiephlhohgohcaaW.PrintMore
attribute [local go_sem] max2_int min2_int max_two min_two max_three min_three max_four min_four   -- for this text's walks alone
set_option linter.unusedVariables false
set_option linter.unusedSimpArgs false
def glisterlaw05_ints.l0 : Nat → List Int → List Int → Int → Option (Bool)
 | 0, _, _, _ => none
 | k + 1, x0, x1, x5 => if x5 < (x0.length : Int) then (if 0 ≤ x5 then (if x5 < (x1.length : Int) then (if (rd x0 x5) = (rd x1 x5) then (glisterlaw05_ints.l0 k x0 x1 (wrap64 (x5 + 1))) else (some false)) else (none)) else (none)) else (some true)
def glisterlaw05_ints.f (k : Nat) (l0 : List Int) (l1 : List Int) : Option (Bool) := if (l0.length : Int) = (l1.length : Int) then (glisterlaw05_ints.l0 k l0 l1 0) else (some false)
theorem glisterlaw05_ints.mono_l : ∀ k, (∀ y0 y1 y2, LeO (glisterlaw05_ints.l0 k y0 y1 y2) (glisterlaw05_ints.l0 (k + 1) y0 y1 y2))
 | 0 => fun _ _ _ r h => by simp [glisterlaw05_ints.l0] at h
 | k + 1 => by
  have ih0 := glisterlaw05_ints.mono_l k
  ·intro y0 y1 y2
   unfold glisterlaw05_ints.l0
   repeat' first
   | (with_reducible exact ih0 _ _ _)
   | (with_reducible exact LeO.refl _)
   | (with_reducible exact LeO.none _)
   | (with_reducible refine LeO.ite ?_ ?_)
   | (with_reducible refine LeO.bind ?_ (fun _ => ?_))
   | exact ih0 _ _ _
   | exact LeO.none _
   | refine LeO.ite ?_ ?_
   | refine LeO.bind ?_ (fun _ => ?_)
theorem glisterlaw05_ints.mono : ∀ a0 a1 k, LeO (glisterlaw05_ints.f k a0 a1) (glisterlaw05_ints.f (k + 1) a0 a1) := by
 intro a0 a1 k
 have ih0 := glisterlaw05_ints.mono_l k
 unfold glisterlaw05_ints.f
 repeat' first
   | (with_reducible exact ih0 _ _ _)
   | (with_reducible exact LeO.refl _)
   | (with_reducible exact LeO.none _)
   | (with_reducible refine LeO.ite ?_ ?_)
   | (with_reducible refine LeO.bind ?_ (fun _ => ?_))
   | exact ih0 _ _ _
   | exact LeO.none _
   | refine LeO.ite ?_ ?_
   | refine LeO.bind ?_ (fun _ => ?_)
set_option maxHeartbeats 8000000 in
set_option maxRecDepth 100000 in
theorem glisterlaw05_ints.calls (k : Nat) (A0 : Option Addr) (c0 : Nat) (l0 : List Int) (A1 : Option Addr) (c1 : Nat) (l1 : List Int) (r : Bool) (w : World) (hr0 : Kd.C (Kd.int .i64) w A0 l0.length l0) (hc0 : l0.length ≤ c0) (hr1 : Kd.C (Kd.int .i64) w A1 l1.length l1) (hc1 : l1.length ≤ c1) (h : glisterlaw05_ints.f k l0 l1 = some r) :
  Calls Try.prog 32 #[.slice A0 l0.length c0, .slice A1 l1.length c1] w fun e w' => e = .returned (.bool r) ∧ Drawn0 w w' := by
 have HR0 := Aside0.mk hr0
 have HC0 := Aside0.mk hc0
 clear hr0 hc0
 have HR1 := Aside0.mk hr1
 have HC1 := Aside0.mk hc1
 clear hr1 hc1
 have H : (if (l0.length : Int) = (l1.length : Int) then (glisterlaw05_ints.l0 k l0 l1 0) else (some false)) = some r := h
 clear h
 by_cases c3 : (l0.length : Int) = (l1.length : Int)
 ·rw [if_pos c3] at H
  have c3b0 : ((l0.length : Int) == (l1.length : Int)) = true := beq_iff_eq.mpr c3
  have c3b1 : ((l0.length : Int) != (l1.length : Int)) = false := bne_eq_false_iff_eq.mpr c3
  have c3b2 : (l0.length == l1.length) = true := by first | simpa using c3 | (simp at c3 ⊢; omega)
  clear c3
  have H' := Aside0.mk H
  clear H
  go_enter Try.func32, Try.ntmps32
  go_wp2
  repeat (go_quiet (fail); try go_wp2)
  go_loopg [5] k (fun kq v5 w' => ∃ (x5_1 : Int), v5 = .int .i64 x5_1 ∧ Aside0 (glisterlaw05_ints.l0 kq l0 l1 x5_1 = some r) ∧ Aside0 (kq ≤ k) ∧ Drawn0 w w')
  case atStart => exact ⟨(0), (by first | rfl | (simp; done) | (simp [*]; done)), H', ⟨Nat.le_refl _⟩, by repeat (first | exact Drawn0.refl _ | apply Drawn0.step)⟩
  case round =>
   clear H'
   try clear c1
   try clear p2
   try clear c3
   try clear c3b0
   try clear c3b1
   try clear c3b2
   obtain ⟨x5_1, rfl, HA, HK1, ⟨m1, rfl⟩⟩ := hrel
   cases gk with
   | zero => exact absurd HA.out (by simp [glisterlaw05_ints.l0])
   | succ k1 =>
    have H := HA.out
    clear HA
    simp only [glisterlaw05_ints.l0] at H
    by_cases c4 : x5_1 < (l0.length : Int)
    ·rw [if_pos c4] at H
     have c4b0 : decide (x5_1 < (l0.length : Int)) = true := decide_eq_true c4
     clear c4
     by_cases c5 : 0 ≤ x5_1
     ·rw [if_pos c5] at H
      have c5b0 : decide (0 ≤ x5_1) = true := decide_eq_true c5
      clear c5
      by_cases c6 : x5_1 < (l1.length : Int)
      ·rw [if_pos c6] at H
       have c6b0 : decide (x5_1 < (l1.length : Int)) = true := decide_eq_true c6
       clear c6
       by_cases c7 : (rd l0 x5_1) = (rd l1 x5_1)
       ·rw [if_pos c7] at H
        have c7b0 : ((rd l0 x5_1) == (rd l1 x5_1)) = true := beq_iff_eq.mpr c7
        have c7b1 : ((rd l0 x5_1) != (rd l1 x5_1)) = false := bne_eq_false_iff_eq.mpr c7
        clear c7
        have H' := Aside0.mk H
        clear H
        have p149 : 0 ≤ (x5_1 : Int) := of_decide_eq_true (by first | (with_reducible assumption) | assumption)
        have q149 : x5_1 < (l0.length : Int) := of_decide_eq_true (by first | (with_reducible assumption) | assumption)
        obtain ⟨ad149, e149, hx149_0⟩ := Kd.at_int HR0.out x5_1 p149 q149
        cases e149
        replace p149 := eq_true p149
        replace q149 := eq_true q149
        have p150 : 0 ≤ (x5_1 : Int) := of_decide_eq_true (by first | (with_reducible assumption) | assumption)
        have q150 : x5_1 < (l1.length : Int) := of_decide_eq_true (by first | (with_reducible assumption) | assumption)
        obtain ⟨ad150, e150, hx150_0⟩ := Kd.at_int HR1.out x5_1 p150 q150
        cases e150
        replace p150 := eq_true p150
        replace q150 := eq_true q150
        go_wp2
        repeat (go_quiet (fail); try go_wp2)
        go_roundg k1
        case measure => have := HK1.out; omega
        case rel => exact ⟨(wrap64 (x5_1 + 1)), (by first | rfl | (simp; done) | (simp [*]; done)), H', ⟨by have := HK1.out; omega⟩, by repeat (first | exact Drawn0.refl _ | apply Drawn0.step)⟩
       ·rw [if_neg c7] at H
        have c7b0 : ((rd l0 x5_1) == (rd l1 x5_1)) = false := beq_eq_false_iff_ne.mpr c7
        have c7b1 : ((rd l0 x5_1) != (rd l1 x5_1)) = true := bne_iff_ne.mpr c7
        obtain rfl := Option.some.inj H
        have p149 : 0 ≤ (x5_1 : Int) := of_decide_eq_true (by first | (with_reducible assumption) | assumption)
        have q149 : x5_1 < (l0.length : Int) := of_decide_eq_true (by first | (with_reducible assumption) | assumption)
        obtain ⟨ad149, e149, hx149_0⟩ := Kd.at_int HR0.out x5_1 p149 q149
        cases e149
        replace p149 := eq_true p149
        replace q149 := eq_true q149
        have p150 : 0 ≤ (x5_1 : Int) := of_decide_eq_true (by first | (with_reducible assumption) | assumption)
        have q150 : x5_1 < (l1.length : Int) := of_decide_eq_true (by first | (with_reducible assumption) | assumption)
        obtain ⟨ad150, e150, hx150_0⟩ := Kd.at_int HR1.out x5_1 p150 q150
        cases e150
        replace p150 := eq_true p150
        replace q150 := eq_true q150
        go_wp2
        repeat (go_quiet (fail); try go_wp2)
        go_ret
        exact ⟨by first | rfl | (simp; done) | (simp [*]; done), by repeat (first | exact Drawn0.refl _ | apply Drawn0.step)⟩
      ·rw [if_neg c6] at H
       exact absurd H (by simp)
     ·rw [if_neg c5] at H
      exact absurd H (by simp)
    ·rw [if_neg c4] at H
     have c4b0 : decide (x5_1 < (l0.length : Int)) = false := decide_eq_false c4
     clear c4
     obtain rfl := Option.some.inj H
     go_wp2
     repeat (go_quiet (fail); try go_wp2)
     go_ret
     exact ⟨by first | rfl | (simp; done) | (simp [*]; done), by repeat (first | exact Drawn0.refl _ | apply Drawn0.step)⟩
 ·rw [if_neg c3] at H
  have c3b0 : ((l0.length : Int) == (l1.length : Int)) = false := beq_eq_false_iff_ne.mpr c3
  have c3b1 : ((l0.length : Int) != (l1.length : Int)) = true := bne_iff_ne.mpr c3
  have c3b2 : (l0.length == l1.length) = false := by first | simpa using c3 | (simp at c3 ⊢; omega)
  obtain rfl := Option.some.inj H
  go_enter Try.func32, Try.ntmps32
  go_wp2
  repeat (go_quiet (fail); try go_wp2)
  go_ret
  exact ⟨by first | rfl | (simp; done) | (simp [*]; done), by repeat (first | exact Drawn0.refl _ | apply Drawn0.step)⟩
end Go.Proofs.Ytiephlhohgohcaa.PAll
namespace Go.Proofs.Ytiephlhohgohcaa.PAll
def toR (x : S64) : S68 := ⟨x.f0, x.f1⟩
def toL (x : S101) : S119 := ⟨toR x.f0, x.f1.map toR⟩
def toX (x : S54) : S122 := ⟨x.f0.map toL, x.f1⟩
def toE (x : S108) : S87 := ⟨x.f0, x.f1, x.f2⟩
end Go.Proofs.Ytiephlhohgohcaa.PAll
namespace Go.Proofs.Ytiephlhohgohcaa.PAll
open Go.RowKit Go.Proofs.YtiephlhohgohcaaW.PrintWords Go.Proofs.YtiephlhohgohcaaW.PrintLast Go.Proofs.YtiephlhohgohcaaW.PrintMore
set_option linter.unusedVariables false
set_option linter.unusedSimpArgs false
instance eq87 : DecidableEq S87 := fun x y => if h : x.f0 = y.f0 ∧ x.f1 = y.f1 ∧ x.f2 = y.f2 then isTrue (by obtain ⟨a, b, c⟩ := x; obtain ⟨a', b', c'⟩ := y; obtain ⟨h1, h2, h3⟩ := h; dsimp only at h1 h2 h3; subst h1; subst h2; subst h3; rfl) else isFalse (fun e => h (by subst e; exact ⟨rfl, rfl, rfl⟩))
theorem ints_end (a : List Int) (b : List Int) (i k : Nat) (hi : a.length ≤ i) (hb : b.length ≤ i) : glisterlaw05_ints.l0 (k + 1) a b (i : Int) = some (decide (a.drop i = b.drop i)) := by
  have hn : ¬ (i : Int) < (a.length : Int) := by omega
  have h1 : a.drop i = [] := List.drop_eq_nil_of_le (by omega)
  have h2 : b.drop i = [] := List.drop_eq_nil_of_le (by omega)
  rw [h1, h2]
  unfold glisterlaw05_ints.l0
  rw [if_neg hn]
  simp
theorem ints_step (a : List Int) (b : List Int) (i k : Nat) (h1 : i < a.length) (h2 : i < b.length) (ha : (a.length : Int) ≤ 1000) (hr : glisterlaw05_ints.l0 k a b ((i + 1 : Nat) : Int) = some (decide (a.drop (i + 1) = b.drop (i + 1)))) : glisterlaw05_ints.l0 (k + 1) a b (i : Int) = some (decide (a.drop i = b.drop i)) := by
  have ea : rd a (i : Int) = a[i] := by unfold rd; rw [Int.toNat_natCast, rd_in _ _ _ h1]
  have eb : rd b (i : Int) = b[i] := by unfold rd; rw [Int.toNat_natCast, rd_in _ _ _ h2]
  have hw : wrap64 ((i : Int) + 1) = ((i + 1 : Nat) : Int) := by unfold wrap64; omega
  have c1 : (i : Int) < (a.length : Int) := by omega
  have c2 : (0 : Int) ≤ (i : Int) := by omega
  have c3 : (i : Int) < (b.length : Int) := by omega
  rw [List.drop_eq_getElem_cons h1, List.drop_eq_getElem_cons h2]
  unfold glisterlaw05_ints.l0
  rw [if_pos c1, if_pos c2, if_pos c3, ea, eb, hw, hr]
  generalize a.drop (i + 1) = p
  generalize b.drop (i + 1) = q
  generalize a[i] = x
  generalize b[i] = y
  by_cases e : x = y
  · rw [if_pos e]; simp [e]
  · rw [if_neg e]; simp [e]
theorem ints_l0 (a : List Int) (b : List Int) (hab : a.length = b.length) (ha : (a.length : Int) ≤ 1000) (d : Nat) : ∀ (k i : Nat), a.length - i = d → d < k → glisterlaw05_ints.l0 k a b (i : Int) = some (decide (a.drop i = b.drop i)) := by
  induction d with
  | zero =>
    intro k i hd hk
    obtain ⟨k, rfl⟩ : ∃ k', k = k' + 1 := ⟨k - 1, by omega⟩
    exact ints_end a b i k (by omega) (by omega)
  | succ d ih =>
    intro k i hd hk
    obtain ⟨k, rfl⟩ : ∃ k', k = k' + 1 := ⟨k - 1, by omega⟩
    exact ints_step a b i k (by omega) (by omega) ha (ih k (i + 1) (by omega) (by omega))
theorem ints_f (a : List Int) (b : List Int) (ha : (a.length : Int) ≤ 1000) : glisterlaw05_ints.f (a.length + 1) a b = some (decide (a = b)) := by
  unfold glisterlaw05_ints.f
  by_cases h : a.length = b.length
  · have hz : (a.length : Int) = (b.length : Int) := by omega
    rw [if_pos hz]
    exact ints_l0 a b h ha a.length (a.length + 1) 0 (by omega) (by omega)
  · have hz : ¬ (a.length : Int) = (b.length : Int) := by omega
    rw [if_neg hz]
    have hne : ¬ a = b := fun e => h (by rw [e])
    rw [decide_eq_false hne]
theorem ints32 (A0 : Option Addr) (c0 : Nat) (a : List Int) (A1 : Option Addr) (c1 : Nat) (b : List Int) (w : World) (h0 : Kd.C (Kd.int .i64) w A0 a.length a) (l0 : a.length ≤ c0) (h1 : Kd.C (Kd.int .i64) w A1 b.length b) (l1 : b.length ≤ c1) (ha : (a.length : Int) ≤ 1000) :
    Calls Try.prog 32 #[.slice A0 a.length c0, .slice A1 b.length c1] w fun e w' => e = .returned (.bool (decide (a = b))) ∧ Below w.heap.size w w' :=
  (glisterlaw05_ints.calls (a.length + 1) A0 c0 a A1 c1 b _ w h0 l0 h1 l1 (ints_f a b ha)).mono fun _ _ h => ⟨h.1, h.2.below⟩
theorem same_end (a : List S87) (b : List S108) (i k : Nat) (hi : a.length ≤ i) (hb : b.length ≤ i) : glisterlaw05_same.l0 (k + 1) a b (i : Int) = some (decide (a.drop i = (b.drop i).map toE)) := by
  have hn : ¬ (i : Int) < (a.length : Int) := by omega
  have h1 : a.drop i = [] := List.drop_eq_nil_of_le (by omega)
  have h2 : b.drop i = [] := List.drop_eq_nil_of_le (by omega)
  rw [h1, h2]
  unfold glisterlaw05_same.l0
  rw [if_neg hn]
  simp
theorem same_step (a : List S87) (b : List S108) (i k : Nat) (h1 : i < a.length) (h2 : i < b.length) (ha : (a.length : Int) ≤ 1000) (hr : glisterlaw05_same.l0 k a b ((i + 1 : Nat) : Int) = some (decide (a.drop (i + 1) = (b.drop (i + 1)).map toE))) : glisterlaw05_same.l0 (k + 1) a b (i : Int) = some (decide (a.drop i = (b.drop i).map toE)) := by
  have ea : rd_T87 a (i : Int) = a[i] := by unfold rd_T87; rw [Int.toNat_natCast, rd_in _ _ _ h1]
  have eb : rd_T108 b (i : Int) = b[i] := by unfold rd_T108; rw [Int.toNat_natCast, rd_in _ _ _ h2]
  have hw : wrap64 ((i : Int) + 1) = ((i + 1 : Nat) : Int) := by unfold wrap64; omega
  have c1 : (i : Int) < (a.length : Int) := by omega
  have c2 : (0 : Int) ≤ (i : Int) := by omega
  have c3 : (i : Int) < (b.length : Int) := by omega
  rw [List.drop_eq_getElem_cons h1, List.drop_eq_getElem_cons h2]
  unfold glisterlaw05_same.l0
  rw [if_pos c1, if_pos c2, if_pos c3, ea, eb, hw, hr]
  generalize a.drop (i + 1) = p
  generalize b.drop (i + 1) = q
  generalize a[i] = x
  generalize b[i] = y
  obtain ⟨x0, x1, x2⟩ := x
  obtain ⟨y0, y1, y2⟩ := y
  simp only [List.map_cons, toE, List.cons.injEq, S87.mk.injEq]
  by_cases e0 : x0 = y0
  · by_cases e1 : x1 = y1
    · by_cases e2 : x2 = y2
      · simp [e0, e1, e2]
      · simp [e0, e1, e2]
    · simp [e0, e1]
  · simp [e0]
theorem same_l0 (a : List S87) (b : List S108) (hab : a.length = b.length) (ha : (a.length : Int) ≤ 1000) (d : Nat) : ∀ (k i : Nat), a.length - i = d → d < k → glisterlaw05_same.l0 k a b (i : Int) = some (decide (a.drop i = (b.drop i).map toE)) := by
  induction d with
  | zero =>
    intro k i hd hk
    obtain ⟨k, rfl⟩ : ∃ k', k = k' + 1 := ⟨k - 1, by omega⟩
    exact same_end a b i k (by omega) (by omega)
  | succ d ih =>
    intro k i hd hk
    obtain ⟨k, rfl⟩ : ∃ k', k = k' + 1 := ⟨k - 1, by omega⟩
    exact same_step a b i k (by omega) (by omega) ha (ih k (i + 1) (by omega) (by omega))
theorem same_f (a : List S87) (b : List S108) (ha : (a.length : Int) ≤ 1000) : glisterlaw05_same.f (a.length + 1) a b = some (decide (a = (b).map toE)) := by
  unfold glisterlaw05_same.f
  by_cases h : a.length = b.length
  · have hz : (a.length : Int) = (b.length : Int) := by omega
    rw [if_pos hz]
    exact same_l0 a b h ha a.length (a.length + 1) 0 (by omega) (by omega)
  · have hz : ¬ (a.length : Int) = (b.length : Int) := by omega
    rw [if_neg hz]
    have hne : ¬ a = (b).map toE := fun e => h (by rw [e]; simp)
    rw [decide_eq_false hne]
theorem same27 (A0 : Option Addr) (c0 : Nat) (a : List S87) (A1 : Option Addr) (c1 : Nat) (b : List S108) (w : World) (h0 : Kd.C k87 w A0 a.length a) (l0 : a.length ≤ c0) (h1 : Kd.C k108 w A1 b.length b) (l1 : b.length ≤ c1) (ha : (a.length : Int) ≤ 1000) :
    Calls Try.prog 27 #[.slice A0 a.length c0, .slice A1 b.length c1] w fun e w' => e = .returned (.bool (decide (a = (b).map toE))) ∧ Below w.heap.size w w' :=
  (glisterlaw05_same.calls (a.length + 1) A0 c0 a A1 c1 b _ w h0 l0 h1 l1 (same_f a b ha)).mono fun _ _ h => ⟨h.1, h.2.below⟩
end Go.Proofs.Ytiephlhohgohcaa.PAll
namespace Go.Proofs.Ytiephlhohgohcaa.PAll
open Go.RowKit Go.Proofs.YtiephlhohgohcaaW.PrintWords Go.Proofs.YtiephlhohgohcaaW.PrintLast Go.Proofs.YtiephlhohgohcaaW.PrintMore
attribute [local go_sem] max2_int min2_int max_two min_two max_three min_three max_four min_four   -- for this text's walks alone
set_option linter.unusedVariables false
set_option linter.unusedSimpArgs false
def copies_rises.l0 : Nat → List Int → Int → Option (Bool)
 | 0, _, _ => none
 | k + 1, x0, x3 => if x3 < (x0.length : Int) then (if 0 ≤ x3 then (if 0 ≤ (wrap64 (x3 - 1)) then (if (wrap64 (x3 - 1)) < (x0.length : Int) then (if (rd x0 x3) ≤ (rd x0 (wrap64 (x3 - 1))) then (some false) else (copies_rises.l0 k x0 (wrap64 (x3 + 1)))) else (none)) else (none)) else (none)) else (some true)
def copies_rises.f (k : Nat) (l0 : List Int) : Option (Bool) := copies_rises.l0 k l0 1
theorem copies_rises.mono_l : ∀ k, (∀ y0 y1, LeO (copies_rises.l0 k y0 y1) (copies_rises.l0 (k + 1) y0 y1))
 | 0 => fun _ _ r h => by simp [copies_rises.l0] at h
 | k + 1 => by
  have ih0 := copies_rises.mono_l k
  ·intro y0 y1
   unfold copies_rises.l0
   repeat' first
   | (with_reducible exact ih0 _ _)
   | (with_reducible exact LeO.refl _)
   | (with_reducible exact LeO.none _)
   | (with_reducible refine LeO.ite ?_ ?_)
   | (with_reducible refine LeO.bind ?_ (fun _ => ?_))
   | exact ih0 _ _
   | exact LeO.none _
   | refine LeO.ite ?_ ?_
   | refine LeO.bind ?_ (fun _ => ?_)
theorem copies_rises.mono : ∀ a0 k, LeO (copies_rises.f k a0) (copies_rises.f (k + 1) a0) := by
 intro a0 k
 have ih0 := copies_rises.mono_l k
 unfold copies_rises.f
 repeat' first
   | (with_reducible exact ih0 _ _)
   | (with_reducible exact LeO.refl _)
   | (with_reducible exact LeO.none _)
   | (with_reducible refine LeO.ite ?_ ?_)
   | (with_reducible refine LeO.bind ?_ (fun _ => ?_))
   | exact ih0 _ _
   | exact LeO.none _
   | refine LeO.ite ?_ ?_
   | refine LeO.bind ?_ (fun _ => ?_)
set_option maxHeartbeats 8000000 in
set_option maxRecDepth 100000 in
theorem copies_rises.calls (k : Nat) (A0 : Option Addr) (c0 : Nat) (l0 : List Int) (r : Bool) (w : World) (hr0 : Kd.C (Kd.int .i64) w A0 l0.length l0) (hc0 : l0.length ≤ c0) (h : copies_rises.f k l0 = some r) :
  Calls Try.prog 69 #[.slice A0 l0.length c0] w fun e w' => e = .returned (.bool r) ∧ Drawn0 w w' := by
 have HR0 := Aside0.mk hr0
 have HC0 := Aside0.mk hc0
 clear hr0 hc0
 have H : (copies_rises.l0 k l0 1) = some r := h
 clear h
 have H' := Aside0.mk H
 clear H
 go_enter Try.func69, Try.ntmps69
 go_wp2
 repeat (go_quiet (fail); try go_wp2)
 go_loopg [3] k (fun kq v3 w' => ∃ (x3_1 : Int), v3 = .int .i64 x3_1 ∧ Aside0 (copies_rises.l0 kq l0 x3_1 = some r) ∧ Aside0 (kq ≤ k) ∧ Drawn0 w w')
 case atStart => exact ⟨(1), (by first | rfl | (simp; done) | (simp [*]; done)), H', ⟨Nat.le_refl _⟩, by repeat (first | exact Drawn0.refl _ | apply Drawn0.step)⟩
 case round =>
  clear H'
  obtain ⟨x3_1, rfl, HA, HK1, ⟨m1, rfl⟩⟩ := hrel
  cases gk with
  | zero => exact absurd HA.out (by simp [copies_rises.l0])
  | succ k1 =>
   have H := HA.out
   clear HA
   simp only [copies_rises.l0] at H
   by_cases c2 : x3_1 < (l0.length : Int)
   ·rw [if_pos c2] at H
    have c2b0 : decide (x3_1 < (l0.length : Int)) = true := decide_eq_true c2
    clear c2
    by_cases c3 : 0 ≤ x3_1
    ·rw [if_pos c3] at H
     have c3b0 : decide (0 ≤ x3_1) = true := decide_eq_true c3
     clear c3
     obtain ⟨ji4, hji4⟩ : ∃ j_ : Int, (wrap64 (x3_1 - 1)) = j_ := ⟨_, rfl⟩
     replace H : (if 0 ≤ (ji4) then (if (ji4) < (l0.length : Int) then (if (rd l0 x3_1) ≤ (rd l0 (ji4)) then (some false) else (copies_rises.l0 k1 l0 (wrap64 (x3_1 + 1)))) else (none)) else (none)) = some r := by first | (rw [hji4] at H; exact H) | (simp only [hji4] at H ⊢; exact H)
     have hji4w : (IntKind.i64.wrap (x3_1 - 1)) = ji4 := (i64_w _).trans hji4
     by_cases c5 : 0 ≤ (ji4)
     ·rw [if_pos c5] at H
      have c5b0 : decide (0 ≤ (ji4)) = true := decide_eq_true c5
      clear c5
      by_cases c6 : (ji4) < (l0.length : Int)
      ·rw [if_pos c6] at H
       have c6b0 : decide ((ji4) < (l0.length : Int)) = true := decide_eq_true c6
       clear c6
       by_cases c7 : (rd l0 x3_1) ≤ (rd l0 (ji4))
       ·rw [if_pos c7] at H
        have c7b0 : decide ((rd l0 x3_1) ≤ (rd l0 (ji4))) = true := decide_eq_true c7
        clear c7
        obtain rfl := Option.some.inj H
        have p110 : 0 ≤ (x3_1 : Int) := of_decide_eq_true (by first | (with_reducible assumption) | assumption)
        have q110 : x3_1 < (l0.length : Int) := of_decide_eq_true (by first | (with_reducible assumption) | assumption)
        obtain ⟨ad110, e110, hx110_0⟩ := Kd.at_int HR0.out x3_1 p110 q110
        cases e110
        replace p110 := eq_true p110
        replace q110 := eq_true q110
        have p111 : 0 ≤ ((ji4) : Int) := of_decide_eq_true (by first | (with_reducible assumption) | assumption)
        have q111 : (ji4) < (l0.length : Int) := of_decide_eq_true (by first | (with_reducible assumption) | assumption)
        obtain ⟨ad111, e111, hx111_0⟩ := Kd.at_int HR0.out (ji4) p111 q111
        obtain rfl : ad110 = ad111 := (by injection e111)
        replace p111 := eq_true p111
        replace q111 := eq_true q111
        go_wp2
        repeat (go_quiet (fail); try go_wp2)
        go_ret
        exact ⟨by first | rfl | (simp; done) | (simp only [← hji4] <;> (first | rfl | simp)) | (simp [*]; done), by repeat (first | exact Drawn0.refl _ | apply Drawn0.step)⟩
       ·rw [if_neg c7] at H
        have c7b0 : decide ((rd l0 x3_1) ≤ (rd l0 (ji4))) = false := decide_eq_false c7
        clear c7
        have H' := Aside0.mk H
        clear H
        have p110 : 0 ≤ (x3_1 : Int) := of_decide_eq_true (by first | (with_reducible assumption) | assumption)
        have q110 : x3_1 < (l0.length : Int) := of_decide_eq_true (by first | (with_reducible assumption) | assumption)
        obtain ⟨ad110, e110, hx110_0⟩ := Kd.at_int HR0.out x3_1 p110 q110
        cases e110
        replace p110 := eq_true p110
        replace q110 := eq_true q110
        have p111 : 0 ≤ ((ji4) : Int) := of_decide_eq_true (by first | (with_reducible assumption) | assumption)
        have q111 : (ji4) < (l0.length : Int) := of_decide_eq_true (by first | (with_reducible assumption) | assumption)
        obtain ⟨ad111, e111, hx111_0⟩ := Kd.at_int HR0.out (ji4) p111 q111
        obtain rfl : ad110 = ad111 := (by injection e111)
        replace p111 := eq_true p111
        replace q111 := eq_true q111
        go_wp2
        repeat (go_quiet (fail); try go_wp2)
        go_roundg k1
        case measure => have := HK1.out; omega
        case rel => exact ⟨(wrap64 (x3_1 + 1)), (by first | rfl | (simp; done) | (simp [*]; done)), H', ⟨by have := HK1.out; omega⟩, by repeat (first | exact Drawn0.refl _ | apply Drawn0.step)⟩
      ·rw [if_neg c6] at H
       exact absurd H (by simp)
     ·rw [if_neg c5] at H
      exact absurd H (by simp)
    ·rw [if_neg c3] at H
     exact absurd H (by simp)
   ·rw [if_neg c2] at H
    have c2b0 : decide (x3_1 < (l0.length : Int)) = false := decide_eq_false c2
    clear c2
    obtain rfl := Option.some.inj H
    go_wp2
    repeat (go_quiet (fail); try go_wp2)
    go_ret
    exact ⟨by first | rfl | (simp; done) | (simp [*]; done), by repeat (first | exact Drawn0.refl _ | apply Drawn0.step)⟩
end Go.Proofs.Ytiephlhohgohcaa.PAll
namespace Go.Proofs.Ytiephlhohgohcaa.PAll
open Go.RowKit Go.Proofs.YtiephlhohgohcaaW.PrintWords Go.Proofs.YtiephlhohgohcaaW.PrintLast Go.Proofs.YtiephlhohgohcaaW.PrintMore
attribute [local go_sem] max2_int min2_int max_two min_two max_three min_three max_four min_four   -- for this text's walks alone
set_option linter.unusedVariables false
set_option linter.unusedSimpArgs false
def glisterlaw05_between.f (a0 : Int) (a1 : Int) : Option (Int × Int) := some (a0, a1)
set_option maxHeartbeats 8000000 in
set_option maxRecDepth 100000 in
theorem glisterlaw05_between.calls (a0 : Int) (a1 : Int) (r1 : Int) (r2 : Int) (w : World) (h : glisterlaw05_between.f a0 a1 = some (r1, r2)) :
  Calls Try.prog 56 #[.int .i64 a0, .int .i64 a1] w fun e w' => e = .returned (.agg #[.int .i64 r1, .int .i64 r2]) ∧ Below w.heap.size w w' := by
 have hu68 := Try.underlying68
 have HB := Aside0.mk (Below.refl w.heap.size w)
 have H : (some (a0, a1)) = some (r1, r2) := h
 clear h
 simp only [Option.some.injEq, Prod.mk.injEq] at H
 obtain ⟨rfl, rfl⟩ := H
 go_enter Try.func56, Try.ntmps56
 go_wp2_with (first | ((with_reducible refine gate_dst (N := 4) rfl ?_); refine box_event ?hg (N := 4) ?hd (cs := #[.int .i64 0, .int .i64 0]) (t := 68) ?hr ?_; (case hd => rfl); (case hg => rfl); (case hr => first | (go_simp; done) | (go_simp; rfl)); intro gb156 hg w3 hbox hb; have n0_ := Aside0.mk (below_step (by repeat (first | (with_reducible first | exact HB.out | apply below_alloc | apply pw_below_drewN | apply below_drew1) | exact HB.out)) hb); have n1_ := Aside0.mk (hbox); have n2_ := Aside0.mk ((by rw [hg]; exact (below_size (by repeat (first | (with_reducible first | exact HB.out | apply below_alloc | apply pw_below_drewN | apply below_drew1) | exact HB.out))) : w.heap.size ≤ gb156)); have n3_ := Aside0.mk ((by rw [hg]; exact (below_size (by repeat (first | (with_reducible first | exact HB.out | apply below_alloc | apply pw_below_drewN | apply below_drew1) | exact HB.out))) : w.heap.size ≤ gb156)); clear HB; have HB := n0_; have BK156 := n1_; have GW156 := n2_; have GE156 := n3_; clear n0_ n1_ n2_ n3_; clear hb hbox hg; have hcz4_0 : w3.cell? ⟨gb156, 0, none⟩ = some (.int .i64 0) := (blk_cell BK156.out 0).trans rfl; have hcz4_1 : w3.cell? ⟨gb156, 1, none⟩ = some (.int .i64 0) := (blk_cell BK156.out 1).trans rfl; have hfz4_0 := blk_frozen BK156.out 0; have hfz4_1 := blk_frozen BK156.out 1))
 refine bodyPost_ret (results_cell_row rfl _ _ gb156 68 #[.int .i64 a0, .int .i64 a1] (0, 0) _ rfl (by (with_reducible repeat (first | refine blk_drewN ?_ _ | refine blk_drew ?_ | refine blk_alloc ?_ _)); refine blk_put (cs := #[.int .i64 a0, .int .i64 0]) ?_ 1 _ rfl; (with_reducible repeat (first | refine blk_drewN ?_ _ | refine blk_drew ?_ | refine blk_alloc ?_ _)); refine blk_put (cs := #[.int .i64 0, .int .i64 0]) ?_ 0 _ rfl; (with_reducible repeat (first | refine blk_drewN ?_ _ | refine blk_drew ?_ | refine blk_alloc ?_ _)); exact BK156.out) Try.underlying68 rfl (by kernel_rfl)) rfl ?_
 exact ⟨by first | rfl | (simp [errW_none, errW_some] <;> rfl) | (simp [*, errW_none, errW_some] <;> rfl), by repeat (first | (with_reducible first | exact HB.out | apply below_alloc | apply pw_below_drewN | apply below_drew1 | refine below_set ?_ GE156.out) | exact HB.out)⟩
end Go.Proofs.Ytiephlhohgohcaa.PAll
namespace Go.Proofs.Ytiephlhohgohcaa.PAll
open Go.RowKit Go.Proofs.YtiephlhohgohcaaW.PrintWords Go.Proofs.YtiephlhohgohcaaW.PrintLast Go.Proofs.YtiephlhohgohcaaW.PrintMore
attribute [local go_sem] max2_int min2_int max_two min_two max_three min_three max_four min_four   -- for this text's walks alone
set_option linter.unusedVariables false
set_option linter.unusedSimpArgs false
def glisterlaw05_two.f  : Option (List Int × (List (S122)) × Int) := (glisterlaw05_between.f 1 3).bind fun bt161 => ((glisterlaw05_between.f 1 1).bind fun bt166 => ((glisterlaw05_between.f 1 4).bind fun bt168 => ((glisterlaw05_between.f 1 2).bind fun bt173 => (some ((([0, 2] : List Int)), (([(⟨(([(⟨(⟨bt161.1, bt161.2⟩ : S68), ([] : List (S68))⟩ : S119)] : List (S119))), true⟩ : S122), (⟨(([(⟨(⟨bt166.1, bt166.2⟩ : S68), (([(⟨bt168.1, bt168.2⟩ : S68)] : List (S68)))⟩ : S119), (⟨(⟨bt173.1, bt173.2⟩ : S68), ([] : List (S68))⟩ : S119)] : List (S119))), false⟩ : S122)] : List (S122))), 5)))))
set_option maxHeartbeats 8000000 in
set_option maxRecDepth 100000 in
theorem glisterlaw05_two.calls  (r1 : List Int) (r2 : List (S122)) (r3 : Int) (w : World) (h : glisterlaw05_two.f  = some (r1, r2, r3)) :
  Calls Try.prog 64 #[] w fun e w' => ∃ v0_ v1_ : Value, e = .returned (.agg #[v0_, v1_, .int .i64 r3]) ∧ Kd.R (Kd.int .i64) 3 w' w.heap.size (fun k_ => (w.heap.size ≤ k_)) v0_ r1 ∧ Kd.N k122 122 w' w.heap.size (fun k_ => (w.heap.size ≤ k_) ∧ some k_ ≠ (v0_ : Value).ownBlock) v1_ r2 ∧ Below w.heap.size w w' := by
 have hu34 := Try.underlying34
 have hu119 := Try.underlying119
 have hu122 := Try.underlying122
 have HB := Aside0.mk (Below.refl w.heap.size w)
 have H : ((glisterlaw05_between.f 1 3).bind fun bt161 => ((glisterlaw05_between.f 1 1).bind fun bt166 => ((glisterlaw05_between.f 1 4).bind fun bt168 => ((glisterlaw05_between.f 1 2).bind fun bt173 => (some ((([0, 2] : List Int)), (([(⟨(([(⟨(⟨bt161.1, bt161.2⟩ : S68), ([] : List (S68))⟩ : S119)] : List (S119))), true⟩ : S122), (⟨(([(⟨(⟨bt166.1, bt166.2⟩ : S68), (([(⟨bt168.1, bt168.2⟩ : S68)] : List (S68)))⟩ : S119), (⟨(⟨bt173.1, bt173.2⟩ : S68), ([] : List (S68))⟩ : S119)] : List (S119))), false⟩ : S122)] : List (S122))), 5)))))) = some (r1, r2, r3) := h
 clear h
 obtain ⟨y158, hy158⟩ : ∃ y_ : List Int, y_ = (([0, 2] : List Int)) := ⟨_, rfl⟩
 replace H : ((glisterlaw05_between.f 1 3).bind fun bt161 => ((glisterlaw05_between.f 1 1).bind fun bt166 => ((glisterlaw05_between.f 1 4).bind fun bt168 => ((glisterlaw05_between.f 1 2).bind fun bt173 => (some (y158, (([(⟨(([(⟨(⟨bt161.1, bt161.2⟩ : S68), ([] : List (S68))⟩ : S119)] : List (S119))), true⟩ : S122), (⟨(([(⟨(⟨bt166.1, bt166.2⟩ : S68), (([(⟨bt168.1, bt168.2⟩ : S68)] : List (S68)))⟩ : S119), (⟨(⟨bt173.1, bt173.2⟩ : S68), ([] : List (S68))⟩ : S119)] : List (S119))), false⟩ : S122)] : List (S122))), 5)))))) = some (r1, r2, r3) := by first | (rw [hy158]; with_reducible exact H) | (have H2_ := (Option.bind_some _ _).symm.trans H; rw [hy158]; with_reducible exact H2_) | (have H2_ := (Option.bind_some _ _).symm.trans H; with_reducible exact H2_) | with_reducible exact H | (rw [hy158]; exact H) | exact H
 have Ny158 := Aside0.mk hy158
 clear hy158
 replace H := Option.bind_eq_some_iff.mp H
 obtain ⟨⟨t161, t162⟩, A10, H⟩ := H
 replace H : ((glisterlaw05_between.f 1 1).bind fun bt166 => ((glisterlaw05_between.f 1 4).bind fun bt168 => ((glisterlaw05_between.f 1 2).bind fun bt173 => (some (y158, (([(⟨(([(⟨(⟨t161, t162⟩ : S68), ([] : List (S68))⟩ : S119)] : List (S119))), true⟩ : S122), (⟨(([(⟨(⟨bt166.1, bt166.2⟩ : S68), (([(⟨bt168.1, bt168.2⟩ : S68)] : List (S68)))⟩ : S119), (⟨(⟨bt173.1, bt173.2⟩ : S68), ([] : List (S68))⟩ : S119)] : List (S119))), false⟩ : S122)] : List (S122))), 5))))) = some (r1, r2, r3) := H
 have A1 := Aside0.mk A10
 clear A10
 obtain ⟨y163, hy163⟩ : ∃ y_ : List (S119), y_ = (([(⟨(⟨t161, t162⟩ : S68), ([] : List (S68))⟩ : S119)] : List (S119))) := ⟨_, rfl⟩
 replace H : ((glisterlaw05_between.f 1 1).bind fun bt166 => ((glisterlaw05_between.f 1 4).bind fun bt168 => ((glisterlaw05_between.f 1 2).bind fun bt173 => (some (y158, (([(⟨y163, true⟩ : S122), (⟨(([(⟨(⟨bt166.1, bt166.2⟩ : S68), (([(⟨bt168.1, bt168.2⟩ : S68)] : List (S68)))⟩ : S119), (⟨(⟨bt173.1, bt173.2⟩ : S68), ([] : List (S68))⟩ : S119)] : List (S119))), false⟩ : S122)] : List (S122))), 5))))) = some (r1, r2, r3) := by first | (rw [hy163]; with_reducible exact H) | (have H2_ := (Option.bind_some _ _).symm.trans H; rw [hy163]; with_reducible exact H2_) | (have H2_ := (Option.bind_some _ _).symm.trans H; with_reducible exact H2_) | with_reducible exact H | (rw [hy163]; exact H) | exact H
 have Ny163 := Aside0.mk hy163
 clear hy163
 replace H := Option.bind_eq_some_iff.mp H
 obtain ⟨⟨t166, t167⟩, A20, H⟩ := H
 replace H : ((glisterlaw05_between.f 1 4).bind fun bt168 => ((glisterlaw05_between.f 1 2).bind fun bt173 => (some (y158, (([(⟨y163, true⟩ : S122), (⟨(([(⟨(⟨t166, t167⟩ : S68), (([(⟨bt168.1, bt168.2⟩ : S68)] : List (S68)))⟩ : S119), (⟨(⟨bt173.1, bt173.2⟩ : S68), ([] : List (S68))⟩ : S119)] : List (S119))), false⟩ : S122)] : List (S122))), 5)))) = some (r1, r2, r3) := H
 have A2 := Aside0.mk A20
 clear A20
 replace H := Option.bind_eq_some_iff.mp H
 obtain ⟨⟨t168, t169⟩, A30, H⟩ := H
 replace H : ((glisterlaw05_between.f 1 2).bind fun bt173 => (some (y158, (([(⟨y163, true⟩ : S122), (⟨(([(⟨(⟨t166, t167⟩ : S68), (([(⟨t168, t169⟩ : S68)] : List (S68)))⟩ : S119), (⟨(⟨bt173.1, bt173.2⟩ : S68), ([] : List (S68))⟩ : S119)] : List (S119))), false⟩ : S122)] : List (S122))), 5))) = some (r1, r2, r3) := H
 have A3 := Aside0.mk A30
 clear A30
 obtain ⟨y170, hy170⟩ : ∃ y_ : List (S68), y_ = (([(⟨t168, t169⟩ : S68)] : List (S68))) := ⟨_, rfl⟩
 replace H : ((glisterlaw05_between.f 1 2).bind fun bt173 => (some (y158, (([(⟨y163, true⟩ : S122), (⟨(([(⟨(⟨t166, t167⟩ : S68), y170⟩ : S119), (⟨(⟨bt173.1, bt173.2⟩ : S68), ([] : List (S68))⟩ : S119)] : List (S119))), false⟩ : S122)] : List (S122))), 5))) = some (r1, r2, r3) := by first | (rw [hy170]; with_reducible exact H) | (have H2_ := (Option.bind_some _ _).symm.trans H; rw [hy170]; with_reducible exact H2_) | (have H2_ := (Option.bind_some _ _).symm.trans H; with_reducible exact H2_) | with_reducible exact H | (rw [hy170]; exact H) | exact H
 have Ny170 := Aside0.mk hy170
 clear hy170
 replace H := Option.bind_eq_some_iff.mp H
 obtain ⟨⟨t173, t174⟩, A40, H⟩ := H
 replace H : (some (y158, (([(⟨y163, true⟩ : S122), (⟨(([(⟨(⟨t166, t167⟩ : S68), y170⟩ : S119), (⟨(⟨t173, t174⟩ : S68), ([] : List (S68))⟩ : S119)] : List (S119))), false⟩ : S122)] : List (S122))), 5)) = some (r1, r2, r3) := H
 have A4 := Aside0.mk A40
 clear A40
 obtain ⟨y175, hy175⟩ : ∃ y_ : List (S119), y_ = (([(⟨(⟨t166, t167⟩ : S68), y170⟩ : S119), (⟨(⟨t173, t174⟩ : S68), ([] : List (S68))⟩ : S119)] : List (S119))) := ⟨_, rfl⟩
 replace H : (some (y158, (([(⟨y163, true⟩ : S122), (⟨y175, false⟩ : S122)] : List (S122))), 5)) = some (r1, r2, r3) := by first | (rw [hy175]; with_reducible exact H) | (have H2_ := (Option.bind_some _ _).symm.trans H; rw [hy175]; with_reducible exact H2_) | (have H2_ := (Option.bind_some _ _).symm.trans H; with_reducible exact H2_) | with_reducible exact H | (rw [hy175]; exact H) | exact H
 have Ny175 := Aside0.mk hy175
 clear hy175
 obtain ⟨y178, hy178⟩ : ∃ y_ : List (S122), y_ = (([(⟨y163, true⟩ : S122), (⟨y175, false⟩ : S122)] : List (S122))) := ⟨_, rfl⟩
 replace H : (some (y158, y178, 5)) = some (r1, r2, r3) := by first | (rw [hy178]; with_reducible exact H) | (have H2_ := (Option.bind_some _ _).symm.trans H; rw [hy178]; with_reducible exact H2_) | (have H2_ := (Option.bind_some _ _).symm.trans H; with_reducible exact H2_) | with_reducible exact H | (rw [hy178]; exact H) | exact H
 have Ny178 := Aside0.mk hy178
 clear hy178
 simp only [Option.some.injEq, Prod.mk.injEq] at H
 obtain ⟨rfl, rfl, rfl⟩ := H
 go_enter Try.func64, Try.ntmps64
 go_wp2_with (first | ((with_reducible refine gate_dst (N := 0) rfl ?_); refine box_event ?hg (N := 0) ?hd (cs := #[.slice none 0 0, .slice none 0 0, .int .i64 0]) (t := 34) ?hr ?_; (case hd => rfl); (case hg => rfl); (case hr => first | (go_simp; done) | (go_simp; rfl)); intro gb157 hg w5 hbox hb; have n0_ := Aside0.mk (below_step (by repeat (first | (with_reducible first | exact HB.out | apply below_alloc | apply pw_below_drewN | apply below_drew1) | exact HB.out)) hb); have n1_ := Aside0.mk (hbox); have n2_ := Aside0.mk ((by rw [hg]; exact (below_size (by repeat (first | (with_reducible first | exact HB.out | apply below_alloc | apply pw_below_drewN | apply below_drew1) | exact HB.out))) : w.heap.size ≤ gb157)); have n3_ := Aside0.mk ((by rw [hg]; exact (below_size (by repeat (first | (with_reducible first | exact HB.out | apply below_alloc | apply pw_below_drewN | apply below_drew1) | exact HB.out))) : w.heap.size ≤ gb157)); clear HB; have HB := n0_; have BK157 := n1_; have GW157 := n2_; have GE157 := n3_; clear n0_ n1_ n2_ n3_; clear hb hbox hg) | ((with_reducible refine gate_dst (N := 1) rfl ?_); refine Kd.R_lit (Kd.int .i64) _ 3 ?hg (N := 1) ?hd (xs := ([0, 2] : List Int)) (inner := [.int .i64 0, .int .i64 2]) (ok := fun _ => True) (okp := fun _ => True) ?hr ?hp (fun _ hk => hk) trivial (Below.refl _ _) (Nat.le_refl _) (by simp) ?_; (case hd => rfl); (case hg => rfl); (case hr => first | (go_simp; done) | (go_simp; rfl)); (case hp => exact (Reps.one (show Kd.M (Kd.int .i64) _ _ _ 0 [.int .i64 0] from rfl) (Reps.one (show Kd.M (Kd.int .i64) _ _ _ 2 [.int .i64 2] from rfl) (Reps.none _ _)))); intro v159 w6 ho7 hb hg_ hnew_; clear hg_ hnew_; (first | rw [← Ny158.out] at ho7 | (simp only [Int.reduceToNat] at ho7; rw [← Ny158.out] at ho7)); have n0_ := Aside0.mk (Kd.R_lower (Kd.R_newM (M := fun k_ => (w.heap.size ≤ k_)) ho7 (below_size (by repeat (first | (with_reducible first | exact HB.out | apply below_alloc | apply pw_below_drewN | apply below_drew1 | refine below_set ?_ GE157.out) | exact HB.out))) (fun k_ h_ => h_)) (below_size (by repeat (first | (with_reducible first | exact HB.out | apply below_alloc | apply pw_below_drewN | apply below_drew1 | refine below_set ?_ GE157.out) | exact HB.out)))); have n1_ := Aside0.mk (blk_below (g := gb157) (o := .cells #[.slice none 0 0, .slice none 0 0, .int .i64 0] 34 (0, 0)) (by (with_reducible repeat (first | refine blk_drewN ?_ _ | refine blk_drew ?_ | refine blk_alloc ?_ _)); exact BK157.out) hb); have n2_ := Aside0.mk (below_step (by repeat (first | (with_reducible first | exact HB.out | apply below_alloc | apply pw_below_drewN | apply below_drew1 | refine below_set ?_ GE157.out) | exact HB.out)) hb); clear BK157; clear HB; have HO160 := n0_; have BK157 := n1_; have HB := n2_; clear n0_ n1_ n2_; clear hb ho7) | ((with_reducible refine gate_callee (f := 56) rfl ?_); refine goesL_ (some 2) rfl rfl Try.func56 (by kernel_rfl) rfl #[.int .i64 1, .int .i64 3] rfl (by (try simp only [List.map_toArray, List.map_cons, List.map_nil]); first | done | rfl | (simp only [List.length_drop, List.length_take]; rfl)) ?_; (with_reducible refine (glisterlaw05_between.calls 1 3 t161 t162 _ A1.out).mono ?_); rintro e w8 ⟨rfl, hb⟩; refine ⟨_, rfl, ?_⟩; have n0_ := Aside0.mk (Kd.R_below (by (with_reducible repeat (first | apply Kd.R_alloc | apply Kd.R_drewN | apply Kd.R_drew)); exact HO160.out) hb); have n1_ := Aside0.mk (blk_below (g := gb157) (o := .cells #[.slice none 0 0, .slice none 0 0, .int .i64 0] 34 (0, 0)) (by (with_reducible repeat (first | refine blk_drewN ?_ _ | refine blk_drew ?_ | refine blk_alloc ?_ _)); exact BK157.out) hb); have n2_ := Aside0.mk (below_step (by repeat (first | (with_reducible first | exact HB.out | apply below_alloc | apply pw_below_drewN | apply below_drew1 | refine below_set ?_ GE157.out) | exact HB.out)) hb); clear HO160; clear BK157; clear HB; have HO160 := n0_; have BK157 := n1_; have HB := n2_; clear n0_ n1_ n2_; (try clear hb); (try clear hb2); (try clear hk); (try clear hi)) | ((with_reducible refine gate_dst (N := 4) rfl ?_); refine Kd.N_lit k119 _ 119 ?hg (N' := 4) ?hd (xs := ([(⟨(⟨t161, t162⟩ : S68), ([] : List (S68))⟩ : S119)] : List (S119))) (inner := [.int .i64 t161, .int .i64 t162, .slice none 0 0]) (ok := (fun k_ => (w.heap.size ≤ k_) ∧ some k_ ≠ (v159 : Value).ownBlock ∧ k_ ≠ gb157)) (okp := (fun k_ => (w.heap.size ≤ k_) ∧ some k_ ≠ (v159 : Value).ownBlock ∧ k_ ≠ gb157)) ?hr ?hp (fun _ hk => hk) ((show ∀ k_, w8.heap.size ≤ k_ → (fun k_ => (w.heap.size ≤ k_) ∧ some k_ ≠ (v159 : Value).ownBlock ∧ k_ ≠ gb157) k_ from fun k_ hk => ⟨(Nat.le_trans (below_size (by repeat (first | (with_reducible first | exact HB.out | apply below_alloc | apply pw_below_drewN | apply below_drew1 | refine below_set ?_ GE157.out) | exact HB.out))) hk), Kd.fresh' (Kd.R_lt (by (with_reducible repeat (first | apply Kd.R_alloc | apply Kd.R_drewN | apply Kd.R_drew)); exact HO160.out)) k_ hk, Kd.freshB (g := gb157) (o := .cells #[.slice none 0 0, .slice none 0 0, .int .i64 0] 34 (0, 0)) (by (with_reducible repeat (first | refine blk_drewN ?_ _ | refine blk_drew ?_ | refine blk_alloc ?_ _)); exact BK157.out) k_ hk⟩) _ (Nat.le_refl _)) (Below.refl _ _) (Nat.le_refl _) (by simp) ?_; (case hd => rfl); (case hg => rfl); (case hr => first | (go_simp; done) | (go_simp; rfl)); (case hp => exact (Reps.c3 (show Kd.FK k119 _ _ (⟨(⟨t161, t162⟩ : S68), ([] : List (S68))⟩ : S119) [.int .i64 t161, .int .i64 t162, .slice none 0 0] from (k119_mkF _ _ (⟨(⟨t161, t162⟩ : S68), ([] : List (S68))⟩ : S119) (Nat.le_refl _) (Kd.F_nil _ _ _))) (Reps.none _ _))); intro v164 w9 ho10 hb hg_ hnew_; clear hg_ hnew_; (first | rw [← Ny163.out] at ho10 | (simp only [Int.reduceToNat] at ho10; rw [← Ny163.out] at ho10)); have n0_ := Aside0.mk (Kd.R_below (by (with_reducible repeat (first | apply Kd.R_alloc | apply Kd.R_drewN | apply Kd.R_drew)); exact HO160.out) hb); have n1_ := Aside0.mk (Kd.N_lower ho10 (below_size (by repeat (first | (with_reducible first | exact HB.out | apply below_alloc | apply pw_below_drewN | apply below_drew1 | refine below_set ?_ GE157.out) | exact HB.out)))); have n2_ := Aside0.mk (blk_below (g := gb157) (o := .cells #[.slice none 0 0, .slice none 0 0, .int .i64 0] 34 (0, 0)) (by (with_reducible repeat (first | refine blk_drewN ?_ _ | refine blk_drew ?_ | refine blk_alloc ?_ _)); exact BK157.out) hb); have n3_ := Aside0.mk (below_step (by repeat (first | (with_reducible first | exact HB.out | apply below_alloc | apply pw_below_drewN | apply below_drew1 | refine below_set ?_ GE157.out) | exact HB.out)) hb); clear HO160; clear BK157; clear HB; have HO160 := n0_; have HO165 := n1_; have BK157 := n2_; have HB := n3_; clear n0_ n1_ n2_ n3_; clear hb ho10; obtain ⟨Ao11, co11, eo11⟩ := Kd.N_slice HO165.out; subst eo11) | ((with_reducible refine gate_callee (f := 56) rfl ?_); refine goesL_ (some 6) rfl rfl Try.func56 (by kernel_rfl) rfl #[.int .i64 1, .int .i64 1] rfl (by (try simp only [List.map_toArray, List.map_cons, List.map_nil]); first | done | rfl | (simp only [List.length_drop, List.length_take]; rfl)) ?_; (with_reducible refine (glisterlaw05_between.calls 1 1 t166 t167 _ A2.out).mono ?_); rintro e w12 ⟨rfl, hb⟩; refine ⟨_, rfl, ?_⟩; have n0_ := Aside0.mk (Kd.R_below (by (with_reducible repeat (first | apply Kd.R_alloc | apply Kd.R_drewN | apply Kd.R_drew)); exact HO160.out) hb); have n1_ := Aside0.mk (Kd.N_below (by (with_reducible repeat (first | apply Kd.N_alloc | apply Kd.N_drewN | apply Kd.N_drew)); exact HO165.out) hb); have n2_ := Aside0.mk (blk_below (g := gb157) (o := .cells #[.slice none 0 0, .slice none 0 0, .int .i64 0] 34 (0, 0)) (by (with_reducible repeat (first | refine blk_drewN ?_ _ | refine blk_drew ?_ | refine blk_alloc ?_ _)); exact BK157.out) hb); have n3_ := Aside0.mk (below_step (by repeat (first | (with_reducible first | exact HB.out | apply below_alloc | apply pw_below_drewN | apply below_drew1 | refine below_set ?_ GE157.out) | exact HB.out)) hb); clear HO160; clear HO165; clear BK157; clear HB; have HO160 := n0_; have HO165 := n1_; have BK157 := n2_; have HB := n3_; clear n0_ n1_ n2_ n3_; (try clear hb); (try clear hb2); (try clear hk); (try clear hi)) | ((with_reducible refine gate_callee (f := 56) rfl ?_); refine goesL_ (some 7) rfl rfl Try.func56 (by kernel_rfl) rfl #[.int .i64 1, .int .i64 4] rfl (by (try simp only [List.map_toArray, List.map_cons, List.map_nil]); first | done | rfl | (simp only [List.length_drop, List.length_take]; rfl)) ?_; (with_reducible refine (glisterlaw05_between.calls 1 4 t168 t169 _ A3.out).mono ?_); rintro e w13 ⟨rfl, hb⟩; refine ⟨_, rfl, ?_⟩; have n0_ := Aside0.mk (Kd.R_below (by (with_reducible repeat (first | apply Kd.R_alloc | apply Kd.R_drewN | apply Kd.R_drew)); exact HO160.out) hb); have n1_ := Aside0.mk (Kd.N_below (by (with_reducible repeat (first | apply Kd.N_alloc | apply Kd.N_drewN | apply Kd.N_drew)); exact HO165.out) hb); have n2_ := Aside0.mk (blk_below (g := gb157) (o := .cells #[.slice none 0 0, .slice none 0 0, .int .i64 0] 34 (0, 0)) (by (with_reducible repeat (first | refine blk_drewN ?_ _ | refine blk_drew ?_ | refine blk_alloc ?_ _)); exact BK157.out) hb); have n3_ := Aside0.mk (below_step (by repeat (first | (with_reducible first | exact HB.out | apply below_alloc | apply pw_below_drewN | apply below_drew1 | refine below_set ?_ GE157.out) | exact HB.out)) hb); clear HO160; clear HO165; clear BK157; clear HB; have HO160 := n0_; have HO165 := n1_; have BK157 := n2_; have HB := n3_; clear n0_ n1_ n2_ n3_; (try clear hb); (try clear hb2); (try clear hk); (try clear hi)) | ((with_reducible refine gate_dst (N := 8) rfl ?_); refine Kd.R_lit k68 _ 68 ?hg (N := 8) ?hd (xs := ([(⟨t168, t169⟩ : S68)] : List (S68))) (inner := [.int .i64 t168, .int .i64 t169]) (ok := fun _ => True) (okp := fun _ => True) ?hr ?hp (fun _ hk => hk) trivial (Below.refl _ _) (Nat.le_refl _) (by simp) ?_; (case hd => rfl); (case hg => rfl); (case hr => first | (go_simp; done) | (go_simp; rfl)); (case hp => exact (Reps.c2 (show Kd.M k68 _ _ _ (⟨t168, t169⟩ : S68) [.int .i64 t168, .int .i64 t169] from (k68_mkM _ _ _ (⟨t168, t169⟩ : S68) )) (Reps.none _ _))); intro v171 w14 ho15 hb hg_ hnew_; clear hg_ hnew_; (first | rw [← Ny170.out] at ho15 | (simp only [Int.reduceToNat] at ho15; rw [← Ny170.out] at ho15)); have n0_ := Aside0.mk (Kd.R_below (by (with_reducible repeat (first | apply Kd.R_alloc | apply Kd.R_drewN | apply Kd.R_drew)); exact HO160.out) hb); have n1_ := Aside0.mk (Kd.N_elder' (by (with_reducible repeat (first | apply Kd.N_alloc | apply Kd.N_drewN | apply Kd.N_drew)); exact HO165.out) (Kd.R_base ho15) hb); have n2_ := Aside0.mk (Kd.R_lower (Kd.R_newM (M := fun k_ => (w.heap.size ≤ k_)) ho15 (below_size (by repeat (first | (with_reducible first | exact HB.out | apply below_alloc | apply pw_below_drewN | apply below_drew1 | refine below_set ?_ GE157.out) | exact HB.out))) (fun k_ h_ => h_)) (below_size (by repeat (first | (with_reducible first | exact HB.out | apply below_alloc | apply pw_below_drewN | apply below_drew1 | refine below_set ?_ GE157.out) | exact HB.out)))); have n3_ := Aside0.mk (blk_below (g := gb157) (o := .cells #[.slice none 0 0, .slice none 0 0, .int .i64 0] 34 (0, 0)) (by (with_reducible repeat (first | refine blk_drewN ?_ _ | refine blk_drew ?_ | refine blk_alloc ?_ _)); exact BK157.out) hb); have n4_ := Aside0.mk (below_step (by repeat (first | (with_reducible first | exact HB.out | apply below_alloc | apply pw_below_drewN | apply below_drew1 | refine below_set ?_ GE157.out) | exact HB.out)) hb); clear HO160; clear HO165; clear BK157; clear HB; have HO160 := n0_; have HO165 := n1_; have HO172 := n2_; have BK157 := n3_; have HB := n4_; clear n0_ n1_ n2_ n3_ n4_; clear hb ho15; obtain ⟨Ao16, co16, eo16⟩ := Kd.R_slice HO172.out; subst eo16) | ((with_reducible refine gate_callee (f := 56) rfl ?_); refine goesL_ (some 10) rfl rfl Try.func56 (by kernel_rfl) rfl #[.int .i64 1, .int .i64 2] rfl (by (try simp only [List.map_toArray, List.map_cons, List.map_nil]); first | done | rfl | (simp only [List.length_drop, List.length_take]; rfl)) ?_; (with_reducible refine (glisterlaw05_between.calls 1 2 t173 t174 _ A4.out).mono ?_); rintro e w17 ⟨rfl, hb⟩; refine ⟨_, rfl, ?_⟩; have n0_ := Aside0.mk (Kd.R_below (by (with_reducible repeat (first | apply Kd.R_alloc | apply Kd.R_drewN | apply Kd.R_drew)); exact HO160.out) hb); have n1_ := Aside0.mk (Kd.N_below (by (with_reducible repeat (first | apply Kd.N_alloc | apply Kd.N_drewN | apply Kd.N_drew)); exact HO165.out) hb); have n2_ := Aside0.mk (Kd.R_below (by (with_reducible repeat (first | apply Kd.R_alloc | apply Kd.R_drewN | apply Kd.R_drew)); exact HO172.out) hb); have n3_ := Aside0.mk (blk_below (g := gb157) (o := .cells #[.slice none 0 0, .slice none 0 0, .int .i64 0] 34 (0, 0)) (by (with_reducible repeat (first | refine blk_drewN ?_ _ | refine blk_drew ?_ | refine blk_alloc ?_ _)); exact BK157.out) hb); have n4_ := Aside0.mk (below_step (by repeat (first | (with_reducible first | exact HB.out | apply below_alloc | apply pw_below_drewN | apply below_drew1 | refine below_set ?_ GE157.out) | exact HB.out)) hb); clear HO160; clear HO165; clear HO172; clear BK157; clear HB; have HO160 := n0_; have HO165 := n1_; have HO172 := n2_; have BK157 := n3_; have HB := n4_; clear n0_ n1_ n2_ n3_ n4_; (try clear hb); (try clear hb2); (try clear hk); (try clear hi)) | ((with_reducible refine gate_dst (N := 12) rfl ?_); refine Kd.N_lit k119 _ 119 ?hg (N' := 12) ?hd (xs := ([(⟨(⟨t166, t167⟩ : S68), y170⟩ : S119), (⟨(⟨t173, t174⟩ : S68), ([] : List (S68))⟩ : S119)] : List (S119))) (inner := [.int .i64 t166, .int .i64 t167, .slice Ao16 y170.length co16, .int .i64 t173, .int .i64 t174, .slice none 0 0]) (ok := (fun k_ => (w.heap.size ≤ k_) ∧ some k_ ≠ (v159 : Value).ownBlock ∧ some k_ ≠ (.slice Ao11 y163.length co11 : Value).ownBlock ∧ k_ ≠ gb157)) (okp := (fun k_ => (w.heap.size ≤ k_) ∧ some k_ ≠ (v159 : Value).ownBlock ∧ some k_ ≠ (.slice Ao11 y163.length co11 : Value).ownBlock ∧ k_ ≠ gb157)) ?hr ?hp (fun _ hk => hk) ((show ∀ k_, w17.heap.size ≤ k_ → (fun k_ => (w.heap.size ≤ k_) ∧ some k_ ≠ (v159 : Value).ownBlock ∧ some k_ ≠ (.slice Ao11 y163.length co11 : Value).ownBlock ∧ k_ ≠ gb157) k_ from fun k_ hk => ⟨(Nat.le_trans (below_size (by repeat (first | (with_reducible first | exact HB.out | apply below_alloc | apply pw_below_drewN | apply below_drew1 | refine below_set ?_ GE157.out) | exact HB.out))) hk), Kd.fresh' (Kd.R_lt (by (with_reducible repeat (first | apply Kd.R_alloc | apply Kd.R_drewN | apply Kd.R_drew)); exact HO160.out)) k_ hk, Kd.fresh' (Kd.N_lt (by (with_reducible repeat (first | apply Kd.N_alloc | apply Kd.N_drewN | apply Kd.N_drew)); exact HO165.out)) k_ hk, Kd.freshB (g := gb157) (o := .cells #[.slice none 0 0, .slice none 0 0, .int .i64 0] 34 (0, 0)) (by (with_reducible repeat (first | refine blk_drewN ?_ _ | refine blk_drew ?_ | refine blk_alloc ?_ _)); exact BK157.out) k_ hk⟩) _ (Nat.le_refl _)) (Below.refl _ _) (Nat.le_refl _) (by simp) ?_; (case hd => rfl); (case hg => rfl); (case hr => first | (go_simp; done) | (go_simp; rfl)); (case hp => exact (Reps.c3 (show Kd.FK k119 _ _ (⟨(⟨t166, t167⟩ : S68), y170⟩ : S119) [.int .i64 t166, .int .i64 t167, .slice Ao16 y170.length co16] from (k119_mkF _ _ (⟨(⟨t166, t167⟩ : S68), y170⟩ : S119) (Kd.R_reads' (Kd.R_mono (ok' := (fun k_ => (w.heap.size ≤ k_) ∧ some k_ ≠ (v159 : Value).ownBlock ∧ some k_ ≠ (.slice Ao11 y163.length co11 : Value).ownBlock ∧ k_ ≠ gb157)) (Kd.R_types (Kd.R_apart' (Kd.R_apart' (HO172.out) (Kd.R_typed HO160.out) (by decide)) (Kd.N_typed HO165.out) (by decide)) BK157.out (by decide)) (fun k_ hk => ⟨hk.1.1.1.1, ⟨hk.1.1.2, ⟨hk.1.2, hk.2⟩⟩⟩))).2.1 (Kd.R_F (Kd.R_mono (ok' := (fun k_ => (w.heap.size ≤ k_) ∧ some k_ ≠ (v159 : Value).ownBlock ∧ some k_ ≠ (.slice Ao11 y163.length co11 : Value).ownBlock ∧ k_ ≠ gb157)) (Kd.R_types (Kd.R_apart' (Kd.R_apart' (HO172.out) (Kd.R_typed HO160.out) (by decide)) (Kd.N_typed HO165.out) (by decide)) BK157.out (by decide)) (fun k_ hk => ⟨hk.1.1.1.1, ⟨hk.1.1.2, ⟨hk.1.2, hk.2⟩⟩⟩))))) (Reps.c3 (show Kd.FK k119 _ _ (⟨(⟨t173, t174⟩ : S68), ([] : List (S68))⟩ : S119) [.int .i64 t173, .int .i64 t174, .slice none 0 0] from (k119_mkF _ _ (⟨(⟨t173, t174⟩ : S68), ([] : List (S68))⟩ : S119) (Nat.le_refl _) (Kd.F_nil _ _ _))) (Reps.none _ _)))); intro v176 w18 ho19 hb hg_ hnew_; clear hg_ hnew_; (first | rw [← Ny175.out] at ho19 | (simp only [Int.reduceToNat] at ho19; rw [← Ny175.out] at ho19)); have n0_ := Aside0.mk (Kd.R_below (by (with_reducible repeat (first | apply Kd.R_alloc | apply Kd.R_drewN | apply Kd.R_drew)); exact HO160.out) hb); have n1_ := Aside0.mk (Kd.N_elder' (by (with_reducible repeat (first | apply Kd.N_alloc | apply Kd.N_drewN | apply Kd.N_drew)); exact HO165.out) (Kd.N_base ho19) hb); have n2_ := Aside0.mk (Kd.N_lower ho19 (below_size (by repeat (first | (with_reducible first | exact HB.out | apply below_alloc | apply pw_below_drewN | apply below_drew1 | refine below_set ?_ GE157.out) | exact HB.out)))); have n3_ := Aside0.mk (blk_below (g := gb157) (o := .cells #[.slice none 0 0, .slice none 0 0, .int .i64 0] 34 (0, 0)) (by (with_reducible repeat (first | refine blk_drewN ?_ _ | refine blk_drew ?_ | refine blk_alloc ?_ _)); exact BK157.out) hb); have n4_ := Aside0.mk (below_step (by repeat (first | (with_reducible first | exact HB.out | apply below_alloc | apply pw_below_drewN | apply below_drew1 | refine below_set ?_ GE157.out) | exact HB.out)) hb); clear HO160; clear HO165; clear BK157; clear HB; clear HO172; have HO160 := n0_; have HO165 := n1_; have HO177 := n2_; have BK157 := n3_; have HB := n4_; clear n0_ n1_ n2_ n3_ n4_; clear hb ho19; obtain ⟨Ao20, co20, eo20⟩ := Kd.N_slice HO177.out; subst eo20) | ((with_reducible refine gate_dst (N := 14) rfl ?_); refine Kd.N_lit k122 _ 122 ?hg (N' := 14) ?hd (xs := ([(⟨y163, true⟩ : S122), (⟨y175, false⟩ : S122)] : List (S122))) (inner := [.slice Ao11 y163.length co11, .bool true, .slice Ao20 y175.length co20, .bool false]) (ok := (fun k_ => (w.heap.size ≤ k_) ∧ some k_ ≠ (v159 : Value).ownBlock ∧ k_ ≠ gb157)) (okp := (fun k_ => (w.heap.size ≤ k_) ∧ some k_ ≠ (v159 : Value).ownBlock ∧ k_ ≠ gb157)) ?hr ?hp (fun _ hk => hk) ((show ∀ k_, w18.heap.size ≤ k_ → (fun k_ => (w.heap.size ≤ k_) ∧ some k_ ≠ (v159 : Value).ownBlock ∧ k_ ≠ gb157) k_ from fun k_ hk => ⟨(Nat.le_trans (below_size (by repeat (first | (with_reducible first | exact HB.out | apply below_alloc | apply pw_below_drewN | apply below_drew1 | refine below_set ?_ GE157.out) | exact HB.out))) hk), Kd.fresh' (Kd.R_lt (by (with_reducible repeat (first | apply Kd.R_alloc | apply Kd.R_drewN | apply Kd.R_drew)); exact HO160.out)) k_ hk, Kd.freshB (g := gb157) (o := .cells #[.slice none 0 0, .slice none 0 0, .int .i64 0] 34 (0, 0)) (by (with_reducible repeat (first | refine blk_drewN ?_ _ | refine blk_drew ?_ | refine blk_alloc ?_ _)); exact BK157.out) k_ hk⟩) _ (Nat.le_refl _)) (Below.refl _ _) (Nat.le_refl _) (by simp) ?_; (case hd => rfl); (case hg => rfl); (case hr => first | (go_simp; done) | (go_simp; rfl)); (case hp => exact (Reps.c2 (show Kd.FK k122 _ _ (⟨y163, true⟩ : S122) [.slice Ao11 y163.length co11, .bool true] from (k122_mkF _ _ (⟨y163, true⟩ : S122) (Kd.N_reads' (Kd.N_mono (ok' := (fun k_ => (w.heap.size ≤ k_) ∧ some k_ ≠ (v159 : Value).ownBlock ∧ k_ ≠ gb157)) (HO165.out) (fun k_ hk => ⟨hk.1.1.1, ⟨hk.1.1.2.1, hk.1.1.2.2⟩⟩))).2.1 (Kd.N_F (Kd.N_mono (ok' := (fun k_ => (w.heap.size ≤ k_) ∧ some k_ ≠ (v159 : Value).ownBlock ∧ k_ ≠ gb157)) (HO165.out) (fun k_ hk => ⟨hk.1.1.1, ⟨hk.1.1.2.1, hk.1.1.2.2⟩⟩))))) (Reps.c2 (show Kd.FK k122 _ _ (⟨y175, false⟩ : S122) [.slice Ao20 y175.length co20, .bool false] from (k122_mkF _ _ (⟨y175, false⟩ : S122) (Kd.N_reads' (Kd.N_mono (ok' := (fun k_ => (w.heap.size ≤ k_) ∧ some k_ ≠ (v159 : Value).ownBlock ∧ k_ ≠ gb157)) (HO177.out) (fun k_ hk => ⟨hk.1, ⟨hk.2.1, hk.2.2.2⟩⟩))).2.1 (Kd.N_F (Kd.N_mono (ok' := (fun k_ => (w.heap.size ≤ k_) ∧ some k_ ≠ (v159 : Value).ownBlock ∧ k_ ≠ gb157)) (HO177.out) (fun k_ hk => ⟨hk.1, ⟨hk.2.1, hk.2.2.2⟩⟩))))) (Reps.none _ _)))); intro v179 w21 ho22 hb hg_ hnew_; clear hg_ hnew_; (first | rw [← Ny178.out] at ho22 | (simp only [Int.reduceToNat] at ho22; rw [← Ny178.out] at ho22)); have n0_ := Aside0.mk (Kd.R_below (by (with_reducible repeat (first | apply Kd.R_alloc | apply Kd.R_drewN | apply Kd.R_drew)); exact HO160.out) hb); have n1_ := Aside0.mk (Kd.N_lower ho22 (below_size (by repeat (first | (with_reducible first | exact HB.out | apply below_alloc | apply pw_below_drewN | apply below_drew1 | refine below_set ?_ GE157.out) | exact HB.out)))); have n2_ := Aside0.mk (blk_below (g := gb157) (o := .cells #[.slice none 0 0, .slice none 0 0, .int .i64 0] 34 (0, 0)) (by (with_reducible repeat (first | refine blk_drewN ?_ _ | refine blk_drew ?_ | refine blk_alloc ?_ _)); exact BK157.out) hb); have n3_ := Aside0.mk (below_step (by repeat (first | (with_reducible first | exact HB.out | apply below_alloc | apply pw_below_drewN | apply below_drew1 | refine below_set ?_ GE157.out) | exact HB.out)) hb); clear HO160; clear BK157; clear HB; clear HO165; clear HO177; have HO160 := n0_; have HO180 := n1_; have BK157 := n2_; have HB := n3_; clear n0_ n1_ n2_ n3_; clear hb ho22; obtain ⟨Ao23, co23, eo23⟩ := Kd.N_slice HO180.out; subst eo23; obtain ⟨Ao24, co24, eo24⟩ := Kd.R_slice HO160.out; subst eo24; have hcz25_0 : w21.cell? ⟨gb157, 0, none⟩ = some (.slice none 0 0) := (blk_cell BK157.out 0).trans rfl; have hcz25_1 : w21.cell? ⟨gb157, 1, none⟩ = some (.slice none 0 0) := (blk_cell BK157.out 1).trans rfl; have hcz25_2 : w21.cell? ⟨gb157, 2, none⟩ = some (.int .i64 0) := (blk_cell BK157.out 2).trans rfl; have hfz25_0 := blk_frozen BK157.out 0; have hfz25_1 := blk_frozen BK157.out 1; have hfz25_2 := blk_frozen BK157.out 2))
 refine bodyPost_ret (results_cell_row rfl _ _ gb157 34 #[.slice Ao24 y158.length co24, .slice Ao23 y178.length co23, .int .i64 5] (0, 0) _ rfl (by (with_reducible repeat (first | refine blk_drewN ?_ _ | refine blk_drew ?_ | refine blk_alloc ?_ _)); refine blk_put (cs := #[.slice Ao24 y158.length co24, .slice Ao23 y178.length co23, .int .i64 0]) ?_ 2 _ rfl; (with_reducible repeat (first | refine blk_drewN ?_ _ | refine blk_drew ?_ | refine blk_alloc ?_ _)); refine blk_put (cs := #[.slice Ao24 y158.length co24, .slice none 0 0, .int .i64 0]) ?_ 1 _ rfl; (with_reducible repeat (first | refine blk_drewN ?_ _ | refine blk_drew ?_ | refine blk_alloc ?_ _)); refine blk_put (cs := #[.slice none 0 0, .slice none 0 0, .int .i64 0]) ?_ 0 _ rfl; (with_reducible repeat (first | refine blk_drewN ?_ _ | refine blk_drew ?_ | refine blk_alloc ?_ _)); exact BK157.out) Try.underlying34 rfl (by kernel_rfl)) rfl ?_
 exact ⟨_, _, by first | rfl | (simp [errW_none, errW_some] <;> rfl) | (simp [*, errW_none, errW_some] <;> rfl), by (with_reducible repeat (first | apply Kd.R_alloc | apply Kd.R_drewN | apply Kd.R_drew)); exact Kd.R_mono (Kd.R_far (p := ⟨gb157, 2, none⟩) (Kd.R_far (p := ⟨gb157, 1, none⟩) (Kd.R_far (p := ⟨gb157, 0, none⟩) (Kd.R_types HO160.out BK157.out (by decide)) (fun _ hk => hk.2) (.slice Ao24 y158.length co24)) (fun _ hk => hk.2) (.slice Ao23 y178.length co23)) (fun _ hk => hk.2) (.int .i64 5)) (fun _ hk => hk.1.1), by (with_reducible repeat (first | apply Kd.N_alloc | apply Kd.N_drewN | apply Kd.N_drew)); exact Kd.N_mono (Kd.N_far (p := ⟨gb157, 2, none⟩) (Kd.N_far (p := ⟨gb157, 1, none⟩) (Kd.N_far (p := ⟨gb157, 0, none⟩) (Kd.N_mono HO180.out (fun k_ hk => (⟨hk, hk.2.2⟩ : _ ∧ k_ ≠ gb157))) (fun _ hk => hk.2) (.slice Ao24 y158.length co24)) (fun _ hk => hk.2) (.slice Ao23 y178.length co23)) (fun _ hk => hk.2) (.int .i64 5)) (fun _ hk => ⟨hk.1.1, hk.1.2.1⟩), by repeat (first | (with_reducible first | exact HB.out | apply below_alloc | apply pw_below_drewN | apply below_drew1 | refine below_set ?_ GE157.out) | exact HB.out)⟩
end Go.Proofs.Ytiephlhohgohcaa.PAll
namespace Go.Proofs.Ytiephlhohgohcaa.PAll
open Go.RowKit Go.Proofs.YtiephlhohgohcaaW.PrintWords Go.Proofs.YtiephlhohgohcaaW.PrintLast Go.Proofs.YtiephlhohgohcaaW.PrintMore
set_option linter.unusedVariables false
set_option linter.unusedSimpArgs false
/-- The routes of the chapter's post. -/
def twoR : List S122 := [⟨[⟨⟨1, 3⟩, []⟩], true⟩, ⟨[⟨⟨1, 1⟩, [⟨1, 4⟩]⟩, ⟨⟨1, 2⟩, []⟩], false⟩]
theorem two_f : glisterlaw05_two.f = some ([0, 2], twoR, 5) := by rfl
theorem two64 (w : World) : Calls Try.prog 64 #[] w fun e w' => ∃ A0 c0 A1 c1, e = .returned (.agg #[.slice A0 2 c0, .slice A1 2 c1, .int .i64 5]) ∧ 2 ≤ c0 ∧ 2 ≤ c1 ∧ Kd.C (Kd.int .i64) w' A0 2 [0, 2] ∧ Kd.C k122 w' A1 2 twoR ∧ Below w.heap.size w w' := by
  refine (glisterlaw05_two.calls [0, 2] twoR 5 w two_f).mono ?_
  rintro e w' ⟨v0, v1, rfl, hr0, hr1, hb⟩
  obtain ⟨A0, c0, rfl, hl0, hC0⟩ := Kd.R_reads hr0
  obtain ⟨A1, c1, rfl, hl1, hC1⟩ := Kd.N_reads hr1
  exact ⟨A0, c0, A1, c1, rfl, hl0, hl1, hC0, hC1, hb⟩
end Go.Proofs.Ytiephlhohgohcaa.PAll
namespace Go.Proofs.Ytiephlhohgohcaa.PAll
open Go.RowKit Go.Proofs.YtiephlhohgohcaaW.PrintWords Go.Proofs.YtiephlhohgohcaaW.PrintLast Go.Proofs.YtiephlhohgohcaaW.PrintMore
attribute [local go_sem] max2_int min2_int max_two min_two max_three min_three max_four min_four
set_option linter.unusedVariables false
set_option linter.unusedSimpArgs false
set_option maxHeartbeats 1000000 in
theorem list71 (A : Option Addr) (c : Nat) (xs : List Int) (w : World) (h : Kd.C (Kd.int .i64) w A xs.length xs) (hl : xs.length ≤ 1000000) :
    Calls Try.prog 71 #[.slice A xs.length c] w fun e w' => ∃ v, e = .returned v ∧ Kd.R (Kd.int .i64) 3 w' w.heap.size (fun _ => True) v xs ∧ Below w.heap.size w w' := by
  have H := Aside0.mk h
  clear h
  go_enter Try.func71, Try.ntmps71
  go_wp2_with (at_builtin; refine Kd.R_append_row (Value.int .i64) (0 : Int) (w0 := w) w.heap.size rfl (.const (.slice none 0 0)) (.tmp 3) 22 3 (.int .i64 0) 8 rfl Try.underlying22 info3 rfl (by decide) (.slice none 0 0) [] xs A xs.length c (fun _ => True) rfl rfl (fun _ _ => trivial) (Kd.R_nil _ _ _ _ _) H.out (Below.refl _ _) (Nat.le_refl _) (by simp; omega) ?_; intro v1 w1 hr hb hg hat; have HR := Aside0.mk hr; have HB := Aside0.mk hb; clear hr hb hg hat)
  go_ret
  exact ⟨_, rfl, HR.out, HB.out⟩
end Go.Proofs.Ytiephlhohgohcaa.PAll
namespace Go.Proofs.Ytiephlhohgohcaa.PAll
open Go.RowKit Go.Proofs.YtiephlhohgohcaaW.PrintWords Go.Proofs.YtiephlhohgohcaaW.PrintLast Go.Proofs.YtiephlhohgohcaaW.PrintMore
attribute [local go_sem] max2_int min2_int max_two min_two max_three min_three max_four min_four   -- for this text's walks alone
set_option linter.unusedVariables false
set_option linter.unusedSimpArgs false
def glisterlaw05_to.f (a0_0 : Int) (a0_1 : Int) : Option (Int × Int) := some (a0_0, a0_1)
set_option maxHeartbeats 8000000 in
set_option maxRecDepth 100000 in
theorem glisterlaw05_to.calls (a0_0 : Int) (a0_1 : Int) (r1 : Int) (r2 : Int) (w : World) (h : glisterlaw05_to.f a0_0 a0_1 = some (r1, r2)) :
  Calls Try.prog 38 #[.agg #[.int .i64 a0_0, .int .i64 a0_1]] w fun e w' => e = .returned (.agg #[.int .i64 r1, .int .i64 r2]) ∧ Below w.heap.size w w' := by
 have hu64 := Try.underlying64
 have hu68 := Try.underlying68
 have HB := Aside0.mk (Below.refl w.heap.size w)
 have H : (some (a0_0, a0_1)) = some (r1, r2) := h
 clear h
 simp only [Option.some.injEq, Prod.mk.injEq] at H
 obtain ⟨rfl, rfl⟩ := H
 go_enter Try.func38, Try.ntmps38
 go_wp2_with (first | ((with_reducible refine gate_dst (N := 1) rfl ?_); refine box_event ?hg (N := 1) ?hd (cs := #[.int .i64 a0_0, .int .i64 a0_1]) (t := 64) ?hr ?_; (case hd => rfl); (case hg => rfl); (case hr => first | (go_simp; done) | (go_simp; rfl)); intro gb188 hg w2 hbox hb; have n0_ := Aside0.mk (below_step (by repeat (first | (with_reducible first | exact HB.out | apply below_alloc | apply pw_below_drewN | apply below_drew1) | exact HB.out)) hb); have n1_ := Aside0.mk (hbox); have n2_ := Aside0.mk ((by rw [hg]; exact (below_size (by repeat (first | (with_reducible first | exact HB.out | apply below_alloc | apply pw_below_drewN | apply below_drew1) | exact HB.out))) : w.heap.size ≤ gb188)); have n3_ := Aside0.mk ((by rw [hg]; exact (below_size (by repeat (first | (with_reducible first | exact HB.out | apply below_alloc | apply pw_below_drewN | apply below_drew1) | exact HB.out))) : w.heap.size ≤ gb188)); clear HB; have HB := n0_; have BK188 := n1_; have GW188 := n2_; have GE188 := n3_; clear n0_ n1_ n2_ n3_; clear hb hbox hg) | ((with_reducible refine gate_dst (N := 2) rfl ?_); refine box_event ?hg (N := 2) ?hd (cs := #[.int .i64 0, .int .i64 0]) (t := 68) ?hr ?_; (case hd => rfl); (case hg => rfl); (case hr => first | (go_simp; done) | (go_simp; rfl)); intro gb189 hg w3 hbox hb; have n0_ := Aside0.mk (blk_below (g := gb188) (o := .cells #[.int .i64 a0_0, .int .i64 a0_1] 64 (0, 0)) (by (with_reducible repeat (first | refine blk_drewN ?_ _ | refine blk_drew ?_ | refine blk_alloc ?_ _)); exact BK188.out) hb); have n1_ := Aside0.mk (below_step (by repeat (first | (with_reducible first | exact HB.out | apply below_alloc | apply pw_below_drewN | apply below_drew1 | refine below_set ?_ GE188.out) | exact HB.out)) hb); have n2_ := Aside0.mk (hbox); have n3_ := Aside0.mk ((by rw [hg]; exact (below_size (by repeat (first | (with_reducible first | exact HB.out | apply below_alloc | apply pw_below_drewN | apply below_drew1 | refine below_set ?_ GE188.out) | exact HB.out))) : w.heap.size ≤ gb189)); have n4_ := Aside0.mk ((by rw [hg]; exact (below_size (by repeat (first | (with_reducible first | exact HB.out | apply below_alloc | apply pw_below_drewN | apply below_drew1 | refine below_set ?_ GE188.out) | exact HB.out))) : w.heap.size ≤ gb189)); have n5_ := Aside0.mk ((by rw [hg]; exact Nat.ne_of_lt (blk_lt (g := gb188) (o := .cells #[.int .i64 a0_0, .int .i64 a0_1] 64 (0, 0)) (by (with_reducible repeat (first | refine blk_drewN ?_ _ | refine blk_drew ?_ | refine blk_alloc ?_ _)); exact BK188.out)) : gb188 ≠ gb189)); have n6_ := Aside0.mk ((by rw [hg]; exact Nat.ne_of_gt (blk_lt (g := gb188) (o := .cells #[.int .i64 a0_0, .int .i64 a0_1] 64 (0, 0)) (by (with_reducible repeat (first | refine blk_drewN ?_ _ | refine blk_drew ?_ | refine blk_alloc ?_ _)); exact BK188.out)) : gb189 ≠ gb188)); clear BK188; clear HB; have BK188 := n0_; have HB := n1_; have BK189 := n2_; have GW189 := n3_; have GE189 := n4_; have NB188_189 := n5_; have NB189_188 := n6_; clear n0_ n1_ n2_ n3_ n4_ n5_ n6_; clear hb hbox hg; have hnb4 := NB188_189.out; have hnc4 := NB189_188.out; have hcz5_0 : w3.cell? ⟨gb188, 0, none⟩ = some (.int .i64 a0_0) := (blk_cell BK188.out 0).trans rfl; have hcz5_1 : w3.cell? ⟨gb188, 1, none⟩ = some (.int .i64 a0_1) := (blk_cell BK188.out 1).trans rfl; have hfz5_0 := blk_frozen BK188.out 0; have hfz5_1 := blk_frozen BK188.out 1; have hcz6_0 : w3.cell? ⟨gb189, 0, none⟩ = some (.int .i64 0) := (blk_cell BK189.out 0).trans rfl; have hcz6_1 : w3.cell? ⟨gb189, 1, none⟩ = some (.int .i64 0) := (blk_cell BK189.out 1).trans rfl; have hfz6_0 := blk_frozen BK189.out 0; have hfz6_1 := blk_frozen BK189.out 1))
 refine bodyPost_ret (results_cell_row rfl _ _ gb189 68 #[.int .i64 a0_0, .int .i64 a0_1] (0, 0) _ rfl (by (with_reducible repeat (first | refine blk_drewN ?_ _ | refine blk_drew ?_ | refine blk_alloc ?_ _)); refine blk_put (cs := #[.int .i64 a0_0, .int .i64 0]) ?_ 1 _ rfl; (with_reducible repeat (first | refine blk_drewN ?_ _ | refine blk_drew ?_ | refine blk_alloc ?_ _)); refine blk_put (cs := #[.int .i64 0, .int .i64 0]) ?_ 0 _ rfl; (with_reducible repeat (first | refine blk_drewN ?_ _ | refine blk_drew ?_ | refine blk_alloc ?_ _)); exact BK189.out) Try.underlying68 rfl (by kernel_rfl)) rfl ?_
 exact ⟨by first | rfl | (simp [errW_none, errW_some] <;> rfl) | (simp [*, errW_none, errW_some] <;> rfl), by repeat (first | (with_reducible first | exact HB.out | apply below_alloc | apply pw_below_drewN | apply below_drew1 | refine below_set ?_ GE188.out | refine below_set ?_ GE189.out) | exact HB.out)⟩
end Go.Proofs.Ytiephlhohgohcaa.PAll
namespace Go.Proofs.Ytiephlhohgohcaa.PAll
open Go.RowKit Go.Proofs.YtiephlhohgohcaaW.PrintWords Go.Proofs.YtiephlhohgohcaaW.PrintLast Go.Proofs.YtiephlhohgohcaaW.PrintMore
attribute [local go_sem] max2_int min2_int max_two min_two max_three min_three max_four min_four   -- for this text's walks alone
set_option linter.unusedVariables false
set_option linter.unusedSimpArgs false
def glisterlaw05_spans.l0 : Nat → List (S64) → List (S68) → Int → Option ((List (S68)))
 | 0, _, _, _ => none
 | k + 1, x0, x3, x4 => if x4 < (x0.length : Int) then (if 0 ≤ x4 then ((glisterlaw05_to.f ((rd_T64 x0 x4).f0) ((rd_T64 x0 x4).f1)).bind fun bt191 => (if x3.length < 8796093022208 then (glisterlaw05_spans.l0 k x0 (x3 ++ [(⟨bt191.1, bt191.2⟩ : S68)]) (wrap64 (x4 + 1))) else (none))) else (none)) else (some x3)
def glisterlaw05_spans.f (k : Nat) (l0 : List (S64)) : Option ((List (S68))) := glisterlaw05_spans.l0 k l0 ([] : List (S68)) 0
theorem glisterlaw05_spans.mono_l : ∀ k, (∀ y0 y1 y2, LeO (glisterlaw05_spans.l0 k y0 y1 y2) (glisterlaw05_spans.l0 (k + 1) y0 y1 y2))
 | 0 => fun _ _ _ r h => by simp [glisterlaw05_spans.l0] at h
 | k + 1 => by
  have ih0 := glisterlaw05_spans.mono_l k
  ·intro y0 y1 y2
   unfold glisterlaw05_spans.l0
   repeat' first
   | (with_reducible exact ih0 _ _ _)
   | (with_reducible exact LeO.refl _)
   | (with_reducible exact LeO.none _)
   | (with_reducible refine LeO.ite ?_ ?_)
   | (with_reducible refine LeO.bind ?_ (fun _ => ?_))
   | exact ih0 _ _ _
   | exact LeO.none _
   | refine LeO.ite ?_ ?_
   | refine LeO.bind ?_ (fun _ => ?_)
theorem glisterlaw05_spans.mono : ∀ a0 k, LeO (glisterlaw05_spans.f k a0) (glisterlaw05_spans.f (k + 1) a0) := by
 intro a0 k
 have ih0 := glisterlaw05_spans.mono_l k
 unfold glisterlaw05_spans.f
 repeat' first
   | (with_reducible exact ih0 _ _ _)
   | (with_reducible exact LeO.refl _)
   | (with_reducible exact LeO.none _)
   | (with_reducible refine LeO.ite ?_ ?_)
   | (with_reducible refine LeO.bind ?_ (fun _ => ?_))
   | exact ih0 _ _ _
   | exact LeO.none _
   | refine LeO.ite ?_ ?_
   | refine LeO.bind ?_ (fun _ => ?_)
set_option maxHeartbeats 8000000 in
set_option maxRecDepth 100000 in
theorem glisterlaw05_spans.calls (k : Nat) (A0 : Option Addr) (c0 : Nat) (l0 : List (S64)) (r : List (S68)) (w : World) (hr0 : Kd.C k64 w A0 l0.length l0) (hc0 : l0.length ≤ c0) (h : glisterlaw05_spans.f k l0 = some r) :
  Calls Try.prog 72 #[.slice A0 l0.length c0] w fun e w' => ∃ v0_ : Value, e = .returned (v0_) ∧ Kd.R k68 68 w' w.heap.size (fun _ => True) v0_ r ∧ Below w.heap.size w w' := by
 have hu64 := Try.underlying64
 have HR0 := Aside0.mk hr0
 have HC0 := Aside0.mk hc0
 clear hr0 hc0
 have HB := Aside0.mk (Below.refl w.heap.size w)
 have H : (glisterlaw05_spans.l0 k l0 ([] : List (S68)) 0) = some r := h
 clear h
 have H' := Aside0.mk H
 clear H
 go_enter Try.func72, Try.ntmps72
 go_wp2
 go_loopg [3, 4] k (fun kq v3 v4 w' => ∃ (x3_1 : List (S68)) (x4_1 : Int), v4 = .int .i64 x4_1 ∧ Aside0 (glisterlaw05_spans.l0 kq l0 x3_1 x4_1 = some r) ∧ Aside0 (kq ≤ k) ∧ Aside0 (Kd.R k68 68 w' w.heap.size (fun _ => True) v3 x3_1) ∧ Aside0 (Below w.heap.size w w'))
 case atStart => exact ⟨(([] : List (S68))), (0), (by first | rfl | (simp; done) | (simp [*]; done)), H', ⟨Nat.le_refl _⟩, ⟨by first | exact Kd.R_nil _ _ _ _ _ | exact Kd.N_nil _ _ _ _ _ | exact Kd.V_nil _ _ _ _ _ | exact Kd.Q_nil _ _ _ _ _ | exact Kd.S_nil _ _ _ _ _⟩, ⟨by repeat (first | (with_reducible first | exact HB.out | apply below_alloc | apply pw_below_drewN | apply below_drew1) | exact HB.out)⟩⟩
 case round =>
  clear H'
  obtain ⟨x3_1, x4_1, rfl, HA, HK1, HO_3, HB⟩ := hrel
  cases gk with
  | zero => exact absurd HA.out (by simp [glisterlaw05_spans.l0])
  | succ k1 =>
   have H := HA.out
   clear HA
   simp only [glisterlaw05_spans.l0] at H
   by_cases c2 : x4_1 < (l0.length : Int)
   ·rw [if_pos c2] at H
    have c2b0 : decide (x4_1 < (l0.length : Int)) = true := decide_eq_true c2
    clear c2
    by_cases c3 : 0 ≤ x4_1
    ·rw [if_pos c3] at H
     have c3b0 : decide (0 ≤ x4_1) = true := decide_eq_true c3
     clear c3
     replace H := Option.bind_eq_some_iff.mp H
     obtain ⟨⟨t191, t192⟩, A40, H⟩ := H
     replace H : (if x3_1.length < 8796093022208 then (glisterlaw05_spans.l0 k1 l0 (x3_1 ++ [(⟨t191, t192⟩ : S68)]) (wrap64 (x4_1 + 1))) else (none)) = some r := H
     have A4 := Aside0.mk A40
     clear A40
     by_cases c5 : x3_1.length < 8796093022208
     ·rw [if_pos c5] at H
      have LMc5 := Aside0.mk c5
      clear c5
      obtain ⟨y193, hy193⟩ : ∃ y_ : List (S68), y_ = (x3_1 ++ [(⟨t191, t192⟩ : S68)]) := ⟨_, rfl⟩
      replace H : (glisterlaw05_spans.l0 k1 l0 y193 (wrap64 (x4_1 + 1))) = some r := by first | (rw [hy193]; with_reducible exact H) | (have H2_ := (Option.bind_some _ _).symm.trans H; rw [hy193]; with_reducible exact H2_) | (have H2_ := (Option.bind_some _ _).symm.trans H; with_reducible exact H2_) | with_reducible exact H | (rw [hy193]; exact H) | exact H
      have Ny193 := Aside0.mk hy193
      clear hy193
      have H' := Aside0.mk H
      clear H
      have p190 : 0 ≤ (x4_1 : Int) := of_decide_eq_true (by first | (with_reducible assumption) | assumption)
      have q190 : x4_1 < (l0.length : Int) := of_decide_eq_true (by first | (with_reducible assumption) | assumption)
      obtain ⟨ad190, e190, hx190_0, hx190_1⟩ := at_T64 HR0.out x4_1 p190 q190
      cases e190
      replace hx190_0 := (HB.out.cell (World.block_lt_of_cell? w _ hx190_0)).trans hx190_0
      replace hx190_1 := (HB.out.cell (World.block_lt_of_cell? w _ hx190_1)).trans hx190_1
      replace p190 := eq_true p190
      replace q190 := eq_true q190
      go_wp2_with (first | ((with_reducible refine gate_callee (f := 38) rfl ?_); refine goesL_ (some 16) rfl rfl Try.func38 (by kernel_rfl) rfl #[.agg #[.int .i64 ((rd_T64 l0 x4_1).f0), .int .i64 ((rd_T64 l0 x4_1).f1)]] rfl (by (try simp only [List.map_toArray, List.map_cons, List.map_nil]); first | done | rfl | (simp only [List.length_drop, List.length_take]; rfl)) ?_; (with_reducible refine (glisterlaw05_to.calls ((rd_T64 l0 x4_1).f0) ((rd_T64 l0 x4_1).f1) t191 t192 _ A4.out).mono ?_); rintro e w6 ⟨rfl, hb⟩; refine ⟨_, rfl, ?_⟩; have n0_ := Aside0.mk (Kd.R_below (by (with_reducible repeat (first | apply Kd.R_alloc | apply Kd.R_drewN | apply Kd.R_drew)); exact HO_3.out) hb); have n1_ := Aside0.mk (below_step (by repeat (first | (with_reducible first | exact HB.out | apply below_alloc | apply pw_below_drewN | apply below_drew1) | exact HB.out)) hb); clear HO_3; clear HB; have HO_3 := n0_; have HB := n1_; clear n0_ n1_; (try clear hb); (try clear hb2); (try clear hk); (try clear hi)) | ((with_reducible refine gate_builtin (b := .append) (xs := #[.tmp 11, .tmp 17]) rfl ?_); at_builtin; refine Kd.R_append k68 (w0 := w) w.heap.size rfl (.tmp 11) (.tmp 17) 57 68 (.agg #[(.int .i64 0), (.int .i64 0)]) 16 rfl Try.underlying57 info68 rfl (by decide) (by omega) u3 x3_1 (⟨t191, t192⟩ : S68) [.int .i64 t191, .int .i64 t192] (fun _ => True) (fun _ => False) rfl rfl ?aP (fun _ hk => hk.elim) ?aF ?aO ?aB ?aS ?aL ?_; (case aP => exact k68_mkM _ _ _ (⟨t191, t192⟩ : S68)); (case aB => exact (by repeat (first | (with_reducible first | exact HB.out | apply below_alloc | apply pw_below_drewN | apply below_drew1) | exact HB.out))); (case aF => exact (fun _ _ => trivial)); (case aO => exact (by (with_reducible repeat (first | apply Kd.R_alloc | apply Kd.R_drewN | apply Kd.R_drew)); exact HO_3.out)); (case aS => exact (below_size (by repeat (first | (with_reducible first | exact HB.out | apply below_alloc | apply pw_below_drewN | apply below_drew1) | exact HB.out)))); (case aL => have := LMc5.out; omega); intro v194 w7 ho hb hg hat; rw [← Ny193.out] at ho; have n0_ := Aside0.mk (hb); have n1_ := Aside0.mk (ho); clear HB; clear HO_3; have HB := n0_; have HO195 := n1_; clear n0_ n1_; clear ho hb hg hat))
      go_roundg k1
      case measure => have := HK1.out; omega
      case rel => exact ⟨(y193), (wrap64 (x4_1 + 1)), (by first | rfl | (simp; done) | (simp [*]; done)), H', ⟨by have := HK1.out; omega⟩, ⟨by (with_reducible repeat (first | apply Kd.R_alloc | apply Kd.R_drewN | apply Kd.R_drew)); exact HO195.out⟩, ⟨by repeat (first | (with_reducible first | exact HB.out | apply below_alloc | apply pw_below_drewN | apply below_drew1) | exact HB.out)⟩⟩
     ·rw [if_neg c5] at H
      exact absurd H (by simp)
    ·rw [if_neg c3] at H
     exact absurd H (by simp)
   ·rw [if_neg c2] at H
    have c2b0 : decide (x4_1 < (l0.length : Int)) = false := decide_eq_false c2
    clear c2
    obtain rfl := Option.some.inj H
    go_wp2
    go_ret
    exact ⟨_, by first | rfl | (simp [errW_none, errW_some] <;> rfl) | (simp [*, errW_none, errW_some] <;> rfl), by (with_reducible repeat (first | apply Kd.R_alloc | apply Kd.R_drewN | apply Kd.R_drew)); exact HO_3.out, by repeat (first | (with_reducible first | exact HB.out | apply below_alloc | apply pw_below_drewN | apply below_drew1) | exact HB.out)⟩
end Go.Proofs.Ytiephlhohgohcaa.PAll
namespace Go.Proofs.Ytiephlhohgohcaa.PAll
open Go.RowKit Go.Proofs.YtiephlhohgohcaaW.PrintWords Go.Proofs.YtiephlhohgohcaaW.PrintLast Go.Proofs.YtiephlhohgohcaaW.PrintMore
attribute [local go_sem] max2_int min2_int max_two min_two max_three min_three max_four min_four
set_option linter.unusedVariables false
set_option linter.unusedSimpArgs false
theorem spans_pure (l : List S64) (hl : l.length ≤ 1000) : ∀ (d k i : Nat), i + d = l.length → d < k → glisterlaw05_spans.l0 k l ((l.take i).map toR) (i : Int) = some (l.map toR)
  | 0, k, i, hd, hk => by
    obtain ⟨k, rfl⟩ : ∃ m, k = m + 1 := ⟨k - 1, by omega⟩
    simp only [glisterlaw05_spans.l0]
    rw [if_neg (by omega), List.take_of_length_le (by omega)]
  | d + 1, k, i, hd, hk => by
    obtain ⟨k, rfl⟩ : ∃ m, k = m + 1 := ⟨k - 1, by omega⟩
    have hw : wrap64 ((i : Int) + 1) = ((i + 1 : Nat) : Int) := by unfold wrap64; omega
    have ih := spans_pure l hl d k (i + 1) (by omega) (by omega)
    have hx : rd_T64 l (i : Int) = l[i]'(by omega) := by unfold rd_T64; rw [Int.toNat_natCast, rd_in _ _ _ (by omega)]
    simp only [glisterlaw05_spans.l0, glisterlaw05_to.f, Option.bind_some]
    rw [if_pos (by omega), if_pos (by omega), if_pos (by simp; omega), hw, ← ih, List.take_succ_eq_append_getElem (by omega), List.map_append, hx]
    rfl
theorem spans72 (A : Option Addr) (c : Nat) (l : List S64) (w : World) (h : Kd.C k64 w A l.length l) (hc : l.length ≤ c) (hl : l.length ≤ 1000) :
    Calls Try.prog 72 #[.slice A l.length c] w fun e w' => ∃ v, e = .returned v ∧ Kd.R k68 68 w' w.heap.size (fun _ => True) v (l.map toR) ∧ Below w.heap.size w w' :=
  glisterlaw05_spans.calls (l.length + 1) A c l (l.map toR) w h hc (by unfold glisterlaw05_spans.f; exact spans_pure l hl l.length (l.length + 1) 0 (by omega) (by omega))
theorem to38 (x : S64) (w : World) : Calls Try.prog 38 #[.agg #[.int .i64 x.f0, .int .i64 x.f1]] w fun e w' => e = .returned (.agg #[.int .i64 (toR x).f0, .int .i64 (toR x).f1]) ∧ Below w.heap.size w w' :=
  glisterlaw05_to.calls x.f0 x.f1 x.f0 x.f1 w rfl
set_option maxRecDepth 100000 in
set_option maxHeartbeats 4000000 in
theorem post22 (A0 : Option Addr) (c0 : Nat) (sends : List Int) (A1 : Option Addr) (c1 : Nat) (routes : List S54) (pat : Int) (w : World)
    (h0 : Kd.C (Kd.int .i64) w A0 sends.length sends) (h1 : Kd.C k54 w A1 routes.length routes) (hs : sends.length ≤ 1000) (hr : routes.length ≤ 1000) (hl : ∀ r ∈ routes, r.f0.length ≤ 1000) (hal : ∀ r ∈ routes, ∀ l ∈ r.f0, l.f1.length ≤ 1000) :
    Calls Try.prog 22 #[.agg #[.slice A0 sends.length c0, .slice A1 routes.length c1, .int .i64 pat]] w fun e w' =>
      ∃ vs vr, e = .returned (.agg #[vs, vr, .int .i64 pat]) ∧ Kd.R (Kd.int .i64) 3 w' w.heap.size (fun _ => True) vs sends ∧ Kd.R k122 122 w' w.heap.size (fun _ => True) vr (routes.map toX) ∧ Below w.heap.size w w' := by
  have HR0 := Aside0.mk h0
  have HR1 := Aside0.mk h1
  have HL := Aside0.mk hl
  have HAL := Aside0.mk hal
  clear h0 h1 hl hal
  obtain ⟨W1, hW1⟩ : ∃ W1, W1 = (w.alloc (.cells #[.slice A0 sends.length c0, .slice A1 routes.length c1, .int .i64 pat] 25)).alloc (.cells #[.slice none 0 0, .slice none 0 0, .int .i64 0] 34) := ⟨_, rfl⟩
  have HB0 := Aside0.mk (show Below w.heap.size w W1 from hW1 ▸ ((Below.refl _ w).alloc (Nat.le_refl _) _).alloc (by simp) _)
  have HK0 := Aside0.mk (show W1.heap[w.heap.size]? = some (.cells #[.slice A0 sends.length c0, .slice A1 routes.length c1, .int .i64 pat] 25 (0, 0)) from hW1 ▸ blk_alloc (blk_new _ _) _)
  have HK1 := Aside0.mk (show W1.heap[w.heap.size + 1]? = some (.cells #[.slice none 0 0, .slice none 0 0, .int .i64 0] 34 (0, 0)) from hW1 ▸ (by have := blk_new (w.alloc (.cells #[.slice A0 sends.length c0, .slice A1 routes.length c1, .int .i64 pat] 25)) (.cells #[.slice none 0 0, .slice none 0 0, .int .i64 0] 34); rwa [World.size_alloc] at this))
  have hz := show W1.heap.size = w.heap.size + 2 by rw [hW1]; simp
  have HW1 := Aside0.mk hW1
  have HZ := Aside0.mk hz
  clear hW1 hz
  go_enter Try.func22, Try.ntmps22
  go_upto_region 1 with fail
  rw [← HW1.out]
  clear HW1
  go_cut [3] (fun s3 wx => ∃ (g : Nat) (A : Option Addr) (c : Nat), s3 = .pointer (some ⟨g, 0, none⟩) ∧ w.heap.size + 2 ≤ g ∧ Aside0 (wx.heap[g]? = some (.cells #[.slice A sends.length c, .slice none 0 0, .int .i64 pat] 34 (0, 0))) ∧
    Aside0 (Kd.R (Kd.int .i64) 3 wx w.heap.size (fun _ => True) (.slice A sends.length c) sends) ∧ Aside0 (wx.heap[w.heap.size]? = some (.cells #[.slice A0 sends.length c0, .slice A1 routes.length c1, .int .i64 pat] 25 (0, 0))) ∧
    Aside0 (wx.heap[w.heap.size + 1]? = some (.cells #[.slice none 0 0, .slice none 0 0, .int .i64 0] 34 (0, 0))) ∧ Aside0 (Below w.heap.size w wx))
  case first =>
    have b0 : W1.cell? ⟨w.heap.size, 0, none⟩ = some (.slice A0 sends.length c0) := (blk_cell HK0.out 0).trans rfl
    have b2 : W1.cell? ⟨w.heap.size, 2, none⟩ = some (.int .i64 pat) := (blk_cell HK0.out 2).trans rfl
    have KEEP : Aside0 (∀ w' : World, Below W1.heap.size W1 w' → (w'.cell? ⟨w.heap.size, 0, none⟩ = some (.slice A0 sends.length c0) ∧ w'.cell? ⟨w.heap.size, 2, none⟩ = some (.int .i64 pat))) := ⟨fun w' hb => ⟨pw_cell_below hb b0, pw_cell_below hb b2⟩⟩
    have hq0 : Aside0 (Below W1.heap.size W1 W1.drew) := ⟨below_drew (Below.refl _ _)⟩
    have hqA : Aside0 (Below W1.heap.size W1 (W1.alloc (.cells #[.slice none 0 0, .slice none 0 0, .int .i64 0] 34)).drew) := ⟨below_drew ((Below.refl _ _).alloc (Nat.le_refl _) _)⟩
    have hkA : Aside0 ((W1.alloc (.cells #[.slice none 0 0, .slice none 0 0, .int .i64 0] 34)).drew.heap[W1.heap.size]? = some (.cells #[.slice none 0 0, .slice none 0 0, .int .i64 0] 34 (0, 0))) := ⟨blk_drew (blk_new _ _)⟩
    go_region_held3 (fun w' => w'.cell? ⟨w.heap.size, 0, none⟩ = some (.slice A0 sends.length c0) ∧ w'.cell? ⟨w.heap.size, 2, none⟩ = some (.int .i64 pat))
      (first
        | exact KEEP.out _ hq0.out
        | exact KEEP.out _ hqA.out
        | exact KEEP.out _ hq1.out
        | exact KEEP.out _ (hq1.out.alloc hq1.out.size _)
        | exact KEEP.out _ (((hq1.out.setCell (p := ⟨W1.heap.size, 0, none⟩) (Nat.le_refl _) _).setCell (p := ⟨W1.heap.size, 1, none⟩) (Nat.le_refl _) _).setCell (p := ⟨W1.heap.size, 2, none⟩) (Nat.le_refl _) _))
      (first
        | (go_at_call 71; refine (list71 A0 c0 sends ((W1.alloc (.cells #[.slice none 0 0, .slice none 0 0, .int .i64 0] 34)).drew) (Kd.C_below HR0.out (below_then HB0.out HB0.out.size hqA.out)) (by omega)).mono ?_; rintro e w3 ⟨v3, rfl, hr3, hb3⟩; obtain ⟨A3, c3, rfl⟩ := Kd.R_slice hr3; have hq1 := Aside0.mk (below_then hqA.out hqA.out.size hb3); have hv3 := Aside0.mk (Kd.R_lower hr3 (Nat.le_trans HB0.out.size hqA.out.size)); have hk3 := blk_below hkA.out hb3; have f0 := blk_frozen hk3 0; have f1 := blk_frozen hk3 1; have f2 := blk_frozen hk3 2; have q0 := (blk_cell hk3 0).trans rfl; have q1 := (blk_cell hk3 1).trans rfl; have q2 := (blk_cell hk3 2).trans rfl; have HK3 := Aside0.mk hk3; clear hr3 hb3 hk3)
        | (go_at_call 71; refine (list71 A0 c0 sends W1.drew (Kd.C_below HR0.out (below_then HB0.out HB0.out.size hq0.out)) (by omega)).mono ?_; rintro e w3 ⟨v3, rfl, hr3, hb3⟩; obtain ⟨A3, c3, rfl⟩ := Kd.R_slice hr3; have hq1 := Aside0.mk (below_then hq0.out hq0.out.size hb3); have hv3 := Aside0.mk (Kd.R_lower hr3 (Nat.le_trans HB0.out.size hq0.out.size)); clear hr3 hb3))
    all_goals (go_wp2_with fail; go_meet)
    all_goals first
      | (have hbx := hq1.out.alloc hq1.out.size (.cells #[.slice A3 sends.length c3, .slice none 0 0, .int .i64 pat] 34)
         exact ⟨w3.heap.size, A3, c3, rfl, by have := hq1.out.size; have := HZ.out; omega, ⟨blk_new _ _⟩, ⟨Kd.R_below hv3.out ((Below.refl _ w3).alloc (Nat.le_refl _) _)⟩, ⟨blk_below HK0.out hbx⟩, ⟨blk_below HK1.out hbx⟩, ⟨below_then HB0.out HB0.out.size hbx⟩⟩)
      | (have hbx := ((hq1.out.setCell (p := ⟨W1.heap.size, 0, none⟩) (Nat.le_refl _) (.slice A3 sends.length c3)).setCell (p := ⟨W1.heap.size, 1, none⟩) (Nat.le_refl _) (.slice none 0 0)).setCell (p := ⟨W1.heap.size, 2, none⟩) (Nat.le_refl _) (.int .i64 pat)
         have hb1 := blk_set HK3.out 0 (.slice A3 sends.length c3)
         have hb2 := blk_set hb1 1 (.slice none 0 0)
         have hb3 := blk_set hb2 2 (.int .i64 pat)
         exact ⟨W1.heap.size, A3, c3, rfl, by have := HZ.out; omega, ⟨hb3⟩, ⟨Kd.R_set (Kd.R_set (Kd.R_set hv3.out HK3.out (by decide) 0 _) hb1 (by decide) 1 _) hb2 (by decide) 2 _⟩, ⟨blk_below HK0.out hbx⟩, ⟨blk_below HK1.out hbx⟩, ⟨below_then HB0.out HB0.out.size hbx⟩⟩)
  case rest =>
    obtain ⟨g, A, c, rfl, hg, HG, HS, HK0', HK1', HB⟩ := hcut
    clear HK0 HK1 HB0
    go_wp2_with fail
    have HGW := Aside0.mk hg
    go_loopg [4] routes.length (fun gg s4 wr => ∃ (k : Nat) (Ar : Option Addr) (nr cr : Nat), k ≤ routes.length ∧ routes.length - k ≤ gg ∧ s4 = .int .i64 k ∧ Aside0 (wr.heap[g]? = some (.cells #[.slice A sends.length c, .slice Ar nr cr, .int .i64 pat] 34 (0, 0))) ∧
      Aside0 (Kd.R k122 122 wr w.heap.size (fun _ => True) (.slice Ar nr cr) ((routes.take k).map toX)) ∧ Aside0 (Kd.R (Kd.int .i64) 3 wr w.heap.size (fun _ => True) (.slice A sends.length c) sends) ∧
      Aside0 (wr.heap[w.heap.size]? = some (.cells #[.slice A0 sends.length c0, .slice A1 routes.length c1, .int .i64 pat] 25 (0, 0))) ∧ Aside0 (wr.heap[w.heap.size + 1]? = some (.cells #[.slice none 0 0, .slice none 0 0, .int .i64 0] 34 (0, 0))) ∧ Aside0 (Below w.heap.size w wr))
    case atStart => exact ⟨0, none, 0, 0, by omega, by omega, rfl, HG, ⟨Kd.R_nil _ _ _ _ _⟩, HS, HK0', HK1', HB⟩
    case round =>
      obtain ⟨k, Ar, nr, cr, hk, hgk, rfl, HGr, HVR, HSr, HK0r, HK1r, HBr⟩ := hrel
      clear HG HS HK0' HK1' HB
      obtain ⟨wm, rfl⟩ : ∃ wm : World, wm = wr := ⟨_, rfl⟩
      have b1 : wm.cell? ⟨w.heap.size, 1, none⟩ = some (.slice A1 routes.length c1) := (blk_cell HK0r.out 1).trans rfl
      by_cases hlt : k < routes.length
      · have hltz : (k : Int) < (routes.length : Int) := by omega
        obtain ⟨ad, A5, c5, e5, d50, d51, l5, g5⟩ := at_T54 HR1.out (k : Int) (by omega) hltz
        cases e5
        rw [Int.toNat_natCast] at d50 d51
        have D50 := Aside0.mk d50
        replace d50 := (HBr.out.cell (World.block_lt_of_cell? w _ d50)).trans d50
        replace d51 := (HBr.out.cell (World.block_lt_of_cell? w _ d51)).trans d51
        have hx : rd_T54 routes (k : Int) = routes[k] := by unfold rd_T54; rw [Int.toNat_natCast, rd_in _ _ _ hlt]
        have hln : (rd_T54 routes (k : Int)).f0.length ≤ 1000 := by rw [hx]; exact HL.out _ (List.getElem_mem hlt)
        have HLA := Aside0.mk (show ∀ l ∈ (rd_T54 routes (k : Int)).f0, l.f1.length ≤ 1000 by rw [hx]; exact HAL.out _ (List.getElem_mem hlt))
        have HXk := Aside0.mk hx
        have G5 := Aside0.mk g5
        clear hx g5
        generalize rd_T54 routes (k : Int) = x at d50 d51 D50 l5 hln HLA HXk G5
        obtain ⟨legs, lossy⟩ := x
        dsimp only at d50 d51 D50 l5 hln HLA G5
        obtain ⟨gx, hgx⟩ : ∃ gx, gx = wm.heap.size := ⟨_, rfl⟩
        obtain ⟨W2, hW2⟩ : ∃ W2, W2 = wm.alloc (.cells #[.slice none 0 0, .bool lossy] 122) := ⟨_, rfl⟩
        have hb2 : Below wm.heap.size wm W2 := hW2 ▸ (Below.refl _ wm).alloc (Nat.le_refl _) _
        have HX2 := Aside0.mk (show W2.heap[gx]? = some (.cells #[.slice none 0 0, .bool lossy] 122 (0, 0)) from by rw [hgx, hW2]; exact blk_new _ _)
        have HVR2 := Aside0.mk (show Kd.R k122 122 W2 w.heap.size (fun k' => k' ≠ gx ∧ some k' ≠ (Value.slice none 0 0).ownBlock) (.slice Ar nr cr) ((routes.take k).map toX) from
          Kd.R_mono (Kd.R_below (Kd.R_bound HVR.out) hb2) (fun k' hk' => ⟨by have := hk'.2.2.1; omega, fun e => by simp [Value.ownBlock] at e⟩))
        have HS2 := Aside0.mk (Kd.R_below HSr.out hb2)
        have HG2 := Aside0.mk (blk_below HGr.out hb2)
        have HK02 := Aside0.mk (blk_below HK0r.out hb2)
        have HK12 := Aside0.mk (blk_below HK1r.out hb2)
        have HB2 := Aside0.mk (below_then HBr.out HBr.out.size hb2)
        have HGX := Aside0.mk (show g ≠ gx ∧ w.heap.size ≤ gx from by have := blk_lt HGr.out; have := HBr.out.size; omega)
        have HXW := Aside0.mk (show w.heap.size + 2 ≤ gx from by have := blk_lt HK1r.out; omega)
        have HW2 := Aside0.mk hW2
        clear hW2 hb2
        go_wp2_with fail
        rw [← HW2.out, ← hgx]
        clear HW2 hgx b1 d50 d51
        go_loopg [6] legs.length (fun gm s6 wi => ∃ (m : Nat) (A7 : Option Addr) (nl c7 : Nat), m ≤ legs.length ∧ legs.length - m ≤ gm ∧ s6 = .int .i64 m ∧ Aside0 (wi.heap[gx]? = some (.cells #[.slice A7 nl c7, .bool lossy] 122 (0, 0))) ∧
          Aside0 (Kd.R k119 119 wi w.heap.size (fun _ => True) (.slice A7 nl c7) ((legs.take m).map toL)) ∧
          Aside0 (Kd.R k122 122 wi w.heap.size (fun k' => k' ≠ gx ∧ some k' ≠ (Value.slice A7 nl c7).ownBlock) (.slice Ar nr cr) ((routes.take k).map toX)) ∧
          Aside0 (Kd.R (Kd.int .i64) 3 wi w.heap.size (fun _ => True) (.slice A sends.length c) sends) ∧ Aside0 (wi.heap[g]? = some (.cells #[.slice A sends.length c, .slice Ar nr cr, .int .i64 pat] 34 (0, 0))) ∧
          Aside0 (wi.heap[w.heap.size]? = some (.cells #[.slice A0 sends.length c0, .slice (some ad) routes.length c1, .int .i64 pat] 25 (0, 0))) ∧ Aside0 (wi.heap[w.heap.size + 1]? = some (.cells #[.slice none 0 0, .slice none 0 0, .int .i64 0] 34 (0, 0))) ∧ Aside0 (Below w.heap.size w wi))
        case atStart => exact ⟨0, none, 0, 0, by omega, by omega, rfl, HX2, ⟨Kd.R_nil _ _ _ _ _⟩, HVR2, HS2, HG2, HK02, HK12, HB2⟩
        case round =>
          obtain ⟨m, A7, nl, c7, hm, hgm, rfl, HXi, HIi, HVRi, HSi, HGi, HK0i, HK1i, HBi⟩ := hrel
          clear HX2 HVR2 HS2 HG2 HK02 HK12 HB2 HGr HVR HSr HK0r HK1r HBr
          have b1 : wr.cell? ⟨w.heap.size, 1, none⟩ = some (.slice (some ad) routes.length c1) := (blk_cell HK0i.out 1).trans rfl
          have d50 := (HBi.out.cell (World.block_lt_of_cell? w _ D50.out)).trans D50.out
          by_cases hml : m < legs.length
          · have hmlz : (m : Int) < (legs.length : Int) := by omega
            obtain ⟨ad6, A8, c8, e6, d60, d61, d62, l8, g8⟩ := at_T101 G5.out (m : Int) (by omega) hmlz
            cases e6
            rw [Int.toNat_natCast] at d60 d61 d62
            replace d60 := (HBi.out.cell (World.block_lt_of_cell? w _ d60)).trans d60
            replace d61 := (HBi.out.cell (World.block_lt_of_cell? w _ d61)).trans d61
            replace d62 := (HBi.out.cell (World.block_lt_of_cell? w _ d62)).trans d62
            have hy : rd_T101 legs (m : Int) = legs[m] := by unfold rd_T101; rw [Int.toNat_natCast, rd_in _ _ _ hml]
            have NL8 := Aside0.mk (show (rd_T101 legs (m : Int)).f1.length ≤ 1000 by rw [hy]; exact HLA.out _ (List.getElem_mem hml))
            have HY := Aside0.mk hy
            have G8 := Aside0.mk g8
            have L8 := Aside0.mk l8
            clear hy g8 l8
            generalize rd_T101 legs (m : Int) = l at d60 d61 d62 NL8 HY G8 L8
            obtain ⟨gl, hgl⟩ : ∃ gl, gl = wr.heap.size := ⟨_, rfl⟩
            obtain ⟨W5, hW5⟩ : ∃ W5, W5 = wr.alloc (.cells #[.int .i64 l.f0.f0, .int .i64 l.f0.f1, .slice A8 l.f1.length c8] 101) := ⟨_, rfl⟩
            have hb5 : Below wr.heap.size wr W5 := hW5 ▸ (Below.refl _ wr).alloc (Nat.le_refl _) _
            have HLb := Aside0.mk (show W5.heap[gl]? = some (.cells #[.int .i64 l.f0.f0, .int .i64 l.f0.f1, .slice A8 l.f1.length c8] 101 (0, 0)) from by rw [hgl, hW5]; exact blk_new _ _)
            have HX5 := Aside0.mk (blk_below HXi.out hb5)
            have HI5 := Aside0.mk (Kd.R_below HIi.out hb5)
            have HVR5 := Aside0.mk (Kd.R_below HVRi.out hb5)
            have HS5 := Aside0.mk (Kd.R_below HSi.out hb5)
            have HG5 := Aside0.mk (blk_below HGi.out hb5)
            have HK05 := Aside0.mk (blk_below HK0i.out hb5)
            have HK15 := Aside0.mk (blk_below HK1i.out hb5)
            have HB5 := Aside0.mk (below_then HBi.out HBi.out.size hb5)
            have KEEP : Aside0 (∀ w' : World, w'.heap[gx]? = some (.cells #[.slice A7 nl c7, .bool lossy] 122 (0, 0)) → w'.heap[gl]? = some (.cells #[.int .i64 l.f0.f0, .int .i64 l.f0.f1, .slice A8 l.f1.length c8] 101 (0, 0)) →
              (w'.cell? ⟨gx, 0, none⟩ = some (.slice A7 nl c7) ∧ w'.cell? ⟨gl, 0, none⟩ = some (.int .i64 l.f0.f0) ∧ w'.cell? ⟨gl, 1, none⟩ = some (.int .i64 l.f0.f1) ∧ w'.cell? ⟨gl, 2, none⟩ = some (.slice A8 l.f1.length c8))) :=
              ⟨fun w' h1 h2 => ⟨(blk_cell h1 0).trans rfl, (blk_cell h2 0).trans rfl, (blk_cell h2 1).trans rfl, (blk_cell h2 2).trans rfl⟩⟩
            have HW5 := Aside0.mk hW5
            clear hW5 hb5
            go_wp2_with fail
            rw [← HW5.out, ← hgl]
            clear HW5 hgl d60 d61 d62 b1 d50
            refine start_ (n := 13) (S := fun w' => w'.cell? ⟨gx, 0, none⟩ = some (.slice A7 nl c7) ∧ w'.cell? ⟨gl, 0, none⟩ = some (.int .i64 l.f0.f0) ∧ w'.cell? ⟨gl, 1, none⟩ = some (.int .i64 l.f0.f1) ∧ w'.cell? ⟨gl, 2, none⟩ = some (.slice A8 l.f1.length c8)) (ds := [12]) #[false, false, false, false, false, false, false, false, false, false, false, false, false] (by kernel_rfl) rfl rfl (KEEP.out _ (blk_drew HX5.out) (blk_drew HLb.out)) (fun hHeld => ?_)
            have n1 := Aside0.mk (blk_drew HX5.out)
            have n2 := Aside0.mk (blk_drew HLb.out)
            have n3 := Aside0.mk (below_drew (Below.refl W5.heap.size W5))
            clear HX5
            have HX5 := n1
            have HLb' := n2
            have HD := n3
            clear n1 n2 n3
            generalize W5.drew = w6 at hHeld HX5 HLb' HD ⊢
            refine pure_ (i := 0) (N := (some 48)) (v := ?_) (a' := ?_) #[true, false, false, false, false, false, false, false, false, false, false, false, false] rfl rfl (by kernel_rfl) (fun _ _ _ h => h) (Or.inl ⟨by rfl, ?_⟩) ?_ ?_
            rotate_left
            · intro w'
              go_simp
              with_reducible rfl
            rotate_left
            · simp only [Act.put, List.setIfInBounds_toArray, List.set_cons_zero, List.set_cons_succ, i64_w, i32_w]
              rfl
            refine pure_ (i := 2) (N := (some 50)) (v := ?_) (a' := ?_) #[true, false, true, false, false, false, false, false, false, false, false, false, false] rfl rfl (by kernel_rfl) (fun _ _ _ h => h) (Or.inl ⟨by rfl, ?_⟩) ?_ ?_
            rotate_left
            · intro w'
              go_simp
              with_reducible rfl
            rotate_left
            · simp only [Act.put, List.setIfInBounds_toArray, List.set_cons_zero, List.set_cons_succ, i64_w, i32_w]
              rfl
            refine pure_ (i := 5) (N := (some 53)) (v := ?_) (a' := ?_) #[true, false, true, false, false, true, false, false, false, false, false, false, false] rfl rfl (by kernel_rfl) (fun _ _ _ h => h) (Or.inl ⟨by rfl, ?_⟩) ?_ ?_
            rotate_left
            · intro w'
              go_simp
              with_reducible rfl
            rotate_left
            · simp only [Act.put, List.setIfInBounds_toArray, List.set_cons_zero, List.set_cons_succ, i64_w, i32_w]
              rfl
            refine take_ (i := 1) (N := (some 49)) (v := ?_) (a' := ?_) #[true, true, true, false, false, true, false, false, false, false, false, false, false] rfl rfl (by kernel_rfl) (fun _ _ _ h => h) (Or.inl ⟨by rfl, ?_⟩) hHeld ?_ ?_
            rotate_left
            · rintro w' ⟨s0, s1, s2, s3⟩
              go_simp
              with_reducible rfl
            rotate_left
            · simp only [Act.put, List.setIfInBounds_toArray, List.set_cons_zero, List.set_cons_succ, i64_w, i32_w]
              rfl
            refine take_ (i := 3) (N := (some 51)) (v := ?_) (a' := ?_) #[true, true, true, true, false, true, false, false, false, false, false, false, false] rfl rfl (by kernel_rfl) (fun _ _ _ h => h) (Or.inl ⟨by rfl, ?_⟩) hHeld ?_ ?_
            rotate_left
            · rintro w' ⟨s0, s1, s2, s3⟩
              go_simp
              with_reducible rfl
            rotate_left
            · simp only [Act.put, List.setIfInBounds_toArray, List.set_cons_zero, List.set_cons_succ, i64_w, i32_w]
              rfl
            refine take_ (i := 6) (N := (some 54)) (v := ?_) (a' := ?_) #[true, true, true, true, false, true, true, false, false, false, false, false, false] rfl rfl (by kernel_rfl) (fun _ _ _ h => h) (Or.inl ⟨by rfl, ?_⟩) hHeld ?_ ?_
            rotate_left
            · rintro w' ⟨s0, s1, s2, s3⟩
              go_simp
              with_reducible rfl
            rotate_left
            · simp only [Act.put, List.setIfInBounds_toArray, List.set_cons_zero, List.set_cons_succ, i64_w, i32_w]
              rfl
            refine one_ (i := 4) (N := (some 52)) #[true, true, true, true, true, true, true, false, false, false, false, false, false] rfl rfl (by kernel_rfl) (by decide) (fun K hK => ?_)
            refine goes_ Try.func38 (by kernel_rfl) rfl #[.agg #[.int .i64 l.f0.f0, .int .i64 l.f0.f1]] (by rfl) rfl rfl (by (try simp only [List.map_toArray, List.map_cons, List.map_nil]); first | done | rfl) ?_
            refine (to38 l.f0 _).mono ?_
            rintro e w7 ⟨rfl, hb⟩
            refine ⟨_, rfl, ?_⟩
            have n1 := Aside0.mk (blk_below HX5.out hb)
            have n2 := Aside0.mk (blk_below HLb'.out hb)
            have n3 := Aside0.mk (below_then HD.out HD.out.size hb)
            clear HX5 HLb' HD
            have HX5 := n1
            have HLb' := n2
            have HD := n3
            clear n1 n2 n3
            clear hb
            refine hK.out _ _ (KEEP.out _ HX5.out HLb'.out) (fun hHeld => ?_)
            clear hK K
            refine norm_ (a' := ?_) ?_ ?_
            rotate_left
            · show Act.put _ (some 52) _ = _
              simp only [Act.put, List.setIfInBounds_toArray, List.set_cons_zero, List.set_cons_succ, i64_w, i32_w]
              rfl
            refine one_ (i := 7) (N := (some 55)) #[true, true, true, true, true, true, true, true, false, false, false, false, false] rfl rfl (by kernel_rfl) (by decide) (fun K hK => ?_)
            refine goes_ Try.func72 (by kernel_rfl) rfl #[.slice A8 l.f1.length c8] (by rfl) rfl rfl (by (try simp only [List.map_toArray, List.map_cons, List.map_nil]); first | done | rfl) ?_
            refine (spans72 A8 c8 l.f1 w7 (Kd.C_below G8.out (below_then HB5.out HB5.out.size HD.out)) L8.out NL8.out).mono ?_
            rintro e w8 ⟨v8, rfl, hr8, hb⟩
            obtain ⟨A9, c9, rfl⟩ := Kd.R_slice hr8
            have hle7 : w.heap.size ≤ w7.heap.size := Nat.le_trans HB5.out.size HD.out.size
            have HV8 := Aside0.mk (Kd.R_lower hr8 hle7)
            clear hr8 hle7
            refine ⟨_, rfl, ?_⟩
            have n1 := Aside0.mk (blk_below HX5.out hb)
            have n2 := Aside0.mk (blk_below HLb'.out hb)
            have n3 := Aside0.mk (below_then HD.out HD.out.size hb)
            clear HX5 HLb' HD
            have HX5 := n1
            have HLb' := n2
            have HD := n3
            clear n1 n2 n3
            clear hb
            refine hK.out _ _ (KEEP.out _ HX5.out HLb'.out) (fun hHeld => ?_)
            clear hK K
            refine norm_ (a' := ?_) ?_ ?_
            rotate_left
            · show Act.put _ (some 55) _ = _
              simp only [Act.put, List.setIfInBounds_toArray, List.set_cons_zero, List.set_cons_succ, i64_w, i32_w]
              rfl
            refine pure_ (i := 8) (N := (some 56)) (v := ?_) (a' := ?_) #[true, true, true, true, true, true, true, true, true, false, false, false, false] rfl rfl (by kernel_rfl) (fun _ _ _ h => h) (Or.inl ⟨by rfl, ?_⟩) ?_ ?_
            rotate_left
            · intro w'
              go_simp
              with_reducible rfl
            rotate_left
            · simp only [Act.put, List.setIfInBounds_toArray, List.set_cons_zero, List.set_cons_succ, i64_w, i32_w]
              rfl
            refine one_ (i := 9) (N := (some 57)) #[true, true, true, true, true, true, true, true, true, true, false, false, false] rfl rfl (by kernel_rfl) (by decide) (fun K hK => ?_)
            refine value_ (v := .slice (some ⟨w8.heap.size, 0, none⟩) 1 1) (w1 := w8.alloc (.cells #[.int .i64 (toR l.f0).f0, .int .i64 (toR l.f0).f1, .slice A9 (l.f1.map toR).length c9] 119)) (by rfl) rfl (by go_simp; try rfl) ?_
            have hb9 : Below w8.heap.size w8 (w8.alloc (.cells #[.int .i64 (toR l.f0).f0, .int .i64 (toR l.f0).f1, .slice A9 (l.f1.map toR).length c9] 119)) := (Below.refl _ w8).alloc (Nat.le_refl _) _
            refine hK.out _ _ (KEEP.out _ (blk_below HX5.out hb9) (blk_below HLb'.out hb9)) (fun hHeld => ?_)
            clear hK K hb9
            refine norm_ (a' := ?_) ?_ ?_
            rotate_left
            · show Act.put _ (some 57) _ = _
              simp only [Act.put, List.setIfInBounds_toArray, List.set_cons_zero, List.set_cons_succ, i64_w, i32_w]
              rfl
            refine one_ (i := 10) (N := (some 58)) #[true, true, true, true, true, true, true, true, true, true, true, false, false] rfl rfl (by kernel_rfl) (by decide) (fun K hK => ?_)
            have HB8 := Aside0.mk (below_then HB5.out HB5.out.size HD.out)
            have HI8 := Aside0.mk (Kd.R_below HI5.out HD.out)
            have HVA := Aside0.mk (R_apart_types HV8.out HI8.out (by decide))
            refine Kd.R_append_step k119 (w0 := w) w.heap.size (by rfl) (.tmp 49) (.tmp 57) 120 119 (.agg #[.int .i64 0, .int .i64 0, .slice none 0 0]) 40 rfl Try.underlying120 info119 rfl (by decide) (by omega) (.slice A7 nl c7) ((legs.take m).map toL) (toL l) [.int .i64 (toR l.f0).f0, .int .i64 (toR l.f0).f1, .slice A9 (l.f1.map toR).length c9] (fun _ => True) (fun k' => some k' ≠ (Value.slice A7 nl c7).ownBlock) (by rfl) (by rfl) (k119_mkM _ _ _ (toL l) HVA.out) (fun _ hk => ⟨trivial, hk⟩) (fun _ _ => trivial) HI8.out HB8.out HB8.out.size (by rw [List.length_map, List.length_take]; omega) ?_
            intro v9 w9 hr9 hb9 hg9 hat9
            obtain ⟨A10, c10, hv9⟩ := Kd.R_slice hr9
            rw [show ((legs.take m).map toL ++ [toL l]).length = m + 1 by simp; omega] at hv9
            subst hv9
            have HN1 := Aside0.mk (Kd.R_ne HI8.out HX5.out (by decide))
            have HN2 := Aside0.mk (Kd.R_ne HI8.out HLb'.out (by decide))
            have HR9 := Aside0.mk hr9
            have HB9 := Aside0.mk hb9
            have HX9 := Aside0.mk (blk_grown HX5.out hg9 HN1.out)
            have HL9 := Aside0.mk (blk_grown HLb'.out hg9 HN2.out)
            have HVR9 := Aside0.mk (Kd.R_after (Kd.R_below HVR5.out HD.out) hg9 hat9)
            have HS9 := Aside0.mk (Kd.R_mono (ok' := fun _ => True) (Kd.R_grown (R_apart_types (Kd.R_below HS5.out HD.out) HI8.out (by decide)) hg9 (fun _ hk => hk)) (fun _ _ => trivial))
            have HG9 := Aside0.mk (blk_grown (blk_below HG5.out HD.out) hg9 (Kd.R_ne HI8.out (blk_below HG5.out HD.out) (by decide)))
            have HK09 := Aside0.mk (blk_grown (blk_below HK05.out HD.out) hg9 (Kd.R_ne HI8.out (blk_below HK05.out HD.out) (by decide)))
            have HK19 := Aside0.mk (blk_grown (blk_below HK15.out HD.out) hg9 (Kd.R_ne HI8.out (blk_below HK15.out HD.out) (by decide)))
            clear hr9 hb9 hg9 hat9
            refine hK.out _ _ (KEEP.out _ HX9.out HL9.out) (fun hHeld => ?_)
            clear hK K
            refine norm_ (a' := ?_) ?_ ?_
            rotate_left
            · show Act.put _ (some 58) _ = _
              simp only [Act.put, List.setIfInBounds_toArray, List.set_cons_zero, List.set_cons_succ, i64_w, i32_w]
              rfl
            refine pure_ (i := 11) (N := (some 59)) (v := ?_) (a' := ?_) #[true, true, true, true, true, true, true, true, true, true, true, true, false] rfl rfl (by kernel_rfl) (fun _ _ _ h => h) (Or.inl ⟨by rfl, ?_⟩) ?_ ?_
            rotate_left
            · intro w'
              go_simp
              with_reducible rfl
            rotate_left
            · simp only [Act.put, List.setIfInBounds_toArray, List.set_cons_zero, List.set_cons_succ, i64_w, i32_w]
              rfl
            refine last_ (i := 12) (N := none) #[true, true, true, true, true, true, true, true, true, true, true, true, true] rfl rfl (by kernel_rfl) (by decide) (fun K hK => ?_)
            have q0 : w9.cell? ⟨gx, 0, none⟩ = some (.slice A7 nl c7) := (blk_cell HX9.out 0).trans rfl
            have f0 := blk_frozen HX9.out 0
            refine skip_ (w1 := ?_) (by rfl) rfl ?_ ?_
            rotate_left
            · go_simp
              rfl
            refine hK.out _ _ ?_
            clear hK K q0 f0
            refine done_ (by kernel_rfl) ?_
            go_wp2_with fail
            go_roundg (legs.length - (m + 1))
            case measure => omega
            case rel =>
              refine ⟨m + 1, A10, _, c10, by omega, by omega, by go_num, ⟨blk_set HX9.out 0 _⟩, ⟨?_⟩, ⟨?_⟩, ⟨Kd.R_set HS9.out HX9.out (by decide) 0 _⟩, ⟨blk_far HG9.out (by exact HGX.out.1) _⟩, ⟨blk_far HK09.out (by have := HGX.out.2; have := HXW.out; simp; omega) _⟩, ⟨blk_far HK19.out (by have := HXW.out; simp; omega) _⟩, ⟨HB9.out.setCell HGX.out.2 _⟩⟩
              · rw [List.take_succ_eq_append_getElem hml, List.map_append, ← HY.out]
                exact Kd.R_set HR9.out HX9.out (by decide) 0 _
              · exact Kd.R_far (p := ⟨gx, 0, none⟩) HVR9.out (fun k' hk' => hk'.1) _
          · have hmlz : ¬ (m : Int) < (legs.length : Int) := by omega
            have hmm : m = legs.length := by omega
            have HI' := HIi.out
            rw [hmm, List.take_length] at HI'
            have HII := Aside0.mk HI'
            have c0x : wr.cell? ⟨gx, 0, none⟩ = some (.slice A7 nl c7) := (blk_cell HXi.out 0).trans rfl
            have c1x : wr.cell? ⟨gx, 1, none⟩ = some (.bool lossy) := (blk_cell HXi.out 1).trans rfl
            have cg1 : wr.cell? ⟨g, 1, none⟩ = some (.slice Ar nr cr) := (blk_cell HGi.out 1).trans rfl
            have HVT := Aside0.mk (Kd.R_mono (ok' := fun _ => True) HVRi.out (fun _ _ => trivial))
            have HVL := Aside0.mk (R_apart_types HI' HVRi.out (by decide))
            have hrk : ((routes.take k).map toX).length ≤ 1000 := by rw [List.length_map, List.length_take]; omega
            clear hmm HI'
            go_wp2_with (at_builtin; refine Kd.R_append k122 (w0 := w) w.heap.size rfl (.tmp 61) (.tmp 63) 32 122 (.agg #[.slice none 0 0, .bool false]) 32 rfl Try.underlying32 info122 rfl (by decide) (by omega) (.slice Ar nr cr) ((routes.take k).map toX) (toX ⟨legs, lossy⟩) [.slice A7 nl c7, .bool lossy] (fun _ => True) (fun k' => some k' ≠ (Value.slice Ar nr cr).ownBlock) rfl rfl (k122_mkM _ _ _ (toX ⟨legs, lossy⟩) HVL.out) (fun _ hk => ⟨trivial, hk⟩) (fun _ _ => trivial) HVT.out HBi.out HBi.out.size (by omega) ?_; intro v9 w9 hr9 hb9 hg9 hat9; obtain ⟨A10, c10, rfl⟩ := Kd.R_slice hr9; have HR9 := Aside0.mk hr9; have HB9 := Aside0.mk hb9; have HG9 := Aside0.mk (blk_grown HGi.out hg9 (Kd.R_ne HVRi.out HGi.out (by decide))); have HK09 := Aside0.mk (blk_grown HK0i.out hg9 (Kd.R_ne HVRi.out HK0i.out (by decide))); have HK19 := Aside0.mk (blk_grown HK1i.out hg9 (Kd.R_ne HVRi.out HK1i.out (by decide))); have HS9 := Aside0.mk (Kd.R_mono (ok' := fun _ => True) (Kd.R_grown (R_apart_types HSi.out HVRi.out (by decide)) hg9 (fun _ hk => hk)) (fun _ _ => trivial)); have fg := blk_frozen HG9.out 1; have cg := (blk_cell HG9.out 1).trans rfl; clear hr9 hb9 hg9 hat9 c0x c1x cg1)
            go_roundg (routes.length - (k + 1))
            case measure => omega
            case rel =>
              refine ⟨k + 1, A10, _, c10, by omega, by omega, by go_num, ⟨blk_set HG9.out 1 _⟩, ⟨?_⟩, ⟨Kd.R_set HS9.out HG9.out (by decide) 1 _⟩, ⟨blk_far HK09.out (by have := HGW.out; simp; omega) _⟩, ⟨blk_far HK19.out (by have := HGW.out; simp; omega) _⟩, ⟨HB9.out.setCell (by have := HGW.out; simp; omega) _⟩⟩
              rw [List.take_succ_eq_append_getElem hlt, List.map_append, ← HXk.out]
              have hlen : ((routes.take k).map toX ++ [toX ⟨legs, lossy⟩]).length = k + 1 := by simp; omega
              have hfin := Kd.R_set HR9.out HG9.out (by decide) 1 (Value.slice A10 (k + 1) c10)
              rw [hlen] at hfin
              exact hfin
      · have hltz : ¬ (k : Int) < (routes.length : Int) := by omega
        have hkk : k = routes.length := by omega
        have HQ := HVR.out
        rw [hkk, List.take_length] at HQ
        have HVQ := Aside0.mk HQ
        clear hkk HQ
        have cg0 : wm.cell? ⟨g, 0, none⟩ = some (.slice A sends.length c) := (blk_cell HGr.out 0).trans rfl
        have cg1 : wm.cell? ⟨g, 1, none⟩ = some (.slice Ar nr cr) := (blk_cell HGr.out 1).trans rfl
        have cg2 : wm.cell? ⟨g, 2, none⟩ = some (.int .i64 pat) := (blk_cell HGr.out 2).trans rfl
        have e0 : wm.cell? ⟨w.heap.size + 1, 0, none⟩ = some (.slice none 0 0) := (blk_cell HK1r.out 0).trans rfl
        have e1 : wm.cell? ⟨w.heap.size + 1, 1, none⟩ = some (.slice none 0 0) := (blk_cell HK1r.out 1).trans rfl
        have e2 : wm.cell? ⟨w.heap.size + 1, 2, none⟩ = some (.int .i64 0) := (blk_cell HK1r.out 2).trans rfl
        have f0 := blk_frozen HK1r.out 0
        have f1 := blk_frozen HK1r.out 1
        have f2 := blk_frozen HK1r.out 2
        go_wp2_with fail
        have k1 := blk_set HK1r.out 0 (.slice A sends.length c)
        have k2 := blk_set k1 1 (.slice Ar nr cr)
        refine bodyPost_ret (results_cell_row rfl _ _ (w.heap.size + 1) 34 #[.slice A sends.length c, .slice Ar nr cr, .int .i64 pat] (0, 0) _ rfl (blk_set k2 2 (.int .i64 pat)) Try.underlying34 rfl (by kernel_rfl)) rfl ⟨_, _, rfl, ?_, ?_, ?_⟩
        · exact Kd.R_set (Kd.R_set (Kd.R_set HSr.out HK1r.out (by decide) 0 _) k1 (by decide) 1 _) k2 (by decide) 2 _
        · exact Kd.R_set (Kd.R_set (Kd.R_set HVQ.out HK1r.out (by decide) 0 _) k1 (by decide) 1 _) k2 (by decide) 2 _
        · exact ((HBr.out.setCell (p := ⟨w.heap.size + 1, 0, none⟩) (by simp) _).setCell (p := ⟨w.heap.size + 1, 1, none⟩) (by simp) _).setCell (p := ⟨w.heap.size + 1, 2, none⟩) (by simp) _
end Go.Proofs.Ytiephlhohgohcaa.PAll
namespace Go.Proofs.Ytiephlhohgohcaa.PAll
open Go.RowKit Go.Proofs.YtiephlhohgohcaaW.PrintWords Go.Proofs.YtiephlhohgohcaaW.PrintLast Go.Proofs.YtiephlhohgohcaaW.PrintMore
attribute [local go_sem] max2_int min2_int max_two min_two max_three min_three max_four min_four   -- for this text's walks alone
set_option linter.unusedVariables false
set_option linter.unusedSimpArgs false
def glisterref05_In.f (a0 : Int) (a1 : Int) (a2 : Int) : Option (Bool) := if a0 ≥ a1 then (some (decide (a0 ≤ a2))) else (some false)
set_option maxHeartbeats 8000000 in
set_option maxRecDepth 100000 in
theorem glisterref05_In.calls (a0 : Int) (a1 : Int) (a2 : Int) (r : Bool) (w : World) (h : glisterref05_In.f a0 a1 a2 = some r) :
  Calls Try.prog 30 #[.int .i64 a0, .int .i64 a1, .int .i64 a2] w fun e w' => e = .returned (.bool r) ∧ Drawn0 w w' := by
 have H : (if a0 ≥ a1 then (some (decide (a0 ≤ a2))) else (some false)) = some r := h
 clear h
 by_cases c4 : a0 ≥ a1
 ·rw [if_pos c4] at H
  have c4b0 : decide (a1 ≤ a0) = true := decide_eq_true c4
  clear c4
  obtain rfl := Option.some.inj H
  go_enter Try.func30, Try.ntmps30
  go_wp2
  go_ret
  exact ⟨by first | rfl | (simp; done) | (simp [*]; done), by repeat (first | exact Drawn0.refl _ | apply Drawn0.step)⟩
 ·rw [if_neg c4] at H
  have c4b0 : decide (a1 ≤ a0) = false := decide_eq_false c4
  clear c4
  obtain rfl := Option.some.inj H
  go_enter Try.func30, Try.ntmps30
  go_wp2
  go_ret
  exact ⟨by first | rfl | (simp; done) | (simp [*]; done), by repeat (first | exact Drawn0.refl _ | apply Drawn0.step)⟩
end Go.Proofs.Ytiephlhohgohcaa.PAll
namespace Go.Proofs.Ytiephlhohgohcaa.PAll
open Go.RowKit Go.Proofs.YtiephlhohgohcaaW.PrintWords Go.Proofs.YtiephlhohgohcaaW.PrintLast Go.Proofs.YtiephlhohgohcaaW.PrintMore
attribute [local go_sem] max2_int min2_int max_two min_two max_three min_three max_four min_four   -- for this text's walks alone
set_option linter.unusedVariables false
set_option linter.unusedSimpArgs false
def glisterref05_Span.f (a0_0 : Int) (a0_1 : Int) (a1 : Int) : Option (Bool) := (glisterref05_In.f a0_0 0 a0_1).bind fun t202 => (if t202 = true then (some (decide (a0_1 ≤ a1))) else (some false))
set_option maxHeartbeats 8000000 in
set_option maxRecDepth 100000 in
theorem glisterref05_Span.calls (a0_0 : Int) (a0_1 : Int) (a1 : Int) (r : Bool) (w : World) (h : glisterref05_Span.f a0_0 a0_1 a1 = some r) :
  Calls Try.prog 89 #[.agg #[.int .i64 a0_0, .int .i64 a0_1], .int .i64 a1] w fun e w' => e = .returned (.bool r) ∧ Below w.heap.size w w' := by
 have hu64 := Try.underlying64
 have HB := Aside0.mk (Below.refl w.heap.size w)
 have H : ((glisterref05_In.f a0_0 0 a0_1).bind fun t202 => (if t202 = true then (some (decide (a0_1 ≤ a1))) else (some false))) = some r := h
 clear h
 replace H := Option.bind_eq_some_iff.mp H
 obtain ⟨t202, A30, H⟩ := H
 replace H : (if t202 = true then (some (decide (a0_1 ≤ a1))) else (some false)) = some r := H
 have A3 := Aside0.mk A30
 clear A30
 by_cases c4 : t202 = true
 ·subst c4
  have H1 : (some (decide (a0_1 ≤ a1))) = some r := by rw [if_pos rfl] at H; exact H
  clear H
  have H := H1
  clear H1
  obtain rfl := Option.some.inj H
  go_enter Try.func89, Try.ntmps89
  go_wp2_with (first | ((with_reducible refine gate_dst (N := 2) rfl ?_); refine box_event ?hg (N := 2) ?hd (cs := #[.int .i64 a0_0, .int .i64 a0_1]) (t := 64) ?hr ?_; (case hd => rfl); (case hg => rfl); (case hr => first | (go_simp; done) | (go_simp; rfl)); intro gb201 hg w5 hbox hb; have n0_ := Aside0.mk (below_step (by repeat (first | (with_reducible first | exact HB.out | apply below_alloc | apply pw_below_drewN | apply below_drew1) | exact HB.out)) hb); have n1_ := Aside0.mk (hbox); have n2_ := Aside0.mk ((by rw [hg]; exact (below_size (by repeat (first | (with_reducible first | exact HB.out | apply below_alloc | apply pw_below_drewN | apply below_drew1) | exact HB.out))) : w.heap.size ≤ gb201)); have n3_ := Aside0.mk ((by rw [hg]; exact (below_size (by repeat (first | (with_reducible first | exact HB.out | apply below_alloc | apply pw_below_drewN | apply below_drew1) | exact HB.out))) : w.heap.size ≤ gb201)); clear HB; have HB := n0_; have BK201 := n1_; have GW201 := n2_; have GE201 := n3_; clear n0_ n1_ n2_ n3_; clear hb hbox hg; have hcz6_0 : w5.cell? ⟨gb201, 0, none⟩ = some (.int .i64 a0_0) := (blk_cell BK201.out 0).trans rfl; have hcz6_1 : w5.cell? ⟨gb201, 1, none⟩ = some (.int .i64 a0_1) := (blk_cell BK201.out 1).trans rfl; have hfz6_0 := blk_frozen BK201.out 0; have hfz6_1 := blk_frozen BK201.out 1) | ((with_reducible refine gate_callee (f := 30) rfl ?_); refine goesL_ (some 9) rfl rfl Try.func30 (by kernel_rfl) rfl #[.int .i64 a0_0, .int .i64 0, .int .i64 a0_1] rfl (by (try simp only [List.map_toArray, List.map_cons, List.map_nil]); first | done | rfl | (simp only [List.length_drop, List.length_take]; rfl)) ?_; (with_reducible refine (glisterref05_In.calls a0_0 0 a0_1 true _ A3.out).mono ?_); rintro e w' ⟨rfl, ⟨nd, rfl⟩⟩; refine ⟨_, rfl, ?_⟩))
  go_ret
  exact ⟨by first | rfl | (simp [errW_none, errW_some] <;> rfl) | (simp [*, errW_none, errW_some] <;> rfl), by repeat (first | (with_reducible first | exact HB.out | apply below_alloc | apply pw_below_drewN | apply below_drew1 | refine below_set ?_ GE201.out) | exact HB.out)⟩
 ·replace c4 := Bool.eq_false_iff.mpr c4
  subst c4
  have H1 : (some false) = some r := by rw [if_neg (show ¬ (false = true) by decide)] at H; exact H
  clear H
  have H := H1
  clear H1
  obtain rfl := Option.some.inj H
  go_enter Try.func89, Try.ntmps89
  go_wp2_with (first | ((with_reducible refine gate_dst (N := 2) rfl ?_); refine box_event ?hg (N := 2) ?hd (cs := #[.int .i64 a0_0, .int .i64 a0_1]) (t := 64) ?hr ?_; (case hd => rfl); (case hg => rfl); (case hr => first | (go_simp; done) | (go_simp; rfl)); intro gb201 hg w7 hbox hb; have n0_ := Aside0.mk (below_step (by repeat (first | (with_reducible first | exact HB.out | apply below_alloc | apply pw_below_drewN | apply below_drew1) | exact HB.out)) hb); have n1_ := Aside0.mk (hbox); have n2_ := Aside0.mk ((by rw [hg]; exact (below_size (by repeat (first | (with_reducible first | exact HB.out | apply below_alloc | apply pw_below_drewN | apply below_drew1) | exact HB.out))) : w.heap.size ≤ gb201)); have n3_ := Aside0.mk ((by rw [hg]; exact (below_size (by repeat (first | (with_reducible first | exact HB.out | apply below_alloc | apply pw_below_drewN | apply below_drew1) | exact HB.out))) : w.heap.size ≤ gb201)); clear HB; have HB := n0_; have BK201 := n1_; have GW201 := n2_; have GE201 := n3_; clear n0_ n1_ n2_ n3_; clear hb hbox hg; have hcz8_0 : w7.cell? ⟨gb201, 0, none⟩ = some (.int .i64 a0_0) := (blk_cell BK201.out 0).trans rfl; have hcz8_1 : w7.cell? ⟨gb201, 1, none⟩ = some (.int .i64 a0_1) := (blk_cell BK201.out 1).trans rfl; have hfz8_0 := blk_frozen BK201.out 0; have hfz8_1 := blk_frozen BK201.out 1) | ((with_reducible refine gate_callee (f := 30) rfl ?_); refine goesL_ (some 9) rfl rfl Try.func30 (by kernel_rfl) rfl #[.int .i64 a0_0, .int .i64 0, .int .i64 a0_1] rfl (by (try simp only [List.map_toArray, List.map_cons, List.map_nil]); first | done | rfl | (simp only [List.length_drop, List.length_take]; rfl)) ?_; (with_reducible refine (glisterref05_In.calls a0_0 0 a0_1 false _ A3.out).mono ?_); rintro e w' ⟨rfl, ⟨nd, rfl⟩⟩; refine ⟨_, rfl, ?_⟩))
  go_ret
  exact ⟨by first | rfl | (simp [errW_none, errW_some] <;> rfl) | (simp [*, errW_none, errW_some] <;> rfl), by repeat (first | (with_reducible first | exact HB.out | apply below_alloc | apply pw_below_drewN | apply below_drew1 | refine below_set ?_ GE201.out) | exact HB.out)⟩
end Go.Proofs.Ytiephlhohgohcaa.PAll
