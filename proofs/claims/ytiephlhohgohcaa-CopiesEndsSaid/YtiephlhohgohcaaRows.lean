/-
  No cell of these rows narrows 'for every input' (looked for: loops, veiled, ifaces, maps, wideKeys, modest, calm, conditions, laid).
  DERIVED. THE GIVEN ROWS OF THIS SEAT. 15 by the template 'for every input the law returns true; each argument reads behind the call as it read before'; 0 by the template 'total and deterministic' (their statements: YtiephlhohgohcaaTotals.lean).
  GIVEN WITH THE SEED: the statements are not yours to turn. If you find one false, say at which input.
  Laid BY PROGRAM, IN A SANDBOX (cutbox-rows.mjs): the forced cells as the released guide's own fill.sh prints them over the translation 1561bec55d774e07… (all of the seat's roots in one cut). By AI agents, Wed Nov 11 2026. No macro, syntax, notation, axiom, sorry.
-/
import Derived.Test.YtiephlhohgohcaaChecked
import GoSem.Claim
import GoSem.ClaimJoined
import GoSem.ClaimMapViews
import Derived.JoinedTies
import Derived.KernelRfl
namespace Go.Proofs.Ytiephlhohgohcaa
/- THE CELL 'sum', in the pinned program and in every row, IS THE sha256 OF THE DUMP (.gsa) THAT YtiephlhohgohcaaProg.lean LOADS. Nothing in Lean hashes anything: it is a label: what it is worth is what the hold of that sum in a sandbox is worth. -/
noncomputable def Try.pinned : Pinned := { name := "ytiephlhohgohcaa", sum := "1561bec55d774e071753cb34d358a770d66461d14e192a92d90ae16ddfda2974", checked := Try.checked }
namespace Rows
def none {H : Type} : Left H := { results := [], args := [] }

/-- 'glisterlaw05.CopiesPlays': WHATEVER THE INPUT: true; the input reads as it did. -/
def copiesPlaysSpec : ChangeSpec := { name := "copiesPlays", fn := fun _ => fun
  | [d1, d2] => { results := [.lit (.bool true)], args := [d1, d2] }
  | _ => none }
def copiesPlaysRow : OpenClaim := { program := "ytiephlhohgohcaa", sum := "1561bec55d774e071753cb34d358a770d66461d14e192a92d90ae16ddfda2974", func := "glister/glisterlaw05.CopiesPlays", spec := "copiesPlays", unfollowed := true, recurses := true, plainKeys := false, apart := false }
def CopiesPlaysSaid : Prop := copiesPlaysRow.holds Try.pinned (OpenSpec.ofChange copiesPlaysSpec)

/-- ITS FALSE NEIGHBOUR: 'it returns false'. Refute it at one input. -/
def copiesPlaysWrong : ChangeSpec := { name := "copiesPlays", fn := fun _ => fun
  | [d1, d2] => { results := [.lit (.bool false)], args := [d1, d2] }
  | _ => none }
def CopiesPlaysWrongFalsely : Prop := copiesPlaysRow.holds Try.pinned (OpenSpec.ofChange copiesPlaysWrong)

/-- 'glisterlaw05.CopiesHours': WHATEVER THE INPUT: true; the input reads as it did. -/
def copiesHoursSpec : ChangeSpec := { name := "copiesHours", fn := fun _ => fun
  | [d1, d2, d3] => { results := [.lit (.bool true)], args := [d1, d2, d3] }
  | _ => none }
def copiesHoursRow : OpenClaim := { program := "ytiephlhohgohcaa", sum := "1561bec55d774e071753cb34d358a770d66461d14e192a92d90ae16ddfda2974", func := "glister/glisterlaw05.CopiesHours", spec := "copiesHours", unfollowed := true, recurses := true, plainKeys := false, apart := false }
def CopiesHoursSaid : Prop := copiesHoursRow.holds Try.pinned (OpenSpec.ofChange copiesHoursSpec)

/-- ITS FALSE NEIGHBOUR: 'it returns false'. Refute it at one input. -/
def copiesHoursWrong : ChangeSpec := { name := "copiesHours", fn := fun _ => fun
  | [d1, d2, d3] => { results := [.lit (.bool false)], args := [d1, d2, d3] }
  | _ => none }
def CopiesHoursWrongFalsely : Prop := copiesHoursRow.holds Try.pinned (OpenSpec.ofChange copiesHoursWrong)

/-- 'glisterlaw05.CopiesSpans': WHATEVER THE INPUT: true; the input reads as it did. -/
def copiesSpansSpec : ChangeSpec := { name := "copiesSpans", fn := fun _ => fun
  | [d] => { results := [.lit (.bool true)], args := [d] }
  | _ => none }
def copiesSpansRow : OpenClaim := { program := "ytiephlhohgohcaa", sum := "1561bec55d774e071753cb34d358a770d66461d14e192a92d90ae16ddfda2974", func := "glister/glisterlaw05.CopiesSpans", spec := "copiesSpans", unfollowed := true, recurses := true, plainKeys := false, apart := false }
def CopiesSpansSaid : Prop := copiesSpansRow.holds Try.pinned (OpenSpec.ofChange copiesSpansSpec)

/-- ITS FALSE NEIGHBOUR: 'it returns false'. Refute it at one input. -/
def copiesSpansWrong : ChangeSpec := { name := "copiesSpans", fn := fun _ => fun
  | [d] => { results := [.lit (.bool false)], args := [d] }
  | _ => none }
def CopiesSpansWrongFalsely : Prop := copiesSpansRow.holds Try.pinned (OpenSpec.ofChange copiesSpansWrong)

/-- 'glistertop.TopOnce': WHATEVER THE INPUT: true; the input reads as it did. -/
def topOnceSpec : ChangeSpec := { name := "topOnce", fn := fun _ => fun
  | [d1, d2, d3] => { results := [.lit (.bool true)], args := [d1, d2, d3] }
  | _ => none }
def topOnceRow : OpenClaim := { program := "ytiephlhohgohcaa", sum := "1561bec55d774e071753cb34d358a770d66461d14e192a92d90ae16ddfda2974", func := "glister/glistertop.TopOnce", spec := "topOnce", unfollowed := true, recurses := true, plainKeys := false, apart := false }
def TopOnceSaid : Prop := topOnceRow.holds Try.pinned (OpenSpec.ofChange topOnceSpec)

/-- ITS FALSE NEIGHBOUR: 'it returns false'. Refute it at one input. -/
def topOnceWrong : ChangeSpec := { name := "topOnce", fn := fun _ => fun
  | [d1, d2, d3] => { results := [.lit (.bool false)], args := [d1, d2, d3] }
  | _ => none }
def TopOnceWrongFalsely : Prop := topOnceRow.holds Try.pinned (OpenSpec.ofChange topOnceWrong)

/-- 'glisterlaw05.CopiesOdds': WHATEVER THE INPUT: true; the input reads as it did. -/
def copiesOddsSpec : ChangeSpec := { name := "copiesOdds", fn := fun _ => fun
  | [d1, d2] => { results := [.lit (.bool true)], args := [d1, d2] }
  | _ => none }
def copiesOddsRow : OpenClaim := { program := "ytiephlhohgohcaa", sum := "1561bec55d774e071753cb34d358a770d66461d14e192a92d90ae16ddfda2974", func := "glister/glisterlaw05.CopiesOdds", spec := "copiesOdds", unfollowed := true, recurses := true, plainKeys := false, apart := false }
def CopiesOddsSaid : Prop := copiesOddsRow.holds Try.pinned (OpenSpec.ofChange copiesOddsSpec)

/-- ITS FALSE NEIGHBOUR: 'it returns false'. Refute it at one input. -/
def copiesOddsWrong : ChangeSpec := { name := "copiesOdds", fn := fun _ => fun
  | [d1, d2] => { results := [.lit (.bool false)], args := [d1, d2] }
  | _ => none }
def CopiesOddsWrongFalsely : Prop := copiesOddsRow.holds Try.pinned (OpenSpec.ofChange copiesOddsWrong)

/-- 'glisterlaw05.CopiesLeast': WHATEVER THE INPUT: true; the input reads as it did. -/
def copiesLeastSpec : ChangeSpec := { name := "copiesLeast", fn := fun _ => fun
  | [d1, d2] => { results := [.lit (.bool true)], args := [d1, d2] }
  | _ => none }
def copiesLeastRow : OpenClaim := { program := "ytiephlhohgohcaa", sum := "1561bec55d774e071753cb34d358a770d66461d14e192a92d90ae16ddfda2974", func := "glister/glisterlaw05.CopiesLeast", spec := "copiesLeast", unfollowed := true, recurses := true, plainKeys := false, apart := false }
def CopiesLeastSaid : Prop := copiesLeastRow.holds Try.pinned (OpenSpec.ofChange copiesLeastSpec)

/-- ITS FALSE NEIGHBOUR: 'it returns false'. Refute it at one input. -/
def copiesLeastWrong : ChangeSpec := { name := "copiesLeast", fn := fun _ => fun
  | [d1, d2] => { results := [.lit (.bool false)], args := [d1, d2] }
  | _ => none }
def CopiesLeastWrongFalsely : Prop := copiesLeastRow.holds Try.pinned (OpenSpec.ofChange copiesLeastWrong)

/-- 'glisterlaw05.CopiesMore': WHATEVER THE INPUT: true; the input reads as it did. -/
def copiesMoreSpec : ChangeSpec := { name := "copiesMore", fn := fun _ => fun
  | [d1, d2] => { results := [.lit (.bool true)], args := [d1, d2] }
  | _ => none }
def copiesMoreRow : OpenClaim := { program := "ytiephlhohgohcaa", sum := "1561bec55d774e071753cb34d358a770d66461d14e192a92d90ae16ddfda2974", func := "glister/glisterlaw05.CopiesMore", spec := "copiesMore", unfollowed := true, recurses := true, plainKeys := false, apart := false }
def CopiesMoreSaid : Prop := copiesMoreRow.holds Try.pinned (OpenSpec.ofChange copiesMoreSpec)

/-- ITS FALSE NEIGHBOUR: 'it returns false'. Refute it at one input. -/
def copiesMoreWrong : ChangeSpec := { name := "copiesMore", fn := fun _ => fun
  | [d1, d2] => { results := [.lit (.bool false)], args := [d1, d2] }
  | _ => none }
def CopiesMoreWrongFalsely : Prop := copiesMoreRow.holds Try.pinned (OpenSpec.ofChange copiesMoreWrong)

/-- 'glisterlaw05.CopiesPatience': WHATEVER THE INPUT: true; the input reads as it did. -/
def copiesPatienceSpec : ChangeSpec := { name := "copiesPatience", fn := fun _ => fun
  | [d1, d2, d3] => { results := [.lit (.bool true)], args := [d1, d2, d3] }
  | _ => none }
def copiesPatienceRow : OpenClaim := { program := "ytiephlhohgohcaa", sum := "1561bec55d774e071753cb34d358a770d66461d14e192a92d90ae16ddfda2974", func := "glister/glisterlaw05.CopiesPatience", spec := "copiesPatience", unfollowed := true, recurses := true, plainKeys := false, apart := false }
def CopiesPatienceSaid : Prop := copiesPatienceRow.holds Try.pinned (OpenSpec.ofChange copiesPatienceSpec)

/-- ITS FALSE NEIGHBOUR: 'it returns false'. Refute it at one input. -/
def copiesPatienceWrong : ChangeSpec := { name := "copiesPatience", fn := fun _ => fun
  | [d1, d2, d3] => { results := [.lit (.bool false)], args := [d1, d2, d3] }
  | _ => none }
def CopiesPatienceWrongFalsely : Prop := copiesPatienceRow.holds Try.pinned (OpenSpec.ofChange copiesPatienceWrong)

/-- 'glisterlaw05.CopiesMoved': WHATEVER THE INPUT: true; the input reads as it did. -/
def copiesMovedSpec : ChangeSpec := { name := "copiesMoved", fn := fun _ => fun
  | [d1, d2, d3, d4] => { results := [.lit (.bool true)], args := [d1, d2, d3, d4] }
  | _ => none }
def copiesMovedRow : OpenClaim := { program := "ytiephlhohgohcaa", sum := "1561bec55d774e071753cb34d358a770d66461d14e192a92d90ae16ddfda2974", func := "glister/glisterlaw05.CopiesMoved", spec := "copiesMoved", unfollowed := true, recurses := true, plainKeys := false, apart := false }
def CopiesMovedSaid : Prop := copiesMovedRow.holds Try.pinned (OpenSpec.ofChange copiesMovedSpec)

/-- ITS FALSE NEIGHBOUR: 'it returns false'. Refute it at one input. -/
def copiesMovedWrong : ChangeSpec := { name := "copiesMoved", fn := fun _ => fun
  | [d1, d2, d3, d4] => { results := [.lit (.bool false)], args := [d1, d2, d3, d4] }
  | _ => none }
def CopiesMovedWrongFalsely : Prop := copiesMovedRow.holds Try.pinned (OpenSpec.ofChange copiesMovedWrong)

/-- 'glisterlaw05.CopiesAwake': WHATEVER THE INPUT: true; the input reads as it did. -/
def copiesAwakeSpec : ChangeSpec := { name := "copiesAwake", fn := fun _ => fun
  | [d1, d2, d3] => { results := [.lit (.bool true)], args := [d1, d2, d3] }
  | _ => none }
def copiesAwakeRow : OpenClaim := { program := "ytiephlhohgohcaa", sum := "1561bec55d774e071753cb34d358a770d66461d14e192a92d90ae16ddfda2974", func := "glister/glisterlaw05.CopiesAwake", spec := "copiesAwake", unfollowed := true, recurses := true, plainKeys := false, apart := false }
def CopiesAwakeSaid : Prop := copiesAwakeRow.holds Try.pinned (OpenSpec.ofChange copiesAwakeSpec)

/-- ITS FALSE NEIGHBOUR: 'it returns false'. Refute it at one input. -/
def copiesAwakeWrong : ChangeSpec := { name := "copiesAwake", fn := fun _ => fun
  | [d1, d2, d3] => { results := [.lit (.bool false)], args := [d1, d2, d3] }
  | _ => none }
def CopiesAwakeWrongFalsely : Prop := copiesAwakeRow.holds Try.pinned (OpenSpec.ofChange copiesAwakeWrong)

/-- 'glisterlaw05.CopiesEnds': WHATEVER THE INPUT: true; the input reads as it did. -/
def copiesEndsSpec : ChangeSpec := { name := "copiesEnds", fn := fun _ => fun
  | [d1, d2] => { results := [.lit (.bool true)], args := [d1, d2] }
  | _ => none }
def copiesEndsRow : OpenClaim := { program := "ytiephlhohgohcaa", sum := "1561bec55d774e071753cb34d358a770d66461d14e192a92d90ae16ddfda2974", func := "glister/glisterlaw05.CopiesEnds", spec := "copiesEnds", unfollowed := true, recurses := true, plainKeys := false, apart := false }
def CopiesEndsSaid : Prop := copiesEndsRow.holds Try.pinned (OpenSpec.ofChange copiesEndsSpec)

/-- ITS FALSE NEIGHBOUR: 'it returns false'. Refute it at one input. -/
def copiesEndsWrong : ChangeSpec := { name := "copiesEnds", fn := fun _ => fun
  | [d1, d2] => { results := [.lit (.bool false)], args := [d1, d2] }
  | _ => none }
def CopiesEndsWrongFalsely : Prop := copiesEndsRow.holds Try.pinned (OpenSpec.ofChange copiesEndsWrong)

/-- 'glisterlaw05.CopiesLeft': WHATEVER THE INPUT: true; the input reads as it did. -/
def copiesLeftSpec : ChangeSpec := { name := "copiesLeft", fn := fun _ => fun
  | [d1, d2, d3, d4, d5, d6] => { results := [.lit (.bool true)], args := [d1, d2, d3, d4, d5, d6] }
  | _ => none }
def copiesLeftRow : OpenClaim := { program := "ytiephlhohgohcaa", sum := "1561bec55d774e071753cb34d358a770d66461d14e192a92d90ae16ddfda2974", func := "glister/glisterlaw05.CopiesLeft", spec := "copiesLeft", unfollowed := true, recurses := true, plainKeys := false, apart := false }
def CopiesLeftSaid : Prop := copiesLeftRow.holds Try.pinned (OpenSpec.ofChange copiesLeftSpec)

/-- ITS FALSE NEIGHBOUR: 'it returns false'. Refute it at one input. -/
def copiesLeftWrong : ChangeSpec := { name := "copiesLeft", fn := fun _ => fun
  | [d1, d2, d3, d4, d5, d6] => { results := [.lit (.bool false)], args := [d1, d2, d3, d4, d5, d6] }
  | _ => none }
def CopiesLeftWrongFalsely : Prop := copiesLeftRow.holds Try.pinned (OpenSpec.ofChange copiesLeftWrong)

/-- 'glisterlaw05.CopiesExplains': WHATEVER THE INPUT: true; the input reads as it did. -/
def copiesExplainsSpec : ChangeSpec := { name := "copiesExplains", fn := fun _ => fun
  | [d1, d2, d3] => { results := [.lit (.bool true)], args := [d1, d2, d3] }
  | _ => none }
def copiesExplainsRow : OpenClaim := { program := "ytiephlhohgohcaa", sum := "1561bec55d774e071753cb34d358a770d66461d14e192a92d90ae16ddfda2974", func := "glister/glisterlaw05.CopiesExplains", spec := "copiesExplains", unfollowed := true, recurses := true, plainKeys := false, apart := false }
def CopiesExplainsSaid : Prop := copiesExplainsRow.holds Try.pinned (OpenSpec.ofChange copiesExplainsSpec)

/-- ITS FALSE NEIGHBOUR: 'it returns false'. Refute it at one input. -/
def copiesExplainsWrong : ChangeSpec := { name := "copiesExplains", fn := fun _ => fun
  | [d1, d2, d3] => { results := [.lit (.bool false)], args := [d1, d2, d3] }
  | _ => none }
def CopiesExplainsWrongFalsely : Prop := copiesExplainsRow.holds Try.pinned (OpenSpec.ofChange copiesExplainsWrong)

/-- 'glisterlaw05.CopiesNames': WHATEVER THE INPUT: true; the input reads as it did. -/
def copiesNamesSpec : ChangeSpec := { name := "copiesNames", fn := fun _ => fun
  | [] => { results := [.lit (.bool true)], args := [] }
  | _ => none }
def copiesNamesRow : OpenClaim := { program := "ytiephlhohgohcaa", sum := "1561bec55d774e071753cb34d358a770d66461d14e192a92d90ae16ddfda2974", func := "glister/glisterlaw05.CopiesNames", spec := "copiesNames", unfollowed := true, recurses := true, plainKeys := false, apart := false }
def CopiesNamesSaid : Prop := copiesNamesRow.holds Try.pinned (OpenSpec.ofChange copiesNamesSpec)

/-- ITS FALSE NEIGHBOUR: 'it returns false'. Refute it at one input. -/
def copiesNamesWrong : ChangeSpec := { name := "copiesNames", fn := fun _ => fun
  | [] => { results := [.lit (.bool false)], args := [] }
  | _ => none }
def CopiesNamesWrongFalsely : Prop := copiesNamesRow.holds Try.pinned (OpenSpec.ofChange copiesNamesWrong)

/-- 'glisterlaw05.CopiesOnce': WHATEVER THE INPUT: true; the input reads as it did. -/
def copiesOnceSpec : ChangeSpec := { name := "copiesOnce", fn := fun _ => fun
  | [d1, d2, d3] => { results := [.lit (.bool true)], args := [d1, d2, d3] }
  | _ => none }
def copiesOnceRow : OpenClaim := { program := "ytiephlhohgohcaa", sum := "1561bec55d774e071753cb34d358a770d66461d14e192a92d90ae16ddfda2974", func := "glister/glisterlaw05.CopiesOnce", spec := "copiesOnce", unfollowed := true, recurses := true, plainKeys := false, apart := false }
def CopiesOnceSaid : Prop := copiesOnceRow.holds Try.pinned (OpenSpec.ofChange copiesOnceSpec)

/-- ITS FALSE NEIGHBOUR: 'it returns false'. Refute it at one input. -/
def copiesOnceWrong : ChangeSpec := { name := "copiesOnce", fn := fun _ => fun
  | [d1, d2, d3] => { results := [.lit (.bool false)], args := [d1, d2, d3] }
  | _ => none }
def CopiesOnceWrongFalsely : Prop := copiesOnceRow.holds Try.pinned (OpenSpec.ofChange copiesOnceWrong)

/- THE SECOND FORM. 'bulk': how many values and letters a reading holds, each counted each time it is reached (what is shared counts as often as it is met; a slice's spare places count too). A statement '..UptoSaid' is the law's where the arguments, and the package variables that the reading takes, are together of bulk at most 1048576: NARROWER than '..Said'. Prove '..Said' where nothing that the law and all that it calls make is longer than what came in: it says more and counts as full. Else prove '..UptoSaid'. A law counts once. -/
mutual
def uptoBulk {H : Type} : DataW H → Nat
  | .lit (.string bytes) => bytes.length + 1
  | .lit _ => 1
  | .nil => 1
  | .ptr d => uptoBulk d + 1
  | .slice elems spare => uptoBulkAll elems + uptoBulkAll spare + 1
  | .agg parts => uptoBulkAll parts + 1
  | .iface _ d => uptoBulk d + 1
  | .map entries => uptoBulkEntries entries + 1
  | .held _ => 1
def uptoBulkAll {H : Type} : List (DataW H) → Nat
  | [] => 0
  | d :: r => uptoBulk d + uptoBulkAll r
def uptoBulkEntries {H : Type} : List (Lit × DataW H) → Nat
  | [] => 0
  | x :: r => uptoBulkEntry x + uptoBulkEntries r
def uptoBulkEntry {H : Type} : Lit × DataW H → Nat
  | (.string bytes, d) => bytes.length + uptoBulk d + 1
  | (_, d) => uptoBulk d + 1
 end
def uptoSmall : (H : Type) → List (DataW H) → Bool := fun _ ds => decide (uptoBulkAll ds ≤ 1048576)
def OpenSpec.upto (s : _root_.Go.ChangeSpec) : _root_.Go.OpenSpec := { _root_.Go.OpenSpec.ofChange s with cond := some uptoSmall }

/-- 'glisterlaw05.CopiesPlays', WHERE WHAT IT READS IS OF BULK AT MOST 1048576: true; the input reads as it did. -/
def copiesPlaysUptoRow : OpenClaim := { program := "ytiephlhohgohcaa", sum := "1561bec55d774e071753cb34d358a770d66461d14e192a92d90ae16ddfda2974", func := "glister/glisterlaw05.CopiesPlays", spec := "copiesPlays", unfollowed := true, recurses := true, plainKeys := false, apart := false, narrowed := true }
def CopiesPlaysUptoSaid : Prop := copiesPlaysUptoRow.holds Try.pinned (OpenSpec.upto copiesPlaysSpec)

/-- 'glisterlaw05.CopiesHours', WHERE WHAT IT READS IS OF BULK AT MOST 1048576: true; the input reads as it did. -/
def copiesHoursUptoRow : OpenClaim := { program := "ytiephlhohgohcaa", sum := "1561bec55d774e071753cb34d358a770d66461d14e192a92d90ae16ddfda2974", func := "glister/glisterlaw05.CopiesHours", spec := "copiesHours", unfollowed := true, recurses := true, plainKeys := false, apart := false, narrowed := true }
def CopiesHoursUptoSaid : Prop := copiesHoursUptoRow.holds Try.pinned (OpenSpec.upto copiesHoursSpec)

/-- 'glisterlaw05.CopiesSpans', WHERE WHAT IT READS IS OF BULK AT MOST 1048576: true; the input reads as it did. -/
def copiesSpansUptoRow : OpenClaim := { program := "ytiephlhohgohcaa", sum := "1561bec55d774e071753cb34d358a770d66461d14e192a92d90ae16ddfda2974", func := "glister/glisterlaw05.CopiesSpans", spec := "copiesSpans", unfollowed := true, recurses := true, plainKeys := false, apart := false, narrowed := true }
def CopiesSpansUptoSaid : Prop := copiesSpansUptoRow.holds Try.pinned (OpenSpec.upto copiesSpansSpec)

/-- 'glistertop.TopOnce', WHERE WHAT IT READS IS OF BULK AT MOST 1048576: true; the input reads as it did. -/
def topOnceUptoRow : OpenClaim := { program := "ytiephlhohgohcaa", sum := "1561bec55d774e071753cb34d358a770d66461d14e192a92d90ae16ddfda2974", func := "glister/glistertop.TopOnce", spec := "topOnce", unfollowed := true, recurses := true, plainKeys := false, apart := false, narrowed := true }
def TopOnceUptoSaid : Prop := topOnceUptoRow.holds Try.pinned (OpenSpec.upto topOnceSpec)

/-- 'glisterlaw05.CopiesOdds', WHERE WHAT IT READS IS OF BULK AT MOST 1048576: true; the input reads as it did. -/
def copiesOddsUptoRow : OpenClaim := { program := "ytiephlhohgohcaa", sum := "1561bec55d774e071753cb34d358a770d66461d14e192a92d90ae16ddfda2974", func := "glister/glisterlaw05.CopiesOdds", spec := "copiesOdds", unfollowed := true, recurses := true, plainKeys := false, apart := false, narrowed := true }
def CopiesOddsUptoSaid : Prop := copiesOddsUptoRow.holds Try.pinned (OpenSpec.upto copiesOddsSpec)

/-- 'glisterlaw05.CopiesLeast', WHERE WHAT IT READS IS OF BULK AT MOST 1048576: true; the input reads as it did. -/
def copiesLeastUptoRow : OpenClaim := { program := "ytiephlhohgohcaa", sum := "1561bec55d774e071753cb34d358a770d66461d14e192a92d90ae16ddfda2974", func := "glister/glisterlaw05.CopiesLeast", spec := "copiesLeast", unfollowed := true, recurses := true, plainKeys := false, apart := false, narrowed := true }
def CopiesLeastUptoSaid : Prop := copiesLeastUptoRow.holds Try.pinned (OpenSpec.upto copiesLeastSpec)

/-- 'glisterlaw05.CopiesMore', WHERE WHAT IT READS IS OF BULK AT MOST 1048576: true; the input reads as it did. -/
def copiesMoreUptoRow : OpenClaim := { program := "ytiephlhohgohcaa", sum := "1561bec55d774e071753cb34d358a770d66461d14e192a92d90ae16ddfda2974", func := "glister/glisterlaw05.CopiesMore", spec := "copiesMore", unfollowed := true, recurses := true, plainKeys := false, apart := false, narrowed := true }
def CopiesMoreUptoSaid : Prop := copiesMoreUptoRow.holds Try.pinned (OpenSpec.upto copiesMoreSpec)

/-- 'glisterlaw05.CopiesPatience', WHERE WHAT IT READS IS OF BULK AT MOST 1048576: true; the input reads as it did. -/
def copiesPatienceUptoRow : OpenClaim := { program := "ytiephlhohgohcaa", sum := "1561bec55d774e071753cb34d358a770d66461d14e192a92d90ae16ddfda2974", func := "glister/glisterlaw05.CopiesPatience", spec := "copiesPatience", unfollowed := true, recurses := true, plainKeys := false, apart := false, narrowed := true }
def CopiesPatienceUptoSaid : Prop := copiesPatienceUptoRow.holds Try.pinned (OpenSpec.upto copiesPatienceSpec)

/-- 'glisterlaw05.CopiesMoved', WHERE WHAT IT READS IS OF BULK AT MOST 1048576: true; the input reads as it did. -/
def copiesMovedUptoRow : OpenClaim := { program := "ytiephlhohgohcaa", sum := "1561bec55d774e071753cb34d358a770d66461d14e192a92d90ae16ddfda2974", func := "glister/glisterlaw05.CopiesMoved", spec := "copiesMoved", unfollowed := true, recurses := true, plainKeys := false, apart := false, narrowed := true }
def CopiesMovedUptoSaid : Prop := copiesMovedUptoRow.holds Try.pinned (OpenSpec.upto copiesMovedSpec)

/-- 'glisterlaw05.CopiesAwake', WHERE WHAT IT READS IS OF BULK AT MOST 1048576: true; the input reads as it did. -/
def copiesAwakeUptoRow : OpenClaim := { program := "ytiephlhohgohcaa", sum := "1561bec55d774e071753cb34d358a770d66461d14e192a92d90ae16ddfda2974", func := "glister/glisterlaw05.CopiesAwake", spec := "copiesAwake", unfollowed := true, recurses := true, plainKeys := false, apart := false, narrowed := true }
def CopiesAwakeUptoSaid : Prop := copiesAwakeUptoRow.holds Try.pinned (OpenSpec.upto copiesAwakeSpec)

/-- 'glisterlaw05.CopiesEnds', WHERE WHAT IT READS IS OF BULK AT MOST 1048576: true; the input reads as it did. -/
def copiesEndsUptoRow : OpenClaim := { program := "ytiephlhohgohcaa", sum := "1561bec55d774e071753cb34d358a770d66461d14e192a92d90ae16ddfda2974", func := "glister/glisterlaw05.CopiesEnds", spec := "copiesEnds", unfollowed := true, recurses := true, plainKeys := false, apart := false, narrowed := true }
def CopiesEndsUptoSaid : Prop := copiesEndsUptoRow.holds Try.pinned (OpenSpec.upto copiesEndsSpec)

/-- 'glisterlaw05.CopiesLeft', WHERE WHAT IT READS IS OF BULK AT MOST 1048576: true; the input reads as it did. -/
def copiesLeftUptoRow : OpenClaim := { program := "ytiephlhohgohcaa", sum := "1561bec55d774e071753cb34d358a770d66461d14e192a92d90ae16ddfda2974", func := "glister/glisterlaw05.CopiesLeft", spec := "copiesLeft", unfollowed := true, recurses := true, plainKeys := false, apart := false, narrowed := true }
def CopiesLeftUptoSaid : Prop := copiesLeftUptoRow.holds Try.pinned (OpenSpec.upto copiesLeftSpec)

/-- 'glisterlaw05.CopiesExplains', WHERE WHAT IT READS IS OF BULK AT MOST 1048576: true; the input reads as it did. -/
def copiesExplainsUptoRow : OpenClaim := { program := "ytiephlhohgohcaa", sum := "1561bec55d774e071753cb34d358a770d66461d14e192a92d90ae16ddfda2974", func := "glister/glisterlaw05.CopiesExplains", spec := "copiesExplains", unfollowed := true, recurses := true, plainKeys := false, apart := false, narrowed := true }
def CopiesExplainsUptoSaid : Prop := copiesExplainsUptoRow.holds Try.pinned (OpenSpec.upto copiesExplainsSpec)

/-- 'glisterlaw05.CopiesNames', WHERE WHAT IT READS IS OF BULK AT MOST 1048576: true; the input reads as it did. -/
def copiesNamesUptoRow : OpenClaim := { program := "ytiephlhohgohcaa", sum := "1561bec55d774e071753cb34d358a770d66461d14e192a92d90ae16ddfda2974", func := "glister/glisterlaw05.CopiesNames", spec := "copiesNames", unfollowed := true, recurses := true, plainKeys := false, apart := false, narrowed := true }
def CopiesNamesUptoSaid : Prop := copiesNamesUptoRow.holds Try.pinned (OpenSpec.upto copiesNamesSpec)

/-- 'glisterlaw05.CopiesOnce', WHERE WHAT IT READS IS OF BULK AT MOST 1048576: true; the input reads as it did. -/
def copiesOnceUptoRow : OpenClaim := { program := "ytiephlhohgohcaa", sum := "1561bec55d774e071753cb34d358a770d66461d14e192a92d90ae16ddfda2974", func := "glister/glisterlaw05.CopiesOnce", spec := "copiesOnce", unfollowed := true, recurses := true, plainKeys := false, apart := false, narrowed := true }
def CopiesOnceUptoSaid : Prop := copiesOnceUptoRow.holds Try.pinned (OpenSpec.upto copiesOnceSpec)

end Rows
end Go.Proofs.Ytiephlhohgohcaa
