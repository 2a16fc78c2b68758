/-
  No cell of these rows narrows 'for every input' (looked for: loops, veiled, ifaces, maps, wideKeys, modest, calm, conditions, laid).
  DERIVED. THE GIVEN ROWS OF THIS SEAT. 14 by the template 'for every input the law returns true; each argument reads behind the call as it read before'; 0 by the template 'total and deterministic' (their statements: YtdkncfmlehcjmaaTotals.lean).
  GIVEN WITH THE SEED: the statements are not yours to turn. If you find one false, say at which input.
  Laid BY PROGRAM, IN A SANDBOX (cutbox-rows.mjs): the forced cells as the released guide's own fill.sh prints them over the translation d82f5f20a153be79… (all of the seat's roots in one cut). By AI agents, Wed Nov 11 2026. No macro, syntax, notation, axiom, sorry.
-/
import Derived.Test.YtdkncfmlehcjmaaChecked
import GoSem.Claim
import GoSem.ClaimJoined
import GoSem.ClaimMapViews
import Derived.JoinedTies
import Derived.KernelRfl
namespace Go.Proofs.Ytdkncfmlehcjmaa
/- THE CELL 'sum', in the pinned program and in every row, IS THE sha256 OF THE DUMP (.gsa) THAT YtdkncfmlehcjmaaProg.lean LOADS. Nothing in Lean hashes anything: it is a label: what it is worth is what the hold of that sum in a sandbox is worth. -/
noncomputable def Try.pinned : Pinned := { name := "ytdkncfmlehcjmaa", sum := "d82f5f20a153be797f2dcdf05d5c5e16d58b1c15951c49d8c420d7050a842f0c", checked := Try.checked }
namespace Rows
def none {H : Type} : Left H := { results := [], args := [] }

/-- 'tickinglaw11.SerialParts': WHATEVER THE INPUT: true; the input reads as it did. -/
def serialPartsSpec : ChangeSpec := { name := "serialParts", fn := fun _ => fun
  | [d1, d2, d3] => { results := [.lit (.bool true)], args := [d1, d2, d3] }
  | _ => none }
def serialPartsRow : OpenClaim := { program := "ytdkncfmlehcjmaa", sum := "d82f5f20a153be797f2dcdf05d5c5e16d58b1c15951c49d8c420d7050a842f0c", func := "ticking/tickinglaw11.SerialParts", spec := "serialParts", unfollowed := true, recurses := true, plainKeys := false, apart := false }
def SerialPartsSaid : Prop := serialPartsRow.holds Try.pinned (OpenSpec.ofChange serialPartsSpec)

/-- ITS FALSE NEIGHBOUR: 'it returns false'. Refute it at one input. -/
def serialPartsWrong : ChangeSpec := { name := "serialParts", fn := fun _ => fun
  | [d1, d2, d3] => { results := [.lit (.bool false)], args := [d1, d2, d3] }
  | _ => none }
def SerialPartsWrongFalsely : Prop := serialPartsRow.holds Try.pinned (OpenSpec.ofChange serialPartsWrong)

/-- 'tickinglaw11.SerialLinear': WHATEVER THE INPUT: true; the input reads as it did. -/
def serialLinearSpec : ChangeSpec := { name := "serialLinear", fn := fun _ => fun
  | [d1, d2, d3] => { results := [.lit (.bool true)], args := [d1, d2, d3] }
  | _ => none }
def serialLinearRow : OpenClaim := { program := "ytdkncfmlehcjmaa", sum := "d82f5f20a153be797f2dcdf05d5c5e16d58b1c15951c49d8c420d7050a842f0c", func := "ticking/tickinglaw11.SerialLinear", spec := "serialLinear", unfollowed := true, recurses := true, plainKeys := false, apart := false }
def SerialLinearSaid : Prop := serialLinearRow.holds Try.pinned (OpenSpec.ofChange serialLinearSpec)

/-- ITS FALSE NEIGHBOUR: 'it returns false'. Refute it at one input. -/
def serialLinearWrong : ChangeSpec := { name := "serialLinear", fn := fun _ => fun
  | [d1, d2, d3] => { results := [.lit (.bool false)], args := [d1, d2, d3] }
  | _ => none }
def SerialLinearWrongFalsely : Prop := serialLinearRow.holds Try.pinned (OpenSpec.ofChange serialLinearWrong)

/-- 'tickinglaw11.SerialExchange': WHATEVER THE INPUT: true; the input reads as it did. -/
def serialExchangeSpec : ChangeSpec := { name := "serialExchange", fn := fun _ => fun
  | [d1, d2, d3] => { results := [.lit (.bool true)], args := [d1, d2, d3] }
  | _ => none }
def serialExchangeRow : OpenClaim := { program := "ytdkncfmlehcjmaa", sum := "d82f5f20a153be797f2dcdf05d5c5e16d58b1c15951c49d8c420d7050a842f0c", func := "ticking/tickinglaw11.SerialExchange", spec := "serialExchange", unfollowed := true, recurses := true, plainKeys := false, apart := false }
def SerialExchangeSaid : Prop := serialExchangeRow.holds Try.pinned (OpenSpec.ofChange serialExchangeSpec)

/-- ITS FALSE NEIGHBOUR: 'it returns false'. Refute it at one input. -/
def serialExchangeWrong : ChangeSpec := { name := "serialExchange", fn := fun _ => fun
  | [d1, d2, d3] => { results := [.lit (.bool false)], args := [d1, d2, d3] }
  | _ => none }
def SerialExchangeWrongFalsely : Prop := serialExchangeRow.holds Try.pinned (OpenSpec.ofChange serialExchangeWrong)

/-- 'tickinglaw11.SerialPass': WHATEVER THE INPUT: true; the input reads as it did. -/
def serialPassSpec : ChangeSpec := { name := "serialPass", fn := fun _ => fun
  | [d1, d2, d3] => { results := [.lit (.bool true)], args := [d1, d2, d3] }
  | _ => none }
def serialPassRow : OpenClaim := { program := "ytdkncfmlehcjmaa", sum := "d82f5f20a153be797f2dcdf05d5c5e16d58b1c15951c49d8c420d7050a842f0c", func := "ticking/tickinglaw11.SerialPass", spec := "serialPass", unfollowed := true, recurses := true, plainKeys := false, apart := false }
def SerialPassSaid : Prop := serialPassRow.holds Try.pinned (OpenSpec.ofChange serialPassSpec)

/-- ITS FALSE NEIGHBOUR: 'it returns false'. Refute it at one input. -/
def serialPassWrong : ChangeSpec := { name := "serialPass", fn := fun _ => fun
  | [d1, d2, d3] => { results := [.lit (.bool false)], args := [d1, d2, d3] }
  | _ => none }
def SerialPassWrongFalsely : Prop := serialPassRow.holds Try.pinned (OpenSpec.ofChange serialPassWrong)

/-- 'tickinglaw11.SerialTraces': WHATEVER THE INPUT: true; the input reads as it did. -/
def serialTracesSpec : ChangeSpec := { name := "serialTraces", fn := fun _ => fun
  | [d1, d2] => { results := [.lit (.bool true)], args := [d1, d2] }
  | _ => none }
def serialTracesRow : OpenClaim := { program := "ytdkncfmlehcjmaa", sum := "d82f5f20a153be797f2dcdf05d5c5e16d58b1c15951c49d8c420d7050a842f0c", func := "ticking/tickinglaw11.SerialTraces", spec := "serialTraces", unfollowed := true, recurses := true, plainKeys := false, apart := false }
def SerialTracesSaid : Prop := serialTracesRow.holds Try.pinned (OpenSpec.ofChange serialTracesSpec)

/-- ITS FALSE NEIGHBOUR: 'it returns false'. Refute it at one input. -/
def serialTracesWrong : ChangeSpec := { name := "serialTraces", fn := fun _ => fun
  | [d1, d2] => { results := [.lit (.bool false)], args := [d1, d2] }
  | _ => none }
def SerialTracesWrongFalsely : Prop := serialTracesRow.holds Try.pinned (OpenSpec.ofChange serialTracesWrong)

/-- 'tickinglaw11.SerialSound': WHATEVER THE INPUT: true; the input reads as it did. -/
def serialSoundSpec : ChangeSpec := { name := "serialSound", fn := fun _ => fun
  | [d1, d2, d3] => { results := [.lit (.bool true)], args := [d1, d2, d3] }
  | _ => none }
def serialSoundRow : OpenClaim := { program := "ytdkncfmlehcjmaa", sum := "d82f5f20a153be797f2dcdf05d5c5e16d58b1c15951c49d8c420d7050a842f0c", func := "ticking/tickinglaw11.SerialSound", spec := "serialSound", unfollowed := true, recurses := true, plainKeys := false, apart := false }
def SerialSoundSaid : Prop := serialSoundRow.holds Try.pinned (OpenSpec.ofChange serialSoundSpec)

/-- ITS FALSE NEIGHBOUR: 'it returns false'. Refute it at one input. -/
def serialSoundWrong : ChangeSpec := { name := "serialSound", fn := fun _ => fun
  | [d1, d2, d3] => { results := [.lit (.bool false)], args := [d1, d2, d3] }
  | _ => none }
def SerialSoundWrongFalsely : Prop := serialSoundRow.holds Try.pinned (OpenSpec.ofChange serialSoundWrong)

/-- 'tickinglaw11.SerialSums': WHATEVER THE INPUT: true; the input reads as it did. -/
def serialSumsSpec : ChangeSpec := { name := "serialSums", fn := fun _ => fun
  | [d1, d2, d3] => { results := [.lit (.bool true)], args := [d1, d2, d3] }
  | _ => none }
def serialSumsRow : OpenClaim := { program := "ytdkncfmlehcjmaa", sum := "d82f5f20a153be797f2dcdf05d5c5e16d58b1c15951c49d8c420d7050a842f0c", func := "ticking/tickinglaw11.SerialSums", spec := "serialSums", unfollowed := true, recurses := true, plainKeys := false, apart := false }
def SerialSumsSaid : Prop := serialSumsRow.holds Try.pinned (OpenSpec.ofChange serialSumsSpec)

/-- ITS FALSE NEIGHBOUR: 'it returns false'. Refute it at one input. -/
def serialSumsWrong : ChangeSpec := { name := "serialSums", fn := fun _ => fun
  | [d1, d2, d3] => { results := [.lit (.bool false)], args := [d1, d2, d3] }
  | _ => none }
def SerialSumsWrongFalsely : Prop := serialSumsRow.holds Try.pinned (OpenSpec.ofChange serialSumsWrong)

/-- 'tickinglaw11.SerialTables': WHATEVER THE INPUT: true; the input reads as it did. -/
def serialTablesSpec : ChangeSpec := { name := "serialTables", fn := fun _ => fun
  | [d] => { results := [.lit (.bool true)], args := [d] }
  | _ => none }
def serialTablesRow : OpenClaim := { program := "ytdkncfmlehcjmaa", sum := "d82f5f20a153be797f2dcdf05d5c5e16d58b1c15951c49d8c420d7050a842f0c", func := "ticking/tickinglaw11.SerialTables", spec := "serialTables", unfollowed := true, recurses := true, plainKeys := false, apart := false }
def SerialTablesSaid : Prop := serialTablesRow.holds Try.pinned (OpenSpec.ofChange serialTablesSpec)

/-- ITS FALSE NEIGHBOUR: 'it returns false'. Refute it at one input. -/
def serialTablesWrong : ChangeSpec := { name := "serialTables", fn := fun _ => fun
  | [d] => { results := [.lit (.bool false)], args := [d] }
  | _ => none }
def SerialTablesWrongFalsely : Prop := serialTablesRow.holds Try.pinned (OpenSpec.ofChange serialTablesWrong)

/-- 'tickinglaw11.SerialRenames': WHATEVER THE INPUT: true; the input reads as it did. -/
def serialRenamesSpec : ChangeSpec := { name := "serialRenames", fn := fun _ => fun
  | [d1, d2] => { results := [.lit (.bool true)], args := [d1, d2] }
  | _ => none }
def serialRenamesRow : OpenClaim := { program := "ytdkncfmlehcjmaa", sum := "d82f5f20a153be797f2dcdf05d5c5e16d58b1c15951c49d8c420d7050a842f0c", func := "ticking/tickinglaw11.SerialRenames", spec := "serialRenames", unfollowed := true, recurses := true, plainKeys := false, apart := false }
def SerialRenamesSaid : Prop := serialRenamesRow.holds Try.pinned (OpenSpec.ofChange serialRenamesSpec)

/-- ITS FALSE NEIGHBOUR: 'it returns false'. Refute it at one input. -/
def serialRenamesWrong : ChangeSpec := { name := "serialRenames", fn := fun _ => fun
  | [d1, d2] => { results := [.lit (.bool false)], args := [d1, d2] }
  | _ => none }
def SerialRenamesWrongFalsely : Prop := serialRenamesRow.holds Try.pinned (OpenSpec.ofChange serialRenamesWrong)

/-- 'tickinglaw11.SerialLets': WHATEVER THE INPUT: true; the input reads as it did. -/
def serialLetsSpec : ChangeSpec := { name := "serialLets", fn := fun _ => fun
  | [d1, d2, d3] => { results := [.lit (.bool true)], args := [d1, d2, d3] }
  | _ => none }
def serialLetsRow : OpenClaim := { program := "ytdkncfmlehcjmaa", sum := "d82f5f20a153be797f2dcdf05d5c5e16d58b1c15951c49d8c420d7050a842f0c", func := "ticking/tickinglaw11.SerialLets", spec := "serialLets", unfollowed := true, recurses := true, plainKeys := false, apart := false }
def SerialLetsSaid : Prop := serialLetsRow.holds Try.pinned (OpenSpec.ofChange serialLetsSpec)

/-- ITS FALSE NEIGHBOUR: 'it returns false'. Refute it at one input. -/
def serialLetsWrong : ChangeSpec := { name := "serialLets", fn := fun _ => fun
  | [d1, d2, d3] => { results := [.lit (.bool false)], args := [d1, d2, d3] }
  | _ => none }
def SerialLetsWrongFalsely : Prop := serialLetsRow.holds Try.pinned (OpenSpec.ofChange serialLetsWrong)

/-- 'tickinglaw11.SerialWeighs': WHATEVER THE INPUT: true; the input reads as it did. -/
def serialWeighsSpec : ChangeSpec := { name := "serialWeighs", fn := fun _ => fun
  | [d1, d2, d3] => { results := [.lit (.bool true)], args := [d1, d2, d3] }
  | _ => none }
def serialWeighsRow : OpenClaim := { program := "ytdkncfmlehcjmaa", sum := "d82f5f20a153be797f2dcdf05d5c5e16d58b1c15951c49d8c420d7050a842f0c", func := "ticking/tickinglaw11.SerialWeighs", spec := "serialWeighs", unfollowed := true, recurses := true, plainKeys := false, apart := false }
def SerialWeighsSaid : Prop := serialWeighsRow.holds Try.pinned (OpenSpec.ofChange serialWeighsSpec)

/-- ITS FALSE NEIGHBOUR: 'it returns false'. Refute it at one input. -/
def serialWeighsWrong : ChangeSpec := { name := "serialWeighs", fn := fun _ => fun
  | [d1, d2, d3] => { results := [.lit (.bool false)], args := [d1, d2, d3] }
  | _ => none }
def SerialWeighsWrongFalsely : Prop := serialWeighsRow.holds Try.pinned (OpenSpec.ofChange serialWeighsWrong)

/-- 'tickinglaw11.SerialMisses': WHATEVER THE INPUT: true; the input reads as it did. -/
def serialMissesSpec : ChangeSpec := { name := "serialMisses", fn := fun _ => fun
  | [d1, d2] => { results := [.lit (.bool true)], args := [d1, d2] }
  | _ => none }
def serialMissesRow : OpenClaim := { program := "ytdkncfmlehcjmaa", sum := "d82f5f20a153be797f2dcdf05d5c5e16d58b1c15951c49d8c420d7050a842f0c", func := "ticking/tickinglaw11.SerialMisses", spec := "serialMisses", unfollowed := true, recurses := true, plainKeys := false, apart := false }
def SerialMissesSaid : Prop := serialMissesRow.holds Try.pinned (OpenSpec.ofChange serialMissesSpec)

/-- ITS FALSE NEIGHBOUR: 'it returns false'. Refute it at one input. -/
def serialMissesWrong : ChangeSpec := { name := "serialMisses", fn := fun _ => fun
  | [d1, d2] => { results := [.lit (.bool false)], args := [d1, d2] }
  | _ => none }
def SerialMissesWrongFalsely : Prop := serialMissesRow.holds Try.pinned (OpenSpec.ofChange serialMissesWrong)

/-- 'tickinglaw11.SerialKinds': WHATEVER THE INPUT: true; the input reads as it did. -/
def serialKindsSpec : ChangeSpec := { name := "serialKinds", fn := fun _ => fun
  | [d1, d2] => { results := [.lit (.bool true)], args := [d1, d2] }
  | _ => none }
def serialKindsRow : OpenClaim := { program := "ytdkncfmlehcjmaa", sum := "d82f5f20a153be797f2dcdf05d5c5e16d58b1c15951c49d8c420d7050a842f0c", func := "ticking/tickinglaw11.SerialKinds", spec := "serialKinds", unfollowed := true, recurses := true, plainKeys := false, apart := false }
def SerialKindsSaid : Prop := serialKindsRow.holds Try.pinned (OpenSpec.ofChange serialKindsSpec)

/-- ITS FALSE NEIGHBOUR: 'it returns false'. Refute it at one input. -/
def serialKindsWrong : ChangeSpec := { name := "serialKinds", fn := fun _ => fun
  | [d1, d2] => { results := [.lit (.bool false)], args := [d1, d2] }
  | _ => none }
def SerialKindsWrongFalsely : Prop := serialKindsRow.holds Try.pinned (OpenSpec.ofChange serialKindsWrong)

/-- 'tickinglaw11.SerialOwn': WHATEVER THE INPUT: true; the input reads as it did. -/
def serialOwnSpec : ChangeSpec := { name := "serialOwn", fn := fun _ => fun
  | [d1, d2, d3] => { results := [.lit (.bool true)], args := [d1, d2, d3] }
  | _ => none }
def serialOwnRow : OpenClaim := { program := "ytdkncfmlehcjmaa", sum := "d82f5f20a153be797f2dcdf05d5c5e16d58b1c15951c49d8c420d7050a842f0c", func := "ticking/tickinglaw11.SerialOwn", spec := "serialOwn", unfollowed := true, recurses := true, plainKeys := false, apart := false }
def SerialOwnSaid : Prop := serialOwnRow.holds Try.pinned (OpenSpec.ofChange serialOwnSpec)

/-- ITS FALSE NEIGHBOUR: 'it returns false'. Refute it at one input. -/
def serialOwnWrong : ChangeSpec := { name := "serialOwn", fn := fun _ => fun
  | [d1, d2, d3] => { results := [.lit (.bool false)], args := [d1, d2, d3] }
  | _ => none }
def SerialOwnWrongFalsely : Prop := serialOwnRow.holds Try.pinned (OpenSpec.ofChange serialOwnWrong)

/- THE SECOND FORM. 'bulk': how many values and letters a reading holds, each counted each time it is reached (what is shared counts as often as it is met; a slice's spare places count too). A statement '..UptoSaid' is the law's where the arguments, and the package variables that the reading takes, are together of bulk at most 1048576: NARROWER than '..Said'. Prove '..Said' where nothing that the law and all that it calls make is longer than what came in: it says more and counts as full. Else prove '..UptoSaid'. A law counts once. -/
mutual
def uptoBulk {H : Type} : DataW H → Nat
  | .lit (.string bytes) => bytes.length + 1
  | .lit _ => 1
  | .nil => 1
  | .ptr d => uptoBulk d + 1
  | .slice elems spare => uptoBulkAll elems + uptoBulkAll spare + 1
  | .agg parts => uptoBulkAll parts + 1
  | .iface _ d => uptoBulk d + 1
  | .map entries => uptoBulkEntries entries + 1
  | .held _ => 1
def uptoBulkAll {H : Type} : List (DataW H) → Nat
  | [] => 0
  | d :: r => uptoBulk d + uptoBulkAll r
def uptoBulkEntries {H : Type} : List (Lit × DataW H) → Nat
  | [] => 0
  | x :: r => uptoBulkEntry x + uptoBulkEntries r
def uptoBulkEntry {H : Type} : Lit × DataW H → Nat
  | (.string bytes, d) => bytes.length + uptoBulk d + 1
  | (_, d) => uptoBulk d + 1
 end
def uptoSmall : (H : Type) → List (DataW H) → Bool := fun _ ds => decide (uptoBulkAll ds ≤ 1048576)
def OpenSpec.upto (s : _root_.Go.ChangeSpec) : _root_.Go.OpenSpec := { _root_.Go.OpenSpec.ofChange s with cond := some uptoSmall }

/-- 'tickinglaw11.SerialParts', WHERE WHAT IT READS IS OF BULK AT MOST 1048576: true; the input reads as it did. -/
def serialPartsUptoRow : OpenClaim := { program := "ytdkncfmlehcjmaa", sum := "d82f5f20a153be797f2dcdf05d5c5e16d58b1c15951c49d8c420d7050a842f0c", func := "ticking/tickinglaw11.SerialParts", spec := "serialParts", unfollowed := true, recurses := true, plainKeys := false, apart := false, narrowed := true }
def SerialPartsUptoSaid : Prop := serialPartsUptoRow.holds Try.pinned (OpenSpec.upto serialPartsSpec)

/-- 'tickinglaw11.SerialLinear', WHERE WHAT IT READS IS OF BULK AT MOST 1048576: true; the input reads as it did. -/
def serialLinearUptoRow : OpenClaim := { program := "ytdkncfmlehcjmaa", sum := "d82f5f20a153be797f2dcdf05d5c5e16d58b1c15951c49d8c420d7050a842f0c", func := "ticking/tickinglaw11.SerialLinear", spec := "serialLinear", unfollowed := true, recurses := true, plainKeys := false, apart := false, narrowed := true }
def SerialLinearUptoSaid : Prop := serialLinearUptoRow.holds Try.pinned (OpenSpec.upto serialLinearSpec)

/-- 'tickinglaw11.SerialExchange', WHERE WHAT IT READS IS OF BULK AT MOST 1048576: true; the input reads as it did. -/
def serialExchangeUptoRow : OpenClaim := { program := "ytdkncfmlehcjmaa", sum := "d82f5f20a153be797f2dcdf05d5c5e16d58b1c15951c49d8c420d7050a842f0c", func := "ticking/tickinglaw11.SerialExchange", spec := "serialExchange", unfollowed := true, recurses := true, plainKeys := false, apart := false, narrowed := true }
def SerialExchangeUptoSaid : Prop := serialExchangeUptoRow.holds Try.pinned (OpenSpec.upto serialExchangeSpec)

/-- 'tickinglaw11.SerialPass', WHERE WHAT IT READS IS OF BULK AT MOST 1048576: true; the input reads as it did. -/
def serialPassUptoRow : OpenClaim := { program := "ytdkncfmlehcjmaa", sum := "d82f5f20a153be797f2dcdf05d5c5e16d58b1c15951c49d8c420d7050a842f0c", func := "ticking/tickinglaw11.SerialPass", spec := "serialPass", unfollowed := true, recurses := true, plainKeys := false, apart := false, narrowed := true }
def SerialPassUptoSaid : Prop := serialPassUptoRow.holds Try.pinned (OpenSpec.upto serialPassSpec)

/-- 'tickinglaw11.SerialTraces', WHERE WHAT IT READS IS OF BULK AT MOST 1048576: true; the input reads as it did. -/
def serialTracesUptoRow : OpenClaim := { program := "ytdkncfmlehcjmaa", sum := "d82f5f20a153be797f2dcdf05d5c5e16d58b1c15951c49d8c420d7050a842f0c", func := "ticking/tickinglaw11.SerialTraces", spec := "serialTraces", unfollowed := true, recurses := true, plainKeys := false, apart := false, narrowed := true }
def SerialTracesUptoSaid : Prop := serialTracesUptoRow.holds Try.pinned (OpenSpec.upto serialTracesSpec)

/-- 'tickinglaw11.SerialSound', WHERE WHAT IT READS IS OF BULK AT MOST 1048576: true; the input reads as it did. -/
def serialSoundUptoRow : OpenClaim := { program := "ytdkncfmlehcjmaa", sum := "d82f5f20a153be797f2dcdf05d5c5e16d58b1c15951c49d8c420d7050a842f0c", func := "ticking/tickinglaw11.SerialSound", spec := "serialSound", unfollowed := true, recurses := true, plainKeys := false, apart := false, narrowed := true }
def SerialSoundUptoSaid : Prop := serialSoundUptoRow.holds Try.pinned (OpenSpec.upto serialSoundSpec)

/-- 'tickinglaw11.SerialSums', WHERE WHAT IT READS IS OF BULK AT MOST 1048576: true; the input reads as it did. -/
def serialSumsUptoRow : OpenClaim := { program := "ytdkncfmlehcjmaa", sum := "d82f5f20a153be797f2dcdf05d5c5e16d58b1c15951c49d8c420d7050a842f0c", func := "ticking/tickinglaw11.SerialSums", spec := "serialSums", unfollowed := true, recurses := true, plainKeys := false, apart := false, narrowed := true }
def SerialSumsUptoSaid : Prop := serialSumsUptoRow.holds Try.pinned (OpenSpec.upto serialSumsSpec)

/-- 'tickinglaw11.SerialTables', WHERE WHAT IT READS IS OF BULK AT MOST 1048576: true; the input reads as it did. -/
def serialTablesUptoRow : OpenClaim := { program := "ytdkncfmlehcjmaa", sum := "d82f5f20a153be797f2dcdf05d5c5e16d58b1c15951c49d8c420d7050a842f0c", func := "ticking/tickinglaw11.SerialTables", spec := "serialTables", unfollowed := true, recurses := true, plainKeys := false, apart := false, narrowed := true }
def SerialTablesUptoSaid : Prop := serialTablesUptoRow.holds Try.pinned (OpenSpec.upto serialTablesSpec)

/-- 'tickinglaw11.SerialRenames', WHERE WHAT IT READS IS OF BULK AT MOST 1048576: true; the input reads as it did. -/
def serialRenamesUptoRow : OpenClaim := { program := "ytdkncfmlehcjmaa", sum := "d82f5f20a153be797f2dcdf05d5c5e16d58b1c15951c49d8c420d7050a842f0c", func := "ticking/tickinglaw11.SerialRenames", spec := "serialRenames", unfollowed := true, recurses := true, plainKeys := false, apart := false, narrowed := true }
def SerialRenamesUptoSaid : Prop := serialRenamesUptoRow.holds Try.pinned (OpenSpec.upto serialRenamesSpec)

/-- 'tickinglaw11.SerialLets', WHERE WHAT IT READS IS OF BULK AT MOST 1048576: true; the input reads as it did. -/
def serialLetsUptoRow : OpenClaim := { program := "ytdkncfmlehcjmaa", sum := "d82f5f20a153be797f2dcdf05d5c5e16d58b1c15951c49d8c420d7050a842f0c", func := "ticking/tickinglaw11.SerialLets", spec := "serialLets", unfollowed := true, recurses := true, plainKeys := false, apart := false, narrowed := true }
def SerialLetsUptoSaid : Prop := serialLetsUptoRow.holds Try.pinned (OpenSpec.upto serialLetsSpec)

/-- 'tickinglaw11.SerialWeighs', WHERE WHAT IT READS IS OF BULK AT MOST 1048576: true; the input reads as it did. -/
def serialWeighsUptoRow : OpenClaim := { program := "ytdkncfmlehcjmaa", sum := "d82f5f20a153be797f2dcdf05d5c5e16d58b1c15951c49d8c420d7050a842f0c", func := "ticking/tickinglaw11.SerialWeighs", spec := "serialWeighs", unfollowed := true, recurses := true, plainKeys := false, apart := false, narrowed := true }
def SerialWeighsUptoSaid : Prop := serialWeighsUptoRow.holds Try.pinned (OpenSpec.upto serialWeighsSpec)

/-- 'tickinglaw11.SerialMisses', WHERE WHAT IT READS IS OF BULK AT MOST 1048576: true; the input reads as it did. -/
def serialMissesUptoRow : OpenClaim := { program := "ytdkncfmlehcjmaa", sum := "d82f5f20a153be797f2dcdf05d5c5e16d58b1c15951c49d8c420d7050a842f0c", func := "ticking/tickinglaw11.SerialMisses", spec := "serialMisses", unfollowed := true, recurses := true, plainKeys := false, apart := false, narrowed := true }
def SerialMissesUptoSaid : Prop := serialMissesUptoRow.holds Try.pinned (OpenSpec.upto serialMissesSpec)

/-- 'tickinglaw11.SerialKinds', WHERE WHAT IT READS IS OF BULK AT MOST 1048576: true; the input reads as it did. -/
def serialKindsUptoRow : OpenClaim := { program := "ytdkncfmlehcjmaa", sum := "d82f5f20a153be797f2dcdf05d5c5e16d58b1c15951c49d8c420d7050a842f0c", func := "ticking/tickinglaw11.SerialKinds", spec := "serialKinds", unfollowed := true, recurses := true, plainKeys := false, apart := false, narrowed := true }
def SerialKindsUptoSaid : Prop := serialKindsUptoRow.holds Try.pinned (OpenSpec.upto serialKindsSpec)

/-- 'tickinglaw11.SerialOwn', WHERE WHAT IT READS IS OF BULK AT MOST 1048576: true; the input reads as it did. -/
def serialOwnUptoRow : OpenClaim := { program := "ytdkncfmlehcjmaa", sum := "d82f5f20a153be797f2dcdf05d5c5e16d58b1c15951c49d8c420d7050a842f0c", func := "ticking/tickinglaw11.SerialOwn", spec := "serialOwn", unfollowed := true, recurses := true, plainKeys := false, apart := false, narrowed := true }
def SerialOwnUptoSaid : Prop := serialOwnUptoRow.holds Try.pinned (OpenSpec.upto serialOwnSpec)

end Rows
end Go.Proofs.Ytdkncfmlehcjmaa
