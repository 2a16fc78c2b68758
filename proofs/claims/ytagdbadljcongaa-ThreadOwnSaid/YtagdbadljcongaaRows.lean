/-
  No cell of these rows narrows 'for every input' (looked for: loops, veiled, ifaces, maps, wideKeys, modest, calm, conditions, laid).
  DERIVED. THE GIVEN ROWS OF THIS SEAT. 14 by the template 'for every input the law returns true; each argument reads behind the call as it read before'; 0 by the template 'total and deterministic' (their statements: YtagdbadljcongaaTotals.lean).
  GIVEN WITH THE SEED: the statements are not yours to turn. If you find one false, say at which input.
  Laid BY PROGRAM, IN A SANDBOX (cutbox-rows.mjs): the forced cells as the released guide's own fill.sh prints them over the translation 534207faf23d230f… (all of the seat's roots in one cut). By AI agents, Wed Nov 11 2026. No macro, syntax, notation, axiom, sorry.
-/
import Derived.Test.YtagdbadljcongaaChecked
import GoSem.Claim
import GoSem.ClaimJoined
import GoSem.ClaimMapViews
import Derived.JoinedTies
import Derived.KernelRfl
namespace Go.Proofs.Ytagdbadljcongaa
/- THE CELL 'sum', in the pinned program and in every row, IS THE sha256 OF THE DUMP (.gsa) THAT YtagdbadljcongaaProg.lean LOADS. Nothing in Lean hashes anything: it is a label: what it is worth is what the hold of that sum in a sandbox is worth. -/
noncomputable def Try.pinned : Pinned := { name := "ytagdbadljcongaa", sum := "534207faf23d230f37169e40950f6aa9f408a04f1c61d323dbd9d65bca76ea8e", checked := Try.checked }
namespace Rows
def none {H : Type} : Left H := { results := [], args := [] }

/-- 'tickinglaw03.ThreadArches': WHATEVER THE INPUT: true; the input reads as it did. -/
def threadArchesSpec : ChangeSpec := { name := "threadArches", fn := fun _ => fun
  | [d1, d2] => { results := [.lit (.bool true)], args := [d1, d2] }
  | _ => none }
def threadArchesRow : OpenClaim := { program := "ytagdbadljcongaa", sum := "534207faf23d230f37169e40950f6aa9f408a04f1c61d323dbd9d65bca76ea8e", func := "ticking/tickinglaw03.ThreadArches", spec := "threadArches", unfollowed := true, recurses := true, plainKeys := false, apart := false }
def ThreadArchesSaid : Prop := threadArchesRow.holds Try.pinned (OpenSpec.ofChange threadArchesSpec)

/-- ITS FALSE NEIGHBOUR: 'it returns false'. Refute it at one input. -/
def threadArchesWrong : ChangeSpec := { name := "threadArches", fn := fun _ => fun
  | [d1, d2] => { results := [.lit (.bool false)], args := [d1, d2] }
  | _ => none }
def ThreadArchesWrongFalsely : Prop := threadArchesRow.holds Try.pinned (OpenSpec.ofChange threadArchesWrong)

/-- 'tickinglaw03.ThreadGrows': WHATEVER THE INPUT: true; the input reads as it did. -/
def threadGrowsSpec : ChangeSpec := { name := "threadGrows", fn := fun _ => fun
  | [d1, d2] => { results := [.lit (.bool true)], args := [d1, d2] }
  | _ => none }
def threadGrowsRow : OpenClaim := { program := "ytagdbadljcongaa", sum := "534207faf23d230f37169e40950f6aa9f408a04f1c61d323dbd9d65bca76ea8e", func := "ticking/tickinglaw03.ThreadGrows", spec := "threadGrows", unfollowed := true, recurses := true, plainKeys := false, apart := false }
def ThreadGrowsSaid : Prop := threadGrowsRow.holds Try.pinned (OpenSpec.ofChange threadGrowsSpec)

/-- ITS FALSE NEIGHBOUR: 'it returns false'. Refute it at one input. -/
def threadGrowsWrong : ChangeSpec := { name := "threadGrows", fn := fun _ => fun
  | [d1, d2] => { results := [.lit (.bool false)], args := [d1, d2] }
  | _ => none }
def ThreadGrowsWrongFalsely : Prop := threadGrowsRow.holds Try.pinned (OpenSpec.ofChange threadGrowsWrong)

/-- 'tickinglaw03.ThreadDiffers': WHATEVER THE INPUT: true; the input reads as it did. -/
def threadDiffersSpec : ChangeSpec := { name := "threadDiffers", fn := fun _ => fun
  | [d1, d2, d3] => { results := [.lit (.bool true)], args := [d1, d2, d3] }
  | _ => none }
def threadDiffersRow : OpenClaim := { program := "ytagdbadljcongaa", sum := "534207faf23d230f37169e40950f6aa9f408a04f1c61d323dbd9d65bca76ea8e", func := "ticking/tickinglaw03.ThreadDiffers", spec := "threadDiffers", unfollowed := true, recurses := true, plainKeys := false, apart := false }
def ThreadDiffersSaid : Prop := threadDiffersRow.holds Try.pinned (OpenSpec.ofChange threadDiffersSpec)

/-- ITS FALSE NEIGHBOUR: 'it returns false'. Refute it at one input. -/
def threadDiffersWrong : ChangeSpec := { name := "threadDiffers", fn := fun _ => fun
  | [d1, d2, d3] => { results := [.lit (.bool false)], args := [d1, d2, d3] }
  | _ => none }
def ThreadDiffersWrongFalsely : Prop := threadDiffersRow.holds Try.pinned (OpenSpec.ofChange threadDiffersWrong)

/-- 'tickinglaw03.ThreadUniversal': WHATEVER THE INPUT: true; the input reads as it did. -/
def threadUniversalSpec : ChangeSpec := { name := "threadUniversal", fn := fun _ => fun
  | [d1, d2] => { results := [.lit (.bool true)], args := [d1, d2] }
  | _ => none }
def threadUniversalRow : OpenClaim := { program := "ytagdbadljcongaa", sum := "534207faf23d230f37169e40950f6aa9f408a04f1c61d323dbd9d65bca76ea8e", func := "ticking/tickinglaw03.ThreadUniversal", spec := "threadUniversal", unfollowed := true, recurses := true, plainKeys := false, apart := false }
def ThreadUniversalSaid : Prop := threadUniversalRow.holds Try.pinned (OpenSpec.ofChange threadUniversalSpec)

/-- ITS FALSE NEIGHBOUR: 'it returns false'. Refute it at one input. -/
def threadUniversalWrong : ChangeSpec := { name := "threadUniversal", fn := fun _ => fun
  | [d1, d2] => { results := [.lit (.bool false)], args := [d1, d2] }
  | _ => none }
def ThreadUniversalWrongFalsely : Prop := threadUniversalRow.holds Try.pinned (OpenSpec.ofChange threadUniversalWrong)

/-- 'tickinglaw03.ThreadIndexes': WHATEVER THE INPUT: true; the input reads as it did. -/
def threadIndexesSpec : ChangeSpec := { name := "threadIndexes", fn := fun _ => fun
  | [d1, d2] => { results := [.lit (.bool true)], args := [d1, d2] }
  | _ => none }
def threadIndexesRow : OpenClaim := { program := "ytagdbadljcongaa", sum := "534207faf23d230f37169e40950f6aa9f408a04f1c61d323dbd9d65bca76ea8e", func := "ticking/tickinglaw03.ThreadIndexes", spec := "threadIndexes", unfollowed := true, recurses := true, plainKeys := false, apart := false }
def ThreadIndexesSaid : Prop := threadIndexesRow.holds Try.pinned (OpenSpec.ofChange threadIndexesSpec)

/-- ITS FALSE NEIGHBOUR: 'it returns false'. Refute it at one input. -/
def threadIndexesWrong : ChangeSpec := { name := "threadIndexes", fn := fun _ => fun
  | [d1, d2] => { results := [.lit (.bool false)], args := [d1, d2] }
  | _ => none }
def ThreadIndexesWrongFalsely : Prop := threadIndexesRow.holds Try.pinned (OpenSpec.ofChange threadIndexesWrong)

/-- 'tickinglaw03.ThreadAll': WHATEVER THE INPUT: true; the input reads as it did. -/
def threadAllSpec : ChangeSpec := { name := "threadAll", fn := fun _ => fun
  | [d] => { results := [.lit (.bool true)], args := [d] }
  | _ => none }
def threadAllRow : OpenClaim := { program := "ytagdbadljcongaa", sum := "534207faf23d230f37169e40950f6aa9f408a04f1c61d323dbd9d65bca76ea8e", func := "ticking/tickinglaw03.ThreadAll", spec := "threadAll", unfollowed := true, recurses := true, plainKeys := false, apart := false }
def ThreadAllSaid : Prop := threadAllRow.holds Try.pinned (OpenSpec.ofChange threadAllSpec)

/-- ITS FALSE NEIGHBOUR: 'it returns false'. Refute it at one input. -/
def threadAllWrong : ChangeSpec := { name := "threadAll", fn := fun _ => fun
  | [d] => { results := [.lit (.bool false)], args := [d] }
  | _ => none }
def ThreadAllWrongFalsely : Prop := threadAllRow.holds Try.pinned (OpenSpec.ofChange threadAllWrong)

/-- 'tickinglaw03.ThreadCongruent': WHATEVER THE INPUT: true; the input reads as it did. -/
def threadCongruentSpec : ChangeSpec := { name := "threadCongruent", fn := fun _ => fun
  | [d1, d2] => { results := [.lit (.bool true)], args := [d1, d2] }
  | _ => none }
def threadCongruentRow : OpenClaim := { program := "ytagdbadljcongaa", sum := "534207faf23d230f37169e40950f6aa9f408a04f1c61d323dbd9d65bca76ea8e", func := "ticking/tickinglaw03.ThreadCongruent", spec := "threadCongruent", unfollowed := true, recurses := true, plainKeys := false, apart := false }
def ThreadCongruentSaid : Prop := threadCongruentRow.holds Try.pinned (OpenSpec.ofChange threadCongruentSpec)

/-- ITS FALSE NEIGHBOUR: 'it returns false'. Refute it at one input. -/
def threadCongruentWrong : ChangeSpec := { name := "threadCongruent", fn := fun _ => fun
  | [d1, d2] => { results := [.lit (.bool false)], args := [d1, d2] }
  | _ => none }
def ThreadCongruentWrongFalsely : Prop := threadCongruentRow.holds Try.pinned (OpenSpec.ofChange threadCongruentWrong)

/-- 'tickinglaw03.ThreadItems': WHATEVER THE INPUT: true; the input reads as it did. -/
def threadItemsSpec : ChangeSpec := { name := "threadItems", fn := fun _ => fun
  | [d1, d2] => { results := [.lit (.bool true)], args := [d1, d2] }
  | _ => none }
def threadItemsRow : OpenClaim := { program := "ytagdbadljcongaa", sum := "534207faf23d230f37169e40950f6aa9f408a04f1c61d323dbd9d65bca76ea8e", func := "ticking/tickinglaw03.ThreadItems", spec := "threadItems", unfollowed := true, recurses := true, plainKeys := false, apart := false }
def ThreadItemsSaid : Prop := threadItemsRow.holds Try.pinned (OpenSpec.ofChange threadItemsSpec)

/-- ITS FALSE NEIGHBOUR: 'it returns false'. Refute it at one input. -/
def threadItemsWrong : ChangeSpec := { name := "threadItems", fn := fun _ => fun
  | [d1, d2] => { results := [.lit (.bool false)], args := [d1, d2] }
  | _ => none }
def ThreadItemsWrongFalsely : Prop := threadItemsRow.holds Try.pinned (OpenSpec.ofChange threadItemsWrong)

/-- 'tickinglaw03.ThreadWithin': WHATEVER THE INPUT: true; the input reads as it did. -/
def threadWithinSpec : ChangeSpec := { name := "threadWithin", fn := fun _ => fun
  | [d1, d2] => { results := [.lit (.bool true)], args := [d1, d2] }
  | _ => none }
def threadWithinRow : OpenClaim := { program := "ytagdbadljcongaa", sum := "534207faf23d230f37169e40950f6aa9f408a04f1c61d323dbd9d65bca76ea8e", func := "ticking/tickinglaw03.ThreadWithin", spec := "threadWithin", unfollowed := true, recurses := true, plainKeys := false, apart := false }
def ThreadWithinSaid : Prop := threadWithinRow.holds Try.pinned (OpenSpec.ofChange threadWithinSpec)

/-- ITS FALSE NEIGHBOUR: 'it returns false'. Refute it at one input. -/
def threadWithinWrong : ChangeSpec := { name := "threadWithin", fn := fun _ => fun
  | [d1, d2] => { results := [.lit (.bool false)], args := [d1, d2] }
  | _ => none }
def ThreadWithinWrongFalsely : Prop := threadWithinRow.holds Try.pinned (OpenSpec.ofChange threadWithinWrong)

/-- 'tickinglaw03.ThreadCommon': WHATEVER THE INPUT: true; the input reads as it did. -/
def threadCommonSpec : ChangeSpec := { name := "threadCommon", fn := fun _ => fun
  | [d1, d2, d3] => { results := [.lit (.bool true)], args := [d1, d2, d3] }
  | _ => none }
def threadCommonRow : OpenClaim := { program := "ytagdbadljcongaa", sum := "534207faf23d230f37169e40950f6aa9f408a04f1c61d323dbd9d65bca76ea8e", func := "ticking/tickinglaw03.ThreadCommon", spec := "threadCommon", unfollowed := true, recurses := true, plainKeys := false, apart := false }
def ThreadCommonSaid : Prop := threadCommonRow.holds Try.pinned (OpenSpec.ofChange threadCommonSpec)

/-- ITS FALSE NEIGHBOUR: 'it returns false'. Refute it at one input. -/
def threadCommonWrong : ChangeSpec := { name := "threadCommon", fn := fun _ => fun
  | [d1, d2, d3] => { results := [.lit (.bool false)], args := [d1, d2, d3] }
  | _ => none }
def ThreadCommonWrongFalsely : Prop := threadCommonRow.holds Try.pinned (OpenSpec.ofChange threadCommonWrong)

/-- 'tickinglaw03.ThreadRanked': WHATEVER THE INPUT: true; the input reads as it did. -/
def threadRankedSpec : ChangeSpec := { name := "threadRanked", fn := fun _ => fun
  | [d1, d2] => { results := [.lit (.bool true)], args := [d1, d2] }
  | _ => none }
def threadRankedRow : OpenClaim := { program := "ytagdbadljcongaa", sum := "534207faf23d230f37169e40950f6aa9f408a04f1c61d323dbd9d65bca76ea8e", func := "ticking/tickinglaw03.ThreadRanked", spec := "threadRanked", unfollowed := true, recurses := true, plainKeys := false, apart := false }
def ThreadRankedSaid : Prop := threadRankedRow.holds Try.pinned (OpenSpec.ofChange threadRankedSpec)

/-- ITS FALSE NEIGHBOUR: 'it returns false'. Refute it at one input. -/
def threadRankedWrong : ChangeSpec := { name := "threadRanked", fn := fun _ => fun
  | [d1, d2] => { results := [.lit (.bool false)], args := [d1, d2] }
  | _ => none }
def ThreadRankedWrongFalsely : Prop := threadRankedRow.holds Try.pinned (OpenSpec.ofChange threadRankedWrong)

/-- 'tickinglaw03.ThreadFamilies': WHATEVER THE INPUT: true; the input reads as it did. -/
def threadFamiliesSpec : ChangeSpec := { name := "threadFamilies", fn := fun _ => fun
  | [d1, d2] => { results := [.lit (.bool true)], args := [d1, d2] }
  | _ => none }
def threadFamiliesRow : OpenClaim := { program := "ytagdbadljcongaa", sum := "534207faf23d230f37169e40950f6aa9f408a04f1c61d323dbd9d65bca76ea8e", func := "ticking/tickinglaw03.ThreadFamilies", spec := "threadFamilies", unfollowed := true, recurses := true, plainKeys := false, apart := false }
def ThreadFamiliesSaid : Prop := threadFamiliesRow.holds Try.pinned (OpenSpec.ofChange threadFamiliesSpec)

/-- ITS FALSE NEIGHBOUR: 'it returns false'. Refute it at one input. -/
def threadFamiliesWrong : ChangeSpec := { name := "threadFamilies", fn := fun _ => fun
  | [d1, d2] => { results := [.lit (.bool false)], args := [d1, d2] }
  | _ => none }
def ThreadFamiliesWrongFalsely : Prop := threadFamiliesRow.holds Try.pinned (OpenSpec.ofChange threadFamiliesWrong)

/-- 'tickinglaw03.ThreadSparse': WHATEVER THE INPUT: true; the input reads as it did. -/
def threadSparseSpec : ChangeSpec := { name := "threadSparse", fn := fun _ => fun
  | [d1, d2] => { results := [.lit (.bool true)], args := [d1, d2] }
  | _ => none }
def threadSparseRow : OpenClaim := { program := "ytagdbadljcongaa", sum := "534207faf23d230f37169e40950f6aa9f408a04f1c61d323dbd9d65bca76ea8e", func := "ticking/tickinglaw03.ThreadSparse", spec := "threadSparse", unfollowed := true, recurses := true, plainKeys := false, apart := false }
def ThreadSparseSaid : Prop := threadSparseRow.holds Try.pinned (OpenSpec.ofChange threadSparseSpec)

/-- ITS FALSE NEIGHBOUR: 'it returns false'. Refute it at one input. -/
def threadSparseWrong : ChangeSpec := { name := "threadSparse", fn := fun _ => fun
  | [d1, d2] => { results := [.lit (.bool false)], args := [d1, d2] }
  | _ => none }
def ThreadSparseWrongFalsely : Prop := threadSparseRow.holds Try.pinned (OpenSpec.ofChange threadSparseWrong)

/-- 'tickinglaw03.ThreadOwn': WHATEVER THE INPUT: true; the input reads as it did. -/
def threadOwnSpec : ChangeSpec := { name := "threadOwn", fn := fun _ => fun
  | [d1, d2] => { results := [.lit (.bool true)], args := [d1, d2] }
  | _ => none }
def threadOwnRow : OpenClaim := { program := "ytagdbadljcongaa", sum := "534207faf23d230f37169e40950f6aa9f408a04f1c61d323dbd9d65bca76ea8e", func := "ticking/tickinglaw03.ThreadOwn", spec := "threadOwn", unfollowed := true, recurses := true, plainKeys := false, apart := false }
def ThreadOwnSaid : Prop := threadOwnRow.holds Try.pinned (OpenSpec.ofChange threadOwnSpec)

/-- ITS FALSE NEIGHBOUR: 'it returns false'. Refute it at one input. -/
def threadOwnWrong : ChangeSpec := { name := "threadOwn", fn := fun _ => fun
  | [d1, d2] => { results := [.lit (.bool false)], args := [d1, d2] }
  | _ => none }
def ThreadOwnWrongFalsely : Prop := threadOwnRow.holds Try.pinned (OpenSpec.ofChange threadOwnWrong)

/- THE SECOND FORM. 'bulk': how many values and letters a reading holds, each counted each time it is reached (what is shared counts as often as it is met; a slice's spare places count too). A statement '..UptoSaid' is the law's where the arguments, and the package variables that the reading takes, are together of bulk at most 1048576: NARROWER than '..Said'. Prove '..Said' where nothing that the law and all that it calls make is longer than what came in: it says more and counts as full. Else prove '..UptoSaid'. A law counts once. -/
mutual
def uptoBulk {H : Type} : DataW H → Nat
  | .lit (.string bytes) => bytes.length + 1
  | .lit _ => 1
  | .nil => 1
  | .ptr d => uptoBulk d + 1
  | .slice elems spare => uptoBulkAll elems + uptoBulkAll spare + 1
  | .agg parts => uptoBulkAll parts + 1
  | .iface _ d => uptoBulk d + 1
  | .map entries => uptoBulkEntries entries + 1
  | .held _ => 1
def uptoBulkAll {H : Type} : List (DataW H) → Nat
  | [] => 0
  | d :: r => uptoBulk d + uptoBulkAll r
def uptoBulkEntries {H : Type} : List (Lit × DataW H) → Nat
  | [] => 0
  | x :: r => uptoBulkEntry x + uptoBulkEntries r
def uptoBulkEntry {H : Type} : Lit × DataW H → Nat
  | (.string bytes, d) => bytes.length + uptoBulk d + 1
  | (_, d) => uptoBulk d + 1
 end
def uptoSmall : (H : Type) → List (DataW H) → Bool := fun _ ds => decide (uptoBulkAll ds ≤ 1048576)
def OpenSpec.upto (s : _root_.Go.ChangeSpec) : _root_.Go.OpenSpec := { _root_.Go.OpenSpec.ofChange s with cond := some uptoSmall }

/-- 'tickinglaw03.ThreadArches', WHERE WHAT IT READS IS OF BULK AT MOST 1048576: true; the input reads as it did. -/
def threadArchesUptoRow : OpenClaim := { program := "ytagdbadljcongaa", sum := "534207faf23d230f37169e40950f6aa9f408a04f1c61d323dbd9d65bca76ea8e", func := "ticking/tickinglaw03.ThreadArches", spec := "threadArches", unfollowed := true, recurses := true, plainKeys := false, apart := false, narrowed := true }
def ThreadArchesUptoSaid : Prop := threadArchesUptoRow.holds Try.pinned (OpenSpec.upto threadArchesSpec)

/-- 'tickinglaw03.ThreadGrows', WHERE WHAT IT READS IS OF BULK AT MOST 1048576: true; the input reads as it did. -/
def threadGrowsUptoRow : OpenClaim := { program := "ytagdbadljcongaa", sum := "534207faf23d230f37169e40950f6aa9f408a04f1c61d323dbd9d65bca76ea8e", func := "ticking/tickinglaw03.ThreadGrows", spec := "threadGrows", unfollowed := true, recurses := true, plainKeys := false, apart := false, narrowed := true }
def ThreadGrowsUptoSaid : Prop := threadGrowsUptoRow.holds Try.pinned (OpenSpec.upto threadGrowsSpec)

/-- 'tickinglaw03.ThreadDiffers', WHERE WHAT IT READS IS OF BULK AT MOST 1048576: true; the input reads as it did. -/
def threadDiffersUptoRow : OpenClaim := { program := "ytagdbadljcongaa", sum := "534207faf23d230f37169e40950f6aa9f408a04f1c61d323dbd9d65bca76ea8e", func := "ticking/tickinglaw03.ThreadDiffers", spec := "threadDiffers", unfollowed := true, recurses := true, plainKeys := false, apart := false, narrowed := true }
def ThreadDiffersUptoSaid : Prop := threadDiffersUptoRow.holds Try.pinned (OpenSpec.upto threadDiffersSpec)

/-- 'tickinglaw03.ThreadUniversal', WHERE WHAT IT READS IS OF BULK AT MOST 1048576: true; the input reads as it did. -/
def threadUniversalUptoRow : OpenClaim := { program := "ytagdbadljcongaa", sum := "534207faf23d230f37169e40950f6aa9f408a04f1c61d323dbd9d65bca76ea8e", func := "ticking/tickinglaw03.ThreadUniversal", spec := "threadUniversal", unfollowed := true, recurses := true, plainKeys := false, apart := false, narrowed := true }
def ThreadUniversalUptoSaid : Prop := threadUniversalUptoRow.holds Try.pinned (OpenSpec.upto threadUniversalSpec)

/-- 'tickinglaw03.ThreadIndexes', WHERE WHAT IT READS IS OF BULK AT MOST 1048576: true; the input reads as it did. -/
def threadIndexesUptoRow : OpenClaim := { program := "ytagdbadljcongaa", sum := "534207faf23d230f37169e40950f6aa9f408a04f1c61d323dbd9d65bca76ea8e", func := "ticking/tickinglaw03.ThreadIndexes", spec := "threadIndexes", unfollowed := true, recurses := true, plainKeys := false, apart := false, narrowed := true }
def ThreadIndexesUptoSaid : Prop := threadIndexesUptoRow.holds Try.pinned (OpenSpec.upto threadIndexesSpec)

/-- 'tickinglaw03.ThreadAll', WHERE WHAT IT READS IS OF BULK AT MOST 1048576: true; the input reads as it did. -/
def threadAllUptoRow : OpenClaim := { program := "ytagdbadljcongaa", sum := "534207faf23d230f37169e40950f6aa9f408a04f1c61d323dbd9d65bca76ea8e", func := "ticking/tickinglaw03.ThreadAll", spec := "threadAll", unfollowed := true, recurses := true, plainKeys := false, apart := false, narrowed := true }
def ThreadAllUptoSaid : Prop := threadAllUptoRow.holds Try.pinned (OpenSpec.upto threadAllSpec)

/-- 'tickinglaw03.ThreadCongruent', WHERE WHAT IT READS IS OF BULK AT MOST 1048576: true; the input reads as it did. -/
def threadCongruentUptoRow : OpenClaim := { program := "ytagdbadljcongaa", sum := "534207faf23d230f37169e40950f6aa9f408a04f1c61d323dbd9d65bca76ea8e", func := "ticking/tickinglaw03.ThreadCongruent", spec := "threadCongruent", unfollowed := true, recurses := true, plainKeys := false, apart := false, narrowed := true }
def ThreadCongruentUptoSaid : Prop := threadCongruentUptoRow.holds Try.pinned (OpenSpec.upto threadCongruentSpec)

/-- 'tickinglaw03.ThreadItems', WHERE WHAT IT READS IS OF BULK AT MOST 1048576: true; the input reads as it did. -/
def threadItemsUptoRow : OpenClaim := { program := "ytagdbadljcongaa", sum := "534207faf23d230f37169e40950f6aa9f408a04f1c61d323dbd9d65bca76ea8e", func := "ticking/tickinglaw03.ThreadItems", spec := "threadItems", unfollowed := true, recurses := true, plainKeys := false, apart := false, narrowed := true }
def ThreadItemsUptoSaid : Prop := threadItemsUptoRow.holds Try.pinned (OpenSpec.upto threadItemsSpec)

/-- 'tickinglaw03.ThreadWithin', WHERE WHAT IT READS IS OF BULK AT MOST 1048576: true; the input reads as it did. -/
def threadWithinUptoRow : OpenClaim := { program := "ytagdbadljcongaa", sum := "534207faf23d230f37169e40950f6aa9f408a04f1c61d323dbd9d65bca76ea8e", func := "ticking/tickinglaw03.ThreadWithin", spec := "threadWithin", unfollowed := true, recurses := true, plainKeys := false, apart := false, narrowed := true }
def ThreadWithinUptoSaid : Prop := threadWithinUptoRow.holds Try.pinned (OpenSpec.upto threadWithinSpec)

/-- 'tickinglaw03.ThreadCommon', WHERE WHAT IT READS IS OF BULK AT MOST 1048576: true; the input reads as it did. -/
def threadCommonUptoRow : OpenClaim := { program := "ytagdbadljcongaa", sum := "534207faf23d230f37169e40950f6aa9f408a04f1c61d323dbd9d65bca76ea8e", func := "ticking/tickinglaw03.ThreadCommon", spec := "threadCommon", unfollowed := true, recurses := true, plainKeys := false, apart := false, narrowed := true }
def ThreadCommonUptoSaid : Prop := threadCommonUptoRow.holds Try.pinned (OpenSpec.upto threadCommonSpec)

/-- 'tickinglaw03.ThreadRanked', WHERE WHAT IT READS IS OF BULK AT MOST 1048576: true; the input reads as it did. -/
def threadRankedUptoRow : OpenClaim := { program := "ytagdbadljcongaa", sum := "534207faf23d230f37169e40950f6aa9f408a04f1c61d323dbd9d65bca76ea8e", func := "ticking/tickinglaw03.ThreadRanked", spec := "threadRanked", unfollowed := true, recurses := true, plainKeys := false, apart := false, narrowed := true }
def ThreadRankedUptoSaid : Prop := threadRankedUptoRow.holds Try.pinned (OpenSpec.upto threadRankedSpec)

/-- 'tickinglaw03.ThreadFamilies', WHERE WHAT IT READS IS OF BULK AT MOST 1048576: true; the input reads as it did. -/
def threadFamiliesUptoRow : OpenClaim := { program := "ytagdbadljcongaa", sum := "534207faf23d230f37169e40950f6aa9f408a04f1c61d323dbd9d65bca76ea8e", func := "ticking/tickinglaw03.ThreadFamilies", spec := "threadFamilies", unfollowed := true, recurses := true, plainKeys := false, apart := false, narrowed := true }
def ThreadFamiliesUptoSaid : Prop := threadFamiliesUptoRow.holds Try.pinned (OpenSpec.upto threadFamiliesSpec)

/-- 'tickinglaw03.ThreadSparse', WHERE WHAT IT READS IS OF BULK AT MOST 1048576: true; the input reads as it did. -/
def threadSparseUptoRow : OpenClaim := { program := "ytagdbadljcongaa", sum := "534207faf23d230f37169e40950f6aa9f408a04f1c61d323dbd9d65bca76ea8e", func := "ticking/tickinglaw03.ThreadSparse", spec := "threadSparse", unfollowed := true, recurses := true, plainKeys := false, apart := false, narrowed := true }
def ThreadSparseUptoSaid : Prop := threadSparseUptoRow.holds Try.pinned (OpenSpec.upto threadSparseSpec)

/-- 'tickinglaw03.ThreadOwn', WHERE WHAT IT READS IS OF BULK AT MOST 1048576: true; the input reads as it did. -/
def threadOwnUptoRow : OpenClaim := { program := "ytagdbadljcongaa", sum := "534207faf23d230f37169e40950f6aa9f408a04f1c61d323dbd9d65bca76ea8e", func := "ticking/tickinglaw03.ThreadOwn", spec := "threadOwn", unfollowed := true, recurses := true, plainKeys := false, apart := false, narrowed := true }
def ThreadOwnUptoSaid : Prop := threadOwnUptoRow.holds Try.pinned (OpenSpec.upto threadOwnSpec)

end Rows
end Go.Proofs.Ytagdbadljcongaa
