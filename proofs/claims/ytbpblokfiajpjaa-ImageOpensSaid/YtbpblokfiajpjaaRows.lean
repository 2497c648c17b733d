/-
  No cell of these rows narrows 'for every input' (looked for: loops, veiled, ifaces, maps, wideKeys, modest, calm, conditions, laid).
  DERIVED. THE GIVEN ROWS OF THIS SEAT. 10 by the template 'for every input the law returns true; each argument reads behind the call as it read before'; 0 by the template 'total and deterministic' (their statements: YtbpblokfiajpjaaTotals.lean).
  GIVEN WITH THE SEED: the statements are not yours to turn. If you find one false, say at which input.
  Laid BY PROGRAM, IN A SANDBOX (cutbox-rows.mjs): the forced cells as the released guide's own fill.sh prints them over the translation 7ff12d34fd96df5c… (all of the seat's roots in one cut). By AI agents, Wed Nov 11 2026. No macro, syntax, notation, axiom, sorry.
-/
import Derived.Test.YtbpblokfiajpjaaChecked
import GoSem.Claim
import GoSem.ClaimJoined
import GoSem.ClaimMapViews
import Derived.JoinedTies
import Derived.KernelRfl
namespace Go.Proofs.Ytbpblokfiajpjaa
/- THE CELL 'sum', in the pinned program and in every row, IS THE sha256 OF THE DUMP (.gsa) THAT YtbpblokfiajpjaaProg.lean LOADS. Nothing in Lean hashes anything: it is a label: what it is worth is what the hold of that sum in a sandbox is worth. -/
noncomputable def Try.pinned : Pinned := { name := "ytbpblokfiajpjaa", sum := "7ff12d34fd96df5c20ed6148cae5da4a3984e258802d1652818fb8cfae2650ab", checked := Try.checked }
namespace Rows
def none {H : Type} : Left H := { results := [], args := [] }

/-- 'stackyardlaw.BucketSays': WHATEVER THE INPUT: true; the input reads as it did. -/
def bucketSaysSpec : ChangeSpec := { name := "bucketSays", fn := fun _ => fun
  | [d1, d2, d3] => { results := [.lit (.bool true)], args := [d1, d2, d3] }
  | _ => none }
def bucketSaysRow : OpenClaim := { program := "ytbpblokfiajpjaa", sum := "7ff12d34fd96df5c20ed6148cae5da4a3984e258802d1652818fb8cfae2650ab", func := "stackyard/stackyardlaw.BucketSays", spec := "bucketSays", apart := false }
def BucketSaysSaid : Prop := bucketSaysRow.holds Try.pinned (OpenSpec.ofChange bucketSaysSpec)

/-- ITS FALSE NEIGHBOUR: 'it returns false'. Refute it at one input. -/
def bucketSaysWrong : ChangeSpec := { name := "bucketSays", fn := fun _ => fun
  | [d1, d2, d3] => { results := [.lit (.bool false)], args := [d1, d2, d3] }
  | _ => none }
def BucketSaysWrongFalsely : Prop := bucketSaysRow.holds Try.pinned (OpenSpec.ofChange bucketSaysWrong)

/-- 'stackyardlaw.SumSays': WHATEVER THE INPUT: true; the input reads as it did. -/
def sumSaysSpec : ChangeSpec := { name := "sumSays", fn := fun _ => fun
  | [d1, d2] => { results := [.lit (.bool true)], args := [d1, d2] }
  | _ => none }
def sumSaysRow : OpenClaim := { program := "ytbpblokfiajpjaa", sum := "7ff12d34fd96df5c20ed6148cae5da4a3984e258802d1652818fb8cfae2650ab", func := "stackyard/stackyardlaw.SumSays", spec := "sumSays", apart := false }
def SumSaysSaid : Prop := sumSaysRow.holds Try.pinned (OpenSpec.ofChange sumSaysSpec)

/-- ITS FALSE NEIGHBOUR: 'it returns false'. Refute it at one input. -/
def sumSaysWrong : ChangeSpec := { name := "sumSays", fn := fun _ => fun
  | [d1, d2] => { results := [.lit (.bool false)], args := [d1, d2] }
  | _ => none }
def SumSaysWrongFalsely : Prop := sumSaysRow.holds Try.pinned (OpenSpec.ofChange sumSaysWrong)

/-- 'stackyardlaw.FormSays': WHATEVER THE INPUT: true; the input reads as it did. -/
def formSaysSpec : ChangeSpec := { name := "formSays", fn := fun _ => fun
  | [d1, d2, d3, d4] => { results := [.lit (.bool true)], args := [d1, d2, d3, d4] }
  | _ => none }
def formSaysRow : OpenClaim := { program := "ytbpblokfiajpjaa", sum := "7ff12d34fd96df5c20ed6148cae5da4a3984e258802d1652818fb8cfae2650ab", func := "stackyard/stackyardlaw.FormSays", spec := "formSays", inPlace := ["internal/abi.NoEscape", "internal/bytealg.MakeNoZero"], apart := false }
def FormSaysSaid : Prop := formSaysRow.holds Try.pinned (OpenSpec.ofChange formSaysSpec)

/-- ITS FALSE NEIGHBOUR: 'it returns false'. Refute it at one input. -/
def formSaysWrong : ChangeSpec := { name := "formSays", fn := fun _ => fun
  | [d1, d2, d3, d4] => { results := [.lit (.bool false)], args := [d1, d2, d3, d4] }
  | _ => none }
def FormSaysWrongFalsely : Prop := formSaysRow.holds Try.pinned (OpenSpec.ofChange formSaysWrong)

/-- 'stackyardtop.TopSpeed': WHATEVER THE INPUT: true; the input reads as it did. -/
def topSpeedSpec : ChangeSpec := { name := "topSpeed", fn := fun _ => fun
  | [d1, d2, d3] => { results := [.lit (.bool true)], args := [d1, d2, d3] }
  | _ => none }
def topSpeedRow : OpenClaim := { program := "ytbpblokfiajpjaa", sum := "7ff12d34fd96df5c20ed6148cae5da4a3984e258802d1652818fb8cfae2650ab", func := "stackyard/stackyardtop.TopSpeed", spec := "topSpeed", apart := false }
def TopSpeedSaid : Prop := topSpeedRow.holds Try.pinned (OpenSpec.ofChange topSpeedSpec)

/-- ITS FALSE NEIGHBOUR: 'it returns false'. Refute it at one input. -/
def topSpeedWrong : ChangeSpec := { name := "topSpeed", fn := fun _ => fun
  | [d1, d2, d3] => { results := [.lit (.bool false)], args := [d1, d2, d3] }
  | _ => none }
def TopSpeedWrongFalsely : Prop := topSpeedRow.holds Try.pinned (OpenSpec.ofChange topSpeedWrong)

/-- 'stackyardlaw.DevSays': WHATEVER THE INPUT: true; the input reads as it did. -/
def devSaysSpec : ChangeSpec := { name := "devSays", fn := fun _ => fun
  | [d1, d2, d3] => { results := [.lit (.bool true)], args := [d1, d2, d3] }
  | _ => none }
def devSaysRow : OpenClaim := { program := "ytbpblokfiajpjaa", sum := "7ff12d34fd96df5c20ed6148cae5da4a3984e258802d1652818fb8cfae2650ab", func := "stackyard/stackyardlaw.DevSays", spec := "devSays", inPlace := ["internal/abi.NoEscape", "internal/bytealg.MakeNoZero"], apart := false }
def DevSaysSaid : Prop := devSaysRow.holds Try.pinned (OpenSpec.ofChange devSaysSpec)

/-- ITS FALSE NEIGHBOUR: 'it returns false'. Refute it at one input. -/
def devSaysWrong : ChangeSpec := { name := "devSays", fn := fun _ => fun
  | [d1, d2, d3] => { results := [.lit (.bool false)], args := [d1, d2, d3] }
  | _ => none }
def DevSaysWrongFalsely : Prop := devSaysRow.holds Try.pinned (OpenSpec.ofChange devSaysWrong)

/-- 'stackyardtop.TopSum': WHATEVER THE INPUT: true; the input reads as it did. -/
def topSumSpec : ChangeSpec := { name := "topSum", fn := fun _ => fun
  | [d1, d2, d3, d4] => { results := [.lit (.bool true)], args := [d1, d2, d3, d4] }
  | _ => none }
def topSumRow : OpenClaim := { program := "ytbpblokfiajpjaa", sum := "7ff12d34fd96df5c20ed6148cae5da4a3984e258802d1652818fb8cfae2650ab", func := "stackyard/stackyardtop.TopSum", spec := "topSum", apart := false }
def TopSumSaid : Prop := topSumRow.holds Try.pinned (OpenSpec.ofChange topSumSpec)

/-- ITS FALSE NEIGHBOUR: 'it returns false'. Refute it at one input. -/
def topSumWrong : ChangeSpec := { name := "topSum", fn := fun _ => fun
  | [d1, d2, d3, d4] => { results := [.lit (.bool false)], args := [d1, d2, d3, d4] }
  | _ => none }
def TopSumWrongFalsely : Prop := topSumRow.holds Try.pinned (OpenSpec.ofChange topSumWrong)

/-- 'stackyardlaw.FormReads': WHATEVER THE INPUT: true; the input reads as it did. -/
def formReadsSpec : ChangeSpec := { name := "formReads", fn := fun _ => fun
  | [d1, d2, d3] => { results := [.lit (.bool true)], args := [d1, d2, d3] }
  | _ => none }
def formReadsRow : OpenClaim := { program := "ytbpblokfiajpjaa", sum := "7ff12d34fd96df5c20ed6148cae5da4a3984e258802d1652818fb8cfae2650ab", func := "stackyard/stackyardlaw.FormReads", spec := "formReads", inPlace := ["internal/abi.NoEscape", "internal/bytealg.MakeNoZero"], apart := false }
def FormReadsSaid : Prop := formReadsRow.holds Try.pinned (OpenSpec.ofChange formReadsSpec)

/-- ITS FALSE NEIGHBOUR: 'it returns false'. Refute it at one input. -/
def formReadsWrong : ChangeSpec := { name := "formReads", fn := fun _ => fun
  | [d1, d2, d3] => { results := [.lit (.bool false)], args := [d1, d2, d3] }
  | _ => none }
def FormReadsWrongFalsely : Prop := formReadsRow.holds Try.pinned (OpenSpec.ofChange formReadsWrong)

/-- 'stackyardlaw.ImageSays': WHATEVER THE INPUT: true; the input reads as it did. -/
def imageSaysSpec : ChangeSpec := { name := "imageSays", fn := fun _ => fun
  | [d1, d2, d3] => { results := [.lit (.bool true)], args := [d1, d2, d3] }
  | _ => none }
def imageSaysRow : OpenClaim := { program := "ytbpblokfiajpjaa", sum := "7ff12d34fd96df5c20ed6148cae5da4a3984e258802d1652818fb8cfae2650ab", func := "stackyard/stackyardlaw.ImageSays", spec := "imageSays", inPlace := ["internal/abi.NoEscape", "internal/bytealg.MakeNoZero"], apart := false }
def ImageSaysSaid : Prop := imageSaysRow.holds Try.pinned (OpenSpec.ofChange imageSaysSpec)

/-- ITS FALSE NEIGHBOUR: 'it returns false'. Refute it at one input. -/
def imageSaysWrong : ChangeSpec := { name := "imageSays", fn := fun _ => fun
  | [d1, d2, d3] => { results := [.lit (.bool false)], args := [d1, d2, d3] }
  | _ => none }
def ImageSaysWrongFalsely : Prop := imageSaysRow.holds Try.pinned (OpenSpec.ofChange imageSaysWrong)

/-- 'stackyardtop.TopDev': WHATEVER THE INPUT: true; the input reads as it did. -/
def topDevSpec : ChangeSpec := { name := "topDev", fn := fun _ => fun
  | [d1, d2, d3] => { results := [.lit (.bool true)], args := [d1, d2, d3] }
  | _ => none }
def topDevRow : OpenClaim := { program := "ytbpblokfiajpjaa", sum := "7ff12d34fd96df5c20ed6148cae5da4a3984e258802d1652818fb8cfae2650ab", func := "stackyard/stackyardtop.TopDev", spec := "topDev", inPlace := ["internal/abi.NoEscape", "internal/bytealg.MakeNoZero"], apart := false }
def TopDevSaid : Prop := topDevRow.holds Try.pinned (OpenSpec.ofChange topDevSpec)

/-- ITS FALSE NEIGHBOUR: 'it returns false'. Refute it at one input. -/
def topDevWrong : ChangeSpec := { name := "topDev", fn := fun _ => fun
  | [d1, d2, d3] => { results := [.lit (.bool false)], args := [d1, d2, d3] }
  | _ => none }
def TopDevWrongFalsely : Prop := topDevRow.holds Try.pinned (OpenSpec.ofChange topDevWrong)

/-- 'stackyardlaw.ImageOpens': WHATEVER THE INPUT: true; the input reads as it did. -/
def imageOpensSpec : ChangeSpec := { name := "imageOpens", fn := fun _ => fun
  | [d1, d2] => { results := [.lit (.bool true)], args := [d1, d2] }
  | _ => none }
def imageOpensRow : OpenClaim := { program := "ytbpblokfiajpjaa", sum := "7ff12d34fd96df5c20ed6148cae5da4a3984e258802d1652818fb8cfae2650ab", func := "stackyard/stackyardlaw.ImageOpens", spec := "imageOpens", inPlace := ["internal/abi.NoEscape", "internal/bytealg.MakeNoZero"], apart := false }
def ImageOpensSaid : Prop := imageOpensRow.holds Try.pinned (OpenSpec.ofChange imageOpensSpec)

/-- ITS FALSE NEIGHBOUR: 'it returns false'. Refute it at one input. -/
def imageOpensWrong : ChangeSpec := { name := "imageOpens", fn := fun _ => fun
  | [d1, d2] => { results := [.lit (.bool false)], args := [d1, d2] }
  | _ => none }
def ImageOpensWrongFalsely : Prop := imageOpensRow.holds Try.pinned (OpenSpec.ofChange imageOpensWrong)

/- THE SECOND FORM. 'bulk': how many values and letters a reading holds, each counted each time it is reached (what is shared counts as often as it is met; a slice's spare places count too). A statement '..UptoSaid' is the law's where the arguments, and the package variables that the reading takes, are together of bulk at most 1048576: NARROWER than '..Said'. Prove '..Said' where nothing that the law and all that it calls make is longer than what came in: it says more and counts as full. Else prove '..UptoSaid'. A law counts once. -/
mutual
def uptoBulk {H : Type} : DataW H → Nat
  | .lit (.string bytes) => bytes.length + 1
  | .lit _ => 1
  | .nil => 1
  | .ptr d => uptoBulk d + 1
  | .slice elems spare => uptoBulkAll elems + uptoBulkAll spare + 1
  | .agg parts => uptoBulkAll parts + 1
  | .iface _ d => uptoBulk d + 1
  | .map entries => uptoBulkEntries entries + 1
  | .held _ => 1
def uptoBulkAll {H : Type} : List (DataW H) → Nat
  | [] => 0
  | d :: r => uptoBulk d + uptoBulkAll r
def uptoBulkEntries {H : Type} : List (Lit × DataW H) → Nat
  | [] => 0
  | x :: r => uptoBulkEntry x + uptoBulkEntries r
def uptoBulkEntry {H : Type} : Lit × DataW H → Nat
  | (.string bytes, d) => bytes.length + uptoBulk d + 1
  | (_, d) => uptoBulk d + 1
 end
def uptoSmall : (H : Type) → List (DataW H) → Bool := fun _ ds => decide (uptoBulkAll ds ≤ 1048576)
def OpenSpec.upto (s : _root_.Go.ChangeSpec) : _root_.Go.OpenSpec := { _root_.Go.OpenSpec.ofChange s with cond := some uptoSmall }

/-- 'stackyardlaw.BucketSays', WHERE WHAT IT READS IS OF BULK AT MOST 1048576: true; the input reads as it did. -/
def bucketSaysUptoRow : OpenClaim := { program := "ytbpblokfiajpjaa", sum := "7ff12d34fd96df5c20ed6148cae5da4a3984e258802d1652818fb8cfae2650ab", func := "stackyard/stackyardlaw.BucketSays", spec := "bucketSays", apart := false, narrowed := true }
def BucketSaysUptoSaid : Prop := bucketSaysUptoRow.holds Try.pinned (OpenSpec.upto bucketSaysSpec)

/-- 'stackyardlaw.SumSays', WHERE WHAT IT READS IS OF BULK AT MOST 1048576: true; the input reads as it did. -/
def sumSaysUptoRow : OpenClaim := { program := "ytbpblokfiajpjaa", sum := "7ff12d34fd96df5c20ed6148cae5da4a3984e258802d1652818fb8cfae2650ab", func := "stackyard/stackyardlaw.SumSays", spec := "sumSays", apart := false, narrowed := true }
def SumSaysUptoSaid : Prop := sumSaysUptoRow.holds Try.pinned (OpenSpec.upto sumSaysSpec)

/-- 'stackyardlaw.FormSays', WHERE WHAT IT READS IS OF BULK AT MOST 1048576: true; the input reads as it did. -/
def formSaysUptoRow : OpenClaim := { program := "ytbpblokfiajpjaa", sum := "7ff12d34fd96df5c20ed6148cae5da4a3984e258802d1652818fb8cfae2650ab", func := "stackyard/stackyardlaw.FormSays", spec := "formSays", inPlace := ["internal/abi.NoEscape", "internal/bytealg.MakeNoZero"], apart := false, narrowed := true }
def FormSaysUptoSaid : Prop := formSaysUptoRow.holds Try.pinned (OpenSpec.upto formSaysSpec)

/-- 'stackyardtop.TopSpeed', WHERE WHAT IT READS IS OF BULK AT MOST 1048576: true; the input reads as it did. -/
def topSpeedUptoRow : OpenClaim := { program := "ytbpblokfiajpjaa", sum := "7ff12d34fd96df5c20ed6148cae5da4a3984e258802d1652818fb8cfae2650ab", func := "stackyard/stackyardtop.TopSpeed", spec := "topSpeed", apart := false, narrowed := true }
def TopSpeedUptoSaid : Prop := topSpeedUptoRow.holds Try.pinned (OpenSpec.upto topSpeedSpec)

/-- 'stackyardlaw.DevSays', WHERE WHAT IT READS IS OF BULK AT MOST 1048576: true; the input reads as it did. -/
def devSaysUptoRow : OpenClaim := { program := "ytbpblokfiajpjaa", sum := "7ff12d34fd96df5c20ed6148cae5da4a3984e258802d1652818fb8cfae2650ab", func := "stackyard/stackyardlaw.DevSays", spec := "devSays", inPlace := ["internal/abi.NoEscape", "internal/bytealg.MakeNoZero"], apart := false, narrowed := true }
def DevSaysUptoSaid : Prop := devSaysUptoRow.holds Try.pinned (OpenSpec.upto devSaysSpec)

/-- 'stackyardtop.TopSum', WHERE WHAT IT READS IS OF BULK AT MOST 1048576: true; the input reads as it did. -/
def topSumUptoRow : OpenClaim := { program := "ytbpblokfiajpjaa", sum := "7ff12d34fd96df5c20ed6148cae5da4a3984e258802d1652818fb8cfae2650ab", func := "stackyard/stackyardtop.TopSum", spec := "topSum", apart := false, narrowed := true }
def TopSumUptoSaid : Prop := topSumUptoRow.holds Try.pinned (OpenSpec.upto topSumSpec)

/-- 'stackyardlaw.FormReads', WHERE WHAT IT READS IS OF BULK AT MOST 1048576: true; the input reads as it did. -/
def formReadsUptoRow : OpenClaim := { program := "ytbpblokfiajpjaa", sum := "7ff12d34fd96df5c20ed6148cae5da4a3984e258802d1652818fb8cfae2650ab", func := "stackyard/stackyardlaw.FormReads", spec := "formReads", inPlace := ["internal/abi.NoEscape", "internal/bytealg.MakeNoZero"], apart := false, narrowed := true }
def FormReadsUptoSaid : Prop := formReadsUptoRow.holds Try.pinned (OpenSpec.upto formReadsSpec)

/-- 'stackyardlaw.ImageSays', WHERE WHAT IT READS IS OF BULK AT MOST 1048576: true; the input reads as it did. -/
def imageSaysUptoRow : OpenClaim := { program := "ytbpblokfiajpjaa", sum := "7ff12d34fd96df5c20ed6148cae5da4a3984e258802d1652818fb8cfae2650ab", func := "stackyard/stackyardlaw.ImageSays", spec := "imageSays", inPlace := ["internal/abi.NoEscape", "internal/bytealg.MakeNoZero"], apart := false, narrowed := true }
def ImageSaysUptoSaid : Prop := imageSaysUptoRow.holds Try.pinned (OpenSpec.upto imageSaysSpec)

/-- 'stackyardtop.TopDev', WHERE WHAT IT READS IS OF BULK AT MOST 1048576: true; the input reads as it did. -/
def topDevUptoRow : OpenClaim := { program := "ytbpblokfiajpjaa", sum := "7ff12d34fd96df5c20ed6148cae5da4a3984e258802d1652818fb8cfae2650ab", func := "stackyard/stackyardtop.TopDev", spec := "topDev", inPlace := ["internal/abi.NoEscape", "internal/bytealg.MakeNoZero"], apart := false, narrowed := true }
def TopDevUptoSaid : Prop := topDevUptoRow.holds Try.pinned (OpenSpec.upto topDevSpec)

/-- 'stackyardlaw.ImageOpens', WHERE WHAT IT READS IS OF BULK AT MOST 1048576: true; the input reads as it did. -/
def imageOpensUptoRow : OpenClaim := { program := "ytbpblokfiajpjaa", sum := "7ff12d34fd96df5c20ed6148cae5da4a3984e258802d1652818fb8cfae2650ab", func := "stackyard/stackyardlaw.ImageOpens", spec := "imageOpens", inPlace := ["internal/abi.NoEscape", "internal/bytealg.MakeNoZero"], apart := false, narrowed := true }
def ImageOpensUptoSaid : Prop := imageOpensUptoRow.holds Try.pinned (OpenSpec.upto imageOpensSpec)

end Rows
end Go.Proofs.Ytbpblokfiajpjaa
