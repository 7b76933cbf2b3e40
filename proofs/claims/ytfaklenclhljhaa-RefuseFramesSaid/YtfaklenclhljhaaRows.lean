/-
  No cell of these rows narrows 'for every input' (looked for: loops, veiled, ifaces, maps, wideKeys, modest, calm, conditions, laid).
  DERIVED. THE GIVEN ROWS OF THIS SEAT. 7 by the template 'for every input the law returns true; each argument reads behind the call as it read before'; 0 by the template 'total and deterministic' (their statements: YtfaklenclhljhaaTotals.lean).
  GIVEN WITH THE SEED: the statements are not yours to turn. If you find one false, say at which input.
  Laid BY PROGRAM, IN A SANDBOX (cutbox-rows.mjs): the forced cells as the released guide's own fill.sh prints them over the translation fc19a55fee624531… (all of the seat's roots in one cut). By AI agents, Wed Nov 11 2026. No macro, syntax, notation, axiom, sorry.
-/
import Derived.Test.YtfaklenclhljhaaChecked
import GoSem.Claim
import GoSem.ClaimJoined
import GoSem.ClaimMapViews
import Derived.JoinedTies
import Derived.KernelRfl
namespace Go.Proofs.Ytfaklenclhljhaa
/- THE CELL 'sum', in the pinned program and in every row, IS THE sha256 OF THE DUMP (.gsa) THAT YtfaklenclhljhaaProg.lean LOADS. Nothing in Lean hashes anything: it is a label: what it is worth is what the hold of that sum in a sandbox is worth. -/
noncomputable def Try.pinned : Pinned := { name := "ytfaklenclhljhaa", sum := "fc19a55fee624531700b2f76a0e21d7d19b942b9a83b31ce185e6314178d2fc1", checked := Try.checked }
namespace Rows
def none {H : Type} : Left H := { results := [], args := [] }

/-- 'gunwalelaw22.PlainWrites': WHATEVER THE INPUT: true; the input reads as it did. -/
def plainWritesSpec : ChangeSpec := { name := "plainWrites", fn := fun _ => fun
  | [d1, d2] => { results := [.lit (.bool true)], args := [d1, d2] }
  | _ => none }
def plainWritesRow : OpenClaim := { program := "ytfaklenclhljhaa", sum := "fc19a55fee624531700b2f76a0e21d7d19b942b9a83b31ce185e6314178d2fc1", func := "gunwale/gunwalelaw22.PlainWrites", spec := "plainWrites", apart := false }
def PlainWritesSaid : Prop := plainWritesRow.holds Try.pinned (OpenSpec.ofChange plainWritesSpec)

/-- ITS FALSE NEIGHBOUR: 'it returns false'. Refute it at one input. -/
def plainWritesWrong : ChangeSpec := { name := "plainWrites", fn := fun _ => fun
  | [d1, d2] => { results := [.lit (.bool false)], args := [d1, d2] }
  | _ => none }
def PlainWritesWrongFalsely : Prop := plainWritesRow.holds Try.pinned (OpenSpec.ofChange plainWritesWrong)

/-- 'gunwalelaw22.PlainReads': WHATEVER THE INPUT: true; the input reads as it did. -/
def plainReadsSpec : ChangeSpec := { name := "plainReads", fn := fun _ => fun
  | [d1, d2] => { results := [.lit (.bool true)], args := [d1, d2] }
  | _ => none }
def plainReadsRow : OpenClaim := { program := "ytfaklenclhljhaa", sum := "fc19a55fee624531700b2f76a0e21d7d19b942b9a83b31ce185e6314178d2fc1", func := "gunwale/gunwalelaw22.PlainReads", spec := "plainReads", apart := false }
def PlainReadsSaid : Prop := plainReadsRow.holds Try.pinned (OpenSpec.ofChange plainReadsSpec)

/-- ITS FALSE NEIGHBOUR: 'it returns false'. Refute it at one input. -/
def plainReadsWrong : ChangeSpec := { name := "plainReads", fn := fun _ => fun
  | [d1, d2] => { results := [.lit (.bool false)], args := [d1, d2] }
  | _ => none }
def PlainReadsWrongFalsely : Prop := plainReadsRow.holds Try.pinned (OpenSpec.ofChange plainReadsWrong)

/-- 'gunwalelaw22.PlainBack': WHATEVER THE INPUT: true; the input reads as it did. -/
def plainBackSpec : ChangeSpec := { name := "plainBack", fn := fun _ => fun
  | [d1, d2, d3] => { results := [.lit (.bool true)], args := [d1, d2, d3] }
  | _ => none }
def plainBackRow : OpenClaim := { program := "ytfaklenclhljhaa", sum := "fc19a55fee624531700b2f76a0e21d7d19b942b9a83b31ce185e6314178d2fc1", func := "gunwale/gunwalelaw22.PlainBack", spec := "plainBack", apart := false }
def PlainBackSaid : Prop := plainBackRow.holds Try.pinned (OpenSpec.ofChange plainBackSpec)

/-- ITS FALSE NEIGHBOUR: 'it returns false'. Refute it at one input. -/
def plainBackWrong : ChangeSpec := { name := "plainBack", fn := fun _ => fun
  | [d1, d2, d3] => { results := [.lit (.bool false)], args := [d1, d2, d3] }
  | _ => none }
def PlainBackWrongFalsely : Prop := plainBackRow.holds Try.pinned (OpenSpec.ofChange plainBackWrong)

/-- 'gunwalelaw26.RefuseWrites': WHATEVER THE INPUT: true; the input reads as it did. -/
def refuseWritesSpec : ChangeSpec := { name := "refuseWrites", fn := fun _ => fun
  | [d1, d2] => { results := [.lit (.bool true)], args := [d1, d2] }
  | _ => none }
def refuseWritesRow : OpenClaim := { program := "ytfaklenclhljhaa", sum := "fc19a55fee624531700b2f76a0e21d7d19b942b9a83b31ce185e6314178d2fc1", func := "gunwale/gunwalelaw26.RefuseWrites", spec := "refuseWrites", apart := false }
def RefuseWritesSaid : Prop := refuseWritesRow.holds Try.pinned (OpenSpec.ofChange refuseWritesSpec)

/-- ITS FALSE NEIGHBOUR: 'it returns false'. Refute it at one input. -/
def refuseWritesWrong : ChangeSpec := { name := "refuseWrites", fn := fun _ => fun
  | [d1, d2] => { results := [.lit (.bool false)], args := [d1, d2] }
  | _ => none }
def RefuseWritesWrongFalsely : Prop := refuseWritesRow.holds Try.pinned (OpenSpec.ofChange refuseWritesWrong)

/-- 'gunwalelaw26.RefuseFrames': WHATEVER THE INPUT: true; the input reads as it did. -/
def refuseFramesSpec : ChangeSpec := { name := "refuseFrames", fn := fun _ => fun
  | [d1, d2, d3] => { results := [.lit (.bool true)], args := [d1, d2, d3] }
  | _ => none }
def refuseFramesRow : OpenClaim := { program := "ytfaklenclhljhaa", sum := "fc19a55fee624531700b2f76a0e21d7d19b942b9a83b31ce185e6314178d2fc1", func := "gunwale/gunwalelaw26.RefuseFrames", spec := "refuseFrames", apart := false }
def RefuseFramesSaid : Prop := refuseFramesRow.holds Try.pinned (OpenSpec.ofChange refuseFramesSpec)

/-- ITS FALSE NEIGHBOUR: 'it returns false'. Refute it at one input. -/
def refuseFramesWrong : ChangeSpec := { name := "refuseFrames", fn := fun _ => fun
  | [d1, d2, d3] => { results := [.lit (.bool false)], args := [d1, d2, d3] }
  | _ => none }
def RefuseFramesWrongFalsely : Prop := refuseFramesRow.holds Try.pinned (OpenSpec.ofChange refuseFramesWrong)

/-- 'gunwalelaw26.RefuseReads': WHATEVER THE INPUT: true; the input reads as it did. -/
def refuseReadsSpec : ChangeSpec := { name := "refuseReads", fn := fun _ => fun
  | [d1, d2] => { results := [.lit (.bool true)], args := [d1, d2] }
  | _ => none }
def refuseReadsRow : OpenClaim := { program := "ytfaklenclhljhaa", sum := "fc19a55fee624531700b2f76a0e21d7d19b942b9a83b31ce185e6314178d2fc1", func := "gunwale/gunwalelaw26.RefuseReads", spec := "refuseReads", apart := false }
def RefuseReadsSaid : Prop := refuseReadsRow.holds Try.pinned (OpenSpec.ofChange refuseReadsSpec)

/-- ITS FALSE NEIGHBOUR: 'it returns false'. Refute it at one input. -/
def refuseReadsWrong : ChangeSpec := { name := "refuseReads", fn := fun _ => fun
  | [d1, d2] => { results := [.lit (.bool false)], args := [d1, d2] }
  | _ => none }
def RefuseReadsWrongFalsely : Prop := refuseReadsRow.holds Try.pinned (OpenSpec.ofChange refuseReadsWrong)

/-- 'gunwalelaw26.RefuseBack': WHATEVER THE INPUT: true; the input reads as it did. -/
def refuseBackSpec : ChangeSpec := { name := "refuseBack", fn := fun _ => fun
  | [d1, d2, d3] => { results := [.lit (.bool true)], args := [d1, d2, d3] }
  | _ => none }
def refuseBackRow : OpenClaim := { program := "ytfaklenclhljhaa", sum := "fc19a55fee624531700b2f76a0e21d7d19b942b9a83b31ce185e6314178d2fc1", func := "gunwale/gunwalelaw26.RefuseBack", spec := "refuseBack", apart := false }
def RefuseBackSaid : Prop := refuseBackRow.holds Try.pinned (OpenSpec.ofChange refuseBackSpec)

/-- ITS FALSE NEIGHBOUR: 'it returns false'. Refute it at one input. -/
def refuseBackWrong : ChangeSpec := { name := "refuseBack", fn := fun _ => fun
  | [d1, d2, d3] => { results := [.lit (.bool false)], args := [d1, d2, d3] }
  | _ => none }
def RefuseBackWrongFalsely : Prop := refuseBackRow.holds Try.pinned (OpenSpec.ofChange refuseBackWrong)

/- THE SECOND FORM. 'bulk': how many values and letters a reading holds, each counted each time it is reached (what is shared counts as often as it is met; a slice's spare places count too). A statement '..UptoSaid' is the law's where the arguments, and the package variables that the reading takes, are together of bulk at most 1048576: NARROWER than '..Said'. Prove '..Said' where nothing that the law and all that it calls make is longer than what came in: it says more and counts as full. Else prove '..UptoSaid'. A law counts once. -/
mutual
def uptoBulk {H : Type} : DataW H → Nat
  | .lit (.string bytes) => bytes.length + 1
  | .lit _ => 1
  | .nil => 1
  | .ptr d => uptoBulk d + 1
  | .slice elems spare => uptoBulkAll elems + uptoBulkAll spare + 1
  | .agg parts => uptoBulkAll parts + 1
  | .iface _ d => uptoBulk d + 1
  | .map entries => uptoBulkEntries entries + 1
  | .held _ => 1
def uptoBulkAll {H : Type} : List (DataW H) → Nat
  | [] => 0
  | d :: r => uptoBulk d + uptoBulkAll r
def uptoBulkEntries {H : Type} : List (Lit × DataW H) → Nat
  | [] => 0
  | x :: r => uptoBulkEntry x + uptoBulkEntries r
def uptoBulkEntry {H : Type} : Lit × DataW H → Nat
  | (.string bytes, d) => bytes.length + uptoBulk d + 1
  | (_, d) => uptoBulk d + 1
 end
def uptoSmall : (H : Type) → List (DataW H) → Bool := fun _ ds => decide (uptoBulkAll ds ≤ 1048576)
def OpenSpec.upto (s : _root_.Go.ChangeSpec) : _root_.Go.OpenSpec := { _root_.Go.OpenSpec.ofChange s with cond := some uptoSmall }

/-- 'gunwalelaw22.PlainWrites', WHERE WHAT IT READS IS OF BULK AT MOST 1048576: true; the input reads as it did. -/
def plainWritesUptoRow : OpenClaim := { program := "ytfaklenclhljhaa", sum := "fc19a55fee624531700b2f76a0e21d7d19b942b9a83b31ce185e6314178d2fc1", func := "gunwale/gunwalelaw22.PlainWrites", spec := "plainWrites", apart := false, narrowed := true }
def PlainWritesUptoSaid : Prop := plainWritesUptoRow.holds Try.pinned (OpenSpec.upto plainWritesSpec)

/-- 'gunwalelaw22.PlainReads', WHERE WHAT IT READS IS OF BULK AT MOST 1048576: true; the input reads as it did. -/
def plainReadsUptoRow : OpenClaim := { program := "ytfaklenclhljhaa", sum := "fc19a55fee624531700b2f76a0e21d7d19b942b9a83b31ce185e6314178d2fc1", func := "gunwale/gunwalelaw22.PlainReads", spec := "plainReads", apart := false, narrowed := true }
def PlainReadsUptoSaid : Prop := plainReadsUptoRow.holds Try.pinned (OpenSpec.upto plainReadsSpec)

/-- 'gunwalelaw22.PlainBack', WHERE WHAT IT READS IS OF BULK AT MOST 1048576: true; the input reads as it did. -/
def plainBackUptoRow : OpenClaim := { program := "ytfaklenclhljhaa", sum := "fc19a55fee624531700b2f76a0e21d7d19b942b9a83b31ce185e6314178d2fc1", func := "gunwale/gunwalelaw22.PlainBack", spec := "plainBack", apart := false, narrowed := true }
def PlainBackUptoSaid : Prop := plainBackUptoRow.holds Try.pinned (OpenSpec.upto plainBackSpec)

/-- 'gunwalelaw26.RefuseWrites', WHERE WHAT IT READS IS OF BULK AT MOST 1048576: true; the input reads as it did. -/
def refuseWritesUptoRow : OpenClaim := { program := "ytfaklenclhljhaa", sum := "fc19a55fee624531700b2f76a0e21d7d19b942b9a83b31ce185e6314178d2fc1", func := "gunwale/gunwalelaw26.RefuseWrites", spec := "refuseWrites", apart := false, narrowed := true }
def RefuseWritesUptoSaid : Prop := refuseWritesUptoRow.holds Try.pinned (OpenSpec.upto refuseWritesSpec)

/-- 'gunwalelaw26.RefuseFrames', WHERE WHAT IT READS IS OF BULK AT MOST 1048576: true; the input reads as it did. -/
def refuseFramesUptoRow : OpenClaim := { program := "ytfaklenclhljhaa", sum := "fc19a55fee624531700b2f76a0e21d7d19b942b9a83b31ce185e6314178d2fc1", func := "gunwale/gunwalelaw26.RefuseFrames", spec := "refuseFrames", apart := false, narrowed := true }
def RefuseFramesUptoSaid : Prop := refuseFramesUptoRow.holds Try.pinned (OpenSpec.upto refuseFramesSpec)

/-- 'gunwalelaw26.RefuseReads', WHERE WHAT IT READS IS OF BULK AT MOST 1048576: true; the input reads as it did. -/
def refuseReadsUptoRow : OpenClaim := { program := "ytfaklenclhljhaa", sum := "fc19a55fee624531700b2f76a0e21d7d19b942b9a83b31ce185e6314178d2fc1", func := "gunwale/gunwalelaw26.RefuseReads", spec := "refuseReads", apart := false, narrowed := true }
def RefuseReadsUptoSaid : Prop := refuseReadsUptoRow.holds Try.pinned (OpenSpec.upto refuseReadsSpec)

/-- 'gunwalelaw26.RefuseBack', WHERE WHAT IT READS IS OF BULK AT MOST 1048576: true; the input reads as it did. -/
def refuseBackUptoRow : OpenClaim := { program := "ytfaklenclhljhaa", sum := "fc19a55fee624531700b2f76a0e21d7d19b942b9a83b31ce185e6314178d2fc1", func := "gunwale/gunwalelaw26.RefuseBack", spec := "refuseBack", apart := false, narrowed := true }
def RefuseBackUptoSaid : Prop := refuseBackUptoRow.holds Try.pinned (OpenSpec.upto refuseBackSpec)

end Rows
end Go.Proofs.Ytfaklenclhljhaa
