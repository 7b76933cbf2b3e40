/-
  No cell of these rows narrows 'for every input' (looked for: loops, veiled, ifaces, maps, wideKeys, modest, calm, conditions, laid).
  DERIVED. THE GIVEN ROWS OF THIS SEAT. 6 by the template 'for every input the law returns true; each argument reads behind the call as it read before'; 0 by the template 'total and deterministic' (their statements: YtoobcgakainelaaTotals.lean).
  GIVEN WITH THE SEED: the statements are not yours to turn. If you find one false, say at which input.
  Laid BY PROGRAM, IN A SANDBOX (cutbox-rows.mjs): the forced cells as the released guide's own fill.sh prints them over the translation 401c79c26e1549ae… (all of the seat's roots in one cut). By AI agents, Wed Nov 11 2026. No macro, syntax, notation, axiom, sorry.
-/
import Derived.Test.YtoobcgakainelaaChecked
import GoSem.Claim
import GoSem.ClaimJoined
import GoSem.ClaimMapViews
import Derived.JoinedTies
import Derived.KernelRfl
namespace Go.Proofs.Ytoobcgakainelaa
/- THE CELL 'sum', in the pinned program and in every row, IS THE sha256 OF THE DUMP (.gsa) THAT YtoobcgakainelaaProg.lean LOADS. Nothing in Lean hashes anything: it is a label: what it is worth is what the hold of that sum in a sandbox is worth. -/
noncomputable def Try.pinned : Pinned := { name := "ytoobcgakainelaa", sum := "401c79c26e1549aef37aad044cf63ff697fa852238c1567fc1717beae08a5ec8", checked := Try.checked }
namespace Rows
def none {H : Type} : Left H := { results := [], args := [] }

/-- 'gunwalelaw04.TlvCuts': WHATEVER THE INPUT: true; the input reads as it did. -/
def tlvCutsSpec : ChangeSpec := { name := "tlvCuts", fn := fun _ => fun
  | [d1, d2] => { results := [.lit (.bool true)], args := [d1, d2] }
  | _ => none }
def tlvCutsRow : OpenClaim := { program := "ytoobcgakainelaa", sum := "401c79c26e1549aef37aad044cf63ff697fa852238c1567fc1717beae08a5ec8", func := "gunwale/gunwalelaw04.TlvCuts", spec := "tlvCuts", unfollowed := true, recurses := true, apart := false }
def TlvCutsSaid : Prop := tlvCutsRow.holds Try.pinned (OpenSpec.ofChange tlvCutsSpec)

/-- ITS FALSE NEIGHBOUR: 'it returns false'. Refute it at one input. -/
def tlvCutsWrong : ChangeSpec := { name := "tlvCuts", fn := fun _ => fun
  | [d1, d2] => { results := [.lit (.bool false)], args := [d1, d2] }
  | _ => none }
def TlvCutsWrongFalsely : Prop := tlvCutsRow.holds Try.pinned (OpenSpec.ofChange tlvCutsWrong)

/-- 'gunwalelaw04.TlvJoins': WHATEVER THE INPUT: true; the input reads as it did. -/
def tlvJoinsSpec : ChangeSpec := { name := "tlvJoins", fn := fun _ => fun
  | [d1, d2] => { results := [.lit (.bool true)], args := [d1, d2] }
  | _ => none }
def tlvJoinsRow : OpenClaim := { program := "ytoobcgakainelaa", sum := "401c79c26e1549aef37aad044cf63ff697fa852238c1567fc1717beae08a5ec8", func := "gunwale/gunwalelaw04.TlvJoins", spec := "tlvJoins", unfollowed := true, recurses := true, apart := false }
def TlvJoinsSaid : Prop := tlvJoinsRow.holds Try.pinned (OpenSpec.ofChange tlvJoinsSpec)

/-- ITS FALSE NEIGHBOUR: 'it returns false'. Refute it at one input. -/
def tlvJoinsWrong : ChangeSpec := { name := "tlvJoins", fn := fun _ => fun
  | [d1, d2] => { results := [.lit (.bool false)], args := [d1, d2] }
  | _ => none }
def TlvJoinsWrongFalsely : Prop := tlvJoinsRow.holds Try.pinned (OpenSpec.ofChange tlvJoinsWrong)

/-- 'gunwalelaw04.TlvBack': WHATEVER THE INPUT: true; the input reads as it did. -/
def tlvBackSpec : ChangeSpec := { name := "tlvBack", fn := fun _ => fun
  | [d1, d2, d3] => { results := [.lit (.bool true)], args := [d1, d2, d3] }
  | _ => none }
def tlvBackRow : OpenClaim := { program := "ytoobcgakainelaa", sum := "401c79c26e1549aef37aad044cf63ff697fa852238c1567fc1717beae08a5ec8", func := "gunwale/gunwalelaw04.TlvBack", spec := "tlvBack", unfollowed := true, recurses := true, apart := false }
def TlvBackSaid : Prop := tlvBackRow.holds Try.pinned (OpenSpec.ofChange tlvBackSpec)

/-- ITS FALSE NEIGHBOUR: 'it returns false'. Refute it at one input. -/
def tlvBackWrong : ChangeSpec := { name := "tlvBack", fn := fun _ => fun
  | [d1, d2, d3] => { results := [.lit (.bool false)], args := [d1, d2, d3] }
  | _ => none }
def TlvBackWrongFalsely : Prop := tlvBackRow.holds Try.pinned (OpenSpec.ofChange tlvBackWrong)

/-- 'gunwalelaw18.QueueDecodes': WHATEVER THE INPUT: true; the input reads as it did. -/
def queueDecodesSpec : ChangeSpec := { name := "queueDecodes", fn := fun _ => fun
  | [d1, d2] => { results := [.lit (.bool true)], args := [d1, d2] }
  | _ => none }
def queueDecodesRow : OpenClaim := { program := "ytoobcgakainelaa", sum := "401c79c26e1549aef37aad044cf63ff697fa852238c1567fc1717beae08a5ec8", func := "gunwale/gunwalelaw18.QueueDecodes", spec := "queueDecodes", apart := false }
def QueueDecodesSaid : Prop := queueDecodesRow.holds Try.pinned (OpenSpec.ofChange queueDecodesSpec)

/-- ITS FALSE NEIGHBOUR: 'it returns false'. Refute it at one input. -/
def queueDecodesWrong : ChangeSpec := { name := "queueDecodes", fn := fun _ => fun
  | [d1, d2] => { results := [.lit (.bool false)], args := [d1, d2] }
  | _ => none }
def QueueDecodesWrongFalsely : Prop := queueDecodesRow.holds Try.pinned (OpenSpec.ofChange queueDecodesWrong)

/-- 'gunwalelaw18.QueueEncodes': WHATEVER THE INPUT: true; the input reads as it did. -/
def queueEncodesSpec : ChangeSpec := { name := "queueEncodes", fn := fun _ => fun
  | [d1, d2] => { results := [.lit (.bool true)], args := [d1, d2] }
  | _ => none }
def queueEncodesRow : OpenClaim := { program := "ytoobcgakainelaa", sum := "401c79c26e1549aef37aad044cf63ff697fa852238c1567fc1717beae08a5ec8", func := "gunwale/gunwalelaw18.QueueEncodes", spec := "queueEncodes", apart := false }
def QueueEncodesSaid : Prop := queueEncodesRow.holds Try.pinned (OpenSpec.ofChange queueEncodesSpec)

/-- ITS FALSE NEIGHBOUR: 'it returns false'. Refute it at one input. -/
def queueEncodesWrong : ChangeSpec := { name := "queueEncodes", fn := fun _ => fun
  | [d1, d2] => { results := [.lit (.bool false)], args := [d1, d2] }
  | _ => none }
def QueueEncodesWrongFalsely : Prop := queueEncodesRow.holds Try.pinned (OpenSpec.ofChange queueEncodesWrong)

/-- 'gunwalelaw18.QueueBack': WHATEVER THE INPUT: true; the input reads as it did. -/
def queueBackSpec : ChangeSpec := { name := "queueBack", fn := fun _ => fun
  | [d1, d2, d3] => { results := [.lit (.bool true)], args := [d1, d2, d3] }
  | _ => none }
def queueBackRow : OpenClaim := { program := "ytoobcgakainelaa", sum := "401c79c26e1549aef37aad044cf63ff697fa852238c1567fc1717beae08a5ec8", func := "gunwale/gunwalelaw18.QueueBack", spec := "queueBack", unfollowed := true, recurses := true, apart := false }
def QueueBackSaid : Prop := queueBackRow.holds Try.pinned (OpenSpec.ofChange queueBackSpec)

/-- ITS FALSE NEIGHBOUR: 'it returns false'. Refute it at one input. -/
def queueBackWrong : ChangeSpec := { name := "queueBack", fn := fun _ => fun
  | [d1, d2, d3] => { results := [.lit (.bool false)], args := [d1, d2, d3] }
  | _ => none }
def QueueBackWrongFalsely : Prop := queueBackRow.holds Try.pinned (OpenSpec.ofChange queueBackWrong)

/- THE SECOND FORM. 'bulk': how many values and letters a reading holds, each counted each time it is reached (what is shared counts as often as it is met; a slice's spare places count too). A statement '..UptoSaid' is the law's where the arguments, and the package variables that the reading takes, are together of bulk at most 1048576: NARROWER than '..Said'. Prove '..Said' where nothing that the law and all that it calls make is longer than what came in: it says more and counts as full. Else prove '..UptoSaid'. A law counts once. -/
mutual
def uptoBulk {H : Type} : DataW H → Nat
  | .lit (.string bytes) => bytes.length + 1
  | .lit _ => 1
  | .nil => 1
  | .ptr d => uptoBulk d + 1
  | .slice elems spare => uptoBulkAll elems + uptoBulkAll spare + 1
  | .agg parts => uptoBulkAll parts + 1
  | .iface _ d => uptoBulk d + 1
  | .map entries => uptoBulkEntries entries + 1
  | .held _ => 1
def uptoBulkAll {H : Type} : List (DataW H) → Nat
  | [] => 0
  | d :: r => uptoBulk d + uptoBulkAll r
def uptoBulkEntries {H : Type} : List (Lit × DataW H) → Nat
  | [] => 0
  | x :: r => uptoBulkEntry x + uptoBulkEntries r
def uptoBulkEntry {H : Type} : Lit × DataW H → Nat
  | (.string bytes, d) => bytes.length + uptoBulk d + 1
  | (_, d) => uptoBulk d + 1
 end
def uptoSmall : (H : Type) → List (DataW H) → Bool := fun _ ds => decide (uptoBulkAll ds ≤ 1048576)
def OpenSpec.upto (s : _root_.Go.ChangeSpec) : _root_.Go.OpenSpec := { _root_.Go.OpenSpec.ofChange s with cond := some uptoSmall }

/-- 'gunwalelaw04.TlvCuts', WHERE WHAT IT READS IS OF BULK AT MOST 1048576: true; the input reads as it did. -/
def tlvCutsUptoRow : OpenClaim := { program := "ytoobcgakainelaa", sum := "401c79c26e1549aef37aad044cf63ff697fa852238c1567fc1717beae08a5ec8", func := "gunwale/gunwalelaw04.TlvCuts", spec := "tlvCuts", unfollowed := true, recurses := true, apart := false, narrowed := true }
def TlvCutsUptoSaid : Prop := tlvCutsUptoRow.holds Try.pinned (OpenSpec.upto tlvCutsSpec)

/-- 'gunwalelaw04.TlvJoins', WHERE WHAT IT READS IS OF BULK AT MOST 1048576: true; the input reads as it did. -/
def tlvJoinsUptoRow : OpenClaim := { program := "ytoobcgakainelaa", sum := "401c79c26e1549aef37aad044cf63ff697fa852238c1567fc1717beae08a5ec8", func := "gunwale/gunwalelaw04.TlvJoins", spec := "tlvJoins", unfollowed := true, recurses := true, apart := false, narrowed := true }
def TlvJoinsUptoSaid : Prop := tlvJoinsUptoRow.holds Try.pinned (OpenSpec.upto tlvJoinsSpec)

/-- 'gunwalelaw04.TlvBack', WHERE WHAT IT READS IS OF BULK AT MOST 1048576: true; the input reads as it did. -/
def tlvBackUptoRow : OpenClaim := { program := "ytoobcgakainelaa", sum := "401c79c26e1549aef37aad044cf63ff697fa852238c1567fc1717beae08a5ec8", func := "gunwale/gunwalelaw04.TlvBack", spec := "tlvBack", unfollowed := true, recurses := true, apart := false, narrowed := true }
def TlvBackUptoSaid : Prop := tlvBackUptoRow.holds Try.pinned (OpenSpec.upto tlvBackSpec)

/-- 'gunwalelaw18.QueueDecodes', WHERE WHAT IT READS IS OF BULK AT MOST 1048576: true; the input reads as it did. -/
def queueDecodesUptoRow : OpenClaim := { program := "ytoobcgakainelaa", sum := "401c79c26e1549aef37aad044cf63ff697fa852238c1567fc1717beae08a5ec8", func := "gunwale/gunwalelaw18.QueueDecodes", spec := "queueDecodes", apart := false, narrowed := true }
def QueueDecodesUptoSaid : Prop := queueDecodesUptoRow.holds Try.pinned (OpenSpec.upto queueDecodesSpec)

/-- 'gunwalelaw18.QueueEncodes', WHERE WHAT IT READS IS OF BULK AT MOST 1048576: true; the input reads as it did. -/
def queueEncodesUptoRow : OpenClaim := { program := "ytoobcgakainelaa", sum := "401c79c26e1549aef37aad044cf63ff697fa852238c1567fc1717beae08a5ec8", func := "gunwale/gunwalelaw18.QueueEncodes", spec := "queueEncodes", apart := false, narrowed := true }
def QueueEncodesUptoSaid : Prop := queueEncodesUptoRow.holds Try.pinned (OpenSpec.upto queueEncodesSpec)

/-- 'gunwalelaw18.QueueBack', WHERE WHAT IT READS IS OF BULK AT MOST 1048576: true; the input reads as it did. -/
def queueBackUptoRow : OpenClaim := { program := "ytoobcgakainelaa", sum := "401c79c26e1549aef37aad044cf63ff697fa852238c1567fc1717beae08a5ec8", func := "gunwale/gunwalelaw18.QueueBack", spec := "queueBack", unfollowed := true, recurses := true, apart := false, narrowed := true }
def QueueBackUptoSaid : Prop := queueBackUptoRow.holds Try.pinned (OpenSpec.upto queueBackSpec)

end Rows
end Go.Proofs.Ytoobcgakainelaa
