/-
  No cell of these rows narrows 'for every input' (looked for: loops, veiled, ifaces, maps, wideKeys, modest, calm, conditions, laid).
  DERIVED. THE GIVEN ROWS OF THIS SEAT. 3 by the template 'for every input the law returns true; each argument reads behind the call as it read before'; 0 by the template 'total and deterministic' (their statements: YtcebcncpbedkmaaTotals.lean).
  GIVEN WITH THE SEED: the statements are not yours to turn. If you find one false, say at which input.
  Laid BY PROGRAM, IN A SANDBOX (cutbox-rows.mjs): the forced cells as the released guide's own fill.sh prints them over the translation 02e00f57135c00f3… (all of the seat's roots in one cut). By AI agents, Wed Nov 11 2026. No macro, syntax, notation, axiom, sorry.
-/
import Derived.Test.YtcebcncpbedkmaaChecked
import GoSem.Claim
import GoSem.ClaimJoined
import GoSem.ClaimMapViews
import Derived.JoinedTies
import Derived.KernelRfl
namespace Go.Proofs.Ytcebcncpbedkmaa
/- THE CELL 'sum', in the pinned program and in every row, IS THE sha256 OF THE DUMP (.gsa) THAT YtcebcncpbedkmaaProg.lean LOADS. Nothing in Lean hashes anything: it is a label: what it is worth is what the hold of that sum in a sandbox is worth. -/
noncomputable def Try.pinned : Pinned := { name := "ytcebcncpbedkmaa", sum := "02e00f57135c00f36d5d8af404ae6046cf940242fbf5c91e93b91da0f0d7a4f7", checked := Try.checked }
namespace Rows
def none {H : Type} : Left H := { results := [], args := [] }

/-- 'gunwalelaw21.HelloWrites': WHATEVER THE INPUT: true; the input reads as it did. -/
def helloWritesSpec : ChangeSpec := { name := "helloWrites", fn := fun _ => fun
  | [d1, d2] => { results := [.lit (.bool true)], args := [d1, d2] }
  | _ => none }
def helloWritesRow : OpenClaim := { program := "ytcebcncpbedkmaa", sum := "02e00f57135c00f36d5d8af404ae6046cf940242fbf5c91e93b91da0f0d7a4f7", func := "gunwale/gunwalelaw21.HelloWrites", spec := "helloWrites", unfollowed := true, recurses := true, apart := false }
def HelloWritesSaid : Prop := helloWritesRow.holds Try.pinned (OpenSpec.ofChange helloWritesSpec)

/-- ITS FALSE NEIGHBOUR: 'it returns false'. Refute it at one input. -/
def helloWritesWrong : ChangeSpec := { name := "helloWrites", fn := fun _ => fun
  | [d1, d2] => { results := [.lit (.bool false)], args := [d1, d2] }
  | _ => none }
def HelloWritesWrongFalsely : Prop := helloWritesRow.holds Try.pinned (OpenSpec.ofChange helloWritesWrong)

/-- 'gunwalelaw21.HelloReads': WHATEVER THE INPUT: true; the input reads as it did. -/
def helloReadsSpec : ChangeSpec := { name := "helloReads", fn := fun _ => fun
  | [d1, d2] => { results := [.lit (.bool true)], args := [d1, d2] }
  | _ => none }
def helloReadsRow : OpenClaim := { program := "ytcebcncpbedkmaa", sum := "02e00f57135c00f36d5d8af404ae6046cf940242fbf5c91e93b91da0f0d7a4f7", func := "gunwale/gunwalelaw21.HelloReads", spec := "helloReads", unfollowed := true, recurses := true, apart := false }
def HelloReadsSaid : Prop := helloReadsRow.holds Try.pinned (OpenSpec.ofChange helloReadsSpec)

/-- ITS FALSE NEIGHBOUR: 'it returns false'. Refute it at one input. -/
def helloReadsWrong : ChangeSpec := { name := "helloReads", fn := fun _ => fun
  | [d1, d2] => { results := [.lit (.bool false)], args := [d1, d2] }
  | _ => none }
def HelloReadsWrongFalsely : Prop := helloReadsRow.holds Try.pinned (OpenSpec.ofChange helloReadsWrong)

/-- 'gunwalelaw21.HelloBack': WHATEVER THE INPUT: true; the input reads as it did. -/
def helloBackSpec : ChangeSpec := { name := "helloBack", fn := fun _ => fun
  | [d1, d2, d3] => { results := [.lit (.bool true)], args := [d1, d2, d3] }
  | _ => none }
def helloBackRow : OpenClaim := { program := "ytcebcncpbedkmaa", sum := "02e00f57135c00f36d5d8af404ae6046cf940242fbf5c91e93b91da0f0d7a4f7", func := "gunwale/gunwalelaw21.HelloBack", spec := "helloBack", unfollowed := true, recurses := true, apart := false }
def HelloBackSaid : Prop := helloBackRow.holds Try.pinned (OpenSpec.ofChange helloBackSpec)

/-- ITS FALSE NEIGHBOUR: 'it returns false'. Refute it at one input. -/
def helloBackWrong : ChangeSpec := { name := "helloBack", fn := fun _ => fun
  | [d1, d2, d3] => { results := [.lit (.bool false)], args := [d1, d2, d3] }
  | _ => none }
def HelloBackWrongFalsely : Prop := helloBackRow.holds Try.pinned (OpenSpec.ofChange helloBackWrong)

/- THE SECOND FORM. 'bulk': how many values and letters a reading holds, each counted each time it is reached (what is shared counts as often as it is met; a slice's spare places count too). A statement '..UptoSaid' is the law's where the arguments, and the package variables that the reading takes, are together of bulk at most 1048576: NARROWER than '..Said'. Prove '..Said' where nothing that the law and all that it calls make is longer than what came in: it says more and counts as full. Else prove '..UptoSaid'. A law counts once. -/
mutual
def uptoBulk {H : Type} : DataW H → Nat
  | .lit (.string bytes) => bytes.length + 1
  | .lit _ => 1
  | .nil => 1
  | .ptr d => uptoBulk d + 1
  | .slice elems spare => uptoBulkAll elems + uptoBulkAll spare + 1
  | .agg parts => uptoBulkAll parts + 1
  | .iface _ d => uptoBulk d + 1
  | .map entries => uptoBulkEntries entries + 1
  | .held _ => 1
def uptoBulkAll {H : Type} : List (DataW H) → Nat
  | [] => 0
  | d :: r => uptoBulk d + uptoBulkAll r
def uptoBulkEntries {H : Type} : List (Lit × DataW H) → Nat
  | [] => 0
  | x :: r => uptoBulkEntry x + uptoBulkEntries r
def uptoBulkEntry {H : Type} : Lit × DataW H → Nat
  | (.string bytes, d) => bytes.length + uptoBulk d + 1
  | (_, d) => uptoBulk d + 1
 end
def uptoSmall : (H : Type) → List (DataW H) → Bool := fun _ ds => decide (uptoBulkAll ds ≤ 1048576)
def OpenSpec.upto (s : _root_.Go.ChangeSpec) : _root_.Go.OpenSpec := { _root_.Go.OpenSpec.ofChange s with cond := some uptoSmall }

/-- 'gunwalelaw21.HelloWrites', WHERE WHAT IT READS IS OF BULK AT MOST 1048576: true; the input reads as it did. -/
def helloWritesUptoRow : OpenClaim := { program := "ytcebcncpbedkmaa", sum := "02e00f57135c00f36d5d8af404ae6046cf940242fbf5c91e93b91da0f0d7a4f7", func := "gunwale/gunwalelaw21.HelloWrites", spec := "helloWrites", unfollowed := true, recurses := true, apart := false, narrowed := true }
def HelloWritesUptoSaid : Prop := helloWritesUptoRow.holds Try.pinned (OpenSpec.upto helloWritesSpec)

/-- 'gunwalelaw21.HelloReads', WHERE WHAT IT READS IS OF BULK AT MOST 1048576: true; the input reads as it did. -/
def helloReadsUptoRow : OpenClaim := { program := "ytcebcncpbedkmaa", sum := "02e00f57135c00f36d5d8af404ae6046cf940242fbf5c91e93b91da0f0d7a4f7", func := "gunwale/gunwalelaw21.HelloReads", spec := "helloReads", unfollowed := true, recurses := true, apart := false, narrowed := true }
def HelloReadsUptoSaid : Prop := helloReadsUptoRow.holds Try.pinned (OpenSpec.upto helloReadsSpec)

/-- 'gunwalelaw21.HelloBack', WHERE WHAT IT READS IS OF BULK AT MOST 1048576: true; the input reads as it did. -/
def helloBackUptoRow : OpenClaim := { program := "ytcebcncpbedkmaa", sum := "02e00f57135c00f36d5d8af404ae6046cf940242fbf5c91e93b91da0f0d7a4f7", func := "gunwale/gunwalelaw21.HelloBack", spec := "helloBack", unfollowed := true, recurses := true, apart := false, narrowed := true }
def HelloBackUptoSaid : Prop := helloBackUptoRow.holds Try.pinned (OpenSpec.upto helloBackSpec)

end Rows
end Go.Proofs.Ytcebcncpbedkmaa
