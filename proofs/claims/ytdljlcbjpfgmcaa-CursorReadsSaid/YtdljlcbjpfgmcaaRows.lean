/-
  No cell of these rows narrows 'for every input' (looked for: loops, veiled, ifaces, maps, wideKeys, modest, calm, conditions, laid).
  DERIVED. THE GIVEN ROWS OF THIS SEAT. 13 by the template 'for every input the law returns true; each argument reads behind the call as it read before'; 0 by the template 'total and deterministic' (their statements: YtdljlcbjpfgmcaaTotals.lean).
  GIVEN WITH THE SEED: the statements are not yours to turn. If you find one false, say at which input.
  Laid BY PROGRAM, IN A SANDBOX (cutbox-rows.mjs): the forced cells as the released guide's own fill.sh prints them over the translation b91fbe40acd48b03… (all of the seat's roots in one cut). By AI agents, Wed Nov 11 2026. No macro, syntax, notation, axiom, sorry.
-/
import Derived.Test.YtdljlcbjpfgmcaaChecked
import GoSem.Claim
import GoSem.ClaimJoined
import GoSem.ClaimMapViews
import Derived.JoinedTies
import Derived.KernelRfl
namespace Go.Proofs.Ytdljlcbjpfgmcaa
/- THE CELL 'sum', in the pinned program and in every row, IS THE sha256 OF THE DUMP (.gsa) THAT YtdljlcbjpfgmcaaProg.lean LOADS. Nothing in Lean hashes anything: it is a label: what it is worth is what the hold of that sum in a sandbox is worth. -/
noncomputable def Try.pinned : Pinned := { name := "ytdljlcbjpfgmcaa", sum := "b91fbe40acd48b03c8aabb5901b72bf193e8e782c884db4114e7a2850bd05c3c", checked := Try.checked }
namespace Rows
def none {H : Type} : Left H := { results := [], args := [] }

/-- 'gunwalelaw01.RowTells': WHATEVER THE INPUT: true; the input reads as it did. -/
def rowTellsSpec : ChangeSpec := { name := "rowTells", fn := fun _ => fun
  | [d] => { results := [.lit (.bool true)], args := [d] }
  | _ => none }
def rowTellsRow : OpenClaim := { program := "ytdljlcbjpfgmcaa", sum := "b91fbe40acd48b03c8aabb5901b72bf193e8e782c884db4114e7a2850bd05c3c", func := "gunwale/gunwalelaw01.RowTells", spec := "rowTells", apart := false }
def RowTellsSaid : Prop := rowTellsRow.holds Try.pinned (OpenSpec.ofChange rowTellsSpec)

/-- ITS FALSE NEIGHBOUR: 'it returns false'. Refute it at one input. -/
def rowTellsWrong : ChangeSpec := { name := "rowTells", fn := fun _ => fun
  | [d] => { results := [.lit (.bool false)], args := [d] }
  | _ => none }
def RowTellsWrongFalsely : Prop := rowTellsRow.holds Try.pinned (OpenSpec.ofChange rowTellsWrong)

/-- 'gunwalelaw01.RowPuts': WHATEVER THE INPUT: true; the input reads as it did. -/
def rowPutsSpec : ChangeSpec := { name := "rowPuts", fn := fun _ => fun
  | [d1, d2] => { results := [.lit (.bool true)], args := [d1, d2] }
  | _ => none }
def rowPutsRow : OpenClaim := { program := "ytdljlcbjpfgmcaa", sum := "b91fbe40acd48b03c8aabb5901b72bf193e8e782c884db4114e7a2850bd05c3c", func := "gunwale/gunwalelaw01.RowPuts", spec := "rowPuts", apart := false }
def RowPutsSaid : Prop := rowPutsRow.holds Try.pinned (OpenSpec.ofChange rowPutsSpec)

/-- ITS FALSE NEIGHBOUR: 'it returns false'. Refute it at one input. -/
def rowPutsWrong : ChangeSpec := { name := "rowPuts", fn := fun _ => fun
  | [d1, d2] => { results := [.lit (.bool false)], args := [d1, d2] }
  | _ => none }
def RowPutsWrongFalsely : Prop := rowPutsRow.holds Try.pinned (OpenSpec.ofChange rowPutsWrong)

/-- 'gunwalelaw01.RowGets': WHATEVER THE INPUT: true; the input reads as it did. -/
def rowGetsSpec : ChangeSpec := { name := "rowGets", fn := fun _ => fun
  | [d1, d2] => { results := [.lit (.bool true)], args := [d1, d2] }
  | _ => none }
def rowGetsRow : OpenClaim := { program := "ytdljlcbjpfgmcaa", sum := "b91fbe40acd48b03c8aabb5901b72bf193e8e782c884db4114e7a2850bd05c3c", func := "gunwale/gunwalelaw01.RowGets", spec := "rowGets", apart := false }
def RowGetsSaid : Prop := rowGetsRow.holds Try.pinned (OpenSpec.ofChange rowGetsSpec)

/-- ITS FALSE NEIGHBOUR: 'it returns false'. Refute it at one input. -/
def rowGetsWrong : ChangeSpec := { name := "rowGets", fn := fun _ => fun
  | [d1, d2] => { results := [.lit (.bool false)], args := [d1, d2] }
  | _ => none }
def RowGetsWrongFalsely : Prop := rowGetsRow.holds Try.pinned (OpenSpec.ofChange rowGetsWrong)

/-- 'gunwalelaw01.RowBack': WHATEVER THE INPUT: true; the input reads as it did. -/
def rowBackSpec : ChangeSpec := { name := "rowBack", fn := fun _ => fun
  | [d1, d2, d3] => { results := [.lit (.bool true)], args := [d1, d2, d3] }
  | _ => none }
def rowBackRow : OpenClaim := { program := "ytdljlcbjpfgmcaa", sum := "b91fbe40acd48b03c8aabb5901b72bf193e8e782c884db4114e7a2850bd05c3c", func := "gunwale/gunwalelaw01.RowBack", spec := "rowBack", apart := false }
def RowBackSaid : Prop := rowBackRow.holds Try.pinned (OpenSpec.ofChange rowBackSpec)

/-- ITS FALSE NEIGHBOUR: 'it returns false'. Refute it at one input. -/
def rowBackWrong : ChangeSpec := { name := "rowBack", fn := fun _ => fun
  | [d1, d2, d3] => { results := [.lit (.bool false)], args := [d1, d2, d3] }
  | _ => none }
def RowBackWrongFalsely : Prop := rowBackRow.holds Try.pinned (OpenSpec.ofChange rowBackWrong)

/-- 'gunwalelaw01.RowHigh': WHATEVER THE INPUT: true; the input reads as it did. -/
def rowHighSpec : ChangeSpec := { name := "rowHigh", fn := fun _ => fun
  | [d1, d2] => { results := [.lit (.bool true)], args := [d1, d2] }
  | _ => none }
def rowHighRow : OpenClaim := { program := "ytdljlcbjpfgmcaa", sum := "b91fbe40acd48b03c8aabb5901b72bf193e8e782c884db4114e7a2850bd05c3c", func := "gunwale/gunwalelaw01.RowHigh", spec := "rowHigh", apart := false }
def RowHighSaid : Prop := rowHighRow.holds Try.pinned (OpenSpec.ofChange rowHighSpec)

/-- ITS FALSE NEIGHBOUR: 'it returns false'. Refute it at one input. -/
def rowHighWrong : ChangeSpec := { name := "rowHigh", fn := fun _ => fun
  | [d1, d2] => { results := [.lit (.bool false)], args := [d1, d2] }
  | _ => none }
def RowHighWrongFalsely : Prop := rowHighRow.holds Try.pinned (OpenSpec.ofChange rowHighWrong)

/-- 'gunwalelaw06.HeadLeast': WHATEVER THE INPUT: true; the input reads as it did. -/
def headLeastSpec : ChangeSpec := { name := "headLeast", fn := fun _ => fun
  | [d1, d2] => { results := [.lit (.bool true)], args := [d1, d2] }
  | _ => none }
def headLeastRow : OpenClaim := { program := "ytdljlcbjpfgmcaa", sum := "b91fbe40acd48b03c8aabb5901b72bf193e8e782c884db4114e7a2850bd05c3c", func := "gunwale/gunwalelaw06.HeadLeast", spec := "headLeast", apart := false }
def HeadLeastSaid : Prop := headLeastRow.holds Try.pinned (OpenSpec.ofChange headLeastSpec)

/-- ITS FALSE NEIGHBOUR: 'it returns false'. Refute it at one input. -/
def headLeastWrong : ChangeSpec := { name := "headLeast", fn := fun _ => fun
  | [d1, d2] => { results := [.lit (.bool false)], args := [d1, d2] }
  | _ => none }
def HeadLeastWrongFalsely : Prop := headLeastRow.holds Try.pinned (OpenSpec.ofChange headLeastWrong)

/-- 'gunwalelaw02.CursorSubs': WHATEVER THE INPUT: true; the input reads as it did. -/
def cursorSubsSpec : ChangeSpec := { name := "cursorSubs", fn := fun _ => fun
  | [d1, d2] => { results := [.lit (.bool true)], args := [d1, d2] }
  | _ => none }
def cursorSubsRow : OpenClaim := { program := "ytdljlcbjpfgmcaa", sum := "b91fbe40acd48b03c8aabb5901b72bf193e8e782c884db4114e7a2850bd05c3c", func := "gunwale/gunwalelaw02.CursorSubs", spec := "cursorSubs", unfollowed := true, recurses := true, apart := false }
def CursorSubsSaid : Prop := cursorSubsRow.holds Try.pinned (OpenSpec.ofChange cursorSubsSpec)

/-- ITS FALSE NEIGHBOUR: 'it returns false'. Refute it at one input. -/
def cursorSubsWrong : ChangeSpec := { name := "cursorSubs", fn := fun _ => fun
  | [d1, d2] => { results := [.lit (.bool false)], args := [d1, d2] }
  | _ => none }
def CursorSubsWrongFalsely : Prop := cursorSubsRow.holds Try.pinned (OpenSpec.ofChange cursorSubsWrong)

/-- 'gunwalelaw02.CursorAll': WHATEVER THE INPUT: true; the input reads as it did. -/
def cursorAllSpec : ChangeSpec := { name := "cursorAll", fn := fun _ => fun
  | [d1, d2] => { results := [.lit (.bool true)], args := [d1, d2] }
  | _ => none }
def cursorAllRow : OpenClaim := { program := "ytdljlcbjpfgmcaa", sum := "b91fbe40acd48b03c8aabb5901b72bf193e8e782c884db4114e7a2850bd05c3c", func := "gunwale/gunwalelaw02.CursorAll", spec := "cursorAll", unfollowed := true, recurses := true, apart := false }
def CursorAllSaid : Prop := cursorAllRow.holds Try.pinned (OpenSpec.ofChange cursorAllSpec)

/-- ITS FALSE NEIGHBOUR: 'it returns false'. Refute it at one input. -/
def cursorAllWrong : ChangeSpec := { name := "cursorAll", fn := fun _ => fun
  | [d1, d2] => { results := [.lit (.bool false)], args := [d1, d2] }
  | _ => none }
def CursorAllWrongFalsely : Prop := cursorAllRow.holds Try.pinned (OpenSpec.ofChange cursorAllWrong)

/-- 'gunwalelaw02.CursorReads': WHATEVER THE INPUT: true; the input reads as it did. -/
def cursorReadsSpec : ChangeSpec := { name := "cursorReads", fn := fun _ => fun
  | [d1, d2] => { results := [.lit (.bool true)], args := [d1, d2] }
  | _ => none }
def cursorReadsRow : OpenClaim := { program := "ytdljlcbjpfgmcaa", sum := "b91fbe40acd48b03c8aabb5901b72bf193e8e782c884db4114e7a2850bd05c3c", func := "gunwale/gunwalelaw02.CursorReads", spec := "cursorReads", unfollowed := true, recurses := true, apart := false }
def CursorReadsSaid : Prop := cursorReadsRow.holds Try.pinned (OpenSpec.ofChange cursorReadsSpec)

/-- ITS FALSE NEIGHBOUR: 'it returns false'. Refute it at one input. -/
def cursorReadsWrong : ChangeSpec := { name := "cursorReads", fn := fun _ => fun
  | [d1, d2] => { results := [.lit (.bool false)], args := [d1, d2] }
  | _ => none }
def CursorReadsWrongFalsely : Prop := cursorReadsRow.holds Try.pinned (OpenSpec.ofChange cursorReadsWrong)

/-- 'gunwalelaw03.BufferAll': WHATEVER THE INPUT: true; the input reads as it did. -/
def bufferAllSpec : ChangeSpec := { name := "bufferAll", fn := fun _ => fun
  | [d1, d2] => { results := [.lit (.bool true)], args := [d1, d2] }
  | _ => none }
def bufferAllRow : OpenClaim := { program := "ytdljlcbjpfgmcaa", sum := "b91fbe40acd48b03c8aabb5901b72bf193e8e782c884db4114e7a2850bd05c3c", func := "gunwale/gunwalelaw03.BufferAll", spec := "bufferAll", apart := false }
def BufferAllSaid : Prop := bufferAllRow.holds Try.pinned (OpenSpec.ofChange bufferAllSpec)

/-- ITS FALSE NEIGHBOUR: 'it returns false'. Refute it at one input. -/
def bufferAllWrong : ChangeSpec := { name := "bufferAll", fn := fun _ => fun
  | [d1, d2] => { results := [.lit (.bool false)], args := [d1, d2] }
  | _ => none }
def BufferAllWrongFalsely : Prop := bufferAllRow.holds Try.pinned (OpenSpec.ofChange bufferAllWrong)

/-- 'gunwalelaw03.BufferHolds': WHATEVER THE INPUT: true; the input reads as it did. -/
def bufferHoldsSpec : ChangeSpec := { name := "bufferHolds", fn := fun _ => fun
  | [d1, d2] => { results := [.lit (.bool true)], args := [d1, d2] }
  | _ => none }
def bufferHoldsRow : OpenClaim := { program := "ytdljlcbjpfgmcaa", sum := "b91fbe40acd48b03c8aabb5901b72bf193e8e782c884db4114e7a2850bd05c3c", func := "gunwale/gunwalelaw03.BufferHolds", spec := "bufferHolds", apart := false }
def BufferHoldsSaid : Prop := bufferHoldsRow.holds Try.pinned (OpenSpec.ofChange bufferHoldsSpec)

/-- ITS FALSE NEIGHBOUR: 'it returns false'. Refute it at one input. -/
def bufferHoldsWrong : ChangeSpec := { name := "bufferHolds", fn := fun _ => fun
  | [d1, d2] => { results := [.lit (.bool false)], args := [d1, d2] }
  | _ => none }
def BufferHoldsWrongFalsely : Prop := bufferHoldsRow.holds Try.pinned (OpenSpec.ofChange bufferHoldsWrong)

/-- 'gunwalelaw06.HeadTells': WHATEVER THE INPUT: true; the input reads as it did. -/
def headTellsSpec : ChangeSpec := { name := "headTells", fn := fun _ => fun
  | [d1, d2, d3] => { results := [.lit (.bool true)], args := [d1, d2, d3] }
  | _ => none }
def headTellsRow : OpenClaim := { program := "ytdljlcbjpfgmcaa", sum := "b91fbe40acd48b03c8aabb5901b72bf193e8e782c884db4114e7a2850bd05c3c", func := "gunwale/gunwalelaw06.HeadTells", spec := "headTells", apart := false }
def HeadTellsSaid : Prop := headTellsRow.holds Try.pinned (OpenSpec.ofChange headTellsSpec)

/-- ITS FALSE NEIGHBOUR: 'it returns false'. Refute it at one input. -/
def headTellsWrong : ChangeSpec := { name := "headTells", fn := fun _ => fun
  | [d1, d2, d3] => { results := [.lit (.bool false)], args := [d1, d2, d3] }
  | _ => none }
def HeadTellsWrongFalsely : Prop := headTellsRow.holds Try.pinned (OpenSpec.ofChange headTellsWrong)

/-- 'gunwalelaw06.HeadBack': WHATEVER THE INPUT: true; the input reads as it did. -/
def headBackSpec : ChangeSpec := { name := "headBack", fn := fun _ => fun
  | [d1, d2] => { results := [.lit (.bool true)], args := [d1, d2] }
  | _ => none }
def headBackRow : OpenClaim := { program := "ytdljlcbjpfgmcaa", sum := "b91fbe40acd48b03c8aabb5901b72bf193e8e782c884db4114e7a2850bd05c3c", func := "gunwale/gunwalelaw06.HeadBack", spec := "headBack", apart := false }
def HeadBackSaid : Prop := headBackRow.holds Try.pinned (OpenSpec.ofChange headBackSpec)

/-- ITS FALSE NEIGHBOUR: 'it returns false'. Refute it at one input. -/
def headBackWrong : ChangeSpec := { name := "headBack", fn := fun _ => fun
  | [d1, d2] => { results := [.lit (.bool false)], args := [d1, d2] }
  | _ => none }
def HeadBackWrongFalsely : Prop := headBackRow.holds Try.pinned (OpenSpec.ofChange headBackWrong)

/- THE SECOND FORM. 'bulk': how many values and letters a reading holds, each counted each time it is reached (what is shared counts as often as it is met; a slice's spare places count too). A statement '..UptoSaid' is the law's where the arguments, and the package variables that the reading takes, are together of bulk at most 1048576: NARROWER than '..Said'. Prove '..Said' where nothing that the law and all that it calls make is longer than what came in: it says more and counts as full. Else prove '..UptoSaid'. A law counts once. -/
mutual
def uptoBulk {H : Type} : DataW H → Nat
  | .lit (.string bytes) => bytes.length + 1
  | .lit _ => 1
  | .nil => 1
  | .ptr d => uptoBulk d + 1
  | .slice elems spare => uptoBulkAll elems + uptoBulkAll spare + 1
  | .agg parts => uptoBulkAll parts + 1
  | .iface _ d => uptoBulk d + 1
  | .map entries => uptoBulkEntries entries + 1
  | .held _ => 1
def uptoBulkAll {H : Type} : List (DataW H) → Nat
  | [] => 0
  | d :: r => uptoBulk d + uptoBulkAll r
def uptoBulkEntries {H : Type} : List (Lit × DataW H) → Nat
  | [] => 0
  | x :: r => uptoBulkEntry x + uptoBulkEntries r
def uptoBulkEntry {H : Type} : Lit × DataW H → Nat
  | (.string bytes, d) => bytes.length + uptoBulk d + 1
  | (_, d) => uptoBulk d + 1
 end
def uptoSmall : (H : Type) → List (DataW H) → Bool := fun _ ds => decide (uptoBulkAll ds ≤ 1048576)
def OpenSpec.upto (s : _root_.Go.ChangeSpec) : _root_.Go.OpenSpec := { _root_.Go.OpenSpec.ofChange s with cond := some uptoSmall }

/-- 'gunwalelaw01.RowTells', WHERE WHAT IT READS IS OF BULK AT MOST 1048576: true; the input reads as it did. -/
def rowTellsUptoRow : OpenClaim := { program := "ytdljlcbjpfgmcaa", sum := "b91fbe40acd48b03c8aabb5901b72bf193e8e782c884db4114e7a2850bd05c3c", func := "gunwale/gunwalelaw01.RowTells", spec := "rowTells", apart := false, narrowed := true }
def RowTellsUptoSaid : Prop := rowTellsUptoRow.holds Try.pinned (OpenSpec.upto rowTellsSpec)

/-- 'gunwalelaw01.RowPuts', WHERE WHAT IT READS IS OF BULK AT MOST 1048576: true; the input reads as it did. -/
def rowPutsUptoRow : OpenClaim := { program := "ytdljlcbjpfgmcaa", sum := "b91fbe40acd48b03c8aabb5901b72bf193e8e782c884db4114e7a2850bd05c3c", func := "gunwale/gunwalelaw01.RowPuts", spec := "rowPuts", apart := false, narrowed := true }
def RowPutsUptoSaid : Prop := rowPutsUptoRow.holds Try.pinned (OpenSpec.upto rowPutsSpec)

/-- 'gunwalelaw01.RowGets', WHERE WHAT IT READS IS OF BULK AT MOST 1048576: true; the input reads as it did. -/
def rowGetsUptoRow : OpenClaim := { program := "ytdljlcbjpfgmcaa", sum := "b91fbe40acd48b03c8aabb5901b72bf193e8e782c884db4114e7a2850bd05c3c", func := "gunwale/gunwalelaw01.RowGets", spec := "rowGets", apart := false, narrowed := true }
def RowGetsUptoSaid : Prop := rowGetsUptoRow.holds Try.pinned (OpenSpec.upto rowGetsSpec)

/-- 'gunwalelaw01.RowBack', WHERE WHAT IT READS IS OF BULK AT MOST 1048576: true; the input reads as it did. -/
def rowBackUptoRow : OpenClaim := { program := "ytdljlcbjpfgmcaa", sum := "b91fbe40acd48b03c8aabb5901b72bf193e8e782c884db4114e7a2850bd05c3c", func := "gunwale/gunwalelaw01.RowBack", spec := "rowBack", apart := false, narrowed := true }
def RowBackUptoSaid : Prop := rowBackUptoRow.holds Try.pinned (OpenSpec.upto rowBackSpec)

/-- 'gunwalelaw01.RowHigh', WHERE WHAT IT READS IS OF BULK AT MOST 1048576: true; the input reads as it did. -/
def rowHighUptoRow : OpenClaim := { program := "ytdljlcbjpfgmcaa", sum := "b91fbe40acd48b03c8aabb5901b72bf193e8e782c884db4114e7a2850bd05c3c", func := "gunwale/gunwalelaw01.RowHigh", spec := "rowHigh", apart := false, narrowed := true }
def RowHighUptoSaid : Prop := rowHighUptoRow.holds Try.pinned (OpenSpec.upto rowHighSpec)

/-- 'gunwalelaw06.HeadLeast', WHERE WHAT IT READS IS OF BULK AT MOST 1048576: true; the input reads as it did. -/
def headLeastUptoRow : OpenClaim := { program := "ytdljlcbjpfgmcaa", sum := "b91fbe40acd48b03c8aabb5901b72bf193e8e782c884db4114e7a2850bd05c3c", func := "gunwale/gunwalelaw06.HeadLeast", spec := "headLeast", apart := false, narrowed := true }
def HeadLeastUptoSaid : Prop := headLeastUptoRow.holds Try.pinned (OpenSpec.upto headLeastSpec)

/-- 'gunwalelaw02.CursorSubs', WHERE WHAT IT READS IS OF BULK AT MOST 1048576: true; the input reads as it did. -/
def cursorSubsUptoRow : OpenClaim := { program := "ytdljlcbjpfgmcaa", sum := "b91fbe40acd48b03c8aabb5901b72bf193e8e782c884db4114e7a2850bd05c3c", func := "gunwale/gunwalelaw02.CursorSubs", spec := "cursorSubs", unfollowed := true, recurses := true, apart := false, narrowed := true }
def CursorSubsUptoSaid : Prop := cursorSubsUptoRow.holds Try.pinned (OpenSpec.upto cursorSubsSpec)

/-- 'gunwalelaw02.CursorAll', WHERE WHAT IT READS IS OF BULK AT MOST 1048576: true; the input reads as it did. -/
def cursorAllUptoRow : OpenClaim := { program := "ytdljlcbjpfgmcaa", sum := "b91fbe40acd48b03c8aabb5901b72bf193e8e782c884db4114e7a2850bd05c3c", func := "gunwale/gunwalelaw02.CursorAll", spec := "cursorAll", unfollowed := true, recurses := true, apart := false, narrowed := true }
def CursorAllUptoSaid : Prop := cursorAllUptoRow.holds Try.pinned (OpenSpec.upto cursorAllSpec)

/-- 'gunwalelaw02.CursorReads', WHERE WHAT IT READS IS OF BULK AT MOST 1048576: true; the input reads as it did. -/
def cursorReadsUptoRow : OpenClaim := { program := "ytdljlcbjpfgmcaa", sum := "b91fbe40acd48b03c8aabb5901b72bf193e8e782c884db4114e7a2850bd05c3c", func := "gunwale/gunwalelaw02.CursorReads", spec := "cursorReads", unfollowed := true, recurses := true, apart := false, narrowed := true }
def CursorReadsUptoSaid : Prop := cursorReadsUptoRow.holds Try.pinned (OpenSpec.upto cursorReadsSpec)

/-- 'gunwalelaw03.BufferAll', WHERE WHAT IT READS IS OF BULK AT MOST 1048576: true; the input reads as it did. -/
def bufferAllUptoRow : OpenClaim := { program := "ytdljlcbjpfgmcaa", sum := "b91fbe40acd48b03c8aabb5901b72bf193e8e782c884db4114e7a2850bd05c3c", func := "gunwale/gunwalelaw03.BufferAll", spec := "bufferAll", apart := false, narrowed := true }
def BufferAllUptoSaid : Prop := bufferAllUptoRow.holds Try.pinned (OpenSpec.upto bufferAllSpec)

/-- 'gunwalelaw03.BufferHolds', WHERE WHAT IT READS IS OF BULK AT MOST 1048576: true; the input reads as it did. -/
def bufferHoldsUptoRow : OpenClaim := { program := "ytdljlcbjpfgmcaa", sum := "b91fbe40acd48b03c8aabb5901b72bf193e8e782c884db4114e7a2850bd05c3c", func := "gunwale/gunwalelaw03.BufferHolds", spec := "bufferHolds", apart := false, narrowed := true }
def BufferHoldsUptoSaid : Prop := bufferHoldsUptoRow.holds Try.pinned (OpenSpec.upto bufferHoldsSpec)

/-- 'gunwalelaw06.HeadTells', WHERE WHAT IT READS IS OF BULK AT MOST 1048576: true; the input reads as it did. -/
def headTellsUptoRow : OpenClaim := { program := "ytdljlcbjpfgmcaa", sum := "b91fbe40acd48b03c8aabb5901b72bf193e8e782c884db4114e7a2850bd05c3c", func := "gunwale/gunwalelaw06.HeadTells", spec := "headTells", apart := false, narrowed := true }
def HeadTellsUptoSaid : Prop := headTellsUptoRow.holds Try.pinned (OpenSpec.upto headTellsSpec)

/-- 'gunwalelaw06.HeadBack', WHERE WHAT IT READS IS OF BULK AT MOST 1048576: true; the input reads as it did. -/
def headBackUptoRow : OpenClaim := { program := "ytdljlcbjpfgmcaa", sum := "b91fbe40acd48b03c8aabb5901b72bf193e8e782c884db4114e7a2850bd05c3c", func := "gunwale/gunwalelaw06.HeadBack", spec := "headBack", apart := false, narrowed := true }
def HeadBackUptoSaid : Prop := headBackUptoRow.holds Try.pinned (OpenSpec.upto headBackSpec)

end Rows
end Go.Proofs.Ytdljlcbjpfgmcaa
