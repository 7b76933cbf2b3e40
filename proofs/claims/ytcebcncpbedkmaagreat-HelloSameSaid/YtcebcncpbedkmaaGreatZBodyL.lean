/- A message's cells, and whether it has nothing but its type and its number, in plain Lean. Conditions: none. -/
import Derived.Test.YtcebcncpbedkmaaGreatZRefTA
import Derived.Great.BuildSlice
namespace Go.Proofs.YtcebcncpbedkmaaGreat
open Go.RowKit
set_option maxRecDepth 100000
set_option maxHeartbeats 4000000

/-- The lists of a message beside its numbers and data, as slices; its kind and its flags. -/
structure Lens where
  a4 : Option Addr
  n4 : Nat
  c4 : Nat
  a5 : Option Addr
  n5 : Nat
  c5 : Nat
  a6 : Option Addr
  n6 : Nat
  c6 : Nat
  a7 : Option Addr
  n7 : Nat
  c7 : Nat
  a8 : Option Addr
  n8 : Nat
  c8 : Nat
  a9 : Option Addr
  n9 : Nat
  c9 : Nat
  a10 : Option Addr
  n10 : Nat
  c10 : Nat
  a11 : Option Addr
  n11 : Nat
  c11 : Nat
  a14 : Option Addr
  n14 : Nat
  c14 : Nat
  kind : Int
  flags : Int

/-- A message's cells. -/
abbrev msgL (ty xid : Int) (vn vd : Value) (L : Lens) : Array Value := #[.int .i64 ty, .int .u32 xid, vn, vd, .slice L.a4 L.n4 L.c4, .slice L.a5 L.n5 L.c5, .slice L.a6 L.n6 L.c6, .slice L.a7 L.n7 L.c7, .slice L.a8 L.n8 L.c8, .slice L.a9 L.n9 L.c9, .slice L.a10 L.n10 L.c10, .slice L.a11 L.n11 L.c11, .int .i64 L.kind, .int .i64 L.flags, .slice L.a14 L.n14 L.c14]

def bareL (L : Lens) : Bool := decide (L.n4 = 0) && decide (L.n5 = 0) && decide (L.n6 = 0) && decide (L.n7 = 0) && decide (L.n8 = 0) && decide (L.n9 = 0) && decide (L.n10 = 0) && decide (L.n11 = 0) && decide (L.n14 = 0) && decide (L.kind = 0) && decide (L.flags = 0)

end Go.Proofs.YtcebcncpbedkmaaGreat
