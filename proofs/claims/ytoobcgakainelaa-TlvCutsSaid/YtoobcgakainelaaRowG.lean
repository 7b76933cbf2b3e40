/- Literal slices, and the contracts of Put and Get said of what the results read as. Conditions: those of the walks. -/
import Derived.Test.YtoobcgakainelaaRowF
namespace Go.Proofs.Ytoobcgakainelaa
open Go.RowKit

theorem Ints.alloc {k : IntKind} {w : World} {v : Value} {zs : List Int} (h : Ints k w v zs) (o : Obj) : Ints k (w.alloc o) v zs :=
  h.below ((Below.refl _ _).alloc (Nat.le_refl _) o)
/-- A literal slice, in a block of its own. -/
theorem Ints.lit (k : IntKind) (w : World) (t : TypeId) (zs : List Int) (b : Nat) (hb : w.heap.size = b) (hn : zs.length ≤ 1000) (hw : ∀ z ∈ zs, (Lit.int k z).wf = true) :
    Ints k (w.alloc (.cells (zs.map (Value.int k)).toArray t)) (.slice (some ⟨b, 0, none⟩) zs.length zs.length) zs := by
  subst hb
  exact ⟨Sl.new w (zs.map (Value.int k)) t zs.length (by unfold maxLen; omega), hw⟩

theorem below_alloc2 {w : World} (o : Obj) : Below w.heap.size w (w.alloc o) := (Below.refl _ _).alloc (Nat.le_refl _) o

theorem below1 {w w1 : World} {o : Obj} (h : Below (w.alloc o).heap.size (w.alloc o) w1) : Below w.heap.size w w1 :=
  (below_alloc2 o).trans (h.mono (by simp))
theorem below2 {w w1 : World} {o o' : Obj} (h : Below ((w.alloc o).alloc o').heap.size ((w.alloc o).alloc o') w1) : Below w.heap.size w w1 := below1 (below1 h)

theorem putS_u8 (ws xs : List Int) : U8 ((putS ws xs).getD []) := by
  unfold putS
  split
  · cases h : putL ws xs with
    | none => intro z hz; simp at hz
    | some b => exact putL_byte h
  · intro z hz; simp at hz

/-- What Put hands back, read. -/
def PutI (w : World) (ws xs : List Int) (e : Ending) (w' : World) : Prop :=
  ∃ v, e = .returned (.tuple #[v, .bool (putS ws xs).isSome]) ∧ Ints .u8 w' v ((putS ws xs).getD []) ∧ Below w.heap.size w w'
theorem row_put_i (v1 v2 : Value) (ws xs : List Int) (w : World) (h1 : Ints .i64 w v1 ws) (h2 : Ints .u64 w v2 xs) :
    Calls Try.prog 74 #[v1, v2] w (PutI w ws xs) :=
  (row_put v1 v2 ws xs w h1 h2).mono fun _ _ ⟨v, he, ho, hb⟩ => ⟨v, he, Ints.of_own ho (putS_u8 ws xs).wf, hb⟩
theorem ref_put_i (v1 v2 : Value) (ws xs : List Int) (w : World) (h1 : Ints .i64 w v1 ws) (h2 : Ints .u64 w v2 xs) :
    Calls Try.prog 61 #[v1, v2] w (PutI w ws xs) :=
  (ref_put v1 v2 ws xs w h1 h2).mono fun _ _ ⟨v, he, ho, hb⟩ => ⟨v, he, Ints.of_own ho (putS_u8 ws xs).wf, hb⟩

/-- What Get hands back, read. -/
def GetI (w : World) (ws bs : List Int) (e : Ending) (w' : World) : Prop :=
  ∃ v, e = .returned (.tuple #[v, .int .i64 (getS ws bs).2]) ∧ Ints .u64 w' v (getS ws bs).1 ∧ Below w.heap.size w w'
theorem row_get_i (v1 v2 : Value) (ws bs : List Int) (w : World) (h1 : Ints .i64 w v1 ws) (h2 : Ints .u8 w v2 bs) :
    Calls Try.prog 71 #[v1, v2] w (GetI w ws bs) :=
  (row_get v1 v2 ws bs w h1 h2).mono fun _ _ ⟨v, he, ho, hb⟩ => ⟨v, he, Ints.of_own ho (getS_u64 h2.u8).wf, hb⟩
theorem ref_get_i (v1 v2 : Value) (ws bs : List Int) (w : World) (h1 : Ints .i64 w v1 ws) (h2 : Ints .u8 w v2 bs) :
    Calls Try.prog 51 #[v1, v2] w (GetI w ws bs) :=
  (ref_get v1 v2 ws bs w h1 h2).mono fun _ _ ⟨v, he, ho, hb⟩ => ⟨v, he, Ints.of_own ho (getS_u64 h2.u8).wf, hb⟩

end Go.Proofs.Ytoobcgakainelaa
