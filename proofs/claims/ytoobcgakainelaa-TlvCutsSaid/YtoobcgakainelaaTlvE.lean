/- Things written, in plain Lean, and what a buffer holds while one is written. Conditions: those of each lemma. -/
import Derived.Test.YtoobcgakainelaaTlvC
import Derived.Test.YtoobcgakainelaaTlvQ
import Derived.Test.YtoobcgakainelaaBufA
namespace Go.Proofs.Ytoobcgakainelaa
open Go.RowKit

theorem put_22 {t n : Int} (ht : 0 ≤ t ∧ t ≤ 65535) (hn : 0 ≤ n ∧ n ≤ 65535) : putS [2, 2] [t, n] = some (be 2 t ++ be 2 n) := by
  have hr : RightS [2, 2] = true := by decide
  have h2 : (256 : Int) ^ 2 = 65536 := by decide
  have f1 : fitsW t 2 = true := by simp [fitsW]; omega
  have f2 : fitsW n 2 = true := by simp [fitsW]; omega
  simp [putS, hr, cntL, putL, f1, f2]

def bf1 (t : Int) (len z : Nat) : Bf := ⟨be 2 t ++ be 2 (4 + len : Nat), 4 + len + z, .map [], 0, 0⟩
def bf2 (t : Int) (bs : List Int) (z : Nat) : Bf := ⟨be 2 t ++ be 2 (4 + bs.length : Nat) ++ bs, 4 + bs.length + z, .map [], 0, 0⟩
def bf3 (t : Int) (bs : List Int) (z : Nat) : Bf := ⟨be 2 t ++ be 2 (4 + bs.length : Nat) ++ bs ++ List.replicate z 0, 4 + bs.length + z, .map [], 0, 0⟩

theorem bf_1 {t : Int} {len z : Nat} (ht : 0 ≤ t ∧ t ≤ 65535) (hn : 4 + len ≤ 65535) : (Bf.new (4 + len + z)).row [2, 2] [t, (4 + len : Nat)] = bf1 t len z := by
  unfold Bf.row
  rw [put_22 ht (by omega)]
  show (Bf.new (4 + len + z)).bytes _ = _
  rw [bytes_b_fine rfl (by simp [Bf.new, be_length]; omega)]
  simp [Bf.new, bf1]
theorem bf_2 (t : Int) (bs : List Int) (z : Nat) : (bf1 t bs.length z).bytes bs = bf2 t bs z := by
  rw [bytes_b_fine rfl (by simp [bf1, be_length]; omega)]
  simp [bf1, bf2]
theorem bf_3 (t : Int) (bs : List Int) (z : Nat) : (bf2 t bs z).bytes (List.replicate z 0) = bf3 t bs z := by
  rw [bytes_b_fine rfl (by simp [bf2, be_length]; omega)]
  simp [bf2, bf3]
theorem bf_4 (s : Sh) (t : Int) (bs : List Int) : (bf3 t bs (s.zeros (4 + bs.length))).done = (s.thing (t, bs), 0) := by
  unfold Bf.done
  rw [if_neg (by simp [bf3]), if_neg (by simp [bf3, Maps.size])]
  simp [bf3, Sh.thing]

theorem Sh.all_snoc (s : Sh) (l : List (Int × List Int)) (x : Int × List Int) : s.all (l ++ [x]) = s.all l ++ s.thing x := by simp [Sh.all]
theorem take_snoc' {α : Type} {l : List α} {k : Nat} {x : α} (h : l[k]? = some x) : l.take (k + 1) = l.take k ++ [x] := by
  rw [List.take_add_one, h]; rfl
theorem Sh.thing_u8 {s : Sh} {x : Int × List Int} (h : U8 x.2) : U8 (s.thing x) := by
  unfold Sh.thing
  intro z hz
  simp only [List.mem_append] at hz
  rcases hz with hz | hz | hz | hz
  · exact be_byte _ _ z hz
  · exact be_byte _ _ z hz
  · exact h z hz
  · have := List.eq_of_mem_replicate hz; omega
theorem Sh.all_u8 {s : Sh} {l : List (Int × List Int)} (h : ∀ x ∈ l, U8 x.2) : U8 (s.all l) := by
  intro z hz
  obtain ⟨y, hy, hzy⟩ := List.mem_flatten.1 hz
  obtain ⟨x, hx, rfl⟩ := List.mem_map.1 hy
  exact Sh.thing_u8 (h x hx) z hzy
theorem Sh.all_len {s : Sh} (hm : s.may = true) {l : List (Int × List Int)} (h : l.all s.good = true) : (s.all l).length ≤ 70000 * l.length := by
  induction l with
  | nil => simp [Sh.all]
  | cons x l ih =>
    simp only [List.all_cons, Bool.and_eq_true] at h
    have h1 := ih h.2
    have h2 := s.thing_len x
    have h3 := Sh.zeros_lt hm (4 + x.2.length)
    have h4 := h.1
    simp only [Sh.good, Bool.and_eq_true, decide_eq_true_eq] at h4
    have e : s.all (x :: l) = s.thing x ++ s.all l := by simp [Sh.all]
    rw [e, List.length_append, List.length_cons]
    omega

/-- Since w a shape has been laid; it stands. -/
structure Sh1 (w : World) (s : Sh) (w' : World) : Prop where
  below : Below w.heap.size w w'
  size : w.heap.size + 1 ≤ w'.heap.size
  sh : w'.heap[w.heap.size]? = some (.cells #[.int .i64 s.least, .int .i64 s.step, .bool s.pad, .int .i64 s.bad, .int .i64 s.odd] 24 (0, 0))
theorem Sh1.start (w : World) (s : Sh) : Sh1 w s (w.alloc (.cells #[.int .i64 s.least, .int .i64 s.step, .bool s.pad, .int .i64 s.bad, .int .i64 s.odd] 24)) where
  below := below_alloc2 _
  size := by simp
  sh := heap_alloc_new w _
theorem Sh1.step {w w1 w2 : World} {s : Sh} {B : Nat} (h : Sh1 w s w1) (hb : Below B w1 w2) (hB : w.heap.size + 1 ≤ B) : Sh1 w s w2 where
  below := h.below.trans (hb.mono (by omega))
  size := Nat.le_trans h.size hb.size
  sh := (hb.block _ (by omega)).trans h.sh
theorem Sh1.cells {w w' : World} {s : Sh} (h : Sh1 w s w') :
    w'.cell? ⟨w.heap.size, 0, none⟩ = some (.int .i64 s.least) ∧ w'.cell? ⟨w.heap.size, 1, none⟩ = some (.int .i64 s.step) ∧ w'.cell? ⟨w.heap.size, 2, none⟩ = some (.bool s.pad) ∧ w'.cell? ⟨w.heap.size, 3, none⟩ = some (.int .i64 s.bad) ∧ w'.cell? ⟨w.heap.size, 4, none⟩ = some (.int .i64 s.odd) :=
  ⟨cell_row h.sh 0, cell_row h.sh 1, cell_row h.sh 2, cell_row h.sh 3, cell_row h.sh 4⟩

/-- What Join hands back. -/
def GotJoin (s : Sh) (l : List (Int × List Int)) (w : World) (e : Ending) (w' : World) : Prop :=
  ∃ v, e = .returned (.tuple #[v, .int .i64 (s.join l).2]) ∧ w'.ownsRow w.heap.size 5 1 v (s.join l).1.length ((s.join l).1.map (Value.int .u8)) ∧ U8 (s.join l).1 ∧ Below w.heap.size w w'
theorem GotJoin.none {s : Sh} {l : List (Int × List Int)} {w w' : World} (h : (s.may && l.all s.good) = false) (hb : Below w.heap.size w w') : GotJoin s l w (.returned (.tuple #[.slice none 0 0, .int .i64 10001])) w' := by
  have : s.join l = ([], 10001) := by rw [Sh.join, if_neg (by simp [h])]
  unfold GotJoin
  rw [this]
  exact ⟨_, rfl, World.ownsRow_nil _ _ _ _, fun z hz => by simp at hz, hb⟩


/-- While a thing is written: the shape, the thing's copy, its bytes, and what has been written so far. -/
structure J2 (w : World) (s : Sh) (w' : World) (X : Nat) (t : Int) (bv : Value) (bs : List Int) (r : Value) (xs : List Int) : Prop where
  sh : Sh1 w s w'
  item : w'.heap[X]? = some (.cells #[.int .i64 t, bv] 28 (0, 0))
  ints : Ints .u8 w' bv bs
  own : w'.ownsRow (w.heap.size + 1) 5 1 r xs.length (xs.map (Value.int .u8))
theorem J2.start {w w1 : World} {s : Sh} {t : Int} {bv r : Value} {bs xs : List Int} (h : Sh1 w s w1) (hi : Ints .u8 w1 bv bs) (ho : w1.ownsRow (w.heap.size + 1) 5 1 r xs.length (xs.map (Value.int .u8))) :
    J2 w s (w1.alloc (.cells #[.int .i64 t, bv] 28)) w1.heap.size t bv bs r xs where
  sh := h.step (below_alloc2 _) h.size
  item := heap_alloc_new _ _
  ints := hi.alloc _
  own := own_below ho (below_alloc2 _)
theorem J2.below {w w1 w2 : World} {s : Sh} {X : Nat} {t : Int} {bv r : Value} {bs xs : List Int} (h : J2 w s w1 X t bv bs r xs) (hb : Below w1.heap.size w1 w2) : J2 w s w2 X t bv bs r xs where
  sh := h.sh.step hb h.sh.size
  item := (hb.block X (Array.getElem?_eq_some_iff.1 h.item).1).trans h.item
  ints := h.ints.below hb
  own := own_below h.own hb
theorem J2.cells {w w' : World} {s : Sh} {X : Nat} {t : Int} {bv r : Value} {bs xs : List Int} (h : J2 w s w' X t bv bs r xs) :
    w'.cell? ⟨w.heap.size, 0, none⟩ = some (.int .i64 s.least) ∧ w'.cell? ⟨w.heap.size, 1, none⟩ = some (.int .i64 s.step) ∧ w'.cell? ⟨w.heap.size, 2, none⟩ = some (.bool s.pad) ∧ w'.cell? ⟨w.heap.size, 3, none⟩ = some (.int .i64 s.bad) ∧ w'.cell? ⟨w.heap.size, 4, none⟩ = some (.int .i64 s.odd) ∧
    w'.cell? ⟨X, 0, none⟩ = some (.int .i64 t) ∧ w'.cell? ⟨X, 1, none⟩ = some bv :=
  ⟨cell_row h.sh.sh 0, cell_row h.sh.sh 1, cell_row h.sh.sh 2, cell_row h.sh.sh 3, cell_row h.sh.sh 4, cell_row h.item 0, cell_row h.item 1⟩
theorem zeros_map (n : Nat) : List.replicate n (Value.int .u8 0) = (List.replicate n (0 : Int)).map (Value.int .u8) := by simp
theorem zeros_wf (n : Nat) : ∀ z ∈ List.replicate n (0 : Int), (Lit.int .u8 z).wf = true := fun z hz => by
  have := List.eq_of_mem_replicate hz
  subst this
  rfl
end Go.Proofs.Ytoobcgakainelaa
