/- The walk of tlv.One. Conditions: the argument reads as bytes, at most 10^9. -/
import Derived.Test.YtoobcgakainelaaTlvA
import Derived.Test.YtoobcgakainelaaCurB
import Derived.Great.BuildSlice
namespace Go.Proofs.Ytoobcgakainelaa
open Go.RowKit
set_option maxRecDepth 100000
set_option maxHeartbeats 4000000

theorem s22_short {bs : List Int} (h : bs.length < 4) : getS [2, 2] bs = ([], 1) := by
  have hr : RightS [2, 2] = true := by decide
  refine getS_err hr ?_
  by_cases h1 : bs.length < 2
  · simp [getL, h1]
  · have h2 : bs.length - 2 < 2 := by omega
    simp [getL, Except.map, List.length_drop, h1, h2]
theorem s22_fine {bs : List Int} (h : 4 ≤ bs.length) : getS [2, 2] bs = ([valL (bs.take 2), valL ((bs.drop 2).take 2)], 0) := by
  have hr : RightS [2, 2] = true := by decide
  refine getS_ok hr ?_
  have h1 : ¬ bs.length < 2 := by omega
  have h2 : ¬ bs.length - 2 < 2 := by omega
  simp [getL, Except.map, List.length_drop, h1, h2]
theorem sz_row {s : St} {k : Nat} (h : s.er = 0) (h1 : 1 ≤ k) (h2 : k ≤ 64) (hk : k ≤ s.rest.length) :
    s.row [-(k : Int)] = if (s.rest.take k).all (· == 0) then ({ s with pos := s.pos + k }, []) else (s.fail s.od, []) := by
  have hr : RightS [-(k : Int)] = true := by
    simp [RightS, okW]; omega
  have hn : (-(k : Int)).natAbs = k := by omega
  have hp : ¬ (0 : Int) < -(k : Int) := by omega
  have hl : ¬ s.rest.length < k := by omega
  cases hz : (s.rest.take k).all (· == 0) with
  | true =>
    have hg : getS [-(k : Int)] s.rest = ([], 0) := getS_ok hr (by simp only [getL]; rw [hn, if_neg hl, if_neg hp, if_pos hz])
    rw [row_fine h (by rw [hg]), hg]
    simp [sizeS, hr, sizeL, hn]
  | false =>
    have hg : getS [-(k : Int)] s.rest = ([], 2) := getS_err hr (by simp only [getL]; rw [hn, if_neg hl, if_neg hp, hz]; rfl)
    rw [row_odd h (by rw [hg])]
    rfl

/-- What One hands back. -/
def GotOne (s : Sh) (bs : List Int) (w : World) (e : Ending) (w' : World) : Prop :=
  ∃ bv, e = .returned (.tuple #[.agg #[.int .i64 (s.one bs).1.1, bv], .int .i64 ((s.one bs).2.1 : Nat), .int .i64 (s.one bs).2.2]) ∧ w'.ownsRow w.heap.size 5 1 bv (s.one bs).1.2.length ((s.one bs).1.2.map (Value.int .u8)) ∧ U8 (s.one bs).1.2 ∧ Below w.heap.size w w'

theorem GotOne.none {s : Sh} {bs : List Int} {w w' : World} {x : Int} (h : s.one bs = ((0, []), 0, x)) (hb : Below w.heap.size w w') : GotOne s bs w (.returned (.tuple #[.agg #[.int .i64 0, .slice none 0 0], .int .i64 0, .int .i64 x])) w' := by
  unfold GotOne
  rw [h]
  exact ⟨_, rfl, World.ownsRow_nil _ _ _ _, fun z hz => by simp at hz, hb⟩



theorem res_row_tmp_tmp {P : Program} {fn : Func} {p u v : Tmp} {ty : TypeId} (h : fn.results = #[.cell p ty, .tmp u, .tmp v]) (tmps : Array Value) (w : World) (g : Nat) (t : TypeId) (cs : Array Value) (fr : Nat × Nat) (d : TypeDesc)
    (hp : tmps.getD p undef = .pointer (some ⟨g, 0, none⟩)) (hg : w.heap[g]? = some (.cells cs t fr))
    (hu : P.underlying ty = some d) (hd : (match d with | .struct _ | .array _ _ => true | _ => false) = true) (hi : (P.info? ty).map (·.size) = some cs.size) :
    (results fn tmps).run P w = .ok (.tuple #[.agg cs, tmps.getD u undef, tmps.getD v undef]) w := by
  have hp' : tmps[p]?.getD undef = .pointer (some ⟨g, 0, none⟩) := by simpa using hp
  simp [results, h, hp', asAddr, run_loadVar_row w g t ty cs fr d hg hu hd hi]
theorem below_setRow {B g : Nat} {w0 w : World} (h : Below B w0 w) (hg : B ≤ g) (cs : Array Value) : Below B w0 (w.setRow g cs) :=
  ⟨h.os, h.tape, h.output, by rw [setRow_size]; exact h.size, fun k hk => (setRow_other w g k cs (by omega)).trans (h.block k hk)⟩

theorem below_row {B : Nat} {w w1 w2 : World} {p : Nat} (hb : Below B w w1) (hs : B ≤ w1.heap.size) (hg : w1.grownBy w2 (some p)) (hp : B ≤ p) : Below B w w2 :=
  hb.grown hg hs fun k e => by injection e with e; omega

/-- Since w, two blocks have been laid: a shape, and a thing of no bytes; they stand. -/
structure Two0 (w : World) (s : Sh) (w' : World) : Prop where
  below : Below w.heap.size w w'
  size : w.heap.size + 2 ≤ w'.heap.size
  sh : w'.heap[w.heap.size]? = some (.cells #[.int .i64 s.least, .int .i64 s.step, .bool s.pad, .int .i64 s.bad, .int .i64 s.odd] 24 (0, 0))
  res : w'.heap[w.heap.size + 1]? = some (.cells #[.int .i64 0, .slice none 0 0] 28 (0, 0))

theorem Two0.start (w : World) (s : Sh) : Two0 w s ((w.alloc (.cells #[.int .i64 s.least, .int .i64 s.step, .bool s.pad, .int .i64 s.bad, .int .i64 s.odd] 24)).alloc (.cells #[.int .i64 0, .slice none 0 0] 28)) where
  below := ((Below.refl _ w).alloc (Nat.le_refl _) _).alloc (by simp) _
  size := by simp
  sh := (heap_alloc_old _ _ (by simp)).trans (heap_alloc_new w _)
  res := by have := heap_alloc_new (w.alloc (.cells #[.int .i64 s.least, .int .i64 s.step, .bool s.pad, .int .i64 s.bad, .int .i64 s.odd] 24)) (.cells #[.int .i64 0, .slice none 0 0] 28); simpa using this
theorem Two0.step {w w1 w2 : World} {s : Sh} {B : Nat} (h : Two0 w s w1) (hb : Below B w1 w2) (hB : w.heap.size + 2 ≤ B) : Two0 w s w2 where
  below := h.below.trans (hb.mono (by omega))
  size := Nat.le_trans h.size hb.size
  sh := (hb.block _ (by omega)).trans h.sh
  res := (hb.block _ (by omega)).trans h.res
theorem Two0.row {w w1 w2 : World} {s : Sh} {p : Nat} (h : Two0 w s w1) (hg : w1.grownBy w2 (some p)) (hp : w.heap.size + 2 ≤ p) : Two0 w s w2 :=
  h.step (below_row (Below.refl (w.heap.size + 2) w1) h.size hg hp) (Nat.le_refl _)


theorem cell_row {w : World} {g : Nat} {cs : Array Value} {t : TypeId} {fr : Nat × Nat} (h : w.heap[g]? = some (.cells cs t fr)) (i : Nat) : w.cell? ⟨g, i, none⟩ = cs[i]? := by
  simp only [World.cell?, h]
  rfl
theorem frozen_row {w : World} {g : Nat} {cs : Array Value} {t : TypeId} (h : w.heap[g]? = some (.cells cs t (0, 0))) (i : Nat) : w.frozen? ⟨g, i, none⟩ = false := by
  simp [World.frozen?, h]
theorem Two0.cells {w w' : World} {s : Sh} (h : Two0 w s w') :
    w'.cell? ⟨w.heap.size, 0, none⟩ = some (.int .i64 s.least) ∧ w'.cell? ⟨w.heap.size, 1, none⟩ = some (.int .i64 s.step) ∧ w'.cell? ⟨w.heap.size, 2, none⟩ = some (.bool s.pad) ∧ w'.cell? ⟨w.heap.size, 3, none⟩ = some (.int .i64 s.bad) ∧ w'.cell? ⟨w.heap.size, 4, none⟩ = some (.int .i64 s.odd) ∧
    w'.cell? ⟨w.heap.size + 1, 0, none⟩ = some (.int .i64 0) ∧ w'.cell? ⟨w.heap.size + 1, 1, none⟩ = some (.slice none 0 0) ∧ w'.frozen? ⟨w.heap.size + 1, 0, none⟩ = false ∧ w'.frozen? ⟨w.heap.size + 1, 1, none⟩ = false :=
  ⟨cell_row h.sh 0, cell_row h.sh 1, cell_row h.sh 2, cell_row h.sh 3, cell_row h.sh 4, cell_row h.res 0, cell_row h.res 1, frozen_row h.res 0, frozen_row h.res 1⟩
theorem rows2 {w : World} {g : Nat} {o0 o1 : Value} {t : TypeId} (h : w.heap[g]? = some (.cells #[o0, o1] t (0, 0))) (v0 v1 : Value) :
    ((w.setCell ⟨g, 0, none⟩ v0).setCell ⟨g, 1, none⟩ v1).heap[g]? = some (.cells #[v0, v1] t (0, 0)) ∧ w.grownBy ((w.setCell ⟨g, 0, none⟩ v0).setCell ⟨g, 1, none⟩ v1) (some g) := by
  have y1 := heap_put h 0 v0
  have y2 := heap_put y1 1 v1
  exact ⟨y2, grown_trans (grown_put _ _ _ _) (grown_put _ _ _ _)⟩
/-- The result's block, stored. -/
theorem Two0.set {w w' : World} {s : Sh} (h : Two0 w s w') (v0 v1 : Value) :
    ((w'.setCell ⟨w.heap.size + 1, 0, none⟩ v0).setCell ⟨w.heap.size + 1, 1, none⟩ v1).heap[w.heap.size + 1]? = some (.cells #[v0, v1] 28 (0, 0)) ∧ Below w.heap.size w ((w'.setCell ⟨w.heap.size + 1, 0, none⟩ v0).setCell ⟨w.heap.size + 1, 1, none⟩ v1) :=
  ⟨(rows2 h.res v0 v1).1, below_row h.below h.below.size (rows2 h.res v0 v1).2 (by omega)⟩
end Go.Proofs.Ytoobcgakainelaa
