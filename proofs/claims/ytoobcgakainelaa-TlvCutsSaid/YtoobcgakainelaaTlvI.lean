/- What tlv.Cut has collected while it ranges over the things: the rows it owns, and how they last. Conditions: none beyond each lemma's own. -/
import Derived.Test.YtoobcgakainelaaNest
import Derived.Test.YtoobcgakainelaaTlvP
import Derived.RangeFuncRecord
namespace Go.Proofs.Ytoobcgakainelaa
open Go Go.RowKit

/-- Whatever lies from block L on is as it was. -/
def Agree (L : Nat) (W W' : World) : Prop := W.heap.size ≤ W'.heap.size ∧ ∀ k, L ≤ k → k < W.heap.size → W'.heap[k]? = W.heap[k]?

theorem own_agree {L e size n : Nat} {W W' : World} {v : Value} {xs : List Value} (h : W.ownsRow L e size v n xs) (ha : Agree L W W') : W'.ownsRow L e size v n xs := by
  obtain ⟨hl, h0 | ⟨g, cap, cur, rfl, h1, h2, r⟩⟩ := h
  · exact ⟨hl, .inl h0⟩
  · exact ⟨hl, .inr ⟨g, cap, cur, rfl, h1, (ha.2 g h1 (Array.getElem?_eq_some_iff.1 h2).1).trans h2, r⟩⟩

/-- Rows of two types lie in two blocks. -/
theorem own_apart {L L' e e' size size' n n' b : Nat} {W : World} {v v' : Value} {xs xs' : List Value} (h : W.ownsRow L e size v n xs) (h' : W.ownsRow L' e' size' v' n' xs') (he : e ≠ e') (hb : v.ownBlock = some b) : v'.ownBlock ≠ some b := by
  intro hb'
  obtain ⟨-, ⟨rfl, -⟩ | ⟨g, cap, cur, rfl, -, h2, -⟩⟩ := h
  · cases hb
  · obtain ⟨-, ⟨rfl, -⟩ | ⟨g', cap', cur', rfl, -, h2', -⟩⟩ := h'
    · cases hb'
    · have e1 : g = b := by simpa [Value.ownBlock] using hb
      have e2 : g' = b := by simpa [Value.ownBlock] using hb'
      subst e1
      subst e2
      rw [h2] at h2'
      injection h2' with h3
      injection h3 with h4 h5 h6
      exact he h5

/-- The things collected: v owns their cells, each owns its bytes. -/
def OutRows (L : Nat) (W : World) (v : Value) (pre : List (Int × List Int)) : Prop :=
  ∃ xs : List Value, W.ownsRow L 28 2 v pre.length xs ∧ ∀ i t zs, pre[i]? = some (t, zs) → ∃ bv, xs[i * 2]? = some (.int .i64 t) ∧ xs[i * 2 + 1]? = some bv ∧ W.ownsRow L 5 1 bv zs.length (zs.map (Value.int .u8)) ∧ U8 zs ∧ (0 ≤ t ∧ t < 65536)

theorem OutRows.nil (L : Nat) (W : World) : OutRows L W (.slice none 0 0) [] := ⟨[], World.ownsRow_nil _ _ _ _, fun i t zs h => by simp at h⟩
theorem OutRows.agree {L : Nat} {W W' : World} {v : Value} {pre : List (Int × List Int)} (h : OutRows L W v pre) (ha : Agree L W W') : OutRows L W' v pre := by
  obtain ⟨xs, ho, hx⟩ := h
  refine ⟨xs, own_agree ho ha, fun i t zs hi => ?_⟩
  obtain ⟨bv, h1, h2, h3, h4⟩ := hx i t zs hi
  exact ⟨bv, h1, h2, own_agree h3 ha, h4⟩

/-- One thing more. -/
theorem OutRows.snoc {L : Nat} {W W' : World} {v v' bv : Value} {pre : List (Int × List Int)} {t : Int} {zs : List Int} (hb : W.ownsRow L 5 1 bv zs.length (zs.map (Value.int .u8))) (hu : U8 zs) (ht : 0 ≤ t ∧ t < 65536)
    (hg : W.grownBy W' v.ownBlock) {xs : List Value} (ho : W.ownsRow L 28 2 v pre.length xs) (hx : ∀ i t zs, pre[i]? = some (t, zs) → ∃ bv, xs[i * 2]? = some (.int .i64 t) ∧ xs[i * 2 + 1]? = some bv ∧ W.ownsRow L 5 1 bv zs.length (zs.map (Value.int .u8)) ∧ U8 zs ∧ (0 ≤ t ∧ t < 65536))
    (hn : W'.ownsRow L 28 2 v' (pre.length + 1) (xs ++ [.int .i64 t, bv])) : OutRows L W' v' (pre ++ [(t, zs)]) := by
  have hlen : xs.length = pre.length * 2 := ho.1
  have keep : ∀ {bv : Value} {zs : List Int}, W.ownsRow L 5 1 bv zs.length (zs.map (Value.int .u8)) → W'.ownsRow L 5 1 bv zs.length (zs.map (Value.int .u8)) := fun {bv zs} hb => by
    refine hb.kept hg ?_
    cases hv : bv.ownBlock with
    | none => exact .inl rfl
    | some g => exact .inr fun e => own_apart hb ho (by decide) hv e.symm
  refine ⟨xs ++ [.int .i64 t, bv], by simpa using hn, fun i t' zs' hi => ?_⟩
  by_cases hlt : i < pre.length
  · rw [List.getElem?_append_left hlt] at hi
    obtain ⟨bv', h1, h2, h3, h4⟩ := hx i t' zs' hi
    refine ⟨bv', ?_, ?_, keep h3, h4⟩
    · rw [List.getElem?_append_left (by omega)]; exact h1
    · rw [List.getElem?_append_left (by omega)]; exact h2
  · rw [List.getElem?_append_right (by omega)] at hi
    have h0 : i - pre.length = 0 := by
      rcases Nat.eq_zero_or_pos (i - pre.length) with h0 | h0
      · exact h0
      · rw [List.getElem?_eq_none (by simp; omega)] at hi; cases hi
    rw [h0] at hi
    have e : t = t' ∧ zs = zs' := by simpa using hi
    obtain ⟨rfl, rfl⟩ := e
    obtain rfl : i = pre.length := by omega
    refine ⟨bv, ?_, ?_, keep hb, hu, ht⟩
    · rw [List.getElem?_append_right (by omega), show pre.length * 2 - xs.length = 0 by omega]; rfl
    · rw [List.getElem?_append_right (by omega), show pre.length * 2 + 1 - xs.length = 1 by omega]; rfl

theorem OutRows.rows {L : Nat} {W : World} {v : Value} {pre : List (Int × List Int)} (h : OutRows L W v pre) : RowsOf ItemR 2 W v pre := by
  obtain ⟨xs, ho, hx⟩ := h
  obtain ⟨a, cap, b, off, h1, h2, h3, h4, h5, h6⟩ := Sl.of_own ho
  refine ⟨a, cap, b, off, h1, h2, h3, h4, h5, fun i x hi => ?_⟩
  obtain ⟨bv, q1, q2, q3, q4, q5⟩ := hx i x.1 x.2 hi
  refine ⟨[.int .i64 x.1, bv], rfl, ⟨bv, rfl, Ints.of_own q3 q4.wf, wf_i64 (by omega) (by omega)⟩, fun j u hu => ?_⟩
  have at_ : ∀ j' u', xs[j']? = some u' → W.cell? ⟨b, off + j', none⟩ = some u' := fun j' u' hj => by
    have := h6 j' (List.getElem?_eq_some_iff.1 hj).1
    rw [this, List.getD_eq_getElem?_getD, hj]
    rfl
  match j, hu with
  | 0, hu => simp at hu; subst hu; exact at_ _ _ q1
  | 1, hu => simp at hu; subst hu; exact at_ _ _ q2
theorem OutRows.slice {L : Nat} {W : World} {v : Value} {pre : List (Int × List Int)} (h : OutRows L W v pre) : ∃ a cap, v = .slice a pre.length cap := by
  obtain ⟨xs, ho, -⟩ := h; exact own_slice ho
theorem agree_below {L : Nat} {W W' : World} (h : Below W.heap.size W W') : Agree L W W' := ⟨h.size, fun k _ hk => h.block k hk⟩
theorem OutRows.low {L L' : Nat} {W : World} {v : Value} {pre : List (Int × List Int)} (h : OutRows L W v pre) (hL : L' ≤ L) : OutRows L' W v pre := by
  obtain ⟨xs, ho, hx⟩ := h
  refine ⟨xs, own_base ho hL, fun i t zs hi => ?_⟩
  obtain ⟨bv, h1, h2, h3, h4⟩ := hx i t zs hi
  exact ⟨bv, h1, h2, own_base h3 hL, h4⟩

/-! ### the caller's blocks: its shape at w's end, two results, and what it collects -/
structure CutI (w : World) (L O : Nat) (pre : List (Int × List Int)) (W : World) : Prop where
  below : Below w.heap.size w W
  r1 : W.heap[w.heap.size + 1]? = some (.cells #[.slice none 0 0] 37 (0, 0))
  r2 : W.heap[w.heap.size + 2]? = some (.cells #[.int .i64 0] 22 (0, 0))
  ord : w.heap.size + 2 < O ∧ O < L
  out : ∃ v, W.heap[O]? = some (.cells #[v] 37 (0, 0)) ∧ OutRows L W v pre

/-- A block of another's, below L, may turn. -/
theorem CutI.turn {w W W' : World} {L O r : Nat} {pre : List (Int × List Int)} (h : CutI w L O pre W) (hg : W.grownBy W' (some r)) (h1 : O < r) (h2 : r < L) : CutI w L O pre W' where
  below := h.below.grown hg h.below.size (fun k e => by injection e with e; have := h.ord; omega)
  r1 := (hg.block _ (Array.getElem?_eq_some_iff.1 h.r1).1 (fun e => by injection e with e; have := h.ord; omega)).trans h.r1
  r2 := (hg.block _ (Array.getElem?_eq_some_iff.1 h.r2).1 (fun e => by injection e with e; have := h.ord; omega)).trans h.r2
  ord := h.ord
  out := by
    obtain ⟨v, hv, ho⟩ := h.out
    exact ⟨v, (hg.block O (Array.getElem?_eq_some_iff.1 hv).1 (fun e => by injection e with e; omega)).trans hv, ho.agree ⟨hg.size, fun k hk hk' => hg.block k hk' (fun e => by injection e with e; omega)⟩⟩
theorem CutI.later {w W W' : World} {L O : Nat} {pre : List (Int × List Int)} (h : CutI w L O pre W) (hb : Below W.heap.size W W') : CutI w L O pre W' where
  below := h.below.trans (hb.mono h.below.size)
  r1 := (hb.block _ (Array.getElem?_eq_some_iff.1 h.r1).1).trans h.r1
  r2 := (hb.block _ (Array.getElem?_eq_some_iff.1 h.r2).1).trans h.r2
  ord := h.ord
  out := by
    obtain ⟨v, hv, ho⟩ := h.out
    exact ⟨v, (hb.block O (Array.getElem?_eq_some_iff.1 hv).1).trans hv, ho.agree (agree_below hb)⟩

/-- What a round that leaves has stored. -/
structure CutX (w : World) (L : Nat) (er : Int) (W : World) : Prop where
  below : Below w.heap.size w W
  r1 : W.heap[w.heap.size + 1]? = some (.cells #[.slice none 0 0] 37 (0, 0))
  r2 : W.heap[w.heap.size + 2]? = some (.cells #[.int .i64 er] 22 (0, 0))
  ord : w.heap.size + 2 < L
theorem CutX.turn {w W W' : World} {L r : Nat} {er : Int} (h : CutX w L er W) (hg : W.grownBy W' (some r)) (h1 : w.heap.size + 2 < r) : CutX w L er W' where
  below := h.below.grown hg h.below.size (fun k e => by injection e with e; omega)
  r1 := (hg.block _ (Array.getElem?_eq_some_iff.1 h.r1).1 (fun e => by injection e with e; omega)).trans h.r1
  r2 := (hg.block _ (Array.getElem?_eq_some_iff.1 h.r2).1 (fun e => by injection e with e; omega)).trans h.r2
  ord := h.ord
end Go.Proofs.Ytoobcgakainelaa
