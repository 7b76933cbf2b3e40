/- What the law 'CursorReads' keeps from round to round, and how its steps keep it. Conditions: none beyond each lemma's own. -/
import Derived.Test.YtdljlcbjpfgmcaaCrJ
namespace Go.Proofs.Ytdljlcbjpfgmcaa
open Go.RowKit

/-- What holds ahead of each round: w the world of the call, H how many blocks there were when the cursors began, pd the block of the document's cursor. -/
structure Inv (w wr : World) (H pd n : Nat) (v5 : Value) (p : Nat) (B : Nat × Nat) (s : St) (vB : Value) (ys : List Int) : Prop where
  cur : Cur B wr p s
  from_ : H ≤ B.1
  upto : B.2 ≤ wr.heap.size
  sh : s.sh ≠ 0
  doc : wr.heap[pd]? = some (.cells (docA vB s) 62 (0, 0))
  apart : pd < B.1 ∨ B.2 ≤ pd
  bytes : Ints .u8 wr vB s.bs
  free : s.bs = [] ∨ ∀ k, vB.ownBlock = some k → (k < w.heap.size ∨ pd < k) ∧ (k < B.1 ∨ B.2 ≤ k)
  own : wr.ownsRow w.heap.size 5 1 v5 n (ys.map (Value.int .u8))
  owned : ∀ k, v5.ownBlock = some k → k < H
  below : Below w.heap.size w wr
  base : w.heap.size ≤ H
  hpd : H ≤ pd

theorem Inv.later {w wr w' : World} {H pd n : Nat} {v5 : Value} {p : Nat} {B : Nat × Nat} {s : St} {vB : Value} {ys : List Int} (h : Inv w wr H pd n v5 p B s vB ys) (hb : Below wr.heap.size wr w') : Inv w w' H pd n v5 p B s vB ys :=
  ⟨h.cur.below hb, h.from_, Nat.le_trans h.upto hb.size, h.sh, (hb.block pd (Array.getElem?_eq_some_iff.1 h.doc).1).trans h.doc, h.apart, h.bytes.below hb, h.free, own_below h.own hb, h.owned, h.below.trans (hb.mono h.below.size), h.base, h.hpd⟩

theorem Inv.notp {w wr : World} {H pd n : Nat} {v5 : Value} {p : Nat} {B : Nat × Nat} {s : St} {vB : Value} {ys : List Int} (h : Inv w wr H pd n v5 p B s vB ys) : s.bs = [] ∨ ∀ k, vB.ownBlock = some k → k ≠ p := by
  rcases h.free with h0 | h0
  · exact .inl h0
  · refine .inr fun k e => ?_
    have := (h0 k e).2
    have := h.cur.from
    have := h.cur.upto
    omega

theorem Inv.pd_ne {w wr : World} {H pd n : Nat} {v5 : Value} {p : Nat} {B : Nat × Nat} {s : St} {vB : Value} {ys : List Int} (h : Inv w wr H pd n v5 p B s vB ys) : pd ≠ p := by
  have := h.apart
  have := h.cur.from
  have := h.cur.upto
  omega

/-- op's answer, then the store of the document's cursor into its variable. -/
theorem Inv.op {w wr w6 w7 : World} {H pd n : Nat} {v5 : Value} {p q : Nat} {B B' : Nat × Nat} {s s' : St} {vB v' : Value} {ys : List Int} (h : Inv w wr H pd n v5 p B s vB ys)
    (hc : Cur B' w6 q s') (hi : Ints .u8 w6 v' s'.bs) (hsh : s'.sh ≠ 0) (hB : B'.2 ≤ w6.heap.size) (hg : wr.grownBy w6 (some p))
    (hd : (v' = vB ∧ B' = B ∧ s'.bs = s.bs) ∨ (wr.heap.size ≤ B'.1 ∧ (s'.bs = [] ∨ ∀ k, v'.ownBlock = some k → wr.heap.size ≤ k ∧ k < B'.1)))
    (hz : w6.grownBy w7 (some pd)) (hy : w7.heap[pd]? = some (.cells (docA v' s') 62 (0, 0))) : Inv w w7 H pd n v5 q B' s' v' ys := by
  have hps : pd < wr.heap.size := (Array.getElem?_eq_some_iff.1 h.doc).1
  have hp := h.cur.lt
  have hp1 := h.cur.from
  have hf := h.from_
  have hap : pd < B'.1 ∨ B'.2 ≤ pd := by
    rcases hd with ⟨-, rfl, -⟩ | ⟨h1, -⟩
    · exact h.apart
    · exact .inl (by omega)
  have hfr : s'.bs = [] ∨ ∀ k, v'.ownBlock = some k → (k < w.heap.size ∨ pd < k) ∧ (k < B'.1 ∨ B'.2 ≤ k) := by
    rcases hd with ⟨rfl, rfl, h3⟩ | ⟨h1, h2⟩
    · rw [h3]; exact h.free
    · rcases h2 with h2 | h2
      · exact .inl h2
      · exact .inr fun k e => ⟨.inr (by have := (h2 k e).1; omega), .inl (h2 k e).2⟩
  have hH : H ≤ B'.1 := by
    rcases hd with ⟨-, rfl, -⟩ | ⟨h1, -⟩
    · exact hf
    · omega
  refine ⟨hc.grown hz (fun k e => by injection e with e; subst e; exact hap), hH, Nat.le_trans hB hz.size, hsh, hy, hap, ?_, hfr, ?_, h.owned, ?_, h.base, h.hpd⟩
  · refine ints_apart hi hz ?_
    rcases hfr with h0 | h0
    · exact .inl h0
    · refine .inr fun k e => ?_
      have := (h0 k e).1
      have := h.base
      have := h.hpd
      omega
  · have o6 := h.own.kept hg (.inr fun e => by have := h.owned p e; omega)
    exact o6.kept hz (.inr fun e => by have := h.owned pd e; have := h.hpd; omega)
  · have hb := h.base
    exact below_row5 (below_row5 h.below h.below.size hg (by omega)) (Nat.le_trans h.below.size hg.size) hz (by have := h.hpd; omega)

/-- A store into one's own bytes. -/
theorem Inv.put {w wr : World} {H pd n cap g : Nat} {p : Nat} {B : Nat × Nat} {s : St} {vB : Value} {ys : List Int} (h : Inv w wr H pd n (.slice (some ⟨g, 0, none⟩) n cap) p B s vB ys) (j : Nat) (z : Int) :
    Inv w (wr.setCell ⟨g, j, none⟩ (.int .u8 z)) H pd n (.slice (some ⟨g, 0, none⟩) n cap) p B s vB (ys.set j z) := by
  have hgH : g < H := h.owned g rfl
  have hwg : w.heap.size ≤ g := (h.own.lt g rfl).1
  have hf := h.from_
  have hpd := h.hpd
  have hg := grown_put wr g j (.int .u8 z)
  refine ⟨h.cur.grown hg (fun k e => .inl (by injection e with e; omega)), h.from_, Nat.le_trans h.upto hg.size, h.sh, (hg.block pd (Array.getElem?_eq_some_iff.1 h.doc).1 (by intro e; injection e; omega)).trans h.doc, h.apart, ?_, h.free, ?_, h.owned, below_row5 h.below h.below.size hg hwg, h.base, h.hpd⟩
  · refine ints_apart h.bytes hg ?_
    rcases h.free with h0 | h0
    · exact .inl h0
    · exact .inr fun k e => by have := (h0 k e).1; omega
  · have := (h.own.stored j (.int .u8 z)).1
    rw [List.map_set]
    exact this
end Go.Proofs.Ytdljlcbjpfgmcaa
