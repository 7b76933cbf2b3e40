/- Law 02's op of any operation, in one shape. Conditions: none beyond the lemma's own. -/
import Derived.Test.YtdljlcbjpfgmcaaCrI
namespace Go.Proofs.Ytdljlcbjpfgmcaa
open Go.RowKit

/-- What op hands back: a cursor, the document's cursor that stands as it, and 'alike'. -/
def OpU (B : Nat × Nat) (w : World) (p : Nat) (vB : Value) (s : St) (e : Ending) (w' : World) : Prop :=
  ∃ (q : Nat) (a : Option Addr) (c : Nat) (B' : Nat × Nat) (s' : St), e = .returned (.tuple #[.pointer (some ⟨q, 0, none⟩), .agg (docA (.slice a s'.bs.length c) s'), .bool true]) ∧ Cur B' w' q s' ∧ Ints .u8 w' (.slice a s'.bs.length c) s'.bs ∧ s'.sh ≠ 0 ∧ B'.2 ≤ w'.heap.size ∧ w.grownBy w' (some p) ∧
    ((Value.slice a s'.bs.length c = vB ∧ B' = B ∧ s'.bs = s.bs) ∨ (w.heap.size ≤ B'.1 ∧ (s'.bs = [] ∨ ∀ k, (Value.slice a s'.bs.length c).ownBlock = some k → w.heap.size ≤ k ∧ k < B'.1)))

theorem op_u (B : Nat × Nat) (p : Nat) (s : St) (kind n : Int) (vB vw : Value) (ws : List Int) (w : World) (hc : Cur B w p s) (hB : B.2 ≤ w.heap.size) (hd : Ints .u8 w vB s.bs) (hfr : s.bs = [] ∨ ∀ k, vB.ownBlock = some k → k ≠ p) (hsh : s.sh ≠ 0) (hw : Ints .i64 w vw ws) (hn : (Lit.int .i64 n).wf = true) :
    Calls Try.prog 44 #[.pointer (some ⟨p, 0, none⟩), .agg (docA vB s), .agg #[.int .i64 kind, .int .i64 n, vw]] w (OpU B w p vB s) := by
  refine (op_any B p s kind n vB vw ws w hc hB hd hfr hsh hw hn).mono fun e w' h => ?_
  rcases h with ⟨s', h1, h2, he, hcur, hg⟩ | ⟨l, q, v, B', he, hcur, hv, hf, h1, h2, hg⟩
  · have hi := ints_apart hd hg hfr
    rw [← h1] at hi
    obtain ⟨a, c, b, o, rfl, -⟩ := hi.open
    exact ⟨p, a, c, B, s', he, hcur, hi, by rw [h2]; exact hsh, Nat.le_trans hB hg.size, hg, .inl ⟨rfl, rfl, h1⟩⟩
  · obtain ⟨a, c, b, o, rfl, -⟩ := hv.open
    exact ⟨q, a, c, B', St.fresh l 263 269, he, hcur, hv, (by show (263 : Int) ≠ 0; decide), h2, hg, .inr ⟨h1, hf⟩⟩
end Go.Proofs.Ytdljlcbjpfgmcaa
