/- Slices whose elements have several cells, and may lead to more memory: what such a slice reads as, how it lasts, how it grows, and how a walk opens it. Conditions: none beyond each lemma's own. -/
import Derived.Test.YtoobcgakainelaaCurD
namespace Go.Proofs.Ytoobcgakainelaa
open Go.RowKit

/-- The slice value v has the elements l, each of C cells that stand for it by R. -/
def RowsOf {α : Type} (R : World → α → List Value → Prop) (C : Nat) (w : World) (v : Value) (l : List α) : Prop :=
  ∃ a cap b off, v = .slice a l.length cap ∧ l.length ≤ cap ∧ cap ≤ maxLen ∧ (a = none → cap = 0) ∧ (0 < l.length → a = some ⟨b, off, none⟩) ∧
    ∀ i x, l[i]? = some x → ∃ c : List Value, c.length = C ∧ R w x c ∧ ∀ j u, c[j]? = some u → w.cell? ⟨b, off + i * C + j, none⟩ = some u

/-- It stands so in whatever world comes of this one by writing to the block row and to new ones. -/
def Safe {α : Type} (R : World → α → List Value → Prop) (w : World) (row : Option Nat) (x : α) (c : List Value) : Prop :=
  ∀ w', w.grownBy w' row → R w' x c

/-- What is so lasts while no block that was there is written. -/
def Lasts {α : Type} (R : World → α → List Value → Prop) : Prop := ∀ w w' x c, Below w.heap.size w w' → R w x c → R w' x c

theorem grown_to {w w' w'' : World} {r r' : Option Nat} (h : w.grownBy w' r) (h' : w'.grownBy w'' r') (hr : r' = r ∨ ∃ k, r' = some k ∧ w.heap.size ≤ k) : w.grownBy w'' r :=
  ⟨h'.os.trans h.os, h'.tape.trans h.tape, h'.output.trans h.output, Nat.le_trans h.size h'.size, fun k hk hne => (h'.block k (Nat.lt_of_lt_of_le hk h.size) (by
    rcases hr with rfl | ⟨k', rfl, hk'⟩
    · exact hne
    · intro e; injection e with e; omega)).trans (h.block k hk hne)⟩

theorem Safe.now {α : Type} {R : World → α → List Value → Prop} {w : World} {row : Option Nat} {x : α} {c : List Value} (h : Safe R w row x c) : R w x c := h w (World.grownBy.refl _ _)
theorem Safe.step {α : Type} {R : World → α → List Value → Prop} {w w' : World} {row row' : Option Nat} {x : α} {c : List Value} (h : Safe R w row x c) (hg : w.grownBy w' row) (hr : row' = row ∨ ∃ k, row' = some k ∧ w.heap.size ≤ k) : Safe R w' row' x c :=
  fun w'' hg' => h w'' (grown_to hg hg' hr)

theorem RowsOf.below {α : Type} {R : World → α → List Value → Prop} (hR : Lasts R) {C : Nat} {w w' : World} {v : Value} {l : List α} (h : RowsOf R C w v l) (hb : Below w.heap.size w w') : RowsOf R C w' v l := by
  obtain ⟨a, cap, b, off, h1, h2, h3, h4, h5, h6⟩ := h
  refine ⟨a, cap, b, off, h1, h2, h3, h4, h5, fun i x hx => ?_⟩
  obtain ⟨c, hc, hr, hcell⟩ := h6 i x hx
  refine ⟨c, hc, hR _ _ _ _ hb hr, fun j u hu => ?_⟩
  have := hcell j u hu
  exact (hb.cell (World.block_lt_of_cell? _ _ this)).trans this

theorem RowsOf.nil {α : Type} (R : World → α → List Value → Prop) (C : Nat) (w : World) : RowsOf R C w (.slice none 0 0) [] :=
  ⟨none, 0, 0, 0, rfl, Nat.le_refl _, by unfold maxLen; omega, fun _ => rfl, fun h => by simp at h, fun i x h => by simp at h⟩

/-- What the call owns of such a kind. -/
def OwnRows {α : Type} (R : World → α → List Value → Prop) (e C L : Nat) (w : World) (v : Value) (l : List α) : Prop :=
  ∃ xs : List Value, w.ownsRow L e C v l.length xs ∧ ∀ i x, l[i]? = some x → ∃ c : List Value, c.length = C ∧ Safe R w v.ownBlock x c ∧ ∀ j u, c[j]? = some u → xs[i * C + j]? = some u

theorem OwnRows.nil {α : Type} (R : World → α → List Value → Prop) (e C L : Nat) (w : World) : OwnRows R e C L w (.slice none 0 0) [] :=
  ⟨[], World.ownsRow_nil _ _ _ _, fun i x h => by simp at h⟩

theorem OwnRows.slice {α : Type} {R : World → α → List Value → Prop} {e C L : Nat} {w : World} {v : Value} {l : List α} (h : OwnRows R e C L w v l) : ∃ a cap, v = .slice a l.length cap := by
  obtain ⟨xs, ho, -⟩ := h; exact own_slice ho

theorem OwnRows.rows {α : Type} {R : World → α → List Value → Prop} {e C L : Nat} {w : World} {v : Value} {l : List α} (h : OwnRows R e C L w v l) : RowsOf R C w v l := by
  obtain ⟨xs, ho, hx⟩ := h
  have hlen := ho.1
  obtain ⟨a, cap, b, off, h1, h2, h3, h4, h5, h6⟩ := Sl.of_own ho
  refine ⟨a, cap, b, off, h1, h2, h3, h4, h5, fun i x hi => ?_⟩
  obtain ⟨c, hc, hs, hcell⟩ := hx i x hi
  refine ⟨c, hc, hs.now, fun j u hu => ?_⟩
  have hxu := hcell j u hu
  have hlt := (List.getElem?_eq_some_iff.1 hxu).1
  have := h6 (i * C + j) hlt
  rw [show off + i * C + j = off + (i * C + j) by omega, this, List.getD_eq_getElem?_getD, hxu]
  rfl

theorem OwnRows.grown {α : Type} {R : World → α → List Value → Prop} {e C L : Nat} {w w' : World} {v : Value} {l : List α} (h : OwnRows R e C L w v l) (hb : Below w.heap.size w w') : OwnRows R e C L w' v l := by
  obtain ⟨xs, ho, hx⟩ := h
  refine ⟨xs, own_below ho hb, fun i x hi => ?_⟩
  obtain ⟨c, hc, hs, hcell⟩ := hx i x hi
  exact ⟨c, hc, hs.step (grown_of_below hb _) (.inl rfl), hcell⟩

theorem OwnRows.low {α : Type} {R : World → α → List Value → Prop} {e C L L' : Nat} {w : World} {v : Value} {l : List α} (h : OwnRows R e C L w v l) (hL : L' ≤ L) : OwnRows R e C L' w v l := by
  obtain ⟨xs, ho, hx⟩ := h
  exact ⟨xs, own_base ho hL, hx⟩

/-- append of one new element, which lies in a block of its own. -/
theorem wpList_append_row {α : Type} {R : World → α → List Value → Prop} {P : Program} {w : World} {ops : Array Oper} {rest : List Oper} {o : Oper} {a : Act} {Q : Exit → Act → World → Prop} (hgd : o.guard = none) (s x : Operand) (t : TypeId)
    (ho : o.op = .call { callee := .builtin .append, args := #[s, x], argTypes := #[t, t] })
    (L : Nat) (e : TypeId) (z : Value) (size bytes : Nat) (ht : P.underlying t = some (.slice e)) (hinfo : (P.info? e).map (fun i => (i.zero, i.size, i.bytes)) = some (some z, size, bytes))
    (hzs : z.cells.size = size) (hsz : 0 < size)
    (v : Value) (l : List α) (y : α) (hs : a.eval s = v) (hown : OwnRows R e size L w v l)
    (cs : List Value) (hx : a.eval x = .slice (some ⟨w.heap.size, 0, none⟩) 1 1) (hl : cs.length = size) (h1 : ∀ u ∈ cs, u.oneCell' = true)
    (h63 : l.length + 1 ≤ maxLen) (hbytes : (l.length + 1) * bytes ≤ 140737488355328) (hbase : L ≤ w.heap.size)
    (hS : ∀ w' row, w.grownBy w' v.ownBlock → (row = v.ownBlock ∨ ∃ k, row = some k ∧ w.heap.size ≤ k) → Safe R w' row y cs)
    (h : ∀ v' w', OwnRows R e size L w' v' (l ++ [y]) → w.grownBy w' v.ownBlock → wpList P ops Q rest (a.put o.dst v') w') :
    wpList P ops Q (o :: rest) a (w.alloc (.cells cs.toArray e)) := by
  have hown0 := hown
  obtain ⟨xs, how, hxs⟩ := hown
  refine wpList_append_sl hgd s x t ho L e z size bytes ht hinfo hzs hsz v l.length xs hs (how.alloc _) _ 1 cs hx (by omega) (Sl.new w cs e 1 (by unfold maxLen; omega)) h1 h63 hbytes (by simp; omega) (fun v' w' a1 a2 a3 => ?_)
  have hg : w.grownBy w' v.ownBlock := ⟨a2.os, a2.tape, a2.output, Nat.le_trans (by simp) a2.size, fun k hk hne => (a2.block k (by simp; omega) hne).trans (heap_alloc_old w _ hk)⟩
  refine h v' w' ⟨xs ++ cs, by simpa using a1, fun i x hi => ?_⟩ hg
  have hr : v'.ownBlock = v.ownBlock ∨ ∃ k, v'.ownBlock = some k ∧ w.heap.size ≤ k := a3.imp id fun h => ⟨_, h, by simp⟩
  have hlen : xs.length = l.length * size := how.1
  by_cases hlt : i < l.length
  · rw [List.getElem?_append_left hlt] at hi
    obtain ⟨d, hd, hsd, hcell⟩ := hxs i x hi
    refine ⟨d, hd, hsd.step hg hr, fun j u hu => ?_⟩
    have := hcell j u hu
    rw [List.getElem?_append_left (List.getElem?_eq_some_iff.1 this).1]
    exact this
  · rw [List.getElem?_append_right (by omega)] at hi
    have h0 : i - l.length = 0 := by
      rcases Nat.eq_zero_or_pos (i - l.length) with h0 | h0
      · exact h0
      · rw [List.getElem?_eq_none (by simp; omega)] at hi; cases hi
    rw [h0] at hi
    obtain rfl : y = x := by simpa using hi
    obtain rfl : i = l.length := by omega
    refine ⟨cs, hl, hS w' _ hg hr, fun j u hu => ?_⟩
    rw [List.getElem?_append_right (by omega), show l.length * size + j - xs.length = j by omega]
    exact hu

theorem below_own {α : Type} {R : World → α → List Value → Prop} {w0 w w' : World} {e C L : Nat} {v : Value} {l : List α} (hb : Below L w0 w) (hL : L ≤ w.heap.size) (ho : OwnRows R e C L w v l) (hg : w.grownBy w' v.ownBlock) : Below L w0 w' := by
  obtain ⟨xs, how, -⟩ := ho
  exact own_grown hb hL how hg rfl

/-! ### things: a type and bytes -/
/-- A thing's two cells. -/
def ItemR (w : World) (x : Int × List Int) (c : List Value) : Prop := ∃ bv, c = [.int .i64 x.1, bv] ∧ Ints .u8 w bv x.2 ∧ (Lit.int .i64 x.1).wf = true
theorem ItemR.lasts : Lasts ItemR := fun _ _ _ _ hb ⟨bv, h1, h2, h3⟩ => ⟨bv, h1, h2.below hb, h3⟩
theorem ItemR.safe {w : World} {row : Option Nat} {t : Int} {bv : Value} {bs : List Int} (h : Ints .u8 w bv bs) (ht : (Lit.int .i64 t).wf = true) (hr : ∀ b, bv.ownBlock = some b → some b ≠ row) : Safe ItemR w row (t, bs) [.int .i64 t, bv] :=
  fun _ hg => ⟨bv, rfl, h.grown hg hr, ht⟩

/-- What a slice of things gives to a walk. -/
theorem items_open {w : World} {v : Value} {l : List (Int × List Int)} (h : RowsOf ItemR 2 w v l) :
    ∃ a cap b off, v = .slice a l.length cap ∧ l.length ≤ cap ∧ cap ≤ maxLen ∧ (a = none → cap = 0) ∧ (0 < l.length → a = some ⟨b, off, none⟩) ∧
      ∀ i t bs, l[i]? = some (t, bs) → ∃ bv, w.cell? ⟨b, off + i * 2, none⟩ = some (.int .i64 t) ∧ w.cell? ⟨b, off + i * 2 + 1, none⟩ = some bv ∧ Ints .u8 w bv bs ∧ (Lit.int .i64 t).wf = true := by
  obtain ⟨a, cap, b, off, h1, h2, h3, h4, h5, h6⟩ := h
  refine ⟨a, cap, b, off, h1, h2, h3, h4, h5, fun i t bs hi => ?_⟩
  obtain ⟨c, hc, ⟨bv, rfl, h7, h8⟩, hcell⟩ := h6 i _ hi
  exact ⟨bv, hcell 0 _ rfl, hcell 1 _ rfl, h7, h8⟩

end Go.Proofs.Ytoobcgakainelaa
