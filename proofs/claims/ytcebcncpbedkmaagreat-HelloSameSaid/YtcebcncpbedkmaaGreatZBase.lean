/- What a slice value reads as in a world, how that reading lasts while other memory is written, and the append law for any source that reads so. Conditions: none beyond each lemma's own. -/
import Derived.WalkKit
import Derived.WalkSpells
import Derived.WalkLawsBesides
import Derived.Lib.Hide
import Derived.Maps.AppendAt
import Derived.Laws.AppendOwnNone
import Derived.ProofKit
import Derived.RegionTactic
import Derived.Deep.RegionWith
import Derived.Deep.QuietTactic
import Derived.BigQuiet
import Derived.Deep.Cut
import Derived.Deep.CutRange
import Derived.Deep.RegionHeld3
import Derived.Deep.RegionLaw
import Derived.Deep.AppendLies
import Derived.Laws.CopyOwn
import Derived.Deep.MidRow
import Derived.Deep.DeepFit
namespace Go.Proofs.YtcebcncpbedkmaaGreat
open Go.RowKit

/-- The cells xs lie in block b from offset off on. -/
def At (w : World) (b off : Nat) (xs : List Value) : Prop := ∀ i, i < xs.length → w.cell? ⟨b, off + i, none⟩ = some (xs.getD i undef)

/-- The slice value v has n elements, whose cells are xs. -/
def Sl (w : World) (v : Value) (n : Nat) (xs : List Value) : Prop :=
  ∃ a cap b off, v = .slice a n cap ∧ n ≤ cap ∧ cap ≤ maxLen ∧ (a = none → cap = 0) ∧ (0 < n → a = some ⟨b, off, none⟩) ∧ At w b off xs

/-- v is a slice of the integers zs of kind k. -/
def Ints (k : IntKind) (w : World) (v : Value) (zs : List Int) : Prop :=
  Sl w v zs.length (zs.map (Value.int k)) ∧ ∀ z ∈ zs, (Lit.int k z).wf = true

theorem At.nil (w : World) (b off : Nat) : At w b off [] := fun i h => by simp at h

theorem At.lt {w : World} {b off : Nat} {xs : List Value} (h : At w b off xs) (h0 : 0 < xs.length) : b < w.heap.size :=
  World.block_lt_of_cell? _ _ (h 0 h0)

theorem At.of_block {w w' : World} {b off : Nat} {xs : List Value} (h : At w b off xs) (e : w'.heap[b]? = w.heap[b]?) : At w' b off xs := fun i hi => by
  rw [World.cell?_of_block (w := w) e]; exact h i hi

theorem At.grown {w w' : World} {row : Option Nat} {b off : Nat} {xs : List Value} (h : At w b off xs) (hg : w.grownBy w' row) (hb : some b ≠ row) : At w' b off xs := by
  rcases Nat.eq_zero_or_pos xs.length with h0 | h0
  · intro i hi; omega
  · exact h.of_block (hg.block b (h.lt h0) hb)

theorem At.below {w w' : World} {b off : Nat} {xs : List Value} (h : At w b off xs) (hg : Below w.heap.size w w') : At w' b off xs := by
  rcases Nat.eq_zero_or_pos xs.length with h0 | h0
  · intro i hi; omega
  · exact h.of_block (hg.block b (h.lt h0))

theorem Sl.below {w w' : World} {v : Value} {n : Nat} {xs : List Value} (h : Sl w v n xs) (hg : Below w.heap.size w w') : Sl w' v n xs := by
  obtain ⟨a, cap, b, off, h1, h2, h3, h4, h5, h6⟩ := h
  exact ⟨a, cap, b, off, h1, h2, h3, h4, h5, h6.below hg⟩

theorem Ints.below {k : IntKind} {w w' : World} {v : Value} {zs : List Int} (h : Ints k w v zs) (hg : Below w.heap.size w w') : Ints k w' v zs := ⟨h.1.below hg, h.2⟩

theorem below_of_grown {w w' : World} (h : w.grownBy w' none) : Below w.heap.size w w' :=
  ⟨h.os, h.tape, h.output, h.size, fun k hk => h.block k hk (by simp)⟩
theorem grown_of_below {w w' : World} (h : Below w.heap.size w w') (row : Option Nat) : w.grownBy w' row :=
  ⟨h.os, h.tape, h.output, h.size, fun k hk _ => h.block k hk⟩

theorem below_drewN {B : Nat} {a w : World} (h : Below B a w) (n : Nat) : Below B a (w.drewN n) := ⟨h.os, h.tape, h.output, h.size, h.block⟩

theorem getD_map_int {k : IntKind} {zs : List Int} {i : Nat} (h : i < zs.length) : (zs.map (Value.int k)).getD i undef = .int k (zs.getD i 0) := by
  simp [List.getD, h]

/-- What a slice of integers gives to a walk. -/
theorem Ints.open {k : IntKind} {w : World} {v : Value} {zs : List Int} (h : Ints k w v zs) :
    ∃ a cap b off, v = .slice a zs.length cap ∧ zs.length ≤ cap ∧ cap ≤ maxLen ∧ (a = none → cap = 0) ∧ (0 < zs.length → a = some ⟨b, off, none⟩) ∧
      (∀ i, i < zs.length → w.cell? ⟨b, off + i, none⟩ = some (.int k (zs.getD i 0))) := by
  obtain ⟨⟨a, cap, b, off, h1, h2, h3, h4, h5, h6⟩, _⟩ := h
  exact ⟨a, cap, b, off, h1, h2, h3, h4, h5, fun i hi => by have := h6 i (by simpa using hi); rwa [getD_map_int hi] at this⟩

theorem Ints.mk {k : IntKind} {w : World} {a : Option Addr} {n cap b off : Nat} {zs : List Int} (hn : zs.length = n) (h2 : n ≤ cap) (h3 : cap ≤ maxLen) (h4 : a = none → cap = 0) (h5 : 0 < n → a = some ⟨b, off, none⟩)
    (h6 : ∀ i, i < n → w.cell? ⟨b, off + i, none⟩ = some (.int k (zs.getD i 0))) (hw : ∀ z ∈ zs, (Lit.int k z).wf = true) : Ints k w (.slice a n cap) zs := by
  subst hn
  exact ⟨⟨a, cap, b, off, rfl, h2, h3, h4, h5, fun i hi => by
    have hi' : i < zs.length := by simpa using hi
    rw [getD_map_int hi']; exact h6 i hi'⟩, hw⟩

theorem Ints.nil (k : IntKind) (w : World) : Ints k w (.slice none 0 0) [] :=
  ⟨⟨none, 0, 0, 0, rfl, Nat.le_refl _, by unfold maxLen; omega, fun _ => rfl, fun h => by simp at h, At.nil _ _ _⟩, fun z h => by simp at h⟩

theorem Ints.le {k : IntKind} {w : World} {v : Value} {zs : List Int} (h : Ints k w v zs) : zs.length ≤ 9223372036854775807 := by
  obtain ⟨a, cap, b, off, _, h2, h3, _⟩ := h.open
  unfold maxLen at h3; omega

/-- What the call owns reads as its cells. -/
theorem Sl.of_own {w : World} {base e : Nat} {size : Nat} {v : Value} {n : Nat} {xs : List Value} (h : w.ownsRow base e size v n xs) : Sl w v n xs := by
  obtain ⟨hl, ⟨rfl, rfl⟩ | ⟨g, cap, cur, rfl, hb, hg, hn, hc, hs, ht⟩⟩ := h
  · have : xs = [] := List.eq_nil_of_length_eq_zero (by simpa using hl)
    subst this
    exact ⟨none, 0, 0, 0, rfl, Nat.le_refl _, by unfold maxLen; omega, fun _ => rfl, fun h => by simp at h, At.nil _ _ _⟩
  · refine ⟨some ⟨g, 0, none⟩, cap, g, 0, rfl, hn, hc, (by simp), (fun _ => rfl), fun i hi => ?_⟩
    have hu : xs[i]? = some (xs[i]'hi) := List.getElem?_eq_getElem hi
    have := World.ownsRow.cells ⟨hl, .inr ⟨g, cap, cur, rfl, hb, hg, hn, hc, hs, ht⟩⟩ (g := g) rfl i _ hu
    have e : (⟨g, 0, none⟩ : Addr).add i = ⟨g, 0 + i, none⟩ := by unfold Addr.add; split <;> simp_all
    rw [e] at this
    rw [this]
    simp [List.getD, hu]

theorem Ints.of_own {k : IntKind} {w : World} {base e : Nat} {v : Value} {n : Nat} {zs : List Int} (h : w.ownsRow base e 1 v n (zs.map (Value.int k))) (hw : ∀ z ∈ zs, (Lit.int k z).wf = true) : Ints k w v zs := by
  have hn : n = zs.length := by have := h.1; simp at this; omega
  subst hn
  exact ⟨Sl.of_own h, hw⟩

theorem own_base {w : World} {B B' e size n : Nat} {v : Value} {xs : List Value} (h : w.ownsRow B' e size v n xs) (hB : B ≤ B') : w.ownsRow B e size v n xs :=
  ⟨h.1, h.2.imp id (fun ⟨g, cap, cur, a, b, c⟩ => ⟨g, cap, cur, a, Nat.le_trans hB b, c⟩)⟩

theorem own_below {w w' : World} {B e size n : Nat} {v : Value} {xs : List Value} (h : w.ownsRow B e size v n xs) (hb : Below w.heap.size w w') : w'.ownsRow B e size v n xs :=
  h.kept (grown_of_below hb none) (by cases v.ownBlock <;> simp)

/-- append onto what the call owns, of whatever slice. -/
theorem wpList_append_sl {P : Program} {w : World} {ops : Array Oper} {rest : List Oper} {o : Oper} {a : Act} {Q : Exit → Act → World → Prop} (hgd : o.guard = none) (s x : Operand) (t : TypeId)
    (ho : o.op = .call { callee := .builtin .append, args := #[s, x], argTypes := #[t, t] })
    (base : Nat) (e : TypeId) (z : Value) (size bytes : Nat) (ht : P.underlying t = some (.slice e)) (hinfo : (P.info? e).map (fun i => (i.zero, i.size, i.bytes)) = some (some z, size, bytes))
    (hzs : z.cells.size = size) (hsz : 0 < size)
    (v : Value) (n : Nat) (xs : List Value) (hs : a.eval s = v) (hown : w.ownsRow base e size v n xs)
    (xv : Value) (m : Nat) (news : List Value) (hx : a.eval x = xv) (hl : news.length = m * size) (hsl : Sl w xv m news) (h1 : ∀ u ∈ news, u.oneCell' = true)
    (h63 : n + m ≤ maxLen) (hbytes : (n + m) * bytes ≤ 140737488355328) (hbase : base ≤ w.heap.size)
    (h : ∀ v' w', w'.ownsRow base e size v' (n + m) (xs ++ news) → w.grownBy w' v.ownBlock → (v'.ownBlock = v.ownBlock ∨ v'.ownBlock = some w.heap.size) → wpList P ops Q rest (a.put o.dst v') w') :
    wpList P ops Q (o :: rest) a w := by
  obtain ⟨i, hi, hz, hsize, hby⟩ := info_parts hinfo
  obtain ⟨ad, cap, b, off, rfl, hmc, _, h0, hpos, hat⟩ := hsl
  cases ad with
  | none =>
    have hc0 := h0 rfl
    subst hc0
    have hm : m = 0 := by omega
    subst hm
    have hn : news = [] := List.eq_nil_of_length_eq_zero (by simpa using hl)
    subst hn
    exact wpList_append_own_none hgd s x t ho base e i size ht hi v n xs hs hown hx (h v w (by simpa using hown) (World.grownBy.refl _ _) (.inl rfl))
  | some ad =>
    refine wpList_append_own_at w hgd s x t ho base e i z size bytes ht hi hz hsize hby hzs hsz v n xs hs hown ad m cap news hx hl ?_ h1 h63 hbytes hbase (fun v' w' a1 a2 _ a4 => h v' w' a1 a2 a4)
    intro j u hu
    have hj := (List.getElem?_eq_some_iff.1 hu).1
    have hm : 0 < m := by
      rcases Nat.eq_zero_or_pos m with h' | h'
      · subst h'; simp at hl; subst hl; simp at hj
      · exact h'
    obtain rfl := Option.some.inj (hpos hm)
    have ea : (⟨b, off, none⟩ : Addr).add j = ⟨b, off + j, none⟩ := by unfold Addr.add; split <;> simp_all
    rw [ea, hat j hj]
    simp [List.getD, hu]

/-- A new block of cells reads as a slice over its head. -/
theorem Sl.new (w : World) (cs : List Value) (t : TypeId) (n : Nat) (hm : n ≤ maxLen) : Sl (w.alloc (.cells cs.toArray t)) (.slice (some ⟨w.heap.size, 0, none⟩) n n) n cs :=
  ⟨_, n, w.heap.size, 0, rfl, Nat.le_refl _, hm, by simp, fun _ => rfl, fun i hi => by
    have hu : cs[i]? = some (cs[i]'hi) := List.getElem?_eq_getElem hi
    have hb : (w.alloc (.cells cs.toArray t)).heap[w.heap.size]? = some (.cells cs.toArray t) := heap_alloc_new w _
    unfold World.cell?
    simp only [hb]
    simp [hu, List.getD]⟩

theorem own_grown {w0 w w' : World} {base e size : Nat} {v : Value} {n : Nat} {xs : List Value} {row : Option Nat} (hb : Below base w0 w) (hB : base ≤ w.heap.size) (hown : w.ownsRow base e size v n xs) (hg : w.grownBy w' row) (hr : row = v.ownBlock) : Below base w0 w' := by
  subst hr
  exact hb.grown hg hB fun k hk => (hown.lt k hk).1

/-- append of one new element, which lies in a block of its own, onto what the call owns. -/
theorem wpList_append_new {P : Program} {w : World} {ops : Array Oper} {rest : List Oper} {o : Oper} {a : Act} {Q : Exit → Act → World → Prop} (hgd : o.guard = none) (s x : Operand) (t : TypeId)
    (ho : o.op = .call { callee := .builtin .append, args := #[s, x], argTypes := #[t, t] })
    (base : Nat) (e : TypeId) (z : Value) (size bytes : Nat) (ht : P.underlying t = some (.slice e)) (hinfo : (P.info? e).map (fun i => (i.zero, i.size, i.bytes)) = some (some z, size, bytes))
    (hzs : z.cells.size = size) (hsz : 0 < size)
    (v : Value) (n : Nat) (xs : List Value) (hs : a.eval s = v) (hown : w.ownsRow base e size v n xs)
    (cs : List Value) (hx : a.eval x = .slice (some ⟨w.heap.size, 0, none⟩) 1 1) (hl : cs.length = size) (h1 : ∀ u ∈ cs, u.oneCell' = true)
    (h63 : n + 1 ≤ maxLen) (hbytes : (n + 1) * bytes ≤ 140737488355328) (hbase : base ≤ w.heap.size)
    (h : ∀ v' w', w'.ownsRow base e size v' (n + 1) (xs ++ cs) → w.grownBy w' v.ownBlock → wpList P ops Q rest (a.put o.dst v') w') :
    wpList P ops Q (o :: rest) a (w.alloc (.cells cs.toArray e)) :=
  wpList_append_sl hgd s x t ho base e z size bytes ht hinfo hzs hsz v n xs hs (hown.alloc _) _ 1 cs hx (by omega) (Sl.new w cs e 1 (by unfold maxLen; omega)) h1 h63 hbytes (by simp; omega)
    (fun v' w' a1 a2 _ => h v' w' a1 ⟨a2.os, a2.tape, a2.output, Nat.le_trans (by simp) a2.size, fun k hk hne => (a2.block k (by simp; omega) hne).trans (heap_alloc_old w _ hk)⟩)

/-- make([]T, 0, n). -/
theorem wpList_make0 {P : Program} {w : World} {ops : Array Oper} {rest : List Oper} {o : Oper} {a : Act} {Q : Exit → Act → World → Prop} (hg : o.guard = none) (l c : Operand) (t : TypeId) (hop : o.op = Op.makeSlice t l c)
    (base : Nat) (e : TypeId) (z : Value) (size bytes : Nat) (ht : P.underlying t = some (.slice e)) (hinfo : (P.info? e).map (fun i => (i.zero, i.size, i.bytes)) = some (some z, size, bytes))
    (kl kc : IntKind) (C : Int) (n : Nat) (hl : a.eval l = .int kl 0) (hc : a.eval c = .int kc C) (hC : C = (n : Int)) (b2 : bytes * n ≤ 281474976710656) (b3 : n ≤ maxLen) (b4 : base ≤ w.heap.size)
    (hK : ∀ v w', w'.ownsRow base e size v 0 [] → Below w.heap.size w w' → wpList P ops Q rest (a.put o.dst v) w') : wpList P ops Q (o :: rest) a w := by
  obtain ⟨i, hi, hz, hsize, hby⟩ := info_parts hinfo
  exact wpList_make_own w hg l c t hop base e i z size ht hi hz hsize kl kc C n hl hc hC (by rw [hby]; exact b2) b3 b4 (fun w' a1 a2 => hK _ w' a1 (below_of_grown a2))

theorem madeCells_one (z : Value) (hz : z.cells = #[z]) (n : Nat) : (madeCells z.cells (n * 1)).toList = List.replicate n z := by
  rw [hz, Nat.mul_one]
  exact toList_madeCells_one z n

/-- make([]T, n), T of one cell. -/
theorem wpList_makeN {P : Program} {w : World} {ops : Array Oper} {rest : List Oper} {o : Oper} {a : Act} {Q : Exit → Act → World → Prop} (hg : o.guard = none) (l c : Operand) (t : TypeId) (hop : o.op = Op.makeSlice t l c)
    (base : Nat) (e : TypeId) (z : Value) (bytes : Nat) (ht : P.underlying t = some (.slice e)) (hinfo : (P.info? e).map (fun i => (i.zero, i.size, i.bytes)) = some (some z, 1, bytes)) (hz1 : z.cells = #[z])
    (kl kc : IntKind) (L C : Int) (n : Nat) (hl : a.eval l = .int kl L) (hc : a.eval c = .int kc C) (hL : L = (n : Int)) (hC : C = (n : Int)) (b2 : bytes * n ≤ 281474976710656) (b3 : n ≤ maxLen) (b4 : base ≤ w.heap.size)
    (hK : ∀ w', w'.ownsRow base e 1 (.slice (some ⟨w.heap.size, 0, none⟩) n n) n (List.replicate n z) → Below w.heap.size w w' → wpList P ops Q rest (a.put o.dst (.slice (some ⟨w.heap.size, 0, none⟩) n n)) w') : wpList P ops Q (o :: rest) a w := by
  obtain ⟨i, hi, hz, hsize, hby⟩ := info_parts hinfo
  exact wpList_make_full w hg l c t hop base e i z 1 ht hi hz hsize kl kc L C n hl hc hL hC (by rw [hby]; exact b2) b3 b4 (fun w' a1 a2 => hK w' (by rw [madeCells_one z hz1] at a1; exact a1) (below_of_grown a2))

/-! ### cutting a slice -/
theorem run_sizeOf {P : Program} {e : TypeId} {z : Option Value} {size bytes : Nat} (hinfo : (P.info? e).map (fun i => (i.zero, i.size, i.bytes)) = some (z, size, bytes)) (w : World) : (sizeOf e).run P w = .ok size w := by
  obtain ⟨i, hi, hzz⟩ := Option.map_eq_some_iff.1 hinfo
  simp only [Prod.mk.injEq] at hzz
  simp [sizeOf, typeInfo, hi, hzz.2.1]

theorem add_at (b off j : Nat) : (⟨b, off, none⟩ : Addr).add j = ⟨b, off + j, none⟩ := by unfold Addr.add; split <;> simp_all

/-- The address of 's[lo:]'. -/
def cutAddr (a : Option Addr) (cap lo : Nat) : Option Addr := if cap = lo then a else a.map (·.add lo)

theorem cut_ints {k : IntKind} {w : World} {a : Option Addr} {cap : Nat} {zs : List Int} (h : Ints k w (.slice a zs.length cap) zs) (lo hi m : Nat) (h1 : lo ≤ hi) (h2 : hi ≤ zs.length) (h3 : hi ≤ m) (h4 : m ≤ cap) :
    Ints k w (.slice (if m = lo then a else a.map (·.add lo)) (hi - lo) (m - lo)) ((zs.take hi).drop lo) := by
  obtain ⟨a', cap', b, off, he, h5, h6, h7, h8, h9⟩ := h.open
  injection he with e1 e2 e3
  subst e1; subst e3
  have hl : ((zs.take hi).drop lo).length = hi - lo := by simp; omega
  refine Ints.mk (b := b) (off := off + lo) hl (by omega) (by omega) ?_ ?_ ?_ ?_
  · intro hh
    split at hh
    · have := h7 hh; omega
    · cases a with
      | none => have := h7 rfl; omega
      | some x => simp at hh
  · intro hpos
    rw [if_neg (by omega), h8 (by omega)]
    simp [add_at]
  · intro i hi'
    rw [Nat.add_assoc, h9 (lo + i) (by omega)]
    have : (zs.take hi)[lo + i]? = zs[lo + i]? := by rw [List.getElem?_take, if_pos (by omega)]
    simp [List.getD, this]
  · intro z hz
    exact h.2 z (List.mem_of_mem_take (List.mem_of_mem_drop hz))

/-- 's[lo:]': under one name. -/
theorem slice_from {P : Program} {t e : TypeId} {z : Option Value} {bytes : Nat} (ht : P.underlying t = some (.slice e)) (hinfo : (P.info? e).map (fun i => (i.zero, i.size, i.bytes)) = some (z, 1, bytes))
    {k : IntKind} {w : World} {a : Option Addr} {cap : Nat} {zs : List Int} (h : Ints k w (.slice a zs.length cap) zs) (lo : Int) (l : Nat) (hl : lo = l) (h1 : l ≤ zs.length) :
    ∃ A, (∀ wx : World, (Instr.slice t (.slice a zs.length cap) (some (.int .i64 lo)) none none).run P wx = .ok (.slice A (zs.length - l) (cap - l)) wx) ∧ Ints k w (.slice A (zs.length - l) (cap - l)) (zs.drop l) := by
  subst hl
  have he : P.elem t = e := by simp [Program.elem, ht]
  have hc := h.open
  obtain ⟨a', cap', b, off, hee, h5, -⟩ := hc
  injection hee with e1 e2 e3
  subst e3
  refine ⟨_, fun wx => ?_, by have := cut_ints h l zs.length cap h1 (Nat.le_refl _) h5 (Nat.le_refl _); rwa [List.take_length] at this⟩
  rw [run_slice_l wx t a zs.length cap (by rw [he]; exact ht) .i64 l (by omega) (by omega), he, run_sizeOf hinfo]
  simp [Result.andThen, sliced]

/-- 's[:hi]'. -/
theorem slice_upto {P : Program} {t e : TypeId} {z : Option Value} {bytes : Nat} (ht : P.underlying t = some (.slice e)) (hinfo : (P.info? e).map (fun i => (i.zero, i.size, i.bytes)) = some (z, 1, bytes))
    {k : IntKind} {w : World} {a : Option Addr} {cap : Nat} {zs : List Int} (h : Ints k w (.slice a zs.length cap) zs) (hi : Int) (m : Nat) (hl : hi = m) (h1 : m ≤ zs.length) :
    ∃ A, (∀ wx : World, (Instr.slice t (.slice a zs.length cap) none (some (.int .i64 hi)) none).run P wx = .ok (.slice A m cap) wx) ∧ Ints k w (.slice A m cap) (zs.take m) := by
  subst hl
  have he : P.elem t = e := by simp [Program.elem, ht]
  obtain ⟨a', cap', b, off, hee, h5, -⟩ := h.open
  injection hee with e1 e2 e3
  subst e3
  refine ⟨_, fun wx => ?_, by have := cut_ints h 0 m cap (by omega) h1 (by omega) (Nat.le_refl _); simpa using this⟩
  rw [run_slice_h wx t a zs.length cap (by rw [he]; exact ht) .i64 m (by omega) (by omega), he, run_sizeOf hinfo]
  simp [Result.andThen, sliced]

/-- 's[lo:hi]'. -/
theorem slice_lohi {P : Program} {t e : TypeId} {z : Option Value} {bytes : Nat} (ht : P.underlying t = some (.slice e)) (hinfo : (P.info? e).map (fun i => (i.zero, i.size, i.bytes)) = some (z, 1, bytes))
    {k : IntKind} {w : World} {a : Option Addr} {cap : Nat} {zs : List Int} (h : Ints k w (.slice a zs.length cap) zs) (lo hi : Int) (l m : Nat) (hl : lo = l) (hm : hi = m) (h0 : l ≤ m) (h1 : m ≤ zs.length) :
    ∃ A, (∀ wx : World, (Instr.slice t (.slice a zs.length cap) (some (.int .i64 lo)) (some (.int .i64 hi)) none).run P wx = .ok (.slice A (m - l) (cap - l)) wx) ∧ Ints k w (.slice A (m - l) (cap - l)) ((zs.take m).drop l) := by
  subst hl
  subst hm
  have he : P.elem t = e := by simp [Program.elem, ht]
  obtain ⟨a', cap', b, off, hee, h5, -⟩ := h.open
  injection hee with e1 e2 e3
  subst e3
  refine ⟨_, fun wx => ?_, cut_ints h l m cap h0 h1 (by omega) (Nat.le_refl _)⟩
  rw [run_slice_lh wx t a zs.length cap (by rw [he]; exact ht) .i64 .i64 l m (by omega) (by omega) (by omega), he, run_sizeOf hinfo]
  simp [Result.andThen, sliced]

end Go.Proofs.YtcebcncpbedkmaaGreat
