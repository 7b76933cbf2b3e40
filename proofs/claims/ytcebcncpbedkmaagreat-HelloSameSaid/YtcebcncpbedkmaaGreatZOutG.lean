/- What a call owns of slices of structs that lead to more memory, and how it grows. Conditions: none beyond each lemma's own. -/
import Derived.Test.YtcebcncpbedkmaaGreatZCurA
import Derived.Test.YtcebcncpbedkmaaGreatZRefTA
namespace Go.Proofs.YtcebcncpbedkmaaGreat
open Go Go.RowKit

/-- The block row is no row of type t. -/
def NotTy (W : World) (row : Option Nat) (t : TypeId) : Prop := ∀ b cs fr, row = some b → W.heap[b]? = some (.cells cs t fr) → False
theorem NotTy.none (W : World) (t : TypeId) : NotTy W none t := fun b cs fr h => by cases h
theorem NotTy.of_own {L e size n : Nat} {W : World} {v : Value} {xs : List Value} {t : TypeId} (h : W.ownsRow L e size v n xs) (he : e ≠ t) : NotTy W v.ownBlock t := by
  intro b cs fr hb hc
  obtain ⟨-, ⟨rfl, -⟩ | ⟨g, cap, cur, rfl, -, h2, -⟩⟩ := h
  · cases hb
  · have e1 : g = b := by simpa [Value.ownBlock] using hb
    subst e1
    rw [h2] at hc
    injection hc with h3
    injection h3 with h4 h5 h6
    exact he h5
theorem NotTy.of_block {W : World} {b : Nat} {cs : Array Value} {e t : TypeId} {fr : Nat × Nat} (h : W.heap[b]? = some (.cells cs e fr)) (he : e ≠ t) : NotTy W (some b) t := by
  intro b' cs' fr' hb hc
  injection hb with hb
  subst hb
  rw [h] at hc
  injection hc with h3
  injection h3 with h4 h5 h6
  exact he h5
theorem own_kept {L e size n : Nat} {W W' : World} {v : Value} {xs : List Value} {row : Option Nat} (h : W.ownsRow L e size v n xs) (hg : W.grownBy W' row) (hn : NotTy W row e) : W'.ownsRow L e size v n xs := by
  obtain ⟨hl, h0 | ⟨g, cap, cur, rfl, h1, h2, r⟩⟩ := h
  · exact ⟨hl, .inl h0⟩
  · exact ⟨hl, .inr ⟨g, cap, cur, rfl, h1, (hg.block g (Array.getElem?_eq_some_iff.1 h2).1 (fun e => hn g _ _ e.symm h2)).trans h2, r⟩⟩

/-- A kind of owned element, whose blocks have the types T. -/
structure Kind {α : Type} (E : Nat → World → α → List Value → Prop) (T : TypeId → Prop) : Prop where
  agree : ∀ {L W W' x c}, E L W x c → Agree L W W' → E L W' x c
  low : ∀ {L L' W x c}, E L W x c → L' ≤ L → E L' W x c
  kept : ∀ {L W W' row x c}, E L W x c → W.grownBy W' row → (∀ t, T t → NotTy W row t) → E L W' x c

/-- v owns the cells of pre, and what they lead to. -/
def OutG {α : Type} (E : Nat → World → α → List Value → Prop) (e C L : Nat) (W : World) (v : Value) (pre : List α) : Prop :=
  ∃ xs : List Value, W.ownsRow L e C v pre.length xs ∧ ∀ i x, pre[i]? = some x → ∃ c : List Value, c.length = C ∧ E L W x c ∧ ∀ j u, c[j]? = some u → xs[i * C + j]? = some u

variable {α : Type} {E : Nat → World → α → List Value → Prop} {T : TypeId → Prop} {e C L : Nat} {W : World} {v : Value} {pre : List α}
theorem OutG.nil (E : Nat → World → α → List Value → Prop) (e C L : Nat) (W : World) : OutG E e C L W (.slice none 0 0) [] := ⟨[], World.ownsRow_nil _ _ _ _, fun i x h => by simp at h⟩
theorem OutG.slice (h : OutG E e C L W v pre) : ∃ a cap, v = .slice a pre.length cap := by
  obtain ⟨xs, ho, -⟩ := h; exact own_slice ho
theorem OutG.agree (hK : Kind E T) {W' : World} (h : OutG E e C L W v pre) (ha : Agree L W W') : OutG E e C L W' v pre := by
  obtain ⟨xs, ho, hx⟩ := h
  refine ⟨xs, own_agree ho ha, fun i x hi => ?_⟩
  obtain ⟨c, h1, h2, h3⟩ := hx i x hi
  exact ⟨c, h1, hK.agree h2 ha, h3⟩
theorem OutG.below (hK : Kind E T) {W' : World} (h : OutG E e C L W v pre) (hb : Below W.heap.size W W') : OutG E e C L W' v pre := h.agree hK (agree_below hb)
theorem OutG.low (hK : Kind E T) {L' : Nat} (h : OutG E e C L W v pre) (hL : L' ≤ L) : OutG E e C L' W v pre := by
  obtain ⟨xs, ho, hx⟩ := h
  refine ⟨xs, own_base ho hL, fun i x hi => ?_⟩
  obtain ⟨c, h1, h2, h3⟩ := hx i x hi
  exact ⟨c, h1, hK.low h2 hL, h3⟩
theorem OutG.kept (hK : Kind E T) {W' : World} {row : Option Nat} (h : OutG E e C L W v pre) (hg : W.grownBy W' row) (hn : ∀ t, T t ∨ t = e → NotTy W row t) : OutG E e C L W' v pre := by
  obtain ⟨xs, ho, hx⟩ := h
  refine ⟨xs, own_kept ho hg (hn e (.inr rfl)), fun i x hi => ?_⟩
  obtain ⟨c, h1, h2, h3⟩ := hx i x hi
  exact ⟨c, h1, hK.kept h2 hg (fun t ht => hn t (.inl ht)), h3⟩
/-- One more. -/
theorem OutG.snoc (hK : Kind E T) (hT : ¬ T e) {W' : World} {v' : Value} {y : α} {cs : List Value} {xs : List Value} (how : W.ownsRow L e C v pre.length xs)
    (hxs : ∀ i x, pre[i]? = some x → ∃ c : List Value, c.length = C ∧ E L W x c ∧ ∀ j u, c[j]? = some u → xs[i * C + j]? = some u)
    (hE : E L W y cs) (hl : cs.length = C) (hg : W.grownBy W' v.ownBlock) (hn : W'.ownsRow L e C v' (pre.length + 1) (xs ++ cs)) : OutG E e C L W' v' (pre ++ [y]) := by
  have hlen : xs.length = pre.length * C := how.1
  have kp : ∀ {x c}, E L W x c → E L W' x c := fun {x c} hx => hK.kept hx hg (fun t ht => NotTy.of_own how (fun h => hT (h ▸ ht)))
  refine ⟨xs ++ cs, by simpa using hn, fun i x hi => ?_⟩
  by_cases hlt : i < pre.length
  · rw [List.getElem?_append_left hlt] at hi
    obtain ⟨d, hd, hsd, hcell⟩ := hxs i x hi
    refine ⟨d, hd, kp hsd, fun j u hu => ?_⟩
    have := hcell j u hu
    rw [List.getElem?_append_left (List.getElem?_eq_some_iff.1 this).1]
    exact this
  · rw [List.getElem?_append_right (by omega)] at hi
    have h0 : i - pre.length = 0 := by
      rcases Nat.eq_zero_or_pos (i - pre.length) with h0 | h0
      · exact h0
      · rw [List.getElem?_eq_none (by simp; omega)] at hi; cases hi
    rw [h0] at hi
    obtain rfl : y = x := by simpa using hi
    obtain rfl : i = pre.length := by omega
    refine ⟨cs, hl, kp hE, fun j u hu => ?_⟩
    rw [List.getElem?_append_right (by omega), show pre.length * C + j - xs.length = j by omega]
    exact hu
/-- As what a walk reads. -/
theorem OutG.rows {R : World → α → List Value → Prop} (h : OutG E e C L W v pre) (hR : ∀ {x c}, E L W x c → R W x c) : RowsOf R C W v pre := by
  obtain ⟨xs, ho, hx⟩ := h
  have hlen := ho.1
  obtain ⟨a, cap, b, off, h1, h2, h3, h4, h5, h6⟩ := Sl.of_own ho
  refine ⟨a, cap, b, off, h1, h2, h3, h4, h5, fun i x hi => ?_⟩
  obtain ⟨c, hc, hs, hcell⟩ := hx i x hi
  refine ⟨c, hc, hR hs, fun j u hu => ?_⟩
  have hxu := hcell j u hu
  have hlt := (List.getElem?_eq_some_iff.1 hxu).1
  have := h6 (i * C + j) hlt
  rw [show off + i * C + j = off + (i * C + j) by omega, this, List.getD_eq_getElem?_getD, hxu]
  rfl

theorem res_row_tmpI {P : Program} {fn : Func} {p u : Tmp} {ty : TypeId} (h : fn.results = #[.cell p ty, .tmp u]) (tmps : Array Value) (w : World) (g : Nat) (t : TypeId) (cs : Array Value) (fr : Nat × Nat) (d : TypeDesc)
    (hp : tmps.getD p undef = .pointer (some ⟨g, 0, none⟩)) (hg : w.heap[g]? = some (.cells cs t fr))
    (hu : P.underlying ty = some d) (hd : (match d with | .struct _ | .array _ _ => true | _ => false) = true) (hi : (P.info? ty).map (·.size) = some cs.size) :
    (results fn tmps).run P w = .ok (.tuple #[.agg cs, tmps.getD u undef]) w := by
  have hp' : tmps[p]?.getD undef = .pointer (some ⟨g, 0, none⟩) := by simpa using hp
  simp [results, h, hp', asAddr, run_loadVar_row w g t ty cs fr d hg hu hd hi]
theorem row_below {w w' : World} {g : Nat} {o : Obj} (hb : Below w.heap.size w w') (h : w.heap[g]? = some o) : w'.heap[g]? = some o :=
  (hb.block g (Array.getElem?_eq_some_iff.1 h).1).trans h

/-- append of one new struct, which lies in a block of its own. -/
theorem wpList_append_out {α : Type} {E : Nat → World → α → List Value → Prop} {T : TypeId → Prop} (hK : Kind E T) {P : Program} {w : World} {ops : Array Oper} {rest : List Oper} {o : Oper} {a : Act} {Q : Exit → Act → World → Prop} (hgd : o.guard = none) (s x : Operand) (t : TypeId)
    (ho : o.op = .call { callee := .builtin .append, args := #[s, x], argTypes := #[t, t] })
    (L : Nat) (e : TypeId) (hT : ¬ T e) (z : Value) (size bytes : Nat) (ht : P.underlying t = some (.slice e)) (hinfo : (P.info? e).map (fun i => (i.zero, i.size, i.bytes)) = some (some z, size, bytes))
    (hzs : z.cells.size = size) (hsz : 0 < size)
    (v : Value) (l : List α) (y : α) (hs : a.eval s = v) (hown : OutG E e size L w v l)
    (cs : List Value) (hx : a.eval x = .slice (some ⟨w.heap.size, 0, none⟩) 1 1) (hl : cs.length = size) (h1 : ∀ u ∈ cs, u.oneCell' = true)
    (h63 : l.length + 1 ≤ maxLen) (hbytes : (l.length + 1) * bytes ≤ 140737488355328) (hbase : L ≤ w.heap.size) (hE : E L w y cs)
    (h : ∀ v' w', OutG E e size L w' v' (l ++ [y]) → w.grownBy w' v.ownBlock → wpList P ops Q rest (a.put o.dst v') w') :
    wpList P ops Q (o :: rest) a (w.alloc (.cells cs.toArray e)) := by
  obtain ⟨xs, how, hxs⟩ := hown
  refine wpList_append_sl hgd s x t ho L e z size bytes ht hinfo hzs hsz v l.length xs hs (how.alloc _) _ 1 cs hx (by omega) (Sl.new w cs e 1 (by unfold maxLen; omega)) h1 h63 hbytes (by simp; omega) (fun v' w' a1 a2 a3 => ?_)
  have hg : w.grownBy w' v.ownBlock := ⟨a2.os, a2.tape, a2.output, Nat.le_trans (by simp) a2.size, fun k hk hne => (a2.block k (by simp; omega) hne).trans (heap_alloc_old w _ hk)⟩
  exact h v' w' (OutG.snoc hK hT how hxs hE hl hg a1) hg

/-! ### things -/
def ItmO (L : Nat) (W : World) (x : Int × List Int) (c : List Value) : Prop := ∃ bv, c = [.int .i64 x.1, bv] ∧ W.ownsRow L 5 1 bv x.2.length (x.2.map (Value.int .u8)) ∧ U8 x.2 ∧ (Lit.int .i64 x.1).wf = true
theorem ItmO.kind : Kind ItmO (· = 5) where
  agree := fun ⟨dv, h1, h2, h3⟩ ha => ⟨dv, h1, own_agree h2 ha, h3⟩
  low := fun ⟨dv, h1, h2, h3⟩ hL => ⟨dv, h1, own_base h2 hL, h3⟩
  kept := fun ⟨dv, h1, h2, h3⟩ hg hn => ⟨dv, h1, own_kept h2 hg (hn _ rfl), h3⟩
theorem ItmO.read {L : Nat} {W : World} {x : Int × List Int} {c : List Value} (h : ItmO L W x c) : ItemR W x c := by
  obtain ⟨dv, h1, h2, h3, h4⟩ := h
  exact ⟨dv, h1, Ints.of_own h2 h3.wf, h4⟩
def OutI (L : Nat) (W : World) (v : Value) (pre : List (Int × List Int)) : Prop := OutG ItmO 108 2 L W v pre
theorem OutI.rows {L : Nat} {W : World} {v : Value} {pre : List (Int × List Int)} (h : OutI L W v pre) : RowsOf ItemR 2 W v pre := OutG.rows h ItmO.read
theorem step_append_out {α : Type} {E : Nat → World → α → List Value → Prop} {T : TypeId → Prop} (hK : Kind E T) {P : Program} {w : World} {ops : Array Oper} {o : Oper} {a : Act} {K : Act → World → Prop} {Q : Exit → Act → World → Prop} {F : Prop} (hgd : o.guard = none) (s x : Operand) (t : TypeId)
    (ho : o.op = .call { callee := .builtin .append, args := #[s, x], argTypes := #[t, t] })
    (L : Nat) (e : TypeId) (hT : ¬ T e) (z : Value) (size bytes : Nat) (ht : P.underlying t = some (.slice e)) (hinfo : (P.info? e).map (fun i => (i.zero, i.size, i.bytes)) = some (some z, size, bytes))
    (hzs : z.cells.size = size) (hsz : 0 < size)
    (v : Value) (l : List α) (y : α) (hs : a.eval s = v) (hown : OutG E e size L w v l)
    (cs : List Value) (hx : a.eval x = .slice (some ⟨w.heap.size, 0, none⟩) 1 1) (hl : cs.length = size) (h1 : ∀ u ∈ cs, u.oneCell' = true)
    (h63 : l.length + 1 ≤ maxLen) (hbytes : (l.length + 1) * bytes ≤ 140737488355328) (hbase : L ≤ w.heap.size) (hE : E L w y cs)
    (h : ∀ v' w', OutG E e size L w' v' (l ++ [y]) → w.grownBy w' v.ownBlock → K (a.put o.dst v') w') :
    if Region.wanted o (yielded ops a.tmps) = true then Oper.wp P o a (w.alloc (.cells cs.toArray e)).drew K Q else F := by
  obtain ⟨xs, how, hxs⟩ := hown
  refine step_append_sl (w := (w.alloc (.cells cs.toArray e)).drew) hgd s x t ho L e z size bytes ht hinfo hzs hsz v l.length xs hs (show (w.alloc (.cells cs.toArray e)).ownsRow L e size v l.length xs from how.alloc _) _ 1 cs hx (by omega) (show Sl (w.alloc (.cells cs.toArray e)) _ 1 cs from Sl.new w cs e 1 (by unfold maxLen; omega)) h1 h63 hbytes (by show L ≤ (w.alloc _).heap.size; simp; omega) (fun v' w' a1 a2 => ?_)
  have hg : w.grownBy w' v.ownBlock := ⟨a2.os, a2.tape, a2.output, Nat.le_trans (show w.heap.size ≤ (w.alloc (.cells cs.toArray e)).heap.size by simp) a2.size, fun k hk hne => (a2.block k (show k < (w.alloc (.cells cs.toArray e)).heap.size by simp; omega) hne).trans (heap_alloc_old w _ hk)⟩
  exact h v' w' (OutG.snoc hK hT how hxs hE hl hg a1) hg

end Go.Proofs.YtcebcncpbedkmaaGreat
