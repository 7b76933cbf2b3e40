/- Queues in plain Lean: their bytes, and the queues that bytes are. Conditions: none. What a call owns of slices of structs that lead to more memory: elements, each with its own blocks, told by type. Properties and queues. Conditions: none beyond each lemma's own. -/
import Derived.Test.YtoobcgakainelaaZPlain01
import Derived.Test.YtoobcgakainelaaZRefTA
import Derived.Test.YtoobcgakainelaaZCurA
namespace Go.Proofs.Ytoobcgakainelaa

/-- A property: its type, its number, its data. -/
abbrev Prp := Int × Int × List Int
/-- A queue: its ID, its port, its properties. -/
abbrev Que := Int × Int × List Prp

def shQ : Sh := ⟨16, 8, false, 263, 263⟩
theorem shQ_may : shQ.may = true := rfl

/-- What is behind a property's length. -/
def rowsQ (t : Int) : Option (List Int) := if t = 65535 then some [-4, 4, -4] else if t = 1 ∨ t = 2 then some [-4, 2, -6] else none

/-- A property as a thing's body, if it may be one. -/
def bodyQ (p : Prp) : Option (List Int) :=
  match rowsQ p.1 with
  | none => none
  | some w => match putS w [p.2.1] with
    | none => none
    | some b => if p.1 ≠ 65535 ∧ 0 < p.2.2.length then none else some (b ++ p.2.2)
def itemQ (p : Prp) : Int × List Int := match bodyQ p with | none => (0, []) | some b => (p.1, b)
def goodP (p : Prp) : Bool := (bodyQ p).isSome && shQ.good (itemQ p)
/-- Properties' bytes. -/
def propsB (l : List Prp) : List Int := shQ.all (l.map itemQ)
def hdrQ : List Int := [4, 4, 2, -6]
def goodQ (q : Que) : Bool := q.2.2.all goodP && (decide (16 + (propsB q.2.2).length ≤ 65528) && (putS hdrQ [q.1, q.2.1, (16 + (propsB q.2.2).length : Nat)]).isSome)
def queB (q : Que) : List Int := (putS hdrQ [q.1, q.2.1, (16 + (propsB q.2.2).length : Nat)]).getD [] ++ propsB q.2.2
def quesB (l : List Que) : List Int := (l.map queB).flatten
/-- A list's bytes, and the error. -/
def encQ (l : List Que) : List Int × Int := if l.all goodQ = true ∧ (quesB l).length ≤ 65528 then (quesB l, 0) else ([], 10001)

/-- The property that a thing is. -/
def propQ (x : Int × List Int) : Prp × Int :=
  match rowsQ x.1 with
  | none => ((0, 0, []), 269)
  | some w =>
    if x.1 ≠ 65535 ∧ x.2.length ≠ 12 then ((0, 0, []), 263)
    else if (getS w x.2).2 = 1 then ((x.1, 0, []), 263)
    else if (getS w x.2).2 = 2 then ((x.1, 0, []), 269)
    else ((x.1, (getS w x.2).1.getD 0 0, x.2.drop 12), 0)
/-- Properties, in so many steps, behind some. -/
def propsA : Nat → List Prp → List Int → List Prp × Int
  | 0, acc, _ => (acc, 0)
  | f + 1, acc, bs =>
    if bs.length = 0 then (acc, 0)
    else if (shQ.one bs).2.2 ≠ 0 then ([], (shQ.one bs).2.2)
    else if (propQ (shQ.one bs).1).2 ≠ 0 then ([], (propQ (shQ.one bs).1).2)
    else propsA f (acc ++ [(propQ (shQ.one bs).1).1]) (bs.drop (shQ.one bs).2.1)
def propsQ (bs : List Int) : List Prp × Int := propsA bs.length [] bs
/-- How many bytes the first queue tells to have. -/
def sizeQ (bs : List Int) : Nat := ((getS hdrQ bs).1.getD 2 0).toNat
/-- The first queue, and the error. -/
def oneQ (bs : List Int) : Que × Int :=
  if bs.length < 16 then ((0, 0, []), 263)
  else if (getS hdrQ bs).2 ≠ 0 then ((0, 0, []), 269)
  else if sizeQ bs < 16 ∨ sizeQ bs % 8 ≠ 0 ∨ bs.length < sizeQ bs then ((0, 0, []), 263)
  else if (propsQ ((bs.take (sizeQ bs)).drop 16)).2 ≠ 0 then ((0, 0, []), (propsQ ((bs.take (sizeQ bs)).drop 16)).2)
  else (((getS hdrQ bs).1.getD 0 0, (getS hdrQ bs).1.getD 1 0, (propsQ ((bs.take (sizeQ bs)).drop 16)).1), 0)
def decA : Nat → List Que → List Int → List Que × Int
  | 0, acc, _ => (acc, 0)
  | f + 1, acc, bs =>
    if bs.length = 0 then (acc, 0)
    else if (oneQ bs).2 ≠ 0 then ([], (oneQ bs).2)
    else decA f (acc ++ [(oneQ bs).1]) (bs.drop (sizeQ bs))
/-- The queues that bytes are, and the error. -/
def decQ (bs : List Int) : List Que × Int :=
  if (decA bs.length [] bs).2 ≠ 0 then decA bs.length [] bs else if 65528 < bs.length then ([], 263) else decA bs.length [] bs

theorem rowsQ_cases (t : Int) : (t = 65535 ∧ rowsQ t = some [-4, 4, -4]) ∨ ((t = 1 ∨ t = 2) ∧ rowsQ t = some [-4, 2, -6]) ∨ ((t ≠ 65535 ∧ t ≠ 1 ∧ t ≠ 2) ∧ rowsQ t = none) := by
  unfold rowsQ
  by_cases h : t = 65535
  · exact .inl ⟨h, by rw [if_pos h]⟩
  · rw [if_neg h]
    by_cases h2 : t = 1 ∨ t = 2
    · exact .inr (.inl ⟨h2, by rw [if_pos h2]⟩)
    · exact .inr (.inr ⟨⟨h, fun e => h2 (.inl e), fun e => h2 (.inr e)⟩, by rw [if_neg h2]⟩)
theorem rowsQ_some {t : Int} {w : List Int} (h : rowsQ t = some w) : RightS w = true ∧ sizeL w = 12 ∧ sizeS w = 12 ∧ cntL w = 1 ∧ w.length = 3 := by
  rcases rowsQ_cases t with ⟨_, h'⟩ | ⟨_, h'⟩ | ⟨_, h'⟩ <;> rw [h'] at h <;> first | (injection h with h; subst h; exact ⟨rfl, rfl, rfl, rfl, rfl⟩) | cases h
theorem bodyQ_len {p : Prp} {b : List Int} (h : bodyQ p = some b) : b.length = 12 + p.2.2.length := by
  unfold bodyQ at h
  cases hr : rowsQ p.1 with
  | none => rw [hr] at h; cases h
  | some w =>
    rw [hr] at h
    simp only at h
    obtain ⟨h1, h2, -, h4, -⟩ := rowsQ_some hr
    cases hp : putS w [p.2.1] with
    | none => rw [hp] at h; cases h
    | some c =>
      rw [hp] at h
      simp only at h
      split at h
      · cases h
      · injection h with h
        subst h
        have : putL w [p.2.1] = some c := by
          unfold putS at hp
          split at hp
          · exact hp
          · cases hp
        have := putL_len this
        rw [List.length_append, this, h2]
theorem itemQ_len (p : Prp) : (itemQ p).2.length ≤ 12 + p.2.2.length := by
  unfold itemQ
  cases h : bodyQ p with
  | none => simp
  | some b => exact Nat.le_of_eq (bodyQ_len h)
end Go.Proofs.Ytoobcgakainelaa
namespace Go.Proofs.Ytoobcgakainelaa
open Go Go.RowKit

/-- The block row is no row of type t. -/
def NotTy (W : World) (row : Option Nat) (t : TypeId) : Prop := ∀ b cs fr, row = some b → W.heap[b]? = some (.cells cs t fr) → False
theorem NotTy.none (W : World) (t : TypeId) : NotTy W none t := fun b cs fr h => by cases h
theorem NotTy.of_own {L e size n : Nat} {W : World} {v : Value} {xs : List Value} {t : TypeId} (h : W.ownsRow L e size v n xs) (he : e ≠ t) : NotTy W v.ownBlock t := by
  intro b cs fr hb hc
  obtain ⟨-, ⟨rfl, -⟩ | ⟨g, cap, cur, rfl, -, h2, -⟩⟩ := h
  · cases hb
  · have e1 : g = b := by simpa [Value.ownBlock] using hb
    subst e1
    rw [h2] at hc
    injection hc with h3
    injection h3 with h4 h5 h6
    exact he h5
theorem NotTy.of_block {W : World} {b : Nat} {cs : Array Value} {e t : TypeId} {fr : Nat × Nat} (h : W.heap[b]? = some (.cells cs e fr)) (he : e ≠ t) : NotTy W (some b) t := by
  intro b' cs' fr' hb hc
  injection hb with hb
  subst hb
  rw [h] at hc
  injection hc with h3
  injection h3 with h4 h5 h6
  exact he h5
theorem own_kept {L e size n : Nat} {W W' : World} {v : Value} {xs : List Value} {row : Option Nat} (h : W.ownsRow L e size v n xs) (hg : W.grownBy W' row) (hn : NotTy W row e) : W'.ownsRow L e size v n xs := by
  obtain ⟨hl, h0 | ⟨g, cap, cur, rfl, h1, h2, r⟩⟩ := h
  · exact ⟨hl, .inl h0⟩
  · exact ⟨hl, .inr ⟨g, cap, cur, rfl, h1, (hg.block g (Array.getElem?_eq_some_iff.1 h2).1 (fun e => hn g _ _ e.symm h2)).trans h2, r⟩⟩

/-- A kind of owned element, whose blocks have the types T. -/
structure Kind {α : Type} (E : Nat → World → α → List Value → Prop) (T : TypeId → Prop) : Prop where
  agree : ∀ {L W W' x c}, E L W x c → Agree L W W' → E L W' x c
  low : ∀ {L L' W x c}, E L W x c → L' ≤ L → E L' W x c
  kept : ∀ {L W W' row x c}, E L W x c → W.grownBy W' row → (∀ t, T t → NotTy W row t) → E L W' x c

/-- v owns the cells of pre, and what they lead to. -/
def OutG {α : Type} (E : Nat → World → α → List Value → Prop) (e C L : Nat) (W : World) (v : Value) (pre : List α) : Prop :=
  ∃ xs : List Value, W.ownsRow L e C v pre.length xs ∧ ∀ i x, pre[i]? = some x → ∃ c : List Value, c.length = C ∧ E L W x c ∧ ∀ j u, c[j]? = some u → xs[i * C + j]? = some u

variable {α : Type} {E : Nat → World → α → List Value → Prop} {T : TypeId → Prop} {e C L : Nat} {W : World} {v : Value} {pre : List α}
theorem OutG.nil (E : Nat → World → α → List Value → Prop) (e C L : Nat) (W : World) : OutG E e C L W (.slice none 0 0) [] := ⟨[], World.ownsRow_nil _ _ _ _, fun i x h => by simp at h⟩
theorem OutG.slice (h : OutG E e C L W v pre) : ∃ a cap, v = .slice a pre.length cap := by
  obtain ⟨xs, ho, -⟩ := h; exact own_slice ho
theorem OutG.agree (hK : Kind E T) {W' : World} (h : OutG E e C L W v pre) (ha : Agree L W W') : OutG E e C L W' v pre := by
  obtain ⟨xs, ho, hx⟩ := h
  refine ⟨xs, own_agree ho ha, fun i x hi => ?_⟩
  obtain ⟨c, h1, h2, h3⟩ := hx i x hi
  exact ⟨c, h1, hK.agree h2 ha, h3⟩
theorem OutG.below (hK : Kind E T) {W' : World} (h : OutG E e C L W v pre) (hb : Below W.heap.size W W') : OutG E e C L W' v pre := h.agree hK (agree_below hb)
theorem OutG.low (hK : Kind E T) {L' : Nat} (h : OutG E e C L W v pre) (hL : L' ≤ L) : OutG E e C L' W v pre := by
  obtain ⟨xs, ho, hx⟩ := h
  refine ⟨xs, own_base ho hL, fun i x hi => ?_⟩
  obtain ⟨c, h1, h2, h3⟩ := hx i x hi
  exact ⟨c, h1, hK.low h2 hL, h3⟩
theorem OutG.kept (hK : Kind E T) {W' : World} {row : Option Nat} (h : OutG E e C L W v pre) (hg : W.grownBy W' row) (hn : ∀ t, T t ∨ t = e → NotTy W row t) : OutG E e C L W' v pre := by
  obtain ⟨xs, ho, hx⟩ := h
  refine ⟨xs, own_kept ho hg (hn e (.inr rfl)), fun i x hi => ?_⟩
  obtain ⟨c, h1, h2, h3⟩ := hx i x hi
  exact ⟨c, h1, hK.kept h2 hg (fun t ht => hn t (.inl ht)), h3⟩
/-- One more. -/
theorem OutG.snoc (hK : Kind E T) (hT : ¬ T e) {W' : World} {v' : Value} {y : α} {cs : List Value} {xs : List Value} (how : W.ownsRow L e C v pre.length xs)
    (hxs : ∀ i x, pre[i]? = some x → ∃ c : List Value, c.length = C ∧ E L W x c ∧ ∀ j u, c[j]? = some u → xs[i * C + j]? = some u)
    (hE : E L W y cs) (hl : cs.length = C) (hg : W.grownBy W' v.ownBlock) (hn : W'.ownsRow L e C v' (pre.length + 1) (xs ++ cs)) : OutG E e C L W' v' (pre ++ [y]) := by
  have hlen : xs.length = pre.length * C := how.1
  have kp : ∀ {x c}, E L W x c → E L W' x c := fun {x c} hx => hK.kept hx hg (fun t ht => NotTy.of_own how (fun h => hT (h ▸ ht)))
  refine ⟨xs ++ cs, by simpa using hn, fun i x hi => ?_⟩
  by_cases hlt : i < pre.length
  · rw [List.getElem?_append_left hlt] at hi
    obtain ⟨d, hd, hsd, hcell⟩ := hxs i x hi
    refine ⟨d, hd, kp hsd, fun j u hu => ?_⟩
    have := hcell j u hu
    rw [List.getElem?_append_left (List.getElem?_eq_some_iff.1 this).1]
    exact this
  · rw [List.getElem?_append_right (by omega)] at hi
    have h0 : i - pre.length = 0 := by
      rcases Nat.eq_zero_or_pos (i - pre.length) with h0 | h0
      · exact h0
      · rw [List.getElem?_eq_none (by simp; omega)] at hi; cases hi
    rw [h0] at hi
    obtain rfl : y = x := by simpa using hi
    obtain rfl : i = pre.length := by omega
    refine ⟨cs, hl, kp hE, fun j u hu => ?_⟩
    rw [List.getElem?_append_right (by omega), show pre.length * C + j - xs.length = j by omega]
    exact hu
/-- As what a walk reads. -/
theorem OutG.rows {R : World → α → List Value → Prop} (h : OutG E e C L W v pre) (hR : ∀ {x c}, E L W x c → R W x c) : RowsOf R C W v pre := by
  obtain ⟨xs, ho, hx⟩ := h
  have hlen := ho.1
  obtain ⟨a, cap, b, off, h1, h2, h3, h4, h5, h6⟩ := Sl.of_own ho
  refine ⟨a, cap, b, off, h1, h2, h3, h4, h5, fun i x hi => ?_⟩
  obtain ⟨c, hc, hs, hcell⟩ := hx i x hi
  refine ⟨c, hc, hR hs, fun j u hu => ?_⟩
  have hxu := hcell j u hu
  have hlt := (List.getElem?_eq_some_iff.1 hxu).1
  have := h6 (i * C + j) hlt
  rw [show off + i * C + j = off + (i * C + j) by omega, this, List.getD_eq_getElem?_getD, hxu]
  rfl

/-! ### properties and queues -/
def PrpR (w : World) (x : Prp) (c : List Value) : Prop := ∃ dv, c = [.int .i64 x.1, .int .u64 x.2.1, dv] ∧ Ints .u8 w dv x.2.2 ∧ (Lit.int .i64 x.1).wf = true ∧ (Lit.int .u64 x.2.1).wf = true
theorem PrpR.lasts : Lasts PrpR := fun _ _ _ _ hb ⟨dv, h1, h2, h3⟩ => ⟨dv, h1, h2.below hb, h3⟩
def QueR (w : World) (x : Que) (c : List Value) : Prop := ∃ pv, c = [.int .u64 x.1, .int .u64 x.2.1, pv] ∧ RowsOf PrpR 3 w pv x.2.2 ∧ (Lit.int .u64 x.1).wf = true ∧ (Lit.int .u64 x.2.1).wf = true
theorem QueR.lasts : Lasts QueR := fun _ _ _ _ hb ⟨pv, h1, h2, h3⟩ => ⟨pv, h1, h2.below PrpR.lasts hb, h3⟩

def PrpO (L : Nat) (W : World) (x : Prp) (c : List Value) : Prop := ∃ dv, c = [.int .i64 x.1, .int .u64 x.2.1, dv] ∧ W.ownsRow L 5 1 dv x.2.2.length (x.2.2.map (Value.int .u8)) ∧ U8 x.2.2 ∧ (Lit.int .i64 x.1).wf = true ∧ (Lit.int .u64 x.2.1).wf = true
theorem PrpO.kind : Kind PrpO (· = 5) where
  agree := fun ⟨dv, h1, h2, h3⟩ ha => ⟨dv, h1, own_agree h2 ha, h3⟩
  low := fun ⟨dv, h1, h2, h3⟩ hL => ⟨dv, h1, own_base h2 hL, h3⟩
  kept := fun ⟨dv, h1, h2, h3⟩ hg hn => ⟨dv, h1, own_kept h2 hg (hn _ rfl), h3⟩
theorem PrpO.read {L : Nat} {W : World} {x : Prp} {c : List Value} (h : PrpO L W x c) : PrpR W x c := by
  obtain ⟨dv, h1, h2, h3, h4⟩ := h
  exact ⟨dv, h1, Ints.of_own h2 h3.wf, h4⟩
def OutP (L : Nat) (W : World) (v : Value) (pre : List Prp) : Prop := OutG PrpO 81 3 L W v pre
def QueO (L : Nat) (W : World) (x : Que) (c : List Value) : Prop := ∃ pv, c = [.int .u64 x.1, .int .u64 x.2.1, pv] ∧ OutP L W pv x.2.2 ∧ (Lit.int .u64 x.1).wf = true ∧ (Lit.int .u64 x.2.1).wf = true
theorem QueO.kind : Kind QueO (fun t => t = 5 ∨ t = 81) where
  agree := fun ⟨pv, h1, h2, h3⟩ ha => ⟨pv, h1, OutG.agree PrpO.kind h2 ha, h3⟩
  low := fun ⟨pv, h1, h2, h3⟩ hL => ⟨pv, h1, OutG.low PrpO.kind h2 hL, h3⟩
  kept := fun ⟨pv, h1, h2, h3⟩ hg hn => ⟨pv, h1, OutG.kept PrpO.kind h2 hg hn, h3⟩
theorem QueO.read {L : Nat} {W : World} {x : Que} {c : List Value} (h : QueO L W x c) : QueR W x c := by
  obtain ⟨pv, h1, h2, h3⟩ := h
  exact ⟨pv, h1, OutG.rows h2 PrpO.read, h3⟩
def OutQ (L : Nat) (W : World) (v : Value) (pre : List Que) : Prop := OutG QueO 79 3 L W v pre
theorem OutQ.rows {L : Nat} {W : World} {v : Value} {pre : List Que} (h : OutQ L W v pre) : RowsOf QueR 3 W v pre := OutG.rows h QueO.read
theorem OutP.rows {L : Nat} {W : World} {v : Value} {pre : List Prp} (h : OutP L W v pre) : RowsOf PrpR 3 W v pre := OutG.rows h PrpO.read

theorem prps_open {w : World} {v : Value} {l : List Prp} (h : RowsOf PrpR 3 w v l) :
    ∃ a cap b off, v = .slice a l.length cap ∧ l.length ≤ cap ∧ cap ≤ maxLen ∧ (a = none → cap = 0) ∧ (0 < l.length → a = some ⟨b, off, none⟩) ∧
      ∀ i t n bs, l[i]? = some (t, n, bs) → ∃ dv, w.cell? ⟨b, off + i * 3, none⟩ = some (.int .i64 t) ∧ w.cell? ⟨b, off + i * 3 + 1, none⟩ = some (.int .u64 n) ∧ w.cell? ⟨b, off + i * 3 + 2, none⟩ = some dv ∧ Ints .u8 w dv bs ∧ (Lit.int .i64 t).wf = true ∧ (Lit.int .u64 n).wf = true := by
  obtain ⟨a, cap, b, off, h1, h2, h3, h4, h5, h6⟩ := h
  refine ⟨a, cap, b, off, h1, h2, h3, h4, h5, fun i t n bs hi => ?_⟩
  obtain ⟨c, hc, ⟨dv, rfl, h7, h8⟩, hcell⟩ := h6 i _ hi
  exact ⟨dv, hcell 0 _ rfl, hcell 1 _ rfl, hcell 2 _ rfl, h7, h8⟩
theorem ques_open {w : World} {v : Value} {l : List Que} (h : RowsOf QueR 3 w v l) :
    ∃ a cap b off, v = .slice a l.length cap ∧ l.length ≤ cap ∧ cap ≤ maxLen ∧ (a = none → cap = 0) ∧ (0 < l.length → a = some ⟨b, off, none⟩) ∧
      ∀ i n m ps, l[i]? = some (n, m, ps) → ∃ pv, w.cell? ⟨b, off + i * 3, none⟩ = some (.int .u64 n) ∧ w.cell? ⟨b, off + i * 3 + 1, none⟩ = some (.int .u64 m) ∧ w.cell? ⟨b, off + i * 3 + 2, none⟩ = some pv ∧ RowsOf PrpR 3 w pv ps ∧ (Lit.int .u64 n).wf = true ∧ (Lit.int .u64 m).wf = true := by
  obtain ⟨a, cap, b, off, h1, h2, h3, h4, h5, h6⟩ := h
  refine ⟨a, cap, b, off, h1, h2, h3, h4, h5, fun i n m ps hi => ?_⟩
  obtain ⟨c, hc, ⟨pv, rfl, h7, h8⟩, hcell⟩ := h6 i _ hi
  exact ⟨pv, hcell 0 _ rfl, hcell 1 _ rfl, hcell 2 _ rfl, h7, h8⟩
end Go.Proofs.Ytoobcgakainelaa
