/- What queue.take does to its cursor, in plain Lean, and what stands meanwhile. Conditions: none beyond each lemma's own. -/
import Derived.Test.YtoobcgakainelaaZCurC
import Derived.Test.YtoobcgakainelaaZTlvF
namespace Go.Proofs.Ytoobcgakainelaa
open Go.RowKit

/-! ### plain -/
theorem hdr_fine {r : List Int} (h : 16 ≤ r.length) : getS hdrQ r = if ((r.drop 10).take 6).all (· == 0) then ([valL (r.take 4), valL ((r.drop 4).take 4), valL ((r.drop 8).take 2)], 0) else ([], 2) := by
  have hr : RightS hdrQ = true := by decide
  have h1 : ¬ r.length < 4 := by omega
  have h2 : ¬ r.length - 4 < 4 := by omega
  have h3 : ¬ r.length - 8 < 2 := by omega
  have h4 : ¬ r.length - 10 < 6 := by omega
  cases hz : ((r.drop 10).take 6).all (· == 0) with
  | true =>
    rw [if_pos rfl]
    refine getS_ok hr ?_
    have hz' : ∀ x ∈ (r.drop 10).take 6, x = 0 := fun x hx => by simpa using List.all_eq_true.1 hz x hx
    simp only [hdrQ, getL, Except.map, List.length_drop, List.drop_drop]
    simp [h1, h2, h3, h4]
    rw [if_pos hz']
  | false =>
    rw [if_neg (by decide)]
    refine getS_err hr ?_
    have hz' : ¬ ∀ x ∈ (r.drop 10).take 6, x = 0 := by
      intro h
      have : ((r.drop 10).take 6).all (· == 0) = true := List.all_eq_true.2 fun x hx => by simpa using h x hx
      rw [hz] at this
      cases this
    simp [hdrQ, getL, Except.map, List.length_drop, h1, h2, h3, h4, List.drop_drop, hz']
theorem hdr_take {r : List Int} (h : 16 ≤ r.length) : getS hdrQ (r.take 16) = getS hdrQ r := by
  rw [hdr_fine h, hdr_fine (by simp; omega)]
  simp [List.drop_take, List.take_take]
/-- What a header's fields are. -/
theorem hdr_cases {r : List Int} (hu : U8 r) (h : 16 ≤ r.length) : (getS hdrQ r = ([], 2)) ∨ ∃ a b n : Nat, getS hdrQ r = ([(a : Int), (b : Int), (n : Int)], 0) ∧ n < 65536 ∧ a < 4294967296 ∧ b < 4294967296 ∧ sizeQ r = n := by
  have hf := hdr_fine h
  cases hz : ((r.drop 10).take 6).all (· == 0) with
  | false => rw [hz, if_neg (by decide)] at hf; exact .inl hf
  | true =>
    rw [hz, if_pos rfl] at hf
    have u1 := valL_bd (b := r.take 4) (fun z hz => hu z (List.mem_of_mem_take hz))
    have u2 := valL_bd (b := (r.drop 4).take 4) (fun z hz => hu z (List.mem_of_mem_drop (List.mem_of_mem_take hz)))
    have u3 := valL_bd (b := (r.drop 8).take 2) (fun z hz => hu z (List.mem_of_mem_drop (List.mem_of_mem_take hz)))
    rw [show (r.take 4).length = 4 by simp; omega, show (256 : Int) ^ 4 = 4294967296 by decide] at u1
    rw [show ((r.drop 4).take 4).length = 4 by simp; omega, show (256 : Int) ^ 4 = 4294967296 by decide] at u2
    rw [show ((r.drop 8).take 2).length = 2 by simp; omega, show (256 : Int) ^ 2 = 65536 by decide] at u3
    refine .inr ⟨(valL (r.take 4)).toNat, (valL ((r.drop 4).take 4)).toNat, (valL ((r.drop 8).take 2)).toNat, ?_, by omega, by omega, by omega, ?_⟩
    · rw [hf, Int.toNat_of_nonneg u1.1, Int.toNat_of_nonneg u2.1, Int.toNat_of_nonneg u3.1]
    · unfold sizeQ; rw [hf]; rfl
theorem oneQ_short {r : List Int} (h : r.length < 16) : oneQ r = ((0, 0, []), 263) := by rw [oneQ, if_pos h]
theorem oneQ_odd {r : List Int} (h : 16 ≤ r.length) (h1 : getS hdrQ r = ([], 2)) : oneQ r = ((0, 0, []), 269) := by
  rw [oneQ, if_neg (by omega), if_pos (by rw [h1]; decide)]
theorem oneQ_bad {r : List Int} {l : List Int} (h : 16 ≤ r.length) (h1 : getS hdrQ r = (l, 0)) (h2 : sizeQ r < 16 ∨ sizeQ r % 8 ≠ 0 ∨ r.length < sizeQ r) : oneQ r = ((0, 0, []), 263) := by
  rw [oneQ, if_neg (by omega), if_neg (by rw [h1]; simp), if_pos h2]
theorem oneQ_good {r : List Int} {a b n : Int} (h : 16 ≤ r.length) (h1 : getS hdrQ r = ([a, b, n], 0)) (h2 : 16 ≤ sizeQ r) (h3 : sizeQ r % 8 = 0) (h4 : sizeQ r ≤ r.length) :
    oneQ r = if (propsQ ((r.take (sizeQ r)).drop 16)).2 ≠ 0 then ((0, 0, []), (propsQ ((r.take (sizeQ r)).drop 16)).2) else ((a, b, (propsQ ((r.take (sizeQ r)).drop 16)).1), 0) := by
  rw [oneQ, if_neg (by omega), if_neg (by rw [h1]; simp), if_neg (by omega), h1]
  rfl
/-- Properties in the making: what has been read, what is left. -/
def Propping (bs : List Int) (acc : List Prp) (rest : List Int) : Prop := propsQ bs = propsA rest.length acc rest
theorem propsA_fuel : ∀ (f g : Nat) (acc : List Prp) (bs : List Int), bs.length ≤ f → bs.length ≤ g → propsA f acc bs = propsA g acc bs := by
  intro f
  induction f with
  | zero =>
    intro g acc bs hf hg
    have h0 : bs.length = 0 := by omega
    cases g with
    | zero => rfl
    | succ g => rw [propsA, propsA, if_pos h0]
  | succ f ih =>
    intro g acc bs hf hg
    cases g with
    | zero => rw [propsA, propsA, if_pos (by omega)]
    | succ g =>
      rw [propsA, propsA]
      by_cases h0 : bs.length = 0
      · rw [if_pos h0, if_pos h0]
      · rw [if_neg h0, if_neg h0]
        by_cases h1 : (shQ.one bs).2.2 ≠ 0
        · rw [if_pos h1, if_pos h1]
        · rw [if_neg h1, if_neg h1]
          have hok := (shQ.one_ok (by simpa using h1)).2
          by_cases h2 : (propQ (shQ.one bs).1).2 ≠ 0
          · rw [if_pos h2, if_pos h2]
          · rw [if_neg h2, if_neg h2]
            exact ih g _ _ (by rw [List.length_drop]; omega) (by rw [List.length_drop]; omega)
theorem Propping.start (bs : List Int) : Propping bs [] bs := rfl
theorem Propping.done {bs : List Int} {acc : List Prp} {rest : List Int} (h : Propping bs acc rest) (h0 : rest.length = 0) : propsQ bs = (acc, 0) := by
  unfold Propping at h
  rw [h, h0]
  rfl
theorem Propping.fails {bs : List Int} {acc : List Prp} {rest : List Int} (h : Propping bs acc rest) (h0 : 0 < rest.length) (h1 : (shQ.one rest).2.2 ≠ 0) : propsQ bs = ([], (shQ.one rest).2.2) := by
  unfold Propping at h
  obtain ⟨f, hf⟩ : ∃ f, rest.length = f + 1 := ⟨rest.length - 1, by omega⟩
  rw [h, hf, propsA, if_neg (by omega), if_pos h1]
theorem Propping.failp {bs : List Int} {acc : List Prp} {rest : List Int} (h : Propping bs acc rest) (h0 : 0 < rest.length) (h1 : (shQ.one rest).2.2 = 0) (h2 : (propQ (shQ.one rest).1).2 ≠ 0) : propsQ bs = ([], (propQ (shQ.one rest).1).2) := by
  unfold Propping at h
  obtain ⟨f, hf⟩ : ∃ f, rest.length = f + 1 := ⟨rest.length - 1, by omega⟩
  rw [h, hf, propsA, if_neg (by omega), if_neg (by simpa using h1), if_pos h2]
theorem Propping.next {bs : List Int} {acc : List Prp} {rest : List Int} (h : Propping bs acc rest) (h0 : 0 < rest.length) (h1 : (shQ.one rest).2.2 = 0) (h2 : (propQ (shQ.one rest).1).2 = 0) : Propping bs (acc ++ [(propQ (shQ.one rest).1).1]) (rest.drop (shQ.one rest).2.1) := by
  unfold Propping at h ⊢
  obtain ⟨f, hf⟩ : ∃ f, rest.length = f + 1 := ⟨rest.length - 1, by omega⟩
  rw [h, hf, propsA, if_neg (by omega), if_neg (by simpa using h1), if_neg (by simpa using h2)]
  have := (shQ.one_ok h1).2
  exact propsA_fuel _ _ _ _ (by rw [List.length_drop]; omega) (Nat.le_refl _)
/-- The state of the reading: no fault yet, or the first one. -/
def PropE (bs : List Int) (acc : List Prp) (rest : List Int) (er : Int) : Prop := (er = 0 ∧ Propping bs acc rest) ∨ (er ≠ 0 ∧ propsQ bs = ([], er))
theorem St.fail_er (s : St) (e : Int) : (s.fail e).er = if s.er = 0 then e else s.er := by unfold St.fail; split <;> rfl
theorem St.fail_same {s : St} {e : Int} (h : e = 0) : s.fail e = s := by
  subst h
  unfold St.fail
  split
  · rename_i h0; obtain ⟨a, b, c, d, e⟩ := s; simp only at h0; subst h0; rfl
  · rfl
theorem propQ_wf {t : Int} {bs : List Int} (ht : 0 ≤ t ∧ t < 65536) (hu : U8 bs) : (Lit.int .i64 (propQ (t, bs)).1.1).wf = true ∧ (Lit.int .u64 (propQ (t, bs)).1.2.1).wf = true ∧ U8 (propQ (t, bs)).1.2.2 := by
  have z : ∀ q : List Int, U8 ([] : List Int) := fun q z hz => by simp at hz
  unfold propQ
  simp only
  cases hr : rowsQ t with
  | none => exact ⟨rfl, rfl, z []⟩
  | some w =>
    simp only
    split
    · exact ⟨rfl, rfl, z []⟩
    · split
      · exact ⟨wf_i64 (by show _ ≤ t; omega) (by show t < _; omega), rfl, z []⟩
      · split
        · exact ⟨wf_i64 (by show _ ≤ t; omega) (by show t < _; omega), rfl, z []⟩
        · refine ⟨wf_i64 (by show _ ≤ t; omega) (by show t < _; omega), ?_, fun z hz => hu z (List.mem_of_mem_drop hz)⟩
          show (Lit.int .u64 ((getS w bs).1.getD 0 0)).wf = true
          cases hl : (getS w bs).1 with
          | nil => rfl
          | cons x l =>
            have := getS_u64 (ws := w) hu x (by rw [hl]; simp)
            exact wf_u64n this.1 this.2

/-! ### bytes told apart by their block's type -/
/-- The block of v holds bytes. -/
def ByteAt (W : World) (v : Value) : Prop := ∀ b, v.ownBlock = some b → ∃ cs fr, W.heap[b]? = some (.cells cs 5 fr)
theorem ByteAt.of_own {L size n : Nat} {W : World} {v : Value} {xs : List Value} (h : W.ownsRow L 5 size v n xs) : ByteAt W v := fun b hb => by
  obtain ⟨cur, hc⟩ := own_cells h hb
  exact ⟨cur, _, hc⟩
theorem ByteAt.kept {W W' : World} {v : Value} {row : Option Nat} (h : ByteAt W v) (hg : W.grownBy W' row) (hn : NotTy W row 5) : ByteAt W' v := fun b hb => by
  obtain ⟨cs, fr, hc⟩ := h b hb
  exact ⟨cs, fr, (hg.block b (Array.getElem?_eq_some_iff.1 hc).1 (fun e => hn b cs fr e.symm hc)).trans hc⟩
theorem ByteAt.below {W W' : World} {v : Value} (h : ByteAt W v) (hb : Below W.heap.size W W') : ByteAt W' v := fun b hb' => by
  obtain ⟨cs, fr, hc⟩ := h b hb'
  exact ⟨cs, fr, (hb.block b (Array.getElem?_eq_some_iff.1 hc).1).trans hc⟩
theorem ByteAt.slice {W : World} {v v' : Value} (h : ByteAt W v) (hs : ∀ b, v'.ownBlock = some b → v.ownBlock = some b) : ByteAt W v' := fun b hb => h b (hs b hb)
theorem Ints.keptB {W W' : World} {v : Value} {zs : List Int} {row : Option Nat} (h : Ints .u8 W v zs) (hv : ByteAt W v) (hg : W.grownBy W' row) (hn : NotTy W row 5) : Ints .u8 W' v zs :=
  h.grown hg (fun b hb e => by obtain ⟨cs, fr, hc⟩ := hv b hb; exact hn b cs fr e.symm hc)
theorem Cur.notTy {B : Nat × Nat} {w : World} {p : Nat} {s : St} (h : Cur B w p s) {t : TypeId} (ht : 103 ≠ t) : NotTy w (some p) t := by
  obtain ⟨bv, h1, -⟩ := h
  exact NotTy.of_block h1 ht
theorem OutP.block {L : Nat} {W : World} {v : Value} {pre : List Prp} (h : OutP L W v pre) {t : TypeId} (ht : 81 ≠ t) : NotTy W v.ownBlock t := by
  obtain ⟨xs, ho, -⟩ := h
  exact NotTy.of_own ho ht

/-! ### what stands while queue.take runs -/
structure TakeW (B : Nat × Nat) (w : World) (p : Nat) (s : St) (c : Array Value) (wr : World) : Prop where
  cur : Cur B wr p s
  own : wr.heap[w.heap.size]? = some (.cells c 79 (0, 0))
  grown : w.grownBy wr (some p)
  lt : p < w.heap.size
  up : B.2 ≤ w.heap.size
variable {B : Nat × Nat} {w wr wr' : World} {p : Nat} {s s' : St} {c c' : Array Value}
theorem TakeW.start (h : Cur B w p s) (hB : B.2 ≤ w.heap.size) (c : Array Value) : TakeW B w p s c (w.alloc (.cells c 79)) where
  cur := h.below (below_alloc2 _)
  own := heap_alloc_new w _
  grown := grown_of_below (below_alloc2 _) _
  lt := h.lt
  up := hB
theorem TakeW.size (h : TakeW B w p s c wr) : w.heap.size + 1 ≤ wr.heap.size := by
  have := (Array.getElem?_eq_some_iff.1 h.own).1
  omega
theorem TakeW.below (h : TakeW B w p s c wr) (hb : Below wr.heap.size wr wr') : TakeW B w p s c wr' where
  cur := h.cur.below hb
  own := row_below hb h.own
  grown := grown_trans h.grown (grown_of_below hb _)
  lt := h.lt
  up := h.up
/-- A call on the cursor. -/
theorem TakeW.call (h : TakeW B w p s c wr) (hc : Cur B wr' p s') (hg : wr.grownBy wr' (some p)) : TakeW B w p s' c wr' where
  cur := hc
  own := (hg.block _ (Array.getElem?_eq_some_iff.1 h.own).1 (fun e => by injection e with e; have := h.lt; omega)).trans h.own
  grown := grown_trans h.grown hg
  lt := h.lt
  up := h.up
/-- What was laid since may turn. -/
theorem TakeW.row (h : TakeW B w p s c wr) {row : Option Nat} (hg : wr.grownBy wr' row) (hr : ∀ k, row = some k → w.heap.size + 1 ≤ k) : TakeW B w p s c wr' where
  cur := h.cur.grown hg (fun k e => .inr (by have := hr k e; have := h.up; omega))
  own := (hg.block _ (Array.getElem?_eq_some_iff.1 h.own).1 (fun e => by have := hr _ e.symm; omega)).trans h.own
  grown := ⟨hg.os.trans h.grown.os, hg.tape.trans h.grown.tape, hg.output.trans h.grown.output, Nat.le_trans h.grown.size hg.size, fun k hk hne => (hg.block k (Nat.lt_of_lt_of_le hk h.grown.size) (fun e => by have := hr _ e.symm; omega)).trans (h.grown.block k hk hne)⟩
  lt := h.lt
  up := h.up
/-- The result's own row, stored anew. -/
theorem TakeW.put (h : TakeW B w p s c wr) (hg : wr.grownBy wr' (some w.heap.size)) (ho : wr'.heap[w.heap.size]? = some (.cells c' 79 (0, 0))) : TakeW B w p s c' wr' where
  cur := h.cur.grown hg (fun k e => .inr (by injection e with e; have := h.up; omega))
  own := ho
  grown := ⟨hg.os.trans h.grown.os, hg.tape.trans h.grown.tape, hg.output.trans h.grown.output, Nat.le_trans h.grown.size hg.size, fun k hk hne => (hg.block k (Nat.lt_of_lt_of_le hk h.grown.size) (fun e => by injection e with e; omega)).trans (h.grown.block k hk hne)⟩
  lt := h.lt
  up := h.up
theorem TakeW.drew (h : TakeW B w p s c wr) (q : Nat) : TakeW B w p s c (wr.drewN q) := ⟨h.cur, h.own, ⟨h.grown.os, h.grown.tape, h.grown.output, h.grown.size, h.grown.block⟩, h.lt, h.up⟩

/-- What queue.take hands back. -/
def GotTake (B : Nat × Nat) (w : World) (p : Nat) (s : St) (e : Ending) (w' : World) : Prop :=
  ∃ (q : Que) (pv : Value) (s' : St), e = .returned (.agg #[.int .u64 q.1, .int .u64 q.2.1, pv]) ∧ OutP w.heap.size w' pv q.2.2 ∧ (Lit.int .u64 q.1).wf = true ∧ (Lit.int .u64 q.2.1).wf = true ∧
    Cur B w' p s' ∧ w.grownBy w' (some p) ∧ s'.bs = s.bs ∧ s'.sh = s.sh ∧ s'.er = (oneQ s.rest).2 ∧ (s'.er = 0 → q = (oneQ s.rest).1 ∧ s'.pos = s.pos + sizeQ s.rest ∧ 16 ≤ sizeQ s.rest)
theorem TakeW.ret {fn : Func} (hfn : fn.results = #[.cell 2 79]) (tmps : Array Value) {x y : Int} {pv : Value} {ps : List Prp} (h : TakeW B w p s' #[.int .u64 x, .int .u64 y, pv] wr) (hp : tmps.getD 2 undef = .pointer (some ⟨w.heap.size, 0, none⟩))
    (ho : OutP w.heap.size wr pv ps) (hx : (Lit.int .u64 x).wf = true) (hy : (Lit.int .u64 y).wf = true) (h1 : s'.bs = s.bs) (h2 : s'.sh = s.sh) (h3 : s'.er = (oneQ s.rest).2) (h4 : s'.er = 0 → (x, y, ps) = (oneQ s.rest).1 ∧ s'.pos = s.pos + sizeQ s.rest ∧ 16 ≤ sizeQ s.rest) :
    bodyPost Try.prog fn (GotTake B w p s) Exit.ret ⟨tmps, []⟩ wr :=
  bodyPost_ret (res_row1 hfn _ _ w.heap.size _ _ _ _ hp h.own Try.underlying79 rfl (by kernel_rfl)) rfl ⟨(x, y, ps), pv, s', rfl, ho, hx, hy, h.cur, h.grown, h1, h2, h3, h4⟩
end Go.Proofs.Ytoobcgakainelaa
