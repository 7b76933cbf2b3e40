/- The cursor's block, how it lasts, and the walks of the cursor's methods that do not allocate; bytes.Clone and cursor.New. Conditions: the receiver is a cursor that New has made. The walks of the cursor's take, Bytes, Rest, Look and Sub. Conditions: the receiver is a cursor that New has made, its fault of short is one. Slices whose elements have several cells, and may lead to more memory: what such a slice reads as, how it lasts, how it grows, and how a walk opens it. Conditions: none beyond each lemma's own. What tlv.Cut has collected while it ranges over the things: the rows it owns, and how they last. Conditions: none beyond each lemma's own. -/
import Derived.Test.YtcebcncpbedkmaaGreatZRowE
import Derived.Test.YtcebcncpbedkmaaGreatZPlain01
import Derived.Lib.SliceRun
import Derived.RangeFuncRecord
namespace Go.Proofs.YtcebcncpbedkmaaGreat
open Go.RowKit

theorem Ints.grown {k : IntKind} {w w' : World} {v : Value} {zs : List Int} {row : Option Nat} (h : Ints k w v zs) (hg : w.grownBy w' row) (hr : ∀ b, v.ownBlock = some b → some b ≠ row) : Ints k w' v zs := by
  obtain ⟨⟨a, cap, b, off, rfl, h2, h3, h4, h5, h6⟩, hw⟩ := h
  refine ⟨⟨a, cap, b, off, rfl, h2, h3, h4, h5, ?_⟩, hw⟩
  rcases Nat.eq_zero_or_pos zs.length with h0 | h0
  · intro i hi; simp at hi; omega
  · obtain rfl := h5 h0
    exact h6.grown hg (hr b rfl)

/-- Block p is a cursor that stands as s; it and its bytes lie between B's two. -/
def Cur (B : Nat × Nat) (w : World) (p : Nat) (s : St) : Prop :=
  ∃ bv, w.heap[p]? = some (.cells #[bv, .int .i64 s.pos, .int .i64 s.sh, .int .i64 s.od, .int .i64 s.er, .bool true] 180 (0, 0)) ∧ Ints .u8 w bv s.bs ∧ (s.pos ≤ s.bs.length ∧ s.bs.length ≤ 1000000000) ∧ (B.1 ≤ p ∧ p < B.2) ∧ ∀ b, bv.ownBlock = some b → B.1 ≤ b ∧ b ≠ p ∧ b < w.heap.size ∧ b < B.2

theorem Cur.lt {B : Nat × Nat} {w : World} {p : Nat} {s : St} (h : Cur B w p s) : p < w.heap.size := by
  obtain ⟨bv, h1, -⟩ := h
  exact (Array.getElem?_eq_some_iff.1 h1).1
theorem Cur.from {B : Nat × Nat} {w : World} {p : Nat} {s : St} (h : Cur B w p s) : B.1 ≤ p := by
  obtain ⟨bv, -, -, -, h1, -⟩ := h; exact h1.1
theorem Cur.upto {B : Nat × Nat} {w : World} {p : Nat} {s : St} (h : Cur B w p s) : p < B.2 := by
  obtain ⟨bv, -, -, -, h1, -⟩ := h; exact h1.2
theorem Cur.ok {B : Nat × Nat} {w : World} {p : Nat} {s : St} (h : Cur B w p s) : s.ok := by
  obtain ⟨bv, -, h1, h2, -⟩ := h; exact ⟨h2.1, h1.u8⟩
theorem Cur.lower {A B E : Nat} {w : World} {p : Nat} {s : St} (h : Cur (B, E) w p s) (hb : A ≤ B) : Cur (A, E) w p s := by
  obtain ⟨bv, h1, h2, h3, h4, h5⟩ := h
  exact ⟨bv, h1, h2, h3, ⟨Nat.le_trans hb h4.1, h4.2⟩, fun b e => ⟨Nat.le_trans hb (h5 b e).1, (h5 b e).2⟩⟩
theorem Cur.grown {B : Nat × Nat} {w w' : World} {p : Nat} {s : St} {row : Option Nat} (h : Cur B w p s) (hg : w.grownBy w' row) (hr : ∀ k, row = some k → k < B.1 ∨ B.2 ≤ k) : Cur B w' p s := by
  have hlt := h.lt
  obtain ⟨bv, h1, h2, h3, h4, h5⟩ := h
  refine ⟨bv, ?_, h2.grown hg (fun b e e' => ?_), h3, h4, fun b e => ⟨(h5 b e).1, (h5 b e).2.1, Nat.lt_of_lt_of_le (h5 b e).2.2.1 hg.size, (h5 b e).2.2.2⟩⟩
  · rw [hg.block p hlt (fun e => by have := hr p e.symm; omega)]; exact h1
  · have := hr b e'.symm; have := h5 b e; omega
theorem Cur.below {B : Nat × Nat} {w w' : World} {p : Nat} {s : St} (h : Cur B w p s) (hg : Below w.heap.size w w') : Cur B w' p s :=
  h.grown (grown_of_below hg none) (fun k e => by cases e)

/-- What a store into the cursor's block leaves. -/
theorem heap_put {w : World} {p : Nat} {cs : Array Value} {t : TypeId} (h : w.heap[p]? = some (.cells cs t (0, 0))) (i : Nat) (v : Value) : (w.setCell ⟨p, i, none⟩ v).heap[p]? = some (.cells (cs.setIfInBounds i v) t (0, 0)) := by
  obtain ⟨hlt, hk⟩ := Array.getElem?_eq_some_iff.1 h
  show (w.heap.modify p _)[p]? = _
  rw [Array.getElem?_eq_getElem (by rw [Array.size_modify]; exact hlt), Array.getElem_modify_self, hk]
  rfl
theorem grown_put (w : World) (p i : Nat) (v : Value) : w.grownBy (w.setCell ⟨p, i, none⟩ v) (some p) :=
  ⟨rfl, rfl, rfl, (by simp), fun k _ hk => Below.heap_setCell _ _ _ k (fun e => hk (by rw [e]))⟩

/-- What a cursor gives to a walk. -/
theorem Cur.open {B : Nat × Nat} {w : World} {p : Nat} {s : St} (h : Cur B w p s) :
    ∃ bv er, er = s.er ∧ Ints .u8 w bv s.bs ∧ (s.pos ≤ s.bs.length ∧ s.bs.length ≤ 1000000000) ∧ w.cell? ⟨p, 0, none⟩ = some bv ∧ w.cell? ⟨p, 1, none⟩ = some (.int .i64 s.pos) ∧ w.cell? ⟨p, 2, none⟩ = some (.int .i64 s.sh) ∧ w.cell? ⟨p, 3, none⟩ = some (.int .i64 s.od) ∧ w.cell? ⟨p, 4, none⟩ = some (.int .i64 er) ∧ w.cell? ⟨p, 5, none⟩ = some (.bool true) ∧ (∀ i, w.frozen? ⟨p, i, none⟩ = false) := by
  obtain ⟨bv, h1, h2, h3, -⟩ := h
  refine ⟨bv, s.er, rfl, h2, h3, ?_, ?_, ?_, ?_, ?_, ?_, fun i => ?_⟩ <;> simp [World.cell?, World.frozen?, h1]

/-- A fault, stored. -/
theorem Cur.setEr {B : Nat × Nat} {w : World} {p : Nat} {s : St} (h : Cur B w p s) (e : Int) : Cur B (w.setCell ⟨p, 4, none⟩ (.int .i64 e)) p { s with er := e } := by
  obtain ⟨bv, h1, h2, h3, h4, h5⟩ := h
  exact ⟨bv, (heap_put h1 4 _).trans (by rfl), h2.grown (grown_put w p 4 _) (fun b hb e' => (h5 b hb).2.1 (by injection e')), h3, h4, fun b e => ⟨(h5 b e).1, (h5 b e).2.1, Nat.lt_of_lt_of_le (h5 b e).2.2.1 (grown_put w p 4 _).size, (h5 b e).2.2.2⟩⟩
/-- So many bytes more, stored. -/
theorem Cur.setPos {B : Nat × Nat} {w : World} {p : Nat} {s : St} (h : Cur B w p s) (n : Nat) (hn : n ≤ s.bs.length) : Cur B (w.setCell ⟨p, 1, none⟩ (.int .i64 n)) p { s with pos := n } := by
  obtain ⟨bv, h1, h2, h3, h4, h5⟩ := h
  exact ⟨bv, (heap_put h1 1 _).trans (by rfl), h2.grown (grown_put w p 1 _) (fun b hb e' => (h5 b hb).2.1 (by injection e')), ⟨hn, h3.2⟩, h4, fun b e => ⟨(h5 b e).1, (h5 b e).2.1, Nat.lt_of_lt_of_le (h5 b e).2.2.1 (grown_put w p 1 _).size, (h5 b e).2.2.2⟩⟩

theorem grown_draw {w w' : World} {row : Option Nat} (h : w.grownBy w' row) (q : Nat) : w.grownBy (w'.drewN q) row := ⟨h.os, h.tape, h.output, h.size, h.block⟩
theorem Cur.drew {B : Nat × Nat} {w : World} {p : Nat} {s : St} (h : Cur B w p s) (q : Nat) : Cur B (w.drewN q) p s := h

theorem grown_trans {w w' w'' : World} {row : Option Nat} (h : w.grownBy w' row) (h' : w'.grownBy w'' row) : w.grownBy w'' row :=
  ⟨h'.os.trans h.os, h'.tape.trans h.tape, h'.output.trans h.output, Nat.le_trans h.size h'.size, fun k hk hne => (h'.block k (Nat.lt_of_lt_of_le hk h.size) hne).trans (h.block k hk hne)⟩
theorem own_other {w w' : World} {B e size n : Nat} {v : Value} {xs : List Value} {row : Option Nat} (h : w.ownsRow B e size v n xs) (hg : w.grownBy w' row) (hr : ∀ k, row = some k → k < B) : w'.ownsRow B e size v n xs :=
  h.kept hg (by
    cases hv : v.ownBlock with
    | none => exact .inl rfl
    | some g => exact .inr fun e' => by have := hr g e'.symm; have := (h.lt g hv).1; omega)

theorem wrap_small {n : Int} (h1 : -9223372036854775808 ≤ n) (h2 : n < 9223372036854775808) : IntKind.wrap .i64 n = n := by
  simp [IntKind.wrap, IntKind.signed, IntKind.bits]; omega

set_option maxRecDepth 100000
set_option maxHeartbeats 400000

theorem cur_none {B : Nat × Nat} {p : Nat} {s : St} {w : World} (h : Cur B w p s) :
    Calls Tryz.prog 127 #[.pointer (some ⟨p, 0, none⟩)] w fun e w' => e = .returned (.bool false) ∧ w = w' := by
  obtain ⟨bv, er, her, hb, hp, c0, c1, c2, c3, c4, c5, fz⟩ := h.open
  clear h
  have H0 := Lib.hid her
  have H1 := Lib.hid hb
  have H2 := Lib.hid hp
  clear her hb hp
  go_enter Tryz.func127, Tryz.ntmps127
  go_wp2
  go_ret
  exact ⟨rfl, rfl⟩


theorem cur_err {B : Nat × Nat} {p : Nat} {s : St} {w : World} (h : Cur B w p s) :
    Calls Tryz.prog 122 #[.pointer (some ⟨p, 0, none⟩)] w fun e w' => e = .returned (.int .i64 s.er) ∧ w = w' := by
  have C1 := Lib.hid (cur_none h)
  obtain ⟨bv, er, her, hb, hp, c0, c1, c2, c3, c4, c5, fz⟩ := h.open
  clear h
  have H0 := Lib.hid her
  clear her hb hp
  go_enter Tryz.func122, Tryz.ntmps122
  go_wp2_with ((go_at_call 127; (with_reducible refine C1.out.mono ?_); rintro e1 w1 ⟨rfl, rfl⟩))
  go_ret
  exact ⟨by rw [H0.out]; rfl, rfl⟩

theorem cur_left {B : Nat × Nat} {p : Nat} {s : St} {w : World} (h : Cur B w p s) :
    Calls Tryz.prog 131 #[.pointer (some ⟨p, 0, none⟩)] w fun e w' => e = .returned (.int .i64 s.left) ∧ ∃ q, w' = w.drewN q := by
  have C1 := Lib.hid (cur_none h)
  obtain ⟨bv, er, her, hb, hp, c0, c1, c2, c3, c4, c5, fz⟩ := h.open
  clear h
  have hle := hb.le
  obtain ⟨ab, cap, b, off, rfl, -⟩ := hb.open
  have H0 := Lib.hid her
  clear her hb
  go_enter Tryz.func131, Tryz.ntmps131
  go_wp2_with (first
    | (go_at_call 127; (with_reducible refine C1.out.mono ?_); rintro e1 w1 ⟨rfl, rfl⟩)
    | go_quiet (fail))
  go_ret
  refine ⟨?_, _, rfl⟩
  simp [St.left]; omega

theorem cur_at {B : Nat × Nat} {p : Nat} {s : St} {w : World} (h : Cur B w p s) :
    Calls Tryz.prog 124 #[.pointer (some ⟨p, 0, none⟩)] w fun e w' => e = .returned (.int .i64 s.pos) ∧ w = w' := by
  have C1 := Lib.hid (cur_none h)
  obtain ⟨bv, er, her, hb, hp, c0, c1, c2, c3, c4, c5, fz⟩ := h.open
  clear h her hb hp
  go_enter Tryz.func124, Tryz.ntmps124
  go_wp2_with ((go_at_call 127; (with_reducible refine C1.out.mono ?_); rintro e1 w1 ⟨rfl, rfl⟩))
  go_ret
  exact ⟨rfl, rfl⟩

theorem cur_fail {B : Nat × Nat} {p : Nat} {s : St} {w : World} (h : Cur B w p s) (x : Int) :
    Calls Tryz.prog 126 #[.pointer (some ⟨p, 0, none⟩), .int .i64 x] w fun e w' => e = .returned (.tuple #[]) ∧ Cur B w' p (s.fail x) ∧ w.grownBy w' (some p) := by
  have C1 := Lib.hid (cur_none h)
  have C2 := Lib.hid h
  obtain ⟨bv, er, her, hb, hp, c0, c1, c2, c3, c4, c5, fz⟩ := h.open
  clear h hb hp
  have fz4 := fz 4
  by_cases h0 : er = 0
  · subst h0
    have H0 := Lib.hid her
    clear her
    go_enter Tryz.func126, Tryz.ntmps126
    go_wp2_with ((go_at_call 127; (with_reducible refine C1.out.mono ?_); rintro e1 w1 ⟨rfl, rfl⟩))
    go_end0
    refine ⟨?_, ?_, grown_put _ _ _ _⟩
    · rfl
    · rw [show s.fail x = { s with er := x } by rw [St.fail, if_pos H0.out.symm]]
      exact C2.out.setEr x
  · have e1 : (er == 0) = false := by simpa using h0
    have H0 := Lib.hid her
    have H1 := Lib.hid h0
    clear her h0
    go_enter Tryz.func126, Tryz.ntmps126
    go_wp2_with ((go_at_call 127; (with_reducible refine C1.out.mono ?_); rintro e1 w1 ⟨rfl, rfl⟩))
    go_end0
    refine ⟨?_, ?_, World.grownBy.refl _ _⟩
    · rfl
    · rw [show s.fail x = s by rw [St.fail, if_neg (by rw [← H0.out]; exact H1.out)]]
      exact C2.out


theorem own_made0 (w : World) (base e size : Nat) (hb : base ≤ w.heap.size) : (w.alloc (.cells #[] e)).ownsRow base e size (.slice (some ⟨w.heap.size, 0, none⟩) 0 0) 0 [] :=
  World.ownsRow_made w #[] 0 hb (by unfold maxLen; omega) (by simp)
theorem Ints.none {k : IntKind} {w : World} {n c : Nat} {zs : List Int} (h : Ints k w (.slice none n c) zs) : zs = [] := by
  obtain ⟨a, cap, b, off, e, h2, h3, h4, -⟩ := h.open
  injection e with e1 e2 e3
  have := h4 e1.symm
  exact List.eq_nil_of_length_eq_zero (by omega)
theorem Ints.len {k : IntKind} {w : World} {a : Option Addr} {n c : Nat} {zs : List Int} (h : Ints k w (.slice a n c) zs) : n = zs.length := by
  obtain ⟨a, cap, b, off, e, -⟩ := h.open
  injection e

theorem bytes_clone {v : Value} {bs : List Int} {w : World} (h : Ints .u8 w v bs) (hl : bs.length ≤ 1000000000) :
    Calls Tryz.prog 111 #[v] w fun e w' => ∃ v', e = .returned v' ∧ w'.ownsRow w.heap.size 5 1 v' bs.length (bs.map (Value.int .u8)) ∧ Below w.heap.size w w' := by
  have q : ∀ (w : World) (a : Option Addr) (n c n' c' : Nat), (binOp .eql 24 (.slice a n c) (.slice none n' c')).run Tryz.prog w = .ok (.bool a.isNone) w := fun w a n c n' c' => Lib.run_eql_slice_nil w _ _ a n c n' c' Tryz.underlying24
  obtain ⟨a, cap, b, off, rfl, -⟩ := h.open
  cases a with
  | none =>
    obtain rfl := h.none
    clear h
    go_enter Tryz.func111, Tryz.ntmps111
    go_wp2
    go_ret
    exact ⟨_, rfl, World.ownsRow_nil _ _ _ _, Below.refl _ _⟩
  | some a =>
    have H := Lib.hid h
    clear h
    go_enter Tryz.func111, Tryz.ntmps111
    go_wp2_with (at_builtin; refine wpList_append_sl rfl (.tmp 5) (.tmp 6) _ rfl w.heap.size 5 (.int .u8 0) 1 1 Tryz.underlying24 info_u8 rfl (by decide) _ 0 [] rfl (own_made0 w _ _ _ (Nat.le_refl _)) _ bs.length (bs.map (Value.int .u8)) rfl (by simp) (H.out.alloc _).1 (ints_one _ _) (by unfold maxLen; omega) (by omega) (by simp) ?_; intro v2 w2 hown2 hgrow2 _; have HO2 := Lib.hid hown2; have HB2 : Hid (Below w.heap.size w w2) := own_grown (below_alloc2 _) (by simp) (own_made0 w w.heap.size 5 1 (Nat.le_refl _)) hgrow2 rfl; clear hown2 hgrow2)
    go_ret
    refine ⟨_, rfl, ?_, HB2.out⟩
    have := HO2.out
    rw [List.nil_append, Nat.zero_add] at this
    exact this

theorem own_slice {w : World} {base e size n : Nat} {v : Value} {xs : List Value} (h : w.ownsRow base e size v n xs) : ∃ a cap, v = .slice a n cap := by
  obtain ⟨hl, ⟨rfl, rfl⟩ | ⟨g, cap, cur, rfl, -⟩⟩ := h
  · exact ⟨_, _, rfl⟩
  · exact ⟨_, _, rfl⟩

theorem Cur.made {w w1 : World} {v1 : Value} {bs : List Int} {sh od : Int} (hown : w1.ownsRow w.heap.size 5 1 v1 bs.length (bs.map (Value.int .u8))) (hU : ∀ z ∈ bs, (Lit.int .u8 z).wf = true) (hl : bs.length ≤ 1000000000) (hs : w.heap.size ≤ w1.heap.size) :
    Cur (w.heap.size, w1.heap.size + 1) (w1.alloc (.cells #[v1, .int .i64 0, .int .i64 sh, .int .i64 od, .int .i64 0, .bool true] 180)) w1.heap.size (St.fresh bs sh od) := by
  have hb := Ints.of_own hown hU
  refine ⟨v1, heap_alloc_new _ _, hb.below (below_alloc2 _), ⟨Nat.zero_le _, hl⟩, ⟨hs, by simp⟩, fun b e => ⟨(hown.lt b e).1, ?_, ?_, ?_⟩⟩
  · have := (hown.lt b e).2; omega
  · have := (hown.lt b e).2; simp; omega
  · have := (hown.lt b e).2; simp; omega

/-- What New hands back: a cursor of its own. -/
theorem cur_new {v : Value} {bs : List Int} {w : World} (h : Ints .u8 w v bs) (hl : bs.length ≤ 1000000000) (sh od : Int) :
    Calls Tryz.prog 120 #[v, .int .i64 sh, .int .i64 od] w fun e w' => ∃ p, e = .returned (.pointer (some ⟨p, 0, none⟩)) ∧ Cur (w.heap.size, w'.heap.size) w' p (St.fresh bs sh od) ∧ Below w.heap.size w w' := by
  have HC := Lib.hid (bytes_clone h hl)
  have HU := Lib.hid h.2
  have HL := Lib.hid hl
  obtain ⟨a, cap, b, off, rfl, -⟩ := h.open
  clear h hl
  go_enter Tryz.func120, Tryz.ntmps120
  go_wp2_with (go_at_call 111; (with_reducible refine HC.out.mono ?_); rintro e1 w1 ⟨v1, rfl, hown, hB⟩; obtain ⟨a1, cap1, rfl⟩ := own_slice hown; have HO := Lib.hid hown; have HB := Lib.hid hB; clear hown hB)
  go_ret
  exact ⟨_, rfl, by rw [World.size_alloc]; exact Cur.made HO.out HU.out HL.out HB.out.size, HB.out.alloc HB.out.size _⟩

end Go.Proofs.YtcebcncpbedkmaaGreat
namespace Go.Proofs.YtcebcncpbedkmaaGreat
open Go.RowKit

/-- 's[lo:hi:hi]'. -/
theorem slice_lhm {P : Program} {t e : TypeId} {z : Option Value} {bytes : Nat} (ht : P.underlying t = some (.slice e)) (hinfo : (P.info? e).map (fun i => (i.zero, i.size, i.bytes)) = some (z, 1, bytes))
    {k : IntKind} {w : World} {a : Option Addr} {cap : Nat} {zs : List Int} (h : Ints k w (.slice a zs.length cap) zs) (lo hi : Int) (l m : Nat) (hl : lo = l) (hm : hi = m) (h0 : l ≤ m) (h1 : m ≤ zs.length) :
    ∃ A, (∀ wx : World, (Instr.slice t (.slice a zs.length cap) (some (.int .i64 lo)) (some (.int .i64 hi)) (some (.int .i64 hi))).run P wx = .ok (.slice A (m - l) (m - l)) wx) ∧ Ints k w (.slice A (m - l) (m - l)) ((zs.take m).drop l) ∧ (∀ n c b, (Value.slice A n c).ownBlock = some b → (Value.slice a zs.length cap).ownBlock = some b) := by
  subst hl
  subst hm
  have he : P.elem t = e := by simp [Program.elem, ht]
  obtain ⟨a', cap', b, off, hee, h5, -⟩ := h.open
  injection hee with e1 e2 e3
  subst e3
  refine ⟨_, fun wx => ?_, cut_ints h l m m h0 h1 (Nat.le_refl _) (by omega), fun n c b hb => ?_⟩
  · rw [run_slice_lhm wx t a zs.length cap (by rw [he]; exact ht) .i64 .i64 .i64 l m m (by omega) (by omega) (by omega) (by omega), he, run_sizeOf hinfo]
    simp [Result.andThen, sliced]
  · cases a with
    | none => simp [Value.ownBlock] at hb
    | some x =>
      split at hb
      · exact hb
      · simp only [Option.map_some, Value.ownBlock, Option.some.injEq] at hb ⊢
        rw [← hb]; unfold Addr.add; split <;> rfl

theorem bytes_neg {s : St} {n : Int} (h : n < 0) : s.bytes n = (s.fail 10001, []) := by rw [St.bytes, if_pos h]
theorem bytes_busy {s : St} {n : Int} (h : 0 ≤ n) (h1 : s.er ≠ 0) : s.bytes n = (s, []) := by rw [St.bytes, if_neg (by omega), if_pos h1]
theorem bytes_short {s : St} {n : Int} (h : 0 ≤ n) (h1 : s.er = 0) (h2 : (s.left : Int) < n) : s.bytes n = (s.fail s.sh, []) := by rw [St.bytes, if_neg (by omega), if_neg (by simp [h1]), if_pos h2]
theorem bytes_fine {s : St} {n : Nat} (h1 : s.er = 0) (h2 : n ≤ s.left) : s.bytes n = ({ s with pos := s.pos + n }, s.rest.take n) := by
  rw [St.bytes, if_neg (by omega), if_neg (by simp [h1]), if_neg (by omega)]; simp
theorem fail_busy {s : St} (h : s.er ≠ 0) (e : Int) : s.fail e = s := by rw [St.fail, if_neg h]
theorem fail_first {s : St} (h : s.er = 0) (e : Int) : s.fail e = { s with er := e } := by rw [St.fail, if_pos h]

theorem Cur.apart {B : Nat × Nat} {w : World} {p : Nat} {s : St} {bv : Value} (h : Cur B w p s) (c : w.cell? ⟨p, 0, none⟩ = some bv) : bv.ownBlock ≠ some p := by
  obtain ⟨bv', h1, -, -, -, h5⟩ := h
  have : bv' = bv := by simpa [World.cell?, h1] using c
  subst this
  intro e
  exact (h5 p e).2.1 rfl

/-- What take hands back. -/
def Took (B : Nat × Nat) (w : World) (p : Nat) (s : St) (n : Int) (e : Ending) (w' : World) : Prop :=
  ∃ v, e = .returned (.tuple #[v, .bool (s.takes n)]) ∧ Ints .u8 w' v (s.bytes n).2 ∧ Cur B w' p (s.bytes n).1 ∧ w.grownBy w' (some p)

set_option maxRecDepth 100000
set_option maxHeartbeats 4000000

theorem cur_take {B : Nat × Nat} {p : Nat} {s : St} {w : World} (h : Cur B w p s) (hs : s.sh ≠ 0) (n : Int) (hn : (Lit.int .i64 n).wf = true) :
    Calls Tryz.prog 128 #[.pointer (some ⟨p, 0, none⟩), .int .i64 n] w (Took B w p s n) := by
  have HC := Lib.hid h
  by_cases h0 : n < 0
  · have HF := Lib.hid (cur_fail h 10001)
    have hse : (s.fail 10001).er ≠ 0 := by unfold St.fail; split <;> simp_all
    have e1 : ((s.fail 10001).er != 0) = true := by simpa using hse
    clear h hse
    have HS := Lib.hid hs
    clear hs
    go_enter Tryz.func128, Tryz.ntmps128
    go_wp2_with (first
      | (go_at_call 126; (with_reducible refine HF.out.mono ?_); rintro e1 w1 ⟨rfl, hc1, hg1⟩; have HC1 := Lib.hid hc1; have HG1 := Lib.hid hg1; clear hc1 hg1)
      | (go_at_call 122; (with_reducible refine (cur_err HC1.out).mono ?_); rintro e1 w2 ⟨rfl, rfl⟩))
    go_ret2
    have ht : s.takes n = false := by simp [St.takes]; omega
    refine ⟨_, by rw [ht]; rfl, ?_, ?_, HG1.out⟩
    · rw [bytes_neg h0]; exact Ints.nil _ _
    · rw [bytes_neg h0]; exact HC1.out
  · by_cases hl : (s.left : Int) < n
    · have hse : (s.fail s.sh).er ≠ 0 := by unfold St.fail; split <;> simp_all
      have e1 : ((s.fail s.sh).er != 0) = true := by simpa using hse
      obtain ⟨bv, er, her, hb, hp, c0, c1, c2, c3, c4, c5, fz⟩ := h.open
      clear hse h hb hp her c0 c1 c3 c4 c5 fz
      have HS := Lib.hid hs
      clear hs
      go_enter Tryz.func128, Tryz.ntmps128
      go_wp2_with (first
        | (go_at_call 131; (with_reducible refine (cur_left HC.out).mono ?_); rintro e1 w1 ⟨rfl, q, rfl⟩)
        | (go_at_call 127; (with_reducible refine (cur_none (HC.out.drew _)).mono ?_); rintro e1 w1 ⟨rfl, rfl⟩)
        | (go_at_call 126; (with_reducible refine (cur_fail (HC.out.drew _) _).mono ?_); rintro e1 w1 ⟨rfl, hc1, hg1⟩; have HC1 := Lib.hid hc1; have HG1 := Lib.hid hg1; clear hc1 hg1)
        | (go_at_call 122; (with_reducible refine (cur_err HC1.out).mono ?_); rintro e1 w2 ⟨rfl, rfl⟩))
      go_ret2
      have ht : s.takes n = false := by simp [St.takes]; omega
      have hb : s.bytes n = (s.fail s.sh, []) := by
        by_cases he : s.er = 0
        · exact bytes_short (by omega) he hl
        · rw [bytes_busy (by omega) he, fail_busy he]
      refine ⟨_, by rw [ht]; rfl, ?_, ?_, grown_trans (grown_draw (World.grownBy.refl w _) _) HG1.out⟩
      · rw [hb]; exact Ints.nil _ _
      · rw [hb]; exact HC1.out
    · by_cases he : s.er = 0
      · obtain ⟨m, rfl⟩ : ∃ m : Nat, n = m := ⟨n.toNat, by omega⟩
        obtain ⟨bv, er, her, hb, hp, c0, c1, c2, c3, c4, c5, fz⟩ := h.open
        obtain ⟨a, cap, b, off, rfl, -⟩ := hb.open
        have hm : s.pos + m ≤ s.bs.length := by have := hp.1; unfold St.left at hl; omega
        have hw : IntKind.i64.wrap ((s.pos : Int) + (m : Int)) = ((s.pos + m : Nat) : Int) := by rw [wrap_small (by omega) (by omega)]; simp
        obtain ⟨A, hsl, hcut, hAb⟩ := slice_lhm Tryz.underlying24 info_u8 hb (s.pos : Int) (IntKind.i64.wrap ((s.pos : Int) + (m : Int))) s.pos (s.pos + m) rfl hw (by omega) hm
        have HB := Lib.hid hcut
        have HAb : Hid (∀ n c, (Value.slice A n c).ownBlock ≠ some p) := fun n c e => h.apart c0 (hAb n c p e)
        clear hAb
        have HM := Lib.hid hm
        have HE := Lib.hid he
        have HP := Lib.hid hp
        have fz1 := fz 1
        have HW := Lib.hid hw
        have HSe := Lib.hid (cur_err (h.drew 0))
        clear h hb hp her c2 c3 c4 c5 fz hcut hw he hn hm hs
        go_enter Tryz.func128, Tryz.ntmps128
        go_wp2_with (first
          | (go_at_call 131; (with_reducible refine (cur_left HC.out).mono ?_); rintro e1 w1 ⟨rfl, q, rfl⟩)
          | (go_at_call 122; (with_reducible refine (cur_err (HC.out.drew _)).mono ?_); rintro e1 w2 ⟨rfl, rfl⟩; rw [HE.out])
          | go_quiet (fail))
        go_ret2
        have hbs := HB.out
        rw [List.drop_take, Nat.add_sub_cancel_left] at hbs
        have hleft : m ≤ s.left := by have := HM.out; simp only [St.left]; omega
        have ht : s.takes (m : Int) = true := by simp only [St.takes, HE.out]; simp; exact hleft
        refine ⟨.slice A m m, by rw [ht]; rfl, ?_, ?_, grown_trans (grown_draw (World.grownBy.refl w _) _) (grown_put _ p 1 _)⟩
        · rw [bytes_fine HE.out hleft]
          exact (hbs.below (below_drewN (Below.refl _ _) _)).grown (grown_put _ p 1 _) (fun b hb e => HAb.out m m (by rw [hb, e]))
        · rw [bytes_fine HE.out hleft]
          have hwb := HM.out
          have hwp := HP.out
          rw [show wrap64 ((s.pos : Int) + (m : Int)) = ((s.pos + m : Nat) : Int) by unfold wrap64; omega]
          exact (HC.out.drew _).setPos _ HM.out
      · have e1 : (s.er != 0) = true := by simpa using he
        have HE := Lib.hid he
        clear h hs he
        go_enter Tryz.func128, Tryz.ntmps128
        go_wp2_with (first
          | (go_at_call 131; (with_reducible refine (cur_left HC.out).mono ?_); rintro e1 w1 ⟨rfl, q, rfl⟩)
          | (go_at_call 122; (with_reducible refine (cur_err (HC.out.drew _)).mono ?_); rintro e1 w2 ⟨rfl, rfl⟩))
        go_ret2
        have ht : s.takes n = false := by simp [St.takes, HE.out]
        refine ⟨_, by rw [ht]; rfl, ?_, ?_, grown_draw (World.grownBy.refl _ _) _⟩
        · rw [bytes_busy (by omega) HE.out]; exact Ints.nil _ _
        · rw [bytes_busy (by omega) HE.out]; exact HC.out.drew _


theorem wf_i64 {n : Int} (h1 : -9223372036854775808 ≤ n) (h2 : n < 9223372036854775808) : (Lit.int .i64 n).wf = true := by
  simp [Lit.wf, IntKind.min, IntKind.max, IntKind.signed, IntKind.bits]; omega

/-- What a reading of bytes hands back. -/
def GotBytes (B : Nat × Nat) (w : World) (p : Nat) (s : St) (l : List Int) (e : Ending) (w' : World) : Prop :=
  ∃ v, e = .returned v ∧ w'.ownsRow w.heap.size 5 1 v l.length (l.map (Value.int .u8)) ∧ U8 l ∧ Cur B w' p s ∧ w.grownBy w' (some p)
theorem GotBytes.ints {B : Nat × Nat} {w w' : World} {p : Nat} {s : St} {l : List Int} {e : Ending} (h : GotBytes B w p s l e w') : ∃ v, e = .returned v ∧ Ints .u8 w' v l ∧ Cur B w' p s ∧ w.grownBy w' (some p) := by
  obtain ⟨v, h1, h2, h3, h4, h5⟩ := h
  exact ⟨v, h1, Ints.of_own h2 h3.wf, h4, h5⟩

theorem bytes_len {s : St} (n : Int) : (s.bytes n).2.length ≤ s.bs.length := by
  unfold St.bytes
  split
  · simp
  · split
    · simp
    · split
      · simp
      · simp [St.rest]; omega

theorem cur_bytes {B : Nat × Nat} {p : Nat} {s : St} {w : World} (h : Cur B w p s) (hs : s.sh ≠ 0) (n : Int) (hn : (Lit.int .i64 n).wf = true) :
    Calls Tryz.prog 123 #[.pointer (some ⟨p, 0, none⟩), .int .i64 n] w (GotBytes B w p (s.bytes n).1 (s.bytes n).2) := by
  have HT := Lib.hid (cur_take h hs n hn)
  have HL : Hid ((s.bytes n).2.length ≤ 1000000000) := by obtain ⟨bv, -, -, h3, -⟩ := h; exact Nat.le_trans (bytes_len n) h3.2
  have HLt := Lib.hid h.lt
  clear h hs hn
  go_enter Tryz.func123, Tryz.ntmps123
  go_wp2_with (first
    | (go_at_call 128; (with_reducible refine HT.out.mono ?_); rintro e1 w1 ⟨v1, rfl, hv1, hc1, hg1⟩; have HV1 := Lib.hid hv1; have HC1 := Lib.hid hc1; have HG1 := Lib.hid hg1; clear hv1 hc1 hg1)
    | (go_at_call 111; (with_reducible refine (bytes_clone HV1.out HL.out).mono ?_); rintro e1 w2 ⟨v2, rfl, ho2, hb2⟩; have HO2 := Lib.hid ho2; have HB2 := Lib.hid hb2; clear ho2 hb2))
  go_ret
  exact ⟨_, rfl, own_base HO2.out HG1.out.size, HV1.out.u8, HC1.out.below HB2.out, grown_trans HG1.out (grown_of_below HB2.out _)⟩

theorem left_wf {B : Nat × Nat} {p : Nat} {s : St} {w : World} (h : Cur B w p s) : (Lit.int .i64 (s.left : Int)).wf = true := by
  obtain ⟨bv, -, -, h3, -⟩ := h
  have : s.left ≤ 1000000000 := by unfold St.left; omega
  exact wf_i64 (by omega) (by omega)

/-- What Look tells. -/
def St.look (s : St) : List Int := if s.er ≠ 0 then [] else s.rest

/-- What Sub hands back: none, or a cursor of its own, made in a world w1 in which the first one had read on. -/
def GotSub (B : Nat × Nat) (w : World) (p : Nat) (s : St) (n sh od : Int) (e : Ending) (w' : World) : Prop :=
  (s.takes n = false ∧ e = .returned (.pointer none) ∧ Cur B w' p (s.bytes n).1 ∧ w.grownBy w' (some p)) ∨
  (s.takes n = true ∧ ∃ w1 q, e = .returned (.pointer (some ⟨q, 0, none⟩)) ∧ Cur B w1 p (s.bytes n).1 ∧ w.grownBy w1 (some p) ∧ Below w1.heap.size w1 w' ∧ Cur (w1.heap.size, w'.heap.size) w' q (St.fresh (s.bytes n).2 sh od))

end Go.Proofs.YtcebcncpbedkmaaGreat
namespace Go.Proofs.YtcebcncpbedkmaaGreat
open Go.RowKit

/-- The slice value v has the elements l, each of C cells that stand for it by R. -/
def RowsOf {α : Type} (R : World → α → List Value → Prop) (C : Nat) (w : World) (v : Value) (l : List α) : Prop :=
  ∃ a cap b off, v = .slice a l.length cap ∧ l.length ≤ cap ∧ cap ≤ maxLen ∧ (a = none → cap = 0) ∧ (0 < l.length → a = some ⟨b, off, none⟩) ∧
    ∀ i x, l[i]? = some x → ∃ c : List Value, c.length = C ∧ R w x c ∧ ∀ j u, c[j]? = some u → w.cell? ⟨b, off + i * C + j, none⟩ = some u

/-- It stands so in whatever world comes of this one by writing to the block row and to new ones. -/
def Safe {α : Type} (R : World → α → List Value → Prop) (w : World) (row : Option Nat) (x : α) (c : List Value) : Prop :=
  ∀ w', w.grownBy w' row → R w' x c

/-- What is so lasts while no block that was there is written. -/
def Lasts {α : Type} (R : World → α → List Value → Prop) : Prop := ∀ w w' x c, Below w.heap.size w w' → R w x c → R w' x c

theorem grown_to {w w' w'' : World} {r r' : Option Nat} (h : w.grownBy w' r) (h' : w'.grownBy w'' r') (hr : r' = r ∨ ∃ k, r' = some k ∧ w.heap.size ≤ k) : w.grownBy w'' r :=
  ⟨h'.os.trans h.os, h'.tape.trans h.tape, h'.output.trans h.output, Nat.le_trans h.size h'.size, fun k hk hne => (h'.block k (Nat.lt_of_lt_of_le hk h.size) (by
    rcases hr with rfl | ⟨k', rfl, hk'⟩
    · exact hne
    · intro e; injection e with e; omega)).trans (h.block k hk hne)⟩

theorem Safe.now {α : Type} {R : World → α → List Value → Prop} {w : World} {row : Option Nat} {x : α} {c : List Value} (h : Safe R w row x c) : R w x c := h w (World.grownBy.refl _ _)
theorem Safe.step {α : Type} {R : World → α → List Value → Prop} {w w' : World} {row row' : Option Nat} {x : α} {c : List Value} (h : Safe R w row x c) (hg : w.grownBy w' row) (hr : row' = row ∨ ∃ k, row' = some k ∧ w.heap.size ≤ k) : Safe R w' row' x c :=
  fun w'' hg' => h w'' (grown_to hg hg' hr)

theorem RowsOf.below {α : Type} {R : World → α → List Value → Prop} (hR : Lasts R) {C : Nat} {w w' : World} {v : Value} {l : List α} (h : RowsOf R C w v l) (hb : Below w.heap.size w w') : RowsOf R C w' v l := by
  obtain ⟨a, cap, b, off, h1, h2, h3, h4, h5, h6⟩ := h
  refine ⟨a, cap, b, off, h1, h2, h3, h4, h5, fun i x hx => ?_⟩
  obtain ⟨c, hc, hr, hcell⟩ := h6 i x hx
  refine ⟨c, hc, hR _ _ _ _ hb hr, fun j u hu => ?_⟩
  have := hcell j u hu
  exact (hb.cell (World.block_lt_of_cell? _ _ this)).trans this

theorem RowsOf.nil {α : Type} (R : World → α → List Value → Prop) (C : Nat) (w : World) : RowsOf R C w (.slice none 0 0) [] :=
  ⟨none, 0, 0, 0, rfl, Nat.le_refl _, by unfold maxLen; omega, fun _ => rfl, fun h => by simp at h, fun i x h => by simp at h⟩

/-- What the call owns of such a kind. -/
def OwnRows {α : Type} (R : World → α → List Value → Prop) (e C L : Nat) (w : World) (v : Value) (l : List α) : Prop :=
  ∃ xs : List Value, w.ownsRow L e C v l.length xs ∧ ∀ i x, l[i]? = some x → ∃ c : List Value, c.length = C ∧ Safe R w v.ownBlock x c ∧ ∀ j u, c[j]? = some u → xs[i * C + j]? = some u

theorem OwnRows.nil {α : Type} (R : World → α → List Value → Prop) (e C L : Nat) (w : World) : OwnRows R e C L w (.slice none 0 0) [] :=
  ⟨[], World.ownsRow_nil _ _ _ _, fun i x h => by simp at h⟩

theorem OwnRows.slice {α : Type} {R : World → α → List Value → Prop} {e C L : Nat} {w : World} {v : Value} {l : List α} (h : OwnRows R e C L w v l) : ∃ a cap, v = .slice a l.length cap := by
  obtain ⟨xs, ho, -⟩ := h; exact own_slice ho

theorem OwnRows.rows {α : Type} {R : World → α → List Value → Prop} {e C L : Nat} {w : World} {v : Value} {l : List α} (h : OwnRows R e C L w v l) : RowsOf R C w v l := by
  obtain ⟨xs, ho, hx⟩ := h
  have hlen := ho.1
  obtain ⟨a, cap, b, off, h1, h2, h3, h4, h5, h6⟩ := Sl.of_own ho
  refine ⟨a, cap, b, off, h1, h2, h3, h4, h5, fun i x hi => ?_⟩
  obtain ⟨c, hc, hs, hcell⟩ := hx i x hi
  refine ⟨c, hc, hs.now, fun j u hu => ?_⟩
  have hxu := hcell j u hu
  have hlt := (List.getElem?_eq_some_iff.1 hxu).1
  have := h6 (i * C + j) hlt
  rw [show off + i * C + j = off + (i * C + j) by omega, this, List.getD_eq_getElem?_getD, hxu]
  rfl

theorem OwnRows.grown {α : Type} {R : World → α → List Value → Prop} {e C L : Nat} {w w' : World} {v : Value} {l : List α} (h : OwnRows R e C L w v l) (hb : Below w.heap.size w w') : OwnRows R e C L w' v l := by
  obtain ⟨xs, ho, hx⟩ := h
  refine ⟨xs, own_below ho hb, fun i x hi => ?_⟩
  obtain ⟨c, hc, hs, hcell⟩ := hx i x hi
  exact ⟨c, hc, hs.step (grown_of_below hb _) (.inl rfl), hcell⟩

theorem OwnRows.low {α : Type} {R : World → α → List Value → Prop} {e C L L' : Nat} {w : World} {v : Value} {l : List α} (h : OwnRows R e C L w v l) (hL : L' ≤ L) : OwnRows R e C L' w v l := by
  obtain ⟨xs, ho, hx⟩ := h
  exact ⟨xs, own_base ho hL, hx⟩

/-- append of one new element, which lies in a block of its own. -/
theorem wpList_append_row {α : Type} {R : World → α → List Value → Prop} {P : Program} {w : World} {ops : Array Oper} {rest : List Oper} {o : Oper} {a : Act} {Q : Exit → Act → World → Prop} (hgd : o.guard = none) (s x : Operand) (t : TypeId)
    (ho : o.op = .call { callee := .builtin .append, args := #[s, x], argTypes := #[t, t] })
    (L : Nat) (e : TypeId) (z : Value) (size bytes : Nat) (ht : P.underlying t = some (.slice e)) (hinfo : (P.info? e).map (fun i => (i.zero, i.size, i.bytes)) = some (some z, size, bytes))
    (hzs : z.cells.size = size) (hsz : 0 < size)
    (v : Value) (l : List α) (y : α) (hs : a.eval s = v) (hown : OwnRows R e size L w v l)
    (cs : List Value) (hx : a.eval x = .slice (some ⟨w.heap.size, 0, none⟩) 1 1) (hl : cs.length = size) (h1 : ∀ u ∈ cs, u.oneCell' = true)
    (h63 : l.length + 1 ≤ maxLen) (hbytes : (l.length + 1) * bytes ≤ 140737488355328) (hbase : L ≤ w.heap.size)
    (hS : ∀ w' row, w.grownBy w' v.ownBlock → (row = v.ownBlock ∨ ∃ k, row = some k ∧ w.heap.size ≤ k) → Safe R w' row y cs)
    (h : ∀ v' w', OwnRows R e size L w' v' (l ++ [y]) → w.grownBy w' v.ownBlock → wpList P ops Q rest (a.put o.dst v') w') :
    wpList P ops Q (o :: rest) a (w.alloc (.cells cs.toArray e)) := by
  have hown0 := hown
  obtain ⟨xs, how, hxs⟩ := hown
  refine wpList_append_sl hgd s x t ho L e z size bytes ht hinfo hzs hsz v l.length xs hs (how.alloc _) _ 1 cs hx (by omega) (Sl.new w cs e 1 (by unfold maxLen; omega)) h1 h63 hbytes (by simp; omega) (fun v' w' a1 a2 a3 => ?_)
  have hg : w.grownBy w' v.ownBlock := ⟨a2.os, a2.tape, a2.output, Nat.le_trans (by simp) a2.size, fun k hk hne => (a2.block k (by simp; omega) hne).trans (heap_alloc_old w _ hk)⟩
  refine h v' w' ⟨xs ++ cs, by simpa using a1, fun i x hi => ?_⟩ hg
  have hr : v'.ownBlock = v.ownBlock ∨ ∃ k, v'.ownBlock = some k ∧ w.heap.size ≤ k := a3.imp id fun h => ⟨_, h, by simp⟩
  have hlen : xs.length = l.length * size := how.1
  by_cases hlt : i < l.length
  · rw [List.getElem?_append_left hlt] at hi
    obtain ⟨d, hd, hsd, hcell⟩ := hxs i x hi
    refine ⟨d, hd, hsd.step hg hr, fun j u hu => ?_⟩
    have := hcell j u hu
    rw [List.getElem?_append_left (List.getElem?_eq_some_iff.1 this).1]
    exact this
  · rw [List.getElem?_append_right (by omega)] at hi
    have h0 : i - l.length = 0 := by
      rcases Nat.eq_zero_or_pos (i - l.length) with h0 | h0
      · exact h0
      · rw [List.getElem?_eq_none (by simp; omega)] at hi; cases hi
    rw [h0] at hi
    obtain rfl : y = x := by simpa using hi
    obtain rfl : i = l.length := by omega
    refine ⟨cs, hl, hS w' _ hg hr, fun j u hu => ?_⟩
    rw [List.getElem?_append_right (by omega), show l.length * size + j - xs.length = j by omega]
    exact hu

theorem below_own {α : Type} {R : World → α → List Value → Prop} {w0 w w' : World} {e C L : Nat} {v : Value} {l : List α} (hb : Below L w0 w) (hL : L ≤ w.heap.size) (ho : OwnRows R e C L w v l) (hg : w.grownBy w' v.ownBlock) : Below L w0 w' := by
  obtain ⟨xs, how, -⟩ := ho
  exact own_grown hb hL how hg rfl

/-! ### things: a type and bytes -/
/-- A thing's two cells. -/
def ItemR (w : World) (x : Int × List Int) (c : List Value) : Prop := ∃ bv, c = [.int .i64 x.1, bv] ∧ Ints .u8 w bv x.2 ∧ (Lit.int .i64 x.1).wf = true
theorem ItemR.lasts : Lasts ItemR := fun _ _ _ _ hb ⟨bv, h1, h2, h3⟩ => ⟨bv, h1, h2.below hb, h3⟩
theorem ItemR.safe {w : World} {row : Option Nat} {t : Int} {bv : Value} {bs : List Int} (h : Ints .u8 w bv bs) (ht : (Lit.int .i64 t).wf = true) (hr : ∀ b, bv.ownBlock = some b → some b ≠ row) : Safe ItemR w row (t, bs) [.int .i64 t, bv] :=
  fun _ hg => ⟨bv, rfl, h.grown hg hr, ht⟩

/-- What a slice of things gives to a walk. -/
theorem items_open {w : World} {v : Value} {l : List (Int × List Int)} (h : RowsOf ItemR 2 w v l) :
    ∃ a cap b off, v = .slice a l.length cap ∧ l.length ≤ cap ∧ cap ≤ maxLen ∧ (a = none → cap = 0) ∧ (0 < l.length → a = some ⟨b, off, none⟩) ∧
      ∀ i t bs, l[i]? = some (t, bs) → ∃ bv, w.cell? ⟨b, off + i * 2, none⟩ = some (.int .i64 t) ∧ w.cell? ⟨b, off + i * 2 + 1, none⟩ = some bv ∧ Ints .u8 w bv bs ∧ (Lit.int .i64 t).wf = true := by
  obtain ⟨a, cap, b, off, h1, h2, h3, h4, h5, h6⟩ := h
  refine ⟨a, cap, b, off, h1, h2, h3, h4, h5, fun i t bs hi => ?_⟩
  obtain ⟨c, hc, ⟨bv, rfl, h7, h8⟩, hcell⟩ := h6 i _ hi
  exact ⟨bv, hcell 0 _ rfl, hcell 1 _ rfl, h7, h8⟩

end Go.Proofs.YtcebcncpbedkmaaGreat
namespace Go.Proofs.YtcebcncpbedkmaaGreat
open Go Go.RowKit

/-- Whatever lies from block L on is as it was. -/
def Agree (L : Nat) (W W' : World) : Prop := W.heap.size ≤ W'.heap.size ∧ ∀ k, L ≤ k → k < W.heap.size → W'.heap[k]? = W.heap[k]?

theorem own_agree {L e size n : Nat} {W W' : World} {v : Value} {xs : List Value} (h : W.ownsRow L e size v n xs) (ha : Agree L W W') : W'.ownsRow L e size v n xs := by
  obtain ⟨hl, h0 | ⟨g, cap, cur, rfl, h1, h2, r⟩⟩ := h
  · exact ⟨hl, .inl h0⟩
  · exact ⟨hl, .inr ⟨g, cap, cur, rfl, h1, (ha.2 g h1 (Array.getElem?_eq_some_iff.1 h2).1).trans h2, r⟩⟩

/-- Rows of two types lie in two blocks. -/
theorem own_apart {L L' e e' size size' n n' b : Nat} {W : World} {v v' : Value} {xs xs' : List Value} (h : W.ownsRow L e size v n xs) (h' : W.ownsRow L' e' size' v' n' xs') (he : e ≠ e') (hb : v.ownBlock = some b) : v'.ownBlock ≠ some b := by
  intro hb'
  obtain ⟨-, ⟨rfl, -⟩ | ⟨g, cap, cur, rfl, -, h2, -⟩⟩ := h
  · cases hb
  · obtain ⟨-, ⟨rfl, -⟩ | ⟨g', cap', cur', rfl, -, h2', -⟩⟩ := h'
    · cases hb'
    · have e1 : g = b := by simpa [Value.ownBlock] using hb
      have e2 : g' = b := by simpa [Value.ownBlock] using hb'
      subst e1
      subst e2
      rw [h2] at h2'
      injection h2' with h3
      injection h3 with h4 h5 h6
      exact he h5

/-- The things collected: v owns their cells, each owns its bytes. -/
def OutRows (L : Nat) (W : World) (v : Value) (pre : List (Int × List Int)) : Prop :=
  ∃ xs : List Value, W.ownsRow L 108 2 v pre.length xs ∧ ∀ i t zs, pre[i]? = some (t, zs) → ∃ bv, xs[i * 2]? = some (.int .i64 t) ∧ xs[i * 2 + 1]? = some bv ∧ W.ownsRow L 5 1 bv zs.length (zs.map (Value.int .u8)) ∧ U8 zs ∧ (0 ≤ t ∧ t < 65536)

theorem OutRows.nil (L : Nat) (W : World) : OutRows L W (.slice none 0 0) [] := ⟨[], World.ownsRow_nil _ _ _ _, fun i t zs h => by simp at h⟩
theorem OutRows.agree {L : Nat} {W W' : World} {v : Value} {pre : List (Int × List Int)} (h : OutRows L W v pre) (ha : Agree L W W') : OutRows L W' v pre := by
  obtain ⟨xs, ho, hx⟩ := h
  refine ⟨xs, own_agree ho ha, fun i t zs hi => ?_⟩
  obtain ⟨bv, h1, h2, h3, h4⟩ := hx i t zs hi
  exact ⟨bv, h1, h2, own_agree h3 ha, h4⟩

/-- One thing more. -/
theorem OutRows.snoc {L : Nat} {W W' : World} {v v' bv : Value} {pre : List (Int × List Int)} {t : Int} {zs : List Int} (hb : W.ownsRow L 5 1 bv zs.length (zs.map (Value.int .u8))) (hu : U8 zs) (ht : 0 ≤ t ∧ t < 65536)
    (hg : W.grownBy W' v.ownBlock) {xs : List Value} (ho : W.ownsRow L 108 2 v pre.length xs) (hx : ∀ i t zs, pre[i]? = some (t, zs) → ∃ bv, xs[i * 2]? = some (.int .i64 t) ∧ xs[i * 2 + 1]? = some bv ∧ W.ownsRow L 5 1 bv zs.length (zs.map (Value.int .u8)) ∧ U8 zs ∧ (0 ≤ t ∧ t < 65536))
    (hn : W'.ownsRow L 108 2 v' (pre.length + 1) (xs ++ [.int .i64 t, bv])) : OutRows L W' v' (pre ++ [(t, zs)]) := by
  have hlen : xs.length = pre.length * 2 := ho.1
  have keep : ∀ {bv : Value} {zs : List Int}, W.ownsRow L 5 1 bv zs.length (zs.map (Value.int .u8)) → W'.ownsRow L 5 1 bv zs.length (zs.map (Value.int .u8)) := fun {bv zs} hb => by
    refine hb.kept hg ?_
    cases hv : bv.ownBlock with
    | none => exact .inl rfl
    | some g => exact .inr fun e => own_apart hb ho (by decide) hv e.symm
  refine ⟨xs ++ [.int .i64 t, bv], by simpa using hn, fun i t' zs' hi => ?_⟩
  by_cases hlt : i < pre.length
  · rw [List.getElem?_append_left hlt] at hi
    obtain ⟨bv', h1, h2, h3, h4⟩ := hx i t' zs' hi
    refine ⟨bv', ?_, ?_, keep h3, h4⟩
    · rw [List.getElem?_append_left (by omega)]; exact h1
    · rw [List.getElem?_append_left (by omega)]; exact h2
  · rw [List.getElem?_append_right (by omega)] at hi
    have h0 : i - pre.length = 0 := by
      rcases Nat.eq_zero_or_pos (i - pre.length) with h0 | h0
      · exact h0
      · rw [List.getElem?_eq_none (by simp; omega)] at hi; cases hi
    rw [h0] at hi
    have e : t = t' ∧ zs = zs' := by simpa using hi
    obtain ⟨rfl, rfl⟩ := e
    obtain rfl : i = pre.length := by omega
    refine ⟨bv, ?_, ?_, keep hb, hu, ht⟩
    · rw [List.getElem?_append_right (by omega), show pre.length * 2 - xs.length = 0 by omega]; rfl
    · rw [List.getElem?_append_right (by omega), show pre.length * 2 + 1 - xs.length = 1 by omega]; rfl

theorem OutRows.rows {L : Nat} {W : World} {v : Value} {pre : List (Int × List Int)} (h : OutRows L W v pre) : RowsOf ItemR 2 W v pre := by
  obtain ⟨xs, ho, hx⟩ := h
  obtain ⟨a, cap, b, off, h1, h2, h3, h4, h5, h6⟩ := Sl.of_own ho
  refine ⟨a, cap, b, off, h1, h2, h3, h4, h5, fun i x hi => ?_⟩
  obtain ⟨bv, q1, q2, q3, q4, q5⟩ := hx i x.1 x.2 hi
  refine ⟨[.int .i64 x.1, bv], rfl, ⟨bv, rfl, Ints.of_own q3 q4.wf, wf_i64 (by omega) (by omega)⟩, fun j u hu => ?_⟩
  have at_ : ∀ j' u', xs[j']? = some u' → W.cell? ⟨b, off + j', none⟩ = some u' := fun j' u' hj => by
    have := h6 j' (List.getElem?_eq_some_iff.1 hj).1
    rw [this, List.getD_eq_getElem?_getD, hj]
    rfl
  match j, hu with
  | 0, hu => simp at hu; subst hu; exact at_ _ _ q1
  | 1, hu => simp at hu; subst hu; exact at_ _ _ q2
theorem OutRows.slice {L : Nat} {W : World} {v : Value} {pre : List (Int × List Int)} (h : OutRows L W v pre) : ∃ a cap, v = .slice a pre.length cap := by
  obtain ⟨xs, ho, -⟩ := h; exact own_slice ho
theorem agree_below {L : Nat} {W W' : World} (h : Below W.heap.size W W') : Agree L W W' := ⟨h.size, fun k _ hk => h.block k hk⟩
theorem OutRows.low {L L' : Nat} {W : World} {v : Value} {pre : List (Int × List Int)} (h : OutRows L W v pre) (hL : L' ≤ L) : OutRows L' W v pre := by
  obtain ⟨xs, ho, hx⟩ := h
  refine ⟨xs, own_base ho hL, fun i t zs hi => ?_⟩
  obtain ⟨bv, h1, h2, h3, h4⟩ := hx i t zs hi
  exact ⟨bv, h1, h2, own_base h3 hL, h4⟩

/-! ### the caller's blocks: its shape at w's end, two results, and what it collects -/
structure CutI (w : World) (L O : Nat) (pre : List (Int × List Int)) (W : World) : Prop where
  below : Below w.heap.size w W
  r1 : W.heap[w.heap.size + 1]? = some (.cells #[.slice none 0 0] 106 (0, 0))
  r2 : W.heap[w.heap.size + 2]? = some (.cells #[.int .i64 0] 54 (0, 0))
  ord : w.heap.size + 2 < O ∧ O < L
  out : ∃ v, W.heap[O]? = some (.cells #[v] 106 (0, 0)) ∧ OutRows L W v pre

/-- A block of another's, below L, may turn. -/
theorem CutI.turn {w W W' : World} {L O r : Nat} {pre : List (Int × List Int)} (h : CutI w L O pre W) (hg : W.grownBy W' (some r)) (h1 : O < r) (h2 : r < L) : CutI w L O pre W' where
  below := h.below.grown hg h.below.size (fun k e => by injection e with e; have := h.ord; omega)
  r1 := (hg.block _ (Array.getElem?_eq_some_iff.1 h.r1).1 (fun e => by injection e with e; have := h.ord; omega)).trans h.r1
  r2 := (hg.block _ (Array.getElem?_eq_some_iff.1 h.r2).1 (fun e => by injection e with e; have := h.ord; omega)).trans h.r2
  ord := h.ord
  out := by
    obtain ⟨v, hv, ho⟩ := h.out
    exact ⟨v, (hg.block O (Array.getElem?_eq_some_iff.1 hv).1 (fun e => by injection e with e; omega)).trans hv, ho.agree ⟨hg.size, fun k hk hk' => hg.block k hk' (fun e => by injection e with e; omega)⟩⟩
theorem CutI.later {w W W' : World} {L O : Nat} {pre : List (Int × List Int)} (h : CutI w L O pre W) (hb : Below W.heap.size W W') : CutI w L O pre W' where
  below := h.below.trans (hb.mono h.below.size)
  r1 := (hb.block _ (Array.getElem?_eq_some_iff.1 h.r1).1).trans h.r1
  r2 := (hb.block _ (Array.getElem?_eq_some_iff.1 h.r2).1).trans h.r2
  ord := h.ord
  out := by
    obtain ⟨v, hv, ho⟩ := h.out
    exact ⟨v, (hb.block O (Array.getElem?_eq_some_iff.1 hv).1).trans hv, ho.agree (agree_below hb)⟩

/-- What a round that leaves has stored. -/
structure CutX (w : World) (L : Nat) (er : Int) (W : World) : Prop where
  below : Below w.heap.size w W
  r1 : W.heap[w.heap.size + 1]? = some (.cells #[.slice none 0 0] 106 (0, 0))
  r2 : W.heap[w.heap.size + 2]? = some (.cells #[.int .i64 er] 54 (0, 0))
  ord : w.heap.size + 2 < L
theorem CutX.turn {w W W' : World} {L r : Nat} {er : Int} (h : CutX w L er W) (hg : W.grownBy W' (some r)) (h1 : w.heap.size + 2 < r) : CutX w L er W' where
  below := h.below.grown hg h.below.size (fun k e => by injection e with e; omega)
  r1 := (hg.block _ (Array.getElem?_eq_some_iff.1 h.r1).1 (fun e => by injection e with e; omega)).trans h.r1
  r2 := (hg.block _ (Array.getElem?_eq_some_iff.1 h.r2).1 (fun e => by injection e with e; omega)).trans h.r2
  ord := h.ord
end Go.Proofs.YtcebcncpbedkmaaGreat
