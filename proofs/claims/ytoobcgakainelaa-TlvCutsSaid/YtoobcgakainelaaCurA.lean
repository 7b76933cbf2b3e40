/- The cursor's block, how it lasts, and the walks of the cursor's methods that do not allocate; bytes.Clone and cursor.New. Conditions: the receiver is a cursor that New has made. -/
import Derived.Test.YtoobcgakainelaaRowG
import Derived.Test.YtoobcgakainelaaPlain02
import Derived.Lib.SliceRun
namespace Go.Proofs.Ytoobcgakainelaa
open Go.RowKit

theorem Ints.grown {k : IntKind} {w w' : World} {v : Value} {zs : List Int} {row : Option Nat} (h : Ints k w v zs) (hg : w.grownBy w' row) (hr : ∀ b, v.ownBlock = some b → some b ≠ row) : Ints k w' v zs := by
  obtain ⟨⟨a, cap, b, off, rfl, h2, h3, h4, h5, h6⟩, hw⟩ := h
  refine ⟨⟨a, cap, b, off, rfl, h2, h3, h4, h5, ?_⟩, hw⟩
  rcases Nat.eq_zero_or_pos zs.length with h0 | h0
  · intro i hi; simp at hi; omega
  · obtain rfl := h5 h0
    exact h6.grown hg (hr b rfl)

/-- Block p is a cursor that stands as s; it and its bytes lie between B's two. -/
def Cur (B : Nat × Nat) (w : World) (p : Nat) (s : St) : Prop :=
  ∃ bv, w.heap[p]? = some (.cells #[bv, .int .i64 s.pos, .int .i64 s.sh, .int .i64 s.od, .int .i64 s.er, .bool true] 103 (0, 0)) ∧ Ints .u8 w bv s.bs ∧ (s.pos ≤ s.bs.length ∧ s.bs.length ≤ 1000000000) ∧ (B.1 ≤ p ∧ p < B.2) ∧ ∀ b, bv.ownBlock = some b → B.1 ≤ b ∧ b ≠ p ∧ b < w.heap.size ∧ b < B.2

theorem Cur.lt {B : Nat × Nat} {w : World} {p : Nat} {s : St} (h : Cur B w p s) : p < w.heap.size := by
  obtain ⟨bv, h1, -⟩ := h
  exact (Array.getElem?_eq_some_iff.1 h1).1
theorem Cur.from {B : Nat × Nat} {w : World} {p : Nat} {s : St} (h : Cur B w p s) : B.1 ≤ p := by
  obtain ⟨bv, -, -, -, h1, -⟩ := h; exact h1.1
theorem Cur.upto {B : Nat × Nat} {w : World} {p : Nat} {s : St} (h : Cur B w p s) : p < B.2 := by
  obtain ⟨bv, -, -, -, h1, -⟩ := h; exact h1.2
theorem Cur.ok {B : Nat × Nat} {w : World} {p : Nat} {s : St} (h : Cur B w p s) : s.ok := by
  obtain ⟨bv, -, h1, h2, -⟩ := h; exact ⟨h2.1, h1.u8⟩
theorem Cur.lower {A B E : Nat} {w : World} {p : Nat} {s : St} (h : Cur (B, E) w p s) (hb : A ≤ B) : Cur (A, E) w p s := by
  obtain ⟨bv, h1, h2, h3, h4, h5⟩ := h
  exact ⟨bv, h1, h2, h3, ⟨Nat.le_trans hb h4.1, h4.2⟩, fun b e => ⟨Nat.le_trans hb (h5 b e).1, (h5 b e).2⟩⟩
theorem Cur.grown {B : Nat × Nat} {w w' : World} {p : Nat} {s : St} {row : Option Nat} (h : Cur B w p s) (hg : w.grownBy w' row) (hr : ∀ k, row = some k → k < B.1 ∨ B.2 ≤ k) : Cur B w' p s := by
  have hlt := h.lt
  obtain ⟨bv, h1, h2, h3, h4, h5⟩ := h
  refine ⟨bv, ?_, h2.grown hg (fun b e e' => ?_), h3, h4, fun b e => ⟨(h5 b e).1, (h5 b e).2.1, Nat.lt_of_lt_of_le (h5 b e).2.2.1 hg.size, (h5 b e).2.2.2⟩⟩
  · rw [hg.block p hlt (fun e => by have := hr p e.symm; omega)]; exact h1
  · have := hr b e'.symm; have := h5 b e; omega
theorem Cur.below {B : Nat × Nat} {w w' : World} {p : Nat} {s : St} (h : Cur B w p s) (hg : Below w.heap.size w w') : Cur B w' p s :=
  h.grown (grown_of_below hg none) (fun k e => by cases e)

/-- What a store into the cursor's block leaves. -/
theorem heap_put {w : World} {p : Nat} {cs : Array Value} {t : TypeId} (h : w.heap[p]? = some (.cells cs t (0, 0))) (i : Nat) (v : Value) : (w.setCell ⟨p, i, none⟩ v).heap[p]? = some (.cells (cs.setIfInBounds i v) t (0, 0)) := by
  obtain ⟨hlt, hk⟩ := Array.getElem?_eq_some_iff.1 h
  show (w.heap.modify p _)[p]? = _
  rw [Array.getElem?_eq_getElem (by rw [Array.size_modify]; exact hlt), Array.getElem_modify_self, hk]
  rfl
theorem grown_put (w : World) (p i : Nat) (v : Value) : w.grownBy (w.setCell ⟨p, i, none⟩ v) (some p) :=
  ⟨rfl, rfl, rfl, (by simp), fun k _ hk => Below.heap_setCell _ _ _ k (fun e => hk (by rw [e]))⟩

/-- What a cursor gives to a walk. -/
theorem Cur.open {B : Nat × Nat} {w : World} {p : Nat} {s : St} (h : Cur B w p s) :
    ∃ bv er, er = s.er ∧ Ints .u8 w bv s.bs ∧ (s.pos ≤ s.bs.length ∧ s.bs.length ≤ 1000000000) ∧ w.cell? ⟨p, 0, none⟩ = some bv ∧ w.cell? ⟨p, 1, none⟩ = some (.int .i64 s.pos) ∧ w.cell? ⟨p, 2, none⟩ = some (.int .i64 s.sh) ∧ w.cell? ⟨p, 3, none⟩ = some (.int .i64 s.od) ∧ w.cell? ⟨p, 4, none⟩ = some (.int .i64 er) ∧ w.cell? ⟨p, 5, none⟩ = some (.bool true) ∧ (∀ i, w.frozen? ⟨p, i, none⟩ = false) := by
  obtain ⟨bv, h1, h2, h3, -⟩ := h
  refine ⟨bv, s.er, rfl, h2, h3, ?_, ?_, ?_, ?_, ?_, ?_, fun i => ?_⟩ <;> simp [World.cell?, World.frozen?, h1]

/-- A fault, stored. -/
theorem Cur.setEr {B : Nat × Nat} {w : World} {p : Nat} {s : St} (h : Cur B w p s) (e : Int) : Cur B (w.setCell ⟨p, 4, none⟩ (.int .i64 e)) p { s with er := e } := by
  obtain ⟨bv, h1, h2, h3, h4, h5⟩ := h
  exact ⟨bv, (heap_put h1 4 _).trans (by rfl), h2.grown (grown_put w p 4 _) (fun b hb e' => (h5 b hb).2.1 (by injection e')), h3, h4, fun b e => ⟨(h5 b e).1, (h5 b e).2.1, Nat.lt_of_lt_of_le (h5 b e).2.2.1 (grown_put w p 4 _).size, (h5 b e).2.2.2⟩⟩
/-- So many bytes more, stored. -/
theorem Cur.setPos {B : Nat × Nat} {w : World} {p : Nat} {s : St} (h : Cur B w p s) (n : Nat) (hn : n ≤ s.bs.length) : Cur B (w.setCell ⟨p, 1, none⟩ (.int .i64 n)) p { s with pos := n } := by
  obtain ⟨bv, h1, h2, h3, h4, h5⟩ := h
  exact ⟨bv, (heap_put h1 1 _).trans (by rfl), h2.grown (grown_put w p 1 _) (fun b hb e' => (h5 b hb).2.1 (by injection e')), ⟨hn, h3.2⟩, h4, fun b e => ⟨(h5 b e).1, (h5 b e).2.1, Nat.lt_of_lt_of_le (h5 b e).2.2.1 (grown_put w p 1 _).size, (h5 b e).2.2.2⟩⟩

theorem grown_draw {w w' : World} {row : Option Nat} (h : w.grownBy w' row) (q : Nat) : w.grownBy (w'.drewN q) row := ⟨h.os, h.tape, h.output, h.size, h.block⟩
theorem Cur.drew {B : Nat × Nat} {w : World} {p : Nat} {s : St} (h : Cur B w p s) (q : Nat) : Cur B (w.drewN q) p s := h

theorem grown_trans {w w' w'' : World} {row : Option Nat} (h : w.grownBy w' row) (h' : w'.grownBy w'' row) : w.grownBy w'' row :=
  ⟨h'.os.trans h.os, h'.tape.trans h.tape, h'.output.trans h.output, Nat.le_trans h.size h'.size, fun k hk hne => (h'.block k (Nat.lt_of_lt_of_le hk h.size) hne).trans (h.block k hk hne)⟩
theorem own_other {w w' : World} {B e size n : Nat} {v : Value} {xs : List Value} {row : Option Nat} (h : w.ownsRow B e size v n xs) (hg : w.grownBy w' row) (hr : ∀ k, row = some k → k < B) : w'.ownsRow B e size v n xs :=
  h.kept hg (by
    cases hv : v.ownBlock with
    | none => exact .inl rfl
    | some g => exact .inr fun e' => by have := hr g e'.symm; have := (h.lt g hv).1; omega)

theorem wrap_small {n : Int} (h1 : -9223372036854775808 ≤ n) (h2 : n < 9223372036854775808) : IntKind.wrap .i64 n = n := by
  simp [IntKind.wrap, IntKind.signed, IntKind.bits]; omega

set_option maxRecDepth 100000
set_option maxHeartbeats 400000

theorem cur_none {B : Nat × Nat} {p : Nat} {s : St} {w : World} (h : Cur B w p s) :
    Calls Try.prog 58 #[.pointer (some ⟨p, 0, none⟩)] w fun e w' => e = .returned (.bool false) ∧ w = w' := by
  obtain ⟨bv, er, her, hb, hp, c0, c1, c2, c3, c4, c5, fz⟩ := h.open
  clear h
  have H0 := Lib.hid her
  have H1 := Lib.hid hb
  have H2 := Lib.hid hp
  clear her hb hp
  go_enter Try.func58, Try.ntmps58
  go_wp2
  go_ret
  exact ⟨rfl, rfl⟩


theorem cur_err {B : Nat × Nat} {p : Nat} {s : St} {w : World} (h : Cur B w p s) :
    Calls Try.prog 28 #[.pointer (some ⟨p, 0, none⟩)] w fun e w' => e = .returned (.int .i64 s.er) ∧ w = w' := by
  have C1 := Lib.hid (cur_none h)
  obtain ⟨bv, er, her, hb, hp, c0, c1, c2, c3, c4, c5, fz⟩ := h.open
  clear h
  have H0 := Lib.hid her
  clear her hb hp
  go_enter Try.func28, Try.ntmps28
  go_wp2_with ((go_at_call 58; (with_reducible refine C1.out.mono ?_); rintro e1 w1 ⟨rfl, rfl⟩))
  go_ret
  exact ⟨by rw [H0.out]; rfl, rfl⟩

theorem cur_left {B : Nat × Nat} {p : Nat} {s : St} {w : World} (h : Cur B w p s) :
    Calls Try.prog 29 #[.pointer (some ⟨p, 0, none⟩)] w fun e w' => e = .returned (.int .i64 s.left) ∧ ∃ q, w' = w.drewN q := by
  have C1 := Lib.hid (cur_none h)
  obtain ⟨bv, er, her, hb, hp, c0, c1, c2, c3, c4, c5, fz⟩ := h.open
  clear h
  have hle := hb.le
  obtain ⟨ab, cap, b, off, rfl, -⟩ := hb.open
  have H0 := Lib.hid her
  clear her hb
  go_enter Try.func29, Try.ntmps29
  go_wp2_with (first
    | (go_at_call 58; (with_reducible refine C1.out.mono ?_); rintro e1 w1 ⟨rfl, rfl⟩)
    | go_quiet (fail))
  go_ret
  refine ⟨?_, _, rfl⟩
  simp [St.left]; omega

theorem cur_at {B : Nat × Nat} {p : Nat} {s : St} {w : World} (h : Cur B w p s) :
    Calls Try.prog 44 #[.pointer (some ⟨p, 0, none⟩)] w fun e w' => e = .returned (.int .i64 s.pos) ∧ w = w' := by
  have C1 := Lib.hid (cur_none h)
  obtain ⟨bv, er, her, hb, hp, c0, c1, c2, c3, c4, c5, fz⟩ := h.open
  clear h her hb hp
  go_enter Try.func44, Try.ntmps44
  go_wp2_with ((go_at_call 58; (with_reducible refine C1.out.mono ?_); rintro e1 w1 ⟨rfl, rfl⟩))
  go_ret
  exact ⟨rfl, rfl⟩

theorem cur_fail {B : Nat × Nat} {p : Nat} {s : St} {w : World} (h : Cur B w p s) (x : Int) :
    Calls Try.prog 57 #[.pointer (some ⟨p, 0, none⟩), .int .i64 x] w fun e w' => e = .returned (.tuple #[]) ∧ Cur B w' p (s.fail x) ∧ w.grownBy w' (some p) := by
  have C1 := Lib.hid (cur_none h)
  have C2 := Lib.hid h
  obtain ⟨bv, er, her, hb, hp, c0, c1, c2, c3, c4, c5, fz⟩ := h.open
  clear h hb hp
  have fz4 := fz 4
  by_cases h0 : er = 0
  · subst h0
    have H0 := Lib.hid her
    clear her
    go_enter Try.func57, Try.ntmps57
    go_wp2_with ((go_at_call 58; (with_reducible refine C1.out.mono ?_); rintro e1 w1 ⟨rfl, rfl⟩))
    go_end0
    refine ⟨?_, ?_, grown_put _ _ _ _⟩
    · rfl
    · rw [show s.fail x = { s with er := x } by rw [St.fail, if_pos H0.out.symm]]
      exact C2.out.setEr x
  · have e1 : (er == 0) = false := by simpa using h0
    have H0 := Lib.hid her
    have H1 := Lib.hid h0
    clear her h0
    go_enter Try.func57, Try.ntmps57
    go_wp2_with ((go_at_call 58; (with_reducible refine C1.out.mono ?_); rintro e1 w1 ⟨rfl, rfl⟩))
    go_end0
    refine ⟨?_, ?_, World.grownBy.refl _ _⟩
    · rfl
    · rw [show s.fail x = s by rw [St.fail, if_neg (by rw [← H0.out]; exact H1.out)]]
      exact C2.out


theorem own_made0 (w : World) (base e size : Nat) (hb : base ≤ w.heap.size) : (w.alloc (.cells #[] e)).ownsRow base e size (.slice (some ⟨w.heap.size, 0, none⟩) 0 0) 0 [] :=
  World.ownsRow_made w #[] 0 hb (by unfold maxLen; omega) (by simp)
theorem Ints.none {k : IntKind} {w : World} {n c : Nat} {zs : List Int} (h : Ints k w (.slice none n c) zs) : zs = [] := by
  obtain ⟨a, cap, b, off, e, h2, h3, h4, -⟩ := h.open
  injection e with e1 e2 e3
  have := h4 e1.symm
  exact List.eq_nil_of_length_eq_zero (by omega)
theorem Ints.len {k : IntKind} {w : World} {a : Option Addr} {n c : Nat} {zs : List Int} (h : Ints k w (.slice a n c) zs) : n = zs.length := by
  obtain ⟨a, cap, b, off, e, -⟩ := h.open
  injection e

theorem bytes_clone {v : Value} {bs : List Int} {w : World} (h : Ints .u8 w v bs) (hl : bs.length ≤ 1000000000) :
    Calls Try.prog 54 #[v] w fun e w' => ∃ v', e = .returned v' ∧ w'.ownsRow w.heap.size 5 1 v' bs.length (bs.map (Value.int .u8)) ∧ Below w.heap.size w w' := by
  have q : ∀ (w : World) (a : Option Addr) (n c n' c' : Nat), (binOp .eql 25 (.slice a n c) (.slice none n' c')).run Try.prog w = .ok (.bool a.isNone) w := fun w a n c n' c' => Lib.run_eql_slice_nil w _ _ a n c n' c' Try.underlying25
  obtain ⟨a, cap, b, off, rfl, -⟩ := h.open
  cases a with
  | none =>
    obtain rfl := h.none
    clear h
    go_enter Try.func54, Try.ntmps54
    go_wp2
    go_ret
    exact ⟨_, rfl, World.ownsRow_nil _ _ _ _, Below.refl _ _⟩
  | some a =>
    have H := Lib.hid h
    clear h
    go_enter Try.func54, Try.ntmps54
    go_wp2_with (at_builtin; refine wpList_append_sl rfl (.tmp 5) (.tmp 6) _ rfl w.heap.size 5 (.int .u8 0) 1 1 Try.underlying25 info_u8 rfl (by decide) _ 0 [] rfl (own_made0 w _ _ _ (Nat.le_refl _)) _ bs.length (bs.map (Value.int .u8)) rfl (by simp) (H.out.alloc _).1 (ints_one _ _) (by unfold maxLen; omega) (by omega) (by simp) ?_; intro v2 w2 hown2 hgrow2 _; have HO2 := Lib.hid hown2; have HB2 : Hid (Below w.heap.size w w2) := own_grown (below_alloc2 _) (by simp) (own_made0 w w.heap.size 5 1 (Nat.le_refl _)) hgrow2 rfl; clear hown2 hgrow2)
    go_ret
    refine ⟨_, rfl, ?_, HB2.out⟩
    have := HO2.out
    rw [List.nil_append, Nat.zero_add] at this
    exact this

theorem own_slice {w : World} {base e size n : Nat} {v : Value} {xs : List Value} (h : w.ownsRow base e size v n xs) : ∃ a cap, v = .slice a n cap := by
  obtain ⟨hl, ⟨rfl, rfl⟩ | ⟨g, cap, cur, rfl, -⟩⟩ := h
  · exact ⟨_, _, rfl⟩
  · exact ⟨_, _, rfl⟩

theorem Cur.made {w w1 : World} {v1 : Value} {bs : List Int} {sh od : Int} (hown : w1.ownsRow w.heap.size 5 1 v1 bs.length (bs.map (Value.int .u8))) (hU : ∀ z ∈ bs, (Lit.int .u8 z).wf = true) (hl : bs.length ≤ 1000000000) (hs : w.heap.size ≤ w1.heap.size) :
    Cur (w.heap.size, w1.heap.size + 1) (w1.alloc (.cells #[v1, .int .i64 0, .int .i64 sh, .int .i64 od, .int .i64 0, .bool true] 103)) w1.heap.size (St.fresh bs sh od) := by
  have hb := Ints.of_own hown hU
  refine ⟨v1, heap_alloc_new _ _, hb.below (below_alloc2 _), ⟨Nat.zero_le _, hl⟩, ⟨hs, by simp⟩, fun b e => ⟨(hown.lt b e).1, ?_, ?_, ?_⟩⟩
  · have := (hown.lt b e).2; omega
  · have := (hown.lt b e).2; simp; omega
  · have := (hown.lt b e).2; simp; omega

/-- What New hands back: a cursor of its own. -/
theorem cur_new {v : Value} {bs : List Int} {w : World} (h : Ints .u8 w v bs) (hl : bs.length ≤ 1000000000) (sh od : Int) :
    Calls Try.prog 25 #[v, .int .i64 sh, .int .i64 od] w fun e w' => ∃ p, e = .returned (.pointer (some ⟨p, 0, none⟩)) ∧ Cur (w.heap.size, w'.heap.size) w' p (St.fresh bs sh od) ∧ Below w.heap.size w w' := by
  have HC := Lib.hid (bytes_clone h hl)
  have HU := Lib.hid h.2
  have HL := Lib.hid hl
  obtain ⟨a, cap, b, off, rfl, -⟩ := h.open
  clear h hl
  go_enter Try.func25, Try.ntmps25
  go_wp2_with (go_at_call 54; (with_reducible refine HC.out.mono ?_); rintro e1 w1 ⟨v1, rfl, hown, hB⟩; obtain ⟨a1, cap1, rfl⟩ := own_slice hown; have HO := Lib.hid hown; have HB := Lib.hid hB; clear hown hB)
  go_ret
  exact ⟨_, rfl, by rw [World.size_alloc]; exact Cur.made HO.out HU.out HL.out HB.out.size, HB.out.alloc HB.out.size _⟩

end Go.Proofs.Ytoobcgakainelaa
