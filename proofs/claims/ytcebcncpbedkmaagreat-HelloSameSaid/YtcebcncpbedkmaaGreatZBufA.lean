/- The buffer: what it holds, how that lasts, and the walks of New, none, Fail, Len, wide, Bytes, Row, Num and Done. Conditions: the receiver is a buffer that New has made. -/
import Derived.Test.YtcebcncpbedkmaaGreatZCurA
import Derived.Maps.OwnSet
namespace Go.Proofs.YtcebcncpbedkmaaGreat
open Go.RowKit Go.Maps

/-! ### plain -/
structure Bf where
  bs : List Int
  room : Nat
  held : DataW Unit
  er : Int
  cnt : Nat
def Bf.fail (s : Bf) (e : Int) : Bf := if s.er = 0 then { s with er := e } else s
def Bf.bytes (s : Bf) (xs : List Int) : Bf :=
  if s.er ≠ 0 then s
  else if (s.room : Int) - s.bs.length < xs.length then s.fail 10003
  else { s with bs := s.bs ++ xs }
def Bf.row (s : Bf) (ws ns : List Int) : Bf :=
  match putS ws ns with
  | none => s.fail 10001
  | some x => s.bytes x
def Bf.num (s : Bf) (width n : Int) : Bf := if width < 1 ∨ 8 < width then s.fail 10001 else s.row [width] [n]
def Bf.done (s : Bf) : List Int × Int :=
  if s.er ≠ 0 then ([], s.er) else if 0 < Maps.size s.held then ([], 10001) else (s.bs, 0)
def Bf.new (room : Nat) : Bf := ⟨[], room, .map [], 0, 0⟩

/-! ### what a call may turn -/
structure Turn (w w' : World) (S : Nat → Prop) : Prop where
  os : w'.os = w.os
  tape : w'.tape = w.tape
  output : w'.output = w.output
  size : w.heap.size ≤ w'.heap.size
  block : ∀ k, k < w.heap.size → ¬ S k → w'.heap[k]? = w.heap[k]?

theorem Turn.refl (w : World) (S : Nat → Prop) : Turn w w S := ⟨rfl, rfl, rfl, Nat.le_refl _, fun _ _ _ => rfl⟩
theorem Turn.trans {w w' w'' : World} {S S' : Nat → Prop} (h : Turn w w' S) (h' : Turn w' w'' S') (hS : ∀ k, k < w.heap.size → S' k → S k) : Turn w w'' S :=
  ⟨h'.os.trans h.os, h'.tape.trans h.tape, h'.output.trans h.output, Nat.le_trans h.size h'.size, fun k hk hn => (h'.block k (Nat.lt_of_lt_of_le hk h.size) (fun s => hn (hS k hk s))).trans (h.block k hk hn)⟩
theorem Turn.of_below {w w' : World} (h : Below w.heap.size w w') (S : Nat → Prop) : Turn w w' S := ⟨h.os, h.tape, h.output, h.size, fun k hk _ => h.block k hk⟩
theorem Turn.of_grown {w w' : World} {row : Option Nat} {S : Nat → Prop} (h : w.grownBy w' row) (hS : ∀ k, row = some k → k < w.heap.size → S k) : Turn w w' S :=
  ⟨h.os, h.tape, h.output, h.size, fun k hk hn => h.block k hk (fun e => hn (hS k e.symm hk))⟩
theorem Turn.drew {w w' : World} {S : Nat → Prop} (h : Turn w w' S) (q : Nat) : Turn w (w'.drewN q) S := ⟨h.os, h.tape, h.output, h.size, h.block⟩
theorem Turn.from_drew {w w' : World} {S : Nat → Prop} {q : Nat} (h : Turn (w.drewN q) w' S) : Turn w w' S := ⟨h.os, h.tape, h.output, h.size, h.block⟩
theorem Turn.below {w0 w w' : World} {B : Nat} {S : Nat → Prop} (h : Turn w w' S) (hb : Below B w0 w) (hB : B ≤ w.heap.size) (hS : ∀ k, S k → B ≤ k) : Below B w0 w' :=
  ⟨h.os.trans hb.os, h.tape.trans hb.tape, h.output.trans hb.output, Nat.le_trans hb.size h.size, fun k hk => (h.block k (by omega) (fun s => by have := hS k s; omega)).trans (hb.block k hk)⟩
theorem Turn.own {w w' : World} {S : Nat → Prop} {B e size n : Nat} {v : Value} {xs : List Value} (h : Turn w w' S) (ho : w.ownsRow B e size v n xs) (hS : ∀ k, v.ownBlock = some k → ¬ S k) : w'.ownsRow B e size v n xs := by
  obtain ⟨hl, ⟨rfl, rfl⟩ | ⟨g, cap, cur, rfl, h1, h2, r⟩⟩ := ho
  · exact ⟨hl, .inl ⟨rfl, rfl⟩⟩
  · exact ⟨hl, .inr ⟨g, cap, cur, rfl, h1, (h.block g (Array.getElem?_eq_some_iff.1 h2).1 (hS g rfl)).trans h2, r⟩⟩
theorem Turn.ints {w w' : World} {S : Nat → Prop} {k : IntKind} {v : Value} {zs : List Int} (h : Turn w w' S) (hi : Ints k w v zs) (hS : ∀ b, v.ownBlock = some b → ¬ S b) : Ints k w' v zs := by
  have hi0 := hi
  obtain ⟨a, cap, b, off, rfl, h1, h2, h3, h4, h5⟩ := hi.open
  refine Ints.mk rfl h1 h2 h3 h4 (fun i hi' => ?_) hi0.2
  obtain rfl := h4 (by omega)
  have h6 := h5 i hi'
  have hlt : b < w.heap.size := World.block_lt_of_cell? _ _ h6
  exact (World.cell?_of_block (a := ⟨b, off + i, none⟩) (h.block b hlt (hS b rfl))).trans h6

/-- What a buffer's calls may turn. -/
def foot (p m : Nat) (g : Option Nat) (k : Nat) : Prop := k = p ∨ k = m ∨ g = some k

/-- Block p is a buffer that stands as s; m: its map; g: its bytes' block; all from L on. -/
def Buf (L : Nat) (w : World) (p m : Nat) (g : Option Nat) (s : Bf) : Prop :=
  ∃ bv n, w.heap[p]? = some (.cells #[bv, .int .i64 s.room, .map (some m), .int .i64 s.er] 160 (0, 0)) ∧ w.ownsRow L 5 1 bv s.bs.length (s.bs.map (Value.int .u8)) ∧ bv.ownBlock = g ∧ U8 s.bs ∧ (s.bs.length ≤ s.room ∧ s.room ≤ 1000000) ∧ w.ownsMap Tryz.prog 3 (plainElem Tryz.prog 3) m n s.held ∧ n ≤ s.cnt ∧ (L ≤ p ∧ L ≤ m ∧ p ≠ m) ∧ ∀ k, g = some k → k ≠ p ∧ k ≠ m ∧ L ≤ k ∧ k < w.heap.size

theorem Buf.lt {L : Nat} {w : World} {p m : Nat} {g : Option Nat} {s : Bf} (h : Buf L w p m g s) : p < w.heap.size := by
  obtain ⟨bv, n, h1, -⟩ := h
  exact (Array.getElem?_eq_some_iff.1 h1).1
theorem Buf.mlt {L : Nat} {w : World} {p m : Nat} {g : Option Nat} {s : Bf} (h : Buf L w p m g s) : m < w.heap.size := by
  obtain ⟨bv, n, h1, h2, h3, h4, h5, h6, -⟩ := h
  exact h6.lt
theorem Buf.from {L : Nat} {w : World} {p m : Nat} {g : Option Nat} {s : Bf} (h : Buf L w p m g s) : ∀ k, foot p m g k → L ≤ k := by
  obtain ⟨bv, n, h1, h2, h3, h4, h5, h6, h7, h8, h9⟩ := h
  rintro k (rfl | rfl | e)
  · exact h8.1
  · exact h8.2.1
  · exact (h9 k e).2.2.1
theorem Buf.flt {L : Nat} {w : World} {p m : Nat} {g : Option Nat} {s : Bf} (h : Buf L w p m g s) : ∀ k, foot p m g k → k < w.heap.size := by
  have hl := h.lt
  have hm := h.mlt
  obtain ⟨bv, n, h1, h2, h3, h4, h5, h6, h7, h8, h9⟩ := h
  rintro k (rfl | rfl | e)
  · exact hl
  · exact hm
  · exact (h9 k e).2.2.2
theorem Buf.low {L L' : Nat} {w : World} {p m : Nat} {g : Option Nat} {s : Bf} (h : Buf L w p m g s) (hL : L' ≤ L) : Buf L' w p m g s := by
  obtain ⟨bv, n, h1, h2, h3, h4, h5, h6, h7, h8, h9⟩ := h
  exact ⟨bv, n, h1, own_base h2 hL, h3, h4, h5, h6, h7, ⟨Nat.le_trans hL h8.1, Nat.le_trans hL h8.2.1, h8.2.2⟩, fun k e => ⟨(h9 k e).1, (h9 k e).2.1, Nat.le_trans hL (h9 k e).2.2.1, (h9 k e).2.2.2⟩⟩
theorem Buf.turn {L : Nat} {w w' : World} {p m : Nat} {g : Option Nat} {s : Bf} {S : Nat → Prop} (h : Buf L w p m g s) (ht : Turn w w' S) (hS : ∀ k, foot p m g k → ¬ S k) : Buf L w' p m g s := by
  have hl := h.lt
  have hm := h.mlt
  obtain ⟨bv, n, h1, h2, h3, h4, h5, h6, h7, h8, h9⟩ := h
  refine ⟨bv, n, (ht.block p hl (hS p (.inl rfl))).trans h1, ht.own h2 (fun k e => hS k (.inr (.inr (h3.symm.trans e)))), h3, h4, h5, ?_, h7, h8, fun k e => ⟨(h9 k e).1, (h9 k e).2.1, (h9 k e).2.2.1, Nat.lt_of_lt_of_le (h9 k e).2.2.2 ht.size⟩⟩
  obtain ⟨es, clock, hb, r⟩ := h6
  exact ⟨es, clock, (ht.block m hm (hS m (.inr (.inl rfl)))).trans hb, r⟩
theorem Buf.below {L : Nat} {w w' : World} {p m : Nat} {g : Option Nat} {s : Bf} (h : Buf L w p m g s) (hb : Below w.heap.size w w') : Buf L w' p m g s :=
  h.turn (S := fun _ => False) (Turn.of_below hb _) (fun _ _ => id)
theorem Buf.drew {L : Nat} {w : World} {p m : Nat} {g : Option Nat} {s : Bf} (h : Buf L w p m g s) (q : Nat) : Buf L (w.drewN q) p m g s := h
theorem Buf.okBs {L : Nat} {w : World} {p m : Nat} {g : Option Nat} {s : Bf} (h : Buf L w p m g s) : U8 s.bs ∧ s.bs.length ≤ s.room ∧ s.room ≤ 1000000 := by
  obtain ⟨bv, n, h1, h2, h3, h4, h5, -⟩ := h
  exact ⟨h4, h5⟩

/-- What a buffer's call hands back. -/
def GotB (L : Nat) (w : World) (p m : Nat) (g : Option Nat) (s' : Bf) (r : Value) (e : Ending) (w' : World) : Prop :=
  e = .returned r ∧ ∃ g', Buf L w' p m g' s' ∧ Turn w w' (foot p m g) ∧ ∀ k, g' = some k → g = some k ∨ w.heap.size ≤ k

/-- What a buffer gives to a walk. -/
theorem Buf.open {L : Nat} {w : World} {p m : Nat} {g : Option Nat} {s : Bf} (h : Buf L w p m g s) :
    ∃ bv er, er = s.er ∧ w.ownsRow L 5 1 bv s.bs.length (s.bs.map (Value.int .u8)) ∧ w.cell? ⟨p, 0, none⟩ = some bv ∧ w.cell? ⟨p, 1, none⟩ = some (.int .i64 s.room) ∧ w.cell? ⟨p, 2, none⟩ = some (.map (some m)) ∧ w.cell? ⟨p, 3, none⟩ = some (.int .i64 er) ∧ (∀ i, w.frozen? ⟨p, i, none⟩ = false) := by
  obtain ⟨bv, n, h1, h2, -⟩ := h
  refine ⟨bv, s.er, rfl, h2, ?_, ?_, ?_, ?_, fun i => ?_⟩ <;> simp [World.cell?, World.frozen?, h1]

/-- A fault, stored. -/
theorem Buf.setEr {L : Nat} {w : World} {p m : Nat} {g : Option Nat} {s : Bf} (h : Buf L w p m g s) (e : Int) : Buf L (w.setCell ⟨p, 3, none⟩ (.int .i64 e)) p m g { s with er := e } := by
  have hl := h.lt
  have hm := h.mlt
  obtain ⟨bv, n, h1, h2, h3, h4, h5, h6, h7, h8, h9⟩ := h
  have ht := grown_put w p 3 (.int .i64 e)
  refine ⟨bv, n, (heap_put h1 3 _).trans (by rfl), h2.kept ht (.inr ?_), h3, h4, h5, h6.kept ht (by intro e; injection e with e; omega), h7, h8, fun k e => ⟨(h9 k e).1, (h9 k e).2.1, (h9 k e).2.2.1, Nat.lt_of_lt_of_le (h9 k e).2.2.2 ht.size⟩⟩
  rw [h3]
  intro e
  exact (h9 p e).1 rfl
theorem turn_put (w : World) (p i : Nat) (v : Value) {S : Nat → Prop} (h : S p) : Turn w (w.setCell ⟨p, i, none⟩ v) S :=
  Turn.of_grown (grown_put w p i v) (fun k e _ => by injection e with e; subst e; exact h)

set_option maxRecDepth 100000
set_option maxHeartbeats 4000000

theorem buf_new {n : Nat} (hn : n ≤ 1000000) (w : World) :
    Calls Tryz.prog 95 #[.int .i64 n] w fun e w' => ∃ p m, e = .returned (.pointer (some ⟨p, 0, none⟩)) ∧ Buf w.heap.size w' p m none (Bf.new n) ∧ Below w.heap.size w w' := by
  have hmm := @run_makeMap Tryz.prog
  go_enter Tryz.func95, Tryz.ntmps95
  go_wp2
  go_ret
  refine ⟨w.heap.size + 1, w.heap.size, rfl, ⟨.slice none 0 0, 0, ?_, World.ownsRow_nil _ _ _ _, rfl, fun z hz => by simp [Bf.new] at hz, ⟨Nat.zero_le _, hn⟩, (World.ownsMap_made w _ _ _).alloc _, Nat.zero_le _, ⟨by omega, by omega, by omega⟩, fun k e => by cases e⟩, ((Below.refl _ _).alloc (Nat.le_refl _) _).alloc (by simp) _⟩
  have := heap_alloc_new (w.alloc (.map #[] 0)) (.cells #[.slice none 0 0, .int .i64 n, .map (some w.heap.size), .int .i64 0] 160)
  rw [World.size_alloc] at this
  exact this

theorem buf_none {L : Nat} {w : World} {p m : Nat} {g : Option Nat} {s : Bf} (h : Buf L w p m g s) :
    Calls Tryz.prog 110 #[.pointer (some ⟨p, 0, none⟩)] w fun e w' => e = .returned (.bool false) ∧ w = w' := by
  obtain ⟨bv, er, her, hb, c0, c1, c2, c3, fz⟩ := h.open
  clear h her hb
  have q : ∀ w : World, (binOp .eql 119 (.map (some m)) (.map none)).run Tryz.prog w = .ok (.bool false) w := fun w => run_eql_map_nil w _ _ _ _ Tryz.underlying119
  go_enter Tryz.func110, Tryz.ntmps110
  go_wp2
  go_ret
  exact ⟨rfl, rfl⟩

theorem GotB.same {L : Nat} {w : World} {p m : Nat} {g : Option Nat} {s : Bf} (h : Buf L w p m g s) (r : Value) : GotB L w p m g s r (.returned r) w :=
  ⟨rfl, g, h, Turn.refl _ _, fun _ e => .inl e⟩
theorem GotB.drew {L : Nat} {w w' : World} {p m : Nat} {g : Option Nat} {s : Bf} {r : Value} {e : Ending} (h : GotB L w p m g s r e w') (q : Nat) : GotB L w p m g s r e (w'.drewN q) := by
  obtain ⟨he, g', h1, h2, h3⟩ := h
  exact ⟨he, g', h1, h2.drew q, h3⟩
theorem GotB.from_drew {L : Nat} {w w' : World} {p m : Nat} {g : Option Nat} {s : Bf} {r : Value} {e : Ending} {q : Nat} (h : GotB L (w.drewN q) p m g s r e w') : GotB L w p m g s r e w' := by
  obtain ⟨he, g', h1, h2, h3⟩ := h
  exact ⟨he, g', h1, h2.from_drew, h3⟩

theorem buf_fail {L : Nat} {w : World} {p m : Nat} {g : Option Nat} {s : Bf} (h : Buf L w p m g s) (x : Int) :
    Calls Tryz.prog 109 #[.pointer (some ⟨p, 0, none⟩), .int .i64 x] w (GotB L w p m g (s.fail x) (.tuple #[])) := by
  have C1 := Lib.hid (buf_none h)
  have C2 := Lib.hid h
  obtain ⟨bv, er, her, hb, c0, c1, c2, c3, fz⟩ := h.open
  clear h hb
  have fz3 := fz 3
  clear fz
  by_cases h0 : er = 0
  · subst h0
    have H0 := Lib.hid her
    clear her
    go_enter Tryz.func109, Tryz.ntmps109
    go_wp2_with ((go_at_call 110; (with_reducible refine C1.out.mono ?_); rintro e1 w1 ⟨rfl, rfl⟩))
    go_end0
    rw [show s.fail x = { s with er := x } by rw [Bf.fail, if_pos H0.out.symm]]
    exact ⟨rfl, g, C2.out.setEr x, turn_put _ _ _ _ (.inl rfl), fun k e => .inl e⟩
  · have e1 : (er == 0) = false := by simpa using h0
    have H0 := Lib.hid her
    have H1 := Lib.hid h0
    clear her h0
    go_enter Tryz.func109, Tryz.ntmps109
    go_wp2_with ((go_at_call 110; (with_reducible refine C1.out.mono ?_); rintro e1 w1 ⟨rfl, rfl⟩))
    go_end0
    rw [show s.fail x = s by rw [Bf.fail, if_neg (by rw [← H0.out]; exact H1.out)]]
    exact GotB.same C2.out _

theorem Buf.addBs {L : Nat} {w w2 : World} {p m : Nat} {g : Option Nat} {s : Bf} {bv v2 : Value} {xs : List Int} (h : Buf L w p m g s) (hc : w.cell? ⟨p, 0, none⟩ = some bv) (ho : w2.ownsRow L 5 1 v2 (s.bs.length + xs.length) (s.bs.map (Value.int .u8) ++ xs.map (Value.int .u8))) (hg : w.grownBy w2 bv.ownBlock) (hv : v2.ownBlock = bv.ownBlock ∨ v2.ownBlock = some w.heap.size) (hu : U8 xs) (hr : s.bs.length + xs.length ≤ s.room) (r : Value) :
    GotB L w p m g { s with bs := s.bs ++ xs } r (.returned r) (w2.setCell ⟨p, 0, none⟩ v2) := by
  have hl := h.lt
  have hm := h.mlt
  obtain ⟨bv', n, h1, h2, h3, h4, h5, h6, h7, h8, h9⟩ := h
  obtain rfl : bv = bv' := by
    have : w.cell? ⟨p, 0, none⟩ = some bv' := by simp [World.cell?, h1]
    rw [hc] at this; injection this
  have hgg : ∀ k, v2.ownBlock = some k → k ≠ p ∧ k ≠ m ∧ L ≤ k ∧ k < w2.heap.size := fun k e => by
    refine ⟨?_, ?_, (ho.lt k e).1, (ho.lt k e).2⟩
    · rcases hv with hv | hv
      · exact (h9 k (by rw [← h3, ← hv, e])).1
      · rw [hv] at e; injection e with e; omega
    · rcases hv with hv | hv
      · exact (h9 k (by rw [← h3, ← hv, e])).2.1
      · rw [hv] at e; injection e with e; omega
  have hp2 : w2.heap[p]? = some (.cells #[bv, .int .i64 s.room, .map (some m), .int .i64 s.er] 160 (0, 0)) := (hg.block p hl (fun e => (h9 p (by rw [← h3, e])).1 rfl)).trans h1
  have ht := grown_put w2 p 0 v2
  refine ⟨rfl, v2.ownBlock, ⟨v2, n, (heap_put hp2 0 _).trans (by rfl), ?_, rfl, ?_, ⟨by simpa using hr, h5.2⟩, (h6.kept hg (fun e => (h9 m (by rw [← h3, ← e])).2.1 rfl)).kept ht (by intro e; injection e with e; omega), h7, h8, fun k e => ⟨(hgg k e).1, (hgg k e).2.1, (hgg k e).2.2.1, Nat.lt_of_lt_of_le (hgg k e).2.2.2 ht.size⟩⟩, ?_, ?_⟩
  · have : w2.ownsRow L 5 1 v2 (s.bs ++ xs).length ((s.bs ++ xs).map (Value.int .u8)) := by rw [List.length_append, List.map_append]; exact ho
    exact this.kept ht (.inr (fun e => (hgg p e).1 rfl))
  · exact U8.append h4 hu
  · exact (Turn.of_grown hg (fun k e _ => .inr (.inr (by rw [← h3, e])))).trans (S' := foot p m g) (turn_put _ _ _ _ (.inl rfl)) (fun _ _ => id)
  · intro k e
    rcases hv with hv | hv
    · exact .inl (by rw [← h3, ← hv, e])
    · rw [hv] at e; injection e with e; right; omega

theorem grown_drewF {w w' : World} {row : Option Nat} {q : Nat} (h : (w.drewN q).grownBy w' row) : w.grownBy w' row := ⟨h.os, h.tape, h.output, h.size, h.block⟩
theorem Buf.keepP {L : Nat} {w w2 : World} {p m : Nat} {g : Option Nat} {s : Bf} {bv : Value} (h : Buf L w p m g s) (hg : w.grownBy w2 bv.ownBlock) (hc : w.cell? ⟨p, 0, none⟩ = some bv) : w2.heap[p]? = w.heap[p]? := by
  have hl := h.lt
  obtain ⟨bv', n, h1, h2, h3, h4, h5, h6, h7, h8, h9⟩ := h
  obtain rfl : bv = bv' := by
    have : w.cell? ⟨p, 0, none⟩ = some bv' := by simp [World.cell?, h1]
    rw [hc] at this; injection this
  exact hg.block p hl (fun e => (h9 p (by rw [← h3, e])).1 rfl)
theorem bytes_b_busy {s : Bf} {xs : List Int} (h : s.er ≠ 0) : s.bytes xs = s := by rw [Bf.bytes, if_pos h]
theorem bytes_b_long {s : Bf} {xs : List Int} (h : s.er = 0) (h1 : (s.room : Int) - s.bs.length < xs.length) : s.bytes xs = s.fail 10003 := by rw [Bf.bytes, if_neg (by simp [h]), if_pos h1]
theorem bytes_b_fine {s : Bf} {xs : List Int} (h : s.er = 0) (h1 : ¬ (s.room : Int) - s.bs.length < xs.length) : s.bytes xs = { s with bs := s.bs ++ xs } := by rw [Bf.bytes, if_neg (by simp [h]), if_neg h1]

theorem buf_bytes {L : Nat} {w : World} {p m : Nat} {g : Option Nat} {s : Bf} (h : Buf L w p m g s) {vx : Value} {xs : List Int} (hx : Ints .u8 w vx xs) :
    Calls Tryz.prog 98 #[.pointer (some ⟨p, 0, none⟩), vx] w (GotB L w p m g (s.bytes xs) (.tuple #[])) := by
  have C1 := Lib.hid (buf_none h)
  have C2 := Lib.hid h
  have HX := Lib.hid hx
  obtain ⟨bv, er, her, hb, c0, c1, c2, c3, fz⟩ := h.open
  have HO := Lib.hid hb
  obtain ⟨ab, cap, rfl⟩ := own_slice hb
  obtain ⟨ax, capx, bx, ox, rfl, -⟩ := hx.open
  have hk := h.okBs
  have hle := hx.le
  have FZ := Lib.hid (fz 0)
  clear h hx hb fz
  have HC := Lib.hid c0
  have H0 := Lib.hid her
  have HL : Hid (L ≤ w.heap.size) := Nat.le_trans (C2.out.from p (.inl rfl)) (Nat.le_of_lt C2.out.lt)
  by_cases h0 : er = 0
  · subst h0
    obtain ⟨k1, k2, k3⟩ := hk
    clear her k1
    by_cases h1 : (s.room : Int) - s.bs.length < xs.length
    · have HF := fun q => Lib.hid (buf_fail (C2.out.drew q) 10003)
      go_enter Tryz.func98, Tryz.ntmps98
      go_wp2_with (first
        | (go_at_call 110; (with_reducible refine C1.out.mono ?_); rintro e1 w1 ⟨rfl, rfl⟩)
        | (go_at_call 109; (with_reducible refine (HF _).out.mono ?_); rintro e1 w1 hf; have HF1 := Lib.hid hf.from_drew; obtain ⟨rfl, -⟩ := hf)
        | go_quiet (fail))
      go_end0
      rw [bytes_b_long H0.out.symm h1]
      exact HF1.out
    · have e1 : decide ((s.room : Int) - s.bs.length < xs.length) = false := decide_eq_false h1
      go_enter Tryz.func98, Tryz.ntmps98
      go_wp2_with (first
        | (go_at_call 110; (with_reducible refine C1.out.mono ?_); rintro e1 w1 ⟨rfl, rfl⟩)
        | go_quiet (fail)
        | (at_builtin; refine wpList_append_sl rfl (.tmp 8) (.tmp 9) _ rfl L 5 (.int .u8 0) 1 1 Tryz.underlying24 info_u8 rfl (by decide) (.slice ab s.bs.length cap) s.bs.length _ rfl HO.out (.slice ax xs.length capx) xs.length (xs.map (Value.int .u8)) rfl (by simp) HX.out.1 (ints_one _ _) (by unfold maxLen; omega) (by omega) HL.out ?_; intro v2 w2 hown2 hgrow2 hv2; have HG2 : Hid (GotB L w p m g { s with bs := s.bs ++ xs } (.tuple #[]) (.returned (.tuple #[])) (w2.setCell ⟨p, 0, none⟩ v2)) := C2.out.addBs HC.out hown2 (grown_drewF hgrow2) hv2 HX.out.u8 (by omega) _; have hkp := C2.out.keepP (grown_drewF hgrow2) HC.out; have fz2 : w2.frozen? ⟨p, 0, none⟩ = false := (World.frozen?_of_block (a := ⟨p, 0, none⟩) hkp).trans FZ.out; have cz2 := (World.cell?_of_block (a := ⟨p, 0, none⟩) hkp).trans HC.out; obtain ⟨a2, cap2, rfl⟩ := own_slice hown2; clear hown2 hgrow2 hv2))
      go_end0
      rw [bytes_b_fine H0.out.symm (by omega)]
      exact HG2.out
  · have e1 : (er != 0) = true := by simpa using h0
    have H1 := Lib.hid h0
    clear her h0 hk
    go_enter Tryz.func98, Tryz.ntmps98
    go_wp2_with ((go_at_call 110; (with_reducible refine C1.out.mono ?_); rintro e1 w1 ⟨rfl, rfl⟩))
    go_end0
    rw [bytes_b_busy (by rw [← H0.out]; exact H1.out)]
    exact GotB.same C2.out _

theorem GotB.after {L : Nat} {w w1 w' : World} {p m : Nat} {g : Option Nat} {s : Bf} {r : Value} {e : Ending} (hb : Below w.heap.size w w1) (h : GotB L w1 p m g s r e w') : GotB L w p m g s r e w' := by
  obtain ⟨he, g', h1, h2, h3⟩ := h
  exact ⟨he, g', h1, (Turn.of_below hb _).trans h2 (fun _ _ => id), fun k e => (h3 k e).imp id (fun h => Nat.le_trans hb.size h)⟩
theorem GotB.then {L : Nat} {w w1 w' : World} {p m : Nat} {g g1 : Option Nat} {s : Bf} {r : Value} {e : Ending} (ht : Turn w w1 (foot p m g)) (hg : ∀ k, g1 = some k → g = some k ∨ w.heap.size ≤ k) (h : GotB L w1 p m g1 s r e w') : GotB L w p m g s r e w' := by
  obtain ⟨he, g', h1, h2, h3⟩ := h
  refine ⟨he, g', h1, ht.trans h2 (fun k hk hf => ?_), fun k e => ?_⟩
  · rcases hf with rfl | rfl | e
    · exact .inl rfl
    · exact .inr (.inl rfl)
    · rcases hg k e with h | h
      · exact .inr (.inr h)
      · omega
  · rcases h3 k e with h | h
    · exact hg k h
    · exact .inr (Nat.le_trans ht.size h)

theorem buf_row {L : Nat} {w : World} {p m : Nat} {g : Option Nat} {s : Bf} (h : Buf L w p m g s) {v1 v2 : Value} {ws ns : List Int} (h1 : Ints .i64 w v1 ws) (h2 : Ints .u64 w v2 ns) :
    Calls Tryz.prog 97 #[.pointer (some ⟨p, 0, none⟩), v1, v2] w (GotB L w p m g (s.row ws ns) (.tuple #[])) := by
  have HP := row_put_i v1 v2 ws ns w h1 h2
  have HB := Lib.hid h
  cases hq : putS ws ns with
  | none =>
    have HS : Hid (s.row ws ns = s.fail 10001) := by show s.row ws ns = _; unfold Bf.row; rw [hq]
    unfold PutI at HP
    rw [hq] at HP
    have HP := Lib.hid HP
    clear h h1 h2 hq
    go_enter Tryz.func97, Tryz.ntmps97
    go_wp2_with (first
      | (go_at_call 108; (with_reducible refine HP.out.mono ?_); rintro e1 w1 ⟨va, rfl, ha, hb⟩; have HF := Lib.hid (buf_fail (HB.out.below hb) 10001); have HB1 := Lib.hid hb; clear ha hb)
      | (go_at_call 109; (with_reducible refine HF.out.mono ?_); rintro e1 w2 hf; have HF1 := Lib.hid (hf.after HB1.out); obtain ⟨rfl, -⟩ := hf))
    go_end0
    rw [HS.out]
    exact HF1.out
  | some x =>
    have HS : Hid (s.row ws ns = s.bytes x) := by show s.row ws ns = _; unfold Bf.row; rw [hq]
    unfold PutI at HP
    rw [hq] at HP
    have HP := Lib.hid HP
    clear h h1 h2 hq
    go_enter Tryz.func97, Tryz.ntmps97
    go_wp2_with (first
      | (go_at_call 108; (with_reducible refine HP.out.mono ?_); rintro e1 w1 ⟨va, rfl, ha, hb⟩; have HF := Lib.hid (buf_bytes (HB.out.below hb) ha); have HB1 := Lib.hid hb; clear ha hb)
      | (go_at_call 98; (with_reducible refine HF.out.mono ?_); rintro e1 w2 hf; have HF1 := Lib.hid (hf.after HB1.out); obtain ⟨rfl, -⟩ := hf))
    go_end0
    rw [HS.out]
    exact HF1.out

/-- What Done hands back. -/
def GotDone (w : World) (bs : List Int) (er : Int) (e : Ending) (w' : World) : Prop :=
  ∃ v, e = .returned (.tuple #[v, .int .i64 er]) ∧ w'.ownsRow w.heap.size 5 1 v bs.length (bs.map (Value.int .u8)) ∧ Below w.heap.size w w'

theorem buf_done {L : Nat} {w : World} {p m : Nat} {g : Option Nat} {s : Bf} (h : Buf L w p m g s) :
    Calls Tryz.prog 99 #[.pointer (some ⟨p, 0, none⟩)] w (GotDone w s.done.1 s.done.2) := by
  have C1 := Lib.hid (buf_none h)
  have hk := h.okBs
  have HM : Hid (∃ n, w.ownsMap Tryz.prog 3 (plainElem Tryz.prog 3) m n s.held) := by obtain ⟨bv, n, h1, h2, h3, h4, h5, h6, -⟩ := h; exact ⟨n, h6⟩
  obtain ⟨n, hm⟩ := HM.out
  have HM := Lib.hid hm
  obtain ⟨bv, er, her, hb, c0, c1, c2, c3, fz⟩ := h.open
  have HC := Lib.hid (bytes_clone (Ints.of_own hb hk.1.wf) (by omega))
  have H0 := Lib.hid her
  clear h hk hm hb fz
  by_cases h0 : er = 0
  · subst h0
    clear her
    by_cases h1 : 0 < Maps.size s.held
    · rw [show s.done = ([], 10001) by rw [Bf.done, if_neg (by simp [← H0.out]), if_pos h1]]
      have hlen : ∀ ty, (Builtin.len_ #[119] ty #[.map (some m)]).run Tryz.prog w = .ok (.int .i64 (Maps.size s.held)) w := fun ty => HM.out.len Tryz.underlying119 ty
      have h2 : (0 : Int) < (Maps.size s.held : Int) := by omega
      go_enter Tryz.func99, Tryz.ntmps99
      go_wp2_with (first
        | (go_at_call 110; (with_reducible refine C1.out.mono ?_); rintro e1 w1 ⟨rfl, rfl⟩)
        | go_quiet (fail))
      go_ret2
      exact ⟨_, rfl, World.ownsRow_nil _ _ _ _, Below.refl _ _⟩
    · rw [show s.done = (s.bs, 0) by rw [Bf.done, if_neg (by simp [← H0.out]), if_neg h1]]
      have h1' : Maps.size s.held = 0 := by omega
      have hlen : ∀ ty, (Builtin.len_ #[119] ty #[.map (some m)]).run Tryz.prog w = .ok (.int .i64 0) w := fun ty => by rw [HM.out.len Tryz.underlying119 ty, h1']; rfl
      clear h1 h1'
      go_enter Tryz.func99, Tryz.ntmps99
      go_wp2_with (first
        | (go_at_call 110; (with_reducible refine C1.out.mono ?_); rintro e1 w1 ⟨rfl, rfl⟩)
        | (go_at_call 111; (with_reducible refine HC.out.mono ?_); rintro e1 w1 ⟨v1, rfl, ho1, hb1⟩)
        | go_quiet (fail))
      go_ret2
      exact ⟨_, rfl, ho1, hb1⟩
  · have e1 : (er != 0) = true := by simpa using h0
    have H1 := Lib.hid h0
    rw [show s.done = ([], s.er) by rw [Bf.done, if_pos (by rw [← H0.out]; exact H1.out)]]
    rw [← her]
    clear her h0
    go_enter Tryz.func99, Tryz.ntmps99
    go_wp2_with (first
        | (go_at_call 110; (with_reducible refine C1.out.mono ?_); rintro e1 w1 ⟨rfl, rfl⟩)
        | go_quiet (fail))
    go_ret2
    exact ⟨_, rfl, World.ownsRow_nil _ _ _ _, below_drewN (Below.refl _ _) _⟩
end Go.Proofs.YtcebcncpbedkmaaGreat
