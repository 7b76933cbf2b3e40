/- What a message that a statement is called with gives to a walk, and Few of it. Conditions: none beyond each lemma's own. -/
import Derived.Test.YtcebcncpbedkmaaGreatZBodyL
import Derived.Test.YtcebcncpbedkmaaGreatZFit
import Derived.Test.YtcebcncpbedkmaaGreatZFewC
namespace Go.Proofs.YtcebcncpbedkmaaGreat
open Go.RowKit
set_option maxRecDepth 100000
set_option maxHeartbeats 4000000

/-- The lists of a message beside its numbers and data read as lists. -/
structure FitsL (w : World) (L : Lens) : Prop where
  h5 : Fit Tryz.prog w 26 (.slice L.a5 L.n5 L.c5)
  h6 : Fit Tryz.prog w 27 (.slice L.a6 L.n6 L.c6)
  h7 : Fit Tryz.prog w 28 (.slice L.a7 L.n7 L.c7)
  h8 : Fit Tryz.prog w 29 (.slice L.a8 L.n8 L.c8)
  h9 : Fit Tryz.prog w 30 (.slice L.a9 L.n9 L.c9)
  h10 : Fit Tryz.prog w 31 (.slice L.a10 L.n10 L.c10)
  h11 : Fit Tryz.prog w 32 (.slice L.a11 L.n11 L.c11)
  h14 : Fit Tryz.prog w 33 (.slice L.a14 L.n14 L.c14)

theorem FitsL.since {w w' : World} {L : Lens} (h : FitsL w L) (hb : Below w.heap.size w w') : FitsL w' L :=
  ⟨h.h5.since hb, h.h6.since hb, h.h7.since hb, h.h8.since hb, h.h9.since hb, h.h10.since hb, h.h11.since hb, h.h14.since hb⟩

/-- A message: its type, its number, its numbers, its data, and its other parts. -/
structure MsgV where
  ty : Int
  xid : Int
  vn : Value
  vd : Value
  nums : List Int
  ds : List Int
  els : List Elt
  L : Lens

/-- The value v is the message m. -/
structure MsgOk (w : World) (v : Value) (m : MsgV) : Prop where
  eq : v = .agg (msgL m.ty m.xid m.vn m.vd m.L)
  nums : Ints .u64 w m.vn m.nums
  data : Ints .u8 w m.vd m.ds
  ty : (Lit.int .i64 m.ty).wf = true
  xid : (Lit.int .u32 m.xid).wf = true
  kind : (Lit.int .i64 m.L.kind).wf = true
  flags : (Lit.int .i64 m.L.flags).wf = true
  elems : RowsOf ItemR 2 w (.slice m.L.a4 m.L.n4 m.L.c4) m.els
  fits : FitsL w m.L

theorem MsgOk.since {w w' : World} {v : Value} {m : MsgV} (h : MsgOk w v m) (hb : Below w.heap.size w w') : MsgOk w' v m :=
  ⟨h.eq, h.nums.below hb, h.data.below hb, h.ty, h.xid, h.kind, h.flags, h.elems.below ItemR.lasts hb, h.fits.since hb⟩

theorem agg15 {cs : Array Value} (h : cs.size = 15) : cs = #[cs.getD 0 undef, cs.getD 1 undef, cs.getD 2 undef, cs.getD 3 undef, cs.getD 4 undef, cs.getD 5 undef, cs.getD 6 undef, cs.getD 7 undef, cs.getD 8 undef, cs.getD 9 undef, cs.getD 10 undef, cs.getD 11 undef, cs.getD 12 undef, cs.getD 13 undef, cs.getD 14 undef] := by
  apply Array.ext (by simp [h])
  intro i h1 h2
  have hi : i < 15 := by omega
  match i, hi with
  | 0, _ => simp [Array.getD, h]
  | 1, _ => simp [Array.getD, h]
  | 2, _ => simp [Array.getD, h]
  | 3, _ => simp [Array.getD, h]
  | 4, _ => simp [Array.getD, h]
  | 5, _ => simp [Array.getD, h]
  | 6, _ => simp [Array.getD, h]
  | 7, _ => simp [Array.getD, h]
  | 8, _ => simp [Array.getD, h]
  | 9, _ => simp [Array.getD, h]
  | 10, _ => simp [Array.getD, h]
  | 11, _ => simp [Array.getD, h]
  | 12, _ => simp [Array.getD, h]
  | 13, _ => simp [Array.getD, h]
  | 14, _ => simp [Array.getD, h]

theorem fit_elems {w : World} {v : Value} (h : Fit Tryz.prog w 25 v) : ∃ l, RowsOf ItemR 2 w v l := by
  refine rows_of_fit h Tryz.underlying25 (by kernel_rfl) (by decide) (fun u f => ?_)
  obtain ⟨k, ek, wk⟩ := (f 0 3 (by kernel_rfl) (by kernel_rfl)).asInt Tryz.underlying3
  obtain ⟨bs, hb⟩ := (f 1 24 (by kernel_rfl) (by kernel_rfl)).ints Tryz.underlying24 Tryz.underlying5 (by kernel_rfl)
  exact ⟨(k, bs), u 1, by rw [show (List.range 2).map u = [u 0, u 1] from rfl, ek], hb, wk⟩
theorem arg_msg {H : Type} {enc : TypeId × Value → H} {W : World} {base b0 : Nat} {r : Reach} {sp : Nat → Bool} {hd : Bool} {v : Value} {d : DataW H} {p : List MemPlace}
    (hok : Value.okWide Tryz.prog W r b0 35 v) (h : DataW.Trod enc Tryz.prog W base sp hd 35 v d p) : ∃ m, MsgOk W v m := by
  obtain ⟨cs, rfl, hsz, hf⟩ := fit_struct Tryz.underlying35 hok h
  have hsz : cs.size = 15 := hsz.trans (by kernel_rfl)
  obtain ⟨x2, e2⟩ : ∃ x, cs.getD 2 undef = x := ⟨_, rfl⟩
  obtain ⟨x3, e3⟩ : ∃ x, cs.getD 3 undef = x := ⟨_, rfl⟩
  obtain ⟨ty, e0, w0⟩ := (hf 0 3 (by kernel_rfl) (by kernel_rfl)).asInt Tryz.underlying3
  obtain ⟨xid, e1, w1⟩ := (hf 1 22 (by kernel_rfl) (by kernel_rfl)).asInt Tryz.underlying22
  obtain ⟨nums, w2⟩ := (hf 2 23 (by kernel_rfl) (by kernel_rfl)).ints Tryz.underlying23 Tryz.underlying68 (by kernel_rfl)
  obtain ⟨ds, w3⟩ := (hf 3 24 (by kernel_rfl) (by kernel_rfl)).ints Tryz.underlying24 Tryz.underlying5 (by kernel_rfl)
  obtain ⟨kind, e12, w12⟩ := (hf 12 3 (by kernel_rfl) (by kernel_rfl)).asInt Tryz.underlying3
  obtain ⟨flags, e13, w13⟩ := (hf 13 3 (by kernel_rfl) (by kernel_rfl)).asInt Tryz.underlying3
  have f4 := hf 4 25 (by kernel_rfl) (by kernel_rfl)
  obtain ⟨a4, n4, c4, e4, -⟩ := f4.slice Tryz.underlying25
  have f5 := hf 5 26 (by kernel_rfl) (by kernel_rfl)
  obtain ⟨a5, n5, c5, e5, -⟩ := f5.slice Tryz.underlying26
  have f6 := hf 6 27 (by kernel_rfl) (by kernel_rfl)
  obtain ⟨a6, n6, c6, e6, -⟩ := f6.slice Tryz.underlying27
  have f7 := hf 7 28 (by kernel_rfl) (by kernel_rfl)
  obtain ⟨a7, n7, c7, e7, -⟩ := f7.slice Tryz.underlying28
  have f8 := hf 8 29 (by kernel_rfl) (by kernel_rfl)
  obtain ⟨a8, n8, c8, e8, -⟩ := f8.slice Tryz.underlying29
  have f9 := hf 9 30 (by kernel_rfl) (by kernel_rfl)
  obtain ⟨a9, n9, c9, e9, -⟩ := f9.slice Tryz.underlying30
  have f10 := hf 10 31 (by kernel_rfl) (by kernel_rfl)
  obtain ⟨a10, n10, c10, e10, -⟩ := f10.slice Tryz.underlying31
  have f11 := hf 11 32 (by kernel_rfl) (by kernel_rfl)
  obtain ⟨a11, n11, c11, e11, -⟩ := f11.slice Tryz.underlying32
  have f14 := hf 14 33 (by kernel_rfl) (by kernel_rfl)
  obtain ⟨a14, n14, c14, e14, -⟩ := f14.slice Tryz.underlying33
  rw [e4] at f4
  obtain ⟨els, f4⟩ := fit_elems f4
  rw [e5] at f5
  rw [e6] at f6
  rw [e7] at f7
  rw [e8] at f8
  rw [e9] at f9
  rw [e10] at f10
  rw [e11] at f11
  rw [e14] at f14
  refine ⟨⟨ty, xid, x2, x3, nums, ds, els, ⟨a4, n4, c4, a5, n5, c5, a6, n6, c6, a7, n7, c7, a8, n8, c8, a9, n9, c9, a10, n10, c10, a11, n11, c11, a14, n14, c14, kind, flags⟩⟩, ?_, e2 ▸ w2, e3 ▸ w3, w0, w1, w12, w13, f4, ⟨f5, f6, f7, f8, f9, f10, f11, f14⟩⟩
  have e := agg15 hsz
  rw [show cs.getD 0 undef = _ from e0, show cs.getD 1 undef = _ from e1, show cs.getD 2 undef = _ from e2, show cs.getD 3 undef = _ from e3, show cs.getD 4 undef = _ from e4, show cs.getD 5 undef = _ from e5, show cs.getD 6 undef = _ from e6, show cs.getD 7 undef = _ from e7, show cs.getD 8 undef = _ from e8, show cs.getD 9 undef = _ from e9, show cs.getD 10 undef = _ from e10, show cs.getD 11 undef = _ from e11, show cs.getD 12 undef = _ from e12, show cs.getD 13 undef = _ from e13, show cs.getD 14 undef = _ from e14] at e
  rw [e]

theorem MsgOk.n4 {w : World} {v : Value} {m : MsgV} (h : MsgOk w v m) : m.L.n4 = m.els.length := by
  obtain ⟨a, cap, b, off, e, -⟩ := h.elems
  injection e
theorem MsgOk.cut {w : World} {v : Value} {m : MsgV} (h : MsgOk w v m) : ∃ an cn ad cd, v = .agg (msgL m.ty m.xid (.slice an m.nums.length cn) (.slice ad m.ds.length cd) m.L) ∧ Ints .u64 w (.slice an m.nums.length cn) m.nums ∧ Ints .u8 w (.slice ad m.ds.length cd) m.ds := by
  obtain ⟨an, cn, bn, on, en, -⟩ := h.nums.open
  obtain ⟨ad, cd, bd, od, ed, -⟩ := h.data.open
  exact ⟨an, cn, ad, cd, by rw [h.eq, en, ed], en ▸ h.nums, ed ▸ h.data⟩

theorem few_msg {w : World} {v : Value} {m : MsgV} (h : MsgOk w v m) : Calls Tryz.prog 4 #[v] w fun e w' => YesFew m.nums.length m.ds.length m.els e ∧ Below w.heap.size w w' := by
  obtain ⟨an, cn, ad, cd, rfl, -, -⟩ := h.cut
  exact few21 _ _ _ _ _ _ _ _ _ _ _ _ _ _ _ _ _ _ _ w h.elems h.fits.h5 h.fits.h6 h.fits.h7 h.fits.h8 h.fits.h9 h.fits.h10 h.fits.h11 h.fits.h14

/-- A message's other parts without its elements. -/
def Lens.noEl (L : Lens) : Lens := { L with a4 := none, n4 := 0, c4 := 0 }
/-- Whether a message has nothing but its type, its number and its elements. -/
def MsgV.bare (m : MsgV) : Bool := decide (m.nums.length = 0) && bareL m.L.noEl && decide (m.ds.length = 0)
end Go.Proofs.YtcebcncpbedkmaaGreat
