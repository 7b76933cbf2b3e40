/- The walks of the document's cursor (a struct by value): New, Fail, Left. Conditions: none beyond each lemma's own. -/
import Derived.Test.YtdljlcbjpfgmcaaCurD
import Derived.Test.YtdljlcbjpfgmcaaCurC
import Derived.Great.BuildSlice
namespace Go.Proofs.Ytdljlcbjpfgmcaa
open Go.RowKit
set_option maxRecDepth 100000
set_option maxHeartbeats 4000000

/-- The document's cursor over the bytes vB, that stands as s. -/
abbrev docA (vB : Value) (s : St) : Array Value := #[vB, .int .i64 s.pos, .int .i64 s.sh, .int .i64 s.od, .int .i64 s.er]
abbrev docZ : Array Value := #[.slice none 0 0, .int .i64 0, .int .i64 0, .int .i64 0, .int .i64 0]

theorem cell_at {w : World} {g : Nat} {cs : Array Value} {t : TypeId} {fr : Nat × Nat} (h : w.heap[g]? = some (.cells cs t fr)) (i : Nat) : w.cell? ⟨g, i, none⟩ = cs[i]? := by
  simp only [World.cell?, h]
  rfl
theorem below_al {w : World} (o : Obj) : Below w.heap.size w (w.alloc o) := (Below.refl _ _).alloc (Nat.le_refl _) o
theorem below_al2 {w : World} (o o' : Obj) : Below w.heap.size w ((w.alloc o).alloc o') := (below_al o).alloc (by simp) o'
theorem res_row_tmp {P : Program} {fn : Func} {p u : Tmp} {ty : TypeId} (h : fn.results = #[.cell p ty, .tmp u]) (tmps : Array Value) (w : World) (g : Nat) (t : TypeId) (cs : Array Value) (fr : Nat × Nat) (d : TypeDesc)
    (hp : tmps.getD p undef = .pointer (some ⟨g, 0, none⟩)) (hg : w.heap[g]? = some (.cells cs t fr))
    (hu : P.underlying ty = some d) (hd : (match d with | .struct _ | .array _ _ => true | _ => false) = true) (hi : (P.info? ty).map (·.size) = some cs.size) :
    (results fn tmps).run P w = .ok (.tuple #[.agg cs, tmps.getD u undef]) w := by
  have hp' : tmps[p]?.getD undef = .pointer (some ⟨g, 0, none⟩) := by simpa using hp
  simp [results, h, hp', asAddr, run_loadVar_row w g t ty cs fr d hg hu hd hi]

theorem below_setR {B g : Nat} {w0 w : World} (h : Below B w0 w) (hg : B ≤ g) (cs : Array Value) : Below B w0 (w.setRow g cs) :=
  ⟨h.os, h.tape, h.output, by rw [setRow_size]; exact h.size, fun k hk => (setRow_other w g k cs (by omega)).trans (h.block k hk)⟩

theorem below_row5 {B : Nat} {w w1 w2 : World} {p : Nat} (hb : Below B w w1) (hs : B ≤ w1.heap.size) (hg : w1.grownBy w2 (some p)) (hp : B ≤ p) : Below B w w2 :=
  hb.grown hg hs fun k e => by injection e with e; omega
theorem ints_setR {k : IntKind} {w : World} {v : Value} {zs : List Int} {g : Nat} (h : Ints k w v zs) (hg : ∀ b, v.ownBlock = some b → b ≠ g) (cs : Array Value) : Ints k (w.setRow g cs) v zs :=
  h.grown (row := some g) ⟨rfl, rfl, rfl, by rw [setRow_size]; exact Nat.le_refl _, fun k _ hk => setRow_other w g k cs (fun e => hk (by rw [e]))⟩ (fun b e e' => hg b e (by injection e'))

/-- The value's block, if any, is p or a later one. -/
def New (p : Nat) (v : Value) : Prop := ∀ k, v.ownBlock = some k → p ≤ k
theorem New.nil (p : Nat) : New p (.slice none 0 0) := fun k e => by cases e
/-- Numbers that lie in neither of the two blocks from p on. -/
def Got2 (p : Nat) (w : World) (v : Value) (l : List Int) : Prop := Ints .u64 w v l ∧ New (p + 2) v
theorem got2_get (v1 v2 : Value) (ws bs : List Int) (p : Nat) {w : World} (hp : p + 1 < w.heap.size) (h1 : Ints .i64 w v1 ws) (h2 : Ints .u8 w v2 bs) :
    Calls Try.prog 27 #[v1, v2] w fun e w' => ∃ v, e = .returned (.tuple #[v, .int .i64 (getS ws bs).2]) ∧ Got2 p w' v (getS ws bs).1 ∧ Below w.heap.size w w' :=
  (ref_get v1 v2 ws bs w h1 h2).mono fun _ _ ⟨v, he, ho, hb⟩ => ⟨v, he, ⟨Ints.of_own ho (getS_u64 h2.u8).wf, fun k e => by have := (ho.lt k e).1; omega⟩, hb⟩

theorem doc_new (vB : Value) (bs : List Int) (sh od : Int) (w : World) (h : Ints .u8 w vB bs) : Calls Try.prog 43 #[vB, .int .i64 sh, .int .i64 od] w fun e w' => e = .returned (.agg (docA vB (St.fresh bs sh od))) ∧ Below w.heap.size w w' := by
  obtain ⟨a, cap, b, off, rfl, -⟩ := h.open
  clear h
  go_enter Try.func43, Try.ntmps43
  go_wp2_with fail
  refine bodyPost_ret (results_cell_row rfl _ _ w.heap.size _ _ _ _ rfl (heap_alloc_new _ _) Try.underlying62 rfl (by kernel_rfl)) rfl ?_
  exact ⟨rfl, below_al _⟩

theorem doc_fail (vB : Value) (s : St) (x : Int) (w : World) (h : Ints .u8 w vB s.bs) : Calls Try.prog 77 #[.agg (docA vB s), .int .i64 x] w fun e w' => e = .returned (.agg (docA vB (s.fail x))) ∧ Below w.heap.size w w' := by
  obtain ⟨a, cap, b, off, rfl, -⟩ := h.open
  clear h
  obtain ⟨bs, pos, sh, od, er⟩ := s
  by_cases h0 : er = 0
  · subst h0
    rw [show St.fail ⟨bs, pos, sh, od, 0⟩ x = ⟨bs, pos, sh, od, x⟩ from rfl]
    go_enter Try.func77, Try.ntmps77
    go_wp2_with fail
    refine bodyPost_ret (results_cell_row rfl _ _ (w.heap.size + 1) _ _ _ _ rfl (heap_alloc2_new _ _ _) Try.underlying62 rfl (by kernel_rfl)) rfl ?_
    exact ⟨rfl, below_al2 _ _⟩
  · rw [show St.fail ⟨bs, pos, sh, od, er⟩ x = ⟨bs, pos, sh, od, er⟩ from if_neg h0]
    have e0 : (er == 0) = false := by simpa using h0
    clear h0
    go_enter Try.func77, Try.ntmps77
    go_wp2_with fail
    refine bodyPost_ret (results_cell_row rfl _ _ (w.heap.size + 1) _ _ _ _ rfl (heap_alloc2_new _ _ _) Try.underlying62 rfl (by kernel_rfl)) rfl ?_
    exact ⟨rfl, below_al2 _ _⟩

theorem doc_left (vB : Value) (s : St) (w : World) (h : Ints .u8 w vB s.bs) (hs : s.pos ≤ s.bs.length) : Calls Try.prog 46 #[.agg (docA vB s)] w fun e w' => e = .returned (.int .i64 s.left) ∧ Below w.heap.size w w' := by
  have hle := h.le
  obtain ⟨a, cap, b, off, rfl, -⟩ := h.open
  clear h
  obtain ⟨bs, pos, sh, od, er⟩ := s
  dsimp only at hs hle
  have hw : IntKind.wrap .i64 ((bs.length : Int) - pos) = ((bs.length - pos : Nat) : Int) := by rw [wrap_small (by omega) (by omega)]; omega
  rw [show St.left ⟨bs, pos, sh, od, er⟩ = bs.length - pos from rfl]
  go_enter Try.func46, Try.ntmps46
  go_wp2_with fail
  go_ret
  exact ⟨rfl, below_al _⟩

theorem doc_row (vB vw : Value) (s : St) (ws : List Int) (w : World) (h : Ints .u8 w vB s.bs) (hs : s.pos ≤ s.bs.length) (hbd : s.bs.length ≤ 1000000000) (hw : Ints .i64 w vw ws) :
    Calls Try.prog 73 #[.agg (docA vB s), vw] w fun e w' => ∃ vl, e = .returned (.tuple #[.agg (docA vB (s.row ws).1), vl]) ∧ Ints .u64 w' vl (s.row ws).2 ∧ New w.heap.size vl ∧ Below w.heap.size w w' := by
  have HX := Lib.hid h
  have HW := Lib.hid hw
  have hu := h.u8
  obtain ⟨a2, cap2, b2, off2, rfl, -⟩ := hw.open
  obtain ⟨a, cap, b, off, rfl, -⟩ := h.open
  obtain ⟨A, hsl, hcut⟩ := slice_from Try.underlying28 info_u8 h (s.pos : Int) s.pos rfl hs
  have HK := getS_cases (ws := ws) (bs := s.rest) hcut.u8
  have HCut := Lib.hid hcut
  obtain ⟨bs, pos, sh, od, er⟩ := s
  by_cases h0 : er = 0
  case neg =>
    rw [row_busy h0]
    have e0 : (er != 0) = true := by simpa using h0
    clear h0 h hw hu hcut HK hsl
    go_enter Try.func73, Try.ntmps73
    go_wp2_with fail
    refine bodyPost_ret (res_row_tmp rfl _ _ (w.heap.size + 1) _ _ _ _ rfl (heap_alloc2_new _ _ _) Try.underlying62 rfl (by kernel_rfl)) rfl ?_
    exact ⟨_, rfl, Ints.nil _ _, New.nil _, below_al2 _ _⟩
  subst h0
  have HBx : Hid (Below w.heap.size w ((w.alloc (.cells (docA (.slice a bs.length cap) ⟨bs, pos, sh, od, 0⟩) 62)).alloc (.cells docZ 62))) := below_al2 _ _
  have HB0 : Hid (((w.alloc (.cells (docA (.slice a bs.length cap) ⟨bs, pos, sh, od, 0⟩) 62)).alloc (.cells docZ 62)).heap[w.heap.size]? = some (.cells (docA (.slice a bs.length cap) ⟨bs, pos, sh, od, 0⟩) 62 (0, 0))) := ((below_al (w := w.alloc (.cells (docA (.slice a bs.length cap) ⟨bs, pos, sh, od, 0⟩) 62)) (.cells docZ 62)).block w.heap.size (by simp)).trans (heap_alloc_new _ _)
  have HR0 : Hid (((w.alloc (.cells (docA (.slice a bs.length cap) ⟨bs, pos, sh, od, 0⟩) 62)).alloc (.cells docZ 62)).heap[w.heap.size + 1]? = some (.cells docZ 62 (0, 0))) := heap_alloc2_new _ _ _
  have HG : Hid (Calls Try.prog 27 #[.slice a2 ws.length cap2, .slice A (bs.length - pos) (cap - pos)] ((w.alloc (.cells (docA (.slice a bs.length cap) ⟨bs, pos, sh, od, 0⟩) 62)).alloc (.cells docZ 62)) fun e w' => ∃ v, e = .returned (.tuple #[v, .int .i64 (getS ws (bs.drop pos)).2]) ∧ Got2 w.heap.size w' v (getS ws (bs.drop pos)).1 ∧ Below ((w.alloc (.cells (docA (.slice a bs.length cap) ⟨bs, pos, sh, od, 0⟩) 62)).alloc (.cells docZ 62)).heap.size ((w.alloc (.cells (docA (.slice a bs.length cap) ⟨bs, pos, sh, od, 0⟩) 62)).alloc (.cells docZ 62)) w') :=
    got2_get (.slice a2 ws.length cap2) (.slice A (bs.length - pos) (cap - pos)) ws (bs.drop pos) w.heap.size (by simp) (HW.out.below HBx.out) (HCut.out.below HBx.out)
  have HK : Hid (((getS ws (bs.drop pos)).2 = 0 ∧ sizeS ws ≤ (bs.drop pos).length) ∨ ((getS ws (bs.drop pos)).2 = 1 ∧ (getS ws (bs.drop pos)).1 = []) ∨ ((getS ws (bs.drop pos)).2 = 2 ∧ (getS ws (bs.drop pos)).1 = [])) := HK
  clear h hw hu hcut
  rcases HK.out with ⟨hk, hz⟩ | ⟨hk, hnil⟩ | ⟨hk, hnil⟩
  case inr.inl =>
    rw [row_short (s := ⟨bs, pos, sh, od, 0⟩) rfl hk]
    rw [hk] at HG
    clear hk hnil
    go_enter Try.func73, Try.ntmps73
    go_wp2_with fail
    (with_reducible refine HG.out.mono ?_)
    rintro e1 w2 ⟨vl, rfl, hl, hb⟩
    obtain ⟨al, cl, bl, ol, rfl, -⟩ := hl.1.open
    have HB2 := Lib.hid (HBx.out.trans (hb.mono HBx.out.size))
    have HHb := Lib.hid ((hb.block w.heap.size (by simp; omega)).trans HB0.out)
    have HHr := Lib.hid ((hb.block (w.heap.size + 1) (by simp)).trans HR0.out)
    have hs2 : Hid (w.heap.size + 1 < w2.heap.size) := (Array.getElem?_eq_some_iff.1 HHr.out).1
    clear hb hl
    have k0 := cell_at HHb.out 0
    have k1 := cell_at HHb.out 1
    have k2 := cell_at HHb.out 2
    have k3 := cell_at HHb.out 3
    have k4 := cell_at HHb.out 4
    have HF : Hid (Calls Try.prog 77 #[.agg (docA (.slice a bs.length cap) ⟨bs, pos, sh, od, 0⟩), .int .i64 sh] w2 fun e w' => e = .returned (.agg #[.slice a bs.length cap, .int .i64 pos, .int .i64 sh, .int .i64 od, .int .i64 sh]) ∧ Below w2.heap.size w2 w') := doc_fail _ ⟨bs, pos, sh, od, 0⟩ sh w2 (HX.out.below HB2.out)
    go_wp2_with fail
    (with_reducible refine HF.out.mono ?_)
    rintro e1 w3 ⟨rfl, hb⟩
    have HB3 := Lib.hid (HB2.out.trans (hb.mono HB2.out.size))
    have HHr3 := Lib.hid ((hb.block (w.heap.size + 1) hs2.out).trans HHr.out)
    clear hb k0 k1 k2 k3 k4
    go_wp2_with (refine wpList_store_rowTo rfl 62 _ _ rfl rfl (w.heap.size + 1) #[.slice a bs.length cap, .int .i64 pos, .int .i64 sh, .int .i64 od, .int .i64 sh] rfl rfl _ _ HHr3.out (by kernel_rfl) (by kernel_rfl) (by kernel_rfl) ?_; have hheap := setRow_heap w3 (w.heap.size + 1) _ #[.slice a bs.length cap, .int .i64 pos, .int .i64 sh, .int .i64 od, .int .i64 sh] _ _ HHr3.out; have HB9 := Lib.hid (below_setR HB3.out (Nat.le_succ _) #[.slice a bs.length cap, .int .i64 pos, .int .i64 sh, .int .i64 od, .int .i64 sh]))
    refine bodyPost_ret (res_row_tmp rfl _ _ (w.heap.size + 1) _ _ _ _ rfl hheap Try.underlying62 rfl (by kernel_rfl)) rfl ?_
    exact ⟨_, rfl, Ints.nil _ _, New.nil _, HB9.out⟩
  case inr.inr =>
    rw [row_odd (s := ⟨bs, pos, sh, od, 0⟩) rfl hk]
    rw [hk] at HG
    clear hk hnil
    go_enter Try.func73, Try.ntmps73
    go_wp2_with fail
    (with_reducible refine HG.out.mono ?_)
    rintro e1 w2 ⟨vl, rfl, hl, hb⟩
    obtain ⟨al, cl, bl, ol, rfl, -⟩ := hl.1.open
    have HB2 := Lib.hid (HBx.out.trans (hb.mono HBx.out.size))
    have HHb := Lib.hid ((hb.block w.heap.size (by simp; omega)).trans HB0.out)
    have HHr := Lib.hid ((hb.block (w.heap.size + 1) (by simp)).trans HR0.out)
    have hs2 : Hid (w.heap.size + 1 < w2.heap.size) := (Array.getElem?_eq_some_iff.1 HHr.out).1
    clear hb hl
    have k0 := cell_at HHb.out 0
    have k1 := cell_at HHb.out 1
    have k2 := cell_at HHb.out 2
    have k3 := cell_at HHb.out 3
    have k4 := cell_at HHb.out 4
    have HF : Hid (Calls Try.prog 77 #[.agg (docA (.slice a bs.length cap) ⟨bs, pos, sh, od, 0⟩), .int .i64 od] w2 fun e w' => e = .returned (.agg #[.slice a bs.length cap, .int .i64 pos, .int .i64 sh, .int .i64 od, .int .i64 od]) ∧ Below w2.heap.size w2 w') := doc_fail _ ⟨bs, pos, sh, od, 0⟩ od w2 (HX.out.below HB2.out)
    go_wp2_with fail
    (with_reducible refine HF.out.mono ?_)
    rintro e1 w3 ⟨rfl, hb⟩
    have HB3 := Lib.hid (HB2.out.trans (hb.mono HB2.out.size))
    have HHr3 := Lib.hid ((hb.block (w.heap.size + 1) hs2.out).trans HHr.out)
    clear hb k0 k1 k2 k3 k4
    go_wp2_with (refine wpList_store_rowTo rfl 62 _ _ rfl rfl (w.heap.size + 1) #[.slice a bs.length cap, .int .i64 pos, .int .i64 sh, .int .i64 od, .int .i64 od] rfl rfl _ _ HHr3.out (by kernel_rfl) (by kernel_rfl) (by kernel_rfl) ?_; have hheap := setRow_heap w3 (w.heap.size + 1) _ #[.slice a bs.length cap, .int .i64 pos, .int .i64 sh, .int .i64 od, .int .i64 od] _ _ HHr3.out; have HB9 := Lib.hid (below_setR HB3.out (Nat.le_succ _) #[.slice a bs.length cap, .int .i64 pos, .int .i64 sh, .int .i64 od, .int .i64 od]))
    refine bodyPost_ret (res_row_tmp rfl _ _ (w.heap.size + 1) _ _ _ _ rfl hheap Try.underlying62 rfl (by kernel_rfl)) rfl ?_
    exact ⟨_, rfl, Ints.nil _ _, New.nil _, HB9.out⟩
  rw [row_fine (s := ⟨bs, pos, sh, od, 0⟩) rfl hk]
  rw [hk] at HG
  rw [List.length_drop] at hz
  dsimp only at hs hbd
  have hz1 : IntKind.wrap .i64 ((pos : Int) + (sizeS ws : Int)) = ((pos + sizeS ws : Nat) : Int) := by rw [wrap_small (by omega) (by omega)]; omega
  have HL0 : Hid (St.rest ⟨bs, pos, sh, od, 0⟩ = bs.drop pos) := rfl
  dsimp only [St.rest]
  generalize (getS ws (bs.drop pos)).1 = l at HG ⊢
  clear hk
  go_enter Try.func73, Try.ntmps73
  go_wp2_with fail
  (with_reducible refine HG.out.mono ?_)
  rintro e1 w2 ⟨vl, rfl, hl, hb⟩
  have HL := Lib.hid hl.1
  have hfree := Lib.hid hl.2
  obtain ⟨al, cl, bl, ol, rfl, -⟩ := hl.1.open
  have HB2 := Lib.hid (HBx.out.trans (hb.mono HBx.out.size))
  have HHb := Lib.hid ((hb.block w.heap.size (by simp; omega)).trans HB0.out)
  have HHr := Lib.hid ((hb.block (w.heap.size + 1) (by simp)).trans HR0.out)
  clear hb hl
  have k1 : w2.cell? ⟨w.heap.size, 1, none⟩ = some (.int .i64 pos) := cell_at HHb.out 1
  have fz : w2.frozen? ⟨w.heap.size, 1, none⟩ = false := by simp [World.frozen?, HHb.out]
  have HS1 := Lib.hid (ref_size _ ws w2.drew ((HW.out.below HB2.out).below (below_drewN (Below.refl _ _) 1)))
  have hp : Hid (docA (.slice a bs.length cap) ⟨bs, pos + sizeS ws, sh, od, 0⟩ = #[.slice a bs.length cap, .int .i64 ((pos : Int) + (sizeS ws : Int)), .int .i64 sh, .int .i64 od, .int .i64 0]) := by show _ = _; simp [docA]
  have HB5 : Hid (Below w.heap.size w (w2.setCell ⟨w.heap.size, 1, none⟩ (.int .i64 ((pos : Int) + (sizeS ws : Int)))).drew) := below_drewN (below_row5 HB2.out HB2.out.size (grown_put w2 w.heap.size 1 (.int .i64 ((pos : Int) + (sizeS ws : Int)))) (Nat.le_refl _)) 1
  have HH5 : Hid ((w2.setCell ⟨w.heap.size, 1, none⟩ (.int .i64 ((pos : Int) + (sizeS ws : Int)))).drew.heap[w.heap.size]? = some (.cells #[.slice a bs.length cap, .int .i64 ((pos : Int) + (sizeS ws : Int)), .int .i64 sh, .int .i64 od, .int .i64 0] 62 (0, 0))) := (heap_put HHb.out 1 (.int .i64 ((pos : Int) + (sizeS ws : Int)))).trans rfl
  have HR5 : Hid ((w2.setCell ⟨w.heap.size, 1, none⟩ (.int .i64 ((pos : Int) + (sizeS ws : Int)))).drew.heap[w.heap.size + 1]? = some (.cells docZ 62 (0, 0))) := ((grown_put w2 w.heap.size 1 (.int .i64 ((pos : Int) + (sizeS ws : Int)))).block (w.heap.size + 1) (Array.getElem?_eq_some_iff.1 HHr.out).1 (by intro e; injection e; omega)).trans HHr.out
  have HL5 : Hid (Ints .u64 (w2.setCell ⟨w.heap.size, 1, none⟩ (.int .i64 ((pos : Int) + (sizeS ws : Int)))).drew (.slice al l.length cl) l) := (HL.out.below (Below.refl _ _)).grown (grown_draw (grown_put w2 w.heap.size 1 (.int .i64 ((pos : Int) + (sizeS ws : Int)))) 1) (fun k e e' => by have := hfree.out k e; injection e'; omega)
  have k0 := cell_at HH5.out 0
  have k1' := cell_at HH5.out 1
  have k2 := cell_at HH5.out 2
  have k3 := cell_at HH5.out 3
  have k4 := cell_at HH5.out 4
  go_wp2_with (first
    | (go_region_with (go_at_call 20; (with_reducible refine HS1.out.mono ?_); rintro e1 w1 ⟨rfl, rfl⟩))
    | (refine wpList_store_rowTo rfl 62 _ _ rfl rfl (w.heap.size + 1) #[.slice a bs.length cap, .int .i64 ((pos : Int) + (sizeS ws : Int)), .int .i64 sh, .int .i64 od, .int .i64 0] rfl rfl _ _ HR5.out (by kernel_rfl) (by kernel_rfl) (by kernel_rfl) ?_; have hheap := setRow_heap (w2.setCell ⟨w.heap.size, 1, none⟩ (.int .i64 ((pos : Int) + (sizeS ws : Int)))).drew (w.heap.size + 1) _ #[.slice a bs.length cap, .int .i64 ((pos : Int) + (sizeS ws : Int)), .int .i64 sh, .int .i64 od, .int .i64 0] _ _ HR5.out; have HB9 := Lib.hid (below_setR HB5.out (Nat.le_succ _) #[.slice a bs.length cap, .int .i64 ((pos : Int) + (sizeS ws : Int)), .int .i64 sh, .int .i64 od, .int .i64 0])))
  all_goals
    refine bodyPost_ret (res_row_tmp rfl _ _ (w.heap.size + 1) _ _ _ _ rfl hheap Try.underlying62 rfl (by kernel_rfl)) rfl ?_
    rw [hp.out]
    exact ⟨_, rfl, ints_setR HL5.out (fun k e => by have := hfree.out k e; omega) _, fun k e => by have := hfree.out k e; omega, HB9.out⟩
end Go.Proofs.Ytdljlcbjpfgmcaa
