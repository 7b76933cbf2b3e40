/- The walks of the document's cursor (a struct by value): Bytes, Rest. Conditions: none beyond each lemma's own. -/
import Derived.Test.YtdljlcbjpfgmcaaCrB
namespace Go.Proofs.Ytdljlcbjpfgmcaa
open Go.RowKit
set_option maxRecDepth 100000
set_option maxHeartbeats 4000000

theorem own_made1 (w : World) (base e size : Nat) (hb : base ≤ w.heap.size) {q : Nat} (hq : w.heap.size = q) : (w.alloc (.cells #[] e)).ownsRow base e size (.slice (some ⟨q, 0, none⟩) 0 0) 0 [] := by
  subst hq
  exact own_made0 w base e size hb

theorem doc_bytes_a (vB : Value) (s : St) (n : Int) (w : World) (h : Ints .u8 w vB s.bs) (hs : s.pos ≤ s.bs.length) (hbd : s.bs.length ≤ 1000000000) (h0 : n < 0) :
    Calls Try.prog 74 #[.agg (docA vB s), .int .i64 n] w fun e w' => ∃ v, e = .returned (.tuple #[.agg (docA vB (s.bytes n).1), v]) ∧ Ints .u8 w' v (s.bytes n).2 ∧ New w.heap.size v ∧ Below w.heap.size w w' := by
  have HX := Lib.hid h
  obtain ⟨a, cap, b, off, rfl, -⟩ := h.open
  obtain ⟨bs, pos, sh, od, er⟩ := s
  have HBx : Hid (Below w.heap.size w ((w.alloc (.cells (docA (.slice a bs.length cap) ⟨bs, pos, sh, od, er⟩) 62)).alloc (.cells docZ 62))) := below_al2 _ _
  have HR0 : Hid (((w.alloc (.cells (docA (.slice a bs.length cap) ⟨bs, pos, sh, od, er⟩) 62)).alloc (.cells docZ 62)).heap[w.heap.size + 1]? = some (.cells docZ 62 (0, 0))) := heap_alloc2_new _ _ _
  have HB0 : Hid (((w.alloc (.cells (docA (.slice a bs.length cap) ⟨bs, pos, sh, od, er⟩) 62)).alloc (.cells docZ 62)).heap[w.heap.size]? = some (.cells (docA (.slice a bs.length cap) ⟨bs, pos, sh, od, er⟩) 62 (0, 0))) := ((below_al (w := w.alloc (.cells (docA (.slice a bs.length cap) ⟨bs, pos, sh, od, er⟩) 62)) (.cells docZ 62)).block w.heap.size (by simp)).trans (heap_alloc_new _ _)
  dsimp only at hs hbd
  obtain ⟨y, hy⟩ := fail_er bs pos sh od er 10001
  have HF : Hid (Calls Try.prog 77 #[.agg (docA (.slice a bs.length cap) ⟨bs, pos, sh, od, er⟩), .int .i64 10001] ((w.alloc (.cells (docA (.slice a bs.length cap) ⟨bs, pos, sh, od, er⟩) 62)).alloc (.cells docZ 62)) fun e w' => e = .returned (.agg #[.slice a bs.length cap, .int .i64 pos, .int .i64 sh, .int .i64 od, .int .i64 y]) ∧ Below ((w.alloc (.cells (docA (.slice a bs.length cap) ⟨bs, pos, sh, od, er⟩) 62)).alloc (.cells docZ 62)).heap.size ((w.alloc (.cells (docA (.slice a bs.length cap) ⟨bs, pos, sh, od, er⟩) 62)).alloc (.cells docZ 62)) w') := by
    have := doc_fail (.slice a bs.length cap) ⟨bs, pos, sh, od, er⟩ 10001 ((w.alloc (.cells (docA (.slice a bs.length cap) ⟨bs, pos, sh, od, er⟩) 62)).alloc (.cells docZ 62)) (HX.out.below HBx.out)
    rw [hy] at this
    exact this
  rw [bytes_neg h0, hy]
  have d0 : decide (n < 0) = true := decide_eq_true h0
  clear h hy
  go_enter Try.func74, Try.ntmps74
  go_wp2_with fail
  (with_reducible refine HF.out.mono ?_)
  rintro e1 w1 ⟨rfl, hb⟩
  have HB1 := Lib.hid (HBx.out.trans (hb.mono HBx.out.size))
  have HR1 := Lib.hid ((hb.block (w.heap.size + 1) (by simp)).trans HR0.out)
  clear hb
  go_wp2_with (refine wpList_store_rowTo rfl 62 _ _ rfl rfl (w.heap.size + 1) #[.slice a bs.length cap, .int .i64 pos, .int .i64 sh, .int .i64 od, .int .i64 y] rfl rfl _ _ HR1.out (by kernel_rfl) (by kernel_rfl) (by kernel_rfl) ?_; have hheap := setRow_heap w1 (w.heap.size + 1) _ #[.slice a bs.length cap, .int .i64 pos, .int .i64 sh, .int .i64 od, .int .i64 y] _ _ HR1.out; have HB9 := Lib.hid (below_setR HB1.out (Nat.le_succ _) #[.slice a bs.length cap, .int .i64 pos, .int .i64 sh, .int .i64 od, .int .i64 y]))
  refine bodyPost_ret (res_row_tmp rfl _ _ (w.heap.size + 1) _ _ _ _ rfl hheap Try.underlying62 rfl (by kernel_rfl)) rfl ?_
  exact ⟨_, rfl, Ints.nil _ _, New.nil _, HB9.out⟩

theorem doc_bytes_b (vB : Value) (s : St) (n : Int) (w : World) (h : Ints .u8 w vB s.bs) (hs : s.pos ≤ s.bs.length) (hbd : s.bs.length ≤ 1000000000) (h0 : ¬ n < 0) (h1 : s.er ≠ 0) :
    Calls Try.prog 74 #[.agg (docA vB s), .int .i64 n] w fun e w' => ∃ v, e = .returned (.tuple #[.agg (docA vB (s.bytes n).1), v]) ∧ Ints .u8 w' v (s.bytes n).2 ∧ New w.heap.size v ∧ Below w.heap.size w w' := by
  have HX := Lib.hid h
  obtain ⟨a, cap, b, off, rfl, -⟩ := h.open
  obtain ⟨bs, pos, sh, od, er⟩ := s
  have HBx : Hid (Below w.heap.size w ((w.alloc (.cells (docA (.slice a bs.length cap) ⟨bs, pos, sh, od, er⟩) 62)).alloc (.cells docZ 62))) := below_al2 _ _
  have HR0 : Hid (((w.alloc (.cells (docA (.slice a bs.length cap) ⟨bs, pos, sh, od, er⟩) 62)).alloc (.cells docZ 62)).heap[w.heap.size + 1]? = some (.cells docZ 62 (0, 0))) := heap_alloc2_new _ _ _
  have HB0 : Hid (((w.alloc (.cells (docA (.slice a bs.length cap) ⟨bs, pos, sh, od, er⟩) 62)).alloc (.cells docZ 62)).heap[w.heap.size]? = some (.cells (docA (.slice a bs.length cap) ⟨bs, pos, sh, od, er⟩) 62 (0, 0))) := ((below_al (w := w.alloc (.cells (docA (.slice a bs.length cap) ⟨bs, pos, sh, od, er⟩) 62)) (.cells docZ 62)).block w.heap.size (by simp)).trans (heap_alloc_new _ _)
  dsimp only at hs hbd
  rw [bytes_busy (by omega) h1]
  have e0 : (er != 0) = true := by simpa using h1
  clear h h1
  go_enter Try.func74, Try.ntmps74
  go_wp2_with fail
  refine bodyPost_ret (res_row_tmp rfl _ _ (w.heap.size + 1) _ _ _ _ rfl (heap_alloc2_new _ _ _) Try.underlying62 rfl (by kernel_rfl)) rfl ?_
  exact ⟨_, rfl, Ints.nil _ _, New.nil _, below_al2 _ _⟩

theorem doc_bytes_c (vB : Value) (s : St) (n : Int) (w : World) (h : Ints .u8 w vB s.bs) (hs : s.pos ≤ s.bs.length) (hbd : s.bs.length ≤ 1000000000) (h0 : ¬ n < 0) (h1 : s.er = 0) (h2 : (s.left : Int) < n) :
    Calls Try.prog 74 #[.agg (docA vB s), .int .i64 n] w fun e w' => ∃ v, e = .returned (.tuple #[.agg (docA vB (s.bytes n).1), v]) ∧ Ints .u8 w' v (s.bytes n).2 ∧ New w.heap.size v ∧ Below w.heap.size w w' := by
  have HX := Lib.hid h
  obtain ⟨a, cap, b, off, rfl, -⟩ := h.open
  obtain ⟨bs, pos, sh, od, er⟩ := s
  have HBx : Hid (Below w.heap.size w ((w.alloc (.cells (docA (.slice a bs.length cap) ⟨bs, pos, sh, od, er⟩) 62)).alloc (.cells docZ 62))) := below_al2 _ _
  have HR0 : Hid (((w.alloc (.cells (docA (.slice a bs.length cap) ⟨bs, pos, sh, od, er⟩) 62)).alloc (.cells docZ 62)).heap[w.heap.size + 1]? = some (.cells docZ 62 (0, 0))) := heap_alloc2_new _ _ _
  have HB0 : Hid (((w.alloc (.cells (docA (.slice a bs.length cap) ⟨bs, pos, sh, od, er⟩) 62)).alloc (.cells docZ 62)).heap[w.heap.size]? = some (.cells (docA (.slice a bs.length cap) ⟨bs, pos, sh, od, er⟩) 62 (0, 0))) := ((below_al (w := w.alloc (.cells (docA (.slice a bs.length cap) ⟨bs, pos, sh, od, er⟩) 62)) (.cells docZ 62)).block w.heap.size (by simp)).trans (heap_alloc_new _ _)
  dsimp only at hs hbd
  obtain ⟨y, hy⟩ := fail_er bs pos sh od er sh
  have HF : Hid (Calls Try.prog 77 #[.agg (docA (.slice a bs.length cap) ⟨bs, pos, sh, od, er⟩), .int .i64 sh] ((w.alloc (.cells (docA (.slice a bs.length cap) ⟨bs, pos, sh, od, er⟩) 62)).alloc (.cells docZ 62)) fun e w' => e = .returned (.agg #[.slice a bs.length cap, .int .i64 pos, .int .i64 sh, .int .i64 od, .int .i64 y]) ∧ Below ((w.alloc (.cells (docA (.slice a bs.length cap) ⟨bs, pos, sh, od, er⟩) 62)).alloc (.cells docZ 62)).heap.size ((w.alloc (.cells (docA (.slice a bs.length cap) ⟨bs, pos, sh, od, er⟩) 62)).alloc (.cells docZ 62)) w') := by
    have := doc_fail (.slice a bs.length cap) ⟨bs, pos, sh, od, er⟩ sh ((w.alloc (.cells (docA (.slice a bs.length cap) ⟨bs, pos, sh, od, er⟩) 62)).alloc (.cells docZ 62)) (HX.out.below HBx.out)
    rw [hy] at this
    exact this
  rw [bytes_short (by omega) h1 h2]
  dsimp only at h1
  subst h1
  rw [show St.fail ⟨bs, pos, sh, od, 0⟩ (St.mk bs pos sh od 0).sh = _ from hy]
  have hlt : (bs.length : Int) - (pos : Int) < n := by have : ((bs.length - pos : Nat) : Int) < n := h2; omega
  have hw : IntKind.wrap .i64 ((bs.length : Int) - pos) = (bs.length : Int) - pos := wrap_small (by omega) (by omega)
  clear h hy h2
  go_enter Try.func74, Try.ntmps74
  go_wp2_with fail
  (with_reducible refine HF.out.mono ?_)
  rintro e1 w1 ⟨rfl, hb⟩
  have HB1 := Lib.hid (HBx.out.trans (hb.mono HBx.out.size))
  have HR1 := Lib.hid ((hb.block (w.heap.size + 1) (by simp)).trans HR0.out)
  clear hb
  go_wp2_with (refine wpList_store_rowTo rfl 62 _ _ rfl rfl (w.heap.size + 1) #[.slice a bs.length cap, .int .i64 pos, .int .i64 sh, .int .i64 od, .int .i64 y] rfl rfl _ _ HR1.out (by kernel_rfl) (by kernel_rfl) (by kernel_rfl) ?_; have hheap := setRow_heap w1 (w.heap.size + 1) _ #[.slice a bs.length cap, .int .i64 pos, .int .i64 sh, .int .i64 od, .int .i64 y] _ _ HR1.out; have HB9 := Lib.hid (below_setR HB1.out (Nat.le_succ _) #[.slice a bs.length cap, .int .i64 pos, .int .i64 sh, .int .i64 od, .int .i64 y]))
  refine bodyPost_ret (res_row_tmp rfl _ _ (w.heap.size + 1) _ _ _ _ rfl hheap Try.underlying62 rfl (by kernel_rfl)) rfl ?_
  exact ⟨_, rfl, Ints.nil _ _, New.nil _, HB9.out⟩

theorem doc_bytes_d (vB : Value) (s : St) (m : Nat) (w : World) (h : Ints .u8 w vB s.bs) (hs : s.pos ≤ s.bs.length) (hbd : s.bs.length ≤ 1000000000) (h1 : s.er = 0) (h2 : m ≤ s.left) :
    Calls Try.prog 74 #[.agg (docA vB s), .int .i64 (m : Int)] w fun e w' => ∃ v, e = .returned (.tuple #[.agg (docA vB (s.bytes m).1), v]) ∧ Ints .u8 w' v (s.bytes m).2 ∧ New w.heap.size v ∧ Below w.heap.size w w' := by
  have HX := Lib.hid h
  obtain ⟨a, cap, b, off, rfl, -⟩ := h.open
  obtain ⟨bs, pos, sh, od, er⟩ := s
  have HBx : Hid (Below w.heap.size w ((w.alloc (.cells (docA (.slice a bs.length cap) ⟨bs, pos, sh, od, er⟩) 62)).alloc (.cells docZ 62))) := below_al2 _ _
  have HR0 : Hid (((w.alloc (.cells (docA (.slice a bs.length cap) ⟨bs, pos, sh, od, er⟩) 62)).alloc (.cells docZ 62)).heap[w.heap.size + 1]? = some (.cells docZ 62 (0, 0))) := heap_alloc2_new _ _ _
  have HB0 : Hid (((w.alloc (.cells (docA (.slice a bs.length cap) ⟨bs, pos, sh, od, er⟩) 62)).alloc (.cells docZ 62)).heap[w.heap.size]? = some (.cells (docA (.slice a bs.length cap) ⟨bs, pos, sh, od, er⟩) 62 (0, 0))) := ((below_al (w := w.alloc (.cells (docA (.slice a bs.length cap) ⟨bs, pos, sh, od, er⟩) 62)) (.cells docZ 62)).block w.heap.size (by simp)).trans (heap_alloc_new _ _)
  dsimp only at hs hbd
  rw [bytes_fine h1 h2]
  dsimp only at h1
  subst h1
  have h2 : m ≤ bs.length - pos := h2
  dsimp only [St.rest]
  obtain ⟨A, hsl, hcut⟩ := slice_lohi Try.underlying28 info_u8 h (pos : Int) ((pos : Int) + (m : Int)) pos (pos + m) rfl (by omega) (by omega) (show pos + m ≤ bs.length by omega)
  have hcs : (bs.take (pos + m)).drop pos = (bs.drop pos).take m := by rw [List.drop_take]; congr 1; omega
  rw [hcs] at hcut
  rw [show pos + m - pos = m by omega] at hsl hcut
  have HCut := Lib.hid hcut
  have hml : Hid (((bs.drop pos).take m).length = m) := by show _ = _; rw [List.length_take, List.length_drop]; omega
  have HU := Lib.hid hcut.u8
  have hlt : ¬ (bs.length : Int) - (pos : Int) < m := by omega
  have hw : IntKind.wrap .i64 ((bs.length : Int) - pos) = (bs.length : Int) - pos := wrap_small (by omega) (by omega)
  have hw2 : IntKind.wrap .i64 ((pos : Int) + m) = (pos : Int) + m := wrap_small (by omega) (by omega)
  have hp : Hid (docA (.slice a bs.length cap) ⟨bs, pos + m, sh, od, 0⟩ = #[.slice a bs.length cap, .int .i64 ((pos : Int) + (m : Int)), .int .i64 sh, .int .i64 od, .int .i64 0]) := by show _ = _; simp [docA]
  clear h hcut hcs
  go_enter Try.func74, Try.ntmps74
  go_wp2_with (first
    | (at_builtin
       refine wpList_append_sl rfl (.tmp 27) (.tmp 36) _ rfl ((w.alloc (.cells (docA (.slice a bs.length cap) ⟨bs, pos, sh, od, 0⟩) 62)).alloc (.cells docZ 62)).heap.size 5 (.int .u8 0) 1 1 Try.underlying28 info_u8 rfl (by decide) _ 0 [] rfl (own_made1 ((w.alloc (.cells (docA (.slice a bs.length cap) ⟨bs, pos, sh, od, 0⟩) 62)).alloc (.cells docZ 62)) _ _ _ (Nat.le_refl _) (q := w.heap.size + 1 + 1) (by simp)) (.slice A m (cap - pos)) m (((bs.drop pos).take m).map (Value.int .u8)) rfl (by rw [List.length_map, hml.out]; try omega) (by have := ((HCut.out.below HBx.out).alloc (.cells #[] 5)).1; rwa [hml.out] at this) (ints_one _ _) (by unfold maxLen; omega) (by omega) (by simp) ?_
       intro v3 w3 hown3 hgrow3 _
       rw [List.nil_append, Nat.zero_add] at hown3
       have HO3 := Lib.hid hown3
       have hb3 : Below ((w.alloc (.cells (docA (.slice a bs.length cap) ⟨bs, pos, sh, od, 0⟩) 62)).alloc (.cells docZ 62)).heap.size ((w.alloc (.cells (docA (.slice a bs.length cap) ⟨bs, pos, sh, od, 0⟩) 62)).alloc (.cells docZ 62)) w3 := own_grown (below_al _) (by simp) (own_made1 ((w.alloc (.cells (docA (.slice a bs.length cap) ⟨bs, pos, sh, od, 0⟩) 62)).alloc (.cells docZ 62)) ((w.alloc (.cells (docA (.slice a bs.length cap) ⟨bs, pos, sh, od, 0⟩) 62)).alloc (.cells docZ 62)).heap.size 5 1 (Nat.le_refl _) (q := w.heap.size + 1 + 1) (by simp)) hgrow3 rfl
       have HB3 := Lib.hid (HBx.out.trans (hb3.mono HBx.out.size))
       have HHb3 := Lib.hid ((hb3.block w.heap.size (by simp; omega)).trans HB0.out)
       have HR3 := Lib.hid ((hb3.block (w.heap.size + 1) (by simp)).trans HR0.out)
       obtain ⟨a3, cap3, rfl⟩ := own_slice hown3
       clear hown3 hgrow3 hb3
       have c1 : w3.cell? ⟨w.heap.size, 1, none⟩ = some (.int .i64 pos) := cell_at HHb3.out 1
       have fz : w3.frozen? ⟨w.heap.size, 1, none⟩ = false := (by simp [World.frozen?, HHb3.out])
       have HB5 : Hid (Below w.heap.size w (w3.setCell ⟨w.heap.size, 1, none⟩ (.int .i64 ((pos : Int) + (m : Int))))) := below_row5 HB3.out HB3.out.size (grown_put w3 w.heap.size 1 (.int .i64 ((pos : Int) + (m : Int)))) (Nat.le_refl _)
       have HH5 : Hid ((w3.setCell ⟨w.heap.size, 1, none⟩ (.int .i64 ((pos : Int) + (m : Int)))).heap[w.heap.size]? = some (.cells #[.slice a bs.length cap, .int .i64 ((pos : Int) + (m : Int)), .int .i64 sh, .int .i64 od, .int .i64 0] 62 (0, 0))) := (heap_put HHb3.out 1 (.int .i64 ((pos : Int) + (m : Int)))).trans rfl
       have HR5 : Hid ((w3.setCell ⟨w.heap.size, 1, none⟩ (.int .i64 ((pos : Int) + (m : Int)))).heap[w.heap.size + 1]? = some (.cells docZ 62 (0, 0))) := ((grown_put w3 w.heap.size 1 (.int .i64 ((pos : Int) + (m : Int)))).block (w.heap.size + 1) (Array.getElem?_eq_some_iff.1 HR3.out).1 (by intro e; injection e; omega)).trans HR3.out
       have hN : Hid (New (w.heap.size + 2) (.slice a3 m cap3)) := fun k e => (by have := (HO3.out.lt k e).1; simp at this; omega)
       have HV5 : Hid (Ints .u8 (w3.setCell ⟨w.heap.size, 1, none⟩ (.int .i64 ((pos : Int) + (m : Int)))) (.slice a3 m cap3) ((bs.drop pos).take m)) := (Ints.of_own HO3.out HU.out.wf).grown (grown_put w3 w.heap.size 1 (.int .i64 ((pos : Int) + (m : Int)))) (fun k e e' => by have := hN.out k e; injection e'; omega)
       have k0 : (w3.setCell ⟨w.heap.size, 1, none⟩ (.int .i64 ((pos : Int) + (m : Int)))).cell? ⟨w.heap.size, 0, none⟩ = some (.slice a bs.length cap) := cell_at HH5.out 0
       have k1 : (w3.setCell ⟨w.heap.size, 1, none⟩ (.int .i64 ((pos : Int) + (m : Int)))).cell? ⟨w.heap.size, 1, none⟩ = some (.int .i64 ((pos : Int) + (m : Int))) := cell_at HH5.out 1
       have k2 : (w3.setCell ⟨w.heap.size, 1, none⟩ (.int .i64 ((pos : Int) + (m : Int)))).cell? ⟨w.heap.size, 2, none⟩ = some (.int .i64 sh) := cell_at HH5.out 2
       have k3 : (w3.setCell ⟨w.heap.size, 1, none⟩ (.int .i64 ((pos : Int) + (m : Int)))).cell? ⟨w.heap.size, 3, none⟩ = some (.int .i64 od) := cell_at HH5.out 3
       have k4 : (w3.setCell ⟨w.heap.size, 1, none⟩ (.int .i64 ((pos : Int) + (m : Int)))).cell? ⟨w.heap.size, 4, none⟩ = some (.int .i64 0) := cell_at HH5.out 4)
    | (refine wpList_store_rowTo rfl 62 _ _ rfl rfl (w.heap.size + 1) #[.slice a bs.length cap, .int .i64 ((pos : Int) + (m : Int)), .int .i64 sh, .int .i64 od, .int .i64 0] rfl rfl _ _ HR5.out (by kernel_rfl) (by kernel_rfl) (by kernel_rfl) ?_; have hheap := setRow_heap (w3.setCell ⟨w.heap.size, 1, none⟩ (.int .i64 ((pos : Int) + (m : Int)))) (w.heap.size + 1) _ #[.slice a bs.length cap, .int .i64 ((pos : Int) + (m : Int)), .int .i64 sh, .int .i64 od, .int .i64 0] _ _ HR5.out; have HB9 := Lib.hid (below_setR HB5.out (Nat.le_succ _) #[.slice a bs.length cap, .int .i64 ((pos : Int) + (m : Int)), .int .i64 sh, .int .i64 od, .int .i64 0])))
  refine bodyPost_ret (res_row_tmp rfl _ _ (w.heap.size + 1) _ _ _ _ rfl hheap Try.underlying62 rfl (by kernel_rfl)) rfl ?_
  rw [hp.out]
  exact ⟨_, rfl, ints_setR HV5.out (fun k e => by have := hN.out k e; omega) _, fun k e => by have := hN.out k e; omega, HB9.out⟩

theorem doc_bytes (vB : Value) (s : St) (n : Int) (w : World) (h : Ints .u8 w vB s.bs) (hs : s.pos ≤ s.bs.length) (hbd : s.bs.length ≤ 1000000000) :
    Calls Try.prog 74 #[.agg (docA vB s), .int .i64 n] w fun e w' => ∃ v, e = .returned (.tuple #[.agg (docA vB (s.bytes n).1), v]) ∧ Ints .u8 w' v (s.bytes n).2 ∧ New w.heap.size v ∧ Below w.heap.size w w' := by
  by_cases h0 : n < 0
  · exact doc_bytes_a vB s n w h hs hbd h0
  by_cases h1 : s.er = 0
  case neg => exact doc_bytes_b vB s n w h hs hbd h0 h1
  by_cases h2 : (s.left : Int) < n
  · exact doc_bytes_c vB s n w h hs hbd h0 h1 h2
  · obtain ⟨m, rfl⟩ := Int.eq_ofNat_of_zero_le (Int.not_lt.1 h0)
    exact doc_bytes_d vB s m w h hs hbd h1 (by omega)
end Go.Proofs.Ytdljlcbjpfgmcaa
