/- The walks of the document's cursor (a struct by value): Num. Conditions: none beyond each lemma's own. -/
import Derived.Test.YtdljlcbjpfgmcaaCrA
import Derived.Test.YtdljlcbjpfgmcaaTail
namespace Go.Proofs.Ytdljlcbjpfgmcaa
open Go.RowKit
set_option maxRecDepth 100000
set_option maxHeartbeats 4000000

theorem cell_grown {w w' : World} {row : Option Nat} {b o : Nat} {v : Value} (h : w.cell? ⟨b, o, none⟩ = some v) (hg : w.grownBy w' row) (hr : some b ≠ row) : w'.cell? ⟨b, o, none⟩ = some v := by
  rw [World.cell?_of_block (hg.block b (World.block_lt_of_cell? _ _ h) hr)]
  exact h
theorem fail_er (bs : List Int) (pos : Nat) (sh od er x : Int) : ∃ y, St.fail ⟨bs, pos, sh, od, er⟩ x = ⟨bs, pos, sh, od, y⟩ := by
  by_cases h : er = 0
  · exact ⟨x, if_pos h⟩
  · exact ⟨er, if_neg h⟩
theorem row_same (s : St) (ws : List Int) : (s.row ws).1.bs = s.bs ∧ (s.row ws).1.sh = s.sh ∧ (s.row ws).1.od = s.od := by
  unfold St.row St.fail
  split
  · exact ⟨rfl, rfl, rfl⟩
  split
  · split <;> exact ⟨rfl, rfl, rfl⟩
  split
  · split <;> exact ⟨rfl, rfl, rfl⟩
  · exact ⟨rfl, rfl, rfl⟩

theorem doc_num (vB : Value) (s : St) (n : Int) (w : World) (h : Ints .u8 w vB s.bs) (hs : s.pos ≤ s.bs.length) (hbd : s.bs.length ≤ 1000000000) (hn : (Lit.int .i64 n).wf = true) :
    Calls Try.prog 72 #[.agg (docA vB s), .int .i64 n] w fun e w' => e = .returned (.tuple #[.agg (docA vB (s.num n).1), .int .u64 (s.num n).2]) ∧ Below w.heap.size w w' := by
  have HX := Lib.hid h
  obtain ⟨a, cap, b, off, rfl, -⟩ := h.open
  obtain ⟨bs, pos, sh, od, er⟩ := s
  have HBx : Hid (Below w.heap.size w ((w.alloc (.cells (docA (.slice a bs.length cap) ⟨bs, pos, sh, od, er⟩) 62)).alloc (.cells docZ 62))) := below_al2 _ _
  have HR0 : Hid (((w.alloc (.cells (docA (.slice a bs.length cap) ⟨bs, pos, sh, od, er⟩) 62)).alloc (.cells docZ 62)).heap[w.heap.size + 1]? = some (.cells docZ 62 (0, 0))) := heap_alloc2_new _ _ _
  have HB0 : Hid (((w.alloc (.cells (docA (.slice a bs.length cap) ⟨bs, pos, sh, od, er⟩) 62)).alloc (.cells docZ 62)).heap[w.heap.size]? = some (.cells (docA (.slice a bs.length cap) ⟨bs, pos, sh, od, er⟩) 62 (0, 0))) := ((below_al (w := w.alloc (.cells (docA (.slice a bs.length cap) ⟨bs, pos, sh, od, er⟩) 62)) (.cells docZ 62)).block w.heap.size (by simp)).trans (heap_alloc_new _ _)
  by_cases hbad : n < 1 ∨ 8 < n
  · rw [num_bad hbad]
    obtain ⟨y, hy⟩ := fail_er bs pos sh od er 10001
    have HF : Hid (Calls Try.prog 77 #[.agg (docA (.slice a bs.length cap) ⟨bs, pos, sh, od, er⟩), .int .i64 10001] ((w.alloc (.cells (docA (.slice a bs.length cap) ⟨bs, pos, sh, od, er⟩) 62)).alloc (.cells docZ 62)) fun e w' => e = .returned (.agg #[.slice a bs.length cap, .int .i64 pos, .int .i64 sh, .int .i64 od, .int .i64 y]) ∧ Below ((w.alloc (.cells (docA (.slice a bs.length cap) ⟨bs, pos, sh, od, er⟩) 62)).alloc (.cells docZ 62)).heap.size ((w.alloc (.cells (docA (.slice a bs.length cap) ⟨bs, pos, sh, od, er⟩) 62)).alloc (.cells docZ 62)) w') := by
      have := doc_fail (.slice a bs.length cap) ⟨bs, pos, sh, od, er⟩ 10001 ((w.alloc (.cells (docA (.slice a bs.length cap) ⟨bs, pos, sh, od, er⟩) 62)).alloc (.cells docZ 62)) (HX.out.below HBx.out)
      rw [hy] at this
      exact this
    rw [hy]
    clear h hy
    by_cases h1 : n < 1
    · have d1 : decide (n < 1) = true := decide_eq_true h1
      go_enter Try.func72, Try.ntmps72
      go_wp2_with fail
      (with_reducible refine HF.out.mono ?_)
      rintro e1 w1 ⟨rfl, hb⟩
      have HB1 := Lib.hid (HBx.out.trans (hb.mono HBx.out.size))
      have HR1 := Lib.hid ((hb.block (w.heap.size + 1) (by simp)).trans HR0.out)
      clear hb
      go_wp2_with (refine wpList_store_rowTo rfl 62 _ _ rfl rfl (w.heap.size + 1) #[.slice a bs.length cap, .int .i64 pos, .int .i64 sh, .int .i64 od, .int .i64 y] rfl rfl _ _ HR1.out (by kernel_rfl) (by kernel_rfl) (by kernel_rfl) ?_; have hheap := setRow_heap w1 (w.heap.size + 1) _ #[.slice a bs.length cap, .int .i64 pos, .int .i64 sh, .int .i64 od, .int .i64 y] _ _ HR1.out; have HB9 := Lib.hid (below_setR HB1.out (Nat.le_succ _) #[.slice a bs.length cap, .int .i64 pos, .int .i64 sh, .int .i64 od, .int .i64 y]))
      refine bodyPost_ret (res_row_tmp rfl _ _ (w.heap.size + 1) _ _ _ _ rfl hheap Try.underlying62 rfl (by kernel_rfl)) rfl ?_
      exact ⟨rfl, HB9.out⟩
    · have h8 : 8 < n := by omega
      go_enter Try.func72, Try.ntmps72
      go_wp2_with fail
      (with_reducible refine HF.out.mono ?_)
      rintro e1 w1 ⟨rfl, hb⟩
      have HB1 := Lib.hid (HBx.out.trans (hb.mono HBx.out.size))
      have HR1 := Lib.hid ((hb.block (w.heap.size + 1) (by simp)).trans HR0.out)
      clear hb
      go_wp2_with (refine wpList_store_rowTo rfl 62 _ _ rfl rfl (w.heap.size + 1) #[.slice a bs.length cap, .int .i64 pos, .int .i64 sh, .int .i64 od, .int .i64 y] rfl rfl _ _ HR1.out (by kernel_rfl) (by kernel_rfl) (by kernel_rfl) ?_; have hheap := setRow_heap w1 (w.heap.size + 1) _ #[.slice a bs.length cap, .int .i64 pos, .int .i64 sh, .int .i64 od, .int .i64 y] _ _ HR1.out; have HB9 := Lib.hid (below_setR HB1.out (Nat.le_succ _) #[.slice a bs.length cap, .int .i64 pos, .int .i64 sh, .int .i64 od, .int .i64 y]))
      refine bodyPost_ret (res_row_tmp rfl _ _ (w.heap.size + 1) _ _ _ _ rfl hheap Try.underlying62 rfl (by kernel_rfl)) rfl ?_
      exact ⟨rfl, HB9.out⟩
  · have h1 : ¬ n < 1 := by omega
    have h8 : ¬ 8 < n := by omega
    rw [num_good (by omega) (by omega)]
    have HN : Hid (Ints .i64 (((w.alloc (.cells (docA (.slice a bs.length cap) ⟨bs, pos, sh, od, er⟩) 62)).alloc (.cells docZ 62)).alloc (.cells #[.int .i64 n] 3)) (.slice (some ⟨w.heap.size + 2, 0, none⟩) 1 1) [n]) := Ints.lit .i64 ((w.alloc (.cells (docA (.slice a bs.length cap) ⟨bs, pos, sh, od, er⟩) 62)).alloc (.cells docZ 62)) 3 [n] _ (by simp) (by simp) (by intro z hz; simp at hz; rw [hz]; exact hn)
    have HB3 : Hid (Below w.heap.size w (((w.alloc (.cells (docA (.slice a bs.length cap) ⟨bs, pos, sh, od, er⟩) 62)).alloc (.cells docZ 62)).alloc (.cells #[.int .i64 n] 3))) := HBx.out.alloc HBx.out.size _
    have HB03 := Lib.hid (((below_al (w := ((w.alloc (.cells (docA (.slice a bs.length cap) ⟨bs, pos, sh, od, er⟩) 62)).alloc (.cells docZ 62))) (.cells #[.int .i64 n] 3)).block w.heap.size (by simp; omega)).trans HB0.out)
    have HR03 := Lib.hid (((below_al (w := ((w.alloc (.cells (docA (.slice a bs.length cap) ⟨bs, pos, sh, od, er⟩) 62)).alloc (.cells docZ 62))) (.cells #[.int .i64 n] 3)).block (w.heap.size + 1) (by simp)).trans HR0.out)
    have HRow := Lib.hid (doc_row (.slice a bs.length cap) _ ⟨bs, pos, sh, od, er⟩ [n] _ (HX.out.below HB3.out) hs hbd HN.out)
    have hsame := row_same ⟨bs, pos, sh, od, er⟩ [n]
    generalize (St.row ⟨bs, pos, sh, od, er⟩ [n]).2 = l at HRow ⊢
    generalize (St.row ⟨bs, pos, sh, od, er⟩ [n]).1 = s' at HRow hsame ⊢
    obtain ⟨bs', pos', sh', od', er'⟩ := s'
    obtain ⟨rfl, rfl, rfl⟩ := hsame
    clear h hbad
    cases l with
    | nil =>
      go_enter Try.func72, Try.ntmps72
      go_wp2_with (first
        | (go_at_call 73; (with_reducible refine HRow.out.mono ?_); rintro e1 w1 ⟨vl, rfl, hl, hnew, hb⟩; have HL1 := Lib.hid hl; have HNw := Lib.hid hnew; have HB1 := Lib.hid (HB3.out.trans (hb.mono HB3.out.size)); have HHb1 := Lib.hid ((hb.block w.heap.size (by simp; omega)).trans HB03.out); have HR1 := Lib.hid ((hb.block (w.heap.size + 1) (by simp)).trans HR03.out); obtain ⟨al, cl, bl, ol, rfl, -, -, -, hal, hcl⟩ := hl.open; clear hb hl hnew)
        | (refine wpList_store_rowTo rfl 62 _ _ rfl rfl w.heap.size #[.slice a bs'.length cap, .int .i64 pos', .int .i64 sh', .int .i64 od', .int .i64 er'] rfl rfl _ _ HHb1.out (by kernel_rfl) (by kernel_rfl) (by kernel_rfl) ?_
           have HB2 := Lib.hid (below_setR HB1.out (Nat.le_refl _) #[.slice a bs'.length cap, .int .i64 pos', .int .i64 sh', .int .i64 od', .int .i64 er'])
           have HHb2 := Lib.hid (setRow_heap w1 w.heap.size _ #[.slice a bs'.length cap, .int .i64 pos', .int .i64 sh', .int .i64 od', .int .i64 er'] _ _ HHb1.out)
           have HR2 := Lib.hid ((setRow_other w1 w.heap.size (w.heap.size + 1) #[.slice a bs'.length cap, .int .i64 pos', .int .i64 sh', .int .i64 od', .int .i64 er'] (by omega)).trans HR1.out)
           have HL2 := Lib.hid (ints_setR (g := w.heap.size) HL1.out (fun k e => by have := HNw.out k e; simp at this; omega) #[.slice a bs'.length cap, .int .i64 pos', .int .i64 sh', .int .i64 od', .int .i64 er'])
           clear HHb1 HR1 HL1
           generalize w1.setRow w.heap.size #[.slice a bs'.length cap, .int .i64 pos', .int .i64 sh', .int .i64 od', .int .i64 er'] = w2 at HB2 HHb2 HR2 HL2 ⊢
           have k0 : w2.cell? ⟨w.heap.size, 0, none⟩ = some (.slice a bs'.length cap) := cell_at HHb2.out 0
           have k1 : w2.cell? ⟨w.heap.size, 1, none⟩ = some (.int .i64 pos') := cell_at HHb2.out 1
           have k2 : w2.cell? ⟨w.heap.size, 2, none⟩ = some (.int .i64 sh') := cell_at HHb2.out 2
           have k3 : w2.cell? ⟨w.heap.size, 3, none⟩ = some (.int .i64 od') := cell_at HHb2.out 3
           have k4 : w2.cell? ⟨w.heap.size, 4, none⟩ = some (.int .i64 er') := cell_at HHb2.out 4)
        | (refine wpList_store_rowTo rfl 62 _ _ rfl rfl (w.heap.size + 1) #[.slice a bs'.length cap, .int .i64 pos', .int .i64 sh', .int .i64 od', .int .i64 er'] rfl rfl _ _ HR2.out (by kernel_rfl) (by kernel_rfl) (by kernel_rfl) ?_; have hheap := setRow_heap w2 (w.heap.size + 1) _ #[.slice a bs'.length cap, .int .i64 pos', .int .i64 sh', .int .i64 od', .int .i64 er'] _ _ HR2.out; have HB9 := Lib.hid (below_setR HB2.out (Nat.le_succ _) #[.slice a bs'.length cap, .int .i64 pos', .int .i64 sh', .int .i64 od', .int .i64 er'])))
      refine bodyPost_ret (res_row_tmp rfl _ _ (w.heap.size + 1) _ _ _ _ rfl hheap Try.underlying62 rfl (by kernel_rfl)) rfl ?_
      exact ⟨rfl, HB9.out⟩
    | cons x l =>
      go_enter Try.func72, Try.ntmps72
      go_wp2_with (first
        | (go_at_call 73; (with_reducible refine HRow.out.mono ?_); rintro e1 w1 ⟨vl, rfl, hl, hnew, hb⟩; have HL1 := Lib.hid hl; have HNw := Lib.hid hnew; have HB1 := Lib.hid (HB3.out.trans (hb.mono HB3.out.size)); have HHb1 := Lib.hid ((hb.block w.heap.size (by simp; omega)).trans HB03.out); have HR1 := Lib.hid ((hb.block (w.heap.size + 1) (by simp)).trans HR03.out); obtain ⟨al, cl, bl, ol, rfl, -, -, -, hal, hcl⟩ := hl.open; obtain rfl := hal (by simp); have d0 : w1.cell? ⟨bl, ol, none⟩ = some (.int .u64 x) := hcl 0 (by simp); clear hb hl hnew)
        | (refine wpList_store_rowTo rfl 62 _ _ rfl rfl w.heap.size #[.slice a bs'.length cap, .int .i64 pos', .int .i64 sh', .int .i64 od', .int .i64 er'] rfl rfl _ _ HHb1.out (by kernel_rfl) (by kernel_rfl) (by kernel_rfl) ?_
           have HB2 := Lib.hid (below_setR HB1.out (Nat.le_refl _) #[.slice a bs'.length cap, .int .i64 pos', .int .i64 sh', .int .i64 od', .int .i64 er'])
           have HHb2 := Lib.hid (setRow_heap w1 w.heap.size _ #[.slice a bs'.length cap, .int .i64 pos', .int .i64 sh', .int .i64 od', .int .i64 er'] _ _ HHb1.out)
           have HR2 := Lib.hid ((setRow_other w1 w.heap.size (w.heap.size + 1) #[.slice a bs'.length cap, .int .i64 pos', .int .i64 sh', .int .i64 od', .int .i64 er'] (by omega)).trans HR1.out)
           have HL2 := Lib.hid (ints_setR (g := w.heap.size) HL1.out (fun k e => by have := HNw.out k e; simp at this; omega) #[.slice a bs'.length cap, .int .i64 pos', .int .i64 sh', .int .i64 od', .int .i64 er'])
           clear HHb1 HR1 HL1
           generalize w1.setRow w.heap.size #[.slice a bs'.length cap, .int .i64 pos', .int .i64 sh', .int .i64 od', .int .i64 er'] = w2 at HB2 HHb2 HR2 HL2 ⊢
           have k0 : w2.cell? ⟨w.heap.size, 0, none⟩ = some (.slice a bs'.length cap) := cell_at HHb2.out 0
           have k1 : w2.cell? ⟨w.heap.size, 1, none⟩ = some (.int .i64 pos') := cell_at HHb2.out 1
           have k2 : w2.cell? ⟨w.heap.size, 2, none⟩ = some (.int .i64 sh') := cell_at HHb2.out 2
           have k3 : w2.cell? ⟨w.heap.size, 3, none⟩ = some (.int .i64 od') := cell_at HHb2.out 3
           have k4 : w2.cell? ⟨w.heap.size, 4, none⟩ = some (.int .i64 er') := cell_at HHb2.out 4))
      have d0 : w2.cell? ⟨bl, ol, none⟩ = some (.int .u64 x) := by
        obtain ⟨a1, c1, b1, o1, e, -, -, -, h5, h6⟩ := HL2.out.open
        injection e with e1 e2 e3
        have := h5 (by simp)
        rw [← e1] at this
        injection this with this
        injection this with t1 t2 t3
        subst t1 t2
        exact h6 0 (by simp)
      have hl0 : (0 : Int) < (l.length : Int) + 1 := by omega
      have y0 : Hid (w2.heap[w.heap.size + 1]? = some (.cells docZ 62 (0, 0))) := HR2.out
      have z0 : w2.cell? ⟨w.heap.size + 1, 0, none⟩ = some (.slice none 0 0) := cell_at HR2.out 0
      have f0 : w2.frozen? ⟨w.heap.size + 1, 0, none⟩ = false := by simp only [World.frozen?, HR2.out]; rfl
      have g0 : Hid (w2.grownBy (w2.setCell ⟨w.heap.size + 1, 0, none⟩ (.slice a bs'.length cap)) (some (w.heap.size + 1))) := grown_put _ _ _ _
      have y1 : Hid ((w2.setCell ⟨w.heap.size + 1, 0, none⟩ (.slice a bs'.length cap)).heap[w.heap.size + 1]? = some (.cells #[.slice a bs'.length cap, .int .i64 0, .int .i64 0, .int .i64 0, .int .i64 0] 62 (0, 0))) := (heap_put y0.out 0 (.slice a bs'.length cap)).trans rfl
      have z1 : w2.cell? ⟨w.heap.size + 1, 1, none⟩ = some (.int .i64 0) := cell_at HR2.out 1
      have f1 : w2.frozen? ⟨w.heap.size + 1, 1, none⟩ = false := by simp only [World.frozen?, HR2.out]; rfl
      have g1 : Hid ((w2.setCell ⟨w.heap.size + 1, 0, none⟩ (.slice a bs'.length cap)).grownBy ((w2.setCell ⟨w.heap.size + 1, 0, none⟩ (.slice a bs'.length cap)).setCell ⟨w.heap.size + 1, 1, none⟩ (.int .i64 pos')) (some (w.heap.size + 1))) := grown_put _ _ _ _
      have y2 : Hid (((w2.setCell ⟨w.heap.size + 1, 0, none⟩ (.slice a bs'.length cap)).setCell ⟨w.heap.size + 1, 1, none⟩ (.int .i64 pos')).heap[w.heap.size + 1]? = some (.cells #[.slice a bs'.length cap, .int .i64 pos', .int .i64 0, .int .i64 0, .int .i64 0] 62 (0, 0))) := (heap_put y1.out 1 (.int .i64 pos')).trans rfl
      have z2 : w2.cell? ⟨w.heap.size + 1, 2, none⟩ = some (.int .i64 0) := cell_at HR2.out 2
      have f2 : w2.frozen? ⟨w.heap.size + 1, 2, none⟩ = false := by simp only [World.frozen?, HR2.out]; rfl
      have g2 : Hid (((w2.setCell ⟨w.heap.size + 1, 0, none⟩ (.slice a bs'.length cap)).setCell ⟨w.heap.size + 1, 1, none⟩ (.int .i64 pos')).grownBy (((w2.setCell ⟨w.heap.size + 1, 0, none⟩ (.slice a bs'.length cap)).setCell ⟨w.heap.size + 1, 1, none⟩ (.int .i64 pos')).setCell ⟨w.heap.size + 1, 2, none⟩ (.int .i64 sh')) (some (w.heap.size + 1))) := grown_put _ _ _ _
      have y3 : Hid ((((w2.setCell ⟨w.heap.size + 1, 0, none⟩ (.slice a bs'.length cap)).setCell ⟨w.heap.size + 1, 1, none⟩ (.int .i64 pos')).setCell ⟨w.heap.size + 1, 2, none⟩ (.int .i64 sh')).heap[w.heap.size + 1]? = some (.cells #[.slice a bs'.length cap, .int .i64 pos', .int .i64 sh', .int .i64 0, .int .i64 0] 62 (0, 0))) := (heap_put y2.out 2 (.int .i64 sh')).trans rfl
      have z3 : w2.cell? ⟨w.heap.size + 1, 3, none⟩ = some (.int .i64 0) := cell_at HR2.out 3
      have f3 : w2.frozen? ⟨w.heap.size + 1, 3, none⟩ = false := by simp only [World.frozen?, HR2.out]; rfl
      have g3 : Hid ((((w2.setCell ⟨w.heap.size + 1, 0, none⟩ (.slice a bs'.length cap)).setCell ⟨w.heap.size + 1, 1, none⟩ (.int .i64 pos')).setCell ⟨w.heap.size + 1, 2, none⟩ (.int .i64 sh')).grownBy ((((w2.setCell ⟨w.heap.size + 1, 0, none⟩ (.slice a bs'.length cap)).setCell ⟨w.heap.size + 1, 1, none⟩ (.int .i64 pos')).setCell ⟨w.heap.size + 1, 2, none⟩ (.int .i64 sh')).setCell ⟨w.heap.size + 1, 3, none⟩ (.int .i64 od')) (some (w.heap.size + 1))) := grown_put _ _ _ _
      have y4 : Hid (((((w2.setCell ⟨w.heap.size + 1, 0, none⟩ (.slice a bs'.length cap)).setCell ⟨w.heap.size + 1, 1, none⟩ (.int .i64 pos')).setCell ⟨w.heap.size + 1, 2, none⟩ (.int .i64 sh')).setCell ⟨w.heap.size + 1, 3, none⟩ (.int .i64 od')).heap[w.heap.size + 1]? = some (.cells #[.slice a bs'.length cap, .int .i64 pos', .int .i64 sh', .int .i64 od', .int .i64 0] 62 (0, 0))) := (heap_put y3.out 3 (.int .i64 od')).trans rfl
      have z4 : w2.cell? ⟨w.heap.size + 1, 4, none⟩ = some (.int .i64 0) := cell_at HR2.out 4
      have f4 : w2.frozen? ⟨w.heap.size + 1, 4, none⟩ = false := by simp only [World.frozen?, HR2.out]; rfl
      have g4 : Hid (((((w2.setCell ⟨w.heap.size + 1, 0, none⟩ (.slice a bs'.length cap)).setCell ⟨w.heap.size + 1, 1, none⟩ (.int .i64 pos')).setCell ⟨w.heap.size + 1, 2, none⟩ (.int .i64 sh')).setCell ⟨w.heap.size + 1, 3, none⟩ (.int .i64 od')).grownBy (((((w2.setCell ⟨w.heap.size + 1, 0, none⟩ (.slice a bs'.length cap)).setCell ⟨w.heap.size + 1, 1, none⟩ (.int .i64 pos')).setCell ⟨w.heap.size + 1, 2, none⟩ (.int .i64 sh')).setCell ⟨w.heap.size + 1, 3, none⟩ (.int .i64 od')).setCell ⟨w.heap.size + 1, 4, none⟩ (.int .i64 er')) (some (w.heap.size + 1))) := grown_put _ _ _ _
      have y5 : Hid ((((((w2.setCell ⟨w.heap.size + 1, 0, none⟩ (.slice a bs'.length cap)).setCell ⟨w.heap.size + 1, 1, none⟩ (.int .i64 pos')).setCell ⟨w.heap.size + 1, 2, none⟩ (.int .i64 sh')).setCell ⟨w.heap.size + 1, 3, none⟩ (.int .i64 od')).setCell ⟨w.heap.size + 1, 4, none⟩ (.int .i64 er')).heap[w.heap.size + 1]? = some (.cells #[.slice a bs'.length cap, .int .i64 pos', .int .i64 sh', .int .i64 od', .int .i64 er'] 62 (0, 0))) := (heap_put y4.out 4 (.int .i64 er')).trans rfl
      have HG : Hid (w2.grownBy (((((w2.setCell ⟨w.heap.size + 1, 0, none⟩ (.slice a bs'.length cap)).setCell ⟨w.heap.size + 1, 1, none⟩ (.int .i64 pos')).setCell ⟨w.heap.size + 1, 2, none⟩ (.int .i64 sh')).setCell ⟨w.heap.size + 1, 3, none⟩ (.int .i64 od')).setCell ⟨w.heap.size + 1, 4, none⟩ (.int .i64 er')) (some (w.heap.size + 1))) := grown_trans g0.out (grown_trans g1.out (grown_trans g2.out (grown_trans g3.out g4.out)))
      have hnb : bl ≠ w.heap.size + 1 := by
        have := HNw.out bl (show (Value.slice (some ⟨bl, ol, none⟩) _ cl).ownBlock = some bl from rfl)
        simp at this
        omega
      have hnb' : ¬ (w.heap.size + 1 = bl) := fun e => hnb e.symm
      have HB5 : Hid (Below w.heap.size w (((((w2.setCell ⟨w.heap.size + 1, 0, none⟩ (.slice a bs'.length cap)).setCell ⟨w.heap.size + 1, 1, none⟩ (.int .i64 pos')).setCell ⟨w.heap.size + 1, 2, none⟩ (.int .i64 sh')).setCell ⟨w.heap.size + 1, 3, none⟩ (.int .i64 od')).setCell ⟨w.heap.size + 1, 4, none⟩ (.int .i64 er')).drew) := below_drewN (below_row5 HB2.out HB2.out.size HG.out (Nat.le_succ _)) 1
      have HH5 : Hid ((((((w2.setCell ⟨w.heap.size + 1, 0, none⟩ (.slice a bs'.length cap)).setCell ⟨w.heap.size + 1, 1, none⟩ (.int .i64 pos')).setCell ⟨w.heap.size + 1, 2, none⟩ (.int .i64 sh')).setCell ⟨w.heap.size + 1, 3, none⟩ (.int .i64 od')).setCell ⟨w.heap.size + 1, 4, none⟩ (.int .i64 er')).drew.heap[w.heap.size + 1]? = some (.cells #[.slice a bs'.length cap, .int .i64 pos', .int .i64 sh', .int .i64 od', .int .i64 er'] 62 (0, 0))) := y5.out
      go_region
      all_goals go_wp2
      all_goals
        refine bodyPost_ret (res_row_tmp rfl _ _ (w.heap.size + 1) _ _ _ _ rfl HH5.out Try.underlying62 rfl (by kernel_rfl)) rfl ?_
        exact ⟨rfl, HB5.out⟩
end Go.Proofs.Ytdljlcbjpfgmcaa
